/- Functions of the program: plain Lean functions, and that the program computes them. Printed by gen.py. -/
import Derived.Test.YtdhcpekngpndnaaFnT
import Derived.Test.YtdhcpekngpndnaaFn1
import Derived.Test.YtdhcpekngpndnaaFn2
import Derived.Test.YtdhcpekngpndnaaFn3
import Derived.Test.YtdhcpekngpndnaaFn4
import Derived.Test.YtdhcpekngpndnaaFn5
namespace Go.Proofs.Ytdhcpekngpndnaa
open Go.Abs Go.Proofs
set_option linter.unusedSimpArgs false
set_option linter.unusedVariables false
set_option maxHeartbeats 16000000
attribute [local irreducible] Abs.acode Abs.aops Abs.aopsT Abs.thenK Abs.blockK

def impl_prime_symbol_c : ACode := (.seq (.region 0 [q 6 (.asg 0 (.const (.int .i64 0)) 2)] false) (.seq (.region 1 [q 7 (.asg 0 (.const (.int .i64 1)) 2)] false) (.seq (.seq (.region 2 [q 12 (.mov (t 0)), q 13 (.mov (t 2)), q 14 (.call 0 (.func 156) [(t 12), (t 13)]), q 15 (.blt 0 .len [(t 14)] [153]), q 16 (.mov (.const (.int .i64 0)))] false) (.block 0 (.loop (.seq (.region 3 [q 17 (.bin .lss 3 (t 16) (t 15))] false) (.seq (.cond (t 17) .skip (.exit 0)) (.seq (.block 1 (.seq (.region 4 [q 18 (.indexAddr 153 (t 14) (t 16)), q 19 (.load 156 (t 18)), q 9 (.alloc 156), ⟨none, .store 156 (t 9) (t 19), none, []⟩] false) (.seq (.region 5 [q 20 (.mov (t 0)), q 21 (.fieldAddr 156 (t 9) 0), q 22 (.load 66 (t 21)), q 23 (.call 0 (.func 69) [(t 22)]), q 24 (.call 0 (.func 73) [(t 20), (t 23), (.const (.int .i64 1152921504606846976))]), q 10 (.asg 0 (t 24) 2)] false) (.seq (.region 6 [q 25 (.mov (t 0)), q 26 (.mov (t 1)), q 27 (.mov (t 10)), ⟨some 28, .bin .sub 2 (t 27) (.const (.int .i64 1)), none, [2]⟩, q 29 (.mov (t 0)), ⟨some 30, .bin .sub 2 (t 29) (.const (.int .i64 1)), none, [4]⟩, ⟨some 31, .bin .quo 2 (t 28) (t 30), none, [3, 5]⟩, q 32 (.fieldAddr 156 (t 9) 0), ⟨some 33, .load 66 (t 32), none, [7]⟩, ⟨some 34, .call 0 (.func 115) [(t 25), (t 26), (t 31), (t 33)], none, [0, 1, 6, 8]⟩, ⟨some 35, .call 0 (.func 149) [(t 34), (.const (.int .i64 0))], none, [9, 9]⟩, ⟨some 11, .asg 0 (t 35) 2, none, [10, 10, 0, 1, 2, 3, 4, 5, 6, 7, 8, 9, 10]⟩] true) (.seq (.region 7 [q 36 (.fieldAddr 156 (t 9) 1), q 37 (.load 2 (t 36)), q 38 (.mov (.const (.int .i64 0)))] false) (.block 2 (.loop (.seq (.region 8 [q 39 (.bin .lss 2 (t 38) (t 37))] false) (.seq (.cond (t 39) .skip (.exit 2)) (.seq (.block 3 (.region 9 [q 40 (.mov (t 7)), q 41 (.mov (t 11)), q 42 (.bin .mul 2 (t 40) (t 41)), q 43 (.mov (t 0)), q 44 (.bin .rem 2 (t 42) (t 43)), q 7 (.asg 0 (t 44) 2)] false)) (.region 10 [q 45 (.bin .add 2 (t 38) (.const (.int .i64 1))), q 38 (.mov (t 45))] false))))))))))) (.region 11 [q 46 (.bin .add 3 (t 16) (.const (.int .i64 1))), q 16 (.mov (t 46))] false))))))) (.seq (.region 12 [q 47 (.mov (t 7)), q 6 (.asg 0 (t 47) 2)] false) .ret))))
def impl_prime_symbol_L : Live := [(0, [0, 1, 2]), (1, [0, 1, 2]), (2, [0, 1, 2, 7]), (3, [0, 1, 7, 14, 15, 16]), (4, [0, 1, 7, 14, 15, 16]), (5, [0, 1, 7, 9, 14, 15, 16]), (6, [0, 1, 7, 9, 10, 14, 15, 16]), (7, [0, 1, 7, 9, 11, 14, 15, 16]), (8, [0, 1, 7, 11, 14, 15, 16, 37, 38]), (9, [0, 1, 7, 11, 14, 15, 16, 37, 38]), (10, [0, 1, 7, 11, 14, 15, 16, 37, 38]), (11, [0, 1, 7, 14, 15, 16]), (12, [7]), (100017, [0, 1, 7, 14, 15, 16, 17]), (100039, [0, 1, 7, 11, 14, 15, 16, 37, 38, 39])]
noncomputable def impl_prime_symbol_l2 (r250 : (List ((List Int) × Int))) (x332 : Int) (a0 : Int) (r479 : Int) (x484 : Int) (x485 : Int) : Option ((Int × Int) ⊕ Int) :=
  (if (decide (x485 < ((rd r250 x332.toNat).2))) then (ifp (a0 ≠ 0) ((some (.inl ((Int.tmod (IntKind.i64.wrap (x484 * r479)) a0, IntKind.i64.wrap (x485 + 1))))))) else (some (.inr x484)))
noncomputable def impl_prime_symbol_l1 (r250 : (List ((List Int) × Int))) (a0 : Int) (a1 : (List Int)) (x331 : Int) (x332 : Int) : Option ((Int × Int) ⊕ Int) :=
  (if (decide (x332 < (r250.length : Int))) then (Option.bind (α := Int) ((ifp (0 ≤ x332 ∧ x332 < ((r250.length : Nat) : Int)) ((Option.bind (impl_row_degree ((rd r250 x332.toNat).1)) fun r461 => (Option.bind (impl_prime_norm a0 r461 1152921504606846976) fun r463 => (ifp ((IntKind.i64.wrap (a0 - 1)) ≠ 0) ((letp (IntKind.i64.wrap (Int.tdiv (IntKind.i64.wrap (r463 - 1)) (IntKind.i64.wrap (a0 - 1)))) fun x474 => (Option.bind (impl_prime_power a0 a1 x474 ((rd r250 x332.toNat).1)) fun r477 => (Option.bind (impl_row_at r477 0) fun r479 => (loopM (fun s : (Int × Int) => impl_prime_symbol_l2 r250 x332 a0 r479 s.1 s.2) (x331, 0)))))))))))) fun x453 => (some (.inl ((x453, IntKind.i64.wrap (x332 + 1)))))) else (some (.inr x331)))
noncomputable def impl_prime_symbol (a0 : Int) (a1 : (List Int)) (a2 : (List Int)) : Option Int :=
  (Option.bind (α := Int) ((Option.bind (impl_prime_factors a0 a2) fun r250 => (loopM (fun s : (Int × Int) => impl_prime_symbol_l1 r250 a0 a1 s.1 s.2) (1, 0)))) fun x246 => (some x246))
theorem impl_prime_symbol_ok (a0 : Int) (a1 : (List Int)) (a2 : (List Int)) (r : Int) (h : impl_prime_symbol a0 a1 a2 = some r) : Den Try.prog 87 [(i6 a0), (eSi64 a1), (eSi64 a2)] { r := (i6 r) } := by
  refine den_of (rs := [(i6 r)]) (ac := impl_prime_symbol_c) (L := impl_prime_symbol_L) (n := 48) (m := []) (c := Try.f87.body.getD .skip) good Try.func87 (by kernel_rfl) (by kernel_rfl) Try.ntmps87 rfl rfl (by kernel_rfl) rfl rfl ?_
  refine a_st (σ' := ⟨[(0, (i6 a0)), (1, (eSi64 a1)), (2, (eSi64 a2))], []⟩) (by kernel_rfl) ?_
  unfold impl_prime_symbol_c
  refine sr (vp (i6 0) rfl (nx ⟨[(0, (i6 a0)), (1, (eSi64 a1)), (2, (eSi64 a2))], []⟩ (by kernel_rfl) (sr (vp (i6 1) rfl (nx ⟨[(0, (i6 a0)), (1, (eSi64 a1)), (2, (eSi64 a2)), (7, (i6 1))], []⟩ (by kernel_rfl) ?_)))))
  obtain ⟨y247, hy248, hk249⟩ := bind_some h
  clear h
  refine a_join (emb := fun (s : Int) => ⟨[(7, (i6 s))], []⟩) (pre := fun s => s = y247) ?_ ?_
  · rintro x246 rfl
    have h := hk249
    refine a_st (σ' := ⟨[(7, (i6 x246))], []⟩) (by kernel_rfl) (sr (vp (i6 x246) rfl (vp (i6 x246) rfl (nx _ rfl (a_ret ?_)))))
    refine ⟨.inr rfl, ?_⟩
    rw [Try.results87]
    cases h
    exact ⟨_, _, _, _, _, rfl, trivial, .inl ⟨rfl, .inl rfl⟩, rfl, rfl⟩
  · have h := hy248
    refine sr (vp (i6 a0) rfl (vp (eSi64 a2) rfl ?_))
    obtain ⟨r250, hr251, h⟩ := bind_some h
    refine a_call (args := [(i6 a0), (eSi64 a2)]) (u := []) (r := (eST_Si64_i64_Z r250)) rfl rfl (impl_prime_factors_ok a0 a2 r250 hr251) rfl (vq (i6 (r250.length : Int)) (len_run rfl rfl) trivial (vp (i6 0) rfl (nx ⟨[(0, (i6 a0)), (1, (eSi64 a1)), (7, (i6 1)), (14, (eST_Si64_i64_Z r250)), (15, (i6 (r250.length : Int))), (16, (i6 0))], []⟩ (by kernel_rfl) (a_block ?_))))
    refine a_loop (emb := fun (s : (Int × Int)) => ⟨[(0, (i6 a0)), (1, (eSi64 a1)), (7, (i6 s.1)), (14, (eST_Si64_i64_Z r250)), (15, (i6 (r250.length : Int))), (16, (i6 s.2))], []⟩) (body := (fun s : (Int × Int) => impl_prime_symbol_l1 r250 a0 a1 s.1 s.2)) (G := fun q => some q = some y247) h rfl ?_ (by kernel_rfl)
    rintro X412 ⟨x331, x332⟩ x413 h hX414
    have h : impl_prime_symbol_l1 r250 a0 a1 x331 x332 = some x413 := h
    refine a_st (σ' := ⟨[(0, (i6 a0)), (1, (eSi64 a1)), (7, (i6 x331)), (14, (eST_Si64_i64_Z r250)), (15, (i6 (r250.length : Int))), (16, (i6 x332))], []⟩) (by kernel_rfl) (sr (vp (.bool ((decide (x332 < (r250.length : Int))))) rfl (nx ⟨[(0, (i6 a0)), (1, (eSi64 a1)), (7, (i6 x331)), (14, (eST_Si64_i64_Z r250)), (15, (i6 (r250.length : Int))), (16, (i6 x332)), (17, (.bool ((decide (x332 < (r250.length : Int))))))], []⟩ (by kernel_rfl) (a_seq ?_))))
    cases hb415 : (decide (x332 < (r250.length : Int)))
    · have h := ite_f hb415 h
      refine a_cond_f rfl (a_exit (t_exit ?_))
      cases h
      have h := hX414
      refine t_exit (b_exit ?_)
      exact j_leaf x331 (Option.some.inj h) (by kernel_rfl)
    · have h := ite_t hb415 h
      refine a_cond_t rfl (a_skip (a_next (σ' := ⟨[(0, (i6 a0)), (1, (eSi64 a1)), (7, (i6 x331)), (14, (eST_Si64_i64_Z r250)), (15, (i6 (r250.length : Int))), (16, (i6 x332))], []⟩) (by kernel_rfl) ?_))
      obtain ⟨y454, hy455, hk456⟩ := bind_some h
      clear h
      refine a_join (emb := fun (s : Int) => ⟨[(0, (i6 a0)), (1, (eSi64 a1)), (7, (i6 s)), (14, (eST_Si64_i64_Z r250)), (15, (i6 (r250.length : Int))), (16, (i6 x332))], []⟩) (pre := fun s => s = y454) ?_ ?_
      · rintro x453 rfl
        have h := hk456
        refine a_st (σ' := ⟨[(0, (i6 a0)), (1, (eSi64 a1)), (7, (i6 x453)), (14, (eST_Si64_i64_Z r250)), (15, (i6 (r250.length : Int))), (16, (i6 x332))], []⟩) (by kernel_rfl) (a_region (vp (i6 (IntKind.i64.wrap (x332 + 1))) rfl (vp (i6 (IntKind.i64.wrap (x332 + 1))) rfl (a_nil ?_))))
        cases h
        exact a_again (by kernel_rfl) hX414
      · have h := hy455
        refine a_block (sr ?_)
        obtain ⟨hc457, h⟩ := ifp_some h
        refine vq (.ref (.row 2 (r250.map eT_Si64_i64_Z)) [x332.toNat] [x332.toNat * 2]) rfl (lmap hc457) ?_
        have hl458 : LdOk [x332.toNat] (.row 2 (r250.map eT_Si64_i64_Z)) [x332.toNat * 2] 2 true (eT_Si64_i64_Z (rd r250 x332.toNat)) := (.row (llt hc457) rfl (.nil rfl rfl rfl))
        refine vq (eT_Si64_i64_Z (rd r250 x332.toNat)) (ld_ref (i := ⟨.struct [(0, 66), (1, 2)], 2, 32, (eT_Si64_i64_Z ([], (0 : Int)))⟩) rfl rfl hl458) hl458.c (vo 1900 (eT_Si64_i64_Z (([], (0 : Int)))) rfl rfl (vs (eT_Si64_i64_Z (rd r250 x332.toNat)) rfl rfl (fun _ => rfl) rfl rfl rfl rfl rfl rfl (nx ⟨[(0, (i6 a0)), (1, (eSi64 a1)), (7, (i6 x331)), (9, (ow 9)), (14, (eST_Si64_i64_Z r250)), (15, (i6 (r250.length : Int))), (16, (i6 x332))], [(9, (bk (eT_Si64_i64_Z (rd r250 x332.toNat))))]⟩ (by kernel_rfl) (sr (vp (i6 a0) rfl (vb (.own 9 [0] [0]) rfl rfl ?_))))))
        have hl460 : LdOk [0] (eT_Si64_i64_Z (rd r250 x332.toNat)) [0] 1 false (eSi64 ((rd r250 x332.toNat).1)) := (.fld rfl rfl rfl rfl (.nil rfl rfl rfl))
        refine vq (eSi64 ((rd r250 x332.toNat).1)) (ld_own (i := ⟨.slice 2, 1, 24, (eSi64 [])⟩) rfl rfl rfl hl460) hl460.c ?_
        obtain ⟨r461, hr462, h⟩ := bind_some h
        refine a_call (args := [(eSi64 ((rd r250 x332.toNat).1))]) (u := []) (r := (i6 r461)) rfl rfl (impl_row_degree_ok ((rd r250 x332.toNat).1) r461 hr462) rfl ?_
        obtain ⟨r463, hr464, h⟩ := bind_some h
        refine a_call (args := [(i6 a0), (i6 r461), (i6 1152921504606846976)]) (u := []) (r := (i6 r463)) rfl rfl (impl_prime_norm_ok a0 r461 1152921504606846976 r463 hr464) rfl (vp (i6 r463) rfl (nx ⟨[(0, (i6 a0)), (1, (eSi64 a1)), (7, (i6 x331)), (9, (ow 9)), (10, (i6 r463)), (14, (eST_Si64_i64_Z r250)), (15, (i6 (r250.length : Int))), (16, (i6 x332))], [(9, (bk (eT_Si64_i64_Z (rd r250 x332.toNat))))]⟩ (by kernel_rfl) (a_seq (a_draw [⟨[], [], [], []⟩, ⟨[], [], [], []⟩, ⟨[], [], [], []⟩, ⟨[], [], [], [2]⟩, ⟨[], [], [], []⟩, ⟨[], [], [], [4]⟩, ⟨[], [], [], [2, 3, 4, 5]⟩, ⟨[9], [], [9], []⟩, ⟨[9], [], [], [7]⟩, ⟨[], [], [], [0, 1, 2, 3, 4, 5, 6, 7, 8]⟩, ⟨[], [], [], [0, 1, 2, 3, 4, 5, 6, 7, 8, 9]⟩, ⟨[], [], [], [0, 1, 2, 3, 4, 5, 6, 7, 8, 9, 10]⟩] (by kernel_rfl) (dp (i6 a0) rfl (by kernel_rfl) (dp (eSi64 a1) rfl (by kernel_rfl) (dp (i6 r463) rfl (by kernel_rfl) (dp (i6 (IntKind.i64.wrap (r463 - 1))) rfl (by kernel_rfl) (dp (i6 a0) rfl (by kernel_rfl) ?_)))))))))
        refine dp (i6 (IntKind.i64.wrap (a0 - 1))) rfl (by kernel_rfl) (d_cons ?_)
        obtain ⟨hc473, h⟩ := ifp_some h
        obtain ⟨x474, hx475, h⟩ := letp_some h
        refine a_val' (v := (i6 (IntKind.i64.wrap (Int.tdiv (IntKind.i64.wrap (r463 - 1)) (IntKind.i64.wrap (a0 - 1)))))) (v' := (i6 x474)) (u := []) (u' := []) rfl (congrArg (fun z => ((i6 z) : AV)) hx475) rfl hc473 rfl (d_next (by kernel_rfl) (d_cons (vb (.own 9 [0] [0]) rfl rfl (d_next (by kernel_rfl) (d_cons ?_)))))
        have hl476 : LdOk [0] (eT_Si64_i64_Z (rd r250 x332.toNat)) [0] 1 false (eSi64 ((rd r250 x332.toNat).1)) := (.fld rfl rfl rfl rfl (.nil rfl rfl rfl))
        refine vq (eSi64 ((rd r250 x332.toNat).1)) (ld_own (i := ⟨.slice 2, 1, 24, (eSi64 [])⟩) rfl rfl rfl hl476) hl476.c (d_next (by kernel_rfl) (d_cons ?_))
        obtain ⟨r477, hr478, h⟩ := bind_some h
        refine a_call (args := [(i6 a0), (eSi64 a1), (i6 x474), (eSi64 ((rd r250 x332.toNat).1))]) (u := []) (r := (eSi64 r477)) rfl rfl (impl_prime_power_ok a0 a1 x474 ((rd r250 x332.toNat).1) r477 hr478) rfl (d_next (by kernel_rfl) (d_cons ?_))
        obtain ⟨r479, hr480, h⟩ := bind_some h
        refine a_call (args := [(eSi64 r477), (i6 0)]) (u := []) (r := (i6 r479)) rfl rfl (impl_row_at_ok r477 0 r479 hr480) rfl (d_next (by kernel_rfl) (dp (i6 r479) rfl (by kernel_rfl) (d_nil (a_next (σ' := ⟨[(0, (i6 a0)), (1, (eSi64 a1)), (7, (i6 x331)), (9, (ow 9)), (11, (i6 r479)), (14, (eST_Si64_i64_Z r250)), (15, (i6 (r250.length : Int))), (16, (i6 x332))], [(9, (bk (eT_Si64_i64_Z (rd r250 x332.toNat))))]⟩) (by kernel_rfl) (sr (vb (.own 9 [1] [1]) rfl rfl ?_))))))
        have hl481 : LdOk [1] (eT_Si64_i64_Z (rd r250 x332.toNat)) [1] 1 false (i6 ((rd r250 x332.toNat).2)) := (.fld rfl rfl rfl rfl (.nil rfl rfl rfl))
        refine vq (i6 ((rd r250 x332.toNat).2)) (ld_own (i := ⟨.int .i64, 1, 8, (.int .i64 0)⟩) rfl rfl rfl hl481) hl481.c (vp (i6 0) rfl (nx ⟨[(0, (i6 a0)), (1, (eSi64 a1)), (7, (i6 x331)), (11, (i6 r479)), (14, (eST_Si64_i64_Z r250)), (15, (i6 (r250.length : Int))), (16, (i6 x332)), (37, (i6 ((rd r250 x332.toNat).2))), (38, (i6 0))], []⟩ (by kernel_rfl) (a_block ?_)))
        refine a_loop (emb := fun (s : (Int × Int)) => ⟨[(0, (i6 a0)), (1, (eSi64 a1)), (7, (i6 s.1)), (11, (i6 r479)), (14, (eST_Si64_i64_Z r250)), (15, (i6 (r250.length : Int))), (16, (i6 x332)), (37, (i6 ((rd r250 x332.toNat).2))), (38, (i6 s.2))], []⟩) (body := (fun s : (Int × Int) => impl_prime_symbol_l2 r250 x332 a0 r479 s.1 s.2)) (G := fun q => some q = some y454) h rfl ?_ (by kernel_rfl)
        rintro X488 ⟨x484, x485⟩ x489 h hX490
        have h : impl_prime_symbol_l2 r250 x332 a0 r479 x484 x485 = some x489 := h
        refine a_st (σ' := ⟨[(0, (i6 a0)), (1, (eSi64 a1)), (7, (i6 x484)), (11, (i6 r479)), (14, (eST_Si64_i64_Z r250)), (15, (i6 (r250.length : Int))), (16, (i6 x332)), (37, (i6 ((rd r250 x332.toNat).2))), (38, (i6 x485))], []⟩) (by kernel_rfl) (sr (vp (.bool ((decide (x485 < ((rd r250 x332.toNat).2))))) rfl (nx ⟨[(0, (i6 a0)), (1, (eSi64 a1)), (7, (i6 x484)), (11, (i6 r479)), (14, (eST_Si64_i64_Z r250)), (15, (i6 (r250.length : Int))), (16, (i6 x332)), (37, (i6 ((rd r250 x332.toNat).2))), (38, (i6 x485)), (39, (.bool ((decide (x485 < ((rd r250 x332.toNat).2))))))], []⟩ (by kernel_rfl) (a_seq ?_))))
        cases hb491 : (decide (x485 < ((rd r250 x332.toNat).2)))
        · have h := ite_f hb491 h
          refine a_cond_f rfl (a_exit (t_exit ?_))
          cases h
          have h := hX490
          refine t_exit (b_exit (b_norm ?_))
          exact j_leaf x484 (Option.some.inj h) (by kernel_rfl)
        · have h := ite_t hb491 h
          refine a_cond_t rfl (a_skip (a_next (σ' := ⟨[(0, (i6 a0)), (1, (eSi64 a1)), (7, (i6 x484)), (11, (i6 r479)), (14, (eST_Si64_i64_Z r250)), (15, (i6 (r250.length : Int))), (16, (i6 x332)), (37, (i6 ((rd r250 x332.toNat).2))), (38, (i6 x485))], []⟩) (by kernel_rfl) (a_seq (a_block (a_region (vp (i6 x484) rfl (vp (i6 r479) rfl (vp (i6 (IntKind.i64.wrap (x484 * r479))) rfl (vp (i6 a0) rfl ?_)))))))))
          obtain ⟨hc492, h⟩ := ifp_some h
          refine vq (i6 (Int.tmod (IntKind.i64.wrap (x484 * r479)) a0)) rfl hc492 (vp (i6 (Int.tmod (IntKind.i64.wrap (x484 * r479)) a0)) rfl (a_nil (b_norm (a_next (σ' := ⟨[(0, (i6 a0)), (1, (eSi64 a1)), (7, (i6 (Int.tmod (IntKind.i64.wrap (x484 * r479)) a0))), (11, (i6 r479)), (14, (eST_Si64_i64_Z r250)), (15, (i6 (r250.length : Int))), (16, (i6 x332)), (37, (i6 ((rd r250 x332.toNat).2))), (38, (i6 x485))], []⟩) (by kernel_rfl) (a_region (vp (i6 (IntKind.i64.wrap (x485 + 1))) rfl (vp (i6 (IntKind.i64.wrap (x485 + 1))) rfl (a_nil ?_))))))))
          cases h
          exact a_again (by kernel_rfl) hX490
def impl_prime_quadratic_c : ACode := (.seq (.region 0 [q 6 (.asg 0 (.const (.int .i64 0)) 2)] false) (.seq (.region 1 [q 9 (.mov (t 0)), q 10 (.mov (t 1)), q 11 (.mov (t 2)), q 12 (.call 0 (.func 87) [(t 9), (t 10), (t 11)]), q 7 (.asg 0 (t 12) 2)] false) (.seq (.region 2 [q 8 (.asg 0 (.const (.int .i64 1)) 2)] false) (.seq (.seq (.region 3 [q 13 (.mov (t 0)), q 14 (.bin .sub 2 (t 13) (.const (.int .i64 1))), q 15 (.bin .quo 2 (t 14) (.const (.int .i64 2))), q 16 (.mov (.const (.int .i64 0)))] false) (.block 0 (.loop (.seq (.region 4 [q 17 (.bin .lss 2 (t 16) (t 15))] false) (.seq (.cond (t 17) .skip (.exit 0)) (.seq (.block 1 (.region 5 [q 18 (.mov (t 8)), q 19 (.mov (t 7)), q 20 (.bin .mul 2 (t 18) (t 19)), q 21 (.mov (t 0)), q 22 (.bin .rem 2 (t 20) (t 21)), q 8 (.asg 0 (t 22) 2)] false)) (.region 6 [q 23 (.bin .add 2 (t 16) (.const (.int .i64 1))), q 16 (.mov (t 23))] false))))))) (.seq (.seq (.region 7 [q 24 (.mov (t 8)), q 25 (.mov (t 0)), q 26 (.bin .sub 2 (t 25) (.const (.int .i64 1))), q 27 (.bin .eql 2 (t 24) (t 26))] false) (.cond (t 27) (.seq (.region 8 [q 6 (.asg 0 (.const (.int .i64 (-1))) 2)] false) .ret) .skip)) (.seq (.region 9 [q 28 (.mov (t 8)), q 6 (.asg 0 (t 28) 2)] false) .ret))))))
def impl_prime_quadratic_L : Live := [(0, [0, 1, 2]), (1, [0, 1, 2]), (2, [0, 7]), (3, [0, 7, 8]), (4, [0, 7, 8, 15, 16]), (5, [0, 7, 8, 15, 16]), (6, [0, 7, 8, 15, 16]), (7, [0, 8]), (8, []), (9, [8]), (100017, [0, 7, 8, 15, 16, 17]), (100027, [8, 27])]
noncomputable def impl_prime_quadratic_l1 (a0 : Int) (r1 : Int) (x29 : Int) (x30 : Int) : Option ((Int × Int) ⊕ Int) :=
  (letp ((decide (x30 < (IntKind.i64.wrap (Int.tdiv (IntKind.i64.wrap (a0 - 1)) 2))))) fun x38 => (if x38 then (ifp (a0 ≠ 0) ((some (.inl ((Int.tmod (IntKind.i64.wrap (x29 * r1)) a0, IntKind.i64.wrap (x30 + 1))))))) else (some (.inr x29))))
noncomputable def impl_prime_quadratic (a0 : Int) (a1 : (List Int)) (a2 : (List Int)) : Option Int :=
  (Option.bind (impl_prime_symbol a0 a1 a2) fun r1 => (Option.bind (α := Int) ((loopM (fun s : (Int × Int) => impl_prime_quadratic_l1 a0 r1 s.1 s.2) (1, 0))) fun x21 => (if (x21 == (IntKind.i64.wrap (a0 - 1))) then (some (-1)) else (some x21))))
theorem impl_prime_quadratic_ok (a0 : Int) (a1 : (List Int)) (a2 : (List Int)) (r : Int) (h : impl_prime_quadratic a0 a1 a2 = some r) : Den Try.prog 91 [(i6 a0), (eSi64 a1), (eSi64 a2)] { r := (i6 r) } := by
  refine den_of (rs := [(i6 r)]) (ac := impl_prime_quadratic_c) (L := impl_prime_quadratic_L) (n := 29) (m := []) (c := Try.f91.body.getD .skip) good Try.func91 (by kernel_rfl) (by kernel_rfl) Try.ntmps91 rfl rfl (by kernel_rfl) rfl rfl ?_
  refine a_st (σ' := ⟨[(0, (i6 a0)), (1, (eSi64 a1)), (2, (eSi64 a2))], []⟩) (by kernel_rfl) ?_
  unfold impl_prime_quadratic_c
  refine sr (vp (i6 0) rfl (nx ⟨[(0, (i6 a0)), (1, (eSi64 a1)), (2, (eSi64 a2))], []⟩ (by kernel_rfl) (sr (vp (i6 a0) rfl (vp (eSi64 a1) rfl (vp (eSi64 a2) rfl ?_))))))
  obtain ⟨r1, hr2, h⟩ := bind_some h
  refine a_call (args := [(i6 a0), (eSi64 a1), (eSi64 a2)]) (u := []) (r := (i6 r1)) rfl rfl (impl_prime_symbol_ok a0 a1 a2 r1 hr2) rfl (vp (i6 r1) rfl (nx ⟨[(0, (i6 a0)), (7, (i6 r1))], []⟩ (by kernel_rfl) (sr (vp (i6 1) rfl (nx ⟨[(0, (i6 a0)), (7, (i6 r1)), (8, (i6 1))], []⟩ (by kernel_rfl) ?_)))))
  obtain ⟨y22, hy23, hk24⟩ := bind_some h
  clear h
  refine a_join (emb := fun (s : Int) => ⟨[(0, (i6 a0)), (8, (i6 s))], []⟩) (pre := fun s => s = y22) ?_ ?_
  · rintro x21 rfl
    have h := hk24
    refine a_st (σ' := ⟨[(0, (i6 a0)), (8, (i6 x21))], []⟩) (by kernel_rfl) (a_seq (sr (vp (i6 x21) rfl (vp (i6 a0) rfl (vp (i6 (IntKind.i64.wrap (a0 - 1))) rfl (vp (.bool ((x21 == (IntKind.i64.wrap (a0 - 1))))) rfl (nx ⟨[(8, (i6 x21)), (27, (.bool ((x21 == (IntKind.i64.wrap (a0 - 1))))))], []⟩ (by kernel_rfl) ?_)))))))
    cases hb43 : (x21 == (IntKind.i64.wrap (a0 - 1)))
    · have h := ite_f hb43 h
      refine a_cond_f rfl (a_skip (a_next (σ' := ⟨[(8, (i6 x21))], []⟩) (by kernel_rfl) (sr (vp (i6 x21) rfl (vp (i6 x21) rfl (nx _ rfl (a_ret ?_)))))))
      refine ⟨.inr rfl, ?_⟩
      rw [Try.results91]
      cases h
      exact ⟨_, _, _, _, _, rfl, trivial, .inl ⟨rfl, .inl rfl⟩, rfl, rfl⟩
    · have h := ite_t hb43 h
      refine a_cond_t rfl (sr (vp (i6 (-1)) rfl (nx _ rfl (a_ret (t_ret ?_)))))
      refine ⟨.inr rfl, ?_⟩
      rw [Try.results91]
      cases h
      exact ⟨_, _, _, _, _, rfl, trivial, .inl ⟨rfl, .inl rfl⟩, rfl, rfl⟩
  · have h := hy23
    refine sr (vp (i6 a0) rfl (vp (i6 (IntKind.i64.wrap (a0 - 1))) rfl (vq (i6 (IntKind.i64.wrap (Int.tdiv (IntKind.i64.wrap (a0 - 1)) 2))) rfl (by decide) (vp (i6 0) rfl (nx ⟨[(0, (i6 a0)), (7, (i6 r1)), (8, (i6 1)), (15, (i6 (IntKind.i64.wrap (Int.tdiv (IntKind.i64.wrap (a0 - 1)) 2)))), (16, (i6 0))], []⟩ (by kernel_rfl) (a_block ?_))))))
    refine a_loop (emb := fun (s : (Int × Int)) => ⟨[(0, (i6 a0)), (7, (i6 r1)), (8, (i6 s.1)), (15, (i6 (IntKind.i64.wrap (Int.tdiv (IntKind.i64.wrap (a0 - 1)) 2)))), (16, (i6 s.2))], []⟩) (body := (fun s : (Int × Int) => impl_prime_quadratic_l1 a0 r1 s.1 s.2)) (G := fun q => some q = some y22) h rfl ?_ (by kernel_rfl)
    rintro X35 ⟨x29, x30⟩ x36 h hX37
    have h : impl_prime_quadratic_l1 a0 r1 x29 x30 = some x36 := h
    refine a_st (σ' := ⟨[(0, (i6 a0)), (7, (i6 r1)), (8, (i6 x29)), (15, (i6 (IntKind.i64.wrap (Int.tdiv (IntKind.i64.wrap (a0 - 1)) 2)))), (16, (i6 x30))], []⟩) (by kernel_rfl) (sr ?_)
    obtain ⟨x38, hx39, h⟩ := letp_some h
    refine a_val' (v := (.bool ((decide (x30 < (IntKind.i64.wrap (Int.tdiv (IntKind.i64.wrap (a0 - 1)) 2))))))) (v' := (.bool x38)) (u := []) (u' := []) rfl (congrArg (fun z => ((.bool z) : AV)) hx39) rfl trivial rfl (nx ⟨[(0, (i6 a0)), (7, (i6 r1)), (8, (i6 x29)), (15, (i6 (IntKind.i64.wrap (Int.tdiv (IntKind.i64.wrap (a0 - 1)) 2)))), (16, (i6 x30)), (17, (.bool x38))], []⟩ (by kernel_rfl) (a_seq ?_))
    cases hb40 : x38
    · have h := ite_f hb40 h
      refine a_cond_f rfl (a_exit (t_exit ?_))
      cases h
      have h := hX37
      refine t_exit (b_exit ?_)
      exact j_leaf x29 (Option.some.inj h) (by kernel_rfl)
    · have h := ite_t hb40 h
      refine a_cond_t rfl (a_skip (a_next (σ' := ⟨[(0, (i6 a0)), (7, (i6 r1)), (8, (i6 x29)), (15, (i6 (IntKind.i64.wrap (Int.tdiv (IntKind.i64.wrap (a0 - 1)) 2)))), (16, (i6 x30))], []⟩) (by kernel_rfl) (a_seq (a_block (a_region (vp (i6 x29) rfl (vp (i6 r1) rfl (vp (i6 (IntKind.i64.wrap (x29 * r1))) rfl (vp (i6 a0) rfl ?_)))))))))
      obtain ⟨hc41, h⟩ := ifp_some h
      refine vq (i6 (Int.tmod (IntKind.i64.wrap (x29 * r1)) a0)) rfl hc41 (vp (i6 (Int.tmod (IntKind.i64.wrap (x29 * r1)) a0)) rfl (a_nil (b_norm (a_next (σ' := ⟨[(0, (i6 a0)), (7, (i6 r1)), (8, (i6 (Int.tmod (IntKind.i64.wrap (x29 * r1)) a0))), (15, (i6 (IntKind.i64.wrap (Int.tdiv (IntKind.i64.wrap (a0 - 1)) 2)))), (16, (i6 x30))], []⟩) (by kernel_rfl) (a_region (vp (i6 (IntKind.i64.wrap (x30 + 1))) rfl (vp (i6 (IntKind.i64.wrap (x30 + 1))) rfl (a_nil ?_))))))))
      cases h
      exact a_again (by kernel_rfl) hX37
def impl_QuadraticSymbol_c : ACode := (.seq (.region 0 [q 4 (.box 26 (t 1)), q 5 (.box 26 (t 2)), q 6 (.asg 0 (.const (.int .i64 0)) 2), q 7 (.asg 0 (.const (.int .i64 0)) 2)] false) (.seq (.seq (.region 1 [q 9 (.mov (t 0)), q 10 (.load 26 (t 5)), q 11 (.mov (t 0)), q 12 (.bin .neq 2 (t 11) (.const (.int .i64 2))), q 13 (.load 26 (t 4)), q 14 (.bslice 0 38 1 [(0, (t 13))]), q 15 (.call 0 (.func 90) [(t 9), (t 10), (.const (.int .i64 12)), (t 12), (t 14)]), q 8 (.asg 0 (t 15) 2)] false) (.seq (.region 2 [q 16 (.mov (t 8)), q 17 (.bin .neq 2 (t 16) (.const (.int .i64 0)))] false) (.cond (t 17) (.seq (.region 3 [q 18 (.mov (t 8)), q 6 (.asg 0 (.const (.int .i64 0)) 2), q 7 (.asg 0 (t 18) 2)] false) .ret) .skip))) (.seq (.region 4 [q 19 (.mov (t 0)), q 20 (.load 26 (t 4)), ⟨some 21, .call 0 (.func 68) [(t 20)], none, [1]⟩, q 22 (.load 26 (t 5)), ⟨some 23, .call 0 (.func 68) [(t 22)], none, [3, 2]⟩, ⟨some 24, .call 0 (.func 91) [(t 19), (t 21), (t 23)], none, [0, 2, 4, 4]⟩, ⟨some 6, .asg 0 (t 24) 2, none, [5, 5, 0, 1, 2, 3, 4, 5]⟩, ⟨some 7, .asg 0 (.const (.int .i64 0)) 2, none, [6, 0, 1, 2, 3, 4, 5, 6]⟩] true) .ret)))
def impl_QuadraticSymbol_L : Live := [(0, [0, 1, 2]), (1, [0, 4, 5]), (2, [0, 4, 5, 8]), (3, [8]), (4, [0, 4, 5]), (100017, [0, 4, 5, 8, 17])]
noncomputable def impl_QuadraticSymbol (a0 : Int) (a1 : (Vec Int 64)) (a2 : (Vec Int 64)) : Option (Int × Int) :=
  (Option.bind (impl_monicCode_of_sl a0 a2 12 (a0 != 2) ([a1])) fun r3 => (if (r3 != 0) then (some (0, r3)) else (Option.bind (impl_rowOf a1) fun r15 => (Option.bind (impl_rowOf a2) fun r18 => (Option.bind (impl_prime_quadratic a0 r15 r18) fun r20 => (some (r20, 0)))))))
theorem impl_QuadraticSymbol_ok (a0 : Int) (a1 : (Vec Int 64)) (a2 : (Vec Int 64)) (r : (Int × Int)) (h : impl_QuadraticSymbol a0 a1 a2 = some r) : Den Try.prog 42 [(i6 a0), (eA64u8 a1), (eA64u8 a2)] { r := (.tuple [(i6 r.1), (i6 r.2)]) } := by
  refine den_of (rs := [(i6 r.1), (i6 r.2)]) (ac := impl_QuadraticSymbol_c) (L := impl_QuadraticSymbol_L) (n := 25) (m := []) (c := Try.f42.body.getD .skip) good Try.func42 (by kernel_rfl) (by kernel_rfl) Try.ntmps42 rfl rfl (by kernel_rfl) rfl rfl ?_
  refine a_st (σ' := ⟨[(0, (i6 a0)), (1, (eA64u8 a1)), (2, (eA64u8 a2))], []⟩) (by kernel_rfl) ?_
  unfold impl_QuadraticSymbol_c
  refine sr (vo 1400 (eA64u8 a1) rfl rfl (vo 1500 (eA64u8 a2) rfl rfl (vp (i6 0) rfl (vp (i6 0) rfl (nx ⟨[(0, (i6 a0)), (4, (ow 4)), (5, (ow 5))], [(4, (bk (eA64u8 a1))), (5, (bk (eA64u8 a2)))]⟩ (by kernel_rfl) (a_seq (sr (vp (i6 a0) rfl (vl (eA64u8 a2) rfl rfl rfl rfl rfl rfl ?_)))))))))
  refine vp (i6 a0) rfl (vp (.bool (a0 != 2)) rfl (vl (eA64u8 a1) rfl rfl rfl rfl rfl rfl (vq (.sl 64 true (([a1]).map eA64u8)) rfl ⟨(Nat.le_of_ble_eq_true rfl), (Nat.le_of_ble_eq_true rfl), (all_cons ⟨(Nat.le_of_ble_eq_true rfl), rfl⟩ all_nil)⟩ ?_)))
  obtain ⟨r3, hr4, h⟩ := bind_some h
  refine a_call (args := [(i6 a0), (eA64u8 a2), (i6 12), (.bool (a0 != 2)), (.sl 64 true (([a1]).map eA64u8))]) (u := []) (r := (i6 r3)) rfl rfl (impl_monicCode_of_sl_ok a0 a2 12 (a0 != 2) ([a1]) r3 hr4) rfl (vp (i6 r3) rfl (nx ⟨[(0, (i6 a0)), (4, (ow 4)), (5, (ow 5)), (8, (i6 r3))], [(4, (bk (eA64u8 a1))), (5, (bk (eA64u8 a2)))]⟩ (by kernel_rfl) (sr (vp (i6 r3) rfl (vp (.bool (r3 != 0)) rfl (nx ⟨[(0, (i6 a0)), (4, (ow 4)), (5, (ow 5)), (8, (i6 r3)), (17, (.bool (r3 != 0)))], [(4, (bk (eA64u8 a1))), (5, (bk (eA64u8 a2)))]⟩ (by kernel_rfl) ?_))))))
  cases hb5 : (r3 != 0)
  · have h := ite_f hb5 h
    refine a_cond_f rfl (a_skip (a_next (σ' := ⟨[(0, (i6 a0)), (4, (ow 4)), (5, (ow 5))], [(4, (bk (eA64u8 a1))), (5, (bk (eA64u8 a2)))]⟩) (by kernel_rfl) (a_seq (a_draw [⟨[], [], [], []⟩, ⟨[4], [], [], []⟩, ⟨[], [], [], [1]⟩, ⟨[5], [], [], []⟩, ⟨[], [], [], [1, 2, 3]⟩, ⟨[], [], [], [0, 1, 2, 3, 4]⟩, ⟨[], [], [], [0, 1, 2, 3, 4, 5]⟩, ⟨[], [], [], [0, 1, 2, 3, 4, 5, 6]⟩] (by kernel_rfl) (dp (i6 a0) rfl (by kernel_rfl) (d_cons (vl (eA64u8 a1) rfl rfl rfl rfl rfl rfl (d_next (by kernel_rfl) (d_cons ?_)))))))))
    obtain ⟨r15, hr16, h⟩ := bind_some h
    refine a_call (args := [(eA64u8 a1)]) (u := []) (r := (eSi64 r15)) rfl rfl (impl_rowOf_ok a1 r15 hr16) rfl (d_next (by kernel_rfl) (d_cons (vl (eA64u8 a2) rfl rfl rfl rfl rfl rfl (d_next (by kernel_rfl) (d_cons ?_)))))
    obtain ⟨r18, hr19, h⟩ := bind_some h
    refine a_call (args := [(eA64u8 a2)]) (u := []) (r := (eSi64 r18)) rfl rfl (impl_rowOf_ok a2 r18 hr19) rfl (d_next (by kernel_rfl) (d_cons ?_))
    obtain ⟨r20, hr21, h⟩ := bind_some h
    refine a_call (args := [(i6 a0), (eSi64 r15), (eSi64 r18)]) (u := []) (r := (i6 r20)) rfl rfl (impl_prime_quadratic_ok a0 r15 r18 r20 hr21) rfl (d_next (by kernel_rfl) (dp (i6 r20) rfl (by kernel_rfl) (dp (i6 0) rfl (by kernel_rfl) (d_nil (a_next rfl (a_ret ?_))))))
    refine ⟨.inr rfl, ?_⟩
    rw [Try.results42]
    cases h
    exact ⟨_, _, _, _, _, rfl, trivial, .inl ⟨rfl, .inl rfl⟩, rfl, ⟨_, _, _, _, _, rfl, trivial, .inl ⟨rfl, .inl rfl⟩, rfl, rfl⟩⟩
  · have h := ite_t hb5 h
    refine a_cond_t rfl (sr (vp (i6 r3) rfl (vp (i6 0) rfl (vp (i6 r3) rfl (nx _ rfl (a_ret (t_ret ?_)))))))
    refine ⟨.inr rfl, ?_⟩
    rw [Try.results42]
    cases h
    exact ⟨_, _, _, _, _, rfl, trivial, .inl ⟨rfl, .inl rfl⟩, rfl, ⟨_, _, _, _, _, rfl, trivial, .inl ⟨rfl, .inl rfl⟩, rfl, rfl⟩⟩
def laws_FnExactQuadraticSymbol_c : ACode := (.seq (.region 0 [q 4 (.box 22 (t 1)), q 5 (.box 22 (t 2)), q 6 (.asg 0 (.const (.bool false)) 4)] false) (.seq (.region 1 [q 12 (.mov (t 0)), q 13 (.load 22 (t 4)), ⟨some 14, .call 0 (.func 15) [(t 13)], none, [1]⟩, q 15 (.load 22 (t 5)), ⟨some 16, .call 0 (.func 15) [(t 15)], none, [3, 2]⟩, ⟨some 17, .call 0 (.func 41) [(t 12), (t 14), (t 16)], none, [0, 2, 4, 4]⟩, ⟨some 11, .mov (t 17), none, [5]⟩, ⟨some 18, .extract (t 11) 0, none, [6]⟩, ⟨some 19, .extract (t 11) 1, none, [6]⟩, ⟨some 7, .asg 0 (t 18) 2, none, [7, 5, 0, 1, 2, 3, 4, 5, 6, 7]⟩, ⟨some 8, .asg 0 (t 19) 2, none, [8, 9, 0, 1, 2, 3, 4, 5, 6, 7, 8, 9]⟩] true) (.seq (.region 2 [q 21 (.mov (t 0)), q 22 (.load 22 (t 4)), ⟨some 23, .call 0 (.func 15) [(t 22)], none, [1]⟩, q 24 (.load 22 (t 5)), ⟨some 25, .call 0 (.func 15) [(t 24)], none, [3, 2]⟩, ⟨some 26, .call 0 (.func 42) [(t 21), (t 23), (t 25)], none, [0, 2, 4, 4]⟩, ⟨some 20, .mov (t 26), none, [5]⟩, ⟨some 27, .extract (t 20) 0, none, [6]⟩, ⟨some 28, .extract (t 20) 1, none, [6]⟩, ⟨some 9, .asg 0 (t 27) 2, none, [7, 5, 0, 1, 2, 3, 4, 5, 6, 7]⟩, ⟨some 10, .asg 0 (t 28) 2, none, [8, 9, 0, 1, 2, 3, 4, 5, 6, 7, 8, 9]⟩] true) (.seq (.seq (.region 3 [q 29 (.mov (t 9)), q 30 (.mov (t 7)), q 31 (.bin .neq 2 (t 29) (t 30)), q 32 (.mov (t 31)), ⟨some 33, .mov (t 10), some (32, false), []⟩, ⟨some 34, .mov (t 8), some (32, false), []⟩, ⟨some 35, .bin .neq 2 (t 33) (t 34), some (32, false), []⟩, q 36 (.pick (t 32) (.const (.bool true)) (t 35))] false) (.cond (t 36) (.seq (.region 4 [q 6 (.asg 0 (.const (.bool false)) 4)] false) .ret) .skip)) (.seq (.region 5 [q 6 (.asg 0 (.const (.bool true)) 4)] false) .ret)))))
def laws_FnExactQuadraticSymbol_L : Live := [(0, [0, 1, 2]), (1, [0, 4, 5]), (2, [0, 4, 5, 7, 8]), (3, [7, 8, 9, 10]), (4, []), (5, []), (100036, [36])]
noncomputable def laws_FnExactQuadraticSymbol (a0 : Int) (a1 : (Vec Int 64)) (a2 : (Vec Int 64)) : Option Bool :=
  (Option.bind (laws_toPoly a1) fun r10 => (Option.bind (laws_toPoly a2) fun r13 => (Option.bind (spec_QuadraticSymbol a0 r10 r13) fun r15 => (Option.bind (laws_toPoly a1) fun r26 => (Option.bind (laws_toPoly a2) fun r29 => (Option.bind (impl_QuadraticSymbol a0 r26 r29) fun r31 => (Option.bind (α := Bool) ((if (r31.1 != r15.1) then (some true) else (some (r31.2 != r15.2)))) fun x34 => (if x34 then (some false) else (some true)))))))))
theorem laws_FnExactQuadraticSymbol_ok (a0 : Int) (a1 : (Vec Int 64)) (a2 : (Vec Int 64)) (r : Bool) (h : laws_FnExactQuadraticSymbol a0 a1 a2 = some r) : Den Try.prog 10 [(i6 a0), (eA64u8 a1), (eA64u8 a2)] { r := (.bool r) } := by
  refine den_of (rs := [(.bool r)]) (ac := laws_FnExactQuadraticSymbol_c) (L := laws_FnExactQuadraticSymbol_L) (n := 37) (m := []) (c := Try.f10.body.getD .skip) good Try.func10 (by kernel_rfl) (by kernel_rfl) Try.ntmps10 rfl rfl (by kernel_rfl) rfl rfl ?_
  refine a_st (σ' := ⟨[(0, (i6 a0)), (1, (eA64u8 a1)), (2, (eA64u8 a2))], []⟩) (by kernel_rfl) ?_
  unfold laws_FnExactQuadraticSymbol_c
  refine sr (vo 1400 (eA64u8 a1) rfl rfl (vo 1500 (eA64u8 a2) rfl rfl (vp (.bool false) rfl (nx ⟨[(0, (i6 a0)), (4, (ow 4)), (5, (ow 5))], [(4, (bk (eA64u8 a1))), (5, (bk (eA64u8 a2)))]⟩ (by kernel_rfl) (a_seq (a_draw [⟨[], [], [], []⟩, ⟨[4], [], [], []⟩, ⟨[], [], [], [1]⟩, ⟨[5], [], [], []⟩, ⟨[], [], [], [1, 2, 3]⟩, ⟨[], [], [], [0, 1, 2, 3, 4]⟩, ⟨[], [], [], [0, 1, 2, 3, 4, 5]⟩, ⟨[], [], [], [0, 1, 2, 3, 4, 5, 6]⟩, ⟨[], [], [], [0, 1, 2, 3, 4, 5, 6]⟩, ⟨[], [], [], [0, 1, 2, 3, 4, 5, 6, 7]⟩, ⟨[], [], [], [0, 1, 2, 3, 4, 5, 6, 7, 8, 9]⟩] (by kernel_rfl) (dp (i6 a0) rfl (by kernel_rfl) (d_cons (vl (eA64u8 a1) rfl rfl rfl rfl rfl rfl ?_)))))))))
  refine d_next (by kernel_rfl) (d_cons ?_)
  obtain ⟨r10, hr11, h⟩ := bind_some h
  refine a_call (args := [(eA64u8 a1)]) (u := []) (r := (eA64u8 r10)) rfl rfl (laws_toPoly_ok a1 r10 hr11) rfl (d_next (by kernel_rfl) (d_cons (vl (eA64u8 a2) rfl rfl rfl rfl rfl rfl (d_next (by kernel_rfl) (d_cons ?_)))))
  obtain ⟨r13, hr14, h⟩ := bind_some h
  refine a_call (args := [(eA64u8 a2)]) (u := []) (r := (eA64u8 r13)) rfl rfl (laws_toPoly_ok a2 r13 hr14) rfl (d_next (by kernel_rfl) (d_cons ?_))
  obtain ⟨r15, hr16, h⟩ := bind_some h
  refine a_call (args := [(i6 a0), (eA64u8 r10), (eA64u8 r13)]) (u := []) (r := (.tuple [(i6 r15.1), (i6 r15.2)])) rfl rfl (spec_QuadraticSymbol_ok a0 r10 r13 r15 hr16) rfl (d_next (by kernel_rfl) (dp (.tuple [(i6 r15.1), (i6 r15.2)]) rfl (by kernel_rfl) (d_cons (vb (i6 r15.1) rfl rfl (d_next (by kernel_rfl) (d_cons (vb (i6 r15.2) rfl rfl (d_next (by kernel_rfl) (dp (i6 r15.1) rfl (by kernel_rfl) ?_)))))))))
  refine dp (i6 r15.2) rfl (by kernel_rfl) (d_nil (a_next (σ' := ⟨[(0, (i6 a0)), (4, (ow 4)), (5, (ow 5)), (7, (i6 r15.1)), (8, (i6 r15.2))], [(4, (bk (eA64u8 a1))), (5, (bk (eA64u8 a2)))]⟩) (by kernel_rfl) (a_seq (a_draw [⟨[], [], [], []⟩, ⟨[4], [], [], []⟩, ⟨[], [], [], [1]⟩, ⟨[5], [], [], []⟩, ⟨[], [], [], [1, 2, 3]⟩, ⟨[], [], [], [0, 1, 2, 3, 4]⟩, ⟨[], [], [], [0, 1, 2, 3, 4, 5]⟩, ⟨[], [], [], [0, 1, 2, 3, 4, 5, 6]⟩, ⟨[], [], [], [0, 1, 2, 3, 4, 5, 6]⟩, ⟨[], [], [], [0, 1, 2, 3, 4, 5, 6, 7]⟩, ⟨[], [], [], [0, 1, 2, 3, 4, 5, 6, 7, 8, 9]⟩] (by kernel_rfl) (dp (i6 a0) rfl (by kernel_rfl) (d_cons (vl (eA64u8 a1) rfl rfl rfl rfl rfl rfl (d_next (by kernel_rfl) (d_cons ?_)))))))))
  obtain ⟨r26, hr27, h⟩ := bind_some h
  refine a_call (args := [(eA64u8 a1)]) (u := []) (r := (eA64u8 r26)) rfl rfl (laws_toPoly_ok a1 r26 hr27) rfl (d_next (by kernel_rfl) (d_cons (vl (eA64u8 a2) rfl rfl rfl rfl rfl rfl (d_next (by kernel_rfl) (d_cons ?_)))))
  obtain ⟨r29, hr30, h⟩ := bind_some h
  refine a_call (args := [(eA64u8 a2)]) (u := []) (r := (eA64u8 r29)) rfl rfl (laws_toPoly_ok a2 r29 hr30) rfl (d_next (by kernel_rfl) (d_cons ?_))
  obtain ⟨r31, hr32, h⟩ := bind_some h
  refine a_call (args := [(i6 a0), (eA64u8 r26), (eA64u8 r29)]) (u := []) (r := (.tuple [(i6 r31.1), (i6 r31.2)])) rfl rfl (impl_QuadraticSymbol_ok a0 r26 r29 r31 hr32) rfl (d_next (by kernel_rfl) (dp (.tuple [(i6 r31.1), (i6 r31.2)]) rfl (by kernel_rfl) (d_cons (vb (i6 r31.1) rfl rfl (d_next (by kernel_rfl) (d_cons (vb (i6 r31.2) rfl rfl (d_next (by kernel_rfl) (dp (i6 r31.1) rfl (by kernel_rfl) ?_)))))))))
  refine dp (i6 r31.2) rfl (by kernel_rfl) (d_nil (a_next (σ' := ⟨[(7, (i6 r15.1)), (8, (i6 r15.2)), (9, (i6 r31.1)), (10, (i6 r31.2))], []⟩) (by kernel_rfl) (a_seq ?_)))
  obtain ⟨y35, hy36, hk37⟩ := bind_some h
  clear h
  refine a_join (emb := fun (s : Bool) => ⟨[(36, (.bool s))], []⟩) (pre := fun s => s = y35) ?_ ?_
  · rintro x34 rfl
    have h := hk37
    refine a_st (σ' := ⟨[(36, (.bool x34))], []⟩) (by kernel_rfl) ?_
    cases hb39 : x34
    · have h := ite_f hb39 h
      refine a_cond_f rfl (a_skip (a_next (σ' := ⟨[], []⟩) (by kernel_rfl) (sr (vp (.bool true) rfl (nx _ rfl (a_ret ?_))))))
      refine ⟨.inr rfl, ?_⟩
      rw [Try.results10]
      cases h
      exact ⟨_, _, _, _, _, rfl, trivial, .inl ⟨rfl, .inl rfl⟩, rfl, rfl⟩
    · have h := ite_t hb39 h
      refine a_cond_t rfl (sr (vp (.bool false) rfl (nx _ rfl (a_ret (t_ret ?_)))))
      refine ⟨.inr rfl, ?_⟩
      rw [Try.results10]
      cases h
      exact ⟨_, _, _, _, _, rfl, trivial, .inl ⟨rfl, .inl rfl⟩, rfl, rfl⟩
  · have h := hy36
    refine a_region (vp (i6 r31.1) rfl (vp (i6 r15.1) rfl (vp (.bool (r31.1 != r15.1)) rfl (vp (.bool (r31.1 != r15.1)) rfl ?_))))
    cases hb38 : (r31.1 != r15.1)
    · have h := ite_f hb38 h
      refine gp (i6 r31.2) rfl rfl (gp (i6 r15.2) rfl rfl (gp (.bool (r31.2 != r15.2)) rfl rfl (vp (.bool (r31.2 != r15.2)) rfl (a_nil ?_))))
      exact j_leaf (r31.2 != r15.2) (Option.some.inj h) (by kernel_rfl)
    · have h := ite_t hb38 h
      refine a_gskip rfl (a_gskip rfl (a_gskip rfl (vp (.bool true) rfl (a_nil ?_))))
      exact j_leaf true (Option.some.inj h) (by kernel_rfl)
def spec_l01Times_c : ACode := (.seq (.region 0 [q 4 (.box 26 (t 1)), q 5 (.box 26 (t 2)), q 6 (.alloc 26), q 7 (.asg 0 (.const (.bool false)) 4)] false) (.seq (.region 1 [q 13 (.load 26 (t 4)), ⟨some 14, .call 0 (.func 75) [(t 13)], none, [0]⟩, q 15 (.load 26 (t 5)), ⟨some 16, .call 0 (.func 75) [(t 15)], none, [2, 1]⟩, q 17 (.build 26 []), q 10 (.alloc 26), ⟨some 8, .asg 0 (t 14) 2, none, [1, 3, 0, 1, 5]⟩, ⟨some 9, .asg 0 (t 16) 2, none, [3, 6, 0, 1, 2, 3, 5, 6]⟩, ⟨none, .store 26 (t 10) (t 17), none, [5, 4, 7, 0, 1, 2, 3, 4, 5, 6, 7]⟩] true) (.seq (.seq (.region 2 [q 18 (.mov (t 8)), q 19 (.bin .lss 2 (t 18) (.const (.int .i64 0))), q 20 (.mov (t 19)), ⟨some 21, .mov (t 9), some (20, false), []⟩, ⟨some 22, .bin .lss 2 (t 21) (.const (.int .i64 0)), some (20, false), []⟩, q 23 (.pick (t 20) (.const (.bool true)) (t 22))] false) (.cond (t 23) (.seq (.region 3 [q 24 (.load 26 (t 10)), ⟨none, .store 26 (t 6) (t 24), none, []⟩, q 7 (.asg 0 (.const (.bool true)) 4)] false) .ret) .skip)) (.seq (.seq (.region 4 [q 25 (.mov (t 8)), q 26 (.mov (t 9)), q 27 (.bin .add 2 (t 25) (t 26)), q 28 (.bin .gtr 2 (t 27) (.const (.int .i64 63)))] false) (.cond (t 28) (.seq (.region 5 [q 29 (.load 26 (t 10)), ⟨none, .store 26 (t 6) (t 29), none, []⟩, q 7 (.asg 0 (.const (.bool false)) 4)] false) .ret) .skip)) (.seq (.seq (.region 6 [q 11 (.asg 0 (.const (.int .i64 0)) 2)] false) (.block 0 (.loop (.seq (.seq (.region 7 [q 30 (.mov (t 11)), q 31 (.mov (t 8)), q 32 (.bin .leq 2 (t 30) (t 31))] false) (.cond (t 32) .skip (.exit 0))) (.seq (.block 1 (.seq (.region 9 [q 12 (.asg 0 (.const (.int .i64 0)) 2)] false) (.block 2 (.loop (.seq (.seq (.region 10 [q 35 (.mov (t 12)), q 36 (.mov (t 9)), q 37 (.bin .leq 2 (t 35) (t 36)), q 38 (.mov (t 37)), ⟨some 39, .mov (t 11), some (38, true), []⟩, ⟨some 40, .indexAddr 26 (t 4) (t 39), some (38, true), []⟩, ⟨some 41, .load 5 (t 40), some (38, true), []⟩, ⟨some 42, .bin .neq 5 (t 41) (.const (.int .u8 0)), some (38, true), []⟩, q 43 (.pick (t 38) (t 42) (.const (.bool false)))] false) (.cond (t 43) .skip (.exit 2))) (.seq (.block 3 (.region 12 [q 46 (.mov (t 11)), q 47 (.mov (t 12)), ⟨some 48, .bin .add 2 (t 46) (t 47), none, [0, 1]⟩, q 49 (.mov (t 11)), q 50 (.mov (t 12)), ⟨some 51, .bin .add 2 (t 49) (t 50), none, [3, 4]⟩, ⟨some 52, .indexAddr 26 (t 10) (t 51), none, [5]⟩, ⟨some 53, .load 5 (t 52), none, [6]⟩, ⟨some 54, .conv 5 2 (t 53), none, [7]⟩, q 55 (.mov (t 11)), ⟨some 56, .indexAddr 26 (t 4) (t 55), none, [9]⟩, ⟨some 57, .load 5 (t 56), none, [10]⟩, ⟨some 58, .conv 5 2 (t 57), none, [11]⟩, q 59 (.mov (t 12)), ⟨some 60, .indexAddr 26 (t 5) (t 59), none, [13]⟩, ⟨some 61, .load 5 (t 60), none, [14]⟩, ⟨some 62, .conv 5 2 (t 61), none, [15]⟩, ⟨some 63, .bin .mul 2 (t 58) (t 62), none, [12, 16]⟩, ⟨some 64, .bin .add 2 (t 54) (t 63), none, [8, 17]⟩, q 65 (.mov (t 0)), ⟨some 66, .bin .rem 2 (t 64) (t 65), none, [18, 19]⟩, ⟨some 67, .conv 2 5 (t 66), none, [20]⟩, ⟨some 68, .indexAddr 26 (t 10) (t 48), none, [2, 0, 1, 2, 3, 4, 5, 6, 7, 8, 9, 10, 11, 12, 13, 14, 15, 16, 17, 18, 19, 20, 21]⟩, ⟨none, .store 5 (t 68) (t 67), none, [22, 21, 0, 1, 2, 3, 4, 5, 6, 7, 8, 9, 10, 11, 12, 13, 14, 15, 16, 17, 18, 19, 20, 21]⟩] true)) (.region 11 [q 44 (.mov (t 12)), q 45 (.bin .add 2 (t 44) (.const (.int .i64 1))), q 12 (.asg 0 (t 45) 2)] false))))))) (.region 8 [q 33 (.mov (t 11)), q 34 (.bin .add 2 (t 33) (.const (.int .i64 1))), q 11 (.asg 0 (t 34) 2)] false)))))) (.seq (.region 13 [q 69 (.load 26 (t 10)), ⟨none, .store 26 (t 6) (t 69), none, []⟩, q 7 (.asg 0 (.const (.bool true)) 4)] false) .ret))))))
def spec_l01Times_L : Live := [(0, [0, 1, 2]), (1, [0, 4, 5, 6]), (2, [0, 4, 5, 6, 8, 9, 10]), (3, [6, 10]), (4, [0, 4, 5, 6, 8, 9, 10]), (5, [6, 10]), (6, [0, 4, 5, 6, 8, 9, 10]), (7, [0, 4, 5, 6, 8, 9, 10, 11]), (8, [0, 4, 5, 6, 8, 9, 10, 11]), (9, [0, 4, 5, 6, 8, 9, 10, 11]), (10, [0, 4, 5, 6, 8, 9, 10, 11, 12]), (11, [0, 4, 5, 6, 8, 9, 10, 11, 12]), (12, [0, 4, 5, 6, 8, 9, 10, 11, 12]), (13, [6, 10]), (100023, [0, 4, 5, 6, 8, 9, 10, 23]), (100028, [0, 4, 5, 6, 8, 9, 10, 28]), (100032, [0, 4, 5, 6, 8, 9, 10, 11, 32]), (100043, [0, 4, 5, 6, 8, 9, 10, 11, 12, 43])]
noncomputable def spec_l01Times_l2 (r12 : Int) (x1081 : Int) (a1 : (Vec Int 64)) (a2 : (Vec Int 64)) (a0 : Int) (x1524 : Int) (x1525 : (Vec Int 64)) : Option ((Int × (Vec Int 64)) ⊕ (Vec Int 64)) :=
  (Option.bind (α := Bool) ((if (decide (x1524 ≤ r12)) then (ifp (0 ≤ x1081 ∧ x1081 < ((64 : Nat) : Int)) ((some (((rd a1.1 x1081.toNat) != 0))))) else (some false))) fun x1573 => (if x1573 then (ifp (0 ≤ IntKind.i64.wrap (x1081 + x1524) ∧ IntKind.i64.wrap (x1081 + x1524) < ((64 : Nat) : Int)) ((letp (IntKind.i64.wrap ((rd x1525.1 (IntKind.i64.wrap (x1081 + x1524)).toNat))) fun x1598 => (ifp (0 ≤ x1081 ∧ x1081 < ((64 : Nat) : Int)) ((ifp (0 ≤ x1524 ∧ x1524 < ((64 : Nat) : Int)) ((letp (IntKind.i64.wrap ((IntKind.i64.wrap (rd a1.1 x1081.toNat)) * (IntKind.i64.wrap (rd a2.1 x1524.toNat)))) fun x1604 => (ifp (a0 ≠ 0) ((letp (IntKind.u8.wrap (Int.tmod (IntKind.i64.wrap (x1598 + x1604)) a0)) fun x1607 => (ifp (0 ≤ IntKind.i64.wrap (x1081 + x1524) ∧ IntKind.i64.wrap (x1081 + x1524) < ((64 : Nat) : Int)) ((some (.inl ((IntKind.i64.wrap (x1524 + 1), (vset x1525 (IntKind.i64.wrap (x1081 + x1524)).toNat x1607)))))))))))))))))) else (some (.inr x1525))))
noncomputable def spec_l01Times_l1 (r9 : Int) (r12 : Int) (a1 : (Vec Int 64)) (a2 : (Vec Int 64)) (a0 : Int) (x1081 : Int) (x1082 : (Vec Int 64)) : Option ((Int × (Vec Int 64)) ⊕ (Vec Int 64)) :=
  (if (decide (x1081 ≤ r9)) then (Option.bind (α := (Vec Int 64)) ((loopM (fun s : (Int × (Vec Int 64)) => spec_l01Times_l2 r12 x1081 a1 a2 a0 s.1 s.2) (0, x1082))) fun x1479 => (some (.inl ((IntKind.i64.wrap (x1081 + 1), x1479))))) else (some (.inr x1082)))
noncomputable def spec_l01Times (a0 : Int) (a1 : (Vec Int 64)) (a2 : (Vec Int 64)) : Option ((Vec Int 64) × Bool) :=
  (Option.bind (spec_l01Deg a1) fun r9 => (Option.bind (spec_l01Deg a2) fun r12 => (Option.bind (α := Bool) ((if (decide (r9 < 0)) then (some true) else (some ((decide (r12 < 0)))))) fun x16 => (if x16 then (some (((vrep 64 (0 : Int)), true))) else (if (decide ((IntKind.i64.wrap (r9 + r12)) > 63)) then (some (((vrep 64 (0 : Int)), false))) else (Option.bind (α := (Vec Int 64)) ((loopM (fun s : (Int × (Vec Int 64)) => spec_l01Times_l1 r9 r12 a1 a2 a0 s.1 s.2) (0, (vrep 64 (0 : Int))))) fun x814 => (some (x814, true))))))))
theorem spec_l01Times_ok (a0 : Int) (a1 : (Vec Int 64)) (a2 : (Vec Int 64)) (r : ((Vec Int 64) × Bool)) (h : spec_l01Times a0 a1 a2 = some r) : Den Try.prog 93 [(i6 a0), (eA64u8 a1), (eA64u8 a2)] { r := (.tuple [(eA64u8 r.1), (.bool r.2)]) } := by
  refine den_of (rs := [(eA64u8 r.1), (.bool r.2)]) (ac := spec_l01Times_c) (L := spec_l01Times_L) (n := 70) (m := []) (c := Try.f93.body.getD .skip) good Try.func93 (by kernel_rfl) (by kernel_rfl) Try.ntmps93 rfl rfl (by kernel_rfl) rfl rfl ?_
  refine a_st (σ' := ⟨[(0, (i6 a0)), (1, (eA64u8 a1)), (2, (eA64u8 a2))], []⟩) (by kernel_rfl) ?_
  unfold spec_l01Times_c
  refine sr (vo 1400 (eA64u8 a1) rfl rfl (vo 1500 (eA64u8 a2) rfl rfl (vo 1600 (eA64u8 ((vrep 64 (0 : Int)))) rfl rfl (vp (.bool false) rfl (nx ⟨[(0, (i6 a0)), (4, (ow 4)), (5, (ow 5)), (6, (ow 6))], [(4, (bk (eA64u8 a1))), (5, (bk (eA64u8 a2))), (6, (bk (eA64u8 ((vrep 64 (0 : Int))))))]⟩ (by kernel_rfl) (a_seq (a_draw [⟨[4], [], [], []⟩, ⟨[], [], [], [0]⟩, ⟨[5], [], [], []⟩, ⟨[], [], [], [0, 1, 2]⟩, ⟨[], [], [], []⟩, ⟨[2000], [2000], [2000], []⟩, ⟨[], [], [], [0, 1, 2, 3, 5]⟩, ⟨[], [], [], [0, 1, 2, 3, 5, 6]⟩, ⟨[2000], [2000], [], [0, 1, 2, 3, 4, 5, 6, 7]⟩] (by kernel_rfl) (d_cons (vl (eA64u8 a1) rfl rfl rfl rfl rfl rfl ?_)))))))))
  refine d_next (by kernel_rfl) (d_cons ?_)
  obtain ⟨r9, hr10, h⟩ := bind_some h
  refine a_call (args := [(eA64u8 a1)]) (u := []) (r := (i6 r9)) rfl rfl (spec_l01Deg_ok a1 r9 hr10) rfl (d_next (by kernel_rfl) (d_cons (vl (eA64u8 a2) rfl rfl rfl rfl rfl rfl (d_next (by kernel_rfl) (d_cons ?_)))))
  obtain ⟨r12, hr13, h⟩ := bind_some h
  refine a_call (args := [(eA64u8 a2)]) (u := []) (r := (i6 r12)) rfl rfl (spec_l01Deg_ok a2 r12 hr13) rfl (d_next (by kernel_rfl) (d_cons (vq (eA64u8 ((vrep 64 (0 : Int)))) rfl ⟨⟨_, rfl, rfl⟩, all_nil⟩ (d_next (by kernel_rfl) (d_cons (vo 2000 (eA64u8 ((vrep 64 (0 : Int)))) rfl rfl (d_next (by kernel_rfl) (dp (i6 r9) rfl (by kernel_rfl) (dp (i6 r12) rfl (by kernel_rfl) ?_)))))))))
  refine d_cons (vs (eA64u8 ((vrep 64 (0 : Int)))) rfl rfl (fun _ => rfl) rfl rfl rfl rfl rfl rfl (d_next (by kernel_rfl) (d_nil (a_next (σ' := ⟨[(0, (i6 a0)), (4, (ow 4)), (5, (ow 5)), (6, (ow 6)), (8, (i6 r9)), (9, (i6 r12)), (10, (ow 10))], [(4, (bk (eA64u8 a1))), (5, (bk (eA64u8 a2))), (6, (bk (eA64u8 ((vrep 64 (0 : Int)))))), (10, (bk (eA64u8 ((vrep 64 (0 : Int))))))]⟩) (by kernel_rfl) (a_seq ?_)))))
  obtain ⟨y17, hy18, hk19⟩ := bind_some h
  clear h
  refine a_join (emb := fun (s : Bool) => ⟨[(0, (i6 a0)), (4, (ow 4)), (5, (ow 5)), (6, (ow 6)), (8, (i6 r9)), (9, (i6 r12)), (10, (ow 10)), (23, (.bool s))], [(4, (bk (eA64u8 a1))), (5, (bk (eA64u8 a2))), (6, (bk (eA64u8 ((vrep 64 (0 : Int)))))), (10, (bk (eA64u8 ((vrep 64 (0 : Int))))))]⟩) (pre := fun s => s = y17) ?_ ?_
  · rintro x16 rfl
    have h := hk19
    refine a_st (σ' := ⟨[(0, (i6 a0)), (4, (ow 4)), (5, (ow 5)), (6, (ow 6)), (8, (i6 r9)), (9, (i6 r12)), (10, (ow 10)), (23, (.bool x16))], [(4, (bk (eA64u8 a1))), (5, (bk (eA64u8 a2))), (6, (bk (eA64u8 ((vrep 64 (0 : Int)))))), (10, (bk (eA64u8 ((vrep 64 (0 : Int))))))]⟩) (by kernel_rfl) ?_
    cases hb21 : x16
    · have h := ite_f hb21 h
      refine a_cond_f rfl (a_skip (a_next (σ' := ⟨[(0, (i6 a0)), (4, (ow 4)), (5, (ow 5)), (6, (ow 6)), (8, (i6 r9)), (9, (i6 r12)), (10, (ow 10))], [(4, (bk (eA64u8 a1))), (5, (bk (eA64u8 a2))), (6, (bk (eA64u8 ((vrep 64 (0 : Int)))))), (10, (bk (eA64u8 ((vrep 64 (0 : Int))))))]⟩) (by kernel_rfl) (a_seq (sr (vp (i6 r9) rfl (vp (i6 r12) rfl (vp (i6 (IntKind.i64.wrap (r9 + r12))) rfl (vp (.bool ((decide ((IntKind.i64.wrap (r9 + r12)) > 63)))) rfl (nx ⟨[(0, (i6 a0)), (4, (ow 4)), (5, (ow 5)), (6, (ow 6)), (8, (i6 r9)), (9, (i6 r12)), (10, (ow 10)), (28, (.bool ((decide ((IntKind.i64.wrap (r9 + r12)) > 63)))))], [(4, (bk (eA64u8 a1))), (5, (bk (eA64u8 a2))), (6, (bk (eA64u8 ((vrep 64 (0 : Int)))))), (10, (bk (eA64u8 ((vrep 64 (0 : Int))))))]⟩ (by kernel_rfl) ?_)))))))))
      cases hb22 : (decide ((IntKind.i64.wrap (r9 + r12)) > 63))
      · have h := ite_f hb22 h
        refine a_cond_f rfl (a_skip (a_next (σ' := ⟨[(0, (i6 a0)), (4, (ow 4)), (5, (ow 5)), (6, (ow 6)), (8, (i6 r9)), (9, (i6 r12)), (10, (ow 10))], [(4, (bk (eA64u8 a1))), (5, (bk (eA64u8 a2))), (6, (bk (eA64u8 ((vrep 64 (0 : Int)))))), (10, (bk (eA64u8 ((vrep 64 (0 : Int))))))]⟩) (by kernel_rfl) ?_))
        obtain ⟨y815, hy816, hk817⟩ := bind_some h
        clear h
        refine a_join (emb := fun (s : (Vec Int 64)) => ⟨[(6, (ow 6)), (10, (ow 10))], [(6, (bk (eA64u8 ((vrep 64 (0 : Int)))))), (10, (bk (eA64u8 s)))]⟩) (pre := fun s => s = y815) ?_ ?_
        · rintro x814 rfl
          have h := hk817
          refine a_st (σ' := ⟨[(6, (ow 6)), (10, (ow 10))], [(6, (bk (eA64u8 ((vrep 64 (0 : Int)))))), (10, (bk (eA64u8 x814)))]⟩) (by kernel_rfl) (sr (vl (eA64u8 x814) rfl rfl rfl rfl rfl rfl (vs (eA64u8 x814) rfl rfl (fun _ => rfl) rfl rfl rfl rfl rfl rfl (vp (.bool true) rfl (nx _ rfl (a_ret ?_))))))
          have hl1615 : LdOk [] (eA64u8 x814) [] 64 true (eA64u8 x814) := (.nil rfl rfl rfl)
          refine ⟨.inr rfl, ?_⟩
          rw [Try.results93]
          cases h
          exact ⟨_, _, _, _, _, ld_own (i := ⟨.arr 64 5, 64, 64, (eA64u8 (vrep 64 (0 : Int)))⟩) rfl rfl rfl hl1615, hl1615.c, .inl ⟨rfl, .inl rfl⟩, rfl, ⟨_, _, _, _, _, rfl, trivial, .inl ⟨rfl, .inl rfl⟩, rfl, rfl⟩⟩
        · have h := hy816
          refine sr (vp (i6 0) rfl (nx ⟨[(0, (i6 a0)), (4, (ow 4)), (5, (ow 5)), (6, (ow 6)), (8, (i6 r9)), (9, (i6 r12)), (10, (ow 10)), (11, (i6 0))], [(4, (bk (eA64u8 a1))), (5, (bk (eA64u8 a2))), (6, (bk (eA64u8 ((vrep 64 (0 : Int)))))), (10, (bk (eA64u8 ((vrep 64 (0 : Int))))))]⟩ (by kernel_rfl) (a_block ?_)))
          refine a_loop (emb := fun (s : (Int × (Vec Int 64))) => ⟨[(0, (i6 a0)), (4, (ow 4)), (5, (ow 5)), (6, (ow 6)), (8, (i6 r9)), (9, (i6 r12)), (10, (ow 10)), (11, (i6 s.1))], [(4, (bk (eA64u8 a1))), (5, (bk (eA64u8 a2))), (6, (bk (eA64u8 ((vrep 64 (0 : Int)))))), (10, (bk (eA64u8 s.2)))]⟩) (body := (fun s : (Int × (Vec Int 64)) => spec_l01Times_l1 r9 r12 a1 a2 a0 s.1 s.2)) (G := fun q => some q = some y815) h rfl ?_ (by kernel_rfl)
          rintro X1346 ⟨x1081, x1082⟩ x1347 h hX1348
          have h : spec_l01Times_l1 r9 r12 a1 a2 a0 x1081 x1082 = some x1347 := h
          refine a_st (σ' := ⟨[(0, (i6 a0)), (4, (ow 4)), (5, (ow 5)), (6, (ow 6)), (8, (i6 r9)), (9, (i6 r12)), (10, (ow 10)), (11, (i6 x1081))], [(4, (bk (eA64u8 a1))), (5, (bk (eA64u8 a2))), (6, (bk (eA64u8 ((vrep 64 (0 : Int)))))), (10, (bk (eA64u8 x1082)))]⟩) (by kernel_rfl) (a_seq (sr (vp (i6 x1081) rfl (vp (i6 r9) rfl (vp (.bool ((decide (x1081 ≤ r9)))) rfl (nx ⟨[(0, (i6 a0)), (4, (ow 4)), (5, (ow 5)), (6, (ow 6)), (8, (i6 r9)), (9, (i6 r12)), (10, (ow 10)), (11, (i6 x1081)), (32, (.bool ((decide (x1081 ≤ r9)))))], [(4, (bk (eA64u8 a1))), (5, (bk (eA64u8 a2))), (6, (bk (eA64u8 ((vrep 64 (0 : Int)))))), (10, (bk (eA64u8 x1082)))]⟩ (by kernel_rfl) ?_))))))
          cases hb1349 : (decide (x1081 ≤ r9))
          · have h := ite_f hb1349 h
            refine a_cond_f rfl (a_exit (t_exit ?_))
            cases h
            have h := hX1348
            refine t_exit (b_exit ?_)
            exact j_leaf x1082 (Option.some.inj h) (by kernel_rfl)
          · have h := ite_t hb1349 h
            refine a_cond_t rfl (a_skip (a_next (σ' := ⟨[(0, (i6 a0)), (4, (ow 4)), (5, (ow 5)), (6, (ow 6)), (8, (i6 r9)), (9, (i6 r12)), (10, (ow 10)), (11, (i6 x1081))], [(4, (bk (eA64u8 a1))), (5, (bk (eA64u8 a2))), (6, (bk (eA64u8 ((vrep 64 (0 : Int)))))), (10, (bk (eA64u8 x1082)))]⟩) (by kernel_rfl) ?_))
            obtain ⟨y1480, hy1481, hk1482⟩ := bind_some h
            clear h
            refine a_join (emb := fun (s : (Vec Int 64)) => ⟨[(0, (i6 a0)), (4, (ow 4)), (5, (ow 5)), (6, (ow 6)), (8, (i6 r9)), (9, (i6 r12)), (10, (ow 10)), (11, (i6 x1081))], [(4, (bk (eA64u8 a1))), (5, (bk (eA64u8 a2))), (6, (bk (eA64u8 ((vrep 64 (0 : Int)))))), (10, (bk (eA64u8 s)))]⟩) (pre := fun s => s = y1480) ?_ ?_
            · rintro x1479 rfl
              have h := hk1482
              refine a_st (σ' := ⟨[(0, (i6 a0)), (4, (ow 4)), (5, (ow 5)), (6, (ow 6)), (8, (i6 r9)), (9, (i6 r12)), (10, (ow 10)), (11, (i6 x1081))], [(4, (bk (eA64u8 a1))), (5, (bk (eA64u8 a2))), (6, (bk (eA64u8 ((vrep 64 (0 : Int)))))), (10, (bk (eA64u8 x1479)))]⟩) (by kernel_rfl) (a_region (vp (i6 x1081) rfl (vp (i6 (IntKind.i64.wrap (x1081 + 1))) rfl (vp (i6 (IntKind.i64.wrap (x1081 + 1))) rfl (a_nil ?_)))))
              cases h
              exact a_again (by kernel_rfl) hX1348
            · have h := hy1481
              refine a_block (sr (vp (i6 0) rfl (nx ⟨[(0, (i6 a0)), (4, (ow 4)), (5, (ow 5)), (6, (ow 6)), (8, (i6 r9)), (9, (i6 r12)), (10, (ow 10)), (11, (i6 x1081)), (12, (i6 0))], [(4, (bk (eA64u8 a1))), (5, (bk (eA64u8 a2))), (6, (bk (eA64u8 ((vrep 64 (0 : Int)))))), (10, (bk (eA64u8 x1082)))]⟩ (by kernel_rfl) (a_block ?_))))
              refine a_loop (emb := fun (s : (Int × (Vec Int 64))) => ⟨[(0, (i6 a0)), (4, (ow 4)), (5, (ow 5)), (6, (ow 6)), (8, (i6 r9)), (9, (i6 r12)), (10, (ow 10)), (11, (i6 x1081)), (12, (i6 s.1))], [(4, (bk (eA64u8 a1))), (5, (bk (eA64u8 a2))), (6, (bk (eA64u8 ((vrep 64 (0 : Int)))))), (10, (bk (eA64u8 s.2)))]⟩) (body := (fun s : (Int × (Vec Int 64)) => spec_l01Times_l2 r12 x1081 a1 a2 a0 s.1 s.2)) (G := fun q => some q = some y1480) h rfl ?_ (by kernel_rfl)
              rintro X1567 ⟨x1524, x1525⟩ x1568 h hX1569
              have h : spec_l01Times_l2 r12 x1081 a1 a2 a0 x1524 x1525 = some x1568 := h
              refine a_st (σ' := ⟨[(0, (i6 a0)), (4, (ow 4)), (5, (ow 5)), (6, (ow 6)), (8, (i6 r9)), (9, (i6 r12)), (10, (ow 10)), (11, (i6 x1081)), (12, (i6 x1524))], [(4, (bk (eA64u8 a1))), (5, (bk (eA64u8 a2))), (6, (bk (eA64u8 ((vrep 64 (0 : Int)))))), (10, (bk (eA64u8 x1525)))]⟩) (by kernel_rfl) (a_seq ?_)
              obtain ⟨y1574, hy1575, hk1576⟩ := bind_some h
              clear h
              refine a_join (emb := fun (s : Bool) => ⟨[(0, (i6 a0)), (4, (ow 4)), (5, (ow 5)), (6, (ow 6)), (8, (i6 r9)), (9, (i6 r12)), (10, (ow 10)), (11, (i6 x1081)), (12, (i6 x1524)), (43, (.bool s))], [(4, (bk (eA64u8 a1))), (5, (bk (eA64u8 a2))), (6, (bk (eA64u8 ((vrep 64 (0 : Int)))))), (10, (bk (eA64u8 x1525)))]⟩) (pre := fun s => s = y1574) ?_ ?_
              · rintro x1573 rfl
                have h := hk1576
                refine a_st (σ' := ⟨[(0, (i6 a0)), (4, (ow 4)), (5, (ow 5)), (6, (ow 6)), (8, (i6 r9)), (9, (i6 r12)), (10, (ow 10)), (11, (i6 x1081)), (12, (i6 x1524)), (43, (.bool x1573))], [(4, (bk (eA64u8 a1))), (5, (bk (eA64u8 a2))), (6, (bk (eA64u8 ((vrep 64 (0 : Int)))))), (10, (bk (eA64u8 x1525)))]⟩) (by kernel_rfl) ?_
                cases hb1580 : x1573
                · have h := ite_f hb1580 h
                  refine a_cond_f rfl (a_exit (t_exit ?_))
                  cases h
                  have h := hX1569
                  refine t_exit (b_exit (b_norm ?_))
                  exact j_leaf x1525 (Option.some.inj h) (by kernel_rfl)
                · have h := ite_t hb1580 h
                  refine a_cond_t rfl (a_skip (a_next (σ' := ⟨[(0, (i6 a0)), (4, (ow 4)), (5, (ow 5)), (6, (ow 6)), (8, (i6 r9)), (9, (i6 r12)), (10, (ow 10)), (11, (i6 x1081)), (12, (i6 x1524))], [(4, (bk (eA64u8 a1))), (5, (bk (eA64u8 a2))), (6, (bk (eA64u8 ((vrep 64 (0 : Int)))))), (10, (bk (eA64u8 x1525)))]⟩) (by kernel_rfl) (a_seq (a_block (a_draw [⟨[], [], [], []⟩, ⟨[], [], [], []⟩, ⟨[], [], [], [0, 1]⟩, ⟨[], [], [], []⟩, ⟨[], [], [], []⟩, ⟨[], [], [], [3, 4]⟩, ⟨[10], [], [10], [3, 4, 5]⟩, ⟨[10], [], [], [3, 4, 5, 6]⟩, ⟨[], [], [], [3, 4, 5, 6, 7]⟩, ⟨[], [], [], []⟩, ⟨[4], [], [4], [9]⟩, ⟨[4], [], [], [9, 10]⟩, ⟨[], [], [], [9, 10, 11]⟩, ⟨[], [], [], []⟩, ⟨[5], [], [5], [13]⟩, ⟨[5], [], [], [13, 14]⟩, ⟨[], [], [], [13, 14, 15]⟩, ⟨[], [], [], [9, 10, 11, 12, 13, 14, 15, 16]⟩, ⟨[], [], [], [3, 4, 5, 6, 7, 8, 9, 10, 11, 12, 13, 14, 15, 16, 17]⟩, ⟨[], [], [], []⟩, ⟨[], [], [], [3, 4, 5, 6, 7, 8, 9, 10, 11, 12, 13, 14, 15, 16, 17, 18, 19]⟩, ⟨[], [], [], [3, 4, 5, 6, 7, 8, 9, 10, 11, 12, 13, 14, 15, 16, 17, 18, 19, 20]⟩, ⟨[10], [], [10], [0, 1, 2, 3, 4, 5, 6, 7, 8, 9, 10, 11, 12, 13, 14, 15, 16, 17, 18, 19, 20, 21]⟩, ⟨[10], [10], [], [0, 1, 2, 3, 4, 5, 6, 7, 8, 9, 10, 11, 12, 13, 14, 15, 16, 17, 18, 19, 20, 21, 22]⟩] (by kernel_rfl) (dp (i6 x1081) rfl (by kernel_rfl) (dp (i6 x1524) rfl (by kernel_rfl) (dp (i6 (IntKind.i64.wrap (x1081 + x1524))) rfl (by kernel_rfl) (dp (i6 x1081) rfl (by kernel_rfl) ?_)))))))))
                  refine dp (i6 x1524) rfl (by kernel_rfl) (dp (i6 (IntKind.i64.wrap (x1081 + x1524))) rfl (by kernel_rfl) (d_cons ?_))
                  obtain ⟨hc1596, h⟩ := ifp_some h
                  refine vq (.own 10 [(IntKind.i64.wrap (x1081 + x1524)).toNat] [(IntKind.i64.wrap (x1081 + x1524)).toNat * 1]) rfl hc1596 (d_next (by kernel_rfl) (d_cons ?_))
                  have hl1597 : LdOk [(IntKind.i64.wrap (x1081 + x1524)).toNat] (eA64u8 x1525) [(IntKind.i64.wrap (x1081 + x1524)).toNat * 1] 1 false (b8 ((rd x1525.1 (IntKind.i64.wrap (x1081 + x1524)).toNat))) := (.arr (vlt x1525 hc1596) rfl (.nil rfl rfl rfl))
                  refine vq (b8 ((rd x1525.1 (IntKind.i64.wrap (x1081 + x1524)).toNat))) (ld_own (i := ⟨.int .u8, 1, 1, (.int .u8 0)⟩) rfl rfl rfl hl1597) hl1597.c (d_next (by kernel_rfl) (d_cons ?_))
                  obtain ⟨x1598, hx1599, h⟩ := letp_some h
                  refine a_val' (v := (i6 (IntKind.i64.wrap ((rd x1525.1 (IntKind.i64.wrap (x1081 + x1524)).toNat))))) (v' := (i6 x1598)) (u := []) (u' := []) rfl (congrArg (fun z => ((i6 z) : AV)) hx1599) rfl trivial rfl (d_next (by kernel_rfl) (dp (i6 x1081) rfl (by kernel_rfl) (d_cons ?_)))
                  obtain ⟨hc1600, h⟩ := ifp_some h
                  refine vq (.own 4 [x1081.toNat] [x1081.toNat * 1]) rfl hc1600 (d_next (by kernel_rfl) (d_cons ?_))
                  have hl1601 : LdOk [x1081.toNat] (eA64u8 a1) [x1081.toNat * 1] 1 false (b8 (rd a1.1 x1081.toNat)) := (.arr (vlt a1 hc1600) rfl (.nil rfl rfl rfl))
                  refine vq (b8 (rd a1.1 x1081.toNat)) (ld_own (i := ⟨.int .u8, 1, 1, (.int .u8 0)⟩) rfl rfl rfl hl1601) hl1601.c (d_next (by kernel_rfl) (dp (i6 (IntKind.i64.wrap (rd a1.1 x1081.toNat))) rfl (by kernel_rfl) (dp (i6 x1524) rfl (by kernel_rfl) (d_cons ?_))))
                  obtain ⟨hc1602, h⟩ := ifp_some h
                  refine vq (.own 5 [x1524.toNat] [x1524.toNat * 1]) rfl hc1602 (d_next (by kernel_rfl) (d_cons ?_))
                  have hl1603 : LdOk [x1524.toNat] (eA64u8 a2) [x1524.toNat * 1] 1 false (b8 (rd a2.1 x1524.toNat)) := (.arr (vlt a2 hc1602) rfl (.nil rfl rfl rfl))
                  refine vq (b8 (rd a2.1 x1524.toNat)) (ld_own (i := ⟨.int .u8, 1, 1, (.int .u8 0)⟩) rfl rfl rfl hl1603) hl1603.c (d_next (by kernel_rfl) (dp (i6 (IntKind.i64.wrap (rd a2.1 x1524.toNat))) rfl (by kernel_rfl) (d_cons ?_)))
                  obtain ⟨x1604, hx1605, h⟩ := letp_some h
                  refine a_val' (v := (i6 (IntKind.i64.wrap ((IntKind.i64.wrap (rd a1.1 x1081.toNat)) * (IntKind.i64.wrap (rd a2.1 x1524.toNat)))))) (v' := (i6 x1604)) (u := []) (u' := []) rfl (congrArg (fun z => ((i6 z) : AV)) hx1605) rfl trivial rfl (d_next (by kernel_rfl) (dp (i6 (IntKind.i64.wrap (x1598 + x1604))) rfl (by kernel_rfl) (dp (i6 a0) rfl (by kernel_rfl) (d_cons ?_))))
                  obtain ⟨hc1606, h⟩ := ifp_some h
                  refine vq (i6 (Int.tmod (IntKind.i64.wrap (x1598 + x1604)) a0)) rfl hc1606 (d_next (by kernel_rfl) (d_cons ?_))
                  obtain ⟨x1607, hx1608, h⟩ := letp_some h
                  refine a_val' (v := (b8 (IntKind.u8.wrap (Int.tmod (IntKind.i64.wrap (x1598 + x1604)) a0)))) (v' := (b8 x1607)) (u := []) (u' := []) rfl (congrArg (fun z => ((b8 z) : AV)) hx1608) rfl trivial rfl (d_next (by kernel_rfl) (d_cons ?_))
                  obtain ⟨hc1609, h⟩ := ifp_some h
                  refine vq (.own 10 [(IntKind.i64.wrap (x1081 + x1524)).toNat] [(IntKind.i64.wrap (x1081 + x1524)).toNat * 1]) rfl hc1609 (d_next (by kernel_rfl) (d_cons ?_))
                  have hs1610 : StOk [(IntKind.i64.wrap (x1081 + x1524)).toNat] (eA64u8 x1525) [(IntKind.i64.wrap (x1081 + x1524)).toNat * 1] 1 (b8 x1607) (eA64u8 ((vset x1525 (IntKind.i64.wrap (x1081 + x1524)).toNat x1607))) := (.arr (y := x1607) (vlt x1525 hc1609) rfl (.nil rfl rfl rfl rfl))
                  refine vu .top [(10, (bk (eA64u8 ((vset x1525 (IntKind.i64.wrap (x1081 + x1524)).toNat x1607)))))] (st_own (i := ⟨.int .u8, 1, 1, (.int .u8 0)⟩) rfl rfl (fun _ => rfl) rfl hs1610) (hs1610.c rfl) rfl (d_next (by kernel_rfl) (d_nil (b_norm (a_next (σ' := ⟨[(0, (i6 a0)), (4, (ow 4)), (5, (ow 5)), (6, (ow 6)), (8, (i6 r9)), (9, (i6 r12)), (10, (ow 10)), (11, (i6 x1081)), (12, (i6 x1524))], [(4, (bk (eA64u8 a1))), (5, (bk (eA64u8 a2))), (6, (bk (eA64u8 ((vrep 64 (0 : Int)))))), (10, (bk (eA64u8 ((vset x1525 (IntKind.i64.wrap (x1081 + x1524)).toNat x1607)))))]⟩) (by kernel_rfl) (a_region (vp (i6 x1524) rfl (vp (i6 (IntKind.i64.wrap (x1524 + 1))) rfl (vp (i6 (IntKind.i64.wrap (x1524 + 1))) rfl (a_nil ?_)))))))))
                  cases h
                  exact a_again (by kernel_rfl) hX1569
              · have h := hy1575
                refine a_region (vp (i6 x1524) rfl (vp (i6 r12) rfl (vp (.bool ((decide (x1524 ≤ r12)))) rfl (vp (.bool ((decide (x1524 ≤ r12)))) rfl ?_))))
                cases hb1577 : (decide (x1524 ≤ r12))
                · have h := ite_f hb1577 h
                  refine a_gskip rfl (a_gskip rfl (a_gskip rfl (a_gskip rfl (vp (.bool false) rfl (a_nil ?_)))))
                  exact j_leaf false (Option.some.inj h) (by kernel_rfl)
                · have h := ite_t hb1577 h
                  refine gp (i6 x1081) rfl rfl ?_
                  obtain ⟨hc1578, h⟩ := ifp_some h
                  refine gq (.own 4 [x1081.toNat] [x1081.toNat * 1]) rfl rfl hc1578 ?_
                  have hl1579 : LdOk [x1081.toNat] (eA64u8 a1) [x1081.toNat * 1] 1 false (b8 (rd a1.1 x1081.toNat)) := (.arr (vlt a1 hc1578) rfl (.nil rfl rfl rfl))
                  refine gq (b8 (rd a1.1 x1081.toNat)) rfl (ld_own (i := ⟨.int .u8, 1, 1, (.int .u8 0)⟩) rfl rfl rfl hl1579) hl1579.c (gp (.bool (((rd a1.1 x1081.toNat) != 0))) rfl rfl (vp (.bool (((rd a1.1 x1081.toNat) != 0))) rfl (a_nil ?_)))
                  exact j_leaf (((rd a1.1 x1081.toNat) != 0)) (Option.some.inj h) (by kernel_rfl)
      · have h := ite_t hb22 h
        refine a_cond_t rfl (sr (vl (eA64u8 ((vrep 64 (0 : Int)))) rfl rfl rfl rfl rfl rfl (vs (eA64u8 ((vrep 64 (0 : Int)))) rfl rfl (fun _ => rfl) rfl rfl rfl rfl rfl rfl (vp (.bool false) rfl (nx _ rfl (a_ret (t_ret ?_)))))))
        have hl1618 : LdOk [] (eA64u8 ((vrep 64 (0 : Int)))) [] 64 true (eA64u8 ((vrep 64 (0 : Int)))) := (.nil rfl rfl rfl)
        refine ⟨.inr rfl, ?_⟩
        rw [Try.results93]
        cases h
        exact ⟨_, _, _, _, _, ld_own (i := ⟨.arr 64 5, 64, 64, (eA64u8 (vrep 64 (0 : Int)))⟩) rfl rfl rfl hl1618, hl1618.c, .inl ⟨rfl, .inl rfl⟩, rfl, ⟨_, _, _, _, _, rfl, trivial, .inl ⟨rfl, .inl rfl⟩, rfl, rfl⟩⟩
    · have h := ite_t hb21 h
      refine a_cond_t rfl (sr (vl (eA64u8 ((vrep 64 (0 : Int)))) rfl rfl rfl rfl rfl rfl (vs (eA64u8 ((vrep 64 (0 : Int)))) rfl rfl (fun _ => rfl) rfl rfl rfl rfl rfl rfl (vp (.bool true) rfl (nx _ rfl (a_ret (t_ret ?_)))))))
      have hl1621 : LdOk [] (eA64u8 ((vrep 64 (0 : Int)))) [] 64 true (eA64u8 ((vrep 64 (0 : Int)))) := (.nil rfl rfl rfl)
      refine ⟨.inr rfl, ?_⟩
      rw [Try.results93]
      cases h
      exact ⟨_, _, _, _, _, ld_own (i := ⟨.arr 64 5, 64, 64, (eA64u8 (vrep 64 (0 : Int)))⟩) rfl rfl rfl hl1621, hl1621.c, .inl ⟨rfl, .inl rfl⟩, rfl, ⟨_, _, _, _, _, rfl, trivial, .inl ⟨rfl, .inl rfl⟩, rfl, rfl⟩⟩
  · have h := hy18
    refine a_region (vp (i6 r9) rfl (vp (.bool ((decide (r9 < 0)))) rfl (vp (.bool ((decide (r9 < 0)))) rfl ?_)))
    cases hb20 : (decide (r9 < 0))
    · have h := ite_f hb20 h
      refine gp (i6 r12) rfl rfl (gp (.bool ((decide (r12 < 0)))) rfl rfl (vp (.bool ((decide (r12 < 0)))) rfl (a_nil ?_)))
      exact j_leaf ((decide (r12 < 0))) (Option.some.inj h) (by kernel_rfl)
    · have h := ite_t hb20 h
      refine a_gskip rfl (a_gskip rfl (vp (.bool true) rfl (a_nil ?_)))
      exact j_leaf true (Option.some.inj h) (by kernel_rfl)
def spec_l01Bezout_c : ACode := (.seq (.region 0 [q 4 (.box 26 (t 1)), q 5 (.box 26 (t 2)), q 6 (.alloc 26), q 7 (.alloc 26), q 8 (.alloc 26)] false) (.seq (.region 1 [q 22 (.call 0 (.func 95) []), q 23 (.build 26 []), q 24 (.build 26 []), q 25 (.call 0 (.func 95) []), q 9 (.alloc 26), q 10 (.alloc 26), q 11 (.alloc 26), q 12 (.alloc 26), ⟨none, .store 26 (t 9) (t 22), none, []⟩, ⟨none, .store 26 (t 10) (t 23), none, []⟩, ⟨none, .store 26 (t 11) (t 24), none, []⟩, ⟨none, .store 26 (t 12) (t 25), none, []⟩] false) (.seq (.block 0 (.loop (.seq (.seq (.region 2 [q 26 (.load 26 (t 5)), q 27 (.call 0 (.func 75) [(t 26)]), q 28 (.bin .geq 2 (t 27) (.const (.int .i64 0)))] false) (.cond (t 28) .skip (.exit 0))) (.block 1 (.seq (.region 3 [q 30 (.mov (t 0)), q 31 (.load 26 (t 4)), q 32 (.load 26 (t 5)), q 33 (.call 0 (.func 97) [(t 30), (t 31), (t 32)]), q 29 (.mov (t 33)), q 34 (.extract (t 29) 0), q 35 (.extract (t 29) 1), q 13 (.alloc 26), q 14 (.alloc 26), ⟨none, .store 26 (t 13) (t 34), none, []⟩, ⟨none, .store 26 (t 14) (t 35), none, []⟩] false) (.seq (.region 4 [q 37 (.mov (t 0)), q 38 (.load 26 (t 13)), q 39 (.load 26 (t 10)), q 40 (.call 0 (.func 93) [(t 37), (t 38), (t 39)]), q 36 (.mov (t 40)), q 41 (.extract (t 36) 0), q 42 (.extract (t 36) 1), q 15 (.alloc 26), ⟨none, .store 26 (t 15) (t 41), none, []⟩, q 16 (.asg 0 (t 42) 4)] false) (.seq (.region 5 [q 44 (.mov (t 0)), q 45 (.load 26 (t 13)), q 46 (.load 26 (t 12)), q 47 (.call 0 (.func 93) [(t 44), (t 45), (t 46)]), q 43 (.mov (t 47)), q 48 (.extract (t 43) 0), q 49 (.extract (t 43) 1), q 17 (.alloc 26), ⟨none, .store 26 (t 17) (t 48), none, []⟩, q 18 (.asg 0 (t 49) 4)] false) (.seq (.region 6 [q 50 (.mov (t 0)), q 51 (.load 26 (t 9)), q 52 (.load 26 (t 15)), ⟨some 53, .call 0 (.func 94) [(t 50), (t 51), (t 52), (.const (.int .i64 (-1)))], none, [0, 1, 2]⟩, q 54 (.mov (t 0)), q 55 (.load 26 (t 11)), q 56 (.load 26 (t 17)), ⟨some 57, .call 0 (.func 94) [(t 54), (t 55), (t 56), (.const (.int .i64 (-1)))], none, [4, 5, 6, 3]⟩, q 19 (.alloc 26), q 20 (.alloc 26), ⟨none, .store 26 (t 19) (t 53), none, [8, 3, 7, 0, 1, 2, 3, 8, 9]⟩, ⟨none, .store 26 (t 20) (t 57), none, [9, 7, 10, 0, 1, 2, 3, 4, 5, 6, 7, 8, 9, 10]⟩] true) (.seq (.region 7 [q 58 (.load 26 (t 5)), ⟨none, .store 26 (t 4) (t 58), none, []⟩] false) (.seq (.region 8 [q 59 (.load 26 (t 14)), ⟨none, .store 26 (t 5) (t 59), none, []⟩] false) (.seq (.region 9 [q 60 (.load 26 (t 10)), ⟨none, .store 26 (t 9) (t 60), none, []⟩] false) (.seq (.region 10 [q 61 (.load 26 (t 12)), ⟨none, .store 26 (t 11) (t 61), none, []⟩] false) (.seq (.region 11 [q 62 (.load 26 (t 19)), ⟨none, .store 26 (t 10) (t 62), none, []⟩] false) (.region 12 [q 63 (.load 26 (t 20)), ⟨none, .store 26 (t 12) (t 63), none, []⟩] false)))))))))))))) (.seq (.region 13 [q 64 (.mov (t 0)), q 65 (.load 26 (t 4)), q 66 (.call 0 (.func 75) [(t 65)]), q 67 (.indexAddr 26 (t 4) (t 66)), q 68 (.load 5 (t 67)), q 69 (.call 0 (.func 148) [(t 64), (t 68)]), q 70 (.conv 5 2 (t 69)), q 21 (.asg 0 (t 70) 2)] false) (.seq (.region 14 [q 71 (.mov (t 0)), q 72 (.build 26 []), q 73 (.load 26 (t 4)), q 74 (.mov (t 21)), ⟨some 75, .call 0 (.func 94) [(t 71), (t 72), (t 73), (t 74)], none, [0, 1, 2, 3]⟩, q 76 (.mov (t 0)), q 77 (.build 26 []), q 78 (.load 26 (t 9)), q 79 (.mov (t 21)), ⟨some 80, .call 0 (.func 94) [(t 76), (t 77), (t 78), (t 79)], none, [5, 6, 7, 8, 4]⟩, q 81 (.mov (t 0)), q 82 (.build 26 []), q 83 (.load 26 (t 11)), q 84 (.mov (t 21)), ⟨some 85, .call 0 (.func 94) [(t 81), (t 82), (t 83), (t 84)], none, [10, 11, 12, 13, 9]⟩, ⟨none, .store 26 (t 6) (t 75), none, [4, 14, 0, 1, 2, 3, 4]⟩, ⟨none, .store 26 (t 7) (t 80), none, [9, 15, 0, 1, 2, 3, 4, 5, 6, 7, 8, 9, 15]⟩, ⟨none, .store 26 (t 8) (t 85), none, [14, 16, 0, 1, 2, 3, 4, 5, 6, 7, 8, 9, 10, 11, 12, 13, 14, 15, 16]⟩] true) .ret)))))
def spec_l01Bezout_L : Live := [(0, [0, 1, 2]), (1, [0, 4, 5, 6, 7, 8]), (2, [0, 4, 5, 6, 7, 8, 9, 10, 11, 12]), (3, [0, 4, 5, 6, 7, 8, 9, 10, 11, 12]), (4, [0, 4, 5, 6, 7, 8, 9, 10, 11, 12, 13, 14]), (5, [0, 4, 5, 6, 7, 8, 9, 10, 11, 12, 13, 14, 15]), (6, [0, 4, 5, 6, 7, 8, 9, 10, 11, 12, 14, 15, 17]), (7, [0, 4, 5, 6, 7, 8, 9, 10, 11, 12, 14, 19, 20]), (8, [0, 4, 5, 6, 7, 8, 9, 10, 11, 12, 14, 19, 20]), (9, [0, 4, 5, 6, 7, 8, 9, 10, 11, 12, 19, 20]), (10, [0, 4, 5, 6, 7, 8, 9, 10, 11, 12, 19, 20]), (11, [0, 4, 5, 6, 7, 8, 9, 10, 11, 12, 19, 20]), (12, [0, 4, 5, 6, 7, 8, 9, 10, 11, 12, 20]), (13, [0, 4, 6, 7, 8, 9, 11]), (14, [0, 4, 6, 7, 8, 9, 11, 21]), (100028, [0, 4, 5, 6, 7, 8, 9, 10, 11, 12, 28])]
noncomputable def spec_l01Bezout_l1 (a0 : Int) (x233 : (Vec Int 64)) (x234 : (Vec Int 64)) (x235 : (Vec Int 64)) (x236 : (Vec Int 64)) (x237 : (Vec Int 64)) (x238 : (Vec Int 64)) : Option (((Vec Int 64) × (Vec Int 64) × (Vec Int 64) × (Vec Int 64) × (Vec Int 64) × (Vec Int 64)) ⊕ ((Vec Int 64) × (Vec Int 64) × (Vec Int 64))) :=
  (Option.bind (spec_l01Deg x234) fun r295 => (if (decide (r295 ≥ 0)) then (Option.bind (spec_l01Divide a0 x233 x234) fun r300 => (Option.bind (spec_l01Times a0 r300.1 x236) fun r306 => (Option.bind (spec_l01Times a0 r300.1 x238) fun r311 => (Option.bind (spec_l01Add a0 x235 r306.1 (-1)) fun r326 => (Option.bind (spec_l01Add a0 x237 r311.1 (-1)) fun r330 => (some (.inl (x234, r300.2, x236, r326, x238, r330)))))))) else (some (.inr (x233, x235, x237)))))
noncomputable def spec_l01Bezout (a0 : Int) (a1 : (Vec Int 64)) (a2 : (Vec Int 64)) : Option ((Vec Int 64) × (Vec Int 64) × (Vec Int 64)) :=
  (Option.bind (spec_l01One) fun r1 => (Option.bind (spec_l01One) fun r3 => (Option.bind (α := ((Vec Int 64) × (Vec Int 64) × (Vec Int 64))) ((loopM (fun s : ((Vec Int 64) × (Vec Int 64) × (Vec Int 64) × (Vec Int 64) × (Vec Int 64) × (Vec Int 64)) => spec_l01Bezout_l1 a0 s.1 s.2.1 s.2.2.1 s.2.2.2.1 s.2.2.2.2.1 s.2.2.2.2.2) (a1, a2, r1, (vrep 64 (0 : Int)), (vrep 64 (0 : Int)), r3))) fun ⟨x175, x176, x177⟩ => (Option.bind (spec_l01Deg x175) fun r348 => (ifp (0 ≤ r348 ∧ r348 < ((64 : Nat) : Int)) ((Option.bind (spec_l01Inverse a0 (rd x175.1 r348.toNat)) fun r352 => (Option.bind (spec_l01Add a0 ((vrep 64 (0 : Int))) x175 (IntKind.i64.wrap r352)) fun r367 => (Option.bind (spec_l01Add a0 ((vrep 64 (0 : Int))) x176 (IntKind.i64.wrap r352)) fun r370 => (Option.bind (spec_l01Add a0 ((vrep 64 (0 : Int))) x177 (IntKind.i64.wrap r352)) fun r373 => (some (r367, r370, r373))))))))))))
theorem spec_l01Bezout_ok (a0 : Int) (a1 : (Vec Int 64)) (a2 : (Vec Int 64)) (r : ((Vec Int 64) × (Vec Int 64) × (Vec Int 64))) (h : spec_l01Bezout a0 a1 a2 = some r) : Den Try.prog 163 [(i6 a0), (eA64u8 a1), (eA64u8 a2)] { r := (.tuple [(eA64u8 r.1), (eA64u8 r.2.1), (eA64u8 r.2.2)]) } := by
  refine den_of (rs := [(eA64u8 r.1), (eA64u8 r.2.1), (eA64u8 r.2.2)]) (ac := spec_l01Bezout_c) (L := spec_l01Bezout_L) (n := 86) (m := []) (c := Try.f163.body.getD .skip) good Try.func163 (by kernel_rfl) (by kernel_rfl) Try.ntmps163 rfl rfl (by kernel_rfl) rfl rfl ?_
  refine a_st (σ' := ⟨[(0, (i6 a0)), (1, (eA64u8 a1)), (2, (eA64u8 a2))], []⟩) (by kernel_rfl) ?_
  unfold spec_l01Bezout_c
  refine sr (vo 1400 (eA64u8 a1) rfl rfl (vo 1500 (eA64u8 a2) rfl rfl (vo 1600 (eA64u8 ((vrep 64 (0 : Int)))) rfl rfl (vo 1700 (eA64u8 ((vrep 64 (0 : Int)))) rfl rfl (vo 1800 (eA64u8 ((vrep 64 (0 : Int)))) rfl rfl (nx ⟨[(0, (i6 a0)), (4, (ow 4)), (5, (ow 5)), (6, (ow 6)), (7, (ow 7)), (8, (ow 8))], [(4, (bk (eA64u8 a1))), (5, (bk (eA64u8 a2))), (6, (bk (eA64u8 ((vrep 64 (0 : Int)))))), (7, (bk (eA64u8 ((vrep 64 (0 : Int)))))), (8, (bk (eA64u8 ((vrep 64 (0 : Int))))))]⟩ (by kernel_rfl) (sr ?_)))))))
  obtain ⟨r1, hr2, h⟩ := bind_some h
  refine a_call (args := []) (u := []) (r := (eA64u8 r1)) rfl rfl (spec_l01One_ok r1 hr2) rfl (vq (eA64u8 ((vrep 64 (0 : Int)))) rfl ⟨⟨_, rfl, rfl⟩, all_nil⟩ (vq (eA64u8 ((vrep 64 (0 : Int)))) rfl ⟨⟨_, rfl, rfl⟩, all_nil⟩ ?_))
  obtain ⟨r3, hr4, h⟩ := bind_some h
  refine a_call (args := []) (u := []) (r := (eA64u8 r3)) rfl rfl (spec_l01One_ok r3 hr4) rfl (vo 1900 (eA64u8 ((vrep 64 (0 : Int)))) rfl rfl (vo 2000 (eA64u8 ((vrep 64 (0 : Int)))) rfl rfl (vo 2100 (eA64u8 ((vrep 64 (0 : Int)))) rfl rfl (vo 2200 (eA64u8 ((vrep 64 (0 : Int)))) rfl rfl (vs (eA64u8 r1) rfl rfl (fun _ => rfl) rfl rfl rfl rfl rfl rfl (vs (eA64u8 ((vrep 64 (0 : Int)))) rfl rfl (fun _ => rfl) rfl rfl rfl rfl rfl rfl (vs (eA64u8 ((vrep 64 (0 : Int)))) rfl rfl (fun _ => rfl) rfl rfl rfl rfl rfl rfl (vs (eA64u8 r3) rfl rfl (fun _ => rfl) rfl rfl rfl rfl rfl rfl (nx ⟨[(0, (i6 a0)), (4, (ow 4)), (5, (ow 5)), (6, (ow 6)), (7, (ow 7)), (8, (ow 8)), (9, (ow 9)), (10, (ow 10)), (11, (ow 11)), (12, (ow 12))], [(4, (bk (eA64u8 a1))), (5, (bk (eA64u8 a2))), (6, (bk (eA64u8 ((vrep 64 (0 : Int)))))), (7, (bk (eA64u8 ((vrep 64 (0 : Int)))))), (8, (bk (eA64u8 ((vrep 64 (0 : Int)))))), (9, (bk (eA64u8 r1))), (10, (bk (eA64u8 ((vrep 64 (0 : Int)))))), (11, (bk (eA64u8 ((vrep 64 (0 : Int)))))), (12, (bk (eA64u8 r3)))]⟩ (by kernel_rfl) ?_)))))))))
  obtain ⟨y178, hy179, hk180⟩ := bind_some h
  clear h
  refine a_join (emb := fun (s : ((Vec Int 64) × (Vec Int 64) × (Vec Int 64))) => ⟨[(0, (i6 a0)), (4, (ow 4)), (6, (ow 6)), (7, (ow 7)), (8, (ow 8)), (9, (ow 9)), (11, (ow 11))], [(4, (bk (eA64u8 s.1))), (6, (bk (eA64u8 ((vrep 64 (0 : Int)))))), (7, (bk (eA64u8 ((vrep 64 (0 : Int)))))), (8, (bk (eA64u8 ((vrep 64 (0 : Int)))))), (9, (bk (eA64u8 s.2.1))), (11, (bk (eA64u8 s.2.2)))]⟩) (pre := fun s => s = y178) ?_ ?_
  · rintro ⟨x175, x176, x177⟩ rfl
    have h := hk180
    refine a_st (σ' := ⟨[(0, (i6 a0)), (4, (ow 4)), (6, (ow 6)), (7, (ow 7)), (8, (ow 8)), (9, (ow 9)), (11, (ow 11))], [(4, (bk (eA64u8 x175))), (6, (bk (eA64u8 ((vrep 64 (0 : Int)))))), (7, (bk (eA64u8 ((vrep 64 (0 : Int)))))), (8, (bk (eA64u8 ((vrep 64 (0 : Int)))))), (9, (bk (eA64u8 x176))), (11, (bk (eA64u8 x177)))]⟩) (by kernel_rfl) (sr (vp (i6 a0) rfl (vl (eA64u8 x175) rfl rfl rfl rfl rfl rfl ?_)))
    obtain ⟨r348, hr349, h⟩ := bind_some h
    refine a_call (args := [(eA64u8 x175)]) (u := []) (r := (i6 r348)) rfl rfl (spec_l01Deg_ok x175 r348 hr349) rfl ?_
    obtain ⟨hc350, h⟩ := ifp_some h
    refine vq (.own 4 [r348.toNat] [r348.toNat * 1]) rfl hc350 ?_
    have hl351 : LdOk [r348.toNat] (eA64u8 x175) [r348.toNat * 1] 1 false (b8 (rd x175.1 r348.toNat)) := (.arr (vlt x175 hc350) rfl (.nil rfl rfl rfl))
    refine vq (b8 (rd x175.1 r348.toNat)) (ld_own (i := ⟨.int .u8, 1, 1, (.int .u8 0)⟩) rfl rfl rfl hl351) hl351.c ?_
    obtain ⟨r352, hr353, h⟩ := bind_some h
    refine a_call (args := [(i6 a0), (b8 (rd x175.1 r348.toNat))]) (u := []) (r := (b8 r352)) rfl rfl (spec_l01Inverse_ok a0 (rd x175.1 r348.toNat) r352 hr353) rfl (vp (i6 (IntKind.i64.wrap r352)) rfl (vp (i6 (IntKind.i64.wrap r352)) rfl (nx ⟨[(0, (i6 a0)), (4, (ow 4)), (6, (ow 6)), (7, (ow 7)), (8, (ow 8)), (9, (ow 9)), (11, (ow 11)), (21, (i6 (IntKind.i64.wrap r352)))], [(4, (bk (eA64u8 x175))), (6, (bk (eA64u8 ((vrep 64 (0 : Int)))))), (7, (bk (eA64u8 ((vrep 64 (0 : Int)))))), (8, (bk (eA64u8 ((vrep 64 (0 : Int)))))), (9, (bk (eA64u8 x176))), (11, (bk (eA64u8 x177)))]⟩ (by kernel_rfl) (a_seq (a_draw [⟨[], [], [], []⟩, ⟨[], [], [], []⟩, ⟨[4], [], [], []⟩, ⟨[], [], [], []⟩, ⟨[], [], [], [0, 1, 2, 3]⟩, ⟨[], [], [], []⟩, ⟨[], [], [], []⟩, ⟨[9], [], [], []⟩, ⟨[], [], [], []⟩, ⟨[], [], [], [0, 1, 2, 3, 4, 5, 6, 7, 8]⟩, ⟨[], [], [], []⟩, ⟨[], [], [], []⟩, ⟨[11], [], [], []⟩, ⟨[], [], [], []⟩, ⟨[], [], [], [0, 1, 2, 3, 4, 5, 6, 7, 8, 9, 10, 11, 12, 13]⟩, ⟨[6], [6], [], [0, 1, 2, 3, 4, 5, 6, 7, 8, 9, 10, 11, 12, 13, 14]⟩, ⟨[7], [7], [], [0, 1, 2, 3, 4, 5, 6, 7, 8, 9, 10, 11, 12, 13, 14, 15]⟩, ⟨[8], [8], [], [0, 1, 2, 3, 4, 5, 6, 7, 8, 9, 10, 11, 12, 13, 14, 15, 16]⟩] (by kernel_rfl) (dp (i6 a0) rfl (by kernel_rfl) (d_cons (vq (eA64u8 ((vrep 64 (0 : Int)))) rfl ⟨⟨_, rfl, rfl⟩, all_nil⟩ (d_next (by kernel_rfl) ?_)))))))))
    refine d_cons (vl (eA64u8 x175) rfl rfl rfl rfl rfl rfl (d_next (by kernel_rfl) (dp (i6 (IntKind.i64.wrap r352)) rfl (by kernel_rfl) (d_cons ?_))))
    obtain ⟨r367, hr368, h⟩ := bind_some h
    refine a_call (args := [(i6 a0), (eA64u8 ((vrep 64 (0 : Int)))), (eA64u8 x175), (i6 (IntKind.i64.wrap r352))]) (u := []) (r := (eA64u8 r367)) rfl rfl (spec_l01Add_ok a0 ((vrep 64 (0 : Int))) x175 (IntKind.i64.wrap r352) r367 hr368) rfl (d_next (by kernel_rfl) (dp (i6 a0) rfl (by kernel_rfl) (d_cons (vq (eA64u8 ((vrep 64 (0 : Int)))) rfl ⟨⟨_, rfl, rfl⟩, all_nil⟩ (d_next (by kernel_rfl) (d_cons (vl (eA64u8 x176) rfl rfl rfl rfl rfl rfl (d_next (by kernel_rfl) (dp (i6 (IntKind.i64.wrap r352)) rfl (by kernel_rfl) ?_)))))))))
    refine d_cons ?_
    obtain ⟨r370, hr371, h⟩ := bind_some h
    refine a_call (args := [(i6 a0), (eA64u8 ((vrep 64 (0 : Int)))), (eA64u8 x176), (i6 (IntKind.i64.wrap r352))]) (u := []) (r := (eA64u8 r370)) rfl rfl (spec_l01Add_ok a0 ((vrep 64 (0 : Int))) x176 (IntKind.i64.wrap r352) r370 hr371) rfl (d_next (by kernel_rfl) (dp (i6 a0) rfl (by kernel_rfl) (d_cons (vq (eA64u8 ((vrep 64 (0 : Int)))) rfl ⟨⟨_, rfl, rfl⟩, all_nil⟩ (d_next (by kernel_rfl) (d_cons (vl (eA64u8 x177) rfl rfl rfl rfl rfl rfl (d_next (by kernel_rfl) (dp (i6 (IntKind.i64.wrap r352)) rfl (by kernel_rfl) ?_)))))))))
    refine d_cons ?_
    obtain ⟨r373, hr374, h⟩ := bind_some h
    refine a_call (args := [(i6 a0), (eA64u8 ((vrep 64 (0 : Int)))), (eA64u8 x177), (i6 (IntKind.i64.wrap r352))]) (u := []) (r := (eA64u8 r373)) rfl rfl (spec_l01Add_ok a0 ((vrep 64 (0 : Int))) x177 (IntKind.i64.wrap r352) r373 hr374) rfl (d_next (by kernel_rfl) (d_cons (vs (eA64u8 r367) rfl rfl (fun _ => rfl) rfl rfl rfl rfl rfl rfl (d_next (by kernel_rfl) (d_cons (vs (eA64u8 r370) rfl rfl (fun _ => rfl) rfl rfl rfl rfl rfl rfl (d_next (by kernel_rfl) (d_cons (vs (eA64u8 r373) rfl rfl (fun _ => rfl) rfl rfl rfl rfl rfl rfl ?_)))))))))
    refine d_next (by kernel_rfl) (d_nil (a_next rfl (a_ret ?_)))
    have hl378 : LdOk [] (eA64u8 r367) [] 64 true (eA64u8 r367) := (.nil rfl rfl rfl)
    have hl379 : LdOk [] (eA64u8 r370) [] 64 true (eA64u8 r370) := (.nil rfl rfl rfl)
    have hl380 : LdOk [] (eA64u8 r373) [] 64 true (eA64u8 r373) := (.nil rfl rfl rfl)
    refine ⟨.inr rfl, ?_⟩
    rw [Try.results163]
    cases h
    exact ⟨_, _, _, _, _, ld_own (i := ⟨.arr 64 5, 64, 64, (eA64u8 (vrep 64 (0 : Int)))⟩) rfl rfl rfl hl378, hl378.c, .inl ⟨rfl, .inl rfl⟩, rfl, ⟨_, _, _, _, _, ld_own (i := ⟨.arr 64 5, 64, 64, (eA64u8 (vrep 64 (0 : Int)))⟩) rfl rfl rfl hl379, hl379.c, .inl ⟨rfl, .inl rfl⟩, rfl, ⟨_, _, _, _, _, ld_own (i := ⟨.arr 64 5, 64, 64, (eA64u8 (vrep 64 (0 : Int)))⟩) rfl rfl rfl hl380, hl380.c, .inl ⟨rfl, .inl rfl⟩, rfl, rfl⟩⟩⟩
  · have h := hy179
    refine a_block ?_
    refine a_loop (emb := fun (s : ((Vec Int 64) × (Vec Int 64) × (Vec Int 64) × (Vec Int 64) × (Vec Int 64) × (Vec Int 64))) => ⟨[(0, (i6 a0)), (4, (ow 4)), (5, (ow 5)), (6, (ow 6)), (7, (ow 7)), (8, (ow 8)), (9, (ow 9)), (10, (ow 10)), (11, (ow 11)), (12, (ow 12))], [(4, (bk (eA64u8 s.1))), (5, (bk (eA64u8 s.2.1))), (6, (bk (eA64u8 ((vrep 64 (0 : Int)))))), (7, (bk (eA64u8 ((vrep 64 (0 : Int)))))), (8, (bk (eA64u8 ((vrep 64 (0 : Int)))))), (9, (bk (eA64u8 s.2.2.1))), (10, (bk (eA64u8 s.2.2.2.1))), (11, (bk (eA64u8 s.2.2.2.2.1))), (12, (bk (eA64u8 s.2.2.2.2.2)))]⟩) (body := (fun s : ((Vec Int 64) × (Vec Int 64) × (Vec Int 64) × (Vec Int 64) × (Vec Int 64) × (Vec Int 64)) => spec_l01Bezout_l1 a0 s.1 s.2.1 s.2.2.1 s.2.2.2.1 s.2.2.2.2.1 s.2.2.2.2.2)) (G := fun q => some q = some y178) h rfl ?_ (by kernel_rfl)
    rintro X291 ⟨x233, x234, x235, x236, x237, x238⟩ x292 h hX293
    have h : spec_l01Bezout_l1 a0 x233 x234 x235 x236 x237 x238 = some x292 := h
    refine a_st (σ' := ⟨[(0, (i6 a0)), (4, (ow 4)), (5, (ow 5)), (6, (ow 6)), (7, (ow 7)), (8, (ow 8)), (9, (ow 9)), (10, (ow 10)), (11, (ow 11)), (12, (ow 12))], [(4, (bk (eA64u8 x233))), (5, (bk (eA64u8 x234))), (6, (bk (eA64u8 ((vrep 64 (0 : Int)))))), (7, (bk (eA64u8 ((vrep 64 (0 : Int)))))), (8, (bk (eA64u8 ((vrep 64 (0 : Int)))))), (9, (bk (eA64u8 x235))), (10, (bk (eA64u8 x236))), (11, (bk (eA64u8 x237))), (12, (bk (eA64u8 x238)))]⟩) (by kernel_rfl) (a_seq (sr (vl (eA64u8 x234) rfl rfl rfl rfl rfl rfl ?_)))
    obtain ⟨r295, hr296, h⟩ := bind_some h
    refine a_call (args := [(eA64u8 x234)]) (u := []) (r := (i6 r295)) rfl rfl (spec_l01Deg_ok x234 r295 hr296) rfl (vp (.bool ((decide (r295 ≥ 0)))) rfl (nx ⟨[(0, (i6 a0)), (4, (ow 4)), (5, (ow 5)), (6, (ow 6)), (7, (ow 7)), (8, (ow 8)), (9, (ow 9)), (10, (ow 10)), (11, (ow 11)), (12, (ow 12)), (28, (.bool ((decide (r295 ≥ 0)))))], [(4, (bk (eA64u8 x233))), (5, (bk (eA64u8 x234))), (6, (bk (eA64u8 ((vrep 64 (0 : Int)))))), (7, (bk (eA64u8 ((vrep 64 (0 : Int)))))), (8, (bk (eA64u8 ((vrep 64 (0 : Int)))))), (9, (bk (eA64u8 x235))), (10, (bk (eA64u8 x236))), (11, (bk (eA64u8 x237))), (12, (bk (eA64u8 x238)))]⟩ (by kernel_rfl) ?_))
    cases hb297 : (decide (r295 ≥ 0))
    · have h := ite_f hb297 h
      refine a_cond_f rfl (a_exit (t_exit ?_))
      cases h
      have h := hX293
      refine t_exit (b_exit ?_)
      exact j_leaf (x233, x235, x237) (Option.some.inj h) (by kernel_rfl)
    · have h := ite_t hb297 h
      refine a_cond_t rfl (a_skip (a_next (σ' := ⟨[(0, (i6 a0)), (4, (ow 4)), (5, (ow 5)), (6, (ow 6)), (7, (ow 7)), (8, (ow 8)), (9, (ow 9)), (10, (ow 10)), (11, (ow 11)), (12, (ow 12))], [(4, (bk (eA64u8 x233))), (5, (bk (eA64u8 x234))), (6, (bk (eA64u8 ((vrep 64 (0 : Int)))))), (7, (bk (eA64u8 ((vrep 64 (0 : Int)))))), (8, (bk (eA64u8 ((vrep 64 (0 : Int)))))), (9, (bk (eA64u8 x235))), (10, (bk (eA64u8 x236))), (11, (bk (eA64u8 x237))), (12, (bk (eA64u8 x238)))]⟩) (by kernel_rfl) (a_block (sr (vp (i6 a0) rfl (vl (eA64u8 x233) rfl rfl rfl rfl rfl rfl (vl (eA64u8 x234) rfl rfl rfl rfl rfl rfl ?_)))))))
      obtain ⟨r300, hr301, h⟩ := bind_some h
      refine a_call (args := [(i6 a0), (eA64u8 x233), (eA64u8 x234)]) (u := []) (r := (.tuple [(eA64u8 r300.1), (eA64u8 r300.2)])) rfl rfl (spec_l01Divide_ok a0 x233 x234 r300 hr301) rfl (vp (.tuple [(eA64u8 r300.1), (eA64u8 r300.2)]) rfl (vb (eA64u8 r300.1) rfl rfl (vb (eA64u8 r300.2) rfl rfl (vo 2300 (eA64u8 ((vrep 64 (0 : Int)))) rfl rfl (vo 2400 (eA64u8 ((vrep 64 (0 : Int)))) rfl rfl (vs (eA64u8 r300.1) rfl rfl (fun _ => rfl) rfl rfl rfl rfl rfl rfl (vs (eA64u8 r300.2) rfl rfl (fun _ => rfl) rfl rfl rfl rfl rfl rfl (nx ⟨[(0, (i6 a0)), (4, (ow 4)), (5, (ow 5)), (6, (ow 6)), (7, (ow 7)), (8, (ow 8)), (9, (ow 9)), (10, (ow 10)), (11, (ow 11)), (12, (ow 12)), (13, (ow 13)), (14, (ow 14))], [(4, (bk (eA64u8 x233))), (5, (bk (eA64u8 x234))), (6, (bk (eA64u8 ((vrep 64 (0 : Int)))))), (7, (bk (eA64u8 ((vrep 64 (0 : Int)))))), (8, (bk (eA64u8 ((vrep 64 (0 : Int)))))), (9, (bk (eA64u8 x235))), (10, (bk (eA64u8 x236))), (11, (bk (eA64u8 x237))), (12, (bk (eA64u8 x238))), (13, (bk (eA64u8 r300.1))), (14, (bk (eA64u8 r300.2)))]⟩ (by kernel_rfl) (sr ?_)))))))))
      refine vp (i6 a0) rfl (vl (eA64u8 r300.1) rfl rfl rfl rfl rfl rfl (vl (eA64u8 x236) rfl rfl rfl rfl rfl rfl ?_))
      obtain ⟨r306, hr307, h⟩ := bind_some h
      refine a_call (args := [(i6 a0), (eA64u8 r300.1), (eA64u8 x236)]) (u := []) (r := (.tuple [(eA64u8 r306.1), (.bool r306.2)])) rfl rfl (spec_l01Times_ok a0 r300.1 x236 r306 hr307) rfl (vp (.tuple [(eA64u8 r306.1), (.bool r306.2)]) rfl (vb (eA64u8 r306.1) rfl rfl (vb (.bool r306.2) rfl rfl (vo 2500 (eA64u8 ((vrep 64 (0 : Int)))) rfl rfl (vs (eA64u8 r306.1) rfl rfl (fun _ => rfl) rfl rfl rfl rfl rfl rfl (vp (.bool r306.2) rfl (nx ⟨[(0, (i6 a0)), (4, (ow 4)), (5, (ow 5)), (6, (ow 6)), (7, (ow 7)), (8, (ow 8)), (9, (ow 9)), (10, (ow 10)), (11, (ow 11)), (12, (ow 12)), (13, (ow 13)), (14, (ow 14)), (15, (ow 15))], [(4, (bk (eA64u8 x233))), (5, (bk (eA64u8 x234))), (6, (bk (eA64u8 ((vrep 64 (0 : Int)))))), (7, (bk (eA64u8 ((vrep 64 (0 : Int)))))), (8, (bk (eA64u8 ((vrep 64 (0 : Int)))))), (9, (bk (eA64u8 x235))), (10, (bk (eA64u8 x236))), (11, (bk (eA64u8 x237))), (12, (bk (eA64u8 x238))), (13, (bk (eA64u8 r300.1))), (14, (bk (eA64u8 r300.2))), (15, (bk (eA64u8 r306.1)))]⟩ (by kernel_rfl) (sr (vp (i6 a0) rfl ?_)))))))))
      refine vl (eA64u8 r300.1) rfl rfl rfl rfl rfl rfl (vl (eA64u8 x238) rfl rfl rfl rfl rfl rfl ?_)
      obtain ⟨r311, hr312, h⟩ := bind_some h
      refine a_call (args := [(i6 a0), (eA64u8 r300.1), (eA64u8 x238)]) (u := []) (r := (.tuple [(eA64u8 r311.1), (.bool r311.2)])) rfl rfl (spec_l01Times_ok a0 r300.1 x238 r311 hr312) rfl (vp (.tuple [(eA64u8 r311.1), (.bool r311.2)]) rfl (vb (eA64u8 r311.1) rfl rfl (vb (.bool r311.2) rfl rfl (vo 2700 (eA64u8 ((vrep 64 (0 : Int)))) rfl rfl (vs (eA64u8 r311.1) rfl rfl (fun _ => rfl) rfl rfl rfl rfl rfl rfl (vp (.bool r311.2) rfl (nx ⟨[(0, (i6 a0)), (4, (ow 4)), (5, (ow 5)), (6, (ow 6)), (7, (ow 7)), (8, (ow 8)), (9, (ow 9)), (10, (ow 10)), (11, (ow 11)), (12, (ow 12)), (14, (ow 14)), (15, (ow 15)), (17, (ow 17))], [(4, (bk (eA64u8 x233))), (5, (bk (eA64u8 x234))), (6, (bk (eA64u8 ((vrep 64 (0 : Int)))))), (7, (bk (eA64u8 ((vrep 64 (0 : Int)))))), (8, (bk (eA64u8 ((vrep 64 (0 : Int)))))), (9, (bk (eA64u8 x235))), (10, (bk (eA64u8 x236))), (11, (bk (eA64u8 x237))), (12, (bk (eA64u8 x238))), (14, (bk (eA64u8 r300.2))), (15, (bk (eA64u8 r306.1))), (17, (bk (eA64u8 r311.1)))]⟩ (by kernel_rfl) (a_seq (a_draw [⟨[], [], [], []⟩, ⟨[9], [], [], []⟩, ⟨[15], [], [], []⟩, ⟨[], [], [], [0, 1, 2]⟩, ⟨[], [], [], []⟩, ⟨[11], [], [], []⟩, ⟨[17], [], [], []⟩, ⟨[], [], [], [0, 1, 2, 3, 4, 5, 6]⟩, ⟨[2900], [2900], [2900], []⟩, ⟨[3000], [3000], [3000], []⟩, ⟨[2900], [2900], [], [0, 1, 2, 3, 4, 5, 6, 7, 8, 9]⟩, ⟨[3000], [3000], [], [0, 1, 2, 3, 4, 5, 6, 7, 8, 9, 10]⟩] (by kernel_rfl) ?_)))))))))
      refine dp (i6 a0) rfl (by kernel_rfl) (d_cons (vl (eA64u8 x235) rfl rfl rfl rfl rfl rfl (d_next (by kernel_rfl) (d_cons (vl (eA64u8 r306.1) rfl rfl rfl rfl rfl rfl (d_next (by kernel_rfl) (d_cons ?_)))))))
      obtain ⟨r326, hr327, h⟩ := bind_some h
      refine a_call (args := [(i6 a0), (eA64u8 x235), (eA64u8 r306.1), (i6 (-1))]) (u := []) (r := (eA64u8 r326)) rfl rfl (spec_l01Add_ok a0 x235 r306.1 (-1) r326 hr327) rfl (d_next (by kernel_rfl) (dp (i6 a0) rfl (by kernel_rfl) (d_cons (vl (eA64u8 x237) rfl rfl rfl rfl rfl rfl (d_next (by kernel_rfl) (d_cons (vl (eA64u8 r311.1) rfl rfl rfl rfl rfl rfl (d_next (by kernel_rfl) (d_cons ?_)))))))))
      obtain ⟨r330, hr331, h⟩ := bind_some h
      refine a_call (args := [(i6 a0), (eA64u8 x237), (eA64u8 r311.1), (i6 (-1))]) (u := []) (r := (eA64u8 r330)) rfl rfl (spec_l01Add_ok a0 x237 r311.1 (-1) r330 hr331) rfl (d_next (by kernel_rfl) (d_cons (vo 2900 (eA64u8 ((vrep 64 (0 : Int)))) rfl rfl (d_next (by kernel_rfl) (d_cons (vo 3000 (eA64u8 ((vrep 64 (0 : Int)))) rfl rfl (d_next (by kernel_rfl) (d_cons (vs (eA64u8 r326) rfl rfl (fun _ => rfl) rfl rfl rfl rfl rfl rfl ?_)))))))))
      refine d_next (by kernel_rfl) (d_cons (vs (eA64u8 r330) rfl rfl (fun _ => rfl) rfl rfl rfl rfl rfl rfl (d_next (by kernel_rfl) (d_nil (a_next (σ' := ⟨[(0, (i6 a0)), (4, (ow 4)), (5, (ow 5)), (6, (ow 6)), (7, (ow 7)), (8, (ow 8)), (9, (ow 9)), (10, (ow 10)), (11, (ow 11)), (12, (ow 12)), (14, (ow 14)), (19, (ow 19)), (20, (ow 20))], [(4, (bk (eA64u8 x233))), (5, (bk (eA64u8 x234))), (6, (bk (eA64u8 ((vrep 64 (0 : Int)))))), (7, (bk (eA64u8 ((vrep 64 (0 : Int)))))), (8, (bk (eA64u8 ((vrep 64 (0 : Int)))))), (9, (bk (eA64u8 x235))), (10, (bk (eA64u8 x236))), (11, (bk (eA64u8 x237))), (12, (bk (eA64u8 x238))), (14, (bk (eA64u8 r300.2))), (19, (bk (eA64u8 r326))), (20, (bk (eA64u8 r330)))]⟩) (by kernel_rfl) (sr (vl (eA64u8 x234) rfl rfl rfl rfl rfl rfl (vs (eA64u8 x234) rfl rfl (fun _ => rfl) rfl rfl rfl rfl rfl rfl (nx ⟨[(0, (i6 a0)), (4, (ow 4)), (5, (ow 5)), (6, (ow 6)), (7, (ow 7)), (8, (ow 8)), (9, (ow 9)), (10, (ow 10)), (11, (ow 11)), (12, (ow 12)), (14, (ow 14)), (19, (ow 19)), (20, (ow 20))], [(4, (bk (eA64u8 x234))), (5, (bk (eA64u8 x234))), (6, (bk (eA64u8 ((vrep 64 (0 : Int)))))), (7, (bk (eA64u8 ((vrep 64 (0 : Int)))))), (8, (bk (eA64u8 ((vrep 64 (0 : Int)))))), (9, (bk (eA64u8 x235))), (10, (bk (eA64u8 x236))), (11, (bk (eA64u8 x237))), (12, (bk (eA64u8 x238))), (14, (bk (eA64u8 r300.2))), (19, (bk (eA64u8 r326))), (20, (bk (eA64u8 r330)))]⟩ (by kernel_rfl) ?_)))))))))
      refine sr (vl (eA64u8 r300.2) rfl rfl rfl rfl rfl rfl (vs (eA64u8 r300.2) rfl rfl (fun _ => rfl) rfl rfl rfl rfl rfl rfl (nx ⟨[(0, (i6 a0)), (4, (ow 4)), (5, (ow 5)), (6, (ow 6)), (7, (ow 7)), (8, (ow 8)), (9, (ow 9)), (10, (ow 10)), (11, (ow 11)), (12, (ow 12)), (19, (ow 19)), (20, (ow 20))], [(4, (bk (eA64u8 x234))), (5, (bk (eA64u8 r300.2))), (6, (bk (eA64u8 ((vrep 64 (0 : Int)))))), (7, (bk (eA64u8 ((vrep 64 (0 : Int)))))), (8, (bk (eA64u8 ((vrep 64 (0 : Int)))))), (9, (bk (eA64u8 x235))), (10, (bk (eA64u8 x236))), (11, (bk (eA64u8 x237))), (12, (bk (eA64u8 x238))), (19, (bk (eA64u8 r326))), (20, (bk (eA64u8 r330)))]⟩ (by kernel_rfl) (sr (vl (eA64u8 x236) rfl rfl rfl rfl rfl rfl (vs (eA64u8 x236) rfl rfl (fun _ => rfl) rfl rfl rfl rfl rfl rfl (nx ⟨[(0, (i6 a0)), (4, (ow 4)), (5, (ow 5)), (6, (ow 6)), (7, (ow 7)), (8, (ow 8)), (9, (ow 9)), (10, (ow 10)), (11, (ow 11)), (12, (ow 12)), (19, (ow 19)), (20, (ow 20))], [(4, (bk (eA64u8 x234))), (5, (bk (eA64u8 r300.2))), (6, (bk (eA64u8 ((vrep 64 (0 : Int)))))), (7, (bk (eA64u8 ((vrep 64 (0 : Int)))))), (8, (bk (eA64u8 ((vrep 64 (0 : Int)))))), (9, (bk (eA64u8 x236))), (10, (bk (eA64u8 x236))), (11, (bk (eA64u8 x237))), (12, (bk (eA64u8 x238))), (19, (bk (eA64u8 r326))), (20, (bk (eA64u8 r330)))]⟩ (by kernel_rfl) (sr (vl (eA64u8 x238) rfl rfl rfl rfl rfl rfl ?_)))))))))
      refine vs (eA64u8 x238) rfl rfl (fun _ => rfl) rfl rfl rfl rfl rfl rfl (nx ⟨[(0, (i6 a0)), (4, (ow 4)), (5, (ow 5)), (6, (ow 6)), (7, (ow 7)), (8, (ow 8)), (9, (ow 9)), (10, (ow 10)), (11, (ow 11)), (12, (ow 12)), (19, (ow 19)), (20, (ow 20))], [(4, (bk (eA64u8 x234))), (5, (bk (eA64u8 r300.2))), (6, (bk (eA64u8 ((vrep 64 (0 : Int)))))), (7, (bk (eA64u8 ((vrep 64 (0 : Int)))))), (8, (bk (eA64u8 ((vrep 64 (0 : Int)))))), (9, (bk (eA64u8 x236))), (10, (bk (eA64u8 x236))), (11, (bk (eA64u8 x238))), (12, (bk (eA64u8 x238))), (19, (bk (eA64u8 r326))), (20, (bk (eA64u8 r330)))]⟩ (by kernel_rfl) (sr (vl (eA64u8 r326) rfl rfl rfl rfl rfl rfl (vs (eA64u8 r326) rfl rfl (fun _ => rfl) rfl rfl rfl rfl rfl rfl (nx ⟨[(0, (i6 a0)), (4, (ow 4)), (5, (ow 5)), (6, (ow 6)), (7, (ow 7)), (8, (ow 8)), (9, (ow 9)), (10, (ow 10)), (11, (ow 11)), (12, (ow 12)), (20, (ow 20))], [(4, (bk (eA64u8 x234))), (5, (bk (eA64u8 r300.2))), (6, (bk (eA64u8 ((vrep 64 (0 : Int)))))), (7, (bk (eA64u8 ((vrep 64 (0 : Int)))))), (8, (bk (eA64u8 ((vrep 64 (0 : Int)))))), (9, (bk (eA64u8 x236))), (10, (bk (eA64u8 r326))), (11, (bk (eA64u8 x238))), (12, (bk (eA64u8 x238))), (20, (bk (eA64u8 r330)))]⟩ (by kernel_rfl) (a_region (vl (eA64u8 r330) rfl rfl rfl rfl rfl rfl (vs (eA64u8 r330) rfl rfl (fun _ => rfl) rfl rfl rfl rfl rfl rfl (a_nil ?_)))))))))
      refine b_norm ?_
      cases h
      exact a_again (by kernel_rfl) hX293
def spec_l01Gcd_c : ACode := (.seq (.region 0 [q 4 (.box 26 (t 1)), q 5 (.box 26 (t 2)), q 6 (.alloc 26)] false) (.seq (.seq (.region 1 [q 10 (.load 26 (t 4)), q 11 (.call 0 (.func 75) [(t 10)]), q 12 (.bin .lss 2 (t 11) (.const (.int .i64 0))), q 13 (.mov (t 12)), ⟨some 14, .load 26 (t 5), some (13, true), []⟩, ⟨some 15, .call 0 (.func 75) [(t 14)], some (13, true), []⟩, ⟨some 16, .bin .lss 2 (t 15) (.const (.int .i64 0)), some (13, true), []⟩, q 17 (.pick (t 13) (t 16) (.const (.bool false)))] false) (.cond (t 17) (.seq (.region 2 [q 18 (.build 26 []), ⟨none, .store 26 (t 6) (t 18), none, []⟩] false) .ret) .skip)) (.seq (.region 3 [q 20 (.mov (t 0)), q 21 (.load 26 (t 4)), q 22 (.load 26 (t 5)), q 23 (.call 0 (.func 163) [(t 20), (t 21), (t 22)]), q 19 (.mov (t 23)), q 24 (.extract (t 19) 0), q 25 (.extract (t 19) 1), q 26 (.extract (t 19) 2), q 7 (.alloc 26), q 8 (.alloc 26), q 9 (.alloc 26), ⟨none, .store 26 (t 7) (t 24), none, []⟩, ⟨none, .store 26 (t 8) (t 25), none, []⟩, ⟨none, .store 26 (t 9) (t 26), none, []⟩] false) (.seq (.region 4 [q 27 (.load 26 (t 7)), ⟨none, .store 26 (t 6) (t 27), none, []⟩] false) .ret))))
def spec_l01Gcd_L : Live := [(0, [0, 1, 2]), (1, [0, 4, 5, 6]), (2, [6]), (3, [0, 4, 5, 6]), (4, [6, 7]), (100017, [0, 4, 5, 6, 17])]
noncomputable def spec_l01Gcd (a0 : Int) (a1 : (Vec Int 64)) (a2 : (Vec Int 64)) : Option (Vec Int 64) :=
  (Option.bind (α := Bool) ((Option.bind (spec_l01Deg a1) fun r13 => (if (decide (r13 < 0)) then (Option.bind (spec_l01Deg a2) fun r17 => (some ((decide (r17 < 0))))) else (some false)))) fun x8 => (if x8 then (some ((vrep 64 (0 : Int)))) else (Option.bind (spec_l01Bezout a0 a1 a2) fun r22 => (some r22.1))))
theorem spec_l01Gcd_ok (a0 : Int) (a1 : (Vec Int 64)) (a2 : (Vec Int 64)) (r : (Vec Int 64)) (h : spec_l01Gcd a0 a1 a2 = some r) : Den Try.prog 119 [(i6 a0), (eA64u8 a1), (eA64u8 a2)] { r := (eA64u8 r) } := by
  refine den_of (rs := [(eA64u8 r)]) (ac := spec_l01Gcd_c) (L := spec_l01Gcd_L) (n := 28) (m := []) (c := Try.f119.body.getD .skip) good Try.func119 (by kernel_rfl) (by kernel_rfl) Try.ntmps119 rfl rfl (by kernel_rfl) rfl rfl ?_
  refine a_st (σ' := ⟨[(0, (i6 a0)), (1, (eA64u8 a1)), (2, (eA64u8 a2))], []⟩) (by kernel_rfl) ?_
  unfold spec_l01Gcd_c
  refine sr (vo 1400 (eA64u8 a1) rfl rfl (vo 1500 (eA64u8 a2) rfl rfl (vo 1600 (eA64u8 ((vrep 64 (0 : Int)))) rfl rfl (nx ⟨[(0, (i6 a0)), (4, (ow 4)), (5, (ow 5)), (6, (ow 6))], [(4, (bk (eA64u8 a1))), (5, (bk (eA64u8 a2))), (6, (bk (eA64u8 ((vrep 64 (0 : Int))))))]⟩ (by kernel_rfl) (a_seq ?_)))))
  obtain ⟨y9, hy10, hk11⟩ := bind_some h
  clear h
  refine a_join (emb := fun (s : Bool) => ⟨[(0, (i6 a0)), (4, (ow 4)), (5, (ow 5)), (6, (ow 6)), (17, (.bool s))], [(4, (bk (eA64u8 a1))), (5, (bk (eA64u8 a2))), (6, (bk (eA64u8 ((vrep 64 (0 : Int))))))]⟩) (pre := fun s => s = y9) ?_ ?_
  · rintro x8 rfl
    have h := hk11
    refine a_st (σ' := ⟨[(0, (i6 a0)), (4, (ow 4)), (5, (ow 5)), (6, (ow 6)), (17, (.bool x8))], [(4, (bk (eA64u8 a1))), (5, (bk (eA64u8 a2))), (6, (bk (eA64u8 ((vrep 64 (0 : Int))))))]⟩) (by kernel_rfl) ?_
    cases hb19 : x8
    · have h := ite_f hb19 h
      refine a_cond_f rfl (a_skip (a_next (σ' := ⟨[(0, (i6 a0)), (4, (ow 4)), (5, (ow 5)), (6, (ow 6))], [(4, (bk (eA64u8 a1))), (5, (bk (eA64u8 a2))), (6, (bk (eA64u8 ((vrep 64 (0 : Int))))))]⟩) (by kernel_rfl) (sr (vp (i6 a0) rfl (vl (eA64u8 a1) rfl rfl rfl rfl rfl rfl (vl (eA64u8 a2) rfl rfl rfl rfl rfl rfl ?_))))))
      obtain ⟨r22, hr23, h⟩ := bind_some h
      refine a_call (args := [(i6 a0), (eA64u8 a1), (eA64u8 a2)]) (u := []) (r := (.tuple [(eA64u8 r22.1), (eA64u8 r22.2.1), (eA64u8 r22.2.2)])) rfl rfl (spec_l01Bezout_ok a0 a1 a2 r22 hr23) rfl (vp (.tuple [(eA64u8 r22.1), (eA64u8 r22.2.1), (eA64u8 r22.2.2)]) rfl (vb (eA64u8 r22.1) rfl rfl (vb (eA64u8 r22.2.1) rfl rfl (vb (eA64u8 r22.2.2) rfl rfl (vo 1700 (eA64u8 ((vrep 64 (0 : Int)))) rfl rfl (vo 1800 (eA64u8 ((vrep 64 (0 : Int)))) rfl rfl (vo 1900 (eA64u8 ((vrep 64 (0 : Int)))) rfl rfl (vs (eA64u8 r22.1) rfl rfl (fun _ => rfl) rfl rfl rfl rfl rfl rfl (vs (eA64u8 r22.2.1) rfl rfl (fun _ => rfl) rfl rfl rfl rfl rfl rfl ?_)))))))))
      refine vs (eA64u8 r22.2.2) rfl rfl (fun _ => rfl) rfl rfl rfl rfl rfl rfl (nx ⟨[(6, (ow 6)), (7, (ow 7))], [(6, (bk (eA64u8 ((vrep 64 (0 : Int)))))), (7, (bk (eA64u8 r22.1)))]⟩ (by kernel_rfl) (sr (vl (eA64u8 r22.1) rfl rfl rfl rfl rfl rfl (vs (eA64u8 r22.1) rfl rfl (fun _ => rfl) rfl rfl rfl rfl rfl rfl (nx _ rfl (a_ret ?_))))))
      have hl29 : LdOk [] (eA64u8 r22.1) [] 64 true (eA64u8 r22.1) := (.nil rfl rfl rfl)
      refine ⟨.inr rfl, ?_⟩
      rw [Try.results119]
      cases h
      exact ⟨_, _, _, _, _, ld_own (i := ⟨.arr 64 5, 64, 64, (eA64u8 (vrep 64 (0 : Int)))⟩) rfl rfl rfl hl29, hl29.c, .inl ⟨rfl, .inl rfl⟩, rfl, rfl⟩
    · have h := ite_t hb19 h
      refine a_cond_t rfl (sr (vq (eA64u8 ((vrep 64 (0 : Int)))) rfl ⟨⟨_, rfl, rfl⟩, all_nil⟩ (vs (eA64u8 ((vrep 64 (0 : Int)))) rfl rfl (fun _ => rfl) rfl rfl rfl rfl rfl rfl (nx _ rfl (a_ret (t_ret ?_))))))
      have hl31 : LdOk [] (eA64u8 ((vrep 64 (0 : Int)))) [] 64 true (eA64u8 ((vrep 64 (0 : Int)))) := (.nil rfl rfl rfl)
      refine ⟨.inr rfl, ?_⟩
      rw [Try.results119]
      cases h
      exact ⟨_, _, _, _, _, ld_own (i := ⟨.arr 64 5, 64, 64, (eA64u8 (vrep 64 (0 : Int)))⟩) rfl rfl rfl hl31, hl31.c, .inl ⟨rfl, .inl rfl⟩, rfl, rfl⟩
  · have h := hy10
    refine a_region (vl (eA64u8 a1) rfl rfl rfl rfl rfl rfl ?_)
    obtain ⟨r13, hr14, h⟩ := bind_some h
    refine a_call (args := [(eA64u8 a1)]) (u := []) (r := (i6 r13)) rfl rfl (spec_l01Deg_ok a1 r13 hr14) rfl (vp (.bool ((decide (r13 < 0)))) rfl (vp (.bool ((decide (r13 < 0)))) rfl ?_))
    cases hb15 : (decide (r13 < 0))
    · have h := ite_f hb15 h
      refine a_gskip rfl (a_gskip rfl (a_gskip rfl (vp (.bool false) rfl (a_nil ?_))))
      exact j_leaf false (Option.some.inj h) (by kernel_rfl)
    · have h := ite_t hb15 h
      have hl16 : LdOk [] (eA64u8 a2) [] 64 true (eA64u8 a2) := (.nil rfl rfl rfl)
      refine gq (eA64u8 a2) rfl (ld_own (i := ⟨.arr 64 5, 64, 64, (eA64u8 (vrep 64 (0 : Int)))⟩) rfl rfl rfl hl16) hl16.c ?_
      obtain ⟨r17, hr18, h⟩ := bind_some h
      refine a_gcall rfl (args := [(eA64u8 a2)]) (u := []) (r := (i6 r17)) rfl rfl (spec_l01Deg_ok a2 r17 hr18) rfl (gp (.bool ((decide (r17 < 0)))) rfl rfl (vp (.bool ((decide (r17 < 0)))) rfl (a_nil ?_)))
      exact j_leaf ((decide (r17 < 0))) (Option.some.inj h) (by kernel_rfl)
def spec_l01T_c : ACode := (.seq (.region 0 [q 0 (.alloc 26)] false) (.seq (.region 1 [q 1 (.build 26 [(0, (.const (.int .u8 0))), (1, (.const (.int .u8 1)))]), ⟨none, .store 26 (t 0) (t 1), none, []⟩] false) .ret))
def spec_l01T_L : Live := [(0, []), (1, [0])]
noncomputable def spec_l01T  : Option (Vec Int 64) :=
  (some ((vset (vset (vrep 64 (0 : Int)) 0 0) 1 1)))
theorem spec_l01T_ok  (r : (Vec Int 64)) (h : spec_l01T = some r) : Den Try.prog 157 [] { r := (eA64u8 r) } := by
  refine den_of (rs := [(eA64u8 r)]) (ac := spec_l01T_c) (L := spec_l01T_L) (n := 2) (m := []) (c := Try.f157.body.getD .skip) good Try.func157 (by kernel_rfl) (by kernel_rfl) Try.ntmps157 rfl rfl (by kernel_rfl) rfl rfl ?_
  refine a_st (σ' := ⟨[], []⟩) (by kernel_rfl) ?_
  unfold spec_l01T_c
  refine sr (vo 1000 (eA64u8 ((vrep 64 (0 : Int)))) rfl rfl (nx ⟨[(0, (ow 0))], [(0, (bk (eA64u8 ((vrep 64 (0 : Int))))))]⟩ (by kernel_rfl) (sr (vq (eA64u8 ((vset (vset (vrep 64 (0 : Int)) 0 0) 1 1))) rfl ⟨⟨_, rfl, rfl⟩, (all_cons ⟨(Nat.le_of_ble_eq_true rfl), rfl⟩ (all_cons ⟨(Nat.le_of_ble_eq_true rfl), rfl⟩ all_nil))⟩ (vs (eA64u8 ((vset (vset (vrep 64 (0 : Int)) 0 0) 1 1))) rfl rfl (fun _ => rfl) rfl rfl rfl rfl rfl rfl (nx _ rfl (a_ret ?_)))))))
  have hl2 : LdOk [] (eA64u8 ((vset (vset (vrep 64 (0 : Int)) 0 0) 1 1))) [] 64 true (eA64u8 ((vset (vset (vrep 64 (0 : Int)) 0 0) 1 1))) := (.nil rfl rfl rfl)
  refine ⟨.inr rfl, ?_⟩
  rw [Try.results157]
  cases h
  exact ⟨_, _, _, _, _, ld_own (i := ⟨.arr 64 5, 64, 64, (eA64u8 (vrep 64 (0 : Int)))⟩) rfl rfl rfl hl2, hl2.c, .inl ⟨rfl, .inl rfl⟩, rfl, rfl⟩
end Go.Proofs.Ytdhcpekngpndnaa
