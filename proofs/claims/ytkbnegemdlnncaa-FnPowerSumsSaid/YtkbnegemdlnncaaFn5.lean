/- Functions of the program: plain Lean functions, and that the program computes them. Printed by gen.py. -/
import Derived.Test.YtkbnegemdlnncaaFnT
import Derived.Test.YtkbnegemdlnncaaFn1
import Derived.Test.YtkbnegemdlnncaaFn2
import Derived.Test.YtkbnegemdlnncaaFn4
namespace Go.Proofs.Ytkbnegemdlnncaa
open Go.Abs Go.Proofs
set_option linter.unusedSimpArgs false
set_option linter.unusedVariables false
set_option maxHeartbeats 16000000
attribute [local irreducible] Abs.acode Abs.aops Abs.aopsT Abs.thenK Abs.blockK

def impl_prime_inverse_c : ACode := (.seq (.region 0 [q 4 (.asg 0 (.const (.int .i64 0)) 2)] false) (.seq (.region 1 [q 5 (.asg 0 (.const (.int .i64 1)) 2)] false) (.seq (.seq (.region 2 [q 6 (.mov (t 0)), q 7 (.bin .sub 2 (t 6) (.const (.int .i64 2))), q 8 (.mov (.const (.int .i64 0)))] false) (.block 0 (.loop (.seq (.region 3 [q 9 (.bin .lss 2 (t 8) (t 7))] false) (.seq (.cond (t 9) .skip (.exit 0)) (.seq (.block 1 (.region 4 [q 10 (.mov (t 5)), q 11 (.mov (t 1)), q 12 (.bin .mul 2 (t 10) (t 11)), q 13 (.mov (t 0)), q 14 (.bin .rem 2 (t 12) (t 13)), q 5 (.asg 0 (t 14) 2)] false)) (.region 5 [q 15 (.bin .add 2 (t 8) (.const (.int .i64 1))), q 8 (.mov (t 15))] false))))))) (.seq (.region 6 [q 16 (.mov (t 5)), q 4 (.asg 0 (t 16) 2)] false) .ret))))
def impl_prime_inverse_L : Live := [(0, [0, 1]), (1, [0, 1]), (2, [0, 1, 5]), (3, [0, 1, 5, 7, 8]), (4, [0, 1, 5, 7, 8]), (5, [0, 1, 5, 7, 8]), (6, [5]), (100009, [0, 1, 5, 7, 8, 9])]
noncomputable def impl_prime_inverse_l1 (a0 : Int) (a1 : Int) (x19 : Int) (x20 : Int) : Option ((Int × Int) ⊕ Int) :=
  (if (decide (x20 < (IntKind.i64.wrap (a0 - 2)))) then (ifp (a0 ≠ 0) ((some (.inl ((Int.tmod (IntKind.i64.wrap (x19 * a1)) a0, IntKind.i64.wrap (x20 + 1))))))) else (some (.inr x19)))
noncomputable def impl_prime_inverse (a0 : Int) (a1 : Int) : Option Int :=
  (Option.bind (α := Int) ((loopM (fun s : (Int × Int) => impl_prime_inverse_l1 a0 a1 s.1 s.2) (1, 0))) fun x13 => (some x13))
theorem impl_prime_inverse_ok (a0 : Int) (a1 : Int) (r : Int) (h : impl_prime_inverse a0 a1 = some r) : Den Try.prog 185 [(i6 a0), (i6 a1)] { r := (i6 r) } := by
  refine den_of (rs := [(i6 r)]) (ac := impl_prime_inverse_c) (L := impl_prime_inverse_L) (n := 17) (m := []) (c := Try.f185.body.getD .skip) good Try.func185 (by kernel_rfl) (by kernel_rfl) Try.ntmps185 rfl rfl (by kernel_rfl) rfl rfl ?_
  refine a_st (σ' := ⟨[(0, (i6 a0)), (1, (i6 a1))], []⟩) (by kernel_rfl) ?_
  unfold impl_prime_inverse_c
  refine sr (vp (i6 0) rfl (nx ⟨[(0, (i6 a0)), (1, (i6 a1))], []⟩ (by kernel_rfl) (sr (vp (i6 1) rfl (nx ⟨[(0, (i6 a0)), (1, (i6 a1)), (5, (i6 1))], []⟩ (by kernel_rfl) ?_)))))
  obtain ⟨y14, hy15, hk16⟩ := bind_some h
  clear h
  refine a_join (emb := fun (s : Int) => ⟨[(5, (i6 s))], []⟩) (pre := fun s => s = y14) ?_ ?_
  · rintro x13 rfl
    have h := hk16
    refine a_st (σ' := ⟨[(5, (i6 x13))], []⟩) (by kernel_rfl) (sr (vp (i6 x13) rfl (vp (i6 x13) rfl (nx _ rfl (a_ret ?_)))))
    refine ⟨.inr rfl, ?_⟩
    rw [Try.results185]
    cases h
    exact ⟨_, _, _, _, _, rfl, trivial, .inl ⟨rfl, .inl rfl⟩, rfl, rfl⟩
  · have h := hy15
    refine sr (vp (i6 a0) rfl (vp (i6 (IntKind.i64.wrap (a0 - 2))) rfl (vp (i6 0) rfl (nx ⟨[(0, (i6 a0)), (1, (i6 a1)), (5, (i6 1)), (7, (i6 (IntKind.i64.wrap (a0 - 2)))), (8, (i6 0))], []⟩ (by kernel_rfl) (a_block ?_)))))
    refine a_loop (emb := fun (s : (Int × Int)) => ⟨[(0, (i6 a0)), (1, (i6 a1)), (5, (i6 s.1)), (7, (i6 (IntKind.i64.wrap (a0 - 2)))), (8, (i6 s.2))], []⟩) (body := (fun s : (Int × Int) => impl_prime_inverse_l1 a0 a1 s.1 s.2)) (G := fun q => some q = some y14) h rfl ?_ (by kernel_rfl)
    rintro X23 ⟨x19, x20⟩ x24 h hX25
    have h : impl_prime_inverse_l1 a0 a1 x19 x20 = some x24 := h
    refine a_st (σ' := ⟨[(0, (i6 a0)), (1, (i6 a1)), (5, (i6 x19)), (7, (i6 (IntKind.i64.wrap (a0 - 2)))), (8, (i6 x20))], []⟩) (by kernel_rfl) (sr (vp (.bool ((decide (x20 < (IntKind.i64.wrap (a0 - 2)))))) rfl (nx ⟨[(0, (i6 a0)), (1, (i6 a1)), (5, (i6 x19)), (7, (i6 (IntKind.i64.wrap (a0 - 2)))), (8, (i6 x20)), (9, (.bool ((decide (x20 < (IntKind.i64.wrap (a0 - 2)))))))], []⟩ (by kernel_rfl) (a_seq ?_))))
    cases hb26 : (decide (x20 < (IntKind.i64.wrap (a0 - 2))))
    · have h := ite_f hb26 h
      refine a_cond_f rfl (a_exit (t_exit ?_))
      cases h
      have h := hX25
      refine t_exit (b_exit ?_)
      exact j_leaf x19 (Option.some.inj h) (by kernel_rfl)
    · have h := ite_t hb26 h
      refine a_cond_t rfl (a_skip (a_next (σ' := ⟨[(0, (i6 a0)), (1, (i6 a1)), (5, (i6 x19)), (7, (i6 (IntKind.i64.wrap (a0 - 2)))), (8, (i6 x20))], []⟩) (by kernel_rfl) (a_seq (a_block (a_region (vp (i6 x19) rfl (vp (i6 a1) rfl (vp (i6 (IntKind.i64.wrap (x19 * a1))) rfl (vp (i6 a0) rfl ?_)))))))))
      obtain ⟨hc27, h⟩ := ifp_some h
      refine vq (i6 (Int.tmod (IntKind.i64.wrap (x19 * a1)) a0)) rfl hc27 (vp (i6 (Int.tmod (IntKind.i64.wrap (x19 * a1)) a0)) rfl (a_nil (b_norm (a_next (σ' := ⟨[(0, (i6 a0)), (1, (i6 a1)), (5, (i6 (Int.tmod (IntKind.i64.wrap (x19 * a1)) a0))), (7, (i6 (IntKind.i64.wrap (a0 - 2)))), (8, (i6 x20))], []⟩) (by kernel_rfl) (a_region (vp (i6 (IntKind.i64.wrap (x20 + 1))) rfl (vp (i6 (IntKind.i64.wrap (x20 + 1))) rfl (a_nil ?_))))))))
      cases h
      exact a_again (by kernel_rfl) hX25
def impl_prime_divide_c : ACode := (.seq (.region 0 [q 6 (.asg 1 (.const (.slice none 0 0)) 80), q 7 (.asg 1 (.const (.slice none 0 0)) 80)] false) (.seq (.region 1 [q 15 (.mov (t 1)), q 16 (.call 0 (.func 184) [(t 15)]), q 8 (.asg 2 (t 16) 80)] false) (.seq (.seq (.region 2 [q 17 (.mov (t 1)), q 18 (.blt 0 .len [(t 17)] [80]), q 19 (.mov (t 2)), q 20 (.blt 0 .len [(t 19)] [80]), q 21 (.bin .lss 3 (t 18) (t 20))] false) (.cond (t 21) (.seq (.region 3 [q 22 (.mov (t 8)), q 6 (.asg 1 (.const (.slice none 0 0)) 80), q 7 (.asg 1 (t 22) 80)] false) .ret) .skip)) (.seq (.region 4 [q 23 (.mov (t 1)), q 24 (.blt 0 .len [(t 23)] [80]), q 25 (.mov (t 2)), q 26 (.blt 0 .len [(t 25)] [80]), q 27 (.bin .sub 3 (t 24) (t 26)), q 28 (.bin .add 3 (t 27) (.const (.int .i64 1))), q 29 (.mkslice 80 (t 28) (t 28)), q 9 (.asg 2 (t 29) 80)] false) (.seq (.region 5 [q 30 (.mov (t 0)), q 31 (.mov (t 2)), q 32 (.call 0 (.func 186) [(t 31)]), q 33 (.call 0 (.func 185) [(t 30), (t 32)]), q 10 (.asg 0 (t 33) 2)] false) (.seq (.seq (.region 6 [q 34 (.mov (t 9)), q 35 (.blt 0 .len [(t 34)] [80]), q 36 (.bin .sub 3 (t 35) (.const (.int .i64 1))), q 11 (.asg 0 (t 36) 3)] false) (.block 0 (.loop (.seq (.seq (.region 7 [q 37 (.mov (t 11)), q 38 (.bin .geq 3 (t 37) (.const (.int .i64 0)))] false) (.cond (t 38) .skip (.exit 0))) (.seq (.block 1 (.seq (.region 9 [q 41 (.mov (t 8)), q 42 (.mov (t 11)), q 43 (.mov (t 2)), q 44 (.blt 0 .len [(t 43)] [80]), q 45 (.bin .add 3 (t 42) (t 44)), q 46 (.bin .sub 3 (t 45) (.const (.int .i64 1))), q 47 (.indexAddr 80 (t 41) (t 46)), q 48 (.load 2 (t 47)), q 49 (.mov (t 10)), q 50 (.bin .mul 2 (t 48) (t 49)), q 51 (.mov (t 0)), q 52 (.bin .rem 2 (t 50) (t 51)), q 12 (.asg 0 (t 52) 2)] false) (.seq (.region 10 [q 53 (.mov (t 9)), q 54 (.mov (t 11)), q 55 (.mov (t 12)), q 56 (.indexAddr 80 (t 53) (t 54)), ⟨none, .store 2 (t 56) (t 55), none, []⟩] false) (.seq (.region 11 [q 57 (.mov (t 2)), q 58 (.blt 0 .len [(t 57)] [80]), q 59 (.mov (.const (.int .i64 0)))] false) (.block 2 (.loop (.seq (.region 12 [q 60 (.bin .lss 3 (t 59) (t 58))] false) (.seq (.cond (t 60) .skip (.exit 2)) (.seq (.block 3 (.seq (.region 13 [q 61 (.mov (t 59)), q 62 (.indexAddr 80 (t 57) (t 59)), q 63 (.load 2 (t 62)), q 13 (.asg 0 (t 61) 3), q 14 (.asg 0 (t 63) 2)] false) (.region 14 [q 64 (.mov (t 8)), q 65 (.mov (t 11)), q 66 (.mov (t 13)), q 67 (.bin .add 3 (t 65) (t 66)), q 68 (.mov (t 0)), q 69 (.mov (t 8)), q 70 (.mov (t 11)), q 71 (.mov (t 13)), q 72 (.bin .add 3 (t 70) (t 71)), q 73 (.indexAddr 80 (t 69) (t 72)), q 74 (.load 2 (t 73)), q 75 (.mov (t 12)), q 76 (.mov (t 14)), q 77 (.bin .mul 2 (t 75) (t 76)), q 78 (.bin .sub 2 (t 74) (t 77)), q 79 (.call 0 (.func 183) [(t 68), (t 78)]), q 80 (.indexAddr 80 (t 64) (t 67)), ⟨none, .store 2 (t 80) (t 79), none, []⟩] false))) (.region 15 [q 81 (.bin .add 3 (t 59) (.const (.int .i64 1))), q 59 (.mov (t 81))] false)))))))))) (.region 8 [q 39 (.mov (t 11)), q 40 (.bin .sub 3 (t 39) (.const (.int .i64 1))), q 11 (.asg 0 (t 40) 3)] false)))))) (.seq (.region 16 [q 82 (.mov (t 9)), q 83 (.call 0 (.func 180) [(t 82)]), q 84 (.mov (t 8)), q 85 (.call 0 (.func 180) [(t 84)]), q 6 (.asg 1 (t 83) 80), q 7 (.asg 1 (t 85) 80)] false) .ret)))))))
def impl_prime_divide_L : Live := [(0, [0, 1, 2]), (1, [0, 1, 2]), (2, [0, 1, 2, 8]), (3, [8]), (4, [0, 1, 2, 8]), (5, [0, 2, 8, 9]), (6, [0, 2, 8, 9, 10]), (7, [0, 2, 8, 9, 10, 11]), (8, [0, 2, 8, 9, 10, 11]), (9, [0, 2, 8, 9, 10, 11]), (10, [0, 2, 8, 9, 10, 11, 12]), (11, [0, 2, 8, 9, 10, 11, 12]), (12, [0, 2, 8, 9, 10, 11, 12, 57, 58, 59]), (13, [0, 2, 8, 9, 10, 11, 12, 57, 58, 59]), (14, [0, 2, 8, 9, 10, 11, 12, 13, 14, 57, 58, 59]), (15, [0, 2, 8, 9, 10, 11, 12, 57, 58, 59]), (16, [8, 9]), (100021, [0, 1, 2, 8, 21]), (100038, [0, 2, 8, 9, 10, 11, 38]), (100060, [0, 2, 8, 9, 10, 11, 12, 57, 58, 59, 60])]
noncomputable def impl_prime_divide_l2 (a2 : (List Int)) (x467 : Int) (x468 : (List Int)) (x641 : Int) (r9 : Int) (a0 : Int) (x469 : (List Int)) (x661 : Int) (x662 : (List Int)) : Option ((Int × (List Int)) ⊕ ((List Int) × (List Int))) :=
  (if (decide (x661 < (a2.length : Int))) then (ifp (0 ≤ x661 ∧ x661 < ((a2.length : Nat) : Int)) ((ifp (0 ≤ IntKind.i64.wrap (x467 + x661) ∧ IntKind.i64.wrap (x467 + x661) < ((x662.length : Nat) : Int)) ((letp (IntKind.i64.wrap ((Int.tmod (IntKind.i64.wrap ((rd x468 x641.toNat) * r9)) a0) * (rd a2 x661.toNat))) fun x684 => (letp (IntKind.i64.wrap (((rd x662 (IntKind.i64.wrap (x467 + x661)).toNat)) - x684)) fun x686 => (Option.bind (impl_prime_reduce a0 x686) fun r688 => (ifp (0 ≤ IntKind.i64.wrap (x467 + x661) ∧ IntKind.i64.wrap (x467 + x661) < ((x662.length : Nat) : Int)) ((some (.inl ((IntKind.i64.wrap (x661 + 1), (x662.set (IntKind.i64.wrap (x467 + x661)).toNat r688)))))))))))))) else (some (.inr (((x662, (x469.set x467.toNat (Int.tmod (IntKind.i64.wrap ((rd x468 x641.toNat) * r9)) a0))))))))
noncomputable def impl_prime_divide_l1 (a2 : (List Int)) (a0 : Int) (r9 : Int) (x467 : Int) (x468 : (List Int)) (x469 : (List Int)) : Option ((Int × (List Int) × (List Int)) ⊕ ((List Int) × (List Int))) :=
  (if (decide (x467 ≥ 0)) then (Option.bind (α := ((List Int) × (List Int))) ((letp (IntKind.i64.wrap ((IntKind.i64.wrap (x467 + (a2.length : Int))) - 1)) fun x641 => (ifp (0 ≤ x641 ∧ x641 < ((x468.length : Nat) : Int)) ((ifp (a0 ≠ 0) ((ifp (0 ≤ x467 ∧ x467 < ((x469.length : Nat) : Int)) ((loopM (fun s : (Int × (List Int)) => impl_prime_divide_l2 a2 x467 x468 x641 r9 a0 x469 s.1 s.2) (0, x468)))))))))) fun ⟨x636, x637⟩ => (some (.inl ((IntKind.i64.wrap (x467 - 1), x636, x637))))) else (some (.inr (x468, x469))))
noncomputable def impl_prime_divide (a0 : Int) (a1 : (List Int)) (a2 : (List Int)) : Option ((List Int) × (List Int)) :=
  (Option.bind (slices_Clone_impl_row_int64_fresh a1) fun r1 => (if (decide ((a1.length : Int) < (a2.length : Int))) then (some ([], r1)) else (letp (IntKind.i64.wrap ((IntKind.i64.wrap ((a1.length : Int) - (a2.length : Int))) + 1)) fun x4 => (ifp (0 ≤ x4 ∧ x4 ≤ 140737488355328 ∧ 8 * x4 ≤ 140737488355328) ((Option.bind (impl_row_lead a2) fun r7 => (Option.bind (impl_prime_inverse a0 r7) fun r9 => (Option.bind (α := ((List Int) × (List Int))) ((letp (IntKind.i64.wrap ((((List.replicate x4.toNat (0 : Int)).length : Int)) - 1)) fun x355 => (loopM (fun s : (Int × (List Int) × (List Int)) => impl_prime_divide_l1 a2 a0 r9 s.1 s.2.1 s.2.2) (x355, r1, List.replicate x4.toNat (0 : Int))))) fun ⟨x350, x351⟩ => (Option.bind (impl_row_trimmed x351) fun r694 => (Option.bind (impl_row_trimmed x350) fun r696 => (some (r694, r696))))))))))))
theorem impl_prime_divide_ok (a0 : Int) (a1 : (List Int)) (a2 : (List Int)) (r : ((List Int) × (List Int))) (h : impl_prime_divide a0 a1 a2 = some r) : Den Try.prog 110 [(i6 a0), (eSi64 a1), (eSi64 a2)] { r := (.tuple [(eSi64 r.1), (eSi64 r.2)]) } := by
  refine den_of (rs := [(eSi64 r.1), (eSi64 r.2)]) (ac := impl_prime_divide_c) (L := impl_prime_divide_L) (n := 86) (m := [(6, 1), (7, 1), (8, 2), (9, 2)]) (c := Try.f110.body.getD .skip) good Try.func110 (by kernel_rfl) (by kernel_rfl) Try.ntmps110 rfl rfl (by kernel_rfl) rfl rfl ?_
  refine a_st (σ' := ⟨[(0, (i6 a0)), (1, (eSi64 a1)), (2, (eSi64 a2))], []⟩) (by kernel_rfl) ?_
  unfold impl_prime_divide_c
  refine sr (vp (eSi64 ([])) rfl (vp (eSi64 ([])) rfl (nx ⟨[(0, (i6 a0)), (1, (eSi64 a1)), (2, (eSi64 a2))], []⟩ (by kernel_rfl) (sr (vp (eSi64 a1) rfl ?_)))))
  obtain ⟨r1, hr2, h⟩ := bind_some h
  refine a_callF (args := [(eSi64 a1)]) (u := []) (u2 := []) (r := (.osl 2000000)) (fs := [(1, r1.map (AV.int .i64))]) rfl rfl (slices_Clone_impl_row_int64_fresh_ok a1 r1 hr2) rfl rfl rfl (.inl rfl) rfl (vp (.osl 2600) rfl (nx ⟨[(0, (i6 a0)), (1, (eSi64 a1)), (2, (eSi64 a2)), (8, (.osl 8))], [(8, (bk (.row 1 (r1.map (AV.int .i64)))))]⟩ (by kernel_rfl) (a_seq (sr (vp (eSi64 a1) rfl (vq (i6 (a1.length : Int)) (len_run rfl rfl) trivial (vp (eSi64 a2) rfl (vq (i6 (a2.length : Int)) (len_run rfl rfl) trivial (vp (.bool ((decide ((a1.length : Int) < (a2.length : Int))))) rfl ?_)))))))))
  refine nx ⟨[(0, (i6 a0)), (1, (eSi64 a1)), (2, (eSi64 a2)), (8, (.osl 8)), (21, (.bool ((decide ((a1.length : Int) < (a2.length : Int))))))], [(8, (bk (.row 1 (r1.map (AV.int .i64)))))]⟩ (by kernel_rfl) ?_
  cases hb3 : (decide ((a1.length : Int) < (a2.length : Int)))
  · have h := ite_f hb3 h
    refine a_cond_f rfl (a_skip (a_next (σ' := ⟨[(0, (i6 a0)), (1, (eSi64 a1)), (2, (eSi64 a2)), (8, (.osl 8))], [(8, (bk (.row 1 (r1.map (AV.int .i64)))))]⟩) (by kernel_rfl) (sr (vp (eSi64 a1) rfl (vq (i6 (a1.length : Int)) (len_run rfl rfl) trivial (vp (eSi64 a2) rfl (vq (i6 (a2.length : Int)) (len_run rfl rfl) trivial (vp (i6 (IntKind.i64.wrap ((a1.length : Int) - (a2.length : Int)))) rfl ?_))))))))
    obtain ⟨x4, hx5, h⟩ := letp_some h
    refine a_val' (v := (i6 (IntKind.i64.wrap ((IntKind.i64.wrap ((a1.length : Int) - (a2.length : Int))) + 1)))) (v' := (i6 x4)) (u := []) (u' := []) rfl (congrArg (fun z => ((i6 z) : AV)) hx5) rfl trivial rfl ?_
    obtain ⟨hc6, h⟩ := ifp_some h
    refine vu (.osl 3900) [(3900, (bk (.row 1 ((List.replicate x4.toNat (0 : Int)).map (AV.int .i64)))))] (mk_run (i := ⟨.int .i64, 1, 8, (.int .i64 0)⟩) (f := (AV.int .i64)) (y := (0 : Int)) rfl rfl rfl rfl rfl rfl) ⟨rfl, hc6.1, hc6.2.1, hc6.2.2, (Nat.le_of_ble_eq_true rfl)⟩ rfl (vp (.osl 3900) rfl (nx ⟨[(0, (i6 a0)), (2, (eSi64 a2)), (8, (.osl 8)), (9, (.osl 9))], [(8, (bk (.row 1 (r1.map (AV.int .i64))))), (9, (bk (.row 1 ((List.replicate x4.toNat (0 : Int)).map (AV.int .i64)))))]⟩ (by kernel_rfl) (sr (vp (i6 a0) rfl (vp (eSi64 a2) rfl ?_)))))
    obtain ⟨r7, hr8, h⟩ := bind_some h
    refine a_call (args := [(eSi64 a2)]) (u := []) (r := (i6 r7)) rfl rfl (impl_row_lead_ok a2 r7 hr8) rfl ?_
    obtain ⟨r9, hr10, h⟩ := bind_some h
    refine a_call (args := [(i6 a0), (i6 r7)]) (u := []) (r := (i6 r9)) rfl rfl (impl_prime_inverse_ok a0 r7 r9 hr10) rfl (vp (i6 r9) rfl (nx ⟨[(0, (i6 a0)), (2, (eSi64 a2)), (8, (.osl 8)), (9, (.osl 9)), (10, (i6 r9))], [(8, (bk (.row 1 (r1.map (AV.int .i64))))), (9, (bk (.row 1 ((List.replicate x4.toNat (0 : Int)).map (AV.int .i64)))))]⟩ (by kernel_rfl) ?_))
    obtain ⟨y352, hy353, hk354⟩ := bind_some h
    clear h
    refine a_join (emb := fun (s : ((List Int) × (List Int))) => ⟨[(8, (.osl 8)), (9, (.osl 9))], [(8, (bk (.row 1 (s.1.map (AV.int .i64))))), (9, (bk (.row 1 (s.2.map (AV.int .i64)))))]⟩) (pre := fun s => s = y352) ?_ ?_
    · rintro ⟨x350, x351⟩ rfl
      have h := hk354
      refine a_st (σ' := ⟨[(8, (.osl 8)), (9, (.osl 9))], [(8, (bk (.row 1 (x350.map (AV.int .i64))))), (9, (bk (.row 1 (x351.map (AV.int .i64)))))]⟩) (by kernel_rfl) (sr (vp (.osl 9) rfl ?_))
      obtain ⟨r694, hr695, h⟩ := bind_some h
      refine a_call (args := [(eSi64 x351)]) (u := [(9, (bf (.row 1 (x351.map (AV.int .i64)))))]) (r := (eSi64 r694)) rfl rfl (impl_row_trimmed_ok x351 r694 hr695) rfl (vp (.osl 8) rfl ?_)
      obtain ⟨r696, hr697, h⟩ := bind_some h
      refine a_call (args := [(eSi64 x350)]) (u := [(8, (bf (.row 1 (x350.map (AV.int .i64)))))]) (r := (eSi64 r696)) rfl rfl (impl_row_trimmed_ok x350 r696 hr697) rfl (vp (eSi64 r694) rfl (vp (eSi64 r696) rfl (nx _ rfl (a_ret ?_))))
      refine ⟨.inr rfl, ?_⟩
      rw [Try.results110]
      cases h
      exact ⟨_, _, _, _, _, rfl, trivial, .inl ⟨rfl, .inl rfl⟩, rfl, ⟨_, _, _, _, _, rfl, trivial, .inl ⟨rfl, .inl rfl⟩, rfl, rfl⟩⟩
    · have h := hy353
      refine sr (vp (.osl 9) rfl (vq (i6 (((List.replicate x4.toNat (0 : Int)).length : Int))) (leno_run rfl rfl rfl) trivial ?_))
      obtain ⟨x355, hx356, h⟩ := letp_some h
      refine a_val' (v := (i6 (IntKind.i64.wrap ((((List.replicate x4.toNat (0 : Int)).length : Int)) - 1)))) (v' := (i6 x355)) (u := []) (u' := []) rfl (congrArg (fun z => ((i6 z) : AV)) hx356) rfl trivial rfl (vp (i6 x355) rfl (nx ⟨[(0, (i6 a0)), (2, (eSi64 a2)), (8, (.osl 8)), (9, (.osl 9)), (10, (i6 r9)), (11, (i6 x355))], [(8, (bk (.row 1 (r1.map (AV.int .i64))))), (9, (bk (.row 1 ((List.replicate x4.toNat (0 : Int)).map (AV.int .i64)))))]⟩ (by kernel_rfl) (a_block ?_)))
      refine a_loop (emb := fun (s : (Int × (List Int) × (List Int))) => ⟨[(0, (i6 a0)), (2, (eSi64 a2)), (8, (.osl 8)), (9, (.osl 9)), (10, (i6 r9)), (11, (i6 s.1))], [(8, (bk (.row 1 (s.2.1.map (AV.int .i64))))), (9, (bk (.row 1 (s.2.2.map (AV.int .i64)))))]⟩) (body := (fun s : (Int × (List Int) × (List Int)) => impl_prime_divide_l1 a2 a0 r9 s.1 s.2.1 s.2.2)) (G := fun q => some q = some y352) h rfl ?_ (by kernel_rfl)
      rintro X580 ⟨x467, x468, x469⟩ x581 h hX582
      have h : impl_prime_divide_l1 a2 a0 r9 x467 x468 x469 = some x581 := h
      refine a_st (σ' := ⟨[(0, (i6 a0)), (2, (eSi64 a2)), (8, (.osl 8)), (9, (.osl 9)), (10, (i6 r9)), (11, (i6 x467))], [(8, (bk (.row 1 (x468.map (AV.int .i64))))), (9, (bk (.row 1 (x469.map (AV.int .i64)))))]⟩) (by kernel_rfl) (a_seq (sr (vp (i6 x467) rfl (vp (.bool ((decide (x467 ≥ 0)))) rfl (nx ⟨[(0, (i6 a0)), (2, (eSi64 a2)), (8, (.osl 8)), (9, (.osl 9)), (10, (i6 r9)), (11, (i6 x467)), (38, (.bool ((decide (x467 ≥ 0)))))], [(8, (bk (.row 1 (x468.map (AV.int .i64))))), (9, (bk (.row 1 (x469.map (AV.int .i64)))))]⟩ (by kernel_rfl) ?_)))))
      cases hb583 : (decide (x467 ≥ 0))
      · have h := ite_f hb583 h
        refine a_cond_f rfl (a_exit (t_exit ?_))
        cases h
        have h := hX582
        refine t_exit (b_exit ?_)
        exact j_leaf (x468, x469) (Option.some.inj h) (by kernel_rfl)
      · have h := ite_t hb583 h
        refine a_cond_t rfl (a_skip (a_next (σ' := ⟨[(0, (i6 a0)), (2, (eSi64 a2)), (8, (.osl 8)), (9, (.osl 9)), (10, (i6 r9)), (11, (i6 x467))], [(8, (bk (.row 1 (x468.map (AV.int .i64))))), (9, (bk (.row 1 (x469.map (AV.int .i64)))))]⟩) (by kernel_rfl) ?_))
        obtain ⟨y638, hy639, hk640⟩ := bind_some h
        clear h
        refine a_join (emb := fun (s : ((List Int) × (List Int))) => ⟨[(0, (i6 a0)), (2, (eSi64 a2)), (8, (.osl 8)), (9, (.osl 9)), (10, (i6 r9)), (11, (i6 x467))], [(8, (bk (.row 1 (s.1.map (AV.int .i64))))), (9, (bk (.row 1 (s.2.map (AV.int .i64)))))]⟩) (pre := fun s => s = y638) ?_ ?_
        · rintro ⟨x636, x637⟩ rfl
          have h := hk640
          refine a_st (σ' := ⟨[(0, (i6 a0)), (2, (eSi64 a2)), (8, (.osl 8)), (9, (.osl 9)), (10, (i6 r9)), (11, (i6 x467))], [(8, (bk (.row 1 (x636.map (AV.int .i64))))), (9, (bk (.row 1 (x637.map (AV.int .i64)))))]⟩) (by kernel_rfl) (a_region (vp (i6 x467) rfl (vp (i6 (IntKind.i64.wrap (x467 - 1))) rfl (vp (i6 (IntKind.i64.wrap (x467 - 1))) rfl (a_nil ?_)))))
          cases h
          exact a_again (by kernel_rfl) hX582
        · have h := hy639
          refine a_block (sr (vp (.osl 8) rfl (vp (i6 x467) rfl (vp (eSi64 a2) rfl (vq (i6 (a2.length : Int)) (len_run rfl rfl) trivial (vp (i6 (IntKind.i64.wrap (x467 + (a2.length : Int)))) rfl ?_))))))
          obtain ⟨x641, hx642, h⟩ := letp_some h
          refine a_val' (v := (i6 (IntKind.i64.wrap ((IntKind.i64.wrap (x467 + (a2.length : Int))) - 1)))) (v' := (i6 x641)) (u := []) (u' := []) rfl (congrArg (fun z => ((i6 z) : AV)) hx642) rfl trivial rfl ?_
          obtain ⟨hc643, h⟩ := ifp_some h
          refine vq (.own 8 [x641.toNat] [x641.toNat * 1]) rfl (lmap hc643) ?_
          have hl644 : LdOk [x641.toNat] (.row 1 (x468.map (AV.int .i64))) [x641.toNat * 1] 1 false (i6 (rd x468 x641.toNat)) := (.row (llt hc643) rfl (.nil rfl rfl rfl))
          refine vq (i6 (rd x468 x641.toNat)) (ld_own (i := ⟨.int .i64, 1, 8, (.int .i64 0)⟩) rfl rfl rfl hl644) hl644.c (vp (i6 r9) rfl (vp (i6 (IntKind.i64.wrap ((rd x468 x641.toNat) * r9))) rfl (vp (i6 a0) rfl ?_)))
          obtain ⟨hc645, h⟩ := ifp_some h
          refine vq (i6 (Int.tmod (IntKind.i64.wrap ((rd x468 x641.toNat) * r9)) a0)) rfl hc645 (vp (i6 (Int.tmod (IntKind.i64.wrap ((rd x468 x641.toNat) * r9)) a0)) rfl (nx ⟨[(0, (i6 a0)), (2, (eSi64 a2)), (8, (.osl 8)), (9, (.osl 9)), (10, (i6 r9)), (11, (i6 x467)), (12, (i6 (Int.tmod (IntKind.i64.wrap ((rd x468 x641.toNat) * r9)) a0)))], [(8, (bk (.row 1 (x468.map (AV.int .i64))))), (9, (bk (.row 1 (x469.map (AV.int .i64)))))]⟩ (by kernel_rfl) (sr (vp (.osl 9) rfl (vp (i6 x467) rfl (vp (i6 (Int.tmod (IntKind.i64.wrap ((rd x468 x641.toNat) * r9)) a0)) rfl ?_))))))
          obtain ⟨hc646, h⟩ := ifp_some h
          refine vq (.own 9 [x467.toNat] [x467.toNat * 1]) rfl (lmap hc646) ?_
          have hs647 : StOk [x467.toNat] (.row 1 (x469.map (AV.int .i64))) [x467.toNat * 1] 1 (i6 (Int.tmod (IntKind.i64.wrap ((rd x468 x641.toNat) * r9)) a0)) (.row 1 (((x469.set x467.toNat (Int.tmod (IntKind.i64.wrap ((rd x468 x641.toNat) * r9)) a0))).map (AV.int .i64))) := (.row (y := Int.tmod (IntKind.i64.wrap ((rd x468 x641.toNat) * r9)) a0) (llt hc646) rfl (.nil rfl rfl rfl rfl))
          refine vu .top [(9, (bk (.row 1 (((x469.set x467.toNat (Int.tmod (IntKind.i64.wrap ((rd x468 x641.toNat) * r9)) a0))).map (AV.int .i64)))))] (st_own (i := ⟨.int .i64, 1, 8, (.int .i64 0)⟩) rfl rfl (fun _ => rfl) rfl hs647) (hs647.c rfl) rfl (nx ⟨[(0, (i6 a0)), (2, (eSi64 a2)), (8, (.osl 8)), (9, (.osl 9)), (10, (i6 r9)), (11, (i6 x467)), (12, (i6 (Int.tmod (IntKind.i64.wrap ((rd x468 x641.toNat) * r9)) a0)))], [(8, (bk (.row 1 (x468.map (AV.int .i64))))), (9, (bk (.row 1 (((x469.set x467.toNat (Int.tmod (IntKind.i64.wrap ((rd x468 x641.toNat) * r9)) a0))).map (AV.int .i64)))))]⟩ (by kernel_rfl) (sr (vp (eSi64 a2) rfl (vq (i6 (a2.length : Int)) (len_run rfl rfl) trivial (vp (i6 0) rfl (nx ⟨[(0, (i6 a0)), (2, (eSi64 a2)), (8, (.osl 8)), (9, (.osl 9)), (10, (i6 r9)), (11, (i6 x467)), (12, (i6 (Int.tmod (IntKind.i64.wrap ((rd x468 x641.toNat) * r9)) a0))), (57, (eSi64 a2)), (58, (i6 (a2.length : Int))), (59, (i6 0))], [(8, (bk (.row 1 (x468.map (AV.int .i64))))), (9, (bk (.row 1 (((x469.set x467.toNat (Int.tmod (IntKind.i64.wrap ((rd x468 x641.toNat) * r9)) a0))).map (AV.int .i64)))))]⟩ (by kernel_rfl) (a_block ?_)))))))
          refine a_loop (emb := fun (s : (Int × (List Int))) => ⟨[(0, (i6 a0)), (2, (eSi64 a2)), (8, (.osl 8)), (9, (.osl 9)), (10, (i6 r9)), (11, (i6 x467)), (12, (i6 (Int.tmod (IntKind.i64.wrap ((rd x468 x641.toNat) * r9)) a0))), (57, (eSi64 a2)), (58, (i6 (a2.length : Int))), (59, (i6 s.1))], [(8, (bk (.row 1 (s.2.map (AV.int .i64))))), (9, (bk (.row 1 (((x469.set x467.toNat (Int.tmod (IntKind.i64.wrap ((rd x468 x641.toNat) * r9)) a0))).map (AV.int .i64)))))]⟩) (body := (fun s : (Int × (List Int)) => impl_prime_divide_l2 a2 x467 x468 x641 r9 a0 x469 s.1 s.2)) (G := fun q => some q = some y638) h rfl ?_ (by kernel_rfl)
          rintro X676 ⟨x661, x662⟩ x677 h hX678
          have h : impl_prime_divide_l2 a2 x467 x468 x641 r9 a0 x469 x661 x662 = some x677 := h
          refine a_st (σ' := ⟨[(0, (i6 a0)), (2, (eSi64 a2)), (8, (.osl 8)), (9, (.osl 9)), (10, (i6 r9)), (11, (i6 x467)), (12, (i6 (Int.tmod (IntKind.i64.wrap ((rd x468 x641.toNat) * r9)) a0))), (57, (eSi64 a2)), (58, (i6 (a2.length : Int))), (59, (i6 x661))], [(8, (bk (.row 1 (x662.map (AV.int .i64))))), (9, (bk (.row 1 (((x469.set x467.toNat (Int.tmod (IntKind.i64.wrap ((rd x468 x641.toNat) * r9)) a0))).map (AV.int .i64)))))]⟩) (by kernel_rfl) (sr (vp (.bool ((decide (x661 < (a2.length : Int))))) rfl (nx ⟨[(0, (i6 a0)), (2, (eSi64 a2)), (8, (.osl 8)), (9, (.osl 9)), (10, (i6 r9)), (11, (i6 x467)), (12, (i6 (Int.tmod (IntKind.i64.wrap ((rd x468 x641.toNat) * r9)) a0))), (57, (eSi64 a2)), (58, (i6 (a2.length : Int))), (59, (i6 x661)), (60, (.bool ((decide (x661 < (a2.length : Int))))))], [(8, (bk (.row 1 (x662.map (AV.int .i64))))), (9, (bk (.row 1 (((x469.set x467.toNat (Int.tmod (IntKind.i64.wrap ((rd x468 x641.toNat) * r9)) a0))).map (AV.int .i64)))))]⟩ (by kernel_rfl) (a_seq ?_))))
          cases hb679 : (decide (x661 < (a2.length : Int)))
          · have h := ite_f hb679 h
            refine a_cond_f rfl (a_exit (t_exit ?_))
            cases h
            have h := hX678
            refine t_exit (b_exit (b_norm ?_))
            exact j_leaf ((x662, (x469.set x467.toNat (Int.tmod (IntKind.i64.wrap ((rd x468 x641.toNat) * r9)) a0)))) (Option.some.inj h) (by kernel_rfl)
          · have h := ite_t hb679 h
            refine a_cond_t rfl (a_skip (a_next (σ' := ⟨[(0, (i6 a0)), (2, (eSi64 a2)), (8, (.osl 8)), (9, (.osl 9)), (10, (i6 r9)), (11, (i6 x467)), (12, (i6 (Int.tmod (IntKind.i64.wrap ((rd x468 x641.toNat) * r9)) a0))), (57, (eSi64 a2)), (58, (i6 (a2.length : Int))), (59, (i6 x661))], [(8, (bk (.row 1 (x662.map (AV.int .i64))))), (9, (bk (.row 1 (((x469.set x467.toNat (Int.tmod (IntKind.i64.wrap ((rd x468 x641.toNat) * r9)) a0))).map (AV.int .i64)))))]⟩) (by kernel_rfl) (a_seq (a_block (sr (vp (i6 x661) rfl ?_))))))
            obtain ⟨hc680, h⟩ := ifp_some h
            refine vq (.ref (.row 1 (a2.map (AV.int .i64))) [x661.toNat] [x661.toNat * 1]) rfl (lmap hc680) ?_
            have hl681 : LdOk [x661.toNat] (.row 1 (a2.map (AV.int .i64))) [x661.toNat * 1] 1 false (i6 (rd a2 x661.toNat)) := (.row (llt hc680) rfl (.nil rfl rfl rfl))
            refine vq (i6 (rd a2 x661.toNat)) (ld_ref (i := ⟨.int .i64, 1, 8, (.int .i64 0)⟩) rfl rfl hl681) hl681.c (vp (i6 x661) rfl (vp (i6 (rd a2 x661.toNat)) rfl (nx ⟨[(0, (i6 a0)), (2, (eSi64 a2)), (8, (.osl 8)), (9, (.osl 9)), (10, (i6 r9)), (11, (i6 x467)), (12, (i6 (Int.tmod (IntKind.i64.wrap ((rd x468 x641.toNat) * r9)) a0))), (13, (i6 x661)), (14, (i6 (rd a2 x661.toNat))), (57, (eSi64 a2)), (58, (i6 (a2.length : Int))), (59, (i6 x661))], [(8, (bk (.row 1 (x662.map (AV.int .i64))))), (9, (bk (.row 1 (((x469.set x467.toNat (Int.tmod (IntKind.i64.wrap ((rd x468 x641.toNat) * r9)) a0))).map (AV.int .i64)))))]⟩ (by kernel_rfl) (a_region (vp (.osl 8) rfl (vp (i6 x467) rfl (vp (i6 x661) rfl (vp (i6 (IntKind.i64.wrap (x467 + x661))) rfl (vp (i6 a0) rfl ?_)))))))))
            refine vp (.osl 8) rfl (vp (i6 x467) rfl (vp (i6 x661) rfl (vp (i6 (IntKind.i64.wrap (x467 + x661))) rfl ?_)))
            obtain ⟨hc682, h⟩ := ifp_some h
            refine vq (.own 8 [(IntKind.i64.wrap (x467 + x661)).toNat] [(IntKind.i64.wrap (x467 + x661)).toNat * 1]) rfl (lmap hc682) ?_
            have hl683 : LdOk [(IntKind.i64.wrap (x467 + x661)).toNat] (.row 1 (x662.map (AV.int .i64))) [(IntKind.i64.wrap (x467 + x661)).toNat * 1] 1 false (i6 ((rd x662 (IntKind.i64.wrap (x467 + x661)).toNat))) := (.row (llt hc682) rfl (.nil rfl rfl rfl))
            refine vq (i6 ((rd x662 (IntKind.i64.wrap (x467 + x661)).toNat))) (ld_own (i := ⟨.int .i64, 1, 8, (.int .i64 0)⟩) rfl rfl rfl hl683) hl683.c (vp (i6 (Int.tmod (IntKind.i64.wrap ((rd x468 x641.toNat) * r9)) a0)) rfl (vp (i6 (rd a2 x661.toNat)) rfl ?_))
            obtain ⟨x684, hx685, h⟩ := letp_some h
            refine a_val' (v := (i6 (IntKind.i64.wrap ((Int.tmod (IntKind.i64.wrap ((rd x468 x641.toNat) * r9)) a0) * (rd a2 x661.toNat))))) (v' := (i6 x684)) (u := []) (u' := []) rfl (congrArg (fun z => ((i6 z) : AV)) hx685) rfl trivial rfl ?_
            obtain ⟨x686, hx687, h⟩ := letp_some h
            refine a_val' (v := (i6 (IntKind.i64.wrap (((rd x662 (IntKind.i64.wrap (x467 + x661)).toNat)) - x684)))) (v' := (i6 x686)) (u := []) (u' := []) rfl (congrArg (fun z => ((i6 z) : AV)) hx687) rfl trivial rfl ?_
            obtain ⟨r688, hr689, h⟩ := bind_some h
            refine a_call (args := [(i6 a0), (i6 x686)]) (u := []) (r := (i6 r688)) rfl rfl (impl_prime_reduce_ok a0 x686 r688 hr689) rfl ?_
            obtain ⟨hc690, h⟩ := ifp_some h
            refine vq (.own 8 [(IntKind.i64.wrap (x467 + x661)).toNat] [(IntKind.i64.wrap (x467 + x661)).toNat * 1]) rfl (lmap hc690) ?_
            have hs691 : StOk [(IntKind.i64.wrap (x467 + x661)).toNat] (.row 1 (x662.map (AV.int .i64))) [(IntKind.i64.wrap (x467 + x661)).toNat * 1] 1 (i6 r688) (.row 1 (((x662.set (IntKind.i64.wrap (x467 + x661)).toNat r688)).map (AV.int .i64))) := (.row (y := r688) (llt hc690) rfl (.nil rfl rfl rfl rfl))
            refine vu .top [(8, (bk (.row 1 (((x662.set (IntKind.i64.wrap (x467 + x661)).toNat r688)).map (AV.int .i64)))))] (st_own (i := ⟨.int .i64, 1, 8, (.int .i64 0)⟩) rfl rfl (fun _ => rfl) rfl hs691) (hs691.c rfl) rfl (a_nil (b_norm (a_next (σ' := ⟨[(0, (i6 a0)), (2, (eSi64 a2)), (8, (.osl 8)), (9, (.osl 9)), (10, (i6 r9)), (11, (i6 x467)), (12, (i6 (Int.tmod (IntKind.i64.wrap ((rd x468 x641.toNat) * r9)) a0))), (57, (eSi64 a2)), (58, (i6 (a2.length : Int))), (59, (i6 x661))], [(8, (bk (.row 1 (((x662.set (IntKind.i64.wrap (x467 + x661)).toNat r688)).map (AV.int .i64))))), (9, (bk (.row 1 (((x469.set x467.toNat (Int.tmod (IntKind.i64.wrap ((rd x468 x641.toNat) * r9)) a0))).map (AV.int .i64)))))]⟩) (by kernel_rfl) (a_region (vp (i6 (IntKind.i64.wrap (x661 + 1))) rfl (vp (i6 (IntKind.i64.wrap (x661 + 1))) rfl (a_nil ?_)))))))
            cases h
            exact a_again (by kernel_rfl) hX678
  · have h := ite_t hb3 h
    refine a_cond_t rfl (sr (vp (.osl 8) rfl (vp (eSi64 ([])) rfl (vu (eSi64 r1) [(8, (bf (.row 1 (r1.map (AV.int .i64)))))] rfl trivial rfl (nx _ rfl (a_ret (t_ret ?_)))))))
    refine ⟨.inr rfl, ?_⟩
    rw [Try.results110]
    cases h
    exact ⟨_, _, _, _, _, rfl, trivial, .inl ⟨rfl, .inl rfl⟩, rfl, ⟨_, _, _, _, _, rfl, trivial, .inl ⟨rfl, .inl rfl⟩, rfl, rfl⟩⟩
def impl_prime_rest_c : ACode := (.seq (.region 0 [q 6 (.asg 1 (.const (.slice none 0 0)) 80)] false) (.seq (.region 1 [q 10 (.mov (t 0)), q 11 (.mov (t 1)), q 12 (.mov (t 2)), q 13 (.call 0 (.func 110) [(t 10), (t 11), (t 12)]), q 9 (.mov (t 13)), q 14 (.extract (t 9) 0), q 15 (.extract (t 9) 1), q 7 (.asg 1 (t 14) 80), q 8 (.asg 1 (t 15) 80)] false) (.seq (.region 2 [q 16 (.mov (t 8)), q 6 (.asg 1 (t 16) 80)] false) .ret)))
def impl_prime_rest_L : Live := [(0, [0, 1, 2]), (1, [0, 1, 2]), (2, [8])]
noncomputable def impl_prime_rest (a0 : Int) (a1 : (List Int)) (a2 : (List Int)) : Option (List Int) :=
  (Option.bind (impl_prime_divide a0 a1 a2) fun r1 => (some r1.2))
theorem impl_prime_rest_ok (a0 : Int) (a1 : (List Int)) (a2 : (List Int)) (r : (List Int)) (h : impl_prime_rest a0 a1 a2 = some r) : Den Try.prog 162 [(i6 a0), (eSi64 a1), (eSi64 a2)] { r := (eSi64 r) } := by
  refine den_of (rs := [(eSi64 r)]) (ac := impl_prime_rest_c) (L := impl_prime_rest_L) (n := 17) (m := [(6, 1), (7, 1), (8, 1)]) (c := Try.f162.body.getD .skip) good Try.func162 (by kernel_rfl) (by kernel_rfl) Try.ntmps162 rfl rfl (by kernel_rfl) rfl rfl ?_
  refine a_st (σ' := ⟨[(0, (i6 a0)), (1, (eSi64 a1)), (2, (eSi64 a2))], []⟩) (by kernel_rfl) ?_
  unfold impl_prime_rest_c
  refine sr (vp (eSi64 ([])) rfl (nx ⟨[(0, (i6 a0)), (1, (eSi64 a1)), (2, (eSi64 a2))], []⟩ (by kernel_rfl) (sr (vp (i6 a0) rfl (vp (eSi64 a1) rfl (vp (eSi64 a2) rfl ?_))))))
  obtain ⟨r1, hr2, h⟩ := bind_some h
  refine a_call (args := [(i6 a0), (eSi64 a1), (eSi64 a2)]) (u := []) (r := (.tuple [(eSi64 r1.1), (eSi64 r1.2)])) rfl rfl (impl_prime_divide_ok a0 a1 a2 r1 hr2) rfl (vp (.tuple [(eSi64 r1.1), (eSi64 r1.2)]) rfl (vb (eSi64 r1.1) rfl rfl (vb (eSi64 r1.2) rfl rfl (vp (eSi64 r1.1) rfl (vp (eSi64 r1.2) rfl (nx ⟨[(8, (eSi64 r1.2))], []⟩ (by kernel_rfl) (sr (vp (eSi64 r1.2) rfl (vp (eSi64 r1.2) rfl ?_)))))))))
  refine nx _ rfl (a_ret ?_)
  refine ⟨.inr rfl, ?_⟩
  rw [Try.results162]
  cases h
  exact ⟨_, _, _, _, _, rfl, trivial, .inl ⟨rfl, .inl rfl⟩, rfl, rfl⟩
def impl_prime_power_c : ACode := (.seq (.region 0 [q 8 (.asg 1 (.const (.slice none 0 0)) 80)] false) (.seq (.region 1 [q 11 (.mov (t 0)), q 12 (.bslice 0 80 1 [(0, (.const (.int .i64 1)))]), q 13 (.mov (t 3)), q 14 (.call 0 (.func 162) [(t 11), (t 12), (t 13)]), q 15 (.mov (t 0)), q 16 (.mov (t 1)), q 17 (.mov (t 3)), q 18 (.call 0 (.func 162) [(t 15), (t 16), (t 17)]), q 9 (.asg 1 (t 14) 80), q 10 (.asg 1 (t 18) 80)] false) (.seq (.block 0 (.loop (.seq (.seq (.region 2 [q 19 (.mov (t 2)), q 20 (.bin .gtr 2 (t 19) (.const (.int .i64 0)))] false) (.cond (t 20) .skip (.exit 0))) (.seq (.block 1 (.seq (.seq (.region 4 [q 23 (.mov (t 2)), q 24 (.bin .and 2 (t 23) (.const (.int .i64 1))), q 25 (.bin .eql 2 (t 24) (.const (.int .i64 1)))] false) (.cond (t 25) (.region 5 [q 26 (.mov (t 0)), q 27 (.mov (t 0)), q 28 (.mov (t 9)), q 29 (.mov (t 10)), q 30 (.call 0 (.func 102) [(t 27), (t 28), (t 29)]), q 31 (.mov (t 3)), q 32 (.call 0 (.func 162) [(t 26), (t 30), (t 31)]), q 9 (.asg 1 (t 32) 80)] false) .skip)) (.region 6 [q 33 (.mov (t 0)), q 34 (.mov (t 0)), q 35 (.mov (t 10)), q 36 (.mov (t 10)), q 37 (.call 0 (.func 102) [(t 34), (t 35), (t 36)]), q 38 (.mov (t 3)), q 39 (.call 0 (.func 162) [(t 33), (t 37), (t 38)]), q 10 (.asg 1 (t 39) 80)] false))) (.region 3 [q 21 (.mov (t 2)), q 22 (.bin .shr 2 (t 21) (.const (.int .u64 1))), q 2 (.asg 0 (t 22) 2)] false))))) (.seq (.region 7 [q 40 (.mov (t 9)), q 8 (.asg 1 (t 40) 80)] false) .ret))))
def impl_prime_power_L : Live := [(0, [0, 1, 2, 3]), (1, [0, 1, 2, 3]), (2, [0, 2, 3, 9, 10]), (3, [0, 2, 3, 9, 10]), (4, [0, 2, 3, 9, 10]), (5, [0, 2, 3, 9, 10]), (6, [0, 2, 3, 9, 10]), (7, [9]), (100020, [0, 2, 3, 9, 10, 20]), (100025, [0, 2, 3, 9, 10, 25])]
noncomputable def impl_prime_power_l1 (a0 : Int) (a3 : (List Int)) (x108 : Int) (x109 : (List Int)) (x110 : (List Int)) : Option ((Int × (List Int) × (List Int)) ⊕ (List Int)) :=
  (if (decide (x108 > 0)) then (Option.bind (α := (List Int)) ((letp (IntKind.i64.wrap (BitVec.ofInt IntKind.i64.bits x108 &&& BitVec.ofInt IntKind.i64.bits 1).toNat) fun x149 => (if (x149 == 1) then (Option.bind (impl_prime_times a0 x109 x110) fun r152 => (Option.bind (impl_prime_rest a0 r152 a3) fun r154 => (some r154))) else (some x109)))) fun x145 => (Option.bind (impl_prime_times a0 x110 x110) fun r156 => (Option.bind (impl_prime_rest a0 r156 a3) fun r158 => (some (.inl ((Int.fdiv x108 (2 ^ (min (1 : Int).toNat IntKind.i64.bits)), x145, r158))))))) else (some (.inr x109)))
noncomputable def impl_prime_power (a0 : Int) (a1 : (List Int)) (a2 : Int) (a3 : (List Int)) : Option (List Int) :=
  (Option.bind (impl_prime_rest a0 ([1]) a3) fun r1 => (Option.bind (impl_prime_rest a0 a1 a3) fun r3 => (Option.bind (α := (List Int)) ((loopM (fun s : (Int × (List Int) × (List Int)) => impl_prime_power_l1 a0 a3 s.1 s.2.1 s.2.2) (a2, r1, r3))) fun x81 => (some x81))))
theorem impl_prime_power_ok (a0 : Int) (a1 : (List Int)) (a2 : Int) (a3 : (List Int)) (r : (List Int)) (h : impl_prime_power a0 a1 a2 a3 = some r) : Den Try.prog 134 [(i6 a0), (eSi64 a1), (i6 a2), (eSi64 a3)] { r := (eSi64 r) } := by
  refine den_of (rs := [(eSi64 r)]) (ac := impl_prime_power_c) (L := impl_prime_power_L) (n := 41) (m := [(8, 1), (9, 1), (10, 1)]) (c := Try.f134.body.getD .skip) good Try.func134 (by kernel_rfl) (by kernel_rfl) Try.ntmps134 rfl rfl (by kernel_rfl) rfl rfl ?_
  refine a_st (σ' := ⟨[(0, (i6 a0)), (1, (eSi64 a1)), (2, (i6 a2)), (3, (eSi64 a3))], []⟩) (by kernel_rfl) ?_
  unfold impl_prime_power_c
  refine sr (vp (eSi64 ([])) rfl (nx ⟨[(0, (i6 a0)), (1, (eSi64 a1)), (2, (i6 a2)), (3, (eSi64 a3))], []⟩ (by kernel_rfl) (sr (vp (i6 a0) rfl (vq (.sl 1 true (([1]).map (AV.int .i64))) rfl ⟨(Nat.le_of_ble_eq_true rfl), (Nat.le_of_ble_eq_true rfl), (all_cons ⟨(Nat.le_of_ble_eq_true rfl), rfl⟩ all_nil)⟩ (vp (eSi64 a3) rfl ?_))))))
  obtain ⟨r1, hr2, h⟩ := bind_some h
  refine a_call (args := [(i6 a0), (.sl 1 true (([1]).map (AV.int .i64))), (eSi64 a3)]) (u := []) (r := (eSi64 r1)) rfl rfl (Den.args (impl_prime_rest_ok a0 ([1]) a3 r1 hr2) rfl rfl (.cons (.refl _) (.cons (.loose _) (.cons (.refl _) .nil)))) rfl (vp (i6 a0) rfl (vp (eSi64 a1) rfl (vp (eSi64 a3) rfl ?_)))
  obtain ⟨r3, hr4, h⟩ := bind_some h
  refine a_call (args := [(i6 a0), (eSi64 a1), (eSi64 a3)]) (u := []) (r := (eSi64 r3)) rfl rfl (impl_prime_rest_ok a0 a1 a3 r3 hr4) rfl (vp (eSi64 r1) rfl (vp (eSi64 r3) rfl (nx ⟨[(0, (i6 a0)), (2, (i6 a2)), (3, (eSi64 a3)), (9, (eSi64 r1)), (10, (eSi64 r3))], []⟩ (by kernel_rfl) ?_)))
  obtain ⟨y82, hy83, hk84⟩ := bind_some h
  clear h
  refine a_join (emb := fun (s : (List Int)) => ⟨[(9, (eSi64 s))], []⟩) (pre := fun s => s = y82) ?_ ?_
  · rintro x81 rfl
    have h := hk84
    refine a_st (σ' := ⟨[(9, (eSi64 x81))], []⟩) (by kernel_rfl) (sr (vp (eSi64 x81) rfl (vp (eSi64 x81) rfl (nx _ rfl (a_ret ?_)))))
    refine ⟨.inr rfl, ?_⟩
    rw [Try.results134]
    cases h
    exact ⟨_, _, _, _, _, rfl, trivial, .inl ⟨rfl, .inl rfl⟩, rfl, rfl⟩
  · have h := hy83
    refine a_block ?_
    refine a_loop (emb := fun (s : (Int × (List Int) × (List Int))) => ⟨[(0, (i6 a0)), (2, (i6 s.1)), (3, (eSi64 a3)), (9, (eSi64 s.2.1)), (10, (eSi64 s.2.2))], []⟩) (body := (fun s : (Int × (List Int) × (List Int)) => impl_prime_power_l1 a0 a3 s.1 s.2.1 s.2.2)) (G := fun q => some q = some y82) h rfl ?_ (by kernel_rfl)
    rintro X134 ⟨x108, x109, x110⟩ x135 h hX136
    have h : impl_prime_power_l1 a0 a3 x108 x109 x110 = some x135 := h
    refine a_st (σ' := ⟨[(0, (i6 a0)), (2, (i6 x108)), (3, (eSi64 a3)), (9, (eSi64 x109)), (10, (eSi64 x110))], []⟩) (by kernel_rfl) (a_seq (sr (vp (i6 x108) rfl (vp (.bool ((decide (x108 > 0)))) rfl (nx ⟨[(0, (i6 a0)), (2, (i6 x108)), (3, (eSi64 a3)), (9, (eSi64 x109)), (10, (eSi64 x110)), (20, (.bool ((decide (x108 > 0)))))], []⟩ (by kernel_rfl) ?_)))))
    cases hb137 : (decide (x108 > 0))
    · have h := ite_f hb137 h
      refine a_cond_f rfl (a_exit (t_exit ?_))
      cases h
      have h := hX136
      refine t_exit (b_exit ?_)
      exact j_leaf x109 (Option.some.inj h) (by kernel_rfl)
    · have h := ite_t hb137 h
      refine a_cond_t rfl (a_skip (a_next (σ' := ⟨[(0, (i6 a0)), (2, (i6 x108)), (3, (eSi64 a3)), (9, (eSi64 x109)), (10, (eSi64 x110))], []⟩) (by kernel_rfl) (a_seq (a_block ?_))))
      obtain ⟨y146, hy147, hk148⟩ := bind_some h
      clear h
      refine a_join (emb := fun (s : (List Int)) => ⟨[(0, (i6 a0)), (2, (i6 x108)), (3, (eSi64 a3)), (9, (eSi64 s)), (10, (eSi64 x110))], []⟩) (pre := fun s => s = y146) ?_ ?_
      · rintro x145 rfl
        have h := hk148
        refine a_st (σ' := ⟨[(0, (i6 a0)), (2, (i6 x108)), (3, (eSi64 a3)), (9, (eSi64 x145)), (10, (eSi64 x110))], []⟩) (by kernel_rfl) (a_region (vp (i6 a0) rfl (vp (i6 a0) rfl (vp (eSi64 x110) rfl (vp (eSi64 x110) rfl ?_)))))
        obtain ⟨r156, hr157, h⟩ := bind_some h
        refine a_call (args := [(i6 a0), (eSi64 x110), (eSi64 x110)]) (u := []) (r := (eSi64 r156)) rfl rfl (impl_prime_times_ok a0 x110 x110 r156 hr157) rfl (vp (eSi64 a3) rfl ?_)
        obtain ⟨r158, hr159, h⟩ := bind_some h
        refine a_call (args := [(i6 a0), (eSi64 r156), (eSi64 a3)]) (u := []) (r := (eSi64 r158)) rfl rfl (impl_prime_rest_ok a0 r156 a3 r158 hr159) rfl (vp (eSi64 r158) rfl (a_nil (b_norm (a_next (σ' := ⟨[(0, (i6 a0)), (2, (i6 x108)), (3, (eSi64 a3)), (9, (eSi64 x145)), (10, (eSi64 r158))], []⟩) (by kernel_rfl) (a_region (vp (i6 x108) rfl (vq (i6 (Int.fdiv x108 (2 ^ (min (1 : Int).toNat IntKind.i64.bits)))) rfl (by decide) (vp (i6 (Int.fdiv x108 (2 ^ (min (1 : Int).toNat IntKind.i64.bits)))) rfl (a_nil ?_)))))))))
        cases h
        exact a_again (by kernel_rfl) hX136
      · have h := hy147
        refine sr (vp (i6 x108) rfl ?_)
        obtain ⟨x149, hx150, h⟩ := letp_some h
        refine a_val' (v := (i6 (IntKind.i64.wrap (BitVec.ofInt IntKind.i64.bits x108 &&& BitVec.ofInt IntKind.i64.bits 1).toNat))) (v' := (i6 x149)) (u := []) (u' := []) rfl (congrArg (fun z => ((i6 z) : AV)) hx150) rfl trivial rfl (vp (.bool (x149 == 1)) rfl (nx ⟨[(0, (i6 a0)), (2, (i6 x108)), (3, (eSi64 a3)), (9, (eSi64 x109)), (10, (eSi64 x110)), (25, (.bool (x149 == 1)))], []⟩ (by kernel_rfl) ?_))
        cases hb151 : (x149 == 1)
        · have h := ite_f hb151 h
          refine a_cond_f rfl (a_skip ?_)
          exact j_leaf x109 (Option.some.inj h) (by kernel_rfl)
        · have h := ite_t hb151 h
          refine a_cond_t rfl (a_region (vp (i6 a0) rfl (vp (i6 a0) rfl (vp (eSi64 x109) rfl (vp (eSi64 x110) rfl ?_)))))
          obtain ⟨r152, hr153, h⟩ := bind_some h
          refine a_call (args := [(i6 a0), (eSi64 x109), (eSi64 x110)]) (u := []) (r := (eSi64 r152)) rfl rfl (impl_prime_times_ok a0 x109 x110 r152 hr153) rfl (vp (eSi64 a3) rfl ?_)
          obtain ⟨r154, hr155, h⟩ := bind_some h
          refine a_call (args := [(i6 a0), (eSi64 r152), (eSi64 a3)]) (u := []) (r := (eSi64 r154)) rfl rfl (impl_prime_rest_ok a0 r152 a3 r154 hr155) rfl (vp (eSi64 r154) rfl (a_nil ?_))
          exact j_leaf r154 (Option.some.inj h) (by kernel_rfl)
def impl_PowerOf_c : ACode := (.seq (.region 0 [q 4 (.box 25 (t 1)), q 6 (.alloc 25), q 7 (.asg 0 (.const (.int .i64 0)) 2)] false) (.seq (.seq (.region 1 [q 11 (.mov (t 0)), q 12 (.load 25 (t 4)), q 13 (.bslice 0 55 1 [(0, (t 12))]), q 14 (.call 0 (.func 100) [(t 11), (t 13)]), q 8 (.asg 0 (t 14) 2)] false) (.seq (.region 2 [q 15 (.mov (t 8)), q 16 (.bin .neq 2 (t 15) (.const (.int .i64 0)))] false) (.cond (t 16) (.seq (.region 3 [q 17 (.build 25 []), q 18 (.mov (t 8)), ⟨none, .store 25 (t 6) (t 17), none, []⟩, q 7 (.asg 0 (t 18) 2)] false) .ret) .skip))) (.seq (.region 4 [q 19 (.load 25 (t 4)), q 20 (.call 0 (.func 103) [(t 19)]), q 9 (.asg 1 (t 20) 80)] false) (.seq (.block 0 (.seq (.region 5 [q 22 (.mov (t 2)), q 23 (.call 0 (.func 118) [(t 22)]), q 24 (.un .not (t 23)), q 21 (.asg 0 (t 24) 4)] false) (.cond (t 21) (.seq (.region 6 [q 25 (.build 25 []), ⟨none, .store 25 (t 6) (t 25), none, []⟩, q 7 (.asg 0 (.const (.int .i64 2)) 2)] false) .ret) (.seq (.region 7 [q 27 (.mov (t 9)), q 28 (.call 0 (.func 114) [(t 27)]), q 29 (.bin .gtr 2 (t 28) (.const (.int .i64 0))), q 30 (.mov (t 29)), ⟨some 31, .mov (t 2), some (30, true), []⟩, ⟨some 32, .bin .gtr 2 (t 31) (.const (.int .i64 63)), some (30, true), []⟩, q 33 (.pick (t 30) (t 32) (.const (.bool false))), q 26 (.asg 0 (t 33) 4)] false) (.cond (t 26) (.seq (.region 8 [q 34 (.build 25 []), ⟨none, .store 25 (t 6) (t 34), none, []⟩, q 7 (.asg 0 (.const (.int .i64 3)) 2)] false) .ret) (.seq (.region 9 [q 36 (.mov (t 9)), q 37 (.call 0 (.func 114) [(t 36)]), q 38 (.bin .leq 2 (t 37) (.const (.int .i64 0))), q 35 (.asg 0 (t 38) 4)] false) (.cond (t 35) (.seq (.region 10 [q 39 (.mov (t 0)), q 40 (.mov (t 9)), q 41 (.mov (t 2)), q 42 (.bslice 0 80 2 [(0, (.const (.int .i64 0))), (1, (.const (.int .i64 1)))]), q 43 (.call 0 (.func 134) [(t 39), (t 40), (t 41), (t 42)]), q 44 (.call 0 (.func 101) [(t 43)]), q 45 (.extract (t 44) 0), q 46 (.extract (t 44) 1), ⟨none, .store 25 (t 6) (t 45), none, []⟩, q 7 (.asg 0 (t 46) 2)] false) .ret) .skip))))))) (.seq (.region 11 [q 47 (.bslice 0 80 1 [(0, (.const (.int .i64 1)))]), q 10 (.asg 1 (t 47) 80)] false) (.seq (.seq (.region 12 [q 48 (.mov (t 2)), q 49 (.mov (.const (.int .i64 0)))] false) (.block 1 (.loop (.seq (.region 13 [q 50 (.bin .lss 2 (t 49) (t 48))] false) (.seq (.cond (t 50) .skip (.exit 1)) (.seq (.block 2 (.seq (.region 14 [q 51 (.mov (t 0)), q 52 (.mov (t 10)), q 53 (.mov (t 9)), q 54 (.call 0 (.func 102) [(t 51), (t 52), (t 53)]), q 10 (.asg 1 (t 54) 80)] false) (.seq (.region 15 [q 55 (.mov (t 10)), q 56 (.call 0 (.func 135) [(t 55)]), q 57 (.un .not (t 56))] false) (.cond (t 57) (.seq (.region 16 [q 58 (.build 25 []), ⟨none, .store 25 (t 6) (t 58), none, []⟩, q 7 (.asg 0 (.const (.int .i64 3)) 2)] false) .ret) .skip)))) (.region 17 [q 59 (.bin .add 2 (t 49) (.const (.int .i64 1))), q 49 (.mov (t 59))] false))))))) (.seq (.region 18 [q 60 (.mov (t 10)), q 61 (.call 0 (.func 101) [(t 60)]), q 62 (.extract (t 61) 0), q 63 (.extract (t 61) 1), ⟨none, .store 25 (t 6) (t 62), none, []⟩, q 7 (.asg 0 (t 63) 2)] false) .ret)))))))
def impl_PowerOf_L : Live := [(0, [0, 1, 2]), (1, [0, 2, 4, 6]), (2, [0, 2, 4, 6, 8]), (3, [6, 8]), (4, [0, 2, 4, 6]), (5, [0, 2, 6, 9]), (6, [6]), (7, [0, 2, 6, 9]), (8, [6]), (9, [0, 2, 6, 9]), (10, [0, 2, 6, 9]), (11, [0, 2, 6, 9]), (12, [0, 2, 6, 9, 10]), (13, [0, 6, 9, 10, 48, 49]), (14, [0, 6, 9, 10, 48, 49]), (15, [0, 6, 9, 10, 48, 49]), (16, [6]), (17, [0, 6, 9, 10, 48, 49]), (18, [6, 10]), (100016, [0, 2, 4, 6, 8, 16]), (100021, [0, 2, 6, 9, 21]), (100026, [0, 2, 6, 9, 26]), (100035, [0, 2, 6, 9, 35]), (100050, [0, 6, 9, 10, 48, 49, 50]), (100057, [0, 6, 9, 10, 48, 49, 57])]
noncomputable def impl_PowerOf_l1 (a2 : Int) (a0 : Int) (r6 : (List Int)) (x63 : (List Int)) (x64 : Int) : Option (((List Int) × Int) ⊕ ((List Int) ⊕ ((Vec Int 64) × Int))) :=
  (if (decide (x64 < a2)) then (Option.bind (impl_prime_times a0 x63 r6) fun r76 => (Option.bind (impl_row_fits r76) fun r78 => (if (!r78) then (some (.inr ((.inr (((vrep 64 (0 : Int)), 3)))))) else (some (.inl ((r76, IntKind.i64.wrap (x64 + 1)))))))) else (some (.inr (.inl x63))))
noncomputable def impl_PowerOf (a0 : Int) (a1 : (Vec Int 64)) (a2 : Int) : Option ((Vec Int 64) × Int) :=
  (Option.bind (impl_polysCode a0 ([a1])) fun r2 => (if (r2 != 0) then (some (((vrep 64 (0 : Int)), r2))) else (Option.bind (impl_rowOf a1) fun r6 => (Option.bind (impl_isNumber a2) fun r8 => (if (!r8) then (some (((vrep 64 (0 : Int)), 2))) else (Option.bind (α := Bool) ((Option.bind (impl_row_degree r6) fun r18 => (if (decide (r18 > 0)) then (some ((decide (a2 > 63)))) else (some false)))) fun x14 => (if x14 then (some (((vrep 64 (0 : Int)), 3))) else (Option.bind (impl_row_degree r6) fun r22 => (if (decide (r22 ≤ 0)) then (Option.bind (impl_prime_power a0 r6 a2 ([0, 1])) fun r89 => (Option.bind (impl_told r89) fun r91 => (some (r91.1, r91.2)))) else (Option.bind (α := ((List Int) ⊕ ((Vec Int 64) × Int))) ((loopM (fun s : ((List Int) × Int) => impl_PowerOf_l1 a2 a0 r6 s.1 s.2) ([1], 0))) fun z => match z with | .inl x52 => (Option.bind (impl_told x52) fun r84 => (some (r84.1, r84.2))) | .inr r88 => (some r88)))))))))))
theorem impl_PowerOf_ok (a0 : Int) (a1 : (Vec Int 64)) (a2 : Int) (r : ((Vec Int 64) × Int)) (h : impl_PowerOf a0 a1 a2 = some r) : Den Try.prog 40 [(i6 a0), (eA64u8 a1), (i6 a2)] { r := (.tuple [(eA64u8 r.1), (i6 r.2)]) } := by
  refine den_of (rs := [(eA64u8 r.1), (i6 r.2)]) (ac := impl_PowerOf_c) (L := impl_PowerOf_L) (n := 64) (m := [(9, 1), (10, 1)]) (c := Try.f40.body.getD .skip) good Try.func40 (by kernel_rfl) (by kernel_rfl) Try.ntmps40 rfl rfl (by kernel_rfl) rfl rfl ?_
  refine a_st (σ' := ⟨[(0, (i6 a0)), (1, (eA64u8 a1)), (2, (i6 a2))], []⟩) (by kernel_rfl) ?_
  unfold impl_PowerOf_c
  refine sr (vo 1400 (eA64u8 a1) rfl rfl (vo 1600 (eA64u8 ((vrep 64 (0 : Int)))) rfl rfl (vp (i6 0) rfl (nx ⟨[(0, (i6 a0)), (2, (i6 a2)), (4, (ow 4)), (6, (ow 6))], [(4, (bk (eA64u8 a1))), (6, (bk (eA64u8 ((vrep 64 (0 : Int))))))]⟩ (by kernel_rfl) (a_seq (sr (vp (i6 a0) rfl (vl (eA64u8 a1) rfl rfl rfl rfl rfl rfl (vq (.sl 64 true (([a1]).map eA64u8)) rfl ⟨(Nat.le_of_ble_eq_true rfl), (Nat.le_of_ble_eq_true rfl), (all_cons ⟨(Nat.le_of_ble_eq_true rfl), rfl⟩ all_nil)⟩ ?_)))))))))
  obtain ⟨r2, hr3, h⟩ := bind_some h
  refine a_call (args := [(i6 a0), (.sl 64 true (([a1]).map eA64u8))]) (u := []) (r := (i6 r2)) rfl rfl (Den.args (impl_polysCode_ok a0 ([a1]) r2 hr3) rfl rfl (.cons (.refl _) (.cons (.loose _) .nil))) rfl (vp (i6 r2) rfl (nx ⟨[(0, (i6 a0)), (2, (i6 a2)), (4, (ow 4)), (6, (ow 6)), (8, (i6 r2))], [(4, (bk (eA64u8 a1))), (6, (bk (eA64u8 ((vrep 64 (0 : Int))))))]⟩ (by kernel_rfl) (sr (vp (i6 r2) rfl (vp (.bool (r2 != 0)) rfl (nx ⟨[(0, (i6 a0)), (2, (i6 a2)), (4, (ow 4)), (6, (ow 6)), (8, (i6 r2)), (16, (.bool (r2 != 0)))], [(4, (bk (eA64u8 a1))), (6, (bk (eA64u8 ((vrep 64 (0 : Int))))))]⟩ (by kernel_rfl) ?_))))))
  cases hb4 : (r2 != 0)
  · have h := ite_f hb4 h
    refine a_cond_f rfl (a_skip (a_next (σ' := ⟨[(0, (i6 a0)), (2, (i6 a2)), (4, (ow 4)), (6, (ow 6))], [(4, (bk (eA64u8 a1))), (6, (bk (eA64u8 ((vrep 64 (0 : Int))))))]⟩) (by kernel_rfl) (sr (vl (eA64u8 a1) rfl rfl rfl rfl rfl rfl ?_))))
    obtain ⟨r6, hr7, h⟩ := bind_some h
    refine a_call (args := [(eA64u8 a1)]) (u := []) (r := (eSi64 r6)) rfl rfl (impl_rowOf_ok a1 r6 hr7) rfl (vp (eSi64 r6) rfl (nx ⟨[(0, (i6 a0)), (2, (i6 a2)), (6, (ow 6)), (9, (eSi64 r6))], [(6, (bk (eA64u8 ((vrep 64 (0 : Int))))))]⟩ (by kernel_rfl) (a_seq (a_block (sr (vp (i6 a2) rfl ?_))))))
    obtain ⟨r8, hr9, h⟩ := bind_some h
    refine a_call (args := [(i6 a2)]) (u := []) (r := (.bool r8)) rfl rfl (impl_isNumber_ok a2 r8 hr9) rfl (vp (.bool (!r8)) rfl (vp (.bool (!r8)) rfl (nx ⟨[(0, (i6 a0)), (2, (i6 a2)), (6, (ow 6)), (9, (eSi64 r6)), (21, (.bool (!r8)))], [(6, (bk (eA64u8 ((vrep 64 (0 : Int))))))]⟩ (by kernel_rfl) ?_)))
    cases hb10 : (!r8)
    · have h := ite_f hb10 h
      refine a_cond_f rfl ?_
      obtain ⟨y15, hy16, hk17⟩ := bind_some h
      clear h
      refine a_join (emb := fun (s : Bool) => ⟨[(0, (i6 a0)), (2, (i6 a2)), (6, (ow 6)), (9, (eSi64 r6)), (26, (.bool s))], [(6, (bk (eA64u8 ((vrep 64 (0 : Int))))))]⟩) (pre := fun s => s = y15) ?_ ?_
      · rintro x14 rfl
        have h := hk17
        refine a_st (σ' := ⟨[(0, (i6 a0)), (2, (i6 a2)), (6, (ow 6)), (9, (eSi64 r6)), (26, (.bool x14))], [(6, (bk (eA64u8 ((vrep 64 (0 : Int))))))]⟩) (by kernel_rfl) ?_
        cases hb21 : x14
        · have h := ite_f hb21 h
          refine a_cond_f rfl (sr (vp (eSi64 r6) rfl ?_))
          obtain ⟨r22, hr23, h⟩ := bind_some h
          refine a_call (args := [(eSi64 r6)]) (u := []) (r := (i6 r22)) rfl rfl (impl_row_degree_ok r6 r22 hr23) rfl (vp (.bool ((decide (r22 ≤ 0)))) rfl (vp (.bool ((decide (r22 ≤ 0)))) rfl (nx ⟨[(0, (i6 a0)), (2, (i6 a2)), (6, (ow 6)), (9, (eSi64 r6)), (35, (.bool ((decide (r22 ≤ 0)))))], [(6, (bk (eA64u8 ((vrep 64 (0 : Int))))))]⟩ (by kernel_rfl) ?_)))
          cases hb24 : (decide (r22 ≤ 0))
          · have h := ite_f hb24 h
            refine a_cond_f rfl (a_skip (b_norm (a_next (σ' := ⟨[(0, (i6 a0)), (2, (i6 a2)), (6, (ow 6)), (9, (eSi64 r6))], [(6, (bk (eA64u8 ((vrep 64 (0 : Int))))))]⟩) (by kernel_rfl) (sr (vq (.sl 1 true (([1]).map (AV.int .i64))) rfl ⟨(Nat.le_of_ble_eq_true rfl), (Nat.le_of_ble_eq_true rfl), (all_cons ⟨(Nat.le_of_ble_eq_true rfl), rfl⟩ all_nil)⟩ (vq (eSi64 ([1])) (asg_tight (i := ⟨.int .i64, 1, 8, (.int .i64 0)⟩) (f := (AV.int .i64)) (l := [1]) rfl rfl rfl) trivial (nx ⟨[(0, (i6 a0)), (2, (i6 a2)), (6, (ow 6)), (9, (eSi64 r6)), (10, (eSi64 ([1])))], [(6, (bk (eA64u8 ((vrep 64 (0 : Int))))))]⟩ (by kernel_rfl) ?_)))))))
            obtain ⟨y53, hy54, hk55⟩ := bind_some h
            clear h
            refine a_join (emb := fun (s : (List Int)) => ⟨[(6, (ow 6)), (10, (eSi64 s))], [(6, (bk (eA64u8 ((vrep 64 (0 : Int))))))]⟩) (pre := fun s => (.inl s) = y53) ?_ ?_
            · rintro x52 rfl
              have h := hk55
              refine a_st (σ' := ⟨[(6, (ow 6)), (10, (eSi64 x52))], [(6, (bk (eA64u8 ((vrep 64 (0 : Int))))))]⟩) (by kernel_rfl) (sr (vp (eSi64 x52) rfl ?_))
              obtain ⟨r84, hr85, h⟩ := bind_some h
              refine a_call (args := [(eSi64 x52)]) (u := []) (r := (.tuple [(eA64u8 r84.1), (i6 r84.2)])) rfl rfl (impl_told_ok x52 r84 hr85) rfl (vb (eA64u8 r84.1) rfl rfl (vb (i6 r84.2) rfl rfl (vs (eA64u8 r84.1) rfl rfl (fun _ => rfl) rfl rfl rfl rfl rfl rfl (vp (i6 r84.2) rfl (nx _ rfl (a_ret ?_))))))
              have hl87 : LdOk [] (eA64u8 r84.1) [] 64 true (eA64u8 r84.1) := (.nil rfl rfl rfl)
              refine ⟨.inr rfl, ?_⟩
              rw [Try.results40]
              cases h
              exact ⟨_, _, _, _, _, ld_own (i := ⟨.arr 64 5, 64, 64, (eA64u8 (vrep 64 (0 : Int)))⟩) rfl rfl rfl hl87, hl87.c, .inl ⟨rfl, .inl rfl⟩, rfl, ⟨_, _, _, _, _, rfl, trivial, .inl ⟨rfl, .inl rfl⟩, rfl, rfl⟩⟩
            · have h := hy54
              refine sr (vp (i6 a2) rfl (vp (i6 0) rfl (nx ⟨[(0, (i6 a0)), (6, (ow 6)), (9, (eSi64 r6)), (10, (eSi64 ([1]))), (48, (i6 a2)), (49, (i6 0))], [(6, (bk (eA64u8 ((vrep 64 (0 : Int))))))]⟩ (by kernel_rfl) (a_block ?_))))
              refine a_loop (emb := fun (s : ((List Int) × Int)) => ⟨[(0, (i6 a0)), (6, (ow 6)), (9, (eSi64 r6)), (10, (eSi64 s.1)), (48, (i6 a2)), (49, (i6 s.2))], [(6, (bk (eA64u8 ((vrep 64 (0 : Int))))))]⟩) (body := (fun s : ((List Int) × Int) => impl_PowerOf_l1 a2 a0 r6 s.1 s.2)) (G := fun q => some q = some y53) h rfl ?_ (by kernel_rfl)
              rintro X72 ⟨x63, x64⟩ x73 h hX74
              have h : impl_PowerOf_l1 a2 a0 r6 x63 x64 = some x73 := h
              refine a_st (σ' := ⟨[(0, (i6 a0)), (6, (ow 6)), (9, (eSi64 r6)), (10, (eSi64 x63)), (48, (i6 a2)), (49, (i6 x64))], [(6, (bk (eA64u8 ((vrep 64 (0 : Int))))))]⟩) (by kernel_rfl) (sr (vp (.bool ((decide (x64 < a2)))) rfl (nx ⟨[(0, (i6 a0)), (6, (ow 6)), (9, (eSi64 r6)), (10, (eSi64 x63)), (48, (i6 a2)), (49, (i6 x64)), (50, (.bool ((decide (x64 < a2)))))], [(6, (bk (eA64u8 ((vrep 64 (0 : Int))))))]⟩ (by kernel_rfl) (a_seq ?_))))
              cases hb75 : (decide (x64 < a2))
              · have h := ite_f hb75 h
                refine a_cond_f rfl (a_exit (t_exit ?_))
                cases h
                have h := hX74
                refine t_exit (b_exit ?_)
                exact j_leaf x63 (Option.some.inj h) (by kernel_rfl)
              · have h := ite_t hb75 h
                refine a_cond_t rfl (a_skip (a_next (σ' := ⟨[(0, (i6 a0)), (6, (ow 6)), (9, (eSi64 r6)), (10, (eSi64 x63)), (48, (i6 a2)), (49, (i6 x64))], [(6, (bk (eA64u8 ((vrep 64 (0 : Int))))))]⟩) (by kernel_rfl) (a_seq (a_block (sr (vp (i6 a0) rfl (vp (eSi64 x63) rfl (vp (eSi64 r6) rfl ?_))))))))
                obtain ⟨r76, hr77, h⟩ := bind_some h
                refine a_call (args := [(i6 a0), (eSi64 x63), (eSi64 r6)]) (u := []) (r := (eSi64 r76)) rfl rfl (impl_prime_times_ok a0 x63 r6 r76 hr77) rfl (vp (eSi64 r76) rfl (nx ⟨[(0, (i6 a0)), (6, (ow 6)), (9, (eSi64 r6)), (10, (eSi64 r76)), (48, (i6 a2)), (49, (i6 x64))], [(6, (bk (eA64u8 ((vrep 64 (0 : Int))))))]⟩ (by kernel_rfl) (sr (vp (eSi64 r76) rfl ?_))))
                obtain ⟨r78, hr79, h⟩ := bind_some h
                refine a_call (args := [(eSi64 r76)]) (u := []) (r := (.bool r78)) rfl rfl (impl_row_fits_ok r76 r78 hr79) rfl (vp (.bool (!r78)) rfl (nx ⟨[(0, (i6 a0)), (6, (ow 6)), (9, (eSi64 r6)), (10, (eSi64 r76)), (48, (i6 a2)), (49, (i6 x64)), (57, (.bool (!r78)))], [(6, (bk (eA64u8 ((vrep 64 (0 : Int))))))]⟩ (by kernel_rfl) ?_))
                cases hb80 : (!r78)
                · have h := ite_f hb80 h
                  refine a_cond_f rfl (a_skip (b_norm (a_next (σ' := ⟨[(0, (i6 a0)), (6, (ow 6)), (9, (eSi64 r6)), (10, (eSi64 r76)), (48, (i6 a2)), (49, (i6 x64))], [(6, (bk (eA64u8 ((vrep 64 (0 : Int))))))]⟩) (by kernel_rfl) (a_region (vp (i6 (IntKind.i64.wrap (x64 + 1))) rfl (vp (i6 (IntKind.i64.wrap (x64 + 1))) rfl (a_nil ?_)))))))
                  cases h
                  exact a_again (by kernel_rfl) hX74
                · have h := ite_t hb80 h
                  refine a_cond_t rfl (sr (vq (eA64u8 ((vrep 64 (0 : Int)))) rfl ⟨⟨_, rfl, rfl⟩, all_nil⟩ (vs (eA64u8 ((vrep 64 (0 : Int)))) rfl rfl (fun _ => rfl) rfl rfl rfl rfl rfl rfl (vp (i6 3) rfl (nx _ rfl (a_ret (b_ret (t_ret ?_))))))))
                  cases h
                  have h := hX74
                  refine t_ret (b_ret (t_ret ?_))
                  cases h
                  have h := hk55
                  have hl82 : LdOk [] (eA64u8 ((vrep 64 (0 : Int)))) [] 64 true (eA64u8 ((vrep 64 (0 : Int)))) := (.nil rfl rfl rfl)
                  refine ⟨.inr rfl, ?_⟩
                  rw [Try.results40]
                  cases h
                  exact ⟨_, _, _, _, _, ld_own (i := ⟨.arr 64 5, 64, 64, (eA64u8 (vrep 64 (0 : Int)))⟩) rfl rfl rfl hl82, hl82.c, .inl ⟨rfl, .inl rfl⟩, rfl, ⟨_, _, _, _, _, rfl, trivial, .inl ⟨rfl, .inl rfl⟩, rfl, rfl⟩⟩
          · have h := ite_t hb24 h
            refine a_cond_t rfl (sr (vp (i6 a0) rfl (vp (eSi64 r6) rfl (vp (i6 a2) rfl (vq (.sl 1 true (([0, 1]).map (AV.int .i64))) rfl ⟨(Nat.le_of_ble_eq_true rfl), (Nat.le_of_ble_eq_true rfl), (all_cons ⟨(Nat.le_of_ble_eq_true rfl), rfl⟩ (all_cons ⟨(Nat.le_of_ble_eq_true rfl), rfl⟩ all_nil))⟩ ?_)))))
            obtain ⟨r89, hr90, h⟩ := bind_some h
            refine a_call (args := [(i6 a0), (eSi64 r6), (i6 a2), (.sl 1 true (([0, 1]).map (AV.int .i64)))]) (u := []) (r := (eSi64 r89)) rfl rfl (Den.args (impl_prime_power_ok a0 r6 a2 ([0, 1]) r89 hr90) rfl rfl (.cons (.refl _) (.cons (.refl _) (.cons (.refl _) (.cons (.loose _) .nil))))) rfl ?_
            obtain ⟨r91, hr92, h⟩ := bind_some h
            refine a_call (args := [(eSi64 r89)]) (u := []) (r := (.tuple [(eA64u8 r91.1), (i6 r91.2)])) rfl rfl (impl_told_ok r89 r91 hr92) rfl (vb (eA64u8 r91.1) rfl rfl (vb (i6 r91.2) rfl rfl (vs (eA64u8 r91.1) rfl rfl (fun _ => rfl) rfl rfl rfl rfl rfl rfl (vp (i6 r91.2) rfl (nx _ rfl (a_ret (b_ret (t_ret ?_))))))))
            have hl94 : LdOk [] (eA64u8 r91.1) [] 64 true (eA64u8 r91.1) := (.nil rfl rfl rfl)
            refine ⟨.inr rfl, ?_⟩
            rw [Try.results40]
            cases h
            exact ⟨_, _, _, _, _, ld_own (i := ⟨.arr 64 5, 64, 64, (eA64u8 (vrep 64 (0 : Int)))⟩) rfl rfl rfl hl94, hl94.c, .inl ⟨rfl, .inl rfl⟩, rfl, ⟨_, _, _, _, _, rfl, trivial, .inl ⟨rfl, .inl rfl⟩, rfl, rfl⟩⟩
        · have h := ite_t hb21 h
          refine a_cond_t rfl (sr (vq (eA64u8 ((vrep 64 (0 : Int)))) rfl ⟨⟨_, rfl, rfl⟩, all_nil⟩ (vs (eA64u8 ((vrep 64 (0 : Int)))) rfl rfl (fun _ => rfl) rfl rfl rfl rfl rfl rfl (vp (i6 3) rfl (nx _ rfl (a_ret (b_ret (t_ret ?_))))))))
          have hl96 : LdOk [] (eA64u8 ((vrep 64 (0 : Int)))) [] 64 true (eA64u8 ((vrep 64 (0 : Int)))) := (.nil rfl rfl rfl)
          refine ⟨.inr rfl, ?_⟩
          rw [Try.results40]
          cases h
          exact ⟨_, _, _, _, _, ld_own (i := ⟨.arr 64 5, 64, 64, (eA64u8 (vrep 64 (0 : Int)))⟩) rfl rfl rfl hl96, hl96.c, .inl ⟨rfl, .inl rfl⟩, rfl, ⟨_, _, _, _, _, rfl, trivial, .inl ⟨rfl, .inl rfl⟩, rfl, rfl⟩⟩
      · have h := hy16
        refine a_region (vp (eSi64 r6) rfl ?_)
        obtain ⟨r18, hr19, h⟩ := bind_some h
        refine a_call (args := [(eSi64 r6)]) (u := []) (r := (i6 r18)) rfl rfl (impl_row_degree_ok r6 r18 hr19) rfl (vp (.bool ((decide (r18 > 0)))) rfl (vp (.bool ((decide (r18 > 0)))) rfl ?_))
        cases hb20 : (decide (r18 > 0))
        · have h := ite_f hb20 h
          refine a_gskip rfl (a_gskip rfl (vp (.bool false) rfl (vp (.bool false) rfl (a_nil ?_))))
          exact j_leaf false (Option.some.inj h) (by kernel_rfl)
        · have h := ite_t hb20 h
          refine gp (i6 a2) rfl rfl (gp (.bool ((decide (a2 > 63)))) rfl rfl (vp (.bool ((decide (a2 > 63)))) rfl (vp (.bool ((decide (a2 > 63)))) rfl (a_nil ?_))))
          exact j_leaf ((decide (a2 > 63))) (Option.some.inj h) (by kernel_rfl)
    · have h := ite_t hb10 h
      refine a_cond_t rfl (sr (vq (eA64u8 ((vrep 64 (0 : Int)))) rfl ⟨⟨_, rfl, rfl⟩, all_nil⟩ (vs (eA64u8 ((vrep 64 (0 : Int)))) rfl rfl (fun _ => rfl) rfl rfl rfl rfl rfl rfl (vp (i6 2) rfl (nx _ rfl (a_ret (b_ret (t_ret ?_))))))))
      have hl98 : LdOk [] (eA64u8 ((vrep 64 (0 : Int)))) [] 64 true (eA64u8 ((vrep 64 (0 : Int)))) := (.nil rfl rfl rfl)
      refine ⟨.inr rfl, ?_⟩
      rw [Try.results40]
      cases h
      exact ⟨_, _, _, _, _, ld_own (i := ⟨.arr 64 5, 64, 64, (eA64u8 (vrep 64 (0 : Int)))⟩) rfl rfl rfl hl98, hl98.c, .inl ⟨rfl, .inl rfl⟩, rfl, ⟨_, _, _, _, _, rfl, trivial, .inl ⟨rfl, .inl rfl⟩, rfl, rfl⟩⟩
  · have h := ite_t hb4 h
    refine a_cond_t rfl (sr (vq (eA64u8 ((vrep 64 (0 : Int)))) rfl ⟨⟨_, rfl, rfl⟩, all_nil⟩ (vp (i6 r2) rfl (vs (eA64u8 ((vrep 64 (0 : Int)))) rfl rfl (fun _ => rfl) rfl rfl rfl rfl rfl rfl (vp (i6 r2) rfl (nx _ rfl (a_ret (t_ret ?_))))))))
    have hl100 : LdOk [] (eA64u8 ((vrep 64 (0 : Int)))) [] 64 true (eA64u8 ((vrep 64 (0 : Int)))) := (.nil rfl rfl rfl)
    refine ⟨.inr rfl, ?_⟩
    rw [Try.results40]
    cases h
    exact ⟨_, _, _, _, _, ld_own (i := ⟨.arr 64 5, 64, 64, (eA64u8 (vrep 64 (0 : Int)))⟩) rfl rfl rfl hl100, hl100.c, .inl ⟨rfl, .inl rfl⟩, rfl, ⟨_, _, _, _, _, rfl, trivial, .inl ⟨rfl, .inl rfl⟩, rfl, rfl⟩⟩
end Go.Proofs.Ytkbnegemdlnncaa
