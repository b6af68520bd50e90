/- Functions of the program: plain Lean functions, and that the program computes them. Printed by gen.py. -/
import Derived.Test.YtgodhgbnjlflmaaFnT
import Derived.Test.YtgodhgbnjlflmaaFn2
namespace Go.Proofs.Ytgodhgbnjlflmaa
open Go.Abs Go.Proofs
set_option linter.unusedSimpArgs false
set_option linter.unusedVariables false

def impl_prime_divide_c : ACode := (.seq (.region 0 [⟨some 6, .asg 1 (.const (.slice none 0 0)) 64, none, []⟩, ⟨some 7, .asg 1 (.const (.slice none 0 0)) 64, none, []⟩] false) (.seq (.region 1 [⟨some 15, .mov (.tmp 1), none, []⟩, ⟨some 16, .call 0 (.func 121) [(.tmp 15)], none, []⟩, ⟨some 8, .asg 2 (.tmp 16) 64, none, []⟩] false) (.seq (.seq (.region 2 [⟨some 17, .mov (.tmp 1), none, []⟩, ⟨some 18, .blt 0 .len [(.tmp 17)] [64], none, []⟩, ⟨some 19, .mov (.tmp 2), none, []⟩, ⟨some 20, .blt 0 .len [(.tmp 19)] [64], none, []⟩, ⟨some 21, .bin .lss 3 (.tmp 18) (.tmp 20), none, []⟩] false) (.cond (.tmp 21) (.seq (.region 3 [⟨some 22, .mov (.tmp 8), none, []⟩, ⟨some 6, .asg 1 (.const (.slice none 0 0)) 64, none, []⟩, ⟨some 7, .asg 1 (.tmp 22) 64, none, []⟩] false) .ret) .skip)) (.seq (.region 4 [⟨some 23, .mov (.tmp 1), none, []⟩, ⟨some 24, .blt 0 .len [(.tmp 23)] [64], none, []⟩, ⟨some 25, .mov (.tmp 2), none, []⟩, ⟨some 26, .blt 0 .len [(.tmp 25)] [64], none, []⟩, ⟨some 27, .bin .sub 3 (.tmp 24) (.tmp 26), none, []⟩, ⟨some 28, .bin .add 3 (.tmp 27) (.const (.int .i64 1)), none, []⟩, ⟨some 29, .mkslice 64 (.tmp 28) (.tmp 28), none, []⟩, ⟨some 9, .asg 2 (.tmp 29) 64, none, []⟩] false) (.seq (.region 5 [⟨some 30, .mov (.tmp 0), none, []⟩, ⟨some 31, .mov (.tmp 2), none, []⟩, ⟨some 32, .call 0 (.func 123) [(.tmp 31)], none, []⟩, ⟨some 33, .call 0 (.func 122) [(.tmp 30), (.tmp 32)], none, []⟩, ⟨some 10, .asg 0 (.tmp 33) 2, none, []⟩] false) (.seq (.seq (.region 6 [⟨some 34, .mov (.tmp 9), none, []⟩, ⟨some 35, .blt 0 .len [(.tmp 34)] [64], none, []⟩, ⟨some 36, .bin .sub 3 (.tmp 35) (.const (.int .i64 1)), none, []⟩, ⟨some 11, .asg 0 (.tmp 36) 3, none, []⟩] false) (.block 0 (.loop (.seq (.seq (.region 7 [⟨some 37, .mov (.tmp 11), none, []⟩, ⟨some 38, .bin .geq 3 (.tmp 37) (.const (.int .i64 0)), none, []⟩] false) (.cond (.tmp 38) .skip (.exit 0))) (.seq (.block 1 (.seq (.region 9 [⟨some 41, .mov (.tmp 8), none, []⟩, ⟨some 42, .mov (.tmp 11), none, []⟩, ⟨some 43, .mov (.tmp 2), none, []⟩, ⟨some 44, .blt 0 .len [(.tmp 43)] [64], none, []⟩, ⟨some 45, .bin .add 3 (.tmp 42) (.tmp 44), none, []⟩, ⟨some 46, .bin .sub 3 (.tmp 45) (.const (.int .i64 1)), none, []⟩, ⟨some 47, .indexAddr 64 (.tmp 41) (.tmp 46), none, []⟩, ⟨some 48, .load 2 (.tmp 47), none, []⟩, ⟨some 49, .mov (.tmp 10), none, []⟩, ⟨some 50, .bin .mul 2 (.tmp 48) (.tmp 49), none, []⟩, ⟨some 51, .mov (.tmp 0), none, []⟩, ⟨some 52, .bin .rem 2 (.tmp 50) (.tmp 51), none, []⟩, ⟨some 12, .asg 0 (.tmp 52) 2, none, []⟩] false) (.seq (.region 10 [⟨some 53, .mov (.tmp 9), none, []⟩, ⟨some 54, .mov (.tmp 11), none, []⟩, ⟨some 55, .mov (.tmp 12), none, []⟩, ⟨some 56, .indexAddr 64 (.tmp 53) (.tmp 54), none, []⟩, ⟨none, .store 2 (.tmp 56) (.tmp 55), none, []⟩] false) (.seq (.region 11 [⟨some 57, .mov (.tmp 2), none, []⟩, ⟨some 58, .blt 0 .len [(.tmp 57)] [64], none, []⟩, ⟨some 59, .mov (.const (.int .i64 0)), none, []⟩] false) (.block 2 (.loop (.seq (.region 12 [⟨some 60, .bin .lss 3 (.tmp 59) (.tmp 58), none, []⟩] false) (.seq (.cond (.tmp 60) .skip (.exit 2)) (.seq (.block 3 (.seq (.region 13 [⟨some 61, .mov (.tmp 59), none, []⟩, ⟨some 62, .indexAddr 64 (.tmp 57) (.tmp 59), none, []⟩, ⟨some 63, .load 2 (.tmp 62), none, []⟩, ⟨some 13, .asg 0 (.tmp 61) 3, none, []⟩, ⟨some 14, .asg 0 (.tmp 63) 2, none, []⟩] false) (.region 14 [⟨some 64, .mov (.tmp 8), none, []⟩, ⟨some 65, .mov (.tmp 11), none, []⟩, ⟨some 66, .mov (.tmp 13), none, []⟩, ⟨some 67, .bin .add 3 (.tmp 65) (.tmp 66), none, []⟩, ⟨some 68, .mov (.tmp 0), none, []⟩, ⟨some 69, .mov (.tmp 8), none, []⟩, ⟨some 70, .mov (.tmp 11), none, []⟩, ⟨some 71, .mov (.tmp 13), none, []⟩, ⟨some 72, .bin .add 3 (.tmp 70) (.tmp 71), none, []⟩, ⟨some 73, .indexAddr 64 (.tmp 69) (.tmp 72), none, []⟩, ⟨some 74, .load 2 (.tmp 73), none, []⟩, ⟨some 75, .mov (.tmp 12), none, []⟩, ⟨some 76, .mov (.tmp 14), none, []⟩, ⟨some 77, .bin .mul 2 (.tmp 75) (.tmp 76), none, []⟩, ⟨some 78, .bin .sub 2 (.tmp 74) (.tmp 77), none, []⟩, ⟨some 79, .call 0 (.func 110) [(.tmp 68), (.tmp 78)], none, []⟩, ⟨some 80, .indexAddr 64 (.tmp 64) (.tmp 67), none, []⟩, ⟨none, .store 2 (.tmp 80) (.tmp 79), none, []⟩] false))) (.region 15 [⟨some 81, .bin .add 3 (.tmp 59) (.const (.int .i64 1)), none, []⟩, ⟨some 59, .mov (.tmp 81), none, []⟩] false)))))))))) (.region 8 [⟨some 39, .mov (.tmp 11), none, []⟩, ⟨some 40, .bin .sub 3 (.tmp 39) (.const (.int .i64 1)), none, []⟩, ⟨some 11, .asg 0 (.tmp 40) 3, none, []⟩] false)))))) (.seq (.region 16 [⟨some 82, .mov (.tmp 9), none, []⟩, ⟨some 83, .call 0 (.func 111) [(.tmp 82)], none, []⟩, ⟨some 84, .mov (.tmp 8), none, []⟩, ⟨some 85, .call 0 (.func 111) [(.tmp 84)], none, []⟩, ⟨some 6, .asg 1 (.tmp 83) 64, none, []⟩, ⟨some 7, .asg 1 (.tmp 85) 64, none, []⟩] false) .ret)))))))
def impl_prime_divide_L : Live := [(0, [0, 1, 2]), (1, [0, 1, 2]), (2, [0, 1, 2, 8]), (3, [8]), (4, [0, 1, 2, 8]), (5, [0, 2, 8, 9]), (6, [0, 2, 8, 9, 10]), (7, [0, 2, 8, 9, 10, 11]), (8, [0, 2, 8, 9, 10, 11]), (9, [0, 2, 8, 9, 10, 11]), (10, [0, 2, 8, 9, 10, 11, 12]), (11, [0, 2, 8, 9, 10, 11, 12]), (12, [0, 2, 8, 9, 10, 11, 12, 57, 58, 59]), (13, [0, 2, 8, 9, 10, 11, 12, 57, 58, 59]), (14, [0, 2, 8, 9, 10, 11, 12, 13, 14, 57, 58, 59]), (15, [0, 2, 8, 9, 10, 11, 12, 57, 58, 59]), (16, [8, 9]), (100021, [0, 1, 2, 8, 21]), (100038, [0, 2, 8, 9, 10, 11, 38]), (100060, [0, 2, 8, 9, 10, 11, 12, 57, 58, 59, 60])]
theorem impl_prime_divide_body : Try.f91.body = some (Try.f91.body.getD .skip) := by kernel_rfl
theorem impl_prime_divide_strip : strip [(6, 1), (7, 1), (8, 2), (9, 2)] (Try.f91.body.getD .skip) = impl_prime_divide_c := by kernel_rfl
noncomputable def impl_prime_divide_l2 (a2 : (List Int)) (x467 : Int) (x468 : (List Int)) (x641 : Int) (r9 : Int) (a0 : Int) (x469 : (List Int)) (x661 : Int) (x662 : (List Int)) : Option ((Int × (List Int)) ⊕ ((List Int) × (List Int))) :=
  (if (decide (x661 < (a2.length : Int))) then (ifp (0 ≤ x661 ∧ x661 < ((a2.length : Nat) : Int)) ((ifp (0 ≤ IntKind.i64.wrap (x467 + x661) ∧ IntKind.i64.wrap (x467 + x661) < ((x662.length : Nat) : Int)) ((letp (IntKind.i64.wrap ((Int.tmod (IntKind.i64.wrap ((rd x468 x641.toNat) * r9)) a0) * (rd a2 x661.toNat))) fun x684 => (letp (IntKind.i64.wrap (((rd x662 (IntKind.i64.wrap (x467 + x661)).toNat)) - x684)) fun x686 => (Option.bind (impl_prime_reduce a0 x686) fun r688 => (ifp (0 ≤ IntKind.i64.wrap (x467 + x661) ∧ IntKind.i64.wrap (x467 + x661) < ((x662.length : Nat) : Int)) ((some (.inl ((IntKind.i64.wrap (x661 + 1), (x662.set (IntKind.i64.wrap (x467 + x661)).toNat r688)))))))))))))) else (some (.inr (((x662, (x469.set x467.toNat (Int.tmod (IntKind.i64.wrap ((rd x468 x641.toNat) * r9)) a0))))))))
noncomputable def impl_prime_divide_l1 (a2 : (List Int)) (a0 : Int) (r9 : Int) (x467 : Int) (x468 : (List Int)) (x469 : (List Int)) : Option ((Int × (List Int) × (List Int)) ⊕ ((List Int) × (List Int))) :=
  (if (decide (x467 ≥ 0)) then (Option.bind (α := ((List Int) × (List Int))) ((letp (IntKind.i64.wrap ((IntKind.i64.wrap (x467 + (a2.length : Int))) - 1)) fun x641 => (ifp (0 ≤ x641 ∧ x641 < ((x468.length : Nat) : Int)) ((ifp (a0 ≠ 0) ((ifp (0 ≤ x467 ∧ x467 < ((x469.length : Nat) : Int)) ((loopM (fun s : (Int × (List Int)) => impl_prime_divide_l2 a2 x467 x468 x641 r9 a0 x469 s.1 s.2) (0, x468)))))))))) fun ⟨x636, x637⟩ => (some (.inl ((IntKind.i64.wrap (x467 - 1), x636, x637))))) else (some (.inr (x468, x469))))
noncomputable def impl_prime_divide (a0 : Int) (a1 : (List Int)) (a2 : (List Int)) : Option ((List Int) × (List Int)) :=
  (Option.bind (slices_Clone_impl_row_int64_fresh a1) fun r1 => (if (decide ((a1.length : Int) < (a2.length : Int))) then (some ([], r1)) else (letp (IntKind.i64.wrap ((IntKind.i64.wrap ((a1.length : Int) - (a2.length : Int))) + 1)) fun x4 => (ifp (0 ≤ x4 ∧ x4 ≤ 140737488355328 ∧ 8 * x4 ≤ 140737488355328) ((Option.bind (impl_row_lead a2) fun r7 => (Option.bind (impl_prime_inverse a0 r7) fun r9 => (Option.bind (α := ((List Int) × (List Int))) ((letp (IntKind.i64.wrap ((((List.replicate x4.toNat (0 : Int)).length : Int)) - 1)) fun x355 => (loopM (fun s : (Int × (List Int) × (List Int)) => impl_prime_divide_l1 a2 a0 r9 s.1 s.2.1 s.2.2) (x355, r1, List.replicate x4.toNat (0 : Int))))) fun ⟨x350, x351⟩ => (Option.bind (impl_row_trimmed x351) fun r694 => (Option.bind (impl_row_trimmed x350) fun r696 => (some (r694, r696))))))))))))
set_option maxHeartbeats 16000000 in
theorem impl_prime_divide_ok (a0 : Int) (a1 : (List Int)) (a2 : (List Int)) (r : ((List Int) × (List Int))) (h : impl_prime_divide a0 a1 a2 = some r) : Den Try.prog 91 [(.int .i64 a0), (eSi64 a1), (eSi64 a2)] { r := (.tuple [(eSi64 r.1), (eSi64 r.2)]) } := by
  refine den_of (rs := [(eSi64 r.1), (eSi64 r.2)]) (ac := impl_prime_divide_c) (L := impl_prime_divide_L) (n := 86) (m := [(6, 1), (7, 1), (8, 2), (9, 2)]) good Try.func91 impl_prime_divide_body (by kernel_rfl) Try.ntmps91 rfl rfl impl_prime_divide_strip rfl rfl ?_
  refine a_st (σ' := ⟨[(0, (.int .i64 a0)), (1, (eSi64 a1)), (2, (eSi64 a2))], []⟩) rfl ?_
  unfold impl_prime_divide_c
  refine a_seq ?_
  refine a_region ?_
  refine a_val (v := (eSi64 ([]))) (u := []) rfl trivial rfl ?_
  refine a_val (v := (eSi64 ([]))) (u := []) rfl trivial rfl ?_
  refine a_nil ?_
  refine a_next (σ' := ⟨[(0, (.int .i64 a0)), (1, (eSi64 a1)), (2, (eSi64 a2))], []⟩) rfl ?_
  refine a_seq ?_
  refine a_region ?_
  refine a_val (v := (eSi64 a1)) (u := []) rfl trivial rfl ?_
  obtain ⟨r1, hr2, h⟩ := bind_some h
  refine a_callF (args := [(eSi64 a1)]) (u := []) (u2 := []) (r := (.osl 2000000)) (fs := [(1, r1.map (AV.int .i64))]) rfl rfl (slices_Clone_impl_row_int64_fresh_ok a1 r1 hr2) rfl rfl rfl (.inl rfl) rfl ?_
  refine a_val (v := (.osl 2600)) (u := []) rfl trivial rfl ?_
  refine a_nil ?_
  refine a_next (σ' := ⟨[(0, (.int .i64 a0)), (1, (eSi64 a1)), (2, (eSi64 a2)), (8, (.osl 8))], [(8, some ⟨(.row 1 (r1.map (AV.int .i64))), false⟩)]⟩) rfl ?_
  refine a_seq ?_
  refine a_seq ?_
  refine a_region ?_
  refine a_val (v := (eSi64 a1)) (u := []) rfl trivial rfl ?_
  refine a_val (v := (.int .i64 (a1.length : Int))) (u := []) (len_run rfl rfl) trivial rfl ?_
  refine a_val (v := (eSi64 a2)) (u := []) rfl trivial rfl ?_
  refine a_val (v := (.int .i64 (a2.length : Int))) (u := []) (len_run rfl rfl) trivial rfl ?_
  refine a_val (v := (.bool ((decide ((a1.length : Int) < (a2.length : Int)))))) (u := []) rfl trivial rfl ?_
  refine a_nil ?_
  refine a_next (σ' := ⟨[(0, (.int .i64 a0)), (1, (eSi64 a1)), (2, (eSi64 a2)), (8, (.osl 8)), (21, (.bool ((decide ((a1.length : Int) < (a2.length : Int))))))], [(8, some ⟨(.row 1 (r1.map (AV.int .i64))), false⟩)]⟩) rfl ?_
  cases hb3 : (decide ((a1.length : Int) < (a2.length : Int)))
  · have h := ite_f hb3 h
    refine a_cond_f rfl ?_
    refine a_skip ?_
    refine a_next (σ' := ⟨[(0, (.int .i64 a0)), (1, (eSi64 a1)), (2, (eSi64 a2)), (8, (.osl 8))], [(8, some ⟨(.row 1 (r1.map (AV.int .i64))), false⟩)]⟩) rfl ?_
    refine a_seq ?_
    refine a_region ?_
    refine a_val (v := (eSi64 a1)) (u := []) rfl trivial rfl ?_
    refine a_val (v := (.int .i64 (a1.length : Int))) (u := []) (len_run rfl rfl) trivial rfl ?_
    refine a_val (v := (eSi64 a2)) (u := []) rfl trivial rfl ?_
    refine a_val (v := (.int .i64 (a2.length : Int))) (u := []) (len_run rfl rfl) trivial rfl ?_
    refine a_val (v := (.int .i64 (IntKind.i64.wrap ((a1.length : Int) - (a2.length : Int))))) (u := []) rfl trivial rfl ?_
    obtain ⟨x4, hx5, h⟩ := letp_some h
    refine a_val' (v := (.int .i64 (IntKind.i64.wrap ((IntKind.i64.wrap ((a1.length : Int) - (a2.length : Int))) + 1)))) (v' := (.int .i64 x4)) (u := []) (u' := []) rfl (congrArg (fun z => ((.int .i64 z) : AV)) hx5) rfl trivial rfl ?_
    obtain ⟨hc6, h⟩ := ifp_some h
    refine a_val (v := (.osl 3900)) (u := [(3900, some ⟨(.row 1 ((List.replicate x4.toNat (0 : Int)).map (AV.int .i64))), false⟩)]) (mk_run (i := ⟨.int .i64, 1, 8, (.int .i64 0)⟩) (f := (AV.int .i64)) (y := (0 : Int)) rfl rfl rfl rfl rfl rfl) ⟨rfl, hc6.1, hc6.2.1, hc6.2.2, (Nat.le_of_ble_eq_true rfl)⟩ rfl ?_
    refine a_val (v := (.osl 3900)) (u := []) rfl trivial rfl ?_
    refine a_nil ?_
    refine a_next (σ' := ⟨[(0, (.int .i64 a0)), (2, (eSi64 a2)), (8, (.osl 8)), (9, (.osl 9))], [(8, some ⟨(.row 1 (r1.map (AV.int .i64))), false⟩), (9, some ⟨(.row 1 ((List.replicate x4.toNat (0 : Int)).map (AV.int .i64))), false⟩)]⟩) rfl ?_
    refine a_seq ?_
    refine a_region ?_
    refine a_val (v := (.int .i64 a0)) (u := []) rfl trivial rfl ?_
    refine a_val (v := (eSi64 a2)) (u := []) rfl trivial rfl ?_
    obtain ⟨r7, hr8, h⟩ := bind_some h
    refine a_call (args := [(eSi64 a2)]) (u := []) (r := (.int .i64 r7)) rfl rfl (impl_row_lead_ok a2 r7 hr8) rfl ?_
    obtain ⟨r9, hr10, h⟩ := bind_some h
    refine a_call (args := [(.int .i64 a0), (.int .i64 r7)]) (u := []) (r := (.int .i64 r9)) rfl rfl (impl_prime_inverse_ok a0 r7 r9 hr10) rfl ?_
    refine a_val (v := (.int .i64 r9)) (u := []) rfl trivial rfl ?_
    refine a_nil ?_
    refine a_next (σ' := ⟨[(0, (.int .i64 a0)), (2, (eSi64 a2)), (8, (.osl 8)), (9, (.osl 9)), (10, (.int .i64 r9))], [(8, some ⟨(.row 1 (r1.map (AV.int .i64))), false⟩), (9, some ⟨(.row 1 ((List.replicate x4.toNat (0 : Int)).map (AV.int .i64))), false⟩)]⟩) rfl ?_
    obtain ⟨y352, hy353, hk354⟩ := bind_some h
    clear h
    refine a_join (emb := fun (s : ((List Int) × (List Int))) => ⟨[(8, (.osl 8)), (9, (.osl 9))], [(8, some ⟨(.row 1 (s.1.map (AV.int .i64))), false⟩), (9, some ⟨(.row 1 (s.2.map (AV.int .i64))), false⟩)]⟩) (pre := fun s => s = y352) ?_ ?_
    · rintro ⟨x350, x351⟩ rfl
      have h := hk354
      refine a_st (σ' := ⟨[(8, (.osl 8)), (9, (.osl 9))], [(8, some ⟨(.row 1 (x350.map (AV.int .i64))), false⟩), (9, some ⟨(.row 1 (x351.map (AV.int .i64))), false⟩)]⟩) rfl ?_
      refine a_seq ?_
      refine a_region ?_
      refine a_val (v := (.osl 9)) (u := []) rfl trivial rfl ?_
      obtain ⟨r694, hr695, h⟩ := bind_some h
      refine a_call (args := [(eSi64 x351)]) (u := [(9, some ⟨(.row 1 (x351.map (AV.int .i64))), true⟩)]) (r := (eSi64 r694)) rfl rfl (impl_row_trimmed_ok x351 r694 hr695) rfl ?_
      refine a_val (v := (.osl 8)) (u := []) rfl trivial rfl ?_
      obtain ⟨r696, hr697, h⟩ := bind_some h
      refine a_call (args := [(eSi64 x350)]) (u := [(8, some ⟨(.row 1 (x350.map (AV.int .i64))), true⟩)]) (r := (eSi64 r696)) rfl rfl (impl_row_trimmed_ok x350 r696 hr697) rfl ?_
      refine a_val (v := (eSi64 r694)) (u := []) rfl trivial rfl ?_
      refine a_val (v := (eSi64 r696)) (u := []) rfl trivial rfl ?_
      refine a_nil ?_
      refine a_next rfl ?_
      refine a_ret ?_
      refine ⟨.inr rfl, ?_⟩
      rw [Try.results91]
      cases h
      exact ⟨_, _, _, _, _, rfl, trivial, .inl ⟨rfl, .inl rfl⟩, rfl, ⟨_, _, _, _, _, rfl, trivial, .inl ⟨rfl, .inl rfl⟩, rfl, rfl⟩⟩
    · have h := hy353
      refine a_seq ?_
      refine a_region ?_
      refine a_val (v := (.osl 9)) (u := []) rfl trivial rfl ?_
      refine a_val (v := (.int .i64 (((List.replicate x4.toNat (0 : Int)).length : Int)))) (u := []) (leno_run rfl rfl rfl) trivial rfl ?_
      obtain ⟨x355, hx356, h⟩ := letp_some h
      refine a_val' (v := (.int .i64 (IntKind.i64.wrap ((((List.replicate x4.toNat (0 : Int)).length : Int)) - 1)))) (v' := (.int .i64 x355)) (u := []) (u' := []) rfl (congrArg (fun z => ((.int .i64 z) : AV)) hx356) rfl trivial rfl ?_
      refine a_val (v := (.int .i64 x355)) (u := []) rfl trivial rfl ?_
      refine a_nil ?_
      refine a_next (σ' := ⟨[(0, (.int .i64 a0)), (2, (eSi64 a2)), (8, (.osl 8)), (9, (.osl 9)), (10, (.int .i64 r9)), (11, (.int .i64 x355))], [(8, some ⟨(.row 1 (r1.map (AV.int .i64))), false⟩), (9, some ⟨(.row 1 ((List.replicate x4.toNat (0 : Int)).map (AV.int .i64))), false⟩)]⟩) rfl ?_
      refine a_block ?_
      refine a_loop (emb := fun (s : (Int × (List Int) × (List Int))) => ⟨[(0, (.int .i64 a0)), (2, (eSi64 a2)), (8, (.osl 8)), (9, (.osl 9)), (10, (.int .i64 r9)), (11, (.int .i64 s.1))], [(8, some ⟨(.row 1 (s.2.1.map (AV.int .i64))), false⟩), (9, some ⟨(.row 1 (s.2.2.map (AV.int .i64))), false⟩)]⟩) (body := (fun s : (Int × (List Int) × (List Int)) => impl_prime_divide_l1 a2 a0 r9 s.1 s.2.1 s.2.2)) (G := fun q => some q = some y352) h rfl ?_ rfl
      rintro X580 ⟨x467, x468, x469⟩ x581 h hX582
      have h : impl_prime_divide_l1 a2 a0 r9 x467 x468 x469 = some x581 := h
      refine a_st (σ' := ⟨[(0, (.int .i64 a0)), (2, (eSi64 a2)), (8, (.osl 8)), (9, (.osl 9)), (10, (.int .i64 r9)), (11, (.int .i64 x467))], [(8, some ⟨(.row 1 (x468.map (AV.int .i64))), false⟩), (9, some ⟨(.row 1 (x469.map (AV.int .i64))), false⟩)]⟩) rfl ?_
      refine a_seq ?_
      refine a_seq ?_
      refine a_region ?_
      refine a_val (v := (.int .i64 x467)) (u := []) rfl trivial rfl ?_
      refine a_val (v := (.bool ((decide (x467 ≥ 0))))) (u := []) rfl trivial rfl ?_
      refine a_nil ?_
      refine a_next (σ' := ⟨[(0, (.int .i64 a0)), (2, (eSi64 a2)), (8, (.osl 8)), (9, (.osl 9)), (10, (.int .i64 r9)), (11, (.int .i64 x467)), (38, (.bool ((decide (x467 ≥ 0)))))], [(8, some ⟨(.row 1 (x468.map (AV.int .i64))), false⟩), (9, some ⟨(.row 1 (x469.map (AV.int .i64))), false⟩)]⟩) rfl ?_
      cases hb583 : (decide (x467 ≥ 0))
      · have h := ite_f hb583 h
        refine a_cond_f rfl ?_
        refine a_exit ?_
        refine t_exit ?_
        cases h
        have h := hX582
        refine t_exit ?_
        refine b_exit ?_
        exact j_leaf (x468, x469) (Option.some.inj h) rfl
      · have h := ite_t hb583 h
        refine a_cond_t rfl ?_
        refine a_skip ?_
        refine a_next (σ' := ⟨[(0, (.int .i64 a0)), (2, (eSi64 a2)), (8, (.osl 8)), (9, (.osl 9)), (10, (.int .i64 r9)), (11, (.int .i64 x467))], [(8, some ⟨(.row 1 (x468.map (AV.int .i64))), false⟩), (9, some ⟨(.row 1 (x469.map (AV.int .i64))), false⟩)]⟩) rfl ?_
        obtain ⟨y638, hy639, hk640⟩ := bind_some h
        clear h
        refine a_join (emb := fun (s : ((List Int) × (List Int))) => ⟨[(0, (.int .i64 a0)), (2, (eSi64 a2)), (8, (.osl 8)), (9, (.osl 9)), (10, (.int .i64 r9)), (11, (.int .i64 x467))], [(8, some ⟨(.row 1 (s.1.map (AV.int .i64))), false⟩), (9, some ⟨(.row 1 (s.2.map (AV.int .i64))), false⟩)]⟩) (pre := fun s => s = y638) ?_ ?_
        · rintro ⟨x636, x637⟩ rfl
          have h := hk640
          refine a_st (σ' := ⟨[(0, (.int .i64 a0)), (2, (eSi64 a2)), (8, (.osl 8)), (9, (.osl 9)), (10, (.int .i64 r9)), (11, (.int .i64 x467))], [(8, some ⟨(.row 1 (x636.map (AV.int .i64))), false⟩), (9, some ⟨(.row 1 (x637.map (AV.int .i64))), false⟩)]⟩) rfl ?_
          refine a_region ?_
          refine a_val (v := (.int .i64 x467)) (u := []) rfl trivial rfl ?_
          refine a_val (v := (.int .i64 (IntKind.i64.wrap (x467 - 1)))) (u := []) rfl trivial rfl ?_
          refine a_val (v := (.int .i64 (IntKind.i64.wrap (x467 - 1)))) (u := []) rfl trivial rfl ?_
          refine a_nil ?_
          cases h
          exact a_again rfl hX582
        · have h := hy639
          refine a_block ?_
          refine a_seq ?_
          refine a_region ?_
          refine a_val (v := (.osl 8)) (u := []) rfl trivial rfl ?_
          refine a_val (v := (.int .i64 x467)) (u := []) rfl trivial rfl ?_
          refine a_val (v := (eSi64 a2)) (u := []) rfl trivial rfl ?_
          refine a_val (v := (.int .i64 (a2.length : Int))) (u := []) (len_run rfl rfl) trivial rfl ?_
          refine a_val (v := (.int .i64 (IntKind.i64.wrap (x467 + (a2.length : Int))))) (u := []) rfl trivial rfl ?_
          obtain ⟨x641, hx642, h⟩ := letp_some h
          refine a_val' (v := (.int .i64 (IntKind.i64.wrap ((IntKind.i64.wrap (x467 + (a2.length : Int))) - 1)))) (v' := (.int .i64 x641)) (u := []) (u' := []) rfl (congrArg (fun z => ((.int .i64 z) : AV)) hx642) rfl trivial rfl ?_
          obtain ⟨hc643, h⟩ := ifp_some h
          refine a_val (v := (.own 8 [x641.toNat] [x641.toNat * 1])) (u := []) rfl (lmap hc643) rfl ?_
          have hl644 : LdOk [x641.toNat] (.row 1 (x468.map (AV.int .i64))) [x641.toNat * 1] 1 false (.int .i64 (rd x468 x641.toNat)) := (.row (llt hc643) rfl (.nil rfl rfl rfl))
          refine a_val (v := (.int .i64 (rd x468 x641.toNat))) (u := []) (ld_own (i := ⟨.int .i64, 1, 8, (.int .i64 0)⟩) rfl rfl rfl hl644) hl644.c rfl ?_
          refine a_val (v := (.int .i64 r9)) (u := []) rfl trivial rfl ?_
          refine a_val (v := (.int .i64 (IntKind.i64.wrap ((rd x468 x641.toNat) * r9)))) (u := []) rfl trivial rfl ?_
          refine a_val (v := (.int .i64 a0)) (u := []) rfl trivial rfl ?_
          obtain ⟨hc645, h⟩ := ifp_some h
          refine a_val (v := (.int .i64 (Int.tmod (IntKind.i64.wrap ((rd x468 x641.toNat) * r9)) a0))) (u := []) rfl hc645 rfl ?_
          refine a_val (v := (.int .i64 (Int.tmod (IntKind.i64.wrap ((rd x468 x641.toNat) * r9)) a0))) (u := []) rfl trivial rfl ?_
          refine a_nil ?_
          refine a_next (σ' := ⟨[(0, (.int .i64 a0)), (2, (eSi64 a2)), (8, (.osl 8)), (9, (.osl 9)), (10, (.int .i64 r9)), (11, (.int .i64 x467)), (12, (.int .i64 (Int.tmod (IntKind.i64.wrap ((rd x468 x641.toNat) * r9)) a0)))], [(8, some ⟨(.row 1 (x468.map (AV.int .i64))), false⟩), (9, some ⟨(.row 1 (x469.map (AV.int .i64))), false⟩)]⟩) rfl ?_
          refine a_seq ?_
          refine a_region ?_
          refine a_val (v := (.osl 9)) (u := []) rfl trivial rfl ?_
          refine a_val (v := (.int .i64 x467)) (u := []) rfl trivial rfl ?_
          refine a_val (v := (.int .i64 (Int.tmod (IntKind.i64.wrap ((rd x468 x641.toNat) * r9)) a0))) (u := []) rfl trivial rfl ?_
          obtain ⟨hc646, h⟩ := ifp_some h
          refine a_val (v := (.own 9 [x467.toNat] [x467.toNat * 1])) (u := []) rfl (lmap hc646) rfl ?_
          have hs647 : StOk [x467.toNat] (.row 1 (x469.map (AV.int .i64))) [x467.toNat * 1] 1 (.int .i64 (Int.tmod (IntKind.i64.wrap ((rd x468 x641.toNat) * r9)) a0)) (.row 1 (((x469.set x467.toNat (Int.tmod (IntKind.i64.wrap ((rd x468 x641.toNat) * r9)) a0))).map (AV.int .i64))) := (.row (y := Int.tmod (IntKind.i64.wrap ((rd x468 x641.toNat) * r9)) a0) (llt hc646) rfl (.nil rfl rfl rfl rfl))
          refine a_val (v := .top) (u := [(9, some ⟨(.row 1 (((x469.set x467.toNat (Int.tmod (IntKind.i64.wrap ((rd x468 x641.toNat) * r9)) a0))).map (AV.int .i64))), false⟩)]) (st_own (i := ⟨.int .i64, 1, 8, (.int .i64 0)⟩) rfl rfl (fun _ => rfl) rfl hs647) (hs647.c rfl) rfl ?_
          refine a_nil ?_
          refine a_next (σ' := ⟨[(0, (.int .i64 a0)), (2, (eSi64 a2)), (8, (.osl 8)), (9, (.osl 9)), (10, (.int .i64 r9)), (11, (.int .i64 x467)), (12, (.int .i64 (Int.tmod (IntKind.i64.wrap ((rd x468 x641.toNat) * r9)) a0)))], [(8, some ⟨(.row 1 (x468.map (AV.int .i64))), false⟩), (9, some ⟨(.row 1 (((x469.set x467.toNat (Int.tmod (IntKind.i64.wrap ((rd x468 x641.toNat) * r9)) a0))).map (AV.int .i64))), false⟩)]⟩) rfl ?_
          refine a_seq ?_
          refine a_region ?_
          refine a_val (v := (eSi64 a2)) (u := []) rfl trivial rfl ?_
          refine a_val (v := (.int .i64 (a2.length : Int))) (u := []) (len_run rfl rfl) trivial rfl ?_
          refine a_val (v := (.int .i64 0)) (u := []) rfl trivial rfl ?_
          refine a_nil ?_
          refine a_next (σ' := ⟨[(0, (.int .i64 a0)), (2, (eSi64 a2)), (8, (.osl 8)), (9, (.osl 9)), (10, (.int .i64 r9)), (11, (.int .i64 x467)), (12, (.int .i64 (Int.tmod (IntKind.i64.wrap ((rd x468 x641.toNat) * r9)) a0))), (57, (eSi64 a2)), (58, (.int .i64 (a2.length : Int))), (59, (.int .i64 0))], [(8, some ⟨(.row 1 (x468.map (AV.int .i64))), false⟩), (9, some ⟨(.row 1 (((x469.set x467.toNat (Int.tmod (IntKind.i64.wrap ((rd x468 x641.toNat) * r9)) a0))).map (AV.int .i64))), false⟩)]⟩) rfl ?_
          refine a_block ?_
          refine a_loop (emb := fun (s : (Int × (List Int))) => ⟨[(0, (.int .i64 a0)), (2, (eSi64 a2)), (8, (.osl 8)), (9, (.osl 9)), (10, (.int .i64 r9)), (11, (.int .i64 x467)), (12, (.int .i64 (Int.tmod (IntKind.i64.wrap ((rd x468 x641.toNat) * r9)) a0))), (57, (eSi64 a2)), (58, (.int .i64 (a2.length : Int))), (59, (.int .i64 s.1))], [(8, some ⟨(.row 1 (s.2.map (AV.int .i64))), false⟩), (9, some ⟨(.row 1 (((x469.set x467.toNat (Int.tmod (IntKind.i64.wrap ((rd x468 x641.toNat) * r9)) a0))).map (AV.int .i64))), false⟩)]⟩) (body := (fun s : (Int × (List Int)) => impl_prime_divide_l2 a2 x467 x468 x641 r9 a0 x469 s.1 s.2)) (G := fun q => some q = some y638) h rfl ?_ rfl
          rintro X676 ⟨x661, x662⟩ x677 h hX678
          have h : impl_prime_divide_l2 a2 x467 x468 x641 r9 a0 x469 x661 x662 = some x677 := h
          refine a_st (σ' := ⟨[(0, (.int .i64 a0)), (2, (eSi64 a2)), (8, (.osl 8)), (9, (.osl 9)), (10, (.int .i64 r9)), (11, (.int .i64 x467)), (12, (.int .i64 (Int.tmod (IntKind.i64.wrap ((rd x468 x641.toNat) * r9)) a0))), (57, (eSi64 a2)), (58, (.int .i64 (a2.length : Int))), (59, (.int .i64 x661))], [(8, some ⟨(.row 1 (x662.map (AV.int .i64))), false⟩), (9, some ⟨(.row 1 (((x469.set x467.toNat (Int.tmod (IntKind.i64.wrap ((rd x468 x641.toNat) * r9)) a0))).map (AV.int .i64))), false⟩)]⟩) rfl ?_
          refine a_seq ?_
          refine a_region ?_
          refine a_val (v := (.bool ((decide (x661 < (a2.length : Int)))))) (u := []) rfl trivial rfl ?_
          refine a_nil ?_
          refine a_next (σ' := ⟨[(0, (.int .i64 a0)), (2, (eSi64 a2)), (8, (.osl 8)), (9, (.osl 9)), (10, (.int .i64 r9)), (11, (.int .i64 x467)), (12, (.int .i64 (Int.tmod (IntKind.i64.wrap ((rd x468 x641.toNat) * r9)) a0))), (57, (eSi64 a2)), (58, (.int .i64 (a2.length : Int))), (59, (.int .i64 x661)), (60, (.bool ((decide (x661 < (a2.length : Int))))))], [(8, some ⟨(.row 1 (x662.map (AV.int .i64))), false⟩), (9, some ⟨(.row 1 (((x469.set x467.toNat (Int.tmod (IntKind.i64.wrap ((rd x468 x641.toNat) * r9)) a0))).map (AV.int .i64))), false⟩)]⟩) rfl ?_
          refine a_seq ?_
          cases hb679 : (decide (x661 < (a2.length : Int)))
          · have h := ite_f hb679 h
            refine a_cond_f rfl ?_
            refine a_exit ?_
            refine t_exit ?_
            cases h
            have h := hX678
            refine t_exit ?_
            refine b_exit ?_
            refine b_norm ?_
            exact j_leaf ((x662, (x469.set x467.toNat (Int.tmod (IntKind.i64.wrap ((rd x468 x641.toNat) * r9)) a0)))) (Option.some.inj h) rfl
          · have h := ite_t hb679 h
            refine a_cond_t rfl ?_
            refine a_skip ?_
            refine a_next (σ' := ⟨[(0, (.int .i64 a0)), (2, (eSi64 a2)), (8, (.osl 8)), (9, (.osl 9)), (10, (.int .i64 r9)), (11, (.int .i64 x467)), (12, (.int .i64 (Int.tmod (IntKind.i64.wrap ((rd x468 x641.toNat) * r9)) a0))), (57, (eSi64 a2)), (58, (.int .i64 (a2.length : Int))), (59, (.int .i64 x661))], [(8, some ⟨(.row 1 (x662.map (AV.int .i64))), false⟩), (9, some ⟨(.row 1 (((x469.set x467.toNat (Int.tmod (IntKind.i64.wrap ((rd x468 x641.toNat) * r9)) a0))).map (AV.int .i64))), false⟩)]⟩) rfl ?_
            refine a_seq ?_
            refine a_block ?_
            refine a_seq ?_
            refine a_region ?_
            refine a_val (v := (.int .i64 x661)) (u := []) rfl trivial rfl ?_
            obtain ⟨hc680, h⟩ := ifp_some h
            refine a_val (v := (.ref (.row 1 (a2.map (AV.int .i64))) [x661.toNat] [x661.toNat * 1])) (u := []) rfl (lmap hc680) rfl ?_
            have hl681 : LdOk [x661.toNat] (.row 1 (a2.map (AV.int .i64))) [x661.toNat * 1] 1 false (.int .i64 (rd a2 x661.toNat)) := (.row (llt hc680) rfl (.nil rfl rfl rfl))
            refine a_val (v := (.int .i64 (rd a2 x661.toNat))) (u := []) (ld_ref (i := ⟨.int .i64, 1, 8, (.int .i64 0)⟩) rfl rfl hl681) hl681.c rfl ?_
            refine a_val (v := (.int .i64 x661)) (u := []) rfl trivial rfl ?_
            refine a_val (v := (.int .i64 (rd a2 x661.toNat))) (u := []) rfl trivial rfl ?_
            refine a_nil ?_
            refine a_next (σ' := ⟨[(0, (.int .i64 a0)), (2, (eSi64 a2)), (8, (.osl 8)), (9, (.osl 9)), (10, (.int .i64 r9)), (11, (.int .i64 x467)), (12, (.int .i64 (Int.tmod (IntKind.i64.wrap ((rd x468 x641.toNat) * r9)) a0))), (13, (.int .i64 x661)), (14, (.int .i64 (rd a2 x661.toNat))), (57, (eSi64 a2)), (58, (.int .i64 (a2.length : Int))), (59, (.int .i64 x661))], [(8, some ⟨(.row 1 (x662.map (AV.int .i64))), false⟩), (9, some ⟨(.row 1 (((x469.set x467.toNat (Int.tmod (IntKind.i64.wrap ((rd x468 x641.toNat) * r9)) a0))).map (AV.int .i64))), false⟩)]⟩) rfl ?_
            refine a_region ?_
            refine a_val (v := (.osl 8)) (u := []) rfl trivial rfl ?_
            refine a_val (v := (.int .i64 x467)) (u := []) rfl trivial rfl ?_
            refine a_val (v := (.int .i64 x661)) (u := []) rfl trivial rfl ?_
            refine a_val (v := (.int .i64 (IntKind.i64.wrap (x467 + x661)))) (u := []) rfl trivial rfl ?_
            refine a_val (v := (.int .i64 a0)) (u := []) rfl trivial rfl ?_
            refine a_val (v := (.osl 8)) (u := []) rfl trivial rfl ?_
            refine a_val (v := (.int .i64 x467)) (u := []) rfl trivial rfl ?_
            refine a_val (v := (.int .i64 x661)) (u := []) rfl trivial rfl ?_
            refine a_val (v := (.int .i64 (IntKind.i64.wrap (x467 + x661)))) (u := []) rfl trivial rfl ?_
            obtain ⟨hc682, h⟩ := ifp_some h
            refine a_val (v := (.own 8 [(IntKind.i64.wrap (x467 + x661)).toNat] [(IntKind.i64.wrap (x467 + x661)).toNat * 1])) (u := []) rfl (lmap hc682) rfl ?_
            have hl683 : LdOk [(IntKind.i64.wrap (x467 + x661)).toNat] (.row 1 (x662.map (AV.int .i64))) [(IntKind.i64.wrap (x467 + x661)).toNat * 1] 1 false (.int .i64 ((rd x662 (IntKind.i64.wrap (x467 + x661)).toNat))) := (.row (llt hc682) rfl (.nil rfl rfl rfl))
            refine a_val (v := (.int .i64 ((rd x662 (IntKind.i64.wrap (x467 + x661)).toNat)))) (u := []) (ld_own (i := ⟨.int .i64, 1, 8, (.int .i64 0)⟩) rfl rfl rfl hl683) hl683.c rfl ?_
            refine a_val (v := (.int .i64 (Int.tmod (IntKind.i64.wrap ((rd x468 x641.toNat) * r9)) a0))) (u := []) rfl trivial rfl ?_
            refine a_val (v := (.int .i64 (rd a2 x661.toNat))) (u := []) rfl trivial rfl ?_
            obtain ⟨x684, hx685, h⟩ := letp_some h
            refine a_val' (v := (.int .i64 (IntKind.i64.wrap ((Int.tmod (IntKind.i64.wrap ((rd x468 x641.toNat) * r9)) a0) * (rd a2 x661.toNat))))) (v' := (.int .i64 x684)) (u := []) (u' := []) rfl (congrArg (fun z => ((.int .i64 z) : AV)) hx685) rfl trivial rfl ?_
            obtain ⟨x686, hx687, h⟩ := letp_some h
            refine a_val' (v := (.int .i64 (IntKind.i64.wrap (((rd x662 (IntKind.i64.wrap (x467 + x661)).toNat)) - x684)))) (v' := (.int .i64 x686)) (u := []) (u' := []) rfl (congrArg (fun z => ((.int .i64 z) : AV)) hx687) rfl trivial rfl ?_
            obtain ⟨r688, hr689, h⟩ := bind_some h
            refine a_call (args := [(.int .i64 a0), (.int .i64 x686)]) (u := []) (r := (.int .i64 r688)) rfl rfl (impl_prime_reduce_ok a0 x686 r688 hr689) rfl ?_
            obtain ⟨hc690, h⟩ := ifp_some h
            refine a_val (v := (.own 8 [(IntKind.i64.wrap (x467 + x661)).toNat] [(IntKind.i64.wrap (x467 + x661)).toNat * 1])) (u := []) rfl (lmap hc690) rfl ?_
            have hs691 : StOk [(IntKind.i64.wrap (x467 + x661)).toNat] (.row 1 (x662.map (AV.int .i64))) [(IntKind.i64.wrap (x467 + x661)).toNat * 1] 1 (.int .i64 r688) (.row 1 (((x662.set (IntKind.i64.wrap (x467 + x661)).toNat r688)).map (AV.int .i64))) := (.row (y := r688) (llt hc690) rfl (.nil rfl rfl rfl rfl))
            refine a_val (v := .top) (u := [(8, some ⟨(.row 1 (((x662.set (IntKind.i64.wrap (x467 + x661)).toNat r688)).map (AV.int .i64))), false⟩)]) (st_own (i := ⟨.int .i64, 1, 8, (.int .i64 0)⟩) rfl rfl (fun _ => rfl) rfl hs691) (hs691.c rfl) rfl ?_
            refine a_nil ?_
            refine b_norm ?_
            refine a_next (σ' := ⟨[(0, (.int .i64 a0)), (2, (eSi64 a2)), (8, (.osl 8)), (9, (.osl 9)), (10, (.int .i64 r9)), (11, (.int .i64 x467)), (12, (.int .i64 (Int.tmod (IntKind.i64.wrap ((rd x468 x641.toNat) * r9)) a0))), (57, (eSi64 a2)), (58, (.int .i64 (a2.length : Int))), (59, (.int .i64 x661))], [(8, some ⟨(.row 1 (((x662.set (IntKind.i64.wrap (x467 + x661)).toNat r688)).map (AV.int .i64))), false⟩), (9, some ⟨(.row 1 (((x469.set x467.toNat (Int.tmod (IntKind.i64.wrap ((rd x468 x641.toNat) * r9)) a0))).map (AV.int .i64))), false⟩)]⟩) rfl ?_
            refine a_region ?_
            refine a_val (v := (.int .i64 (IntKind.i64.wrap (x661 + 1)))) (u := []) rfl trivial rfl ?_
            refine a_val (v := (.int .i64 (IntKind.i64.wrap (x661 + 1)))) (u := []) rfl trivial rfl ?_
            refine a_nil ?_
            cases h
            exact a_again rfl hX678
  · have h := ite_t hb3 h
    refine a_cond_t rfl ?_
    refine a_seq ?_
    refine a_region ?_
    refine a_val (v := (.osl 8)) (u := []) rfl trivial rfl ?_
    refine a_val (v := (eSi64 ([]))) (u := []) rfl trivial rfl ?_
    refine a_val (v := (eSi64 r1)) (u := [(8, some ⟨(.row 1 (r1.map (AV.int .i64))), true⟩)]) rfl trivial rfl ?_
    refine a_nil ?_
    refine a_next rfl ?_
    refine a_ret ?_
    refine t_ret ?_
    refine ⟨.inr rfl, ?_⟩
    rw [Try.results91]
    cases h
    exact ⟨_, _, _, _, _, rfl, trivial, .inl ⟨rfl, .inl rfl⟩, rfl, ⟨_, _, _, _, _, rfl, trivial, .inl ⟨rfl, .inl rfl⟩, rfl, rfl⟩⟩
def impl_prime_partials_c : ACode := (.seq (.region 0 [⟨some 6, .asg 1 (.const (.slice none 0 0)) 72, none, []⟩] false) (.seq (.region 1 [⟨some 7, .asg 2 (.const (.slice none 0 0)) 72, none, []⟩] false) (.seq (.block 0 (.loop (.seq (.seq (.region 2 [⟨some 10, .mov (.tmp 2), none, []⟩, ⟨some 11, .blt 0 .len [(.tmp 10)] [64], none, []⟩, ⟨some 12, .bin .gtr 3 (.tmp 11) (.const (.int .i64 0)), none, []⟩] false) (.cond (.tmp 12) .skip (.exit 0))) (.block 1 (.seq (.region 3 [⟨some 14, .mov (.tmp 0), none, []⟩, ⟨some 15, .mov (.tmp 1), none, []⟩, ⟨some 16, .mov (.tmp 2), none, []⟩, ⟨some 17, .call 0 (.func 91) [(.tmp 14), (.tmp 15), (.tmp 16)], none, []⟩, ⟨some 13, .mov (.tmp 17), none, []⟩, ⟨some 18, .extract (.tmp 13) 0, none, []⟩, ⟨some 19, .extract (.tmp 13) 1, none, []⟩, ⟨some 8, .asg 1 (.tmp 18) 64, none, []⟩, ⟨some 9, .asg 1 (.tmp 19) 64, none, []⟩] false) (.seq (.region 4 [⟨some 20, .mov (.tmp 7), none, []⟩, ⟨some 21, .mov (.tmp 8), none, []⟩, ⟨some 22, .bslice 0 72 1 [(0, (.tmp 21))], none, []⟩, ⟨some 23, .blt 0 .append [(.tmp 20), (.tmp 22)] [72, 72], none, []⟩, ⟨some 7, .asg 2 (.tmp 23) 72, none, []⟩] false) (.region 5 [⟨some 24, .mov (.tmp 2), none, []⟩, ⟨some 25, .mov (.tmp 9), none, []⟩, ⟨some 1, .asg 1 (.tmp 24) 64, none, []⟩, ⟨some 2, .asg 1 (.tmp 25) 64, none, []⟩] false))))))) (.seq (.region 6 [⟨some 26, .mov (.tmp 7), none, []⟩, ⟨some 6, .asg 1 (.tmp 26) 72, none, []⟩] false) .ret))))
def impl_prime_partials_L : Live := [(0, [0, 1, 2]), (1, [0, 1, 2]), (2, [0, 1, 2, 7]), (3, [0, 1, 2, 7]), (4, [0, 2, 7, 8, 9]), (5, [0, 2, 7, 9]), (6, [7]), (100012, [0, 1, 2, 7, 12])]
theorem impl_prime_partials_body : Try.f71.body = some (Try.f71.body.getD .skip) := by kernel_rfl
theorem impl_prime_partials_strip : strip [(1, 1), (2, 1), (6, 1), (7, 2), (8, 1), (9, 1)] (Try.f71.body.getD .skip) = impl_prime_partials_c := by kernel_rfl
noncomputable def impl_prime_partials_l1 (a0 : Int) (x28 : (List Int)) (x29 : (List Int)) (x30 : (List (List Int))) : Option (((List Int) × (List Int) × (List (List Int))) ⊕ (List (List Int))) :=
  (if (decide ((x29.length : Int) > 0)) then (Option.bind (impl_prime_divide a0 x28 x29) fun r39 => (ifp ((x30.length + ([r39.1] : List (List Int)).length) * 24 ≤ 140737488355328) ((some (.inl ((x29, r39.2, (x30 ++ ([r39.1]))))))))) else (some (.inr x30)))
noncomputable def impl_prime_partials (a0 : Int) (a1 : (List Int)) (a2 : (List Int)) : Option (List (List Int)) :=
  (Option.bind (α := (List (List Int))) ((loopM (fun s : ((List Int) × (List Int) × (List (List Int))) => impl_prime_partials_l1 a0 s.1 s.2.1 s.2.2) (a1, a2, []))) fun x20 => (some x20))
set_option maxHeartbeats 16000000 in
theorem impl_prime_partials_ok (a0 : Int) (a1 : (List Int)) (a2 : (List Int)) (r : (List (List Int))) (h : impl_prime_partials a0 a1 a2 = some r) : Den Try.prog 71 [(.int .i64 a0), (eSi64 a1), (eSi64 a2)] { r := (eSSi64 r) } := by
  refine den_of (rs := [(eSSi64 r)]) (ac := impl_prime_partials_c) (L := impl_prime_partials_L) (n := 27) (m := [(1, 1), (2, 1), (6, 1), (7, 2), (8, 1), (9, 1)]) good Try.func71 impl_prime_partials_body (by kernel_rfl) Try.ntmps71 rfl rfl impl_prime_partials_strip rfl rfl ?_
  refine a_st (σ' := ⟨[(0, (.int .i64 a0)), (1, (eSi64 a1)), (2, (eSi64 a2))], []⟩) rfl ?_
  unfold impl_prime_partials_c
  refine a_seq ?_
  refine a_region ?_
  refine a_val (v := (eSSi64 ([]))) (u := []) rfl trivial rfl ?_
  refine a_nil ?_
  refine a_next (σ' := ⟨[(0, (.int .i64 a0)), (1, (eSi64 a1)), (2, (eSi64 a2))], []⟩) rfl ?_
  refine a_seq ?_
  refine a_region ?_
  refine a_val (v := (.osl 1700)) (u := [(1700, some ⟨(.row 1 (([]).map eSi64)), false⟩)]) rfl trivial rfl ?_
  refine a_nil ?_
  refine a_next (σ' := ⟨[(0, (.int .i64 a0)), (1, (eSi64 a1)), (2, (eSi64 a2)), (7, (.osl 7))], [(7, some ⟨(.row 1 (([]).map eSi64)), false⟩)]⟩) rfl ?_
  obtain ⟨y21, hy22, hk23⟩ := bind_some h
  clear h
  refine a_join (emb := fun (s : (List (List Int))) => ⟨[(7, (.osl 7))], [(7, some ⟨(.row 1 (s.map eSi64)), false⟩)]⟩) (pre := fun s => s = y21) ?_ ?_
  · rintro x20 rfl
    have h := hk23
    refine a_st (σ' := ⟨[(7, (.osl 7))], [(7, some ⟨(.row 1 (x20.map eSi64)), false⟩)]⟩) rfl ?_
    refine a_seq ?_
    refine a_region ?_
    refine a_val (v := (.osl 7)) (u := []) rfl trivial rfl ?_
    refine a_val (v := (eSSi64 x20)) (u := [(7, some ⟨(.row 1 (x20.map eSi64)), true⟩)]) rfl trivial rfl ?_
    refine a_nil ?_
    refine a_next rfl ?_
    refine a_ret ?_
    refine ⟨.inr rfl, ?_⟩
    rw [Try.results71]
    cases h
    exact ⟨_, _, _, _, _, rfl, trivial, .inl ⟨rfl, .inl rfl⟩, rfl, rfl⟩
  · have h := hy22
    refine a_block ?_
    refine a_loop (emb := fun (s : ((List Int) × (List Int) × (List (List Int)))) => ⟨[(0, (.int .i64 a0)), (1, (eSi64 s.1)), (2, (eSi64 s.2.1)), (7, (.osl 7))], [(7, some ⟨(.row 1 (s.2.2.map eSi64)), false⟩)]⟩) (body := (fun s : ((List Int) × (List Int) × (List (List Int))) => impl_prime_partials_l1 a0 s.1 s.2.1 s.2.2)) (G := fun q => some q = some y21) h rfl ?_ rfl
    rintro X35 ⟨x28, x29, x30⟩ x36 h hX37
    have h : impl_prime_partials_l1 a0 x28 x29 x30 = some x36 := h
    refine a_st (σ' := ⟨[(0, (.int .i64 a0)), (1, (eSi64 x28)), (2, (eSi64 x29)), (7, (.osl 7))], [(7, some ⟨(.row 1 (x30.map eSi64)), false⟩)]⟩) rfl ?_
    refine a_seq ?_
    refine a_seq ?_
    refine a_region ?_
    refine a_val (v := (eSi64 x29)) (u := []) rfl trivial rfl ?_
    refine a_val (v := (.int .i64 (x29.length : Int))) (u := []) (len_run rfl rfl) trivial rfl ?_
    refine a_val (v := (.bool ((decide ((x29.length : Int) > 0))))) (u := []) rfl trivial rfl ?_
    refine a_nil ?_
    refine a_next (σ' := ⟨[(0, (.int .i64 a0)), (1, (eSi64 x28)), (2, (eSi64 x29)), (7, (.osl 7)), (12, (.bool ((decide ((x29.length : Int) > 0)))))], [(7, some ⟨(.row 1 (x30.map eSi64)), false⟩)]⟩) rfl ?_
    cases hb38 : (decide ((x29.length : Int) > 0))
    · have h := ite_f hb38 h
      refine a_cond_f rfl ?_
      refine a_exit ?_
      refine t_exit ?_
      cases h
      have h := hX37
      refine t_exit ?_
      refine b_exit ?_
      exact j_leaf x30 (Option.some.inj h) rfl
    · have h := ite_t hb38 h
      refine a_cond_t rfl ?_
      refine a_skip ?_
      refine a_next (σ' := ⟨[(0, (.int .i64 a0)), (1, (eSi64 x28)), (2, (eSi64 x29)), (7, (.osl 7))], [(7, some ⟨(.row 1 (x30.map eSi64)), false⟩)]⟩) rfl ?_
      refine a_block ?_
      refine a_seq ?_
      refine a_region ?_
      refine a_val (v := (.int .i64 a0)) (u := []) rfl trivial rfl ?_
      refine a_val (v := (eSi64 x28)) (u := []) rfl trivial rfl ?_
      refine a_val (v := (eSi64 x29)) (u := []) rfl trivial rfl ?_
      obtain ⟨r39, hr40, h⟩ := bind_some h
      refine a_call (args := [(.int .i64 a0), (eSi64 x28), (eSi64 x29)]) (u := []) (r := (.tuple [(eSi64 r39.1), (eSi64 r39.2)])) rfl rfl (impl_prime_divide_ok a0 x28 x29 r39 hr40) rfl ?_
      refine a_val (v := (.tuple [(eSi64 r39.1), (eSi64 r39.2)])) (u := []) rfl trivial rfl ?_
      refine a_val (v := (eSi64 r39.1)) (u := []) rfl (Nat.le_of_ble_eq_true rfl) rfl ?_
      refine a_val (v := (eSi64 r39.2)) (u := []) rfl (Nat.le_of_ble_eq_true rfl) rfl ?_
      refine a_val (v := (eSi64 r39.1)) (u := []) rfl trivial rfl ?_
      refine a_val (v := (eSi64 r39.2)) (u := []) rfl trivial rfl ?_
      refine a_nil ?_
      refine a_next (σ' := ⟨[(0, (.int .i64 a0)), (2, (eSi64 x29)), (7, (.osl 7)), (8, (eSi64 r39.1)), (9, (eSi64 r39.2))], [(7, some ⟨(.row 1 (x30.map eSi64)), false⟩)]⟩) rfl ?_
      refine a_seq ?_
      refine a_region ?_
      refine a_val (v := (.osl 7)) (u := []) rfl trivial rfl ?_
      refine a_val (v := (eSi64 r39.1)) (u := []) rfl trivial rfl ?_
      refine a_val (v := (.sl 1 true (([r39.1]).map eSi64))) (u := []) rfl ⟨(Nat.le_of_ble_eq_true rfl), (Nat.le_of_ble_eq_true rfl), (all_cons ⟨(Nat.le_of_ble_eq_true rfl), rfl⟩ all_nil)⟩ rfl ?_
      obtain ⟨hc41, h⟩ := ifp_some h
      refine a_val (v := (.osl 3300)) (u := [(3300, some ⟨(.row 1 (((x30 ++ ([r39.1]))).map eSi64)), false⟩), (7, none)]) (app_run (i := ⟨.slice 2, 1, 24, (eSi64 [])⟩) (f := eSi64) (l := x30) (l2 := [r39.1]) rfl rfl rfl rfl (fun _ => rfl) rfl rfl) (app_c (f := eSi64) (s := 1) (sz := 1) (by' := 24) (u := []) (id := 7) hc41 (.inr rfl) rfl rfl rfl) rfl ?_
      refine a_val (v := (.osl 3300)) (u := []) rfl trivial rfl ?_
      refine a_nil ?_
      refine a_next (σ' := ⟨[(0, (.int .i64 a0)), (2, (eSi64 x29)), (7, (.osl 7)), (9, (eSi64 r39.2))], [(7, some ⟨(.row 1 (((x30 ++ ([r39.1]))).map eSi64)), false⟩)]⟩) rfl ?_
      refine a_region ?_
      refine a_val (v := (eSi64 x29)) (u := []) rfl trivial rfl ?_
      refine a_val (v := (eSi64 r39.2)) (u := []) rfl trivial rfl ?_
      refine a_val (v := (eSi64 x29)) (u := []) rfl trivial rfl ?_
      refine a_val (v := (eSi64 r39.2)) (u := []) rfl trivial rfl ?_
      refine a_nil ?_
      refine b_norm ?_
      cases h
      exact a_again rfl hX37
def impl_row_poly_c : ACode := (.seq (.region 0 [⟨some 2, .alloc 23, none, []⟩] false) (.seq (.region 1 [⟨some 3, .alloc 23, none, []⟩] false) (.seq (.seq (.region 2 [⟨some 6, .mov (.tmp 0), none, []⟩, ⟨some 7, .blt 0 .len [(.tmp 6)] [64], none, []⟩, ⟨some 8, .mov (.const (.int .i64 0)), none, []⟩] false) (.block 0 (.loop (.seq (.region 3 [⟨some 9, .bin .lss 3 (.tmp 8) (.tmp 7), none, []⟩] false) (.seq (.cond (.tmp 9) .skip (.exit 0)) (.seq (.block 1 (.seq (.region 4 [⟨some 10, .mov (.tmp 8), none, []⟩, ⟨some 11, .indexAddr 64 (.tmp 6) (.tmp 8), none, []⟩, ⟨some 12, .load 2 (.tmp 11), none, []⟩, ⟨some 4, .asg 0 (.tmp 10) 3, none, []⟩, ⟨some 5, .asg 0 (.tmp 12) 2, none, []⟩] false) (.region 5 [⟨some 13, .mov (.tmp 4), none, []⟩, ⟨some 14, .mov (.tmp 5), none, []⟩, ⟨some 15, .conv 2 5 (.tmp 14), none, []⟩, ⟨some 16, .indexAddr 23 (.tmp 3) (.tmp 13), none, []⟩, ⟨none, .store 5 (.tmp 16) (.tmp 15), none, []⟩] false))) (.region 6 [⟨some 17, .bin .add 3 (.tmp 8) (.const (.int .i64 1)), none, []⟩, ⟨some 8, .mov (.tmp 17), none, []⟩] false))))))) (.seq (.region 7 [⟨some 18, .load 23 (.tmp 3), none, []⟩, ⟨none, .store 23 (.tmp 2) (.tmp 18), none, []⟩] false) .ret))))
def impl_row_poly_L : Live := [(0, [0]), (1, [0, 2]), (2, [0, 2, 3]), (3, [2, 3, 6, 7, 8]), (4, [2, 3, 6, 7, 8]), (5, [2, 3, 4, 5, 6, 7, 8]), (6, [2, 3, 6, 7, 8]), (7, [2, 3]), (100009, [2, 3, 6, 7, 8, 9])]
theorem impl_row_poly_body : Try.f101.body = some (Try.f101.body.getD .skip) := by kernel_rfl
theorem impl_row_poly_strip : strip [] (Try.f101.body.getD .skip) = impl_row_poly_c := by kernel_rfl
noncomputable def impl_row_poly_l1 (a0 : (List Int)) (x31 : Int) (x32 : (Vec Int 64)) : Option ((Int × (Vec Int 64)) ⊕ (Vec Int 64)) :=
  (if (decide (x31 < (a0.length : Int))) then (ifp (0 ≤ x31 ∧ x31 < ((a0.length : Nat) : Int)) ((ifp (0 ≤ x31 ∧ x31 < ((64 : Nat) : Int)) ((some (.inl ((IntKind.i64.wrap (x31 + 1), (vset x32 x31.toNat (IntKind.u8.wrap (rd a0 x31.toNat))))))))))) else (some (.inr x32)))
noncomputable def impl_row_poly (a0 : (List Int)) : Option (Vec Int 64) :=
  (Option.bind (α := (Vec Int 64)) ((loopM (fun s : (Int × (Vec Int 64)) => impl_row_poly_l1 a0 s.1 s.2) (0, (vrep 64 (0 : Int))))) fun x22 => (some x22))
set_option maxHeartbeats 16000000 in
theorem impl_row_poly_ok (a0 : (List Int)) (r : (Vec Int 64)) (h : impl_row_poly a0 = some r) : Den Try.prog 101 [(eSi64 a0)] { r := (eA64u8 r) } := by
  refine den_of (rs := [(eA64u8 r)]) (ac := impl_row_poly_c) (L := impl_row_poly_L) (n := 19) (m := []) good Try.func101 impl_row_poly_body (by kernel_rfl) Try.ntmps101 rfl rfl impl_row_poly_strip rfl rfl ?_
  refine a_st (σ' := ⟨[(0, (eSi64 a0))], []⟩) rfl ?_
  unfold impl_row_poly_c
  refine a_seq ?_
  refine a_region ?_
  refine a_val (v := (.own 1200 [] [])) (u := [(1200, some ⟨(eA64u8 ((vrep 64 (0 : Int)))), false⟩)]) rfl trivial rfl ?_
  refine a_nil ?_
  refine a_next (σ' := ⟨[(0, (eSi64 a0)), (2, (.own 2 [] []))], [(2, some ⟨(eA64u8 ((vrep 64 (0 : Int)))), false⟩)]⟩) rfl ?_
  refine a_seq ?_
  refine a_region ?_
  refine a_val (v := (.own 1300 [] [])) (u := [(1300, some ⟨(eA64u8 ((vrep 64 (0 : Int)))), false⟩)]) rfl trivial rfl ?_
  refine a_nil ?_
  refine a_next (σ' := ⟨[(0, (eSi64 a0)), (2, (.own 2 [] [])), (3, (.own 3 [] []))], [(2, some ⟨(eA64u8 ((vrep 64 (0 : Int)))), false⟩), (3, some ⟨(eA64u8 ((vrep 64 (0 : Int)))), false⟩)]⟩) rfl ?_
  obtain ⟨y23, hy24, hk25⟩ := bind_some h
  clear h
  refine a_join (emb := fun (s : (Vec Int 64)) => ⟨[(2, (.own 2 [] [])), (3, (.own 3 [] []))], [(2, some ⟨(eA64u8 ((vrep 64 (0 : Int)))), false⟩), (3, some ⟨(eA64u8 s), false⟩)]⟩) (pre := fun s => s = y23) ?_ ?_
  · rintro x22 rfl
    have h := hk25
    refine a_st (σ' := ⟨[(2, (.own 2 [] [])), (3, (.own 3 [] []))], [(2, some ⟨(eA64u8 ((vrep 64 (0 : Int)))), false⟩), (3, some ⟨(eA64u8 x22), false⟩)]⟩) rfl ?_
    refine a_seq ?_
    refine a_region ?_
    have hl47 : LdOk [] (eA64u8 x22) [] 64 true (eA64u8 x22) := (.nil rfl rfl rfl)
    refine a_val (v := (eA64u8 x22)) (u := []) (ld_own (i := ⟨.arr 64 5, 64, 64, (eA64u8 (vrep 64 (0 : Int)))⟩) rfl rfl rfl hl47) hl47.c rfl ?_
    have hs48 : StOk [] (eA64u8 ((vrep 64 (0 : Int)))) [] 64 (eA64u8 x22) (eA64u8 x22) := (.nil rfl rfl rfl rfl)
    refine a_val (v := .top) (u := [(2, some ⟨(eA64u8 x22), false⟩)]) (st_own (i := ⟨.arr 64 5, 64, 64, (eA64u8 (vrep 64 (0 : Int)))⟩) rfl rfl (fun _ => rfl) rfl hs48) (hs48.c rfl) rfl ?_
    refine a_nil ?_
    refine a_next rfl ?_
    refine a_ret ?_
    have hl49 : LdOk [] (eA64u8 x22) [] 64 true (eA64u8 x22) := (.nil rfl rfl rfl)
    refine ⟨.inr rfl, ?_⟩
    rw [Try.results101]
    cases h
    exact ⟨_, _, _, _, _, ld_own (i := ⟨.arr 64 5, 64, 64, (eA64u8 (vrep 64 (0 : Int)))⟩) rfl rfl rfl hl49, hl49.c, .inl ⟨rfl, .inl rfl⟩, rfl, rfl⟩
  · have h := hy24
    refine a_seq ?_
    refine a_region ?_
    refine a_val (v := (eSi64 a0)) (u := []) rfl trivial rfl ?_
    refine a_val (v := (.int .i64 (a0.length : Int))) (u := []) (len_run rfl rfl) trivial rfl ?_
    refine a_val (v := (.int .i64 0)) (u := []) rfl trivial rfl ?_
    refine a_nil ?_
    refine a_next (σ' := ⟨[(2, (.own 2 [] [])), (3, (.own 3 [] [])), (6, (eSi64 a0)), (7, (.int .i64 (a0.length : Int))), (8, (.int .i64 0))], [(2, some ⟨(eA64u8 ((vrep 64 (0 : Int)))), false⟩), (3, some ⟨(eA64u8 ((vrep 64 (0 : Int)))), false⟩)]⟩) rfl ?_
    refine a_block ?_
    refine a_loop (emb := fun (s : (Int × (Vec Int 64))) => ⟨[(2, (.own 2 [] [])), (3, (.own 3 [] [])), (6, (eSi64 a0)), (7, (.int .i64 (a0.length : Int))), (8, (.int .i64 s.1))], [(2, some ⟨(eA64u8 ((vrep 64 (0 : Int)))), false⟩), (3, some ⟨(eA64u8 s.2), false⟩)]⟩) (body := (fun s : (Int × (Vec Int 64)) => impl_row_poly_l1 a0 s.1 s.2)) (G := fun q => some q = some y23) h rfl ?_ rfl
    rintro X38 ⟨x31, x32⟩ x39 h hX40
    have h : impl_row_poly_l1 a0 x31 x32 = some x39 := h
    refine a_st (σ' := ⟨[(2, (.own 2 [] [])), (3, (.own 3 [] [])), (6, (eSi64 a0)), (7, (.int .i64 (a0.length : Int))), (8, (.int .i64 x31))], [(2, some ⟨(eA64u8 ((vrep 64 (0 : Int)))), false⟩), (3, some ⟨(eA64u8 x32), false⟩)]⟩) rfl ?_
    refine a_seq ?_
    refine a_region ?_
    refine a_val (v := (.bool ((decide (x31 < (a0.length : Int)))))) (u := []) rfl trivial rfl ?_
    refine a_nil ?_
    refine a_next (σ' := ⟨[(2, (.own 2 [] [])), (3, (.own 3 [] [])), (6, (eSi64 a0)), (7, (.int .i64 (a0.length : Int))), (8, (.int .i64 x31)), (9, (.bool ((decide (x31 < (a0.length : Int))))))], [(2, some ⟨(eA64u8 ((vrep 64 (0 : Int)))), false⟩), (3, some ⟨(eA64u8 x32), false⟩)]⟩) rfl ?_
    refine a_seq ?_
    cases hb41 : (decide (x31 < (a0.length : Int)))
    · have h := ite_f hb41 h
      refine a_cond_f rfl ?_
      refine a_exit ?_
      refine t_exit ?_
      cases h
      have h := hX40
      refine t_exit ?_
      refine b_exit ?_
      exact j_leaf x32 (Option.some.inj h) rfl
    · have h := ite_t hb41 h
      refine a_cond_t rfl ?_
      refine a_skip ?_
      refine a_next (σ' := ⟨[(2, (.own 2 [] [])), (3, (.own 3 [] [])), (6, (eSi64 a0)), (7, (.int .i64 (a0.length : Int))), (8, (.int .i64 x31))], [(2, some ⟨(eA64u8 ((vrep 64 (0 : Int)))), false⟩), (3, some ⟨(eA64u8 x32), false⟩)]⟩) rfl ?_
      refine a_seq ?_
      refine a_block ?_
      refine a_seq ?_
      refine a_region ?_
      refine a_val (v := (.int .i64 x31)) (u := []) rfl trivial rfl ?_
      obtain ⟨hc42, h⟩ := ifp_some h
      refine a_val (v := (.ref (.row 1 (a0.map (AV.int .i64))) [x31.toNat] [x31.toNat * 1])) (u := []) rfl (lmap hc42) rfl ?_
      have hl43 : LdOk [x31.toNat] (.row 1 (a0.map (AV.int .i64))) [x31.toNat * 1] 1 false (.int .i64 (rd a0 x31.toNat)) := (.row (llt hc42) rfl (.nil rfl rfl rfl))
      refine a_val (v := (.int .i64 (rd a0 x31.toNat))) (u := []) (ld_ref (i := ⟨.int .i64, 1, 8, (.int .i64 0)⟩) rfl rfl hl43) hl43.c rfl ?_
      refine a_val (v := (.int .i64 x31)) (u := []) rfl trivial rfl ?_
      refine a_val (v := (.int .i64 (rd a0 x31.toNat))) (u := []) rfl trivial rfl ?_
      refine a_nil ?_
      refine a_next (σ' := ⟨[(2, (.own 2 [] [])), (3, (.own 3 [] [])), (4, (.int .i64 x31)), (5, (.int .i64 (rd a0 x31.toNat))), (6, (eSi64 a0)), (7, (.int .i64 (a0.length : Int))), (8, (.int .i64 x31))], [(2, some ⟨(eA64u8 ((vrep 64 (0 : Int)))), false⟩), (3, some ⟨(eA64u8 x32), false⟩)]⟩) rfl ?_
      refine a_region ?_
      refine a_val (v := (.int .i64 x31)) (u := []) rfl trivial rfl ?_
      refine a_val (v := (.int .i64 (rd a0 x31.toNat))) (u := []) rfl trivial rfl ?_
      refine a_val (v := (.int .u8 (IntKind.u8.wrap (rd a0 x31.toNat)))) (u := []) rfl trivial rfl ?_
      obtain ⟨hc44, h⟩ := ifp_some h
      refine a_val (v := (.own 3 [x31.toNat] [x31.toNat * 1])) (u := []) rfl hc44 rfl ?_
      have hs45 : StOk [x31.toNat] (eA64u8 x32) [x31.toNat * 1] 1 (.int .u8 (IntKind.u8.wrap (rd a0 x31.toNat))) (eA64u8 ((vset x32 x31.toNat (IntKind.u8.wrap (rd a0 x31.toNat))))) := (.arr (y := IntKind.u8.wrap (rd a0 x31.toNat)) (vlt x32 hc44) rfl (.nil rfl rfl rfl rfl))
      refine a_val (v := .top) (u := [(3, some ⟨(eA64u8 ((vset x32 x31.toNat (IntKind.u8.wrap (rd a0 x31.toNat))))), false⟩)]) (st_own (i := ⟨.int .u8, 1, 1, (.int .u8 0)⟩) rfl rfl (fun _ => rfl) rfl hs45) (hs45.c rfl) rfl ?_
      refine a_nil ?_
      refine b_norm ?_
      refine a_next (σ' := ⟨[(2, (.own 2 [] [])), (3, (.own 3 [] [])), (6, (eSi64 a0)), (7, (.int .i64 (a0.length : Int))), (8, (.int .i64 x31))], [(2, some ⟨(eA64u8 ((vrep 64 (0 : Int)))), false⟩), (3, some ⟨(eA64u8 ((vset x32 x31.toNat (IntKind.u8.wrap (rd a0 x31.toNat))))), false⟩)]⟩) rfl ?_
      refine a_region ?_
      refine a_val (v := (.int .i64 (IntKind.i64.wrap (x31 + 1)))) (u := []) rfl trivial rfl ?_
      refine a_val (v := (.int .i64 (IntKind.i64.wrap (x31 + 1)))) (u := []) rfl trivial rfl ?_
      refine a_nil ?_
      cases h
      exact a_again rfl hX40
def impl_polys_fresh_c : ACode := (.seq (.region 0 [⟨some 2, .asg 2 (.const (.slice none 0 0)) 30, none, []⟩] false) (.seq (.region 1 [⟨some 3, .asg 2 (.const (.slice none 0 0)) 30, none, []⟩] false) (.seq (.seq (.region 2 [⟨some 6, .mov (.tmp 0), none, []⟩, ⟨some 7, .blt 0 .len [(.tmp 6)] [72], none, []⟩, ⟨some 8, .mov (.const (.int .i64 0)), none, []⟩] false) (.block 0 (.loop (.seq (.region 3 [⟨some 9, .bin .lss 3 (.tmp 8) (.tmp 7), none, []⟩] false) (.seq (.cond (.tmp 9) .skip (.exit 0)) (.seq (.block 1 (.seq (.region 4 [⟨some 10, .indexAddr 72 (.tmp 6) (.tmp 8), none, []⟩, ⟨some 11, .load 64 (.tmp 10), none, []⟩, ⟨some 5, .asg 1 (.tmp 11) 64, none, []⟩] false) (.region 5 [⟨some 12, .mov (.tmp 3), none, []⟩, ⟨some 13, .mov (.tmp 5), none, []⟩, ⟨some 14, .call 0 (.func 101) [(.tmp 13)], none, []⟩, ⟨some 15, .bslice 0 30 1 [(0, (.tmp 14))], none, []⟩, ⟨some 16, .blt 0 .append [(.tmp 12), (.tmp 15)] [30, 30], none, []⟩, ⟨some 3, .asg 2 (.tmp 16) 30, none, []⟩] false))) (.region 6 [⟨some 17, .bin .add 3 (.tmp 8) (.const (.int .i64 1)), none, []⟩, ⟨some 8, .mov (.tmp 17), none, []⟩] false))))))) (.seq (.region 7 [⟨some 18, .mov (.tmp 3), none, []⟩, ⟨some 2, .asg 2 (.tmp 18) 30, none, []⟩] false) .ret))))
def impl_polys_fresh_L : Live := [(0, [0]), (1, [0]), (2, [0, 3]), (3, [3, 6, 7, 8]), (4, [3, 6, 7, 8]), (5, [3, 5, 6, 7, 8]), (6, [3, 6, 7, 8]), (7, [3]), (100009, [3, 6, 7, 8, 9])]
theorem impl_polys_fresh_body : Try.f70.body = some (Try.f70.body.getD .skip) := by kernel_rfl
theorem impl_polys_fresh_strip : strip [(2, 2), (3, 2), (5, 1)] (Try.f70.body.getD .skip) = impl_polys_fresh_c := by kernel_rfl
noncomputable def impl_polys_fresh_l1 (a0 : (List (List Int))) (x35 : Int) (x36 : (List (Vec Int 64))) : Option ((Int × (List (Vec Int 64))) ⊕ (List (Vec Int 64))) :=
  (if (decide (x35 < (a0.length : Int))) then (ifp (0 ≤ x35 ∧ x35 < ((a0.length : Nat) : Int)) ((Option.bind (impl_row_poly (rd a0 x35.toNat)) fun r49 => (ifp ((x36.length + ([r49] : List (Vec Int 64)).length) * 64 ≤ 140737488355328) ((some (.inl ((IntKind.i64.wrap (x35 + 1), (x36 ++ ([r49]))))))))))) else (some (.inr x36)))
noncomputable def impl_polys_fresh (a0 : (List (List Int))) : Option (List (Vec Int 64)) :=
  (Option.bind (α := (List (Vec Int 64))) ((loopM (fun s : (Int × (List (Vec Int 64))) => impl_polys_fresh_l1 a0 s.1 s.2) (0, []))) fun x25 => (some x25))
set_option maxHeartbeats 16000000 in
theorem impl_polys_fresh_ok (a0 : (List (List Int))) (r : (List (Vec Int 64))) (h : impl_polys_fresh a0 = some r) : Den Try.prog 70 [(eSSi64 a0)] { r := (.osl 2000000), ms := [], fs := [(64, r.map eA64u8)] } := by
  refine den_ofX (rs := [(.osl 2000000)]) (ac := impl_polys_fresh_c) (L := impl_polys_fresh_L) (n := 19) (m := [(2, 2), (3, 2), (5, 1)]) good Try.func70 impl_polys_fresh_body (by kernel_rfl) Try.ntmps70 rfl rfl impl_polys_fresh_strip rfl ?_
  refine a_st (σ' := ⟨[(0, (eSSi64 a0))], []⟩) rfl ?_
  unfold impl_polys_fresh_c
  refine a_seq ?_
  refine a_region ?_
  refine a_val (v := (.osl 1200)) (u := [(1200, some ⟨(.row 64 (([]).map eA64u8)), false⟩)]) rfl trivial rfl ?_
  refine a_nil ?_
  refine a_next (σ' := ⟨[(0, (eSSi64 a0))], []⟩) rfl ?_
  refine a_seq ?_
  refine a_region ?_
  refine a_val (v := (.osl 1300)) (u := [(1300, some ⟨(.row 64 (([]).map eA64u8)), false⟩)]) rfl trivial rfl ?_
  refine a_nil ?_
  refine a_next (σ' := ⟨[(0, (eSSi64 a0)), (3, (.osl 3))], [(3, some ⟨(.row 64 (([]).map eA64u8)), false⟩)]⟩) rfl ?_
  obtain ⟨y26, hy27, hk28⟩ := bind_some h
  clear h
  refine a_join (emb := fun (s : (List (Vec Int 64))) => ⟨[(3, (.osl 3))], [(3, some ⟨(.row 64 (s.map eA64u8)), false⟩)]⟩) (pre := fun s => s = y26) ?_ ?_
  · rintro x25 rfl
    have h := hk28
    refine a_st (σ' := ⟨[(3, (.osl 3))], [(3, some ⟨(.row 64 (x25.map eA64u8)), false⟩)]⟩) rfl ?_
    refine a_seq ?_
    refine a_region ?_
    refine a_val (v := (.osl 3)) (u := []) rfl trivial rfl ?_
    refine a_val (v := (.osl 3)) (u := []) rfl trivial rfl ?_
    refine a_nil ?_
    refine a_next rfl ?_
    refine a_ret ?_
    refine ⟨.inr rfl, ?_⟩
    rw [Try.results70]
    cases h
    exact ⟨[some 3], ⟨_, _, _, _, _, rfl, trivial, rfl, .inr (.inl ⟨_, _, _, _, _, rfl, rfl, rfl, rfl, rfl, ⟨rfl, rfl, rfl⟩⟩)⟩, rfl, rfl⟩
  · have h := hy27
    refine a_seq ?_
    refine a_region ?_
    refine a_val (v := (eSSi64 a0)) (u := []) rfl trivial rfl ?_
    refine a_val (v := (.int .i64 (a0.length : Int))) (u := []) (len_run rfl rfl) trivial rfl ?_
    refine a_val (v := (.int .i64 0)) (u := []) rfl trivial rfl ?_
    refine a_nil ?_
    refine a_next (σ' := ⟨[(3, (.osl 3)), (6, (eSSi64 a0)), (7, (.int .i64 (a0.length : Int))), (8, (.int .i64 0))], [(3, some ⟨(.row 64 (([]).map eA64u8)), false⟩)]⟩) rfl ?_
    refine a_block ?_
    refine a_loop (emb := fun (s : (Int × (List (Vec Int 64)))) => ⟨[(3, (.osl 3)), (6, (eSSi64 a0)), (7, (.int .i64 (a0.length : Int))), (8, (.int .i64 s.1))], [(3, some ⟨(.row 64 (s.2.map eA64u8)), false⟩)]⟩) (body := (fun s : (Int × (List (Vec Int 64))) => impl_polys_fresh_l1 a0 s.1 s.2)) (G := fun q => some q = some y26) h rfl ?_ rfl
    rintro X43 ⟨x35, x36⟩ x44 h hX45
    have h : impl_polys_fresh_l1 a0 x35 x36 = some x44 := h
    refine a_st (σ' := ⟨[(3, (.osl 3)), (6, (eSSi64 a0)), (7, (.int .i64 (a0.length : Int))), (8, (.int .i64 x35))], [(3, some ⟨(.row 64 (x36.map eA64u8)), false⟩)]⟩) rfl ?_
    refine a_seq ?_
    refine a_region ?_
    refine a_val (v := (.bool ((decide (x35 < (a0.length : Int)))))) (u := []) rfl trivial rfl ?_
    refine a_nil ?_
    refine a_next (σ' := ⟨[(3, (.osl 3)), (6, (eSSi64 a0)), (7, (.int .i64 (a0.length : Int))), (8, (.int .i64 x35)), (9, (.bool ((decide (x35 < (a0.length : Int))))))], [(3, some ⟨(.row 64 (x36.map eA64u8)), false⟩)]⟩) rfl ?_
    refine a_seq ?_
    cases hb46 : (decide (x35 < (a0.length : Int)))
    · have h := ite_f hb46 h
      refine a_cond_f rfl ?_
      refine a_exit ?_
      refine t_exit ?_
      cases h
      have h := hX45
      refine t_exit ?_
      refine b_exit ?_
      exact j_leaf x36 (Option.some.inj h) rfl
    · have h := ite_t hb46 h
      refine a_cond_t rfl ?_
      refine a_skip ?_
      refine a_next (σ' := ⟨[(3, (.osl 3)), (6, (eSSi64 a0)), (7, (.int .i64 (a0.length : Int))), (8, (.int .i64 x35))], [(3, some ⟨(.row 64 (x36.map eA64u8)), false⟩)]⟩) rfl ?_
      refine a_seq ?_
      refine a_block ?_
      refine a_seq ?_
      refine a_region ?_
      obtain ⟨hc47, h⟩ := ifp_some h
      refine a_val (v := (.ref (.row 1 (a0.map eSi64)) [x35.toNat] [x35.toNat * 1])) (u := []) rfl (lmap hc47) rfl ?_
      have hl48 : LdOk [x35.toNat] (.row 1 (a0.map eSi64)) [x35.toNat * 1] 1 false (eSi64 (rd a0 x35.toNat)) := (.row (llt hc47) rfl (.nil rfl rfl rfl))
      refine a_val (v := (eSi64 (rd a0 x35.toNat))) (u := []) (ld_ref (i := ⟨.slice 2, 1, 24, (eSi64 [])⟩) rfl rfl hl48) hl48.c rfl ?_
      refine a_val (v := (eSi64 (rd a0 x35.toNat))) (u := []) rfl trivial rfl ?_
      refine a_nil ?_
      refine a_next (σ' := ⟨[(3, (.osl 3)), (5, (eSi64 (rd a0 x35.toNat))), (6, (eSSi64 a0)), (7, (.int .i64 (a0.length : Int))), (8, (.int .i64 x35))], [(3, some ⟨(.row 64 (x36.map eA64u8)), false⟩)]⟩) rfl ?_
      refine a_region ?_
      refine a_val (v := (.osl 3)) (u := []) rfl trivial rfl ?_
      refine a_val (v := (eSi64 (rd a0 x35.toNat))) (u := []) rfl trivial rfl ?_
      obtain ⟨r49, hr50, h⟩ := bind_some h
      refine a_call (args := [(eSi64 (rd a0 x35.toNat))]) (u := []) (r := (eA64u8 r49)) rfl rfl (impl_row_poly_ok (rd a0 x35.toNat) r49 hr50) rfl ?_
      refine a_val (v := (.sl 64 true (([r49]).map eA64u8))) (u := []) rfl ⟨(Nat.le_of_ble_eq_true rfl), (Nat.le_of_ble_eq_true rfl), (all_cons ⟨(Nat.le_of_ble_eq_true rfl), rfl⟩ all_nil)⟩ rfl ?_
      obtain ⟨hc51, h⟩ := ifp_some h
      refine a_val (v := (.osl 2600)) (u := [(2600, some ⟨(.row 64 (((x36 ++ ([r49]))).map eA64u8)), false⟩), (3, none)]) (app_run (i := ⟨.arr 64 5, 64, 64, (eA64u8 (vrep 64 (0 : Int)))⟩) (f := eA64u8) (l := x36) (l2 := [r49]) rfl rfl rfl rfl (fun _ => rfl) rfl rfl) (app_c (f := eA64u8) (s := 64) (sz := 64) (by' := 64) (u := []) (id := 3) hc51 (.inr rfl) rfl rfl rfl) rfl ?_
      refine a_val (v := (.osl 2600)) (u := []) rfl trivial rfl ?_
      refine a_nil ?_
      refine b_norm ?_
      refine a_next (σ' := ⟨[(3, (.osl 3)), (6, (eSSi64 a0)), (7, (.int .i64 (a0.length : Int))), (8, (.int .i64 x35))], [(3, some ⟨(.row 64 (((x36 ++ ([r49]))).map eA64u8)), false⟩)]⟩) rfl ?_
      refine a_region ?_
      refine a_val (v := (.int .i64 (IntKind.i64.wrap (x35 + 1)))) (u := []) rfl trivial rfl ?_
      refine a_val (v := (.int .i64 (IntKind.i64.wrap (x35 + 1)))) (u := []) rfl trivial rfl ?_
      refine a_nil ?_
      cases h
      exact a_again rfl hX45
def impl_ContinuedFraction_fresh_c : ACode := (.seq (.region 0 [⟨some 4, .box 23 (.tmp 1), none, []⟩, ⟨some 5, .box 23 (.tmp 2), none, []⟩, ⟨some 6, .asg 2 (.const (.slice none 0 0)) 30, none, []⟩, ⟨some 7, .asg 0 (.const (.int .i64 0)) 2, none, []⟩] false) (.seq (.seq (.region 1 [⟨some 9, .mov (.tmp 0), none, []⟩, ⟨some 10, .load 23 (.tmp 4), none, []⟩, ⟨some 11, .load 23 (.tmp 5), none, []⟩, ⟨some 12, .call 0 (.func 69) [(.tmp 9), (.tmp 10), (.tmp 11), (.const (.bool true))], none, []⟩, ⟨some 8, .asg 0 (.tmp 12) 2, none, []⟩] false) (.seq (.region 2 [⟨some 13, .mov (.tmp 8), none, []⟩, ⟨some 14, .bin .neq 2 (.tmp 13) (.const (.int .i64 0)), none, []⟩] false) (.cond (.tmp 14) (.seq (.region 3 [⟨some 15, .mov (.tmp 8), none, []⟩, ⟨some 6, .asg 2 (.const (.slice none 0 0)) 30, none, []⟩, ⟨some 7, .asg 0 (.tmp 15) 2, none, []⟩] false) .ret) .skip))) (.seq (.region 4 [⟨some 16, .mov (.tmp 0), none, []⟩, ⟨some 17, .load 23 (.tmp 4), none, []⟩, ⟨some 18, .call 0 (.func 72) [(.tmp 17)], none, [1]⟩, ⟨some 19, .load 23 (.tmp 5), none, []⟩, ⟨some 20, .call 0 (.func 72) [(.tmp 19)], none, [3, 2]⟩, ⟨some 21, .call 0 (.func 71) [(.tmp 16), (.tmp 18), (.tmp 20)], none, [0, 2, 4, 4]⟩, ⟨some 22, .call 0 (.func 70) [(.tmp 21)], none, [5, 5]⟩, ⟨some 6, .asg 2 (.tmp 22) 30, none, [6, 6, 0, 1, 2, 3, 4, 5, 6]⟩, ⟨some 7, .asg 0 (.const (.int .i64 0)) 2, none, [7, 0, 1, 2, 3, 4, 5, 6, 7]⟩] true) .ret)))
def impl_ContinuedFraction_fresh_L : Live := [(0, [0, 1, 2]), (1, [0, 4, 5]), (2, [0, 4, 5, 8]), (3, [8]), (4, [0, 4, 5]), (100014, [0, 4, 5, 8, 14])]
theorem impl_ContinuedFraction_fresh_body : Try.f22.body = some (Try.f22.body.getD .skip) := by kernel_rfl
theorem impl_ContinuedFraction_fresh_strip : strip [(6, 2)] (Try.f22.body.getD .skip) = impl_ContinuedFraction_fresh_c := by kernel_rfl
noncomputable def impl_ContinuedFraction_fresh (a0 : Int) (a1 : (Vec Int 64)) (a2 : (Vec Int 64)) : Option ((List (Vec Int 64)) × Int) :=
  (Option.bind (impl_quotientCode a0 a1 a2 true) fun r3 => (if (r3 != 0) then (some ([], r3)) else (Option.bind (impl_rowOf a1) fun r17 => (Option.bind (impl_rowOf a2) fun r20 => (Option.bind (impl_prime_partials a0 r17 r20) fun r22 => (Option.bind (impl_polys_fresh r22) fun r24 => (some (r24, 0))))))))
set_option maxHeartbeats 16000000 in
theorem impl_ContinuedFraction_fresh_ok (a0 : Int) (a1 : (Vec Int 64)) (a2 : (Vec Int 64)) (r : ((List (Vec Int 64)) × Int)) (h : impl_ContinuedFraction_fresh a0 a1 a2 = some r) : Den Try.prog 22 [(.int .i64 a0), (eA64u8 a1), (eA64u8 a2)] { r := (.tuple [(.osl 2000000), (.int .i64 r.2)]), ms := [], fs := [(64, r.1.map eA64u8)] } := by
  refine den_ofX (rs := [(.osl 2000000), (.int .i64 r.2)]) (ac := impl_ContinuedFraction_fresh_c) (L := impl_ContinuedFraction_fresh_L) (n := 23) (m := [(6, 2)]) good Try.func22 impl_ContinuedFraction_fresh_body (by kernel_rfl) Try.ntmps22 rfl rfl impl_ContinuedFraction_fresh_strip rfl ?_
  refine a_st (σ' := ⟨[(0, (.int .i64 a0)), (1, (eA64u8 a1)), (2, (eA64u8 a2))], []⟩) rfl ?_
  unfold impl_ContinuedFraction_fresh_c
  refine a_seq ?_
  refine a_region ?_
  refine a_val (v := (.own 1400 [] [])) (u := [(1400, some ⟨(eA64u8 a1), false⟩)]) rfl trivial rfl ?_
  refine a_val (v := (.own 1500 [] [])) (u := [(1500, some ⟨(eA64u8 a2), false⟩)]) rfl trivial rfl ?_
  refine a_val (v := (.osl 1600)) (u := [(1600, some ⟨(.row 64 (([]).map eA64u8)), false⟩)]) rfl trivial rfl ?_
  refine a_val (v := (.int .i64 0)) (u := []) rfl trivial rfl ?_
  refine a_nil ?_
  refine a_next (σ' := ⟨[(0, (.int .i64 a0)), (4, (.own 4 [] [])), (5, (.own 5 [] []))], [(4, some ⟨(eA64u8 a1), false⟩), (5, some ⟨(eA64u8 a2), false⟩)]⟩) rfl ?_
  refine a_seq ?_
  refine a_seq ?_
  refine a_region ?_
  refine a_val (v := (.int .i64 a0)) (u := []) rfl trivial rfl ?_
  have hl1 : LdOk [] (eA64u8 a1) [] 64 true (eA64u8 a1) := (.nil rfl rfl rfl)
  refine a_val (v := (eA64u8 a1)) (u := []) (ld_own (i := ⟨.arr 64 5, 64, 64, (eA64u8 (vrep 64 (0 : Int)))⟩) rfl rfl rfl hl1) hl1.c rfl ?_
  have hl2 : LdOk [] (eA64u8 a2) [] 64 true (eA64u8 a2) := (.nil rfl rfl rfl)
  refine a_val (v := (eA64u8 a2)) (u := []) (ld_own (i := ⟨.arr 64 5, 64, 64, (eA64u8 (vrep 64 (0 : Int)))⟩) rfl rfl rfl hl2) hl2.c rfl ?_
  obtain ⟨r3, hr4, h⟩ := bind_some h
  refine a_call (args := [(.int .i64 a0), (eA64u8 a1), (eA64u8 a2), (.bool true)]) (u := []) (r := (.int .i64 r3)) rfl rfl (impl_quotientCode_ok a0 a1 a2 true r3 hr4) rfl ?_
  refine a_val (v := (.int .i64 r3)) (u := []) rfl trivial rfl ?_
  refine a_nil ?_
  refine a_next (σ' := ⟨[(0, (.int .i64 a0)), (4, (.own 4 [] [])), (5, (.own 5 [] [])), (8, (.int .i64 r3))], [(4, some ⟨(eA64u8 a1), false⟩), (5, some ⟨(eA64u8 a2), false⟩)]⟩) rfl ?_
  refine a_seq ?_
  refine a_region ?_
  refine a_val (v := (.int .i64 r3)) (u := []) rfl trivial rfl ?_
  refine a_val (v := (.bool (r3 != 0))) (u := []) rfl trivial rfl ?_
  refine a_nil ?_
  refine a_next (σ' := ⟨[(0, (.int .i64 a0)), (4, (.own 4 [] [])), (5, (.own 5 [] [])), (8, (.int .i64 r3)), (14, (.bool (r3 != 0)))], [(4, some ⟨(eA64u8 a1), false⟩), (5, some ⟨(eA64u8 a2), false⟩)]⟩) rfl ?_
  cases hb5 : (r3 != 0)
  · have h := ite_f hb5 h
    refine a_cond_f rfl ?_
    refine a_skip ?_
    refine a_next (σ' := ⟨[(0, (.int .i64 a0)), (4, (.own 4 [] [])), (5, (.own 5 [] []))], [(4, some ⟨(eA64u8 a1), false⟩), (5, some ⟨(eA64u8 a2), false⟩)]⟩) rfl ?_
    refine a_seq ?_
    refine a_draw [⟨[], [], [], []⟩, ⟨[4], [], [], []⟩, ⟨[], [], [], [1]⟩, ⟨[5], [], [], []⟩, ⟨[], [], [], [1, 2, 3]⟩, ⟨[], [], [], [0, 1, 2, 3, 4]⟩, ⟨[3200], [3200], [3200], [0, 1, 2, 3, 4, 5]⟩, ⟨[3200], [], [3200], [0, 1, 2, 3, 4, 5, 6]⟩, ⟨[], [], [], [0, 1, 2, 3, 4, 5, 6, 7]⟩] (by kernel_rfl) ?_
    refine d_cons ?_
    refine a_val (v := (.int .i64 a0)) (u := []) rfl trivial rfl ?_
    refine d_next rfl ?_
    refine d_cons ?_
    have hl16 : LdOk [] (eA64u8 a1) [] 64 true (eA64u8 a1) := (.nil rfl rfl rfl)
    refine a_val (v := (eA64u8 a1)) (u := []) (ld_own (i := ⟨.arr 64 5, 64, 64, (eA64u8 (vrep 64 (0 : Int)))⟩) rfl rfl rfl hl16) hl16.c rfl ?_
    refine d_next rfl ?_
    refine d_cons ?_
    obtain ⟨r17, hr18, h⟩ := bind_some h
    refine a_call (args := [(eA64u8 a1)]) (u := []) (r := (eSi64 r17)) rfl rfl (impl_rowOf_ok a1 r17 hr18) rfl ?_
    refine d_next rfl ?_
    refine d_cons ?_
    have hl19 : LdOk [] (eA64u8 a2) [] 64 true (eA64u8 a2) := (.nil rfl rfl rfl)
    refine a_val (v := (eA64u8 a2)) (u := []) (ld_own (i := ⟨.arr 64 5, 64, 64, (eA64u8 (vrep 64 (0 : Int)))⟩) rfl rfl rfl hl19) hl19.c rfl ?_
    refine d_next rfl ?_
    refine d_cons ?_
    obtain ⟨r20, hr21, h⟩ := bind_some h
    refine a_call (args := [(eA64u8 a2)]) (u := []) (r := (eSi64 r20)) rfl rfl (impl_rowOf_ok a2 r20 hr21) rfl ?_
    refine d_next rfl ?_
    refine d_cons ?_
    obtain ⟨r22, hr23, h⟩ := bind_some h
    refine a_call (args := [(.int .i64 a0), (eSi64 r17), (eSi64 r20)]) (u := []) (r := (eSSi64 r22)) rfl rfl (impl_prime_partials_ok a0 r17 r20 r22 hr23) rfl ?_
    refine d_next rfl ?_
    refine d_cons ?_
    obtain ⟨r24, hr25, h⟩ := bind_some h
    refine a_callF (args := [(eSSi64 r22)]) (u := []) (u2 := []) (r := (.osl 2000000)) (fs := [(64, r24.map eA64u8)]) rfl rfl (impl_polys_fresh_ok r22 r24 hr25) rfl rfl rfl (.inl rfl) rfl ?_
    refine d_next rfl ?_
    refine d_cons ?_
    refine a_val (v := (.osl 3200)) (u := []) rfl trivial rfl ?_
    refine d_next rfl ?_
    refine d_cons ?_
    refine a_val (v := (.int .i64 0)) (u := []) rfl trivial rfl ?_
    refine d_next rfl ?_
    refine d_nil ?_
    refine a_next rfl ?_
    refine a_ret ?_
    refine ⟨.inr rfl, ?_⟩
    rw [Try.results22]
    cases h
    exact ⟨[some 3200], ⟨_, _, _, _, _, rfl, trivial, rfl, .inr (.inl ⟨_, _, _, _, _, rfl, rfl, rfl, rfl, rfl, ⟨_, _, _, _, _, rfl, trivial, rfl, .inl ⟨rfl, .inl rfl, ⟨rfl, rfl, rfl⟩⟩⟩⟩)⟩, rfl, rfl⟩
  · have h := ite_t hb5 h
    refine a_cond_t rfl ?_
    refine a_seq ?_
    refine a_region ?_
    refine a_val (v := (.int .i64 r3)) (u := []) rfl trivial rfl ?_
    refine a_val (v := (.osl 1600)) (u := [(1600, some ⟨(.row 64 (([]).map eA64u8)), false⟩)]) rfl trivial rfl ?_
    refine a_val (v := (.int .i64 r3)) (u := []) rfl trivial rfl ?_
    refine a_nil ?_
    refine a_next rfl ?_
    refine a_ret ?_
    refine t_ret ?_
    refine ⟨.inr rfl, ?_⟩
    rw [Try.results22]
    cases h
    exact ⟨[some 1600], ⟨_, _, _, _, _, rfl, trivial, rfl, .inr (.inl ⟨_, _, _, _, _, rfl, rfl, rfl, rfl, rfl, ⟨_, _, _, _, _, rfl, trivial, rfl, .inl ⟨rfl, .inl rfl, ⟨rfl, rfl, rfl⟩⟩⟩⟩)⟩, rfl, rfl⟩
def laws_eqPoly_c : ACode := (.seq (.region 0 [⟨some 2, .box 23 (.tmp 0), none, []⟩, ⟨some 3, .box 23 (.tmp 1), none, []⟩, ⟨some 4, .asg 0 (.const (.bool false)) 4, none, []⟩] false) (.seq (.seq (.region 1 [⟨some 5, .asg 0 (.const (.int .i64 0)) 3, none, []⟩] false) (.block 0 (.loop (.seq (.seq (.region 2 [⟨some 6, .mov (.tmp 5), none, []⟩, ⟨some 7, .bin .lss 3 (.tmp 6) (.const (.int .i64 64)), none, []⟩] false) (.cond (.tmp 7) .skip (.exit 0))) (.seq (.block 1 (.seq (.region 4 [⟨some 10, .mov (.tmp 5), none, []⟩, ⟨some 11, .indexAddr 23 (.tmp 2) (.tmp 10), none, [0]⟩, ⟨some 12, .load 5 (.tmp 11), none, [1]⟩, ⟨some 13, .mov (.tmp 5), none, []⟩, ⟨some 14, .indexAddr 23 (.tmp 3) (.tmp 13), none, [3]⟩, ⟨some 15, .load 5 (.tmp 14), none, [4]⟩, ⟨some 16, .bin .neq 5 (.tmp 12) (.tmp 15), none, [2, 5]⟩] true) (.cond (.tmp 16) (.seq (.region 5 [⟨some 4, .asg 0 (.const (.bool false)) 4, none, []⟩] false) .ret) .skip))) (.region 3 [⟨some 8, .mov (.tmp 5), none, []⟩, ⟨some 9, .bin .add 3 (.tmp 8) (.const (.int .i64 1)), none, []⟩, ⟨some 5, .asg 0 (.tmp 9) 3, none, []⟩] false)))))) (.seq (.region 6 [⟨some 4, .asg 0 (.const (.bool true)) 4, none, []⟩] false) .ret)))
def laws_eqPoly_L : Live := [(0, [0, 1]), (1, [2, 3]), (2, [2, 3, 5]), (3, [2, 3, 5]), (4, [2, 3, 5]), (5, []), (6, []), (100007, [2, 3, 5, 7]), (100016, [2, 3, 5, 16])]
theorem laws_eqPoly_body : Try.f17.body = some (Try.f17.body.getD .skip) := by kernel_rfl
theorem laws_eqPoly_strip : strip [] (Try.f17.body.getD .skip) = laws_eqPoly_c := by kernel_rfl
noncomputable def laws_eqPoly_l1 (a0 : (Vec Int 64)) (a1 : (Vec Int 64)) (x49 : Int) : Option (Int ⊕ (Unit ⊕ Bool)) :=
  (if (decide (x49 < 64)) then (ifp (0 ≤ x49 ∧ x49 < ((64 : Nat) : Int)) ((ifp (0 ≤ x49 ∧ x49 < ((64 : Nat) : Int)) ((if ((rd a0.1 x49.toNat) != (rd a1.1 x49.toNat)) then (some (.inr (.inr false))) else (some (.inl (IntKind.i64.wrap (x49 + 1))))))))) else (some (.inr (((.inl ()))))))
noncomputable def laws_eqPoly (a0 : (Vec Int 64)) (a1 : (Vec Int 64)) : Option Bool :=
  (Option.bind (α := (Unit ⊕ Bool)) ((loopM (fun s : Int => laws_eqPoly_l1 a0 a1 s) 0)) fun z => match z with | .inl _ => (some true) | .inr r74 => (some r74))
set_option maxHeartbeats 16000000 in
theorem laws_eqPoly_ok (a0 : (Vec Int 64)) (a1 : (Vec Int 64)) (r : Bool) (h : laws_eqPoly a0 a1 = some r) : Den Try.prog 17 [(eA64u8 a0), (eA64u8 a1)] { r := (.bool r) } := by
  refine den_of (rs := [(.bool r)]) (ac := laws_eqPoly_c) (L := laws_eqPoly_L) (n := 17) (m := []) good Try.func17 laws_eqPoly_body (by kernel_rfl) Try.ntmps17 rfl rfl laws_eqPoly_strip rfl rfl ?_
  refine a_st (σ' := ⟨[(0, (eA64u8 a0)), (1, (eA64u8 a1))], []⟩) rfl ?_
  unfold laws_eqPoly_c
  refine a_seq ?_
  refine a_region ?_
  refine a_val (v := (.own 1200 [] [])) (u := [(1200, some ⟨(eA64u8 a0), false⟩)]) rfl trivial rfl ?_
  refine a_val (v := (.own 1300 [] [])) (u := [(1300, some ⟨(eA64u8 a1), false⟩)]) rfl trivial rfl ?_
  refine a_val (v := (.bool false)) (u := []) rfl trivial rfl ?_
  refine a_nil ?_
  refine a_next (σ' := ⟨[(2, (.own 2 [] [])), (3, (.own 3 [] []))], [(2, some ⟨(eA64u8 a0), false⟩), (3, some ⟨(eA64u8 a1), false⟩)]⟩) rfl ?_
  obtain ⟨y36, hy37, hk38⟩ := bind_some h
  clear h
  refine a_join (emb := fun (s : Unit) => ⟨[], []⟩) (pre := fun s => (.inl s) = y36) ?_ ?_
  · rintro _ rfl
    have h := hk38
    refine a_st (σ' := ⟨[], []⟩) rfl ?_
    refine a_seq ?_
    refine a_region ?_
    refine a_val (v := (.bool true)) (u := []) rfl trivial rfl ?_
    refine a_nil ?_
    refine a_next rfl ?_
    refine a_ret ?_
    refine ⟨.inr rfl, ?_⟩
    rw [Try.results17]
    cases h
    exact ⟨_, _, _, _, _, rfl, trivial, .inl ⟨rfl, .inl rfl⟩, rfl, rfl⟩
  · have h := hy37
    refine a_seq ?_
    refine a_region ?_
    refine a_val (v := (.int .i64 0)) (u := []) rfl trivial rfl ?_
    refine a_nil ?_
    refine a_next (σ' := ⟨[(2, (.own 2 [] [])), (3, (.own 3 [] [])), (5, (.int .i64 0))], [(2, some ⟨(eA64u8 a0), false⟩), (3, some ⟨(eA64u8 a1), false⟩)]⟩) rfl ?_
    refine a_block ?_
    refine a_loop (emb := fun (s : Int) => ⟨[(2, (.own 2 [] [])), (3, (.own 3 [] [])), (5, (.int .i64 s))], [(2, some ⟨(eA64u8 a0), false⟩), (3, some ⟨(eA64u8 a1), false⟩)]⟩) (body := (fun s : Int => laws_eqPoly_l1 a0 a1 s)) (G := fun q => some q = some y36) h rfl ?_ rfl
    rintro X60 x49 x61 h hX62
    have h : laws_eqPoly_l1 a0 a1 x49 = some x61 := h
    refine a_st (σ' := ⟨[(2, (.own 2 [] [])), (3, (.own 3 [] [])), (5, (.int .i64 x49))], [(2, some ⟨(eA64u8 a0), false⟩), (3, some ⟨(eA64u8 a1), false⟩)]⟩) rfl ?_
    refine a_seq ?_
    refine a_seq ?_
    refine a_region ?_
    refine a_val (v := (.int .i64 x49)) (u := []) rfl trivial rfl ?_
    refine a_val (v := (.bool ((decide (x49 < 64))))) (u := []) rfl trivial rfl ?_
    refine a_nil ?_
    refine a_next (σ' := ⟨[(2, (.own 2 [] [])), (3, (.own 3 [] [])), (5, (.int .i64 x49)), (7, (.bool ((decide (x49 < 64)))))], [(2, some ⟨(eA64u8 a0), false⟩), (3, some ⟨(eA64u8 a1), false⟩)]⟩) rfl ?_
    cases hb63 : (decide (x49 < 64))
    · have h := ite_f hb63 h
      refine a_cond_f rfl ?_
      refine a_exit ?_
      refine t_exit ?_
      cases h
      have h := hX62
      refine t_exit ?_
      refine b_exit ?_
      exact j_leaf () (Option.some.inj h) rfl
    · have h := ite_t hb63 h
      refine a_cond_t rfl ?_
      refine a_skip ?_
      refine a_next (σ' := ⟨[(2, (.own 2 [] [])), (3, (.own 3 [] [])), (5, (.int .i64 x49))], [(2, some ⟨(eA64u8 a0), false⟩), (3, some ⟨(eA64u8 a1), false⟩)]⟩) rfl ?_
      refine a_seq ?_
      refine a_block ?_
      refine a_seq ?_
      refine a_draw [⟨[], [], [], []⟩, ⟨[2], [], [2], [0]⟩, ⟨[2], [], [], [0, 1]⟩, ⟨[], [], [], []⟩, ⟨[3], [], [3], [3]⟩, ⟨[3], [], [], [3, 4]⟩, ⟨[], [], [], [0, 1, 2, 3, 4, 5]⟩] (by kernel_rfl) ?_
      refine d_cons ?_
      refine a_val (v := (.int .i64 x49)) (u := []) rfl trivial rfl ?_
      refine d_next rfl ?_
      refine d_cons ?_
      obtain ⟨hc68, h⟩ := ifp_some h
      refine a_val (v := (.own 2 [x49.toNat] [x49.toNat * 1])) (u := []) rfl hc68 rfl ?_
      refine d_next rfl ?_
      refine d_cons ?_
      have hl69 : LdOk [x49.toNat] (eA64u8 a0) [x49.toNat * 1] 1 false (.int .u8 (rd a0.1 x49.toNat)) := (.arr (vlt a0 hc68) rfl (.nil rfl rfl rfl))
      refine a_val (v := (.int .u8 (rd a0.1 x49.toNat))) (u := []) (ld_own (i := ⟨.int .u8, 1, 1, (.int .u8 0)⟩) rfl rfl rfl hl69) hl69.c rfl ?_
      refine d_next rfl ?_
      refine d_cons ?_
      refine a_val (v := (.int .i64 x49)) (u := []) rfl trivial rfl ?_
      refine d_next rfl ?_
      refine d_cons ?_
      obtain ⟨hc70, h⟩ := ifp_some h
      refine a_val (v := (.own 3 [x49.toNat] [x49.toNat * 1])) (u := []) rfl hc70 rfl ?_
      refine d_next rfl ?_
      refine d_cons ?_
      have hl71 : LdOk [x49.toNat] (eA64u8 a1) [x49.toNat * 1] 1 false (.int .u8 (rd a1.1 x49.toNat)) := (.arr (vlt a1 hc70) rfl (.nil rfl rfl rfl))
      refine a_val (v := (.int .u8 (rd a1.1 x49.toNat))) (u := []) (ld_own (i := ⟨.int .u8, 1, 1, (.int .u8 0)⟩) rfl rfl rfl hl71) hl71.c rfl ?_
      refine d_next rfl ?_
      refine d_cons ?_
      refine a_val (v := (.bool (((rd a0.1 x49.toNat) != (rd a1.1 x49.toNat))))) (u := []) rfl trivial rfl ?_
      refine d_next rfl ?_
      refine d_nil ?_
      refine a_next (σ' := ⟨[(2, (.own 2 [] [])), (3, (.own 3 [] [])), (5, (.int .i64 x49)), (16, (.bool (((rd a0.1 x49.toNat) != (rd a1.1 x49.toNat)))))], [(2, some ⟨(eA64u8 a0), false⟩), (3, some ⟨(eA64u8 a1), false⟩)]⟩) rfl ?_
      cases hb72 : ((rd a0.1 x49.toNat) != (rd a1.1 x49.toNat))
      · have h := ite_f hb72 h
        refine a_cond_f rfl ?_
        refine a_skip ?_
        refine b_norm ?_
        refine a_next (σ' := ⟨[(2, (.own 2 [] [])), (3, (.own 3 [] [])), (5, (.int .i64 x49))], [(2, some ⟨(eA64u8 a0), false⟩), (3, some ⟨(eA64u8 a1), false⟩)]⟩) rfl ?_
        refine a_region ?_
        refine a_val (v := (.int .i64 x49)) (u := []) rfl trivial rfl ?_
        refine a_val (v := (.int .i64 (IntKind.i64.wrap (x49 + 1)))) (u := []) rfl trivial rfl ?_
        refine a_val (v := (.int .i64 (IntKind.i64.wrap (x49 + 1)))) (u := []) rfl trivial rfl ?_
        refine a_nil ?_
        cases h
        exact a_again rfl hX62
      · have h := ite_t hb72 h
        refine a_cond_t rfl ?_
        refine a_seq ?_
        refine a_region ?_
        refine a_val (v := (.bool false)) (u := []) rfl trivial rfl ?_
        refine a_nil ?_
        refine a_next rfl ?_
        refine a_ret ?_
        refine b_ret ?_
        refine t_ret ?_
        cases h
        have h := hX62
        refine t_ret ?_
        refine b_ret ?_
        refine t_ret ?_
        cases h
        have h := hk38
        refine ⟨.inr rfl, ?_⟩
        rw [Try.results17]
        cases h
        exact ⟨_, _, _, _, _, rfl, trivial, .inl ⟨rfl, .inl rfl⟩, rfl, rfl⟩
def laws_eqPolyS_c : ACode := (.seq (.region 0 [⟨some 4, .asg 0 (.const (.bool false)) 4, none, []⟩] false) (.seq (.seq (.region 1 [⟨some 6, .mov (.tmp 0), none, []⟩, ⟨some 7, .blt 0 .len [(.tmp 6)] [30], none, []⟩, ⟨some 8, .mov (.tmp 1), none, []⟩, ⟨some 9, .blt 0 .len [(.tmp 8)] [30], none, []⟩, ⟨some 10, .bin .neq 3 (.tmp 7) (.tmp 9), none, []⟩] false) (.cond (.tmp 10) (.seq (.region 2 [⟨some 4, .asg 0 (.const (.bool false)) 4, none, []⟩] false) .ret) .skip)) (.seq (.seq (.region 3 [⟨some 5, .asg 0 (.const (.int .i64 0)) 3, none, []⟩] false) (.block 0 (.loop (.seq (.seq (.region 4 [⟨some 11, .mov (.tmp 5), none, []⟩, ⟨some 12, .mov (.tmp 0), none, []⟩, ⟨some 13, .blt 0 .len [(.tmp 12)] [30], none, []⟩, ⟨some 14, .bin .lss 3 (.tmp 11) (.tmp 13), none, []⟩] false) (.cond (.tmp 14) .skip (.exit 0))) (.seq (.block 1 (.seq (.region 6 [⟨some 17, .mov (.tmp 0), none, []⟩, ⟨some 18, .mov (.tmp 5), none, []⟩, ⟨some 19, .indexAddr 30 (.tmp 17) (.tmp 18), none, [0, 1]⟩, ⟨some 20, .load 23 (.tmp 19), none, [2]⟩, ⟨some 21, .mov (.tmp 1), none, []⟩, ⟨some 22, .mov (.tmp 5), none, []⟩, ⟨some 23, .indexAddr 30 (.tmp 21) (.tmp 22), none, [4, 5]⟩, ⟨some 24, .load 23 (.tmp 23), none, [6]⟩, ⟨some 25, .call 0 (.func 17) [(.tmp 20), (.tmp 24)], none, [3, 7]⟩, ⟨some 26, .un .not (.tmp 25), none, [8]⟩] true) (.cond (.tmp 26) (.seq (.region 7 [⟨some 4, .asg 0 (.const (.bool false)) 4, none, []⟩] false) .ret) .skip))) (.region 5 [⟨some 15, .mov (.tmp 5), none, []⟩, ⟨some 16, .bin .add 3 (.tmp 15) (.const (.int .i64 1)), none, []⟩, ⟨some 5, .asg 0 (.tmp 16) 3, none, []⟩] false)))))) (.seq (.region 8 [⟨some 4, .asg 0 (.const (.bool true)) 4, none, []⟩] false) .ret))))
def laws_eqPolyS_L : Live := [(0, [0, 1]), (1, [0, 1]), (2, []), (3, [0, 1]), (4, [0, 1, 5]), (5, [0, 1, 5]), (6, [0, 1, 5]), (7, []), (8, []), (100010, [0, 1, 10]), (100014, [0, 1, 5, 14]), (100026, [0, 1, 5, 26])]
theorem laws_eqPolyS_body : Try.f23.body = some (Try.f23.body.getD .skip) := by kernel_rfl
theorem laws_eqPolyS_strip : strip [] (Try.f23.body.getD .skip) = laws_eqPolyS_c := by kernel_rfl
noncomputable def laws_eqPolyS_l1 (a0 : (List (Vec Int 64))) (a1 : (List (Vec Int 64))) (x66 : Int) : Option (Int ⊕ (Unit ⊕ Bool)) :=
  (if (decide (x66 < (a0.length : Int))) then (ifp (0 ≤ x66 ∧ x66 < ((a0.length : Nat) : Int)) ((ifp (0 ≤ x66 ∧ x66 < ((a1.length : Nat) : Int)) ((Option.bind (laws_eqPoly (rd a0 x66.toNat) (rd a1 x66.toNat)) fun r95 => (if (!r95) then (some (.inr (.inr false))) else (some (.inl (IntKind.i64.wrap (x66 + 1)))))))))) else (some (.inr (((.inl ()))))))
noncomputable def laws_eqPolyS (a0 : (List (Vec Int 64))) (a1 : (List (Vec Int 64))) : Option Bool :=
  (if ((a0.length : Int) != (a1.length : Int)) then (some false) else (Option.bind (α := (Unit ⊕ Bool)) ((loopM (fun s : Int => laws_eqPolyS_l1 a0 a1 s) 0)) fun z => match z with | .inl _ => (some true) | .inr r99 => (some r99)))
set_option maxHeartbeats 16000000 in
theorem laws_eqPolyS_ok (a0 : (List (Vec Int 64))) (a1 : (List (Vec Int 64))) (r : Bool) (h : laws_eqPolyS a0 a1 = some r) : Den Try.prog 23 [(eSA64u8 a0), (eSA64u8 a1)] { r := (.bool r) } := by
  refine den_of (rs := [(.bool r)]) (ac := laws_eqPolyS_c) (L := laws_eqPolyS_L) (n := 27) (m := []) good Try.func23 laws_eqPolyS_body (by kernel_rfl) Try.ntmps23 rfl rfl laws_eqPolyS_strip rfl rfl ?_
  refine a_st (σ' := ⟨[(0, (eSA64u8 a0)), (1, (eSA64u8 a1))], []⟩) rfl ?_
  unfold laws_eqPolyS_c
  refine a_seq ?_
  refine a_region ?_
  refine a_val (v := (.bool false)) (u := []) rfl trivial rfl ?_
  refine a_nil ?_
  refine a_next (σ' := ⟨[(0, (eSA64u8 a0)), (1, (eSA64u8 a1))], []⟩) rfl ?_
  refine a_seq ?_
  refine a_seq ?_
  refine a_region ?_
  refine a_val (v := (eSA64u8 a0)) (u := []) rfl trivial rfl ?_
  refine a_val (v := (.int .i64 (a0.length : Int))) (u := []) (len_run rfl rfl) trivial rfl ?_
  refine a_val (v := (eSA64u8 a1)) (u := []) rfl trivial rfl ?_
  refine a_val (v := (.int .i64 (a1.length : Int))) (u := []) (len_run rfl rfl) trivial rfl ?_
  refine a_val (v := (.bool (((a0.length : Int) != (a1.length : Int))))) (u := []) rfl trivial rfl ?_
  refine a_nil ?_
  refine a_next (σ' := ⟨[(0, (eSA64u8 a0)), (1, (eSA64u8 a1)), (10, (.bool (((a0.length : Int) != (a1.length : Int)))))], []⟩) rfl ?_
  cases hb1 : ((a0.length : Int) != (a1.length : Int))
  · have h := ite_f hb1 h
    refine a_cond_f rfl ?_
    refine a_skip ?_
    refine a_next (σ' := ⟨[(0, (eSA64u8 a0)), (1, (eSA64u8 a1))], []⟩) rfl ?_
    obtain ⟨y49, hy50, hk51⟩ := bind_some h
    clear h
    refine a_join (emb := fun (s : Unit) => ⟨[], []⟩) (pre := fun s => (.inl s) = y49) ?_ ?_
    · rintro _ rfl
      have h := hk51
      refine a_st (σ' := ⟨[], []⟩) rfl ?_
      refine a_seq ?_
      refine a_region ?_
      refine a_val (v := (.bool true)) (u := []) rfl trivial rfl ?_
      refine a_nil ?_
      refine a_next rfl ?_
      refine a_ret ?_
      refine ⟨.inr rfl, ?_⟩
      rw [Try.results23]
      cases h
      exact ⟨_, _, _, _, _, rfl, trivial, .inl ⟨rfl, .inl rfl⟩, rfl, rfl⟩
    · have h := hy50
      refine a_seq ?_
      refine a_region ?_
      refine a_val (v := (.int .i64 0)) (u := []) rfl trivial rfl ?_
      refine a_nil ?_
      refine a_next (σ' := ⟨[(0, (eSA64u8 a0)), (1, (eSA64u8 a1)), (5, (.int .i64 0))], []⟩) rfl ?_
      refine a_block ?_
      refine a_loop (emb := fun (s : Int) => ⟨[(0, (eSA64u8 a0)), (1, (eSA64u8 a1)), (5, (.int .i64 s))], []⟩) (body := (fun s : Int => laws_eqPolyS_l1 a0 a1 s)) (G := fun q => some q = some y49) h rfl ?_ rfl
      rintro X81 x66 x82 h hX83
      have h : laws_eqPolyS_l1 a0 a1 x66 = some x82 := h
      refine a_st (σ' := ⟨[(0, (eSA64u8 a0)), (1, (eSA64u8 a1)), (5, (.int .i64 x66))], []⟩) rfl ?_
      refine a_seq ?_
      refine a_seq ?_
      refine a_region ?_
      refine a_val (v := (.int .i64 x66)) (u := []) rfl trivial rfl ?_
      refine a_val (v := (eSA64u8 a0)) (u := []) rfl trivial rfl ?_
      refine a_val (v := (.int .i64 (a0.length : Int))) (u := []) (len_run rfl rfl) trivial rfl ?_
      refine a_val (v := (.bool ((decide (x66 < (a0.length : Int)))))) (u := []) rfl trivial rfl ?_
      refine a_nil ?_
      refine a_next (σ' := ⟨[(0, (eSA64u8 a0)), (1, (eSA64u8 a1)), (5, (.int .i64 x66)), (14, (.bool ((decide (x66 < (a0.length : Int))))))], []⟩) rfl ?_
      cases hb84 : (decide (x66 < (a0.length : Int)))
      · have h := ite_f hb84 h
        refine a_cond_f rfl ?_
        refine a_exit ?_
        refine t_exit ?_
        cases h
        have h := hX83
        refine t_exit ?_
        refine b_exit ?_
        exact j_leaf () (Option.some.inj h) rfl
      · have h := ite_t hb84 h
        refine a_cond_t rfl ?_
        refine a_skip ?_
        refine a_next (σ' := ⟨[(0, (eSA64u8 a0)), (1, (eSA64u8 a1)), (5, (.int .i64 x66))], []⟩) rfl ?_
        refine a_seq ?_
        refine a_block ?_
        refine a_seq ?_
        refine a_draw [⟨[], [], [], []⟩, ⟨[], [], [], []⟩, ⟨[], [], [], [0, 1]⟩, ⟨[], [], [], [0, 1, 2]⟩, ⟨[], [], [], []⟩, ⟨[], [], [], []⟩, ⟨[], [], [], [4, 5]⟩, ⟨[], [], [], [4, 5, 6]⟩, ⟨[], [], [], [0, 1, 2, 3, 4, 5, 6, 7]⟩, ⟨[], [], [], [0, 1, 2, 3, 4, 5, 6, 7, 8]⟩] (by kernel_rfl) ?_
        refine d_cons ?_
        refine a_val (v := (eSA64u8 a0)) (u := []) rfl trivial rfl ?_
        refine d_next rfl ?_
        refine d_cons ?_
        refine a_val (v := (.int .i64 x66)) (u := []) rfl trivial rfl ?_
        refine d_next rfl ?_
        refine d_cons ?_
        obtain ⟨hc91, h⟩ := ifp_some h
        refine a_val (v := (.ref (.row 64 (a0.map eA64u8)) [x66.toNat] [x66.toNat * 64])) (u := []) rfl (lmap hc91) rfl ?_
        refine d_next rfl ?_
        refine d_cons ?_
        have hl92 : LdOk [x66.toNat] (.row 64 (a0.map eA64u8)) [x66.toNat * 64] 64 true (eA64u8 (rd a0 x66.toNat)) := (.row (llt hc91) rfl (.nil rfl rfl rfl))
        refine a_val (v := (eA64u8 (rd a0 x66.toNat))) (u := []) (ld_ref (i := ⟨.arr 64 5, 64, 64, (eA64u8 (vrep 64 (0 : Int)))⟩) rfl rfl hl92) hl92.c rfl ?_
        refine d_next rfl ?_
        refine d_cons ?_
        refine a_val (v := (eSA64u8 a1)) (u := []) rfl trivial rfl ?_
        refine d_next rfl ?_
        refine d_cons ?_
        refine a_val (v := (.int .i64 x66)) (u := []) rfl trivial rfl ?_
        refine d_next rfl ?_
        refine d_cons ?_
        obtain ⟨hc93, h⟩ := ifp_some h
        refine a_val (v := (.ref (.row 64 (a1.map eA64u8)) [x66.toNat] [x66.toNat * 64])) (u := []) rfl (lmap hc93) rfl ?_
        refine d_next rfl ?_
        refine d_cons ?_
        have hl94 : LdOk [x66.toNat] (.row 64 (a1.map eA64u8)) [x66.toNat * 64] 64 true (eA64u8 (rd a1 x66.toNat)) := (.row (llt hc93) rfl (.nil rfl rfl rfl))
        refine a_val (v := (eA64u8 (rd a1 x66.toNat))) (u := []) (ld_ref (i := ⟨.arr 64 5, 64, 64, (eA64u8 (vrep 64 (0 : Int)))⟩) rfl rfl hl94) hl94.c rfl ?_
        refine d_next rfl ?_
        refine d_cons ?_
        obtain ⟨r95, hr96, h⟩ := bind_some h
        refine a_call (args := [(eA64u8 (rd a0 x66.toNat)), (eA64u8 (rd a1 x66.toNat))]) (u := []) (r := (.bool r95)) rfl rfl (laws_eqPoly_ok (rd a0 x66.toNat) (rd a1 x66.toNat) r95 hr96) rfl ?_
        refine d_next rfl ?_
        refine d_cons ?_
        refine a_val (v := (.bool (!r95))) (u := []) rfl trivial rfl ?_
        refine d_next rfl ?_
        refine d_nil ?_
        refine a_next (σ' := ⟨[(0, (eSA64u8 a0)), (1, (eSA64u8 a1)), (5, (.int .i64 x66)), (26, (.bool (!r95)))], []⟩) rfl ?_
        cases hb97 : (!r95)
        · have h := ite_f hb97 h
          refine a_cond_f rfl ?_
          refine a_skip ?_
          refine b_norm ?_
          refine a_next (σ' := ⟨[(0, (eSA64u8 a0)), (1, (eSA64u8 a1)), (5, (.int .i64 x66))], []⟩) rfl ?_
          refine a_region ?_
          refine a_val (v := (.int .i64 x66)) (u := []) rfl trivial rfl ?_
          refine a_val (v := (.int .i64 (IntKind.i64.wrap (x66 + 1)))) (u := []) rfl trivial rfl ?_
          refine a_val (v := (.int .i64 (IntKind.i64.wrap (x66 + 1)))) (u := []) rfl trivial rfl ?_
          refine a_nil ?_
          cases h
          exact a_again rfl hX83
        · have h := ite_t hb97 h
          refine a_cond_t rfl ?_
          refine a_seq ?_
          refine a_region ?_
          refine a_val (v := (.bool false)) (u := []) rfl trivial rfl ?_
          refine a_nil ?_
          refine a_next rfl ?_
          refine a_ret ?_
          refine b_ret ?_
          refine t_ret ?_
          cases h
          have h := hX83
          refine t_ret ?_
          refine b_ret ?_
          refine t_ret ?_
          cases h
          have h := hk51
          refine ⟨.inr rfl, ?_⟩
          rw [Try.results23]
          cases h
          exact ⟨_, _, _, _, _, rfl, trivial, .inl ⟨rfl, .inl rfl⟩, rfl, rfl⟩
  · have h := ite_t hb1 h
    refine a_cond_t rfl ?_
    refine a_seq ?_
    refine a_region ?_
    refine a_val (v := (.bool false)) (u := []) rfl trivial rfl ?_
    refine a_nil ?_
    refine a_next rfl ?_
    refine a_ret ?_
    refine t_ret ?_
    refine ⟨.inr rfl, ?_⟩
    rw [Try.results23]
    cases h
    exact ⟨_, _, _, _, _, rfl, trivial, .inl ⟨rfl, .inl rfl⟩, rfl, rfl⟩
def laws_markPolyS_of_mut_c : ACode := (.seq (.region 0 [⟨some 4, .asg 0 (.const (.int .i64 0)) 3, none, []⟩] false) (.seq (.seq (.region 1 [⟨some 5, .asg 0 (.const (.int .i64 0)) 3, none, []⟩] false) (.block 0 (.loop (.seq (.seq (.region 2 [⟨some 7, .mov (.tmp 5), none, []⟩, ⟨some 8, .mov (.tmp 0), none, []⟩, ⟨some 9, .blt 0 .len [(.tmp 8)] [30], none, []⟩, ⟨some 10, .bin .lss 3 (.tmp 7) (.tmp 9), none, []⟩] false) (.cond (.tmp 10) .skip (.exit 0))) (.seq (.block 1 (.seq (.region 4 [⟨some 6, .asg 0 (.const (.int .i64 0)) 3, none, []⟩] false) (.block 2 (.loop (.seq (.seq (.region 5 [⟨some 13, .mov (.tmp 6), none, []⟩, ⟨some 14, .bin .lss 3 (.tmp 13) (.const (.int .i64 64)), none, []⟩] false) (.cond (.tmp 14) .skip (.exit 2))) (.seq (.block 3 (.seq (.region 7 [⟨some 17, .mov (.tmp 0), none, []⟩, ⟨some 18, .mov (.tmp 5), none, []⟩, ⟨some 19, .mov (.tmp 6), none, []⟩, ⟨some 20, .mov (.tmp 1), none, []⟩, ⟨some 21, .conv 3 5 (.tmp 20), none, []⟩, ⟨some 22, .indexAddr 30 (.tmp 17) (.tmp 18), none, []⟩, ⟨some 23, .indexAddr 23 (.tmp 22) (.tmp 19), none, []⟩, ⟨none, .store 5 (.tmp 23) (.tmp 21), none, []⟩] false) (.region 8 [⟨some 24, .mov (.tmp 1), none, []⟩, ⟨some 25, .bin .add 3 (.tmp 24) (.const (.int .i64 1)), none, []⟩, ⟨some 1, .asg 0 (.tmp 25) 3, none, []⟩] false))) (.region 6 [⟨some 15, .mov (.tmp 6), none, []⟩, ⟨some 16, .bin .add 3 (.tmp 15) (.const (.int .i64 1)), none, []⟩, ⟨some 6, .asg 0 (.tmp 16) 3, none, []⟩] false))))))) (.region 3 [⟨some 11, .mov (.tmp 5), none, []⟩, ⟨some 12, .bin .add 3 (.tmp 11) (.const (.int .i64 1)), none, []⟩, ⟨some 5, .asg 0 (.tmp 12) 3, none, []⟩] false)))))) (.seq (.region 9 [⟨some 26, .mov (.tmp 1), none, []⟩, ⟨some 4, .asg 0 (.tmp 26) 3, none, []⟩] false) .ret)))
def laws_markPolyS_of_mut_L : Live := [(0, [0, 1]), (1, [0, 1]), (2, [0, 1, 5]), (3, [0, 1, 5]), (4, [0, 1, 5]), (5, [0, 1, 5, 6]), (6, [0, 1, 5, 6]), (7, [0, 1, 5, 6]), (8, [0, 1, 5, 6]), (9, [1]), (100010, [0, 1, 5, 10]), (100014, [0, 1, 5, 6, 14])]
theorem laws_markPolyS_of_mut_body : Try.f24.body = some (Try.f24.body.getD .skip) := by kernel_rfl
theorem laws_markPolyS_of_mut_strip : strip [] (Try.f24.body.getD .skip) = laws_markPolyS_of_mut_c := by kernel_rfl
noncomputable def laws_markPolyS_of_mut_l2 (x190 : Int) (x268 : Int) (x269 : Int) (x270 : (List (Vec Int 64))) : Option ((Int × Int × (List (Vec Int 64))) ⊕ (Int × (List (Vec Int 64)))) :=
  (if (decide (x269 < 64)) then (ifp (0 ≤ x190 ∧ x190 < ((x270.length : Nat) : Int)) ((ifp (0 ≤ x269 ∧ x269 < ((64 : Nat) : Int)) ((some (.inl ((IntKind.i64.wrap (x268 + 1), IntKind.i64.wrap (x269 + 1), (x270.set x190.toNat ((vset (rd x270 x190.toNat) x269.toNat (IntKind.u8.wrap x268)))))))))))) else (some (.inr (x268, x270))))
noncomputable def laws_markPolyS_of_mut_l1  (x189 : Int) (x190 : Int) (x191 : (List (Vec Int 64))) : Option ((Int × Int × (List (Vec Int 64))) ⊕ (Int × (List (Vec Int 64)))) :=
  (if (decide (x190 < (x191.length : Int))) then (Option.bind (α := (Int × (List (Vec Int 64)))) ((loopM (fun s : (Int × Int × (List (Vec Int 64))) => laws_markPolyS_of_mut_l2 x190 s.1 s.2.1 s.2.2) (x189, 0, x191))) fun ⟨x259, x260⟩ => (some (.inl ((x259, IntKind.i64.wrap (x190 + 1), x260))))) else (some (.inr (x189, x191))))
noncomputable def laws_markPolyS_of_mut (a0 : (List (Vec Int 64))) (a1 : Int) : Option (Int × (List (Vec Int 64))) :=
  (Option.bind (α := (Int × (List (Vec Int 64)))) ((loopM (fun s : (Int × Int × (List (Vec Int 64))) => laws_markPolyS_of_mut_l1 s.1 s.2.1 s.2.2) (a1, 0, a0))) fun ⟨x140, x141⟩ => (some (x140, x141)))
set_option maxHeartbeats 16000000 in
theorem laws_markPolyS_of_mut_ok (a0 : (List (Vec Int 64))) (a1 : Int) (r : (Int × (List (Vec Int 64)))) (h : laws_markPolyS_of_mut a0 a1 = some r) : Den Try.prog 24 [(.mutsl 64 (a0.map eA64u8)), (.int .i64 a1)] { r := (.int .i64 r.1), ms := [(.row 64 (r.2.map eA64u8))], fs := [] } := by
  refine den_ofX (rs := [(.int .i64 r.1)]) (ac := laws_markPolyS_of_mut_c) (L := laws_markPolyS_of_mut_L) (n := 27) (m := []) good Try.func24 laws_markPolyS_of_mut_body (by kernel_rfl) Try.ntmps24 rfl rfl laws_markPolyS_of_mut_strip rfl ?_
  refine a_st (σ' := ⟨[(0, (.osl 1000000)), (1, (.int .i64 a1))], [(1000000, some ⟨(.row 64 (a0.map eA64u8)), false⟩)]⟩) rfl ?_
  unfold laws_markPolyS_of_mut_c
  refine a_seq ?_
  refine a_region ?_
  refine a_val (v := (.int .i64 0)) (u := []) rfl trivial rfl ?_
  refine a_nil ?_
  refine a_next (σ' := ⟨[(0, (.osl 1000000)), (1, (.int .i64 a1))], [(1000000, some ⟨(.row 64 (a0.map eA64u8)), false⟩)]⟩) rfl ?_
  obtain ⟨y142, hy143, hk144⟩ := bind_some h
  clear h
  refine a_join (emb := fun (s : (Int × (List (Vec Int 64)))) => ⟨[(1, (.int .i64 s.1))], [(1000000, some ⟨(.row 64 (s.2.map eA64u8)), false⟩)]⟩) (pre := fun s => s = y142) ?_ ?_
  · rintro ⟨x140, x141⟩ rfl
    have h := hk144
    refine a_st (σ' := ⟨[(1, (.int .i64 x140))], [(1000000, some ⟨(.row 64 (x141.map eA64u8)), false⟩)]⟩) rfl ?_
    refine a_seq ?_
    refine a_region ?_
    refine a_val (v := (.int .i64 x140)) (u := []) rfl trivial rfl ?_
    refine a_val (v := (.int .i64 x140)) (u := []) rfl trivial rfl ?_
    refine a_nil ?_
    refine a_next rfl ?_
    refine a_ret ?_
    refine ⟨.inr rfl, ?_⟩
    rw [Try.results24]
    cases h
    exact ⟨[], ⟨_, _, _, _, _, rfl, trivial, rfl, .inl ⟨rfl, .inl rfl, ⟨rfl, rfl, rfl⟩⟩⟩, rfl, ⟨_, _, rfl, rfl, rfl⟩⟩
  · have h := hy143
    refine a_seq ?_
    refine a_region ?_
    refine a_val (v := (.int .i64 0)) (u := []) rfl trivial rfl ?_
    refine a_nil ?_
    refine a_next (σ' := ⟨[(0, (.osl 1000000)), (1, (.int .i64 a1)), (5, (.int .i64 0))], [(1000000, some ⟨(.row 64 (a0.map eA64u8)), false⟩)]⟩) rfl ?_
    refine a_block ?_
    refine a_loop (emb := fun (s : (Int × Int × (List (Vec Int 64)))) => ⟨[(0, (.osl 1000000)), (1, (.int .i64 s.1)), (5, (.int .i64 s.2.1))], [(1000000, some ⟨(.row 64 (s.2.2.map eA64u8)), false⟩)]⟩) (body := (fun s : (Int × Int × (List (Vec Int 64))) => laws_markPolyS_of_mut_l1 s.1 s.2.1 s.2.2)) (G := fun q => some q = some y142) h rfl ?_ rfl
    rintro X236 ⟨x189, x190, x191⟩ x237 h hX238
    have h : laws_markPolyS_of_mut_l1 x189 x190 x191 = some x237 := h
    refine a_st (σ' := ⟨[(0, (.osl 1000000)), (1, (.int .i64 x189)), (5, (.int .i64 x190))], [(1000000, some ⟨(.row 64 (x191.map eA64u8)), false⟩)]⟩) rfl ?_
    refine a_seq ?_
    refine a_seq ?_
    refine a_region ?_
    refine a_val (v := (.int .i64 x190)) (u := []) rfl trivial rfl ?_
    refine a_val (v := (.osl 1000000)) (u := []) rfl trivial rfl ?_
    refine a_val (v := (.int .i64 (x191.length : Int))) (u := []) (leno_run rfl rfl rfl) trivial rfl ?_
    refine a_val (v := (.bool ((decide (x190 < (x191.length : Int)))))) (u := []) rfl trivial rfl ?_
    refine a_nil ?_
    refine a_next (σ' := ⟨[(0, (.osl 1000000)), (1, (.int .i64 x189)), (5, (.int .i64 x190)), (10, (.bool ((decide (x190 < (x191.length : Int))))))], [(1000000, some ⟨(.row 64 (x191.map eA64u8)), false⟩)]⟩) rfl ?_
    cases hb239 : (decide (x190 < (x191.length : Int)))
    · have h := ite_f hb239 h
      refine a_cond_f rfl ?_
      refine a_exit ?_
      refine t_exit ?_
      cases h
      have h := hX238
      refine t_exit ?_
      refine b_exit ?_
      exact j_leaf (x189, x191) (Option.some.inj h) rfl
    · have h := ite_t hb239 h
      refine a_cond_t rfl ?_
      refine a_skip ?_
      refine a_next (σ' := ⟨[(0, (.osl 1000000)), (1, (.int .i64 x189)), (5, (.int .i64 x190))], [(1000000, some ⟨(.row 64 (x191.map eA64u8)), false⟩)]⟩) rfl ?_
      obtain ⟨y261, hy262, hk263⟩ := bind_some h
      clear h
      refine a_join (emb := fun (s : (Int × (List (Vec Int 64)))) => ⟨[(0, (.osl 1000000)), (1, (.int .i64 s.1)), (5, (.int .i64 x190))], [(1000000, some ⟨(.row 64 (s.2.map eA64u8)), false⟩)]⟩) (pre := fun s => s = y261) ?_ ?_
      · rintro ⟨x259, x260⟩ rfl
        have h := hk263
        refine a_st (σ' := ⟨[(0, (.osl 1000000)), (1, (.int .i64 x259)), (5, (.int .i64 x190))], [(1000000, some ⟨(.row 64 (x260.map eA64u8)), false⟩)]⟩) rfl ?_
        refine a_region ?_
        refine a_val (v := (.int .i64 x190)) (u := []) rfl trivial rfl ?_
        refine a_val (v := (.int .i64 (IntKind.i64.wrap (x190 + 1)))) (u := []) rfl trivial rfl ?_
        refine a_val (v := (.int .i64 (IntKind.i64.wrap (x190 + 1)))) (u := []) rfl trivial rfl ?_
        refine a_nil ?_
        cases h
        exact a_again rfl hX238
      · have h := hy262
        refine a_block ?_
        refine a_seq ?_
        refine a_region ?_
        refine a_val (v := (.int .i64 0)) (u := []) rfl trivial rfl ?_
        refine a_nil ?_
        refine a_next (σ' := ⟨[(0, (.osl 1000000)), (1, (.int .i64 x189)), (5, (.int .i64 x190)), (6, (.int .i64 0))], [(1000000, some ⟨(.row 64 (x191.map eA64u8)), false⟩)]⟩) rfl ?_
        refine a_block ?_
        refine a_loop (emb := fun (s : (Int × Int × (List (Vec Int 64)))) => ⟨[(0, (.osl 1000000)), (1, (.int .i64 s.1)), (5, (.int .i64 x190)), (6, (.int .i64 s.2.1))], [(1000000, some ⟨(.row 64 (s.2.2.map eA64u8)), false⟩)]⟩) (body := (fun s : (Int × Int × (List (Vec Int 64))) => laws_markPolyS_of_mut_l2 x190 s.1 s.2.1 s.2.2)) (G := fun q => some q = some y261) h rfl ?_ rfl
        rintro X275 ⟨x268, x269, x270⟩ x276 h hX277
        have h : laws_markPolyS_of_mut_l2 x190 x268 x269 x270 = some x276 := h
        refine a_st (σ' := ⟨[(0, (.osl 1000000)), (1, (.int .i64 x268)), (5, (.int .i64 x190)), (6, (.int .i64 x269))], [(1000000, some ⟨(.row 64 (x270.map eA64u8)), false⟩)]⟩) rfl ?_
        refine a_seq ?_
        refine a_seq ?_
        refine a_region ?_
        refine a_val (v := (.int .i64 x269)) (u := []) rfl trivial rfl ?_
        refine a_val (v := (.bool ((decide (x269 < 64))))) (u := []) rfl trivial rfl ?_
        refine a_nil ?_
        refine a_next (σ' := ⟨[(0, (.osl 1000000)), (1, (.int .i64 x268)), (5, (.int .i64 x190)), (6, (.int .i64 x269)), (14, (.bool ((decide (x269 < 64)))))], [(1000000, some ⟨(.row 64 (x270.map eA64u8)), false⟩)]⟩) rfl ?_
        cases hb278 : (decide (x269 < 64))
        · have h := ite_f hb278 h
          refine a_cond_f rfl ?_
          refine a_exit ?_
          refine t_exit ?_
          cases h
          have h := hX277
          refine t_exit ?_
          refine b_exit ?_
          refine b_norm ?_
          exact j_leaf (x268, x270) (Option.some.inj h) rfl
        · have h := ite_t hb278 h
          refine a_cond_t rfl ?_
          refine a_skip ?_
          refine a_next (σ' := ⟨[(0, (.osl 1000000)), (1, (.int .i64 x268)), (5, (.int .i64 x190)), (6, (.int .i64 x269))], [(1000000, some ⟨(.row 64 (x270.map eA64u8)), false⟩)]⟩) rfl ?_
          refine a_seq ?_
          refine a_block ?_
          refine a_seq ?_
          refine a_region ?_
          refine a_val (v := (.osl 1000000)) (u := []) rfl trivial rfl ?_
          refine a_val (v := (.int .i64 x190)) (u := []) rfl trivial rfl ?_
          refine a_val (v := (.int .i64 x269)) (u := []) rfl trivial rfl ?_
          refine a_val (v := (.int .i64 x268)) (u := []) rfl trivial rfl ?_
          refine a_val (v := (.int .u8 (IntKind.u8.wrap x268))) (u := []) rfl trivial rfl ?_
          obtain ⟨hc279, h⟩ := ifp_some h
          refine a_val (v := (.own 1000000 [x190.toNat] [x190.toNat * 64])) (u := []) rfl (lmap hc279) rfl ?_
          obtain ⟨hc280, h⟩ := ifp_some h
          refine a_val (v := (.own 1000000 [x190.toNat, x269.toNat] [x190.toNat * 64, x269.toNat * 1])) (u := []) rfl hc280 rfl ?_
          have hs281 : StOk [x190.toNat, x269.toNat] (.row 64 (x270.map eA64u8)) [x190.toNat * 64, x269.toNat * 1] 1 (.int .u8 (IntKind.u8.wrap x268)) (.row 64 (((x270.set x190.toNat ((vset (rd x270 x190.toNat) x269.toNat (IntKind.u8.wrap x268))))).map eA64u8)) := (.row (y := (vset (rd x270 x190.toNat) x269.toNat (IntKind.u8.wrap x268))) (llt hc279) rfl (.arr (y := IntKind.u8.wrap x268) (vlt (rd x270 x190.toNat) hc280) rfl (.nil rfl rfl rfl rfl)))
          refine a_val (v := .top) (u := [(1000000, some ⟨(.row 64 (((x270.set x190.toNat ((vset (rd x270 x190.toNat) x269.toNat (IntKind.u8.wrap x268))))).map eA64u8)), false⟩)]) (st_own (i := ⟨.int .u8, 1, 1, (.int .u8 0)⟩) rfl rfl (fun _ => rfl) rfl hs281) (hs281.c rfl) rfl ?_
          refine a_nil ?_
          refine a_next (σ' := ⟨[(0, (.osl 1000000)), (1, (.int .i64 x268)), (5, (.int .i64 x190)), (6, (.int .i64 x269))], [(1000000, some ⟨(.row 64 (((x270.set x190.toNat ((vset (rd x270 x190.toNat) x269.toNat (IntKind.u8.wrap x268))))).map eA64u8)), false⟩)]⟩) rfl ?_
          refine a_region ?_
          refine a_val (v := (.int .i64 x268)) (u := []) rfl trivial rfl ?_
          refine a_val (v := (.int .i64 (IntKind.i64.wrap (x268 + 1)))) (u := []) rfl trivial rfl ?_
          refine a_val (v := (.int .i64 (IntKind.i64.wrap (x268 + 1)))) (u := []) rfl trivial rfl ?_
          refine a_nil ?_
          refine b_norm ?_
          refine a_next (σ' := ⟨[(0, (.osl 1000000)), (1, (.int .i64 (IntKind.i64.wrap (x268 + 1)))), (5, (.int .i64 x190)), (6, (.int .i64 x269))], [(1000000, some ⟨(.row 64 (((x270.set x190.toNat ((vset (rd x270 x190.toNat) x269.toNat (IntKind.u8.wrap x268))))).map eA64u8)), false⟩)]⟩) rfl ?_
          refine a_region ?_
          refine a_val (v := (.int .i64 x269)) (u := []) rfl trivial rfl ?_
          refine a_val (v := (.int .i64 (IntKind.i64.wrap (x269 + 1)))) (u := []) rfl trivial rfl ?_
          refine a_val (v := (.int .i64 (IntKind.i64.wrap (x269 + 1)))) (u := []) rfl trivial rfl ?_
          refine a_nil ?_
          cases h
          exact a_again rfl hX277
end Go.Proofs.Ytgodhgbnjlflmaa
