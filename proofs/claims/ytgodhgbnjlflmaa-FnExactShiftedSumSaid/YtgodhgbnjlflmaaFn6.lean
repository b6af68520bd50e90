/- Functions of the program: plain Lean functions, and that the program computes them. Printed by gen.py. -/
import Derived.Test.YtgodhgbnjlflmaaFnT
import Derived.Test.YtgodhgbnjlflmaaFn3
import Derived.Test.YtgodhgbnjlflmaaFn4
import Derived.Test.YtgodhgbnjlflmaaFn5
namespace Go.Proofs.Ytgodhgbnjlflmaa
open Go.Abs Go.Proofs
set_option linter.unusedSimpArgs false
set_option linter.unusedVariables false
attribute [local irreducible] Abs.acode Abs.aops Abs.aopsT Abs.thenK Abs.blockK

def impl_prime_divide_c : ACode := (.seq (.region 0 [⟨some 6, .asg 1 (.const (.slice none 0 0)) 64, none, []⟩, ⟨some 7, .asg 1 (.const (.slice none 0 0)) 64, none, []⟩] false) (.seq (.region 1 [⟨some 15, .mov (.tmp 1), none, []⟩, ⟨some 16, .call 0 (.func 121) [(.tmp 15)], none, []⟩, ⟨some 8, .asg 2 (.tmp 16) 64, none, []⟩] false) (.seq (.seq (.region 2 [⟨some 17, .mov (.tmp 1), none, []⟩, ⟨some 18, .blt 0 .len [(.tmp 17)] [64], none, []⟩, ⟨some 19, .mov (.tmp 2), none, []⟩, ⟨some 20, .blt 0 .len [(.tmp 19)] [64], none, []⟩, ⟨some 21, .bin .lss 3 (.tmp 18) (.tmp 20), none, []⟩] false) (.cond (.tmp 21) (.seq (.region 3 [⟨some 22, .mov (.tmp 8), none, []⟩, ⟨some 6, .asg 1 (.const (.slice none 0 0)) 64, none, []⟩, ⟨some 7, .asg 1 (.tmp 22) 64, none, []⟩] false) .ret) .skip)) (.seq (.region 4 [⟨some 23, .mov (.tmp 1), none, []⟩, ⟨some 24, .blt 0 .len [(.tmp 23)] [64], none, []⟩, ⟨some 25, .mov (.tmp 2), none, []⟩, ⟨some 26, .blt 0 .len [(.tmp 25)] [64], none, []⟩, ⟨some 27, .bin .sub 3 (.tmp 24) (.tmp 26), none, []⟩, ⟨some 28, .bin .add 3 (.tmp 27) (.const (.int .i64 1)), none, []⟩, ⟨some 29, .mkslice 64 (.tmp 28) (.tmp 28), none, []⟩, ⟨some 9, .asg 2 (.tmp 29) 64, none, []⟩] false) (.seq (.region 5 [⟨some 30, .mov (.tmp 0), none, []⟩, ⟨some 31, .mov (.tmp 2), none, []⟩, ⟨some 32, .call 0 (.func 123) [(.tmp 31)], none, []⟩, ⟨some 33, .call 0 (.func 122) [(.tmp 30), (.tmp 32)], none, []⟩, ⟨some 10, .asg 0 (.tmp 33) 2, none, []⟩] false) (.seq (.seq (.region 6 [⟨some 34, .mov (.tmp 9), none, []⟩, ⟨some 35, .blt 0 .len [(.tmp 34)] [64], none, []⟩, ⟨some 36, .bin .sub 3 (.tmp 35) (.const (.int .i64 1)), none, []⟩, ⟨some 11, .asg 0 (.tmp 36) 3, none, []⟩] false) (.block 0 (.loop (.seq (.seq (.region 7 [⟨some 37, .mov (.tmp 11), none, []⟩, ⟨some 38, .bin .geq 3 (.tmp 37) (.const (.int .i64 0)), none, []⟩] false) (.cond (.tmp 38) .skip (.exit 0))) (.seq (.block 1 (.seq (.region 9 [⟨some 41, .mov (.tmp 8), none, []⟩, ⟨some 42, .mov (.tmp 11), none, []⟩, ⟨some 43, .mov (.tmp 2), none, []⟩, ⟨some 44, .blt 0 .len [(.tmp 43)] [64], none, []⟩, ⟨some 45, .bin .add 3 (.tmp 42) (.tmp 44), none, []⟩, ⟨some 46, .bin .sub 3 (.tmp 45) (.const (.int .i64 1)), none, []⟩, ⟨some 47, .indexAddr 64 (.tmp 41) (.tmp 46), none, []⟩, ⟨some 48, .load 2 (.tmp 47), none, []⟩, ⟨some 49, .mov (.tmp 10), none, []⟩, ⟨some 50, .bin .mul 2 (.tmp 48) (.tmp 49), none, []⟩, ⟨some 51, .mov (.tmp 0), none, []⟩, ⟨some 52, .bin .rem 2 (.tmp 50) (.tmp 51), none, []⟩, ⟨some 12, .asg 0 (.tmp 52) 2, none, []⟩] false) (.seq (.region 10 [⟨some 53, .mov (.tmp 9), none, []⟩, ⟨some 54, .mov (.tmp 11), none, []⟩, ⟨some 55, .mov (.tmp 12), none, []⟩, ⟨some 56, .indexAddr 64 (.tmp 53) (.tmp 54), none, []⟩, ⟨none, .store 2 (.tmp 56) (.tmp 55), none, []⟩] false) (.seq (.region 11 [⟨some 57, .mov (.tmp 2), none, []⟩, ⟨some 58, .blt 0 .len [(.tmp 57)] [64], none, []⟩, ⟨some 59, .mov (.const (.int .i64 0)), none, []⟩] false) (.block 2 (.loop (.seq (.region 12 [⟨some 60, .bin .lss 3 (.tmp 59) (.tmp 58), none, []⟩] false) (.seq (.cond (.tmp 60) .skip (.exit 2)) (.seq (.block 3 (.seq (.region 13 [⟨some 61, .mov (.tmp 59), none, []⟩, ⟨some 62, .indexAddr 64 (.tmp 57) (.tmp 59), none, []⟩, ⟨some 63, .load 2 (.tmp 62), none, []⟩, ⟨some 13, .asg 0 (.tmp 61) 3, none, []⟩, ⟨some 14, .asg 0 (.tmp 63) 2, none, []⟩] false) (.region 14 [⟨some 64, .mov (.tmp 8), none, []⟩, ⟨some 65, .mov (.tmp 11), none, []⟩, ⟨some 66, .mov (.tmp 13), none, []⟩, ⟨some 67, .bin .add 3 (.tmp 65) (.tmp 66), none, []⟩, ⟨some 68, .mov (.tmp 0), none, []⟩, ⟨some 69, .mov (.tmp 8), none, []⟩, ⟨some 70, .mov (.tmp 11), none, []⟩, ⟨some 71, .mov (.tmp 13), none, []⟩, ⟨some 72, .bin .add 3 (.tmp 70) (.tmp 71), none, []⟩, ⟨some 73, .indexAddr 64 (.tmp 69) (.tmp 72), none, []⟩, ⟨some 74, .load 2 (.tmp 73), none, []⟩, ⟨some 75, .mov (.tmp 12), none, []⟩, ⟨some 76, .mov (.tmp 14), none, []⟩, ⟨some 77, .bin .mul 2 (.tmp 75) (.tmp 76), none, []⟩, ⟨some 78, .bin .sub 2 (.tmp 74) (.tmp 77), none, []⟩, ⟨some 79, .call 0 (.func 110) [(.tmp 68), (.tmp 78)], none, []⟩, ⟨some 80, .indexAddr 64 (.tmp 64) (.tmp 67), none, []⟩, ⟨none, .store 2 (.tmp 80) (.tmp 79), none, []⟩] false))) (.region 15 [⟨some 81, .bin .add 3 (.tmp 59) (.const (.int .i64 1)), none, []⟩, ⟨some 59, .mov (.tmp 81), none, []⟩] false)))))))))) (.region 8 [⟨some 39, .mov (.tmp 11), none, []⟩, ⟨some 40, .bin .sub 3 (.tmp 39) (.const (.int .i64 1)), none, []⟩, ⟨some 11, .asg 0 (.tmp 40) 3, none, []⟩] false)))))) (.seq (.region 16 [⟨some 82, .mov (.tmp 9), none, []⟩, ⟨some 83, .call 0 (.func 111) [(.tmp 82)], none, []⟩, ⟨some 84, .mov (.tmp 8), none, []⟩, ⟨some 85, .call 0 (.func 111) [(.tmp 84)], none, []⟩, ⟨some 6, .asg 1 (.tmp 83) 64, none, []⟩, ⟨some 7, .asg 1 (.tmp 85) 64, none, []⟩] false) .ret)))))))
def impl_prime_divide_L : Live := [(0, [0, 1, 2]), (1, [0, 1, 2]), (2, [0, 1, 2, 8]), (3, [8]), (4, [0, 1, 2, 8]), (5, [0, 2, 8, 9]), (6, [0, 2, 8, 9, 10]), (7, [0, 2, 8, 9, 10, 11]), (8, [0, 2, 8, 9, 10, 11]), (9, [0, 2, 8, 9, 10, 11]), (10, [0, 2, 8, 9, 10, 11, 12]), (11, [0, 2, 8, 9, 10, 11, 12]), (12, [0, 2, 8, 9, 10, 11, 12, 57, 58, 59]), (13, [0, 2, 8, 9, 10, 11, 12, 57, 58, 59]), (14, [0, 2, 8, 9, 10, 11, 12, 13, 14, 57, 58, 59]), (15, [0, 2, 8, 9, 10, 11, 12, 57, 58, 59]), (16, [8, 9]), (100021, [0, 1, 2, 8, 21]), (100038, [0, 2, 8, 9, 10, 11, 38]), (100060, [0, 2, 8, 9, 10, 11, 12, 57, 58, 59, 60])]
theorem impl_prime_divide_body : Try.f91.body = some (Try.f91.body.getD .skip) := by kernel_rfl
theorem impl_prime_divide_strip : strip [(6, 1), (7, 1), (8, 2), (9, 2)] (Try.f91.body.getD .skip) = impl_prime_divide_c := by kernel_rfl
noncomputable def impl_prime_divide_l2 (a2 : (List Int)) (x467 : Int) (x468 : (List Int)) (x641 : Int) (r9 : Int) (a0 : Int) (x469 : (List Int)) (x661 : Int) (x662 : (List Int)) : Option ((Int × (List Int)) ⊕ ((List Int) × (List Int))) :=
  (if (decide (x661 < (a2.length : Int))) then (ifp (0 ≤ x661 ∧ x661 < ((a2.length : Nat) : Int)) ((ifp (0 ≤ IntKind.i64.wrap (x467 + x661) ∧ IntKind.i64.wrap (x467 + x661) < ((x662.length : Nat) : Int)) ((letp (IntKind.i64.wrap ((Int.tmod (IntKind.i64.wrap ((rd x468 x641.toNat) * r9)) a0) * (rd a2 x661.toNat))) fun x684 => (letp (IntKind.i64.wrap (((rd x662 (IntKind.i64.wrap (x467 + x661)).toNat)) - x684)) fun x686 => (Option.bind (impl_prime_reduce a0 x686) fun r688 => (ifp (0 ≤ IntKind.i64.wrap (x467 + x661) ∧ IntKind.i64.wrap (x467 + x661) < ((x662.length : Nat) : Int)) ((some (.inl ((IntKind.i64.wrap (x661 + 1), (x662.set (IntKind.i64.wrap (x467 + x661)).toNat r688)))))))))))))) else (some (.inr (((x662, (x469.set x467.toNat (Int.tmod (IntKind.i64.wrap ((rd x468 x641.toNat) * r9)) a0))))))))
noncomputable def impl_prime_divide_l1 (a2 : (List Int)) (a0 : Int) (r9 : Int) (x467 : Int) (x468 : (List Int)) (x469 : (List Int)) : Option ((Int × (List Int) × (List Int)) ⊕ ((List Int) × (List Int))) :=
  (if (decide (x467 ≥ 0)) then (Option.bind (α := ((List Int) × (List Int))) ((letp (IntKind.i64.wrap ((IntKind.i64.wrap (x467 + (a2.length : Int))) - 1)) fun x641 => (ifp (0 ≤ x641 ∧ x641 < ((x468.length : Nat) : Int)) ((ifp (a0 ≠ 0) ((ifp (0 ≤ x467 ∧ x467 < ((x469.length : Nat) : Int)) ((loopM (fun s : (Int × (List Int)) => impl_prime_divide_l2 a2 x467 x468 x641 r9 a0 x469 s.1 s.2) (0, x468)))))))))) fun ⟨x636, x637⟩ => (some (.inl ((IntKind.i64.wrap (x467 - 1), x636, x637))))) else (some (.inr (x468, x469))))
noncomputable def impl_prime_divide (a0 : Int) (a1 : (List Int)) (a2 : (List Int)) : Option ((List Int) × (List Int)) :=
  (Option.bind (slices_Clone_impl_row_int64_fresh a1) fun r1 => (if (decide ((a1.length : Int) < (a2.length : Int))) then (some ([], r1)) else (letp (IntKind.i64.wrap ((IntKind.i64.wrap ((a1.length : Int) - (a2.length : Int))) + 1)) fun x4 => (ifp (0 ≤ x4 ∧ x4 ≤ 140737488355328 ∧ 8 * x4 ≤ 140737488355328) ((Option.bind (impl_row_lead a2) fun r7 => (Option.bind (impl_prime_inverse a0 r7) fun r9 => (Option.bind (α := ((List Int) × (List Int))) ((letp (IntKind.i64.wrap ((((List.replicate x4.toNat (0 : Int)).length : Int)) - 1)) fun x355 => (loopM (fun s : (Int × (List Int) × (List Int)) => impl_prime_divide_l1 a2 a0 r9 s.1 s.2.1 s.2.2) (x355, r1, List.replicate x4.toNat (0 : Int))))) fun ⟨x350, x351⟩ => (Option.bind (impl_row_trimmed x351) fun r694 => (Option.bind (impl_row_trimmed x350) fun r696 => (some (r694, r696))))))))))))
set_option maxHeartbeats 16000000 in
theorem impl_prime_divide_ok (a0 : Int) (a1 : (List Int)) (a2 : (List Int)) (r : ((List Int) × (List Int))) (h : impl_prime_divide a0 a1 a2 = some r) : Den Try.prog 91 [(.int .i64 a0), (eSi64 a1), (eSi64 a2)] { r := (.tuple [(eSi64 r.1), (eSi64 r.2)]) } := by
  refine den_of (rs := [(eSi64 r.1), (eSi64 r.2)]) (ac := impl_prime_divide_c) (L := impl_prime_divide_L) (n := 86) (m := [(6, 1), (7, 1), (8, 2), (9, 2)]) good Try.func91 impl_prime_divide_body (by kernel_rfl) Try.ntmps91 rfl rfl impl_prime_divide_strip rfl rfl ?_
  refine a_st (σ' := ⟨[(0, (.int .i64 a0)), (1, (eSi64 a1)), (2, (eSi64 a2))], []⟩) (by kernel_rfl) ?_
  unfold impl_prime_divide_c
  refine a_seq ?_
  refine a_region ?_
  refine a_val (v := (eSi64 ([]))) (u := []) rfl trivial rfl ?_
  refine a_val (v := (eSi64 ([]))) (u := []) rfl trivial rfl ?_
  refine a_nil ?_
  refine a_next (σ' := ⟨[(0, (.int .i64 a0)), (1, (eSi64 a1)), (2, (eSi64 a2))], []⟩) (by kernel_rfl) ?_
  refine a_seq ?_
  refine a_region ?_
  refine a_val (v := (eSi64 a1)) (u := []) rfl trivial rfl ?_
  obtain ⟨r1, hr2, h⟩ := bind_some h
  refine a_callF (args := [(eSi64 a1)]) (u := []) (u2 := []) (r := (.osl 2000000)) (fs := [(1, r1.map (AV.int .i64))]) rfl rfl (slices_Clone_impl_row_int64_fresh_ok a1 r1 hr2) rfl rfl rfl (.inl rfl) rfl ?_
  refine a_val (v := (.osl 2600)) (u := []) rfl trivial rfl ?_
  refine a_nil ?_
  refine a_next (σ' := ⟨[(0, (.int .i64 a0)), (1, (eSi64 a1)), (2, (eSi64 a2)), (8, (.osl 8))], [(8, some ⟨(.row 1 (r1.map (AV.int .i64))), false⟩)]⟩) (by kernel_rfl) ?_
  refine a_seq ?_
  refine a_seq ?_
  refine a_region ?_
  refine a_val (v := (eSi64 a1)) (u := []) rfl trivial rfl ?_
  refine a_val (v := (.int .i64 (a1.length : Int))) (u := []) (len_run rfl rfl) trivial rfl ?_
  refine a_val (v := (eSi64 a2)) (u := []) rfl trivial rfl ?_
  refine a_val (v := (.int .i64 (a2.length : Int))) (u := []) (len_run rfl rfl) trivial rfl ?_
  refine a_val (v := (.bool ((decide ((a1.length : Int) < (a2.length : Int)))))) (u := []) rfl trivial rfl ?_
  refine a_nil ?_
  refine a_next (σ' := ⟨[(0, (.int .i64 a0)), (1, (eSi64 a1)), (2, (eSi64 a2)), (8, (.osl 8)), (21, (.bool ((decide ((a1.length : Int) < (a2.length : Int))))))], [(8, some ⟨(.row 1 (r1.map (AV.int .i64))), false⟩)]⟩) (by kernel_rfl) ?_
  cases hb3 : (decide ((a1.length : Int) < (a2.length : Int)))
  · have h := ite_f hb3 h
    refine a_cond_f rfl ?_
    refine a_skip ?_
    refine a_next (σ' := ⟨[(0, (.int .i64 a0)), (1, (eSi64 a1)), (2, (eSi64 a2)), (8, (.osl 8))], [(8, some ⟨(.row 1 (r1.map (AV.int .i64))), false⟩)]⟩) (by kernel_rfl) ?_
    refine a_seq ?_
    refine a_region ?_
    refine a_val (v := (eSi64 a1)) (u := []) rfl trivial rfl ?_
    refine a_val (v := (.int .i64 (a1.length : Int))) (u := []) (len_run rfl rfl) trivial rfl ?_
    refine a_val (v := (eSi64 a2)) (u := []) rfl trivial rfl ?_
    refine a_val (v := (.int .i64 (a2.length : Int))) (u := []) (len_run rfl rfl) trivial rfl ?_
    refine a_val (v := (.int .i64 (IntKind.i64.wrap ((a1.length : Int) - (a2.length : Int))))) (u := []) rfl trivial rfl ?_
    obtain ⟨x4, hx5, h⟩ := letp_some h
    refine a_val' (v := (.int .i64 (IntKind.i64.wrap ((IntKind.i64.wrap ((a1.length : Int) - (a2.length : Int))) + 1)))) (v' := (.int .i64 x4)) (u := []) (u' := []) rfl (congrArg (fun z => ((.int .i64 z) : AV)) hx5) rfl trivial rfl ?_
    obtain ⟨hc6, h⟩ := ifp_some h
    refine a_val (v := (.osl 3900)) (u := [(3900, some ⟨(.row 1 ((List.replicate x4.toNat (0 : Int)).map (AV.int .i64))), false⟩)]) (mk_run (i := ⟨.int .i64, 1, 8, (.int .i64 0)⟩) (f := (AV.int .i64)) (y := (0 : Int)) rfl rfl rfl rfl rfl rfl) ⟨rfl, hc6.1, hc6.2.1, hc6.2.2, (Nat.le_of_ble_eq_true rfl)⟩ rfl ?_
    refine a_val (v := (.osl 3900)) (u := []) rfl trivial rfl ?_
    refine a_nil ?_
    refine a_next (σ' := ⟨[(0, (.int .i64 a0)), (2, (eSi64 a2)), (8, (.osl 8)), (9, (.osl 9))], [(8, some ⟨(.row 1 (r1.map (AV.int .i64))), false⟩), (9, some ⟨(.row 1 ((List.replicate x4.toNat (0 : Int)).map (AV.int .i64))), false⟩)]⟩) (by kernel_rfl) ?_
    refine a_seq ?_
    refine a_region ?_
    refine a_val (v := (.int .i64 a0)) (u := []) rfl trivial rfl ?_
    refine a_val (v := (eSi64 a2)) (u := []) rfl trivial rfl ?_
    obtain ⟨r7, hr8, h⟩ := bind_some h
    refine a_call (args := [(eSi64 a2)]) (u := []) (r := (.int .i64 r7)) rfl rfl (impl_row_lead_ok a2 r7 hr8) rfl ?_
    obtain ⟨r9, hr10, h⟩ := bind_some h
    refine a_call (args := [(.int .i64 a0), (.int .i64 r7)]) (u := []) (r := (.int .i64 r9)) rfl rfl (impl_prime_inverse_ok a0 r7 r9 hr10) rfl ?_
    refine a_val (v := (.int .i64 r9)) (u := []) rfl trivial rfl ?_
    refine a_nil ?_
    refine a_next (σ' := ⟨[(0, (.int .i64 a0)), (2, (eSi64 a2)), (8, (.osl 8)), (9, (.osl 9)), (10, (.int .i64 r9))], [(8, some ⟨(.row 1 (r1.map (AV.int .i64))), false⟩), (9, some ⟨(.row 1 ((List.replicate x4.toNat (0 : Int)).map (AV.int .i64))), false⟩)]⟩) (by kernel_rfl) ?_
    obtain ⟨y352, hy353, hk354⟩ := bind_some h
    clear h
    refine a_join (emb := fun (s : ((List Int) × (List Int))) => ⟨[(8, (.osl 8)), (9, (.osl 9))], [(8, some ⟨(.row 1 (s.1.map (AV.int .i64))), false⟩), (9, some ⟨(.row 1 (s.2.map (AV.int .i64))), false⟩)]⟩) (pre := fun s => s = y352) ?_ ?_
    · rintro ⟨x350, x351⟩ rfl
      have h := hk354
      refine a_st (σ' := ⟨[(8, (.osl 8)), (9, (.osl 9))], [(8, some ⟨(.row 1 (x350.map (AV.int .i64))), false⟩), (9, some ⟨(.row 1 (x351.map (AV.int .i64))), false⟩)]⟩) (by kernel_rfl) ?_
      refine a_seq ?_
      refine a_region ?_
      refine a_val (v := (.osl 9)) (u := []) rfl trivial rfl ?_
      obtain ⟨r694, hr695, h⟩ := bind_some h
      refine a_call (args := [(eSi64 x351)]) (u := [(9, some ⟨(.row 1 (x351.map (AV.int .i64))), true⟩)]) (r := (eSi64 r694)) rfl rfl (impl_row_trimmed_ok x351 r694 hr695) rfl ?_
      refine a_val (v := (.osl 8)) (u := []) rfl trivial rfl ?_
      obtain ⟨r696, hr697, h⟩ := bind_some h
      refine a_call (args := [(eSi64 x350)]) (u := [(8, some ⟨(.row 1 (x350.map (AV.int .i64))), true⟩)]) (r := (eSi64 r696)) rfl rfl (impl_row_trimmed_ok x350 r696 hr697) rfl ?_
      refine a_val (v := (eSi64 r694)) (u := []) rfl trivial rfl ?_
      refine a_val (v := (eSi64 r696)) (u := []) rfl trivial rfl ?_
      refine a_nil ?_
      refine a_next rfl ?_
      refine a_ret ?_
      refine ⟨.inr rfl, ?_⟩
      rw [Try.results91]
      cases h
      exact ⟨_, _, _, _, _, rfl, trivial, .inl ⟨rfl, .inl rfl⟩, rfl, ⟨_, _, _, _, _, rfl, trivial, .inl ⟨rfl, .inl rfl⟩, rfl, rfl⟩⟩
    · have h := hy353
      refine a_seq ?_
      refine a_region ?_
      refine a_val (v := (.osl 9)) (u := []) rfl trivial rfl ?_
      refine a_val (v := (.int .i64 (((List.replicate x4.toNat (0 : Int)).length : Int)))) (u := []) (leno_run rfl rfl rfl) trivial rfl ?_
      obtain ⟨x355, hx356, h⟩ := letp_some h
      refine a_val' (v := (.int .i64 (IntKind.i64.wrap ((((List.replicate x4.toNat (0 : Int)).length : Int)) - 1)))) (v' := (.int .i64 x355)) (u := []) (u' := []) rfl (congrArg (fun z => ((.int .i64 z) : AV)) hx356) rfl trivial rfl ?_
      refine a_val (v := (.int .i64 x355)) (u := []) rfl trivial rfl ?_
      refine a_nil ?_
      refine a_next (σ' := ⟨[(0, (.int .i64 a0)), (2, (eSi64 a2)), (8, (.osl 8)), (9, (.osl 9)), (10, (.int .i64 r9)), (11, (.int .i64 x355))], [(8, some ⟨(.row 1 (r1.map (AV.int .i64))), false⟩), (9, some ⟨(.row 1 ((List.replicate x4.toNat (0 : Int)).map (AV.int .i64))), false⟩)]⟩) (by kernel_rfl) ?_
      refine a_block ?_
      refine a_loop (emb := fun (s : (Int × (List Int) × (List Int))) => ⟨[(0, (.int .i64 a0)), (2, (eSi64 a2)), (8, (.osl 8)), (9, (.osl 9)), (10, (.int .i64 r9)), (11, (.int .i64 s.1))], [(8, some ⟨(.row 1 (s.2.1.map (AV.int .i64))), false⟩), (9, some ⟨(.row 1 (s.2.2.map (AV.int .i64))), false⟩)]⟩) (body := (fun s : (Int × (List Int) × (List Int)) => impl_prime_divide_l1 a2 a0 r9 s.1 s.2.1 s.2.2)) (G := fun q => some q = some y352) h rfl ?_ (by kernel_rfl)
      rintro X580 ⟨x467, x468, x469⟩ x581 h hX582
      have h : impl_prime_divide_l1 a2 a0 r9 x467 x468 x469 = some x581 := h
      refine a_st (σ' := ⟨[(0, (.int .i64 a0)), (2, (eSi64 a2)), (8, (.osl 8)), (9, (.osl 9)), (10, (.int .i64 r9)), (11, (.int .i64 x467))], [(8, some ⟨(.row 1 (x468.map (AV.int .i64))), false⟩), (9, some ⟨(.row 1 (x469.map (AV.int .i64))), false⟩)]⟩) (by kernel_rfl) ?_
      refine a_seq ?_
      refine a_seq ?_
      refine a_region ?_
      refine a_val (v := (.int .i64 x467)) (u := []) rfl trivial rfl ?_
      refine a_val (v := (.bool ((decide (x467 ≥ 0))))) (u := []) rfl trivial rfl ?_
      refine a_nil ?_
      refine a_next (σ' := ⟨[(0, (.int .i64 a0)), (2, (eSi64 a2)), (8, (.osl 8)), (9, (.osl 9)), (10, (.int .i64 r9)), (11, (.int .i64 x467)), (38, (.bool ((decide (x467 ≥ 0)))))], [(8, some ⟨(.row 1 (x468.map (AV.int .i64))), false⟩), (9, some ⟨(.row 1 (x469.map (AV.int .i64))), false⟩)]⟩) (by kernel_rfl) ?_
      cases hb583 : (decide (x467 ≥ 0))
      · have h := ite_f hb583 h
        refine a_cond_f rfl ?_
        refine a_exit ?_
        refine t_exit ?_
        cases h
        have h := hX582
        refine t_exit ?_
        refine b_exit ?_
        exact j_leaf (x468, x469) (Option.some.inj h) (by kernel_rfl)
      · have h := ite_t hb583 h
        refine a_cond_t rfl ?_
        refine a_skip ?_
        refine a_next (σ' := ⟨[(0, (.int .i64 a0)), (2, (eSi64 a2)), (8, (.osl 8)), (9, (.osl 9)), (10, (.int .i64 r9)), (11, (.int .i64 x467))], [(8, some ⟨(.row 1 (x468.map (AV.int .i64))), false⟩), (9, some ⟨(.row 1 (x469.map (AV.int .i64))), false⟩)]⟩) (by kernel_rfl) ?_
        obtain ⟨y638, hy639, hk640⟩ := bind_some h
        clear h
        refine a_join (emb := fun (s : ((List Int) × (List Int))) => ⟨[(0, (.int .i64 a0)), (2, (eSi64 a2)), (8, (.osl 8)), (9, (.osl 9)), (10, (.int .i64 r9)), (11, (.int .i64 x467))], [(8, some ⟨(.row 1 (s.1.map (AV.int .i64))), false⟩), (9, some ⟨(.row 1 (s.2.map (AV.int .i64))), false⟩)]⟩) (pre := fun s => s = y638) ?_ ?_
        · rintro ⟨x636, x637⟩ rfl
          have h := hk640
          refine a_st (σ' := ⟨[(0, (.int .i64 a0)), (2, (eSi64 a2)), (8, (.osl 8)), (9, (.osl 9)), (10, (.int .i64 r9)), (11, (.int .i64 x467))], [(8, some ⟨(.row 1 (x636.map (AV.int .i64))), false⟩), (9, some ⟨(.row 1 (x637.map (AV.int .i64))), false⟩)]⟩) (by kernel_rfl) ?_
          refine a_region ?_
          refine a_val (v := (.int .i64 x467)) (u := []) rfl trivial rfl ?_
          refine a_val (v := (.int .i64 (IntKind.i64.wrap (x467 - 1)))) (u := []) rfl trivial rfl ?_
          refine a_val (v := (.int .i64 (IntKind.i64.wrap (x467 - 1)))) (u := []) rfl trivial rfl ?_
          refine a_nil ?_
          cases h
          exact a_again (by kernel_rfl) hX582
        · have h := hy639
          refine a_block ?_
          refine a_seq ?_
          refine a_region ?_
          refine a_val (v := (.osl 8)) (u := []) rfl trivial rfl ?_
          refine a_val (v := (.int .i64 x467)) (u := []) rfl trivial rfl ?_
          refine a_val (v := (eSi64 a2)) (u := []) rfl trivial rfl ?_
          refine a_val (v := (.int .i64 (a2.length : Int))) (u := []) (len_run rfl rfl) trivial rfl ?_
          refine a_val (v := (.int .i64 (IntKind.i64.wrap (x467 + (a2.length : Int))))) (u := []) rfl trivial rfl ?_
          obtain ⟨x641, hx642, h⟩ := letp_some h
          refine a_val' (v := (.int .i64 (IntKind.i64.wrap ((IntKind.i64.wrap (x467 + (a2.length : Int))) - 1)))) (v' := (.int .i64 x641)) (u := []) (u' := []) rfl (congrArg (fun z => ((.int .i64 z) : AV)) hx642) rfl trivial rfl ?_
          obtain ⟨hc643, h⟩ := ifp_some h
          refine a_val (v := (.own 8 [x641.toNat] [x641.toNat * 1])) (u := []) rfl (lmap hc643) rfl ?_
          have hl644 : LdOk [x641.toNat] (.row 1 (x468.map (AV.int .i64))) [x641.toNat * 1] 1 false (.int .i64 (rd x468 x641.toNat)) := (.row (llt hc643) rfl (.nil rfl rfl rfl))
          refine a_val (v := (.int .i64 (rd x468 x641.toNat))) (u := []) (ld_own (i := ⟨.int .i64, 1, 8, (.int .i64 0)⟩) rfl rfl rfl hl644) hl644.c rfl ?_
          refine a_val (v := (.int .i64 r9)) (u := []) rfl trivial rfl ?_
          refine a_val (v := (.int .i64 (IntKind.i64.wrap ((rd x468 x641.toNat) * r9)))) (u := []) rfl trivial rfl ?_
          refine a_val (v := (.int .i64 a0)) (u := []) rfl trivial rfl ?_
          obtain ⟨hc645, h⟩ := ifp_some h
          refine a_val (v := (.int .i64 (Int.tmod (IntKind.i64.wrap ((rd x468 x641.toNat) * r9)) a0))) (u := []) rfl hc645 rfl ?_
          refine a_val (v := (.int .i64 (Int.tmod (IntKind.i64.wrap ((rd x468 x641.toNat) * r9)) a0))) (u := []) rfl trivial rfl ?_
          refine a_nil ?_
          refine a_next (σ' := ⟨[(0, (.int .i64 a0)), (2, (eSi64 a2)), (8, (.osl 8)), (9, (.osl 9)), (10, (.int .i64 r9)), (11, (.int .i64 x467)), (12, (.int .i64 (Int.tmod (IntKind.i64.wrap ((rd x468 x641.toNat) * r9)) a0)))], [(8, some ⟨(.row 1 (x468.map (AV.int .i64))), false⟩), (9, some ⟨(.row 1 (x469.map (AV.int .i64))), false⟩)]⟩) (by kernel_rfl) ?_
          refine a_seq ?_
          refine a_region ?_
          refine a_val (v := (.osl 9)) (u := []) rfl trivial rfl ?_
          refine a_val (v := (.int .i64 x467)) (u := []) rfl trivial rfl ?_
          refine a_val (v := (.int .i64 (Int.tmod (IntKind.i64.wrap ((rd x468 x641.toNat) * r9)) a0))) (u := []) rfl trivial rfl ?_
          obtain ⟨hc646, h⟩ := ifp_some h
          refine a_val (v := (.own 9 [x467.toNat] [x467.toNat * 1])) (u := []) rfl (lmap hc646) rfl ?_
          have hs647 : StOk [x467.toNat] (.row 1 (x469.map (AV.int .i64))) [x467.toNat * 1] 1 (.int .i64 (Int.tmod (IntKind.i64.wrap ((rd x468 x641.toNat) * r9)) a0)) (.row 1 (((x469.set x467.toNat (Int.tmod (IntKind.i64.wrap ((rd x468 x641.toNat) * r9)) a0))).map (AV.int .i64))) := (.row (y := Int.tmod (IntKind.i64.wrap ((rd x468 x641.toNat) * r9)) a0) (llt hc646) rfl (.nil rfl rfl rfl rfl))
          refine a_val (v := .top) (u := [(9, some ⟨(.row 1 (((x469.set x467.toNat (Int.tmod (IntKind.i64.wrap ((rd x468 x641.toNat) * r9)) a0))).map (AV.int .i64))), false⟩)]) (st_own (i := ⟨.int .i64, 1, 8, (.int .i64 0)⟩) rfl rfl (fun _ => rfl) rfl hs647) (hs647.c rfl) rfl ?_
          refine a_nil ?_
          refine a_next (σ' := ⟨[(0, (.int .i64 a0)), (2, (eSi64 a2)), (8, (.osl 8)), (9, (.osl 9)), (10, (.int .i64 r9)), (11, (.int .i64 x467)), (12, (.int .i64 (Int.tmod (IntKind.i64.wrap ((rd x468 x641.toNat) * r9)) a0)))], [(8, some ⟨(.row 1 (x468.map (AV.int .i64))), false⟩), (9, some ⟨(.row 1 (((x469.set x467.toNat (Int.tmod (IntKind.i64.wrap ((rd x468 x641.toNat) * r9)) a0))).map (AV.int .i64))), false⟩)]⟩) (by kernel_rfl) ?_
          refine a_seq ?_
          refine a_region ?_
          refine a_val (v := (eSi64 a2)) (u := []) rfl trivial rfl ?_
          refine a_val (v := (.int .i64 (a2.length : Int))) (u := []) (len_run rfl rfl) trivial rfl ?_
          refine a_val (v := (.int .i64 0)) (u := []) rfl trivial rfl ?_
          refine a_nil ?_
          refine a_next (σ' := ⟨[(0, (.int .i64 a0)), (2, (eSi64 a2)), (8, (.osl 8)), (9, (.osl 9)), (10, (.int .i64 r9)), (11, (.int .i64 x467)), (12, (.int .i64 (Int.tmod (IntKind.i64.wrap ((rd x468 x641.toNat) * r9)) a0))), (57, (eSi64 a2)), (58, (.int .i64 (a2.length : Int))), (59, (.int .i64 0))], [(8, some ⟨(.row 1 (x468.map (AV.int .i64))), false⟩), (9, some ⟨(.row 1 (((x469.set x467.toNat (Int.tmod (IntKind.i64.wrap ((rd x468 x641.toNat) * r9)) a0))).map (AV.int .i64))), false⟩)]⟩) (by kernel_rfl) ?_
          refine a_block ?_
          refine a_loop (emb := fun (s : (Int × (List Int))) => ⟨[(0, (.int .i64 a0)), (2, (eSi64 a2)), (8, (.osl 8)), (9, (.osl 9)), (10, (.int .i64 r9)), (11, (.int .i64 x467)), (12, (.int .i64 (Int.tmod (IntKind.i64.wrap ((rd x468 x641.toNat) * r9)) a0))), (57, (eSi64 a2)), (58, (.int .i64 (a2.length : Int))), (59, (.int .i64 s.1))], [(8, some ⟨(.row 1 (s.2.map (AV.int .i64))), false⟩), (9, some ⟨(.row 1 (((x469.set x467.toNat (Int.tmod (IntKind.i64.wrap ((rd x468 x641.toNat) * r9)) a0))).map (AV.int .i64))), false⟩)]⟩) (body := (fun s : (Int × (List Int)) => impl_prime_divide_l2 a2 x467 x468 x641 r9 a0 x469 s.1 s.2)) (G := fun q => some q = some y638) h rfl ?_ (by kernel_rfl)
          rintro X676 ⟨x661, x662⟩ x677 h hX678
          have h : impl_prime_divide_l2 a2 x467 x468 x641 r9 a0 x469 x661 x662 = some x677 := h
          refine a_st (σ' := ⟨[(0, (.int .i64 a0)), (2, (eSi64 a2)), (8, (.osl 8)), (9, (.osl 9)), (10, (.int .i64 r9)), (11, (.int .i64 x467)), (12, (.int .i64 (Int.tmod (IntKind.i64.wrap ((rd x468 x641.toNat) * r9)) a0))), (57, (eSi64 a2)), (58, (.int .i64 (a2.length : Int))), (59, (.int .i64 x661))], [(8, some ⟨(.row 1 (x662.map (AV.int .i64))), false⟩), (9, some ⟨(.row 1 (((x469.set x467.toNat (Int.tmod (IntKind.i64.wrap ((rd x468 x641.toNat) * r9)) a0))).map (AV.int .i64))), false⟩)]⟩) (by kernel_rfl) ?_
          refine a_seq ?_
          refine a_region ?_
          refine a_val (v := (.bool ((decide (x661 < (a2.length : Int)))))) (u := []) rfl trivial rfl ?_
          refine a_nil ?_
          refine a_next (σ' := ⟨[(0, (.int .i64 a0)), (2, (eSi64 a2)), (8, (.osl 8)), (9, (.osl 9)), (10, (.int .i64 r9)), (11, (.int .i64 x467)), (12, (.int .i64 (Int.tmod (IntKind.i64.wrap ((rd x468 x641.toNat) * r9)) a0))), (57, (eSi64 a2)), (58, (.int .i64 (a2.length : Int))), (59, (.int .i64 x661)), (60, (.bool ((decide (x661 < (a2.length : Int))))))], [(8, some ⟨(.row 1 (x662.map (AV.int .i64))), false⟩), (9, some ⟨(.row 1 (((x469.set x467.toNat (Int.tmod (IntKind.i64.wrap ((rd x468 x641.toNat) * r9)) a0))).map (AV.int .i64))), false⟩)]⟩) (by kernel_rfl) ?_
          refine a_seq ?_
          cases hb679 : (decide (x661 < (a2.length : Int)))
          · have h := ite_f hb679 h
            refine a_cond_f rfl ?_
            refine a_exit ?_
            refine t_exit ?_
            cases h
            have h := hX678
            refine t_exit ?_
            refine b_exit ?_
            refine b_norm ?_
            exact j_leaf ((x662, (x469.set x467.toNat (Int.tmod (IntKind.i64.wrap ((rd x468 x641.toNat) * r9)) a0)))) (Option.some.inj h) (by kernel_rfl)
          · have h := ite_t hb679 h
            refine a_cond_t rfl ?_
            refine a_skip ?_
            refine a_next (σ' := ⟨[(0, (.int .i64 a0)), (2, (eSi64 a2)), (8, (.osl 8)), (9, (.osl 9)), (10, (.int .i64 r9)), (11, (.int .i64 x467)), (12, (.int .i64 (Int.tmod (IntKind.i64.wrap ((rd x468 x641.toNat) * r9)) a0))), (57, (eSi64 a2)), (58, (.int .i64 (a2.length : Int))), (59, (.int .i64 x661))], [(8, some ⟨(.row 1 (x662.map (AV.int .i64))), false⟩), (9, some ⟨(.row 1 (((x469.set x467.toNat (Int.tmod (IntKind.i64.wrap ((rd x468 x641.toNat) * r9)) a0))).map (AV.int .i64))), false⟩)]⟩) (by kernel_rfl) ?_
            refine a_seq ?_
            refine a_block ?_
            refine a_seq ?_
            refine a_region ?_
            refine a_val (v := (.int .i64 x661)) (u := []) rfl trivial rfl ?_
            obtain ⟨hc680, h⟩ := ifp_some h
            refine a_val (v := (.ref (.row 1 (a2.map (AV.int .i64))) [x661.toNat] [x661.toNat * 1])) (u := []) rfl (lmap hc680) rfl ?_
            have hl681 : LdOk [x661.toNat] (.row 1 (a2.map (AV.int .i64))) [x661.toNat * 1] 1 false (.int .i64 (rd a2 x661.toNat)) := (.row (llt hc680) rfl (.nil rfl rfl rfl))
            refine a_val (v := (.int .i64 (rd a2 x661.toNat))) (u := []) (ld_ref (i := ⟨.int .i64, 1, 8, (.int .i64 0)⟩) rfl rfl hl681) hl681.c rfl ?_
            refine a_val (v := (.int .i64 x661)) (u := []) rfl trivial rfl ?_
            refine a_val (v := (.int .i64 (rd a2 x661.toNat))) (u := []) rfl trivial rfl ?_
            refine a_nil ?_
            refine a_next (σ' := ⟨[(0, (.int .i64 a0)), (2, (eSi64 a2)), (8, (.osl 8)), (9, (.osl 9)), (10, (.int .i64 r9)), (11, (.int .i64 x467)), (12, (.int .i64 (Int.tmod (IntKind.i64.wrap ((rd x468 x641.toNat) * r9)) a0))), (13, (.int .i64 x661)), (14, (.int .i64 (rd a2 x661.toNat))), (57, (eSi64 a2)), (58, (.int .i64 (a2.length : Int))), (59, (.int .i64 x661))], [(8, some ⟨(.row 1 (x662.map (AV.int .i64))), false⟩), (9, some ⟨(.row 1 (((x469.set x467.toNat (Int.tmod (IntKind.i64.wrap ((rd x468 x641.toNat) * r9)) a0))).map (AV.int .i64))), false⟩)]⟩) (by kernel_rfl) ?_
            refine a_region ?_
            refine a_val (v := (.osl 8)) (u := []) rfl trivial rfl ?_
            refine a_val (v := (.int .i64 x467)) (u := []) rfl trivial rfl ?_
            refine a_val (v := (.int .i64 x661)) (u := []) rfl trivial rfl ?_
            refine a_val (v := (.int .i64 (IntKind.i64.wrap (x467 + x661)))) (u := []) rfl trivial rfl ?_
            refine a_val (v := (.int .i64 a0)) (u := []) rfl trivial rfl ?_
            refine a_val (v := (.osl 8)) (u := []) rfl trivial rfl ?_
            refine a_val (v := (.int .i64 x467)) (u := []) rfl trivial rfl ?_
            refine a_val (v := (.int .i64 x661)) (u := []) rfl trivial rfl ?_
            refine a_val (v := (.int .i64 (IntKind.i64.wrap (x467 + x661)))) (u := []) rfl trivial rfl ?_
            obtain ⟨hc682, h⟩ := ifp_some h
            refine a_val (v := (.own 8 [(IntKind.i64.wrap (x467 + x661)).toNat] [(IntKind.i64.wrap (x467 + x661)).toNat * 1])) (u := []) rfl (lmap hc682) rfl ?_
            have hl683 : LdOk [(IntKind.i64.wrap (x467 + x661)).toNat] (.row 1 (x662.map (AV.int .i64))) [(IntKind.i64.wrap (x467 + x661)).toNat * 1] 1 false (.int .i64 ((rd x662 (IntKind.i64.wrap (x467 + x661)).toNat))) := (.row (llt hc682) rfl (.nil rfl rfl rfl))
            refine a_val (v := (.int .i64 ((rd x662 (IntKind.i64.wrap (x467 + x661)).toNat)))) (u := []) (ld_own (i := ⟨.int .i64, 1, 8, (.int .i64 0)⟩) rfl rfl rfl hl683) hl683.c rfl ?_
            refine a_val (v := (.int .i64 (Int.tmod (IntKind.i64.wrap ((rd x468 x641.toNat) * r9)) a0))) (u := []) rfl trivial rfl ?_
            refine a_val (v := (.int .i64 (rd a2 x661.toNat))) (u := []) rfl trivial rfl ?_
            obtain ⟨x684, hx685, h⟩ := letp_some h
            refine a_val' (v := (.int .i64 (IntKind.i64.wrap ((Int.tmod (IntKind.i64.wrap ((rd x468 x641.toNat) * r9)) a0) * (rd a2 x661.toNat))))) (v' := (.int .i64 x684)) (u := []) (u' := []) rfl (congrArg (fun z => ((.int .i64 z) : AV)) hx685) rfl trivial rfl ?_
            obtain ⟨x686, hx687, h⟩ := letp_some h
            refine a_val' (v := (.int .i64 (IntKind.i64.wrap (((rd x662 (IntKind.i64.wrap (x467 + x661)).toNat)) - x684)))) (v' := (.int .i64 x686)) (u := []) (u' := []) rfl (congrArg (fun z => ((.int .i64 z) : AV)) hx687) rfl trivial rfl ?_
            obtain ⟨r688, hr689, h⟩ := bind_some h
            refine a_call (args := [(.int .i64 a0), (.int .i64 x686)]) (u := []) (r := (.int .i64 r688)) rfl rfl (impl_prime_reduce_ok a0 x686 r688 hr689) rfl ?_
            obtain ⟨hc690, h⟩ := ifp_some h
            refine a_val (v := (.own 8 [(IntKind.i64.wrap (x467 + x661)).toNat] [(IntKind.i64.wrap (x467 + x661)).toNat * 1])) (u := []) rfl (lmap hc690) rfl ?_
            have hs691 : StOk [(IntKind.i64.wrap (x467 + x661)).toNat] (.row 1 (x662.map (AV.int .i64))) [(IntKind.i64.wrap (x467 + x661)).toNat * 1] 1 (.int .i64 r688) (.row 1 (((x662.set (IntKind.i64.wrap (x467 + x661)).toNat r688)).map (AV.int .i64))) := (.row (y := r688) (llt hc690) rfl (.nil rfl rfl rfl rfl))
            refine a_val (v := .top) (u := [(8, some ⟨(.row 1 (((x662.set (IntKind.i64.wrap (x467 + x661)).toNat r688)).map (AV.int .i64))), false⟩)]) (st_own (i := ⟨.int .i64, 1, 8, (.int .i64 0)⟩) rfl rfl (fun _ => rfl) rfl hs691) (hs691.c rfl) rfl ?_
            refine a_nil ?_
            refine b_norm ?_
            refine a_next (σ' := ⟨[(0, (.int .i64 a0)), (2, (eSi64 a2)), (8, (.osl 8)), (9, (.osl 9)), (10, (.int .i64 r9)), (11, (.int .i64 x467)), (12, (.int .i64 (Int.tmod (IntKind.i64.wrap ((rd x468 x641.toNat) * r9)) a0))), (57, (eSi64 a2)), (58, (.int .i64 (a2.length : Int))), (59, (.int .i64 x661))], [(8, some ⟨(.row 1 (((x662.set (IntKind.i64.wrap (x467 + x661)).toNat r688)).map (AV.int .i64))), false⟩), (9, some ⟨(.row 1 (((x469.set x467.toNat (Int.tmod (IntKind.i64.wrap ((rd x468 x641.toNat) * r9)) a0))).map (AV.int .i64))), false⟩)]⟩) (by kernel_rfl) ?_
            refine a_region ?_
            refine a_val (v := (.int .i64 (IntKind.i64.wrap (x661 + 1)))) (u := []) rfl trivial rfl ?_
            refine a_val (v := (.int .i64 (IntKind.i64.wrap (x661 + 1)))) (u := []) rfl trivial rfl ?_
            refine a_nil ?_
            cases h
            exact a_again (by kernel_rfl) hX678
  · have h := ite_t hb3 h
    refine a_cond_t rfl ?_
    refine a_seq ?_
    refine a_region ?_
    refine a_val (v := (.osl 8)) (u := []) rfl trivial rfl ?_
    refine a_val (v := (eSi64 ([]))) (u := []) rfl trivial rfl ?_
    refine a_val (v := (eSi64 r1)) (u := [(8, some ⟨(.row 1 (r1.map (AV.int .i64))), true⟩)]) rfl trivial rfl ?_
    refine a_nil ?_
    refine a_next rfl ?_
    refine a_ret ?_
    refine t_ret ?_
    refine ⟨.inr rfl, ?_⟩
    rw [Try.results91]
    cases h
    exact ⟨_, _, _, _, _, rfl, trivial, .inl ⟨rfl, .inl rfl⟩, rfl, ⟨_, _, _, _, _, rfl, trivial, .inl ⟨rfl, .inl rfl⟩, rfl, rfl⟩⟩
def spec_l01Inverse_c : ACode := (.seq (.region 0 [⟨some 4, .asg 0 (.const (.int .u8 0)) 5, none, []⟩] false) (.seq (.seq (.region 1 [⟨some 5, .asg 0 (.const (.int .i64 1)) 2, none, []⟩] false) (.block 0 (.loop (.seq (.seq (.region 2 [⟨some 6, .mov (.tmp 5), none, []⟩, ⟨some 7, .mov (.tmp 0), none, []⟩, ⟨some 8, .bin .lss 2 (.tmp 6) (.tmp 7), none, []⟩] false) (.cond (.tmp 8) .skip (.exit 0))) (.seq (.block 1 (.seq (.region 4 [⟨some 11, .mov (.tmp 5), none, []⟩, ⟨some 12, .mov (.tmp 1), none, []⟩, ⟨some 13, .conv 5 2 (.tmp 12), none, []⟩, ⟨some 14, .bin .mul 2 (.tmp 11) (.tmp 13), none, []⟩, ⟨some 15, .mov (.tmp 0), none, []⟩, ⟨some 16, .bin .rem 2 (.tmp 14) (.tmp 15), none, []⟩, ⟨some 17, .bin .eql 2 (.tmp 16) (.const (.int .i64 1)), none, []⟩] false) (.cond (.tmp 17) (.seq (.region 5 [⟨some 18, .mov (.tmp 5), none, []⟩, ⟨some 19, .conv 2 5 (.tmp 18), none, []⟩, ⟨some 4, .asg 0 (.tmp 19) 5, none, []⟩] false) .ret) .skip))) (.region 3 [⟨some 9, .mov (.tmp 5), none, []⟩, ⟨some 10, .bin .add 2 (.tmp 9) (.const (.int .i64 1)), none, []⟩, ⟨some 5, .asg 0 (.tmp 10) 2, none, []⟩] false)))))) (.seq (.region 6 [⟨some 4, .asg 0 (.const (.int .u8 0)) 5, none, []⟩] false) .ret)))
def spec_l01Inverse_L : Live := [(0, [0, 1]), (1, [0, 1]), (2, [0, 1, 5]), (3, [0, 1, 5]), (4, [0, 1, 5]), (5, [5]), (6, []), (100008, [0, 1, 5, 8]), (100017, [0, 1, 5, 17])]
theorem spec_l01Inverse_body : Try.f120.body = some (Try.f120.body.getD .skip) := by kernel_rfl
theorem spec_l01Inverse_strip : strip [] (Try.f120.body.getD .skip) = spec_l01Inverse_c := by kernel_rfl
noncomputable def spec_l01Inverse_l1 (a0 : Int) (a1 : Int) (x29 : Int) : Option (Int ⊕ (Unit ⊕ Int)) :=
  (if (decide (x29 < a0)) then (ifp (a0 ≠ 0) ((letp (((Int.tmod (IntKind.i64.wrap (x29 * (IntKind.i64.wrap a1))) a0) == 1)) fun x40 => (if x40 then (some (.inr ((.inr (IntKind.u8.wrap x29))))) else (some (.inl (IntKind.i64.wrap (x29 + 1)))))))) else (some (.inr (((.inl ()))))))
noncomputable def spec_l01Inverse (a0 : Int) (a1 : Int) : Option Int :=
  (Option.bind (α := (Unit ⊕ Int)) ((loopM (fun s : Int => spec_l01Inverse_l1 a0 a1 s) 1)) fun z => match z with | .inl _ => (some 0) | .inr r44 => (some r44))
set_option maxHeartbeats 16000000 in
theorem spec_l01Inverse_ok (a0 : Int) (a1 : Int) (r : Int) (h : spec_l01Inverse a0 a1 = some r) : Den Try.prog 120 [(.int .i64 a0), (.int .u8 a1)] { r := (.int .u8 r) } := by
  refine den_of (rs := [(.int .u8 r)]) (ac := spec_l01Inverse_c) (L := spec_l01Inverse_L) (n := 20) (m := []) good Try.func120 spec_l01Inverse_body (by kernel_rfl) Try.ntmps120 rfl rfl spec_l01Inverse_strip rfl rfl ?_
  refine a_st (σ' := ⟨[(0, (.int .i64 a0)), (1, (.int .u8 a1))], []⟩) (by kernel_rfl) ?_
  unfold spec_l01Inverse_c
  refine a_seq ?_
  refine a_region ?_
  refine a_val (v := (.int .u8 0)) (u := []) rfl trivial rfl ?_
  refine a_nil ?_
  refine a_next (σ' := ⟨[(0, (.int .i64 a0)), (1, (.int .u8 a1))], []⟩) (by kernel_rfl) ?_
  obtain ⟨y21, hy22, hk23⟩ := bind_some h
  clear h
  refine a_join (emb := fun (s : Unit) => ⟨[], []⟩) (pre := fun s => (.inl s) = y21) ?_ ?_
  · rintro _ rfl
    have h := hk23
    refine a_st (σ' := ⟨[], []⟩) (by kernel_rfl) ?_
    refine a_seq ?_
    refine a_region ?_
    refine a_val (v := (.int .u8 0)) (u := []) rfl trivial rfl ?_
    refine a_nil ?_
    refine a_next rfl ?_
    refine a_ret ?_
    refine ⟨.inr rfl, ?_⟩
    rw [Try.results120]
    cases h
    exact ⟨_, _, _, _, _, rfl, trivial, .inl ⟨rfl, .inl rfl⟩, rfl, rfl⟩
  · have h := hy22
    refine a_seq ?_
    refine a_region ?_
    refine a_val (v := (.int .i64 1)) (u := []) rfl trivial rfl ?_
    refine a_nil ?_
    refine a_next (σ' := ⟨[(0, (.int .i64 a0)), (1, (.int .u8 a1)), (5, (.int .i64 1))], []⟩) (by kernel_rfl) ?_
    refine a_block ?_
    refine a_loop (emb := fun (s : Int) => ⟨[(0, (.int .i64 a0)), (1, (.int .u8 a1)), (5, (.int .i64 s))], []⟩) (body := (fun s : Int => spec_l01Inverse_l1 a0 a1 s)) (G := fun q => some q = some y21) h rfl ?_ (by kernel_rfl)
    rintro X35 x29 x36 h hX37
    have h : spec_l01Inverse_l1 a0 a1 x29 = some x36 := h
    refine a_st (σ' := ⟨[(0, (.int .i64 a0)), (1, (.int .u8 a1)), (5, (.int .i64 x29))], []⟩) (by kernel_rfl) ?_
    refine a_seq ?_
    refine a_seq ?_
    refine a_region ?_
    refine a_val (v := (.int .i64 x29)) (u := []) rfl trivial rfl ?_
    refine a_val (v := (.int .i64 a0)) (u := []) rfl trivial rfl ?_
    refine a_val (v := (.bool ((decide (x29 < a0))))) (u := []) rfl trivial rfl ?_
    refine a_nil ?_
    refine a_next (σ' := ⟨[(0, (.int .i64 a0)), (1, (.int .u8 a1)), (5, (.int .i64 x29)), (8, (.bool ((decide (x29 < a0)))))], []⟩) (by kernel_rfl) ?_
    cases hb38 : (decide (x29 < a0))
    · have h := ite_f hb38 h
      refine a_cond_f rfl ?_
      refine a_exit ?_
      refine t_exit ?_
      cases h
      have h := hX37
      refine t_exit ?_
      refine b_exit ?_
      exact j_leaf () (Option.some.inj h) (by kernel_rfl)
    · have h := ite_t hb38 h
      refine a_cond_t rfl ?_
      refine a_skip ?_
      refine a_next (σ' := ⟨[(0, (.int .i64 a0)), (1, (.int .u8 a1)), (5, (.int .i64 x29))], []⟩) (by kernel_rfl) ?_
      refine a_seq ?_
      refine a_block ?_
      refine a_seq ?_
      refine a_region ?_
      refine a_val (v := (.int .i64 x29)) (u := []) rfl trivial rfl ?_
      refine a_val (v := (.int .u8 a1)) (u := []) rfl trivial rfl ?_
      refine a_val (v := (.int .i64 (IntKind.i64.wrap a1))) (u := []) rfl trivial rfl ?_
      refine a_val (v := (.int .i64 (IntKind.i64.wrap (x29 * (IntKind.i64.wrap a1))))) (u := []) rfl trivial rfl ?_
      refine a_val (v := (.int .i64 a0)) (u := []) rfl trivial rfl ?_
      obtain ⟨hc39, h⟩ := ifp_some h
      refine a_val (v := (.int .i64 (Int.tmod (IntKind.i64.wrap (x29 * (IntKind.i64.wrap a1))) a0))) (u := []) rfl hc39 rfl ?_
      obtain ⟨x40, hx41, h⟩ := letp_some h
      refine a_val' (v := (.bool (((Int.tmod (IntKind.i64.wrap (x29 * (IntKind.i64.wrap a1))) a0) == 1)))) (v' := (.bool x40)) (u := []) (u' := []) rfl (congrArg (fun z => ((.bool z) : AV)) hx41) rfl trivial rfl ?_
      refine a_nil ?_
      refine a_next (σ' := ⟨[(0, (.int .i64 a0)), (1, (.int .u8 a1)), (5, (.int .i64 x29)), (17, (.bool x40))], []⟩) (by kernel_rfl) ?_
      cases hb42 : x40
      · have h := ite_f hb42 h
        refine a_cond_f rfl ?_
        refine a_skip ?_
        refine b_norm ?_
        refine a_next (σ' := ⟨[(0, (.int .i64 a0)), (1, (.int .u8 a1)), (5, (.int .i64 x29))], []⟩) (by kernel_rfl) ?_
        refine a_region ?_
        refine a_val (v := (.int .i64 x29)) (u := []) rfl trivial rfl ?_
        refine a_val (v := (.int .i64 (IntKind.i64.wrap (x29 + 1)))) (u := []) rfl trivial rfl ?_
        refine a_val (v := (.int .i64 (IntKind.i64.wrap (x29 + 1)))) (u := []) rfl trivial rfl ?_
        refine a_nil ?_
        cases h
        exact a_again (by kernel_rfl) hX37
      · have h := ite_t hb42 h
        refine a_cond_t rfl ?_
        refine a_seq ?_
        refine a_region ?_
        refine a_val (v := (.int .i64 x29)) (u := []) rfl trivial rfl ?_
        refine a_val (v := (.int .u8 (IntKind.u8.wrap x29))) (u := []) rfl trivial rfl ?_
        refine a_val (v := (.int .u8 (IntKind.u8.wrap x29))) (u := []) rfl trivial rfl ?_
        refine a_nil ?_
        refine a_next rfl ?_
        refine a_ret ?_
        refine b_ret ?_
        refine t_ret ?_
        cases h
        have h := hX37
        refine t_ret ?_
        refine b_ret ?_
        refine t_ret ?_
        cases h
        have h := hk23
        refine ⟨.inr rfl, ?_⟩
        rw [Try.results120]
        cases h
        exact ⟨_, _, _, _, _, rfl, trivial, .inl ⟨rfl, .inl rfl⟩, rfl, rfl⟩
end Go.Proofs.Ytgodhgbnjlflmaa
