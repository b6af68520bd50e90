/- Functions of the program: plain Lean functions, and that the program computes them. Printed by gen.py. -/
import Derived.Test.YtcgohoclbjgmkaaFnT
import Derived.Test.YtcgohoclbjgmkaaFn4
namespace Go.Proofs.Ytcgohoclbjgmkaa
open Go.Abs Go.Proofs
set_option linter.unusedSimpArgs false
set_option linter.unusedVariables false
attribute [local irreducible] Abs.acode Abs.aops Abs.aopsT Abs.thenK Abs.blockK

def impl_prime_divide_c : ACode := (.seq (.region 0 [⟨some 6, .asg 1 (.const (.slice none 0 0)) 65, none, []⟩, ⟨some 7, .asg 1 (.const (.slice none 0 0)) 65, none, []⟩] false) (.seq (.region 1 [⟨some 15, .mov (.tmp 1), none, []⟩, ⟨some 16, .call 0 (.func 152) [(.tmp 15)], none, []⟩, ⟨some 8, .asg 2 (.tmp 16) 65, none, []⟩] false) (.seq (.seq (.region 2 [⟨some 17, .mov (.tmp 1), none, []⟩, ⟨some 18, .blt 0 .len [(.tmp 17)] [65], none, []⟩, ⟨some 19, .mov (.tmp 2), none, []⟩, ⟨some 20, .blt 0 .len [(.tmp 19)] [65], none, []⟩, ⟨some 21, .bin .lss 3 (.tmp 18) (.tmp 20), none, []⟩] false) (.cond (.tmp 21) (.seq (.region 3 [⟨some 22, .mov (.tmp 8), none, []⟩, ⟨some 6, .asg 1 (.const (.slice none 0 0)) 65, none, []⟩, ⟨some 7, .asg 1 (.tmp 22) 65, none, []⟩] false) .ret) .skip)) (.seq (.region 4 [⟨some 23, .mov (.tmp 1), none, []⟩, ⟨some 24, .blt 0 .len [(.tmp 23)] [65], none, []⟩, ⟨some 25, .mov (.tmp 2), none, []⟩, ⟨some 26, .blt 0 .len [(.tmp 25)] [65], none, []⟩, ⟨some 27, .bin .sub 3 (.tmp 24) (.tmp 26), none, []⟩, ⟨some 28, .bin .add 3 (.tmp 27) (.const (.int .i64 1)), none, []⟩, ⟨some 29, .mkslice 65 (.tmp 28) (.tmp 28), none, []⟩, ⟨some 9, .asg 2 (.tmp 29) 65, none, []⟩] false) (.seq (.region 5 [⟨some 30, .mov (.tmp 0), none, []⟩, ⟨some 31, .mov (.tmp 2), none, []⟩, ⟨some 32, .call 0 (.func 101) [(.tmp 31)], none, []⟩, ⟨some 33, .call 0 (.func 106) [(.tmp 30), (.tmp 32)], none, []⟩, ⟨some 10, .asg 0 (.tmp 33) 2, none, []⟩] false) (.seq (.seq (.region 6 [⟨some 34, .mov (.tmp 9), none, []⟩, ⟨some 35, .blt 0 .len [(.tmp 34)] [65], none, []⟩, ⟨some 36, .bin .sub 3 (.tmp 35) (.const (.int .i64 1)), none, []⟩, ⟨some 11, .asg 0 (.tmp 36) 3, none, []⟩] false) (.block 0 (.loop (.seq (.seq (.region 7 [⟨some 37, .mov (.tmp 11), none, []⟩, ⟨some 38, .bin .geq 3 (.tmp 37) (.const (.int .i64 0)), none, []⟩] false) (.cond (.tmp 38) .skip (.exit 0))) (.seq (.block 1 (.seq (.region 9 [⟨some 41, .mov (.tmp 8), none, []⟩, ⟨some 42, .mov (.tmp 11), none, []⟩, ⟨some 43, .mov (.tmp 2), none, []⟩, ⟨some 44, .blt 0 .len [(.tmp 43)] [65], none, []⟩, ⟨some 45, .bin .add 3 (.tmp 42) (.tmp 44), none, []⟩, ⟨some 46, .bin .sub 3 (.tmp 45) (.const (.int .i64 1)), none, []⟩, ⟨some 47, .indexAddr 65 (.tmp 41) (.tmp 46), none, []⟩, ⟨some 48, .load 2 (.tmp 47), none, []⟩, ⟨some 49, .mov (.tmp 10), none, []⟩, ⟨some 50, .bin .mul 2 (.tmp 48) (.tmp 49), none, []⟩, ⟨some 51, .mov (.tmp 0), none, []⟩, ⟨some 52, .bin .rem 2 (.tmp 50) (.tmp 51), none, []⟩, ⟨some 12, .asg 0 (.tmp 52) 2, none, []⟩] false) (.seq (.region 10 [⟨some 53, .mov (.tmp 9), none, []⟩, ⟨some 54, .mov (.tmp 11), none, []⟩, ⟨some 55, .mov (.tmp 12), none, []⟩, ⟨some 56, .indexAddr 65 (.tmp 53) (.tmp 54), none, []⟩, ⟨none, .store 2 (.tmp 56) (.tmp 55), none, []⟩] false) (.seq (.region 11 [⟨some 57, .mov (.tmp 2), none, []⟩, ⟨some 58, .blt 0 .len [(.tmp 57)] [65], none, []⟩, ⟨some 59, .mov (.const (.int .i64 0)), none, []⟩] false) (.block 2 (.loop (.seq (.region 12 [⟨some 60, .bin .lss 3 (.tmp 59) (.tmp 58), none, []⟩] false) (.seq (.cond (.tmp 60) .skip (.exit 2)) (.seq (.block 3 (.seq (.region 13 [⟨some 61, .mov (.tmp 59), none, []⟩, ⟨some 62, .indexAddr 65 (.tmp 57) (.tmp 59), none, []⟩, ⟨some 63, .load 2 (.tmp 62), none, []⟩, ⟨some 13, .asg 0 (.tmp 61) 3, none, []⟩, ⟨some 14, .asg 0 (.tmp 63) 2, none, []⟩] false) (.region 14 [⟨some 64, .mov (.tmp 8), none, []⟩, ⟨some 65, .mov (.tmp 11), none, []⟩, ⟨some 66, .mov (.tmp 13), none, []⟩, ⟨some 67, .bin .add 3 (.tmp 65) (.tmp 66), none, []⟩, ⟨some 68, .mov (.tmp 0), none, []⟩, ⟨some 69, .mov (.tmp 8), none, []⟩, ⟨some 70, .mov (.tmp 11), none, []⟩, ⟨some 71, .mov (.tmp 13), none, []⟩, ⟨some 72, .bin .add 3 (.tmp 70) (.tmp 71), none, []⟩, ⟨some 73, .indexAddr 65 (.tmp 69) (.tmp 72), none, []⟩, ⟨some 74, .load 2 (.tmp 73), none, []⟩, ⟨some 75, .mov (.tmp 12), none, []⟩, ⟨some 76, .mov (.tmp 14), none, []⟩, ⟨some 77, .bin .mul 2 (.tmp 75) (.tmp 76), none, []⟩, ⟨some 78, .bin .sub 2 (.tmp 74) (.tmp 77), none, []⟩, ⟨some 79, .call 0 (.func 138) [(.tmp 68), (.tmp 78)], none, []⟩, ⟨some 80, .indexAddr 65 (.tmp 64) (.tmp 67), none, []⟩, ⟨none, .store 2 (.tmp 80) (.tmp 79), none, []⟩] false))) (.region 15 [⟨some 81, .bin .add 3 (.tmp 59) (.const (.int .i64 1)), none, []⟩, ⟨some 59, .mov (.tmp 81), none, []⟩] false)))))))))) (.region 8 [⟨some 39, .mov (.tmp 11), none, []⟩, ⟨some 40, .bin .sub 3 (.tmp 39) (.const (.int .i64 1)), none, []⟩, ⟨some 11, .asg 0 (.tmp 40) 3, none, []⟩] false)))))) (.seq (.region 16 [⟨some 82, .mov (.tmp 9), none, []⟩, ⟨some 83, .call 0 (.func 102) [(.tmp 82)], none, []⟩, ⟨some 84, .mov (.tmp 8), none, []⟩, ⟨some 85, .call 0 (.func 102) [(.tmp 84)], none, []⟩, ⟨some 6, .asg 1 (.tmp 83) 65, none, []⟩, ⟨some 7, .asg 1 (.tmp 85) 65, none, []⟩] false) .ret)))))))
def impl_prime_divide_L : Live := [(0, [0, 1, 2]), (1, [0, 1, 2]), (2, [0, 1, 2, 8]), (3, [8]), (4, [0, 1, 2, 8]), (5, [0, 2, 8, 9]), (6, [0, 2, 8, 9, 10]), (7, [0, 2, 8, 9, 10, 11]), (8, [0, 2, 8, 9, 10, 11]), (9, [0, 2, 8, 9, 10, 11]), (10, [0, 2, 8, 9, 10, 11, 12]), (11, [0, 2, 8, 9, 10, 11, 12]), (12, [0, 2, 8, 9, 10, 11, 12, 57, 58, 59]), (13, [0, 2, 8, 9, 10, 11, 12, 57, 58, 59]), (14, [0, 2, 8, 9, 10, 11, 12, 13, 14, 57, 58, 59]), (15, [0, 2, 8, 9, 10, 11, 12, 57, 58, 59]), (16, [8, 9]), (100021, [0, 1, 2, 8, 21]), (100038, [0, 2, 8, 9, 10, 11, 38]), (100060, [0, 2, 8, 9, 10, 11, 12, 57, 58, 59, 60])]
theorem impl_prime_divide_body : Try.f139.body = some (Try.f139.body.getD .skip) := by kernel_rfl
theorem impl_prime_divide_strip : strip [(6, 1), (7, 1), (8, 2), (9, 2)] (Try.f139.body.getD .skip) = impl_prime_divide_c := by kernel_rfl
noncomputable def impl_prime_divide_l2 (a2 : (List Int)) (x467 : Int) (x468 : (List Int)) (x641 : Int) (r9 : Int) (a0 : Int) (x469 : (List Int)) (x661 : Int) (x662 : (List Int)) : Option ((Int × (List Int)) ⊕ ((List Int) × (List Int))) :=
  (if (decide (x661 < (a2.length : Int))) then (ifp (0 ≤ x661 ∧ x661 < ((a2.length : Nat) : Int)) ((ifp (0 ≤ IntKind.i64.wrap (x467 + x661) ∧ IntKind.i64.wrap (x467 + x661) < ((x662.length : Nat) : Int)) ((letp (IntKind.i64.wrap ((Int.tmod (IntKind.i64.wrap ((rd x468 x641.toNat) * r9)) a0) * (rd a2 x661.toNat))) fun x684 => (letp (IntKind.i64.wrap (((rd x662 (IntKind.i64.wrap (x467 + x661)).toNat)) - x684)) fun x686 => (Option.bind (impl_prime_reduce a0 x686) fun r688 => (ifp (0 ≤ IntKind.i64.wrap (x467 + x661) ∧ IntKind.i64.wrap (x467 + x661) < ((x662.length : Nat) : Int)) ((some (.inl ((IntKind.i64.wrap (x661 + 1), (x662.set (IntKind.i64.wrap (x467 + x661)).toNat r688)))))))))))))) else (some (.inr (((x662, (x469.set x467.toNat (Int.tmod (IntKind.i64.wrap ((rd x468 x641.toNat) * r9)) a0))))))))
noncomputable def impl_prime_divide_l1 (a2 : (List Int)) (a0 : Int) (r9 : Int) (x467 : Int) (x468 : (List Int)) (x469 : (List Int)) : Option ((Int × (List Int) × (List Int)) ⊕ ((List Int) × (List Int))) :=
  (if (decide (x467 ≥ 0)) then (Option.bind (α := ((List Int) × (List Int))) ((letp (IntKind.i64.wrap ((IntKind.i64.wrap (x467 + (a2.length : Int))) - 1)) fun x641 => (ifp (0 ≤ x641 ∧ x641 < ((x468.length : Nat) : Int)) ((ifp (a0 ≠ 0) ((ifp (0 ≤ x467 ∧ x467 < ((x469.length : Nat) : Int)) ((loopM (fun s : (Int × (List Int)) => impl_prime_divide_l2 a2 x467 x468 x641 r9 a0 x469 s.1 s.2) (0, x468)))))))))) fun ⟨x636, x637⟩ => (some (.inl ((IntKind.i64.wrap (x467 - 1), x636, x637))))) else (some (.inr (x468, x469))))
noncomputable def impl_prime_divide (a0 : Int) (a1 : (List Int)) (a2 : (List Int)) : Option ((List Int) × (List Int)) :=
  (Option.bind (slices_Clone_impl_row_int64_fresh a1) fun r1 => (if (decide ((a1.length : Int) < (a2.length : Int))) then (some ([], r1)) else (letp (IntKind.i64.wrap ((IntKind.i64.wrap ((a1.length : Int) - (a2.length : Int))) + 1)) fun x4 => (ifp (0 ≤ x4 ∧ x4 ≤ 140737488355328 ∧ 8 * x4 ≤ 140737488355328) ((Option.bind (impl_row_lead a2) fun r7 => (Option.bind (impl_prime_inverse a0 r7) fun r9 => (Option.bind (α := ((List Int) × (List Int))) ((letp (IntKind.i64.wrap ((((List.replicate x4.toNat (0 : Int)).length : Int)) - 1)) fun x355 => (loopM (fun s : (Int × (List Int) × (List Int)) => impl_prime_divide_l1 a2 a0 r9 s.1 s.2.1 s.2.2) (x355, r1, List.replicate x4.toNat (0 : Int))))) fun ⟨x350, x351⟩ => (Option.bind (impl_row_trimmed x351) fun r694 => (Option.bind (impl_row_trimmed x350) fun r696 => (some (r694, r696))))))))))))
set_option maxHeartbeats 16000000 in
theorem impl_prime_divide_ok (a0 : Int) (a1 : (List Int)) (a2 : (List Int)) (r : ((List Int) × (List Int))) (h : impl_prime_divide a0 a1 a2 = some r) : Den Try.prog 139 [(.int .i64 a0), (eSi64 a1), (eSi64 a2)] { r := (.tuple [(eSi64 r.1), (eSi64 r.2)]) } := by
  refine den_of (rs := [(eSi64 r.1), (eSi64 r.2)]) (ac := impl_prime_divide_c) (L := impl_prime_divide_L) (n := 86) (m := [(6, 1), (7, 1), (8, 2), (9, 2)]) good Try.func139 impl_prime_divide_body (by kernel_rfl) Try.ntmps139 rfl rfl impl_prime_divide_strip rfl rfl ?_
  refine a_st (σ' := ⟨[(0, (.int .i64 a0)), (1, (eSi64 a1)), (2, (eSi64 a2))], []⟩) (by kernel_rfl) ?_
  unfold impl_prime_divide_c
  refine a_seq ?_
  refine a_region ?_
  refine a_val (v := (eSi64 ([]))) (u := []) rfl trivial rfl ?_
  refine a_val (v := (eSi64 ([]))) (u := []) rfl trivial rfl ?_
  refine a_nil ?_
  refine a_next (σ' := ⟨[(0, (.int .i64 a0)), (1, (eSi64 a1)), (2, (eSi64 a2))], []⟩) (by kernel_rfl) ?_
  refine a_seq ?_
  refine a_region ?_
  refine a_val (v := (eSi64 a1)) (u := []) rfl trivial rfl ?_
  obtain ⟨r1, hr2, h⟩ := bind_some h
  refine a_callF (args := [(eSi64 a1)]) (u := []) (u2 := []) (r := (.osl 2000000)) (fs := [(1, r1.map (AV.int .i64))]) rfl rfl (slices_Clone_impl_row_int64_fresh_ok a1 r1 hr2) rfl rfl rfl (.inl rfl) rfl ?_
  refine a_val (v := (.osl 2600)) (u := []) rfl trivial rfl ?_
  refine a_nil ?_
  refine a_next (σ' := ⟨[(0, (.int .i64 a0)), (1, (eSi64 a1)), (2, (eSi64 a2)), (8, (.osl 8))], [(8, some ⟨(.row 1 (r1.map (AV.int .i64))), false⟩)]⟩) (by kernel_rfl) ?_
  refine a_seq ?_
  refine a_seq ?_
  refine a_region ?_
  refine a_val (v := (eSi64 a1)) (u := []) rfl trivial rfl ?_
  refine a_val (v := (.int .i64 (a1.length : Int))) (u := []) (len_run rfl rfl) trivial rfl ?_
  refine a_val (v := (eSi64 a2)) (u := []) rfl trivial rfl ?_
  refine a_val (v := (.int .i64 (a2.length : Int))) (u := []) (len_run rfl rfl) trivial rfl ?_
  refine a_val (v := (.bool ((decide ((a1.length : Int) < (a2.length : Int)))))) (u := []) rfl trivial rfl ?_
  refine a_nil ?_
  refine a_next (σ' := ⟨[(0, (.int .i64 a0)), (1, (eSi64 a1)), (2, (eSi64 a2)), (8, (.osl 8)), (21, (.bool ((decide ((a1.length : Int) < (a2.length : Int))))))], [(8, some ⟨(.row 1 (r1.map (AV.int .i64))), false⟩)]⟩) (by kernel_rfl) ?_
  cases hb3 : (decide ((a1.length : Int) < (a2.length : Int)))
  · have h := ite_f hb3 h
    refine a_cond_f rfl ?_
    refine a_skip ?_
    refine a_next (σ' := ⟨[(0, (.int .i64 a0)), (1, (eSi64 a1)), (2, (eSi64 a2)), (8, (.osl 8))], [(8, some ⟨(.row 1 (r1.map (AV.int .i64))), false⟩)]⟩) (by kernel_rfl) ?_
    refine a_seq ?_
    refine a_region ?_
    refine a_val (v := (eSi64 a1)) (u := []) rfl trivial rfl ?_
    refine a_val (v := (.int .i64 (a1.length : Int))) (u := []) (len_run rfl rfl) trivial rfl ?_
    refine a_val (v := (eSi64 a2)) (u := []) rfl trivial rfl ?_
    refine a_val (v := (.int .i64 (a2.length : Int))) (u := []) (len_run rfl rfl) trivial rfl ?_
    refine a_val (v := (.int .i64 (IntKind.i64.wrap ((a1.length : Int) - (a2.length : Int))))) (u := []) rfl trivial rfl ?_
    obtain ⟨x4, hx5, h⟩ := letp_some h
    refine a_val' (v := (.int .i64 (IntKind.i64.wrap ((IntKind.i64.wrap ((a1.length : Int) - (a2.length : Int))) + 1)))) (v' := (.int .i64 x4)) (u := []) (u' := []) rfl (congrArg (fun z => ((.int .i64 z) : AV)) hx5) rfl trivial rfl ?_
    obtain ⟨hc6, h⟩ := ifp_some h
    refine a_val (v := (.osl 3900)) (u := [(3900, some ⟨(.row 1 ((List.replicate x4.toNat (0 : Int)).map (AV.int .i64))), false⟩)]) (mk_run (i := ⟨.int .i64, 1, 8, (.int .i64 0)⟩) (f := (AV.int .i64)) (y := (0 : Int)) rfl rfl rfl rfl rfl rfl) ⟨rfl, hc6.1, hc6.2.1, hc6.2.2, (Nat.le_of_ble_eq_true rfl)⟩ rfl ?_
    refine a_val (v := (.osl 3900)) (u := []) rfl trivial rfl ?_
    refine a_nil ?_
    refine a_next (σ' := ⟨[(0, (.int .i64 a0)), (2, (eSi64 a2)), (8, (.osl 8)), (9, (.osl 9))], [(8, some ⟨(.row 1 (r1.map (AV.int .i64))), false⟩), (9, some ⟨(.row 1 ((List.replicate x4.toNat (0 : Int)).map (AV.int .i64))), false⟩)]⟩) (by kernel_rfl) ?_
    refine a_seq ?_
    refine a_region ?_
    refine a_val (v := (.int .i64 a0)) (u := []) rfl trivial rfl ?_
    refine a_val (v := (eSi64 a2)) (u := []) rfl trivial rfl ?_
    obtain ⟨r7, hr8, h⟩ := bind_some h
    refine a_call (args := [(eSi64 a2)]) (u := []) (r := (.int .i64 r7)) rfl rfl (impl_row_lead_ok a2 r7 hr8) rfl ?_
    obtain ⟨r9, hr10, h⟩ := bind_some h
    refine a_call (args := [(.int .i64 a0), (.int .i64 r7)]) (u := []) (r := (.int .i64 r9)) rfl rfl (impl_prime_inverse_ok a0 r7 r9 hr10) rfl ?_
    refine a_val (v := (.int .i64 r9)) (u := []) rfl trivial rfl ?_
    refine a_nil ?_
    refine a_next (σ' := ⟨[(0, (.int .i64 a0)), (2, (eSi64 a2)), (8, (.osl 8)), (9, (.osl 9)), (10, (.int .i64 r9))], [(8, some ⟨(.row 1 (r1.map (AV.int .i64))), false⟩), (9, some ⟨(.row 1 ((List.replicate x4.toNat (0 : Int)).map (AV.int .i64))), false⟩)]⟩) (by kernel_rfl) ?_
    obtain ⟨y352, hy353, hk354⟩ := bind_some h
    clear h
    refine a_join (emb := fun (s : ((List Int) × (List Int))) => ⟨[(8, (.osl 8)), (9, (.osl 9))], [(8, some ⟨(.row 1 (s.1.map (AV.int .i64))), false⟩), (9, some ⟨(.row 1 (s.2.map (AV.int .i64))), false⟩)]⟩) (pre := fun s => s = y352) ?_ ?_
    · rintro ⟨x350, x351⟩ rfl
      have h := hk354
      refine a_st (σ' := ⟨[(8, (.osl 8)), (9, (.osl 9))], [(8, some ⟨(.row 1 (x350.map (AV.int .i64))), false⟩), (9, some ⟨(.row 1 (x351.map (AV.int .i64))), false⟩)]⟩) (by kernel_rfl) ?_
      refine a_seq ?_
      refine a_region ?_
      refine a_val (v := (.osl 9)) (u := []) rfl trivial rfl ?_
      obtain ⟨r694, hr695, h⟩ := bind_some h
      refine a_call (args := [(eSi64 x351)]) (u := [(9, some ⟨(.row 1 (x351.map (AV.int .i64))), true⟩)]) (r := (eSi64 r694)) rfl rfl (impl_row_trimmed_ok x351 r694 hr695) rfl ?_
      refine a_val (v := (.osl 8)) (u := []) rfl trivial rfl ?_
      obtain ⟨r696, hr697, h⟩ := bind_some h
      refine a_call (args := [(eSi64 x350)]) (u := [(8, some ⟨(.row 1 (x350.map (AV.int .i64))), true⟩)]) (r := (eSi64 r696)) rfl rfl (impl_row_trimmed_ok x350 r696 hr697) rfl ?_
      refine a_val (v := (eSi64 r694)) (u := []) rfl trivial rfl ?_
      refine a_val (v := (eSi64 r696)) (u := []) rfl trivial rfl ?_
      refine a_nil ?_
      refine a_next rfl ?_
      refine a_ret ?_
      refine ⟨.inr rfl, ?_⟩
      rw [Try.results139]
      cases h
      exact ⟨_, _, _, _, _, rfl, trivial, .inl ⟨rfl, .inl rfl⟩, rfl, ⟨_, _, _, _, _, rfl, trivial, .inl ⟨rfl, .inl rfl⟩, rfl, rfl⟩⟩
    · have h := hy353
      refine a_seq ?_
      refine a_region ?_
      refine a_val (v := (.osl 9)) (u := []) rfl trivial rfl ?_
      refine a_val (v := (.int .i64 (((List.replicate x4.toNat (0 : Int)).length : Int)))) (u := []) (leno_run rfl rfl rfl) trivial rfl ?_
      obtain ⟨x355, hx356, h⟩ := letp_some h
      refine a_val' (v := (.int .i64 (IntKind.i64.wrap ((((List.replicate x4.toNat (0 : Int)).length : Int)) - 1)))) (v' := (.int .i64 x355)) (u := []) (u' := []) rfl (congrArg (fun z => ((.int .i64 z) : AV)) hx356) rfl trivial rfl ?_
      refine a_val (v := (.int .i64 x355)) (u := []) rfl trivial rfl ?_
      refine a_nil ?_
      refine a_next (σ' := ⟨[(0, (.int .i64 a0)), (2, (eSi64 a2)), (8, (.osl 8)), (9, (.osl 9)), (10, (.int .i64 r9)), (11, (.int .i64 x355))], [(8, some ⟨(.row 1 (r1.map (AV.int .i64))), false⟩), (9, some ⟨(.row 1 ((List.replicate x4.toNat (0 : Int)).map (AV.int .i64))), false⟩)]⟩) (by kernel_rfl) ?_
      refine a_block ?_
      refine a_loop (emb := fun (s : (Int × (List Int) × (List Int))) => ⟨[(0, (.int .i64 a0)), (2, (eSi64 a2)), (8, (.osl 8)), (9, (.osl 9)), (10, (.int .i64 r9)), (11, (.int .i64 s.1))], [(8, some ⟨(.row 1 (s.2.1.map (AV.int .i64))), false⟩), (9, some ⟨(.row 1 (s.2.2.map (AV.int .i64))), false⟩)]⟩) (body := (fun s : (Int × (List Int) × (List Int)) => impl_prime_divide_l1 a2 a0 r9 s.1 s.2.1 s.2.2)) (G := fun q => some q = some y352) h rfl ?_ (by kernel_rfl)
      rintro X580 ⟨x467, x468, x469⟩ x581 h hX582
      have h : impl_prime_divide_l1 a2 a0 r9 x467 x468 x469 = some x581 := h
      refine a_st (σ' := ⟨[(0, (.int .i64 a0)), (2, (eSi64 a2)), (8, (.osl 8)), (9, (.osl 9)), (10, (.int .i64 r9)), (11, (.int .i64 x467))], [(8, some ⟨(.row 1 (x468.map (AV.int .i64))), false⟩), (9, some ⟨(.row 1 (x469.map (AV.int .i64))), false⟩)]⟩) (by kernel_rfl) ?_
      refine a_seq ?_
      refine a_seq ?_
      refine a_region ?_
      refine a_val (v := (.int .i64 x467)) (u := []) rfl trivial rfl ?_
      refine a_val (v := (.bool ((decide (x467 ≥ 0))))) (u := []) rfl trivial rfl ?_
      refine a_nil ?_
      refine a_next (σ' := ⟨[(0, (.int .i64 a0)), (2, (eSi64 a2)), (8, (.osl 8)), (9, (.osl 9)), (10, (.int .i64 r9)), (11, (.int .i64 x467)), (38, (.bool ((decide (x467 ≥ 0)))))], [(8, some ⟨(.row 1 (x468.map (AV.int .i64))), false⟩), (9, some ⟨(.row 1 (x469.map (AV.int .i64))), false⟩)]⟩) (by kernel_rfl) ?_
      cases hb583 : (decide (x467 ≥ 0))
      · have h := ite_f hb583 h
        refine a_cond_f rfl ?_
        refine a_exit ?_
        refine t_exit ?_
        cases h
        have h := hX582
        refine t_exit ?_
        refine b_exit ?_
        exact j_leaf (x468, x469) (Option.some.inj h) (by kernel_rfl)
      · have h := ite_t hb583 h
        refine a_cond_t rfl ?_
        refine a_skip ?_
        refine a_next (σ' := ⟨[(0, (.int .i64 a0)), (2, (eSi64 a2)), (8, (.osl 8)), (9, (.osl 9)), (10, (.int .i64 r9)), (11, (.int .i64 x467))], [(8, some ⟨(.row 1 (x468.map (AV.int .i64))), false⟩), (9, some ⟨(.row 1 (x469.map (AV.int .i64))), false⟩)]⟩) (by kernel_rfl) ?_
        obtain ⟨y638, hy639, hk640⟩ := bind_some h
        clear h
        refine a_join (emb := fun (s : ((List Int) × (List Int))) => ⟨[(0, (.int .i64 a0)), (2, (eSi64 a2)), (8, (.osl 8)), (9, (.osl 9)), (10, (.int .i64 r9)), (11, (.int .i64 x467))], [(8, some ⟨(.row 1 (s.1.map (AV.int .i64))), false⟩), (9, some ⟨(.row 1 (s.2.map (AV.int .i64))), false⟩)]⟩) (pre := fun s => s = y638) ?_ ?_
        · rintro ⟨x636, x637⟩ rfl
          have h := hk640
          refine a_st (σ' := ⟨[(0, (.int .i64 a0)), (2, (eSi64 a2)), (8, (.osl 8)), (9, (.osl 9)), (10, (.int .i64 r9)), (11, (.int .i64 x467))], [(8, some ⟨(.row 1 (x636.map (AV.int .i64))), false⟩), (9, some ⟨(.row 1 (x637.map (AV.int .i64))), false⟩)]⟩) (by kernel_rfl) ?_
          refine a_region ?_
          refine a_val (v := (.int .i64 x467)) (u := []) rfl trivial rfl ?_
          refine a_val (v := (.int .i64 (IntKind.i64.wrap (x467 - 1)))) (u := []) rfl trivial rfl ?_
          refine a_val (v := (.int .i64 (IntKind.i64.wrap (x467 - 1)))) (u := []) rfl trivial rfl ?_
          refine a_nil ?_
          cases h
          exact a_again (by kernel_rfl) hX582
        · have h := hy639
          refine a_block ?_
          refine a_seq ?_
          refine a_region ?_
          refine a_val (v := (.osl 8)) (u := []) rfl trivial rfl ?_
          refine a_val (v := (.int .i64 x467)) (u := []) rfl trivial rfl ?_
          refine a_val (v := (eSi64 a2)) (u := []) rfl trivial rfl ?_
          refine a_val (v := (.int .i64 (a2.length : Int))) (u := []) (len_run rfl rfl) trivial rfl ?_
          refine a_val (v := (.int .i64 (IntKind.i64.wrap (x467 + (a2.length : Int))))) (u := []) rfl trivial rfl ?_
          obtain ⟨x641, hx642, h⟩ := letp_some h
          refine a_val' (v := (.int .i64 (IntKind.i64.wrap ((IntKind.i64.wrap (x467 + (a2.length : Int))) - 1)))) (v' := (.int .i64 x641)) (u := []) (u' := []) rfl (congrArg (fun z => ((.int .i64 z) : AV)) hx642) rfl trivial rfl ?_
          obtain ⟨hc643, h⟩ := ifp_some h
          refine a_val (v := (.own 8 [x641.toNat] [x641.toNat * 1])) (u := []) rfl (lmap hc643) rfl ?_
          have hl644 : LdOk [x641.toNat] (.row 1 (x468.map (AV.int .i64))) [x641.toNat * 1] 1 false (.int .i64 (rd x468 x641.toNat)) := (.row (llt hc643) rfl (.nil rfl rfl rfl))
          refine a_val (v := (.int .i64 (rd x468 x641.toNat))) (u := []) (ld_own (i := ⟨.int .i64, 1, 8, (.int .i64 0)⟩) rfl rfl rfl hl644) hl644.c rfl ?_
          refine a_val (v := (.int .i64 r9)) (u := []) rfl trivial rfl ?_
          refine a_val (v := (.int .i64 (IntKind.i64.wrap ((rd x468 x641.toNat) * r9)))) (u := []) rfl trivial rfl ?_
          refine a_val (v := (.int .i64 a0)) (u := []) rfl trivial rfl ?_
          obtain ⟨hc645, h⟩ := ifp_some h
          refine a_val (v := (.int .i64 (Int.tmod (IntKind.i64.wrap ((rd x468 x641.toNat) * r9)) a0))) (u := []) rfl hc645 rfl ?_
          refine a_val (v := (.int .i64 (Int.tmod (IntKind.i64.wrap ((rd x468 x641.toNat) * r9)) a0))) (u := []) rfl trivial rfl ?_
          refine a_nil ?_
          refine a_next (σ' := ⟨[(0, (.int .i64 a0)), (2, (eSi64 a2)), (8, (.osl 8)), (9, (.osl 9)), (10, (.int .i64 r9)), (11, (.int .i64 x467)), (12, (.int .i64 (Int.tmod (IntKind.i64.wrap ((rd x468 x641.toNat) * r9)) a0)))], [(8, some ⟨(.row 1 (x468.map (AV.int .i64))), false⟩), (9, some ⟨(.row 1 (x469.map (AV.int .i64))), false⟩)]⟩) (by kernel_rfl) ?_
          refine a_seq ?_
          refine a_region ?_
          refine a_val (v := (.osl 9)) (u := []) rfl trivial rfl ?_
          refine a_val (v := (.int .i64 x467)) (u := []) rfl trivial rfl ?_
          refine a_val (v := (.int .i64 (Int.tmod (IntKind.i64.wrap ((rd x468 x641.toNat) * r9)) a0))) (u := []) rfl trivial rfl ?_
          obtain ⟨hc646, h⟩ := ifp_some h
          refine a_val (v := (.own 9 [x467.toNat] [x467.toNat * 1])) (u := []) rfl (lmap hc646) rfl ?_
          have hs647 : StOk [x467.toNat] (.row 1 (x469.map (AV.int .i64))) [x467.toNat * 1] 1 (.int .i64 (Int.tmod (IntKind.i64.wrap ((rd x468 x641.toNat) * r9)) a0)) (.row 1 (((x469.set x467.toNat (Int.tmod (IntKind.i64.wrap ((rd x468 x641.toNat) * r9)) a0))).map (AV.int .i64))) := (.row (y := Int.tmod (IntKind.i64.wrap ((rd x468 x641.toNat) * r9)) a0) (llt hc646) rfl (.nil rfl rfl rfl rfl))
          refine a_val (v := .top) (u := [(9, some ⟨(.row 1 (((x469.set x467.toNat (Int.tmod (IntKind.i64.wrap ((rd x468 x641.toNat) * r9)) a0))).map (AV.int .i64))), false⟩)]) (st_own (i := ⟨.int .i64, 1, 8, (.int .i64 0)⟩) rfl rfl (fun _ => rfl) rfl hs647) (hs647.c rfl) rfl ?_
          refine a_nil ?_
          refine a_next (σ' := ⟨[(0, (.int .i64 a0)), (2, (eSi64 a2)), (8, (.osl 8)), (9, (.osl 9)), (10, (.int .i64 r9)), (11, (.int .i64 x467)), (12, (.int .i64 (Int.tmod (IntKind.i64.wrap ((rd x468 x641.toNat) * r9)) a0)))], [(8, some ⟨(.row 1 (x468.map (AV.int .i64))), false⟩), (9, some ⟨(.row 1 (((x469.set x467.toNat (Int.tmod (IntKind.i64.wrap ((rd x468 x641.toNat) * r9)) a0))).map (AV.int .i64))), false⟩)]⟩) (by kernel_rfl) ?_
          refine a_seq ?_
          refine a_region ?_
          refine a_val (v := (eSi64 a2)) (u := []) rfl trivial rfl ?_
          refine a_val (v := (.int .i64 (a2.length : Int))) (u := []) (len_run rfl rfl) trivial rfl ?_
          refine a_val (v := (.int .i64 0)) (u := []) rfl trivial rfl ?_
          refine a_nil ?_
          refine a_next (σ' := ⟨[(0, (.int .i64 a0)), (2, (eSi64 a2)), (8, (.osl 8)), (9, (.osl 9)), (10, (.int .i64 r9)), (11, (.int .i64 x467)), (12, (.int .i64 (Int.tmod (IntKind.i64.wrap ((rd x468 x641.toNat) * r9)) a0))), (57, (eSi64 a2)), (58, (.int .i64 (a2.length : Int))), (59, (.int .i64 0))], [(8, some ⟨(.row 1 (x468.map (AV.int .i64))), false⟩), (9, some ⟨(.row 1 (((x469.set x467.toNat (Int.tmod (IntKind.i64.wrap ((rd x468 x641.toNat) * r9)) a0))).map (AV.int .i64))), false⟩)]⟩) (by kernel_rfl) ?_
          refine a_block ?_
          refine a_loop (emb := fun (s : (Int × (List Int))) => ⟨[(0, (.int .i64 a0)), (2, (eSi64 a2)), (8, (.osl 8)), (9, (.osl 9)), (10, (.int .i64 r9)), (11, (.int .i64 x467)), (12, (.int .i64 (Int.tmod (IntKind.i64.wrap ((rd x468 x641.toNat) * r9)) a0))), (57, (eSi64 a2)), (58, (.int .i64 (a2.length : Int))), (59, (.int .i64 s.1))], [(8, some ⟨(.row 1 (s.2.map (AV.int .i64))), false⟩), (9, some ⟨(.row 1 (((x469.set x467.toNat (Int.tmod (IntKind.i64.wrap ((rd x468 x641.toNat) * r9)) a0))).map (AV.int .i64))), false⟩)]⟩) (body := (fun s : (Int × (List Int)) => impl_prime_divide_l2 a2 x467 x468 x641 r9 a0 x469 s.1 s.2)) (G := fun q => some q = some y638) h rfl ?_ (by kernel_rfl)
          rintro X676 ⟨x661, x662⟩ x677 h hX678
          have h : impl_prime_divide_l2 a2 x467 x468 x641 r9 a0 x469 x661 x662 = some x677 := h
          refine a_st (σ' := ⟨[(0, (.int .i64 a0)), (2, (eSi64 a2)), (8, (.osl 8)), (9, (.osl 9)), (10, (.int .i64 r9)), (11, (.int .i64 x467)), (12, (.int .i64 (Int.tmod (IntKind.i64.wrap ((rd x468 x641.toNat) * r9)) a0))), (57, (eSi64 a2)), (58, (.int .i64 (a2.length : Int))), (59, (.int .i64 x661))], [(8, some ⟨(.row 1 (x662.map (AV.int .i64))), false⟩), (9, some ⟨(.row 1 (((x469.set x467.toNat (Int.tmod (IntKind.i64.wrap ((rd x468 x641.toNat) * r9)) a0))).map (AV.int .i64))), false⟩)]⟩) (by kernel_rfl) ?_
          refine a_seq ?_
          refine a_region ?_
          refine a_val (v := (.bool ((decide (x661 < (a2.length : Int)))))) (u := []) rfl trivial rfl ?_
          refine a_nil ?_
          refine a_next (σ' := ⟨[(0, (.int .i64 a0)), (2, (eSi64 a2)), (8, (.osl 8)), (9, (.osl 9)), (10, (.int .i64 r9)), (11, (.int .i64 x467)), (12, (.int .i64 (Int.tmod (IntKind.i64.wrap ((rd x468 x641.toNat) * r9)) a0))), (57, (eSi64 a2)), (58, (.int .i64 (a2.length : Int))), (59, (.int .i64 x661)), (60, (.bool ((decide (x661 < (a2.length : Int))))))], [(8, some ⟨(.row 1 (x662.map (AV.int .i64))), false⟩), (9, some ⟨(.row 1 (((x469.set x467.toNat (Int.tmod (IntKind.i64.wrap ((rd x468 x641.toNat) * r9)) a0))).map (AV.int .i64))), false⟩)]⟩) (by kernel_rfl) ?_
          refine a_seq ?_
          cases hb679 : (decide (x661 < (a2.length : Int)))
          · have h := ite_f hb679 h
            refine a_cond_f rfl ?_
            refine a_exit ?_
            refine t_exit ?_
            cases h
            have h := hX678
            refine t_exit ?_
            refine b_exit ?_
            refine b_norm ?_
            exact j_leaf ((x662, (x469.set x467.toNat (Int.tmod (IntKind.i64.wrap ((rd x468 x641.toNat) * r9)) a0)))) (Option.some.inj h) (by kernel_rfl)
          · have h := ite_t hb679 h
            refine a_cond_t rfl ?_
            refine a_skip ?_
            refine a_next (σ' := ⟨[(0, (.int .i64 a0)), (2, (eSi64 a2)), (8, (.osl 8)), (9, (.osl 9)), (10, (.int .i64 r9)), (11, (.int .i64 x467)), (12, (.int .i64 (Int.tmod (IntKind.i64.wrap ((rd x468 x641.toNat) * r9)) a0))), (57, (eSi64 a2)), (58, (.int .i64 (a2.length : Int))), (59, (.int .i64 x661))], [(8, some ⟨(.row 1 (x662.map (AV.int .i64))), false⟩), (9, some ⟨(.row 1 (((x469.set x467.toNat (Int.tmod (IntKind.i64.wrap ((rd x468 x641.toNat) * r9)) a0))).map (AV.int .i64))), false⟩)]⟩) (by kernel_rfl) ?_
            refine a_seq ?_
            refine a_block ?_
            refine a_seq ?_
            refine a_region ?_
            refine a_val (v := (.int .i64 x661)) (u := []) rfl trivial rfl ?_
            obtain ⟨hc680, h⟩ := ifp_some h
            refine a_val (v := (.ref (.row 1 (a2.map (AV.int .i64))) [x661.toNat] [x661.toNat * 1])) (u := []) rfl (lmap hc680) rfl ?_
            have hl681 : LdOk [x661.toNat] (.row 1 (a2.map (AV.int .i64))) [x661.toNat * 1] 1 false (.int .i64 (rd a2 x661.toNat)) := (.row (llt hc680) rfl (.nil rfl rfl rfl))
            refine a_val (v := (.int .i64 (rd a2 x661.toNat))) (u := []) (ld_ref (i := ⟨.int .i64, 1, 8, (.int .i64 0)⟩) rfl rfl hl681) hl681.c rfl ?_
            refine a_val (v := (.int .i64 x661)) (u := []) rfl trivial rfl ?_
            refine a_val (v := (.int .i64 (rd a2 x661.toNat))) (u := []) rfl trivial rfl ?_
            refine a_nil ?_
            refine a_next (σ' := ⟨[(0, (.int .i64 a0)), (2, (eSi64 a2)), (8, (.osl 8)), (9, (.osl 9)), (10, (.int .i64 r9)), (11, (.int .i64 x467)), (12, (.int .i64 (Int.tmod (IntKind.i64.wrap ((rd x468 x641.toNat) * r9)) a0))), (13, (.int .i64 x661)), (14, (.int .i64 (rd a2 x661.toNat))), (57, (eSi64 a2)), (58, (.int .i64 (a2.length : Int))), (59, (.int .i64 x661))], [(8, some ⟨(.row 1 (x662.map (AV.int .i64))), false⟩), (9, some ⟨(.row 1 (((x469.set x467.toNat (Int.tmod (IntKind.i64.wrap ((rd x468 x641.toNat) * r9)) a0))).map (AV.int .i64))), false⟩)]⟩) (by kernel_rfl) ?_
            refine a_region ?_
            refine a_val (v := (.osl 8)) (u := []) rfl trivial rfl ?_
            refine a_val (v := (.int .i64 x467)) (u := []) rfl trivial rfl ?_
            refine a_val (v := (.int .i64 x661)) (u := []) rfl trivial rfl ?_
            refine a_val (v := (.int .i64 (IntKind.i64.wrap (x467 + x661)))) (u := []) rfl trivial rfl ?_
            refine a_val (v := (.int .i64 a0)) (u := []) rfl trivial rfl ?_
            refine a_val (v := (.osl 8)) (u := []) rfl trivial rfl ?_
            refine a_val (v := (.int .i64 x467)) (u := []) rfl trivial rfl ?_
            refine a_val (v := (.int .i64 x661)) (u := []) rfl trivial rfl ?_
            refine a_val (v := (.int .i64 (IntKind.i64.wrap (x467 + x661)))) (u := []) rfl trivial rfl ?_
            obtain ⟨hc682, h⟩ := ifp_some h
            refine a_val (v := (.own 8 [(IntKind.i64.wrap (x467 + x661)).toNat] [(IntKind.i64.wrap (x467 + x661)).toNat * 1])) (u := []) rfl (lmap hc682) rfl ?_
            have hl683 : LdOk [(IntKind.i64.wrap (x467 + x661)).toNat] (.row 1 (x662.map (AV.int .i64))) [(IntKind.i64.wrap (x467 + x661)).toNat * 1] 1 false (.int .i64 ((rd x662 (IntKind.i64.wrap (x467 + x661)).toNat))) := (.row (llt hc682) rfl (.nil rfl rfl rfl))
            refine a_val (v := (.int .i64 ((rd x662 (IntKind.i64.wrap (x467 + x661)).toNat)))) (u := []) (ld_own (i := ⟨.int .i64, 1, 8, (.int .i64 0)⟩) rfl rfl rfl hl683) hl683.c rfl ?_
            refine a_val (v := (.int .i64 (Int.tmod (IntKind.i64.wrap ((rd x468 x641.toNat) * r9)) a0))) (u := []) rfl trivial rfl ?_
            refine a_val (v := (.int .i64 (rd a2 x661.toNat))) (u := []) rfl trivial rfl ?_
            obtain ⟨x684, hx685, h⟩ := letp_some h
            refine a_val' (v := (.int .i64 (IntKind.i64.wrap ((Int.tmod (IntKind.i64.wrap ((rd x468 x641.toNat) * r9)) a0) * (rd a2 x661.toNat))))) (v' := (.int .i64 x684)) (u := []) (u' := []) rfl (congrArg (fun z => ((.int .i64 z) : AV)) hx685) rfl trivial rfl ?_
            obtain ⟨x686, hx687, h⟩ := letp_some h
            refine a_val' (v := (.int .i64 (IntKind.i64.wrap (((rd x662 (IntKind.i64.wrap (x467 + x661)).toNat)) - x684)))) (v' := (.int .i64 x686)) (u := []) (u' := []) rfl (congrArg (fun z => ((.int .i64 z) : AV)) hx687) rfl trivial rfl ?_
            obtain ⟨r688, hr689, h⟩ := bind_some h
            refine a_call (args := [(.int .i64 a0), (.int .i64 x686)]) (u := []) (r := (.int .i64 r688)) rfl rfl (impl_prime_reduce_ok a0 x686 r688 hr689) rfl ?_
            obtain ⟨hc690, h⟩ := ifp_some h
            refine a_val (v := (.own 8 [(IntKind.i64.wrap (x467 + x661)).toNat] [(IntKind.i64.wrap (x467 + x661)).toNat * 1])) (u := []) rfl (lmap hc690) rfl ?_
            have hs691 : StOk [(IntKind.i64.wrap (x467 + x661)).toNat] (.row 1 (x662.map (AV.int .i64))) [(IntKind.i64.wrap (x467 + x661)).toNat * 1] 1 (.int .i64 r688) (.row 1 (((x662.set (IntKind.i64.wrap (x467 + x661)).toNat r688)).map (AV.int .i64))) := (.row (y := r688) (llt hc690) rfl (.nil rfl rfl rfl rfl))
            refine a_val (v := .top) (u := [(8, some ⟨(.row 1 (((x662.set (IntKind.i64.wrap (x467 + x661)).toNat r688)).map (AV.int .i64))), false⟩)]) (st_own (i := ⟨.int .i64, 1, 8, (.int .i64 0)⟩) rfl rfl (fun _ => rfl) rfl hs691) (hs691.c rfl) rfl ?_
            refine a_nil ?_
            refine b_norm ?_
            refine a_next (σ' := ⟨[(0, (.int .i64 a0)), (2, (eSi64 a2)), (8, (.osl 8)), (9, (.osl 9)), (10, (.int .i64 r9)), (11, (.int .i64 x467)), (12, (.int .i64 (Int.tmod (IntKind.i64.wrap ((rd x468 x641.toNat) * r9)) a0))), (57, (eSi64 a2)), (58, (.int .i64 (a2.length : Int))), (59, (.int .i64 x661))], [(8, some ⟨(.row 1 (((x662.set (IntKind.i64.wrap (x467 + x661)).toNat r688)).map (AV.int .i64))), false⟩), (9, some ⟨(.row 1 (((x469.set x467.toNat (Int.tmod (IntKind.i64.wrap ((rd x468 x641.toNat) * r9)) a0))).map (AV.int .i64))), false⟩)]⟩) (by kernel_rfl) ?_
            refine a_region ?_
            refine a_val (v := (.int .i64 (IntKind.i64.wrap (x661 + 1)))) (u := []) rfl trivial rfl ?_
            refine a_val (v := (.int .i64 (IntKind.i64.wrap (x661 + 1)))) (u := []) rfl trivial rfl ?_
            refine a_nil ?_
            cases h
            exact a_again (by kernel_rfl) hX678
  · have h := ite_t hb3 h
    refine a_cond_t rfl ?_
    refine a_seq ?_
    refine a_region ?_
    refine a_val (v := (.osl 8)) (u := []) rfl trivial rfl ?_
    refine a_val (v := (eSi64 ([]))) (u := []) rfl trivial rfl ?_
    refine a_val (v := (eSi64 r1)) (u := [(8, some ⟨(.row 1 (r1.map (AV.int .i64))), true⟩)]) rfl trivial rfl ?_
    refine a_nil ?_
    refine a_next rfl ?_
    refine a_ret ?_
    refine t_ret ?_
    refine ⟨.inr rfl, ?_⟩
    rw [Try.results139]
    cases h
    exact ⟨_, _, _, _, _, rfl, trivial, .inl ⟨rfl, .inl rfl⟩, rfl, ⟨_, _, _, _, _, rfl, trivial, .inl ⟨rfl, .inl rfl⟩, rfl, rfl⟩⟩
def impl_prime_rest_c : ACode := (.seq (.region 0 [⟨some 6, .asg 1 (.const (.slice none 0 0)) 65, none, []⟩] false) (.seq (.region 1 [⟨some 10, .mov (.tmp 0), none, []⟩, ⟨some 11, .mov (.tmp 1), none, []⟩, ⟨some 12, .mov (.tmp 2), none, []⟩, ⟨some 13, .call 0 (.func 139) [(.tmp 10), (.tmp 11), (.tmp 12)], none, []⟩, ⟨some 9, .mov (.tmp 13), none, []⟩, ⟨some 14, .extract (.tmp 9) 0, none, []⟩, ⟨some 15, .extract (.tmp 9) 1, none, []⟩, ⟨some 7, .asg 1 (.tmp 14) 65, none, []⟩, ⟨some 8, .asg 1 (.tmp 15) 65, none, []⟩] false) (.seq (.region 2 [⟨some 16, .mov (.tmp 8), none, []⟩, ⟨some 6, .asg 1 (.tmp 16) 65, none, []⟩] false) .ret)))
def impl_prime_rest_L : Live := [(0, [0, 1, 2]), (1, [0, 1, 2]), (2, [8])]
theorem impl_prime_rest_body : Try.f135.body = some (Try.f135.body.getD .skip) := by kernel_rfl
theorem impl_prime_rest_strip : strip [(6, 1), (7, 1), (8, 1)] (Try.f135.body.getD .skip) = impl_prime_rest_c := by kernel_rfl
noncomputable def impl_prime_rest (a0 : Int) (a1 : (List Int)) (a2 : (List Int)) : Option (List Int) :=
  (Option.bind (impl_prime_divide a0 a1 a2) fun r1 => (some r1.2))
set_option maxHeartbeats 16000000 in
theorem impl_prime_rest_ok (a0 : Int) (a1 : (List Int)) (a2 : (List Int)) (r : (List Int)) (h : impl_prime_rest a0 a1 a2 = some r) : Den Try.prog 135 [(.int .i64 a0), (eSi64 a1), (eSi64 a2)] { r := (eSi64 r) } := by
  refine den_of (rs := [(eSi64 r)]) (ac := impl_prime_rest_c) (L := impl_prime_rest_L) (n := 17) (m := [(6, 1), (7, 1), (8, 1)]) good Try.func135 impl_prime_rest_body (by kernel_rfl) Try.ntmps135 rfl rfl impl_prime_rest_strip rfl rfl ?_
  refine a_st (σ' := ⟨[(0, (.int .i64 a0)), (1, (eSi64 a1)), (2, (eSi64 a2))], []⟩) (by kernel_rfl) ?_
  unfold impl_prime_rest_c
  refine a_seq ?_
  refine a_region ?_
  refine a_val (v := (eSi64 ([]))) (u := []) rfl trivial rfl ?_
  refine a_nil ?_
  refine a_next (σ' := ⟨[(0, (.int .i64 a0)), (1, (eSi64 a1)), (2, (eSi64 a2))], []⟩) (by kernel_rfl) ?_
  refine a_seq ?_
  refine a_region ?_
  refine a_val (v := (.int .i64 a0)) (u := []) rfl trivial rfl ?_
  refine a_val (v := (eSi64 a1)) (u := []) rfl trivial rfl ?_
  refine a_val (v := (eSi64 a2)) (u := []) rfl trivial rfl ?_
  obtain ⟨r1, hr2, h⟩ := bind_some h
  refine a_call (args := [(.int .i64 a0), (eSi64 a1), (eSi64 a2)]) (u := []) (r := (.tuple [(eSi64 r1.1), (eSi64 r1.2)])) rfl rfl (impl_prime_divide_ok a0 a1 a2 r1 hr2) rfl ?_
  refine a_val (v := (.tuple [(eSi64 r1.1), (eSi64 r1.2)])) (u := []) rfl trivial rfl ?_
  refine a_val (v := (eSi64 r1.1)) (u := []) rfl (Nat.le_of_ble_eq_true rfl) rfl ?_
  refine a_val (v := (eSi64 r1.2)) (u := []) rfl (Nat.le_of_ble_eq_true rfl) rfl ?_
  refine a_val (v := (eSi64 r1.1)) (u := []) rfl trivial rfl ?_
  refine a_val (v := (eSi64 r1.2)) (u := []) rfl trivial rfl ?_
  refine a_nil ?_
  refine a_next (σ' := ⟨[(8, (eSi64 r1.2))], []⟩) (by kernel_rfl) ?_
  refine a_seq ?_
  refine a_region ?_
  refine a_val (v := (eSi64 r1.2)) (u := []) rfl trivial rfl ?_
  refine a_val (v := (eSi64 r1.2)) (u := []) rfl trivial rfl ?_
  refine a_nil ?_
  refine a_next rfl ?_
  refine a_ret ?_
  refine ⟨.inr rfl, ?_⟩
  rw [Try.results135]
  cases h
  exact ⟨_, _, _, _, _, rfl, trivial, .inl ⟨rfl, .inl rfl⟩, rfl, rfl⟩
def impl_prime_times_c : ACode := (.seq (.region 0 [⟨some 6, .asg 1 (.const (.slice none 0 0)) 65, none, []⟩] false) (.seq (.seq (.region 1 [⟨some 14, .mov (.tmp 1), none, []⟩, ⟨some 15, .blt 0 .len [(.tmp 14)] [65], none, []⟩, ⟨some 16, .bin .eql 3 (.tmp 15) (.const (.int .i64 0)), none, []⟩, ⟨some 17, .mov (.tmp 16), none, []⟩, ⟨some 18, .mov (.tmp 2), some (17, false), []⟩, ⟨some 19, .blt 0 .len [(.tmp 18)] [65], some (17, false), []⟩, ⟨some 20, .bin .eql 3 (.tmp 19) (.const (.int .i64 0)), some (17, false), []⟩, ⟨some 21, .pick (.tmp 17) (.const (.bool true)) (.tmp 20), none, []⟩] false) (.cond (.tmp 21) (.seq (.region 2 [⟨some 6, .asg 1 (.const (.slice none 0 0)) 65, none, []⟩] false) .ret) .skip)) (.seq (.region 3 [⟨some 22, .mov (.tmp 1), none, []⟩, ⟨some 23, .blt 0 .len [(.tmp 22)] [65], none, []⟩, ⟨some 24, .mov (.tmp 2), none, []⟩, ⟨some 25, .blt 0 .len [(.tmp 24)] [65], none, []⟩, ⟨some 26, .bin .add 3 (.tmp 23) (.tmp 25), none, []⟩, ⟨some 27, .bin .sub 3 (.tmp 26) (.const (.int .i64 1)), none, []⟩, ⟨some 28, .mkslice 65 (.tmp 27) (.tmp 27), none, []⟩, ⟨some 7, .asg 2 (.tmp 28) 65, none, []⟩] false) (.seq (.seq (.region 4 [⟨some 29, .mov (.tmp 1), none, []⟩, ⟨some 30, .blt 0 .len [(.tmp 29)] [65], none, []⟩, ⟨some 31, .mov (.const (.int .i64 0)), none, []⟩] false) (.block 0 (.loop (.seq (.region 5 [⟨some 32, .bin .lss 3 (.tmp 31) (.tmp 30), none, []⟩] false) (.seq (.cond (.tmp 32) .skip (.exit 0)) (.seq (.block 1 (.seq (.region 6 [⟨some 33, .mov (.tmp 31), none, []⟩, ⟨some 34, .indexAddr 65 (.tmp 29) (.tmp 31), none, []⟩, ⟨some 35, .load 2 (.tmp 34), none, []⟩, ⟨some 8, .asg 0 (.tmp 33) 3, none, []⟩, ⟨some 9, .asg 0 (.tmp 35) 2, none, []⟩] false) (.seq (.region 7 [⟨some 36, .mov (.tmp 2), none, []⟩, ⟨some 37, .blt 0 .len [(.tmp 36)] [65], none, []⟩, ⟨some 38, .mov (.const (.int .i64 0)), none, []⟩] false) (.block 2 (.loop (.seq (.region 8 [⟨some 39, .bin .lss 3 (.tmp 38) (.tmp 37), none, []⟩] false) (.seq (.cond (.tmp 39) .skip (.exit 2)) (.seq (.block 3 (.seq (.region 9 [⟨some 40, .mov (.tmp 38), none, []⟩, ⟨some 41, .indexAddr 65 (.tmp 36) (.tmp 38), none, []⟩, ⟨some 42, .load 2 (.tmp 41), none, []⟩, ⟨some 10, .asg 0 (.tmp 40) 3, none, []⟩, ⟨some 11, .asg 0 (.tmp 42) 2, none, []⟩] false) (.region 10 [⟨some 43, .mov (.tmp 7), none, []⟩, ⟨some 44, .mov (.tmp 8), none, []⟩, ⟨some 45, .mov (.tmp 10), none, []⟩, ⟨some 46, .bin .add 3 (.tmp 44) (.tmp 45), none, []⟩, ⟨some 47, .indexAddr 65 (.tmp 43) (.tmp 46), none, []⟩, ⟨some 48, .load 2 (.tmp 47), none, []⟩, ⟨some 49, .mov (.tmp 9), none, []⟩, ⟨some 50, .mov (.tmp 11), none, []⟩, ⟨some 51, .bin .mul 2 (.tmp 49) (.tmp 50), none, []⟩, ⟨some 52, .bin .add 2 (.tmp 48) (.tmp 51), none, []⟩, ⟨some 53, .indexAddr 65 (.tmp 43) (.tmp 46), none, []⟩, ⟨none, .store 2 (.tmp 53) (.tmp 52), none, []⟩] false))) (.region 11 [⟨some 54, .bin .add 3 (.tmp 38) (.const (.int .i64 1)), none, []⟩, ⟨some 38, .mov (.tmp 54), none, []⟩] false))))))))) (.region 12 [⟨some 55, .bin .add 3 (.tmp 31) (.const (.int .i64 1)), none, []⟩, ⟨some 31, .mov (.tmp 55), none, []⟩] false))))))) (.seq (.seq (.region 13 [⟨some 56, .mov (.tmp 7), none, []⟩, ⟨some 57, .blt 0 .len [(.tmp 56)] [65], none, []⟩, ⟨some 58, .mov (.const (.int .i64 0)), none, []⟩] false) (.block 4 (.loop (.seq (.region 14 [⟨some 59, .bin .lss 3 (.tmp 58) (.tmp 57), none, []⟩] false) (.seq (.cond (.tmp 59) .skip (.exit 4)) (.seq (.block 5 (.seq (.region 15 [⟨some 60, .mov (.tmp 58), none, []⟩, ⟨some 61, .indexAddr 65 (.tmp 56) (.tmp 58), none, []⟩, ⟨some 62, .load 2 (.tmp 61), none, []⟩, ⟨some 12, .asg 0 (.tmp 60) 3, none, []⟩, ⟨some 13, .asg 0 (.tmp 62) 2, none, []⟩] false) (.region 16 [⟨some 63, .mov (.tmp 7), none, []⟩, ⟨some 64, .mov (.tmp 12), none, []⟩, ⟨some 65, .mov (.tmp 13), none, []⟩, ⟨some 66, .mov (.tmp 0), none, []⟩, ⟨some 67, .bin .rem 2 (.tmp 65) (.tmp 66), none, []⟩, ⟨some 68, .indexAddr 65 (.tmp 63) (.tmp 64), none, []⟩, ⟨none, .store 2 (.tmp 68) (.tmp 67), none, []⟩] false))) (.region 17 [⟨some 69, .bin .add 3 (.tmp 58) (.const (.int .i64 1)), none, []⟩, ⟨some 58, .mov (.tmp 69), none, []⟩] false))))))) (.seq (.region 18 [⟨some 70, .mov (.tmp 7), none, []⟩, ⟨some 71, .call 0 (.func 102) [(.tmp 70)], none, []⟩, ⟨some 6, .asg 1 (.tmp 71) 65, none, []⟩] false) .ret))))))
def impl_prime_times_L : Live := [(0, [0, 1, 2]), (1, [0, 1, 2]), (2, []), (3, [0, 1, 2]), (4, [0, 1, 2, 7]), (5, [0, 2, 7, 29, 30, 31]), (6, [0, 2, 7, 29, 30, 31]), (7, [0, 2, 7, 8, 9, 29, 30, 31]), (8, [0, 2, 7, 8, 9, 29, 30, 31, 36, 37, 38]), (9, [0, 2, 7, 8, 9, 29, 30, 31, 36, 37, 38]), (10, [0, 2, 7, 8, 9, 10, 11, 29, 30, 31, 36, 37, 38]), (11, [0, 2, 7, 8, 9, 29, 30, 31, 36, 37, 38]), (12, [0, 2, 7, 29, 30, 31]), (13, [0, 7]), (14, [0, 7, 56, 57, 58]), (15, [0, 7, 56, 57, 58]), (16, [0, 7, 12, 13, 56, 57, 58]), (17, [0, 7, 56, 57, 58]), (18, [7]), (100021, [0, 1, 2, 21]), (100032, [0, 2, 7, 29, 30, 31, 32]), (100039, [0, 2, 7, 8, 9, 29, 30, 31, 36, 37, 38, 39]), (100059, [0, 7, 56, 57, 58, 59])]
theorem impl_prime_times_body : Try.f136.body = some (Try.f136.body.getD .skip) := by kernel_rfl
theorem impl_prime_times_strip : strip [(6, 1), (7, 2)] (Try.f136.body.getD .skip) = impl_prime_times_c := by kernel_rfl
noncomputable def impl_prime_times_l2 (a2 : (List Int)) (x353 : Int) (a1 : (List Int)) (x492 : Int) (x493 : (List Int)) : Option ((Int × (List Int)) ⊕ (List Int)) :=
  (if (decide (x492 < (a2.length : Int))) then (ifp (0 ≤ x492 ∧ x492 < ((a2.length : Nat) : Int)) ((ifp (0 ≤ IntKind.i64.wrap (x353 + x492) ∧ IntKind.i64.wrap (x353 + x492) < ((x493.length : Nat) : Int)) ((letp (IntKind.i64.wrap (((rd x493 (IntKind.i64.wrap (x353 + x492)).toNat)) + (IntKind.i64.wrap ((rd a1 x353.toNat) * (rd a2 x492.toNat))))) fun x511 => (ifp (0 ≤ IntKind.i64.wrap (x353 + x492) ∧ IntKind.i64.wrap (x353 + x492) < ((x493.length : Nat) : Int)) ((some (.inl ((IntKind.i64.wrap (x492 + 1), (x493.set (IntKind.i64.wrap (x353 + x492)).toNat x511)))))))))))) else (some (.inr x493)))
noncomputable def impl_prime_times_l1 (a1 : (List Int)) (a2 : (List Int)) (x353 : Int) (x354 : (List Int)) : Option ((Int × (List Int)) ⊕ (List Int)) :=
  (if (decide (x353 < (a1.length : Int))) then (Option.bind (α := (List Int)) ((ifp (0 ≤ x353 ∧ x353 < ((a1.length : Nat) : Int)) ((loopM (fun s : (Int × (List Int)) => impl_prime_times_l2 a2 x353 a1 s.1 s.2) (0, x354))))) fun x475 => (some (.inl ((IntKind.i64.wrap (x353 + 1), x475))))) else (some (.inr x354)))
noncomputable def impl_prime_times_l3 (x262 : (List Int)) (a0 : Int) (x551 : Int) (x552 : (List Int)) : Option ((Int × (List Int)) ⊕ (List Int)) :=
  (if (decide (x551 < (x262.length : Int))) then (ifp (0 ≤ x551 ∧ x551 < ((x552.length : Nat) : Int)) ((ifp (a0 ≠ 0) ((ifp (0 ≤ x551 ∧ x551 < ((x552.length : Nat) : Int)) ((some (.inl ((IntKind.i64.wrap (x551 + 1), (x552.set x551.toNat (Int.tmod (rd x552 x551.toNat) a0)))))))))))) else (some (.inr x552)))
noncomputable def impl_prime_times (a0 : Int) (a1 : (List Int)) (a2 : (List Int)) : Option (List Int) :=
  (Option.bind (α := Bool) ((if ((a1.length : Int) == 0) then (some true) else (some (((a2.length : Int) == 0))))) fun x2 => (if x2 then (some ([])) else (letp (IntKind.i64.wrap ((IntKind.i64.wrap ((a1.length : Int) + (a2.length : Int))) - 1)) fun x8 => (ifp (0 ≤ x8 ∧ x8 ≤ 140737488355328 ∧ 8 * x8 ≤ 140737488355328) ((Option.bind (α := (List Int)) ((loopM (fun s : (Int × (List Int)) => impl_prime_times_l1 a1 a2 s.1 s.2) (0, List.replicate x8.toNat (0 : Int)))) fun x262 => (Option.bind (α := (List Int)) ((loopM (fun s : (Int × (List Int)) => impl_prime_times_l3 x262 a0 s.1 s.2) (0, x262))) fun x541 => (Option.bind (impl_row_trimmed x541) fun r569 => (some r569)))))))))
set_option maxHeartbeats 16000000 in
theorem impl_prime_times_ok (a0 : Int) (a1 : (List Int)) (a2 : (List Int)) (r : (List Int)) (h : impl_prime_times a0 a1 a2 = some r) : Den Try.prog 136 [(.int .i64 a0), (eSi64 a1), (eSi64 a2)] { r := (eSi64 r) } := by
  refine den_of (rs := [(eSi64 r)]) (ac := impl_prime_times_c) (L := impl_prime_times_L) (n := 72) (m := [(6, 1), (7, 2)]) good Try.func136 impl_prime_times_body (by kernel_rfl) Try.ntmps136 rfl rfl impl_prime_times_strip rfl rfl ?_
  refine a_st (σ' := ⟨[(0, (.int .i64 a0)), (1, (eSi64 a1)), (2, (eSi64 a2))], []⟩) (by kernel_rfl) ?_
  unfold impl_prime_times_c
  refine a_seq ?_
  refine a_region ?_
  refine a_val (v := (eSi64 ([]))) (u := []) rfl trivial rfl ?_
  refine a_nil ?_
  refine a_next (σ' := ⟨[(0, (.int .i64 a0)), (1, (eSi64 a1)), (2, (eSi64 a2))], []⟩) (by kernel_rfl) ?_
  refine a_seq ?_
  obtain ⟨y3, hy4, hk5⟩ := bind_some h
  clear h
  refine a_join (emb := fun (s : Bool) => ⟨[(0, (.int .i64 a0)), (1, (eSi64 a1)), (2, (eSi64 a2)), (21, (.bool s))], []⟩) (pre := fun s => s = y3) ?_ ?_
  · rintro x2 rfl
    have h := hk5
    refine a_st (σ' := ⟨[(0, (.int .i64 a0)), (1, (eSi64 a1)), (2, (eSi64 a2)), (21, (.bool x2))], []⟩) (by kernel_rfl) ?_
    cases hb7 : x2
    · have h := ite_f hb7 h
      refine a_cond_f rfl ?_
      refine a_skip ?_
      refine a_next (σ' := ⟨[(0, (.int .i64 a0)), (1, (eSi64 a1)), (2, (eSi64 a2))], []⟩) (by kernel_rfl) ?_
      refine a_seq ?_
      refine a_region ?_
      refine a_val (v := (eSi64 a1)) (u := []) rfl trivial rfl ?_
      refine a_val (v := (.int .i64 (a1.length : Int))) (u := []) (len_run rfl rfl) trivial rfl ?_
      refine a_val (v := (eSi64 a2)) (u := []) rfl trivial rfl ?_
      refine a_val (v := (.int .i64 (a2.length : Int))) (u := []) (len_run rfl rfl) trivial rfl ?_
      refine a_val (v := (.int .i64 (IntKind.i64.wrap ((a1.length : Int) + (a2.length : Int))))) (u := []) rfl trivial rfl ?_
      obtain ⟨x8, hx9, h⟩ := letp_some h
      refine a_val' (v := (.int .i64 (IntKind.i64.wrap ((IntKind.i64.wrap ((a1.length : Int) + (a2.length : Int))) - 1)))) (v' := (.int .i64 x8)) (u := []) (u' := []) rfl (congrArg (fun z => ((.int .i64 z) : AV)) hx9) rfl trivial rfl ?_
      obtain ⟨hc10, h⟩ := ifp_some h
      refine a_val (v := (.osl 3800)) (u := [(3800, some ⟨(.row 1 ((List.replicate x8.toNat (0 : Int)).map (AV.int .i64))), false⟩)]) (mk_run (i := ⟨.int .i64, 1, 8, (.int .i64 0)⟩) (f := (AV.int .i64)) (y := (0 : Int)) rfl rfl rfl rfl rfl rfl) ⟨rfl, hc10.1, hc10.2.1, hc10.2.2, (Nat.le_of_ble_eq_true rfl)⟩ rfl ?_
      refine a_val (v := (.osl 3800)) (u := []) rfl trivial rfl ?_
      refine a_nil ?_
      refine a_next (σ' := ⟨[(0, (.int .i64 a0)), (1, (eSi64 a1)), (2, (eSi64 a2)), (7, (.osl 7))], [(7, some ⟨(.row 1 ((List.replicate x8.toNat (0 : Int)).map (AV.int .i64))), false⟩)]⟩) (by kernel_rfl) ?_
      obtain ⟨y263, hy264, hk265⟩ := bind_some h
      clear h
      refine a_join (emb := fun (s : (List Int)) => ⟨[(0, (.int .i64 a0)), (7, (.osl 7))], [(7, some ⟨(.row 1 (s.map (AV.int .i64))), false⟩)]⟩) (pre := fun s => s = y263) ?_ ?_
      · rintro x262 rfl
        have h := hk265
        refine a_st (σ' := ⟨[(0, (.int .i64 a0)), (7, (.osl 7))], [(7, some ⟨(.row 1 (x262.map (AV.int .i64))), false⟩)]⟩) (by kernel_rfl) ?_
        obtain ⟨y542, hy543, hk544⟩ := bind_some h
        clear h
        refine a_join (emb := fun (s : (List Int)) => ⟨[(7, (.osl 7))], [(7, some ⟨(.row 1 (s.map (AV.int .i64))), false⟩)]⟩) (pre := fun s => s = y542) ?_ ?_
        · rintro x541 rfl
          have h := hk544
          refine a_st (σ' := ⟨[(7, (.osl 7))], [(7, some ⟨(.row 1 (x541.map (AV.int .i64))), false⟩)]⟩) (by kernel_rfl) ?_
          refine a_seq ?_
          refine a_region ?_
          refine a_val (v := (.osl 7)) (u := []) rfl trivial rfl ?_
          obtain ⟨r569, hr570, h⟩ := bind_some h
          refine a_call (args := [(eSi64 x541)]) (u := [(7, some ⟨(.row 1 (x541.map (AV.int .i64))), true⟩)]) (r := (eSi64 r569)) rfl rfl (impl_row_trimmed_ok x541 r569 hr570) rfl ?_
          refine a_val (v := (eSi64 r569)) (u := []) rfl trivial rfl ?_
          refine a_nil ?_
          refine a_next rfl ?_
          refine a_ret ?_
          refine ⟨.inr rfl, ?_⟩
          rw [Try.results136]
          cases h
          exact ⟨_, _, _, _, _, rfl, trivial, .inl ⟨rfl, .inl rfl⟩, rfl, rfl⟩
        · have h := hy543
          refine a_seq ?_
          refine a_region ?_
          refine a_val (v := (.osl 7)) (u := []) rfl trivial rfl ?_
          refine a_val (v := (.int .i64 (x262.length : Int))) (u := []) (leno_run rfl rfl rfl) trivial rfl ?_
          refine a_val (v := (.int .i64 0)) (u := []) rfl trivial rfl ?_
          refine a_nil ?_
          refine a_next (σ' := ⟨[(0, (.int .i64 a0)), (7, (.osl 7)), (56, (.osl 7)), (57, (.int .i64 (x262.length : Int))), (58, (.int .i64 0))], [(7, some ⟨(.row 1 (x262.map (AV.int .i64))), false⟩)]⟩) (by kernel_rfl) ?_
          refine a_block ?_
          refine a_loop (emb := fun (s : (Int × (List Int))) => ⟨[(0, (.int .i64 a0)), (7, (.osl 7)), (56, (.osl 7)), (57, (.int .i64 (x262.length : Int))), (58, (.int .i64 s.1))], [(7, some ⟨(.row 1 (s.2.map (AV.int .i64))), false⟩)]⟩) (body := (fun s : (Int × (List Int)) => impl_prime_times_l3 x262 a0 s.1 s.2)) (G := fun q => some q = some y542) h rfl ?_ (by kernel_rfl)
          rintro X559 ⟨x551, x552⟩ x560 h hX561
          have h : impl_prime_times_l3 x262 a0 x551 x552 = some x560 := h
          refine a_st (σ' := ⟨[(0, (.int .i64 a0)), (7, (.osl 7)), (56, (.osl 7)), (57, (.int .i64 (x262.length : Int))), (58, (.int .i64 x551))], [(7, some ⟨(.row 1 (x552.map (AV.int .i64))), false⟩)]⟩) (by kernel_rfl) ?_
          refine a_seq ?_
          refine a_region ?_
          refine a_val (v := (.bool ((decide (x551 < (x262.length : Int)))))) (u := []) rfl trivial rfl ?_
          refine a_nil ?_
          refine a_next (σ' := ⟨[(0, (.int .i64 a0)), (7, (.osl 7)), (56, (.osl 7)), (57, (.int .i64 (x262.length : Int))), (58, (.int .i64 x551)), (59, (.bool ((decide (x551 < (x262.length : Int))))))], [(7, some ⟨(.row 1 (x552.map (AV.int .i64))), false⟩)]⟩) (by kernel_rfl) ?_
          refine a_seq ?_
          cases hb562 : (decide (x551 < (x262.length : Int)))
          · have h := ite_f hb562 h
            refine a_cond_f rfl ?_
            refine a_exit ?_
            refine t_exit ?_
            cases h
            have h := hX561
            refine t_exit ?_
            refine b_exit ?_
            exact j_leaf x552 (Option.some.inj h) (by kernel_rfl)
          · have h := ite_t hb562 h
            refine a_cond_t rfl ?_
            refine a_skip ?_
            refine a_next (σ' := ⟨[(0, (.int .i64 a0)), (7, (.osl 7)), (56, (.osl 7)), (57, (.int .i64 (x262.length : Int))), (58, (.int .i64 x551))], [(7, some ⟨(.row 1 (x552.map (AV.int .i64))), false⟩)]⟩) (by kernel_rfl) ?_
            refine a_seq ?_
            refine a_block ?_
            refine a_seq ?_
            refine a_region ?_
            refine a_val (v := (.int .i64 x551)) (u := []) rfl trivial rfl ?_
            obtain ⟨hc563, h⟩ := ifp_some h
            refine a_val (v := (.own 7 [x551.toNat] [x551.toNat * 1])) (u := []) rfl (lmap hc563) rfl ?_
            have hl564 : LdOk [x551.toNat] (.row 1 (x552.map (AV.int .i64))) [x551.toNat * 1] 1 false (.int .i64 (rd x552 x551.toNat)) := (.row (llt hc563) rfl (.nil rfl rfl rfl))
            refine a_val (v := (.int .i64 (rd x552 x551.toNat))) (u := []) (ld_own (i := ⟨.int .i64, 1, 8, (.int .i64 0)⟩) rfl rfl rfl hl564) hl564.c rfl ?_
            refine a_val (v := (.int .i64 x551)) (u := []) rfl trivial rfl ?_
            refine a_val (v := (.int .i64 (rd x552 x551.toNat))) (u := []) rfl trivial rfl ?_
            refine a_nil ?_
            refine a_next (σ' := ⟨[(0, (.int .i64 a0)), (7, (.osl 7)), (12, (.int .i64 x551)), (13, (.int .i64 (rd x552 x551.toNat))), (56, (.osl 7)), (57, (.int .i64 (x262.length : Int))), (58, (.int .i64 x551))], [(7, some ⟨(.row 1 (x552.map (AV.int .i64))), false⟩)]⟩) (by kernel_rfl) ?_
            refine a_region ?_
            refine a_val (v := (.osl 7)) (u := []) rfl trivial rfl ?_
            refine a_val (v := (.int .i64 x551)) (u := []) rfl trivial rfl ?_
            refine a_val (v := (.int .i64 (rd x552 x551.toNat))) (u := []) rfl trivial rfl ?_
            refine a_val (v := (.int .i64 a0)) (u := []) rfl trivial rfl ?_
            obtain ⟨hc565, h⟩ := ifp_some h
            refine a_val (v := (.int .i64 (Int.tmod (rd x552 x551.toNat) a0))) (u := []) rfl hc565 rfl ?_
            obtain ⟨hc566, h⟩ := ifp_some h
            refine a_val (v := (.own 7 [x551.toNat] [x551.toNat * 1])) (u := []) rfl (lmap hc566) rfl ?_
            have hs567 : StOk [x551.toNat] (.row 1 (x552.map (AV.int .i64))) [x551.toNat * 1] 1 (.int .i64 (Int.tmod (rd x552 x551.toNat) a0)) (.row 1 (((x552.set x551.toNat (Int.tmod (rd x552 x551.toNat) a0))).map (AV.int .i64))) := (.row (y := Int.tmod (rd x552 x551.toNat) a0) (llt hc566) rfl (.nil rfl rfl rfl rfl))
            refine a_val (v := .top) (u := [(7, some ⟨(.row 1 (((x552.set x551.toNat (Int.tmod (rd x552 x551.toNat) a0))).map (AV.int .i64))), false⟩)]) (st_own (i := ⟨.int .i64, 1, 8, (.int .i64 0)⟩) rfl rfl (fun _ => rfl) rfl hs567) (hs567.c rfl) rfl ?_
            refine a_nil ?_
            refine b_norm ?_
            refine a_next (σ' := ⟨[(0, (.int .i64 a0)), (7, (.osl 7)), (56, (.osl 7)), (57, (.int .i64 (x262.length : Int))), (58, (.int .i64 x551))], [(7, some ⟨(.row 1 (((x552.set x551.toNat (Int.tmod (rd x552 x551.toNat) a0))).map (AV.int .i64))), false⟩)]⟩) (by kernel_rfl) ?_
            refine a_region ?_
            refine a_val (v := (.int .i64 (IntKind.i64.wrap (x551 + 1)))) (u := []) rfl trivial rfl ?_
            refine a_val (v := (.int .i64 (IntKind.i64.wrap (x551 + 1)))) (u := []) rfl trivial rfl ?_
            refine a_nil ?_
            cases h
            exact a_again (by kernel_rfl) hX561
      · have h := hy264
        refine a_seq ?_
        refine a_region ?_
        refine a_val (v := (eSi64 a1)) (u := []) rfl trivial rfl ?_
        refine a_val (v := (.int .i64 (a1.length : Int))) (u := []) (len_run rfl rfl) trivial rfl ?_
        refine a_val (v := (.int .i64 0)) (u := []) rfl trivial rfl ?_
        refine a_nil ?_
        refine a_next (σ' := ⟨[(0, (.int .i64 a0)), (2, (eSi64 a2)), (7, (.osl 7)), (29, (eSi64 a1)), (30, (.int .i64 (a1.length : Int))), (31, (.int .i64 0))], [(7, some ⟨(.row 1 ((List.replicate x8.toNat (0 : Int)).map (AV.int .i64))), false⟩)]⟩) (by kernel_rfl) ?_
        refine a_block ?_
        refine a_loop (emb := fun (s : (Int × (List Int))) => ⟨[(0, (.int .i64 a0)), (2, (eSi64 a2)), (7, (.osl 7)), (29, (eSi64 a1)), (30, (.int .i64 (a1.length : Int))), (31, (.int .i64 s.1))], [(7, some ⟨(.row 1 (s.2.map (AV.int .i64))), false⟩)]⟩) (body := (fun s : (Int × (List Int)) => impl_prime_times_l1 a1 a2 s.1 s.2)) (G := fun q => some q = some y263) h rfl ?_ (by kernel_rfl)
        rintro X434 ⟨x353, x354⟩ x435 h hX436
        have h : impl_prime_times_l1 a1 a2 x353 x354 = some x435 := h
        refine a_st (σ' := ⟨[(0, (.int .i64 a0)), (2, (eSi64 a2)), (7, (.osl 7)), (29, (eSi64 a1)), (30, (.int .i64 (a1.length : Int))), (31, (.int .i64 x353))], [(7, some ⟨(.row 1 (x354.map (AV.int .i64))), false⟩)]⟩) (by kernel_rfl) ?_
        refine a_seq ?_
        refine a_region ?_
        refine a_val (v := (.bool ((decide (x353 < (a1.length : Int)))))) (u := []) rfl trivial rfl ?_
        refine a_nil ?_
        refine a_next (σ' := ⟨[(0, (.int .i64 a0)), (2, (eSi64 a2)), (7, (.osl 7)), (29, (eSi64 a1)), (30, (.int .i64 (a1.length : Int))), (31, (.int .i64 x353)), (32, (.bool ((decide (x353 < (a1.length : Int))))))], [(7, some ⟨(.row 1 (x354.map (AV.int .i64))), false⟩)]⟩) (by kernel_rfl) ?_
        refine a_seq ?_
        cases hb437 : (decide (x353 < (a1.length : Int)))
        · have h := ite_f hb437 h
          refine a_cond_f rfl ?_
          refine a_exit ?_
          refine t_exit ?_
          cases h
          have h := hX436
          refine t_exit ?_
          refine b_exit ?_
          exact j_leaf x354 (Option.some.inj h) (by kernel_rfl)
        · have h := ite_t hb437 h
          refine a_cond_t rfl ?_
          refine a_skip ?_
          refine a_next (σ' := ⟨[(0, (.int .i64 a0)), (2, (eSi64 a2)), (7, (.osl 7)), (29, (eSi64 a1)), (30, (.int .i64 (a1.length : Int))), (31, (.int .i64 x353))], [(7, some ⟨(.row 1 (x354.map (AV.int .i64))), false⟩)]⟩) (by kernel_rfl) ?_
          obtain ⟨y476, hy477, hk478⟩ := bind_some h
          clear h
          refine a_join (emb := fun (s : (List Int)) => ⟨[(0, (.int .i64 a0)), (2, (eSi64 a2)), (7, (.osl 7)), (29, (eSi64 a1)), (30, (.int .i64 (a1.length : Int))), (31, (.int .i64 x353))], [(7, some ⟨(.row 1 (s.map (AV.int .i64))), false⟩)]⟩) (pre := fun s => s = y476) ?_ ?_
          · rintro x475 rfl
            have h := hk478
            refine a_st (σ' := ⟨[(0, (.int .i64 a0)), (2, (eSi64 a2)), (7, (.osl 7)), (29, (eSi64 a1)), (30, (.int .i64 (a1.length : Int))), (31, (.int .i64 x353))], [(7, some ⟨(.row 1 (x475.map (AV.int .i64))), false⟩)]⟩) (by kernel_rfl) ?_
            refine a_region ?_
            refine a_val (v := (.int .i64 (IntKind.i64.wrap (x353 + 1)))) (u := []) rfl trivial rfl ?_
            refine a_val (v := (.int .i64 (IntKind.i64.wrap (x353 + 1)))) (u := []) rfl trivial rfl ?_
            refine a_nil ?_
            cases h
            exact a_again (by kernel_rfl) hX436
          · have h := hy477
            refine a_block ?_
            refine a_seq ?_
            refine a_region ?_
            refine a_val (v := (.int .i64 x353)) (u := []) rfl trivial rfl ?_
            obtain ⟨hc479, h⟩ := ifp_some h
            refine a_val (v := (.ref (.row 1 (a1.map (AV.int .i64))) [x353.toNat] [x353.toNat * 1])) (u := []) rfl (lmap hc479) rfl ?_
            have hl480 : LdOk [x353.toNat] (.row 1 (a1.map (AV.int .i64))) [x353.toNat * 1] 1 false (.int .i64 (rd a1 x353.toNat)) := (.row (llt hc479) rfl (.nil rfl rfl rfl))
            refine a_val (v := (.int .i64 (rd a1 x353.toNat))) (u := []) (ld_ref (i := ⟨.int .i64, 1, 8, (.int .i64 0)⟩) rfl rfl hl480) hl480.c rfl ?_
            refine a_val (v := (.int .i64 x353)) (u := []) rfl trivial rfl ?_
            refine a_val (v := (.int .i64 (rd a1 x353.toNat))) (u := []) rfl trivial rfl ?_
            refine a_nil ?_
            refine a_next (σ' := ⟨[(0, (.int .i64 a0)), (2, (eSi64 a2)), (7, (.osl 7)), (8, (.int .i64 x353)), (9, (.int .i64 (rd a1 x353.toNat))), (29, (eSi64 a1)), (30, (.int .i64 (a1.length : Int))), (31, (.int .i64 x353))], [(7, some ⟨(.row 1 (x354.map (AV.int .i64))), false⟩)]⟩) (by kernel_rfl) ?_
            refine a_seq ?_
            refine a_region ?_
            refine a_val (v := (eSi64 a2)) (u := []) rfl trivial rfl ?_
            refine a_val (v := (.int .i64 (a2.length : Int))) (u := []) (len_run rfl rfl) trivial rfl ?_
            refine a_val (v := (.int .i64 0)) (u := []) rfl trivial rfl ?_
            refine a_nil ?_
            refine a_next (σ' := ⟨[(0, (.int .i64 a0)), (2, (eSi64 a2)), (7, (.osl 7)), (8, (.int .i64 x353)), (9, (.int .i64 (rd a1 x353.toNat))), (29, (eSi64 a1)), (30, (.int .i64 (a1.length : Int))), (31, (.int .i64 x353)), (36, (eSi64 a2)), (37, (.int .i64 (a2.length : Int))), (38, (.int .i64 0))], [(7, some ⟨(.row 1 (x354.map (AV.int .i64))), false⟩)]⟩) (by kernel_rfl) ?_
            refine a_block ?_
            refine a_loop (emb := fun (s : (Int × (List Int))) => ⟨[(0, (.int .i64 a0)), (2, (eSi64 a2)), (7, (.osl 7)), (8, (.int .i64 x353)), (9, (.int .i64 (rd a1 x353.toNat))), (29, (eSi64 a1)), (30, (.int .i64 (a1.length : Int))), (31, (.int .i64 x353)), (36, (eSi64 a2)), (37, (.int .i64 (a2.length : Int))), (38, (.int .i64 s.1))], [(7, some ⟨(.row 1 (s.2.map (AV.int .i64))), false⟩)]⟩) (body := (fun s : (Int × (List Int)) => impl_prime_times_l2 a2 x353 a1 s.1 s.2)) (G := fun q => some q = some y476) h rfl ?_ (by kernel_rfl)
            rintro X503 ⟨x492, x493⟩ x504 h hX505
            have h : impl_prime_times_l2 a2 x353 a1 x492 x493 = some x504 := h
            refine a_st (σ' := ⟨[(0, (.int .i64 a0)), (2, (eSi64 a2)), (7, (.osl 7)), (8, (.int .i64 x353)), (9, (.int .i64 (rd a1 x353.toNat))), (29, (eSi64 a1)), (30, (.int .i64 (a1.length : Int))), (31, (.int .i64 x353)), (36, (eSi64 a2)), (37, (.int .i64 (a2.length : Int))), (38, (.int .i64 x492))], [(7, some ⟨(.row 1 (x493.map (AV.int .i64))), false⟩)]⟩) (by kernel_rfl) ?_
            refine a_seq ?_
            refine a_region ?_
            refine a_val (v := (.bool ((decide (x492 < (a2.length : Int)))))) (u := []) rfl trivial rfl ?_
            refine a_nil ?_
            refine a_next (σ' := ⟨[(0, (.int .i64 a0)), (2, (eSi64 a2)), (7, (.osl 7)), (8, (.int .i64 x353)), (9, (.int .i64 (rd a1 x353.toNat))), (29, (eSi64 a1)), (30, (.int .i64 (a1.length : Int))), (31, (.int .i64 x353)), (36, (eSi64 a2)), (37, (.int .i64 (a2.length : Int))), (38, (.int .i64 x492)), (39, (.bool ((decide (x492 < (a2.length : Int))))))], [(7, some ⟨(.row 1 (x493.map (AV.int .i64))), false⟩)]⟩) (by kernel_rfl) ?_
            refine a_seq ?_
            cases hb506 : (decide (x492 < (a2.length : Int)))
            · have h := ite_f hb506 h
              refine a_cond_f rfl ?_
              refine a_exit ?_
              refine t_exit ?_
              cases h
              have h := hX505
              refine t_exit ?_
              refine b_exit ?_
              refine b_norm ?_
              exact j_leaf x493 (Option.some.inj h) (by kernel_rfl)
            · have h := ite_t hb506 h
              refine a_cond_t rfl ?_
              refine a_skip ?_
              refine a_next (σ' := ⟨[(0, (.int .i64 a0)), (2, (eSi64 a2)), (7, (.osl 7)), (8, (.int .i64 x353)), (9, (.int .i64 (rd a1 x353.toNat))), (29, (eSi64 a1)), (30, (.int .i64 (a1.length : Int))), (31, (.int .i64 x353)), (36, (eSi64 a2)), (37, (.int .i64 (a2.length : Int))), (38, (.int .i64 x492))], [(7, some ⟨(.row 1 (x493.map (AV.int .i64))), false⟩)]⟩) (by kernel_rfl) ?_
              refine a_seq ?_
              refine a_block ?_
              refine a_seq ?_
              refine a_region ?_
              refine a_val (v := (.int .i64 x492)) (u := []) rfl trivial rfl ?_
              obtain ⟨hc507, h⟩ := ifp_some h
              refine a_val (v := (.ref (.row 1 (a2.map (AV.int .i64))) [x492.toNat] [x492.toNat * 1])) (u := []) rfl (lmap hc507) rfl ?_
              have hl508 : LdOk [x492.toNat] (.row 1 (a2.map (AV.int .i64))) [x492.toNat * 1] 1 false (.int .i64 (rd a2 x492.toNat)) := (.row (llt hc507) rfl (.nil rfl rfl rfl))
              refine a_val (v := (.int .i64 (rd a2 x492.toNat))) (u := []) (ld_ref (i := ⟨.int .i64, 1, 8, (.int .i64 0)⟩) rfl rfl hl508) hl508.c rfl ?_
              refine a_val (v := (.int .i64 x492)) (u := []) rfl trivial rfl ?_
              refine a_val (v := (.int .i64 (rd a2 x492.toNat))) (u := []) rfl trivial rfl ?_
              refine a_nil ?_
              refine a_next (σ' := ⟨[(0, (.int .i64 a0)), (2, (eSi64 a2)), (7, (.osl 7)), (8, (.int .i64 x353)), (9, (.int .i64 (rd a1 x353.toNat))), (10, (.int .i64 x492)), (11, (.int .i64 (rd a2 x492.toNat))), (29, (eSi64 a1)), (30, (.int .i64 (a1.length : Int))), (31, (.int .i64 x353)), (36, (eSi64 a2)), (37, (.int .i64 (a2.length : Int))), (38, (.int .i64 x492))], [(7, some ⟨(.row 1 (x493.map (AV.int .i64))), false⟩)]⟩) (by kernel_rfl) ?_
              refine a_region ?_
              refine a_val (v := (.osl 7)) (u := []) rfl trivial rfl ?_
              refine a_val (v := (.int .i64 x353)) (u := []) rfl trivial rfl ?_
              refine a_val (v := (.int .i64 x492)) (u := []) rfl trivial rfl ?_
              refine a_val (v := (.int .i64 (IntKind.i64.wrap (x353 + x492)))) (u := []) rfl trivial rfl ?_
              obtain ⟨hc509, h⟩ := ifp_some h
              refine a_val (v := (.own 7 [(IntKind.i64.wrap (x353 + x492)).toNat] [(IntKind.i64.wrap (x353 + x492)).toNat * 1])) (u := []) rfl (lmap hc509) rfl ?_
              have hl510 : LdOk [(IntKind.i64.wrap (x353 + x492)).toNat] (.row 1 (x493.map (AV.int .i64))) [(IntKind.i64.wrap (x353 + x492)).toNat * 1] 1 false (.int .i64 ((rd x493 (IntKind.i64.wrap (x353 + x492)).toNat))) := (.row (llt hc509) rfl (.nil rfl rfl rfl))
              refine a_val (v := (.int .i64 ((rd x493 (IntKind.i64.wrap (x353 + x492)).toNat)))) (u := []) (ld_own (i := ⟨.int .i64, 1, 8, (.int .i64 0)⟩) rfl rfl rfl hl510) hl510.c rfl ?_
              refine a_val (v := (.int .i64 (rd a1 x353.toNat))) (u := []) rfl trivial rfl ?_
              refine a_val (v := (.int .i64 (rd a2 x492.toNat))) (u := []) rfl trivial rfl ?_
              refine a_val (v := (.int .i64 (IntKind.i64.wrap ((rd a1 x353.toNat) * (rd a2 x492.toNat))))) (u := []) rfl trivial rfl ?_
              obtain ⟨x511, hx512, h⟩ := letp_some h
              refine a_val' (v := (.int .i64 (IntKind.i64.wrap (((rd x493 (IntKind.i64.wrap (x353 + x492)).toNat)) + (IntKind.i64.wrap ((rd a1 x353.toNat) * (rd a2 x492.toNat))))))) (v' := (.int .i64 x511)) (u := []) (u' := []) rfl (congrArg (fun z => ((.int .i64 z) : AV)) hx512) rfl trivial rfl ?_
              obtain ⟨hc513, h⟩ := ifp_some h
              refine a_val (v := (.own 7 [(IntKind.i64.wrap (x353 + x492)).toNat] [(IntKind.i64.wrap (x353 + x492)).toNat * 1])) (u := []) rfl (lmap hc513) rfl ?_
              have hs514 : StOk [(IntKind.i64.wrap (x353 + x492)).toNat] (.row 1 (x493.map (AV.int .i64))) [(IntKind.i64.wrap (x353 + x492)).toNat * 1] 1 (.int .i64 x511) (.row 1 (((x493.set (IntKind.i64.wrap (x353 + x492)).toNat x511)).map (AV.int .i64))) := (.row (y := x511) (llt hc513) rfl (.nil rfl rfl rfl rfl))
              refine a_val (v := .top) (u := [(7, some ⟨(.row 1 (((x493.set (IntKind.i64.wrap (x353 + x492)).toNat x511)).map (AV.int .i64))), false⟩)]) (st_own (i := ⟨.int .i64, 1, 8, (.int .i64 0)⟩) rfl rfl (fun _ => rfl) rfl hs514) (hs514.c rfl) rfl ?_
              refine a_nil ?_
              refine b_norm ?_
              refine a_next (σ' := ⟨[(0, (.int .i64 a0)), (2, (eSi64 a2)), (7, (.osl 7)), (8, (.int .i64 x353)), (9, (.int .i64 (rd a1 x353.toNat))), (29, (eSi64 a1)), (30, (.int .i64 (a1.length : Int))), (31, (.int .i64 x353)), (36, (eSi64 a2)), (37, (.int .i64 (a2.length : Int))), (38, (.int .i64 x492))], [(7, some ⟨(.row 1 (((x493.set (IntKind.i64.wrap (x353 + x492)).toNat x511)).map (AV.int .i64))), false⟩)]⟩) (by kernel_rfl) ?_
              refine a_region ?_
              refine a_val (v := (.int .i64 (IntKind.i64.wrap (x492 + 1)))) (u := []) rfl trivial rfl ?_
              refine a_val (v := (.int .i64 (IntKind.i64.wrap (x492 + 1)))) (u := []) rfl trivial rfl ?_
              refine a_nil ?_
              cases h
              exact a_again (by kernel_rfl) hX505
    · have h := ite_t hb7 h
      refine a_cond_t rfl ?_
      refine a_seq ?_
      refine a_region ?_
      refine a_val (v := (eSi64 ([]))) (u := []) rfl trivial rfl ?_
      refine a_nil ?_
      refine a_next rfl ?_
      refine a_ret ?_
      refine t_ret ?_
      refine ⟨.inr rfl, ?_⟩
      rw [Try.results136]
      cases h
      exact ⟨_, _, _, _, _, rfl, trivial, .inl ⟨rfl, .inl rfl⟩, rfl, rfl⟩
  · have h := hy4
    refine a_region ?_
    refine a_val (v := (eSi64 a1)) (u := []) rfl trivial rfl ?_
    refine a_val (v := (.int .i64 (a1.length : Int))) (u := []) (len_run rfl rfl) trivial rfl ?_
    refine a_val (v := (.bool (((a1.length : Int) == 0)))) (u := []) rfl trivial rfl ?_
    refine a_val (v := (.bool (((a1.length : Int) == 0)))) (u := []) rfl trivial rfl ?_
    cases hb6 : ((a1.length : Int) == 0)
    · have h := ite_f hb6 h
      refine a_gval rfl (v := (eSi64 a2)) (u := []) rfl trivial rfl ?_
      refine a_gval rfl (v := (.int .i64 (a2.length : Int))) (u := []) (len_run rfl rfl) trivial rfl ?_
      refine a_gval rfl (v := (.bool (((a2.length : Int) == 0)))) (u := []) rfl trivial rfl ?_
      refine a_val (v := (.bool (((a2.length : Int) == 0)))) (u := []) rfl trivial rfl ?_
      refine a_nil ?_
      exact j_leaf (((a2.length : Int) == 0)) (Option.some.inj h) (by kernel_rfl)
    · have h := ite_t hb6 h
      refine a_gskip rfl ?_
      refine a_gskip rfl ?_
      refine a_gskip rfl ?_
      refine a_val (v := (.bool true)) (u := []) rfl trivial rfl ?_
      refine a_nil ?_
      exact j_leaf true (Option.some.inj h) (by kernel_rfl)
def impl_prime_power_c : ACode := (.seq (.region 0 [⟨some 8, .asg 1 (.const (.slice none 0 0)) 65, none, []⟩] false) (.seq (.region 1 [⟨some 11, .mov (.tmp 0), none, []⟩, ⟨some 12, .bslice 0 65 1 [(0, (.const (.int .i64 1)))], none, []⟩, ⟨some 13, .mov (.tmp 3), none, []⟩, ⟨some 14, .call 0 (.func 135) [(.tmp 11), (.tmp 12), (.tmp 13)], none, []⟩, ⟨some 15, .mov (.tmp 0), none, []⟩, ⟨some 16, .mov (.tmp 1), none, []⟩, ⟨some 17, .mov (.tmp 3), none, []⟩, ⟨some 18, .call 0 (.func 135) [(.tmp 15), (.tmp 16), (.tmp 17)], none, []⟩, ⟨some 9, .asg 1 (.tmp 14) 65, none, []⟩, ⟨some 10, .asg 1 (.tmp 18) 65, none, []⟩] false) (.seq (.block 0 (.loop (.seq (.seq (.region 2 [⟨some 19, .mov (.tmp 2), none, []⟩, ⟨some 20, .bin .gtr 2 (.tmp 19) (.const (.int .i64 0)), none, []⟩] false) (.cond (.tmp 20) .skip (.exit 0))) (.seq (.block 1 (.seq (.seq (.region 4 [⟨some 23, .mov (.tmp 2), none, []⟩, ⟨some 24, .bin .and 2 (.tmp 23) (.const (.int .i64 1)), none, []⟩, ⟨some 25, .bin .eql 2 (.tmp 24) (.const (.int .i64 1)), none, []⟩] false) (.cond (.tmp 25) (.region 5 [⟨some 26, .mov (.tmp 0), none, []⟩, ⟨some 27, .mov (.tmp 0), none, []⟩, ⟨some 28, .mov (.tmp 9), none, []⟩, ⟨some 29, .mov (.tmp 10), none, []⟩, ⟨some 30, .call 0 (.func 136) [(.tmp 27), (.tmp 28), (.tmp 29)], none, []⟩, ⟨some 31, .mov (.tmp 3), none, []⟩, ⟨some 32, .call 0 (.func 135) [(.tmp 26), (.tmp 30), (.tmp 31)], none, []⟩, ⟨some 9, .asg 1 (.tmp 32) 65, none, []⟩] false) .skip)) (.region 6 [⟨some 33, .mov (.tmp 0), none, []⟩, ⟨some 34, .mov (.tmp 0), none, []⟩, ⟨some 35, .mov (.tmp 10), none, []⟩, ⟨some 36, .mov (.tmp 10), none, []⟩, ⟨some 37, .call 0 (.func 136) [(.tmp 34), (.tmp 35), (.tmp 36)], none, []⟩, ⟨some 38, .mov (.tmp 3), none, []⟩, ⟨some 39, .call 0 (.func 135) [(.tmp 33), (.tmp 37), (.tmp 38)], none, []⟩, ⟨some 10, .asg 1 (.tmp 39) 65, none, []⟩] false))) (.region 3 [⟨some 21, .mov (.tmp 2), none, []⟩, ⟨some 22, .bin .shr 2 (.tmp 21) (.const (.int .u64 1)), none, []⟩, ⟨some 2, .asg 0 (.tmp 22) 2, none, []⟩] false))))) (.seq (.region 7 [⟨some 40, .mov (.tmp 9), none, []⟩, ⟨some 8, .asg 1 (.tmp 40) 65, none, []⟩] false) .ret))))
def impl_prime_power_L : Live := [(0, [0, 1, 2, 3]), (1, [0, 1, 2, 3]), (2, [0, 2, 3, 9, 10]), (3, [0, 2, 3, 9, 10]), (4, [0, 2, 3, 9, 10]), (5, [0, 2, 3, 9, 10]), (6, [0, 2, 3, 9, 10]), (7, [9]), (100020, [0, 2, 3, 9, 10, 20]), (100025, [0, 2, 3, 9, 10, 25])]
theorem impl_prime_power_body : Try.f108.body = some (Try.f108.body.getD .skip) := by kernel_rfl
theorem impl_prime_power_strip : strip [(8, 1), (9, 1), (10, 1)] (Try.f108.body.getD .skip) = impl_prime_power_c := by kernel_rfl
noncomputable def impl_prime_power_l1 (a0 : Int) (a3 : (List Int)) (x108 : Int) (x109 : (List Int)) (x110 : (List Int)) : Option ((Int × (List Int) × (List Int)) ⊕ (List Int)) :=
  (if (decide (x108 > 0)) then (Option.bind (α := (List Int)) ((letp (IntKind.i64.wrap (BitVec.ofInt IntKind.i64.bits x108 &&& BitVec.ofInt IntKind.i64.bits 1).toNat) fun x149 => (if (x149 == 1) then (Option.bind (impl_prime_times a0 x109 x110) fun r152 => (Option.bind (impl_prime_rest a0 r152 a3) fun r154 => (some r154))) else (some x109)))) fun x145 => (Option.bind (impl_prime_times a0 x110 x110) fun r156 => (Option.bind (impl_prime_rest a0 r156 a3) fun r158 => (some (.inl ((Int.fdiv x108 (2 ^ (min (1 : Int).toNat IntKind.i64.bits)), x145, r158))))))) else (some (.inr x109)))
noncomputable def impl_prime_power (a0 : Int) (a1 : (List Int)) (a2 : Int) (a3 : (List Int)) : Option (List Int) :=
  (Option.bind (impl_prime_rest a0 ([1]) a3) fun r1 => (Option.bind (impl_prime_rest a0 a1 a3) fun r3 => (Option.bind (α := (List Int)) ((loopM (fun s : (Int × (List Int) × (List Int)) => impl_prime_power_l1 a0 a3 s.1 s.2.1 s.2.2) (a2, r1, r3))) fun x81 => (some x81))))
set_option maxHeartbeats 16000000 in
theorem impl_prime_power_ok (a0 : Int) (a1 : (List Int)) (a2 : Int) (a3 : (List Int)) (r : (List Int)) (h : impl_prime_power a0 a1 a2 a3 = some r) : Den Try.prog 108 [(.int .i64 a0), (eSi64 a1), (.int .i64 a2), (eSi64 a3)] { r := (eSi64 r) } := by
  refine den_of (rs := [(eSi64 r)]) (ac := impl_prime_power_c) (L := impl_prime_power_L) (n := 41) (m := [(8, 1), (9, 1), (10, 1)]) good Try.func108 impl_prime_power_body (by kernel_rfl) Try.ntmps108 rfl rfl impl_prime_power_strip rfl rfl ?_
  refine a_st (σ' := ⟨[(0, (.int .i64 a0)), (1, (eSi64 a1)), (2, (.int .i64 a2)), (3, (eSi64 a3))], []⟩) (by kernel_rfl) ?_
  unfold impl_prime_power_c
  refine a_seq ?_
  refine a_region ?_
  refine a_val (v := (eSi64 ([]))) (u := []) rfl trivial rfl ?_
  refine a_nil ?_
  refine a_next (σ' := ⟨[(0, (.int .i64 a0)), (1, (eSi64 a1)), (2, (.int .i64 a2)), (3, (eSi64 a3))], []⟩) (by kernel_rfl) ?_
  refine a_seq ?_
  refine a_region ?_
  refine a_val (v := (.int .i64 a0)) (u := []) rfl trivial rfl ?_
  refine a_val (v := (.sl 1 true (([1]).map (AV.int .i64)))) (u := []) rfl ⟨(Nat.le_of_ble_eq_true rfl), (Nat.le_of_ble_eq_true rfl), (all_cons ⟨(Nat.le_of_ble_eq_true rfl), rfl⟩ all_nil)⟩ rfl ?_
  refine a_val (v := (eSi64 a3)) (u := []) rfl trivial rfl ?_
  obtain ⟨r1, hr2, h⟩ := bind_some h
  refine a_call (args := [(.int .i64 a0), (.sl 1 true (([1]).map (AV.int .i64))), (eSi64 a3)]) (u := []) (r := (eSi64 r1)) rfl rfl (Den.args (impl_prime_rest_ok a0 ([1]) a3 r1 hr2) rfl rfl (.cons (.refl _) (.cons (.loose _) (.cons (.refl _) .nil)))) rfl ?_
  refine a_val (v := (.int .i64 a0)) (u := []) rfl trivial rfl ?_
  refine a_val (v := (eSi64 a1)) (u := []) rfl trivial rfl ?_
  refine a_val (v := (eSi64 a3)) (u := []) rfl trivial rfl ?_
  obtain ⟨r3, hr4, h⟩ := bind_some h
  refine a_call (args := [(.int .i64 a0), (eSi64 a1), (eSi64 a3)]) (u := []) (r := (eSi64 r3)) rfl rfl (impl_prime_rest_ok a0 a1 a3 r3 hr4) rfl ?_
  refine a_val (v := (eSi64 r1)) (u := []) rfl trivial rfl ?_
  refine a_val (v := (eSi64 r3)) (u := []) rfl trivial rfl ?_
  refine a_nil ?_
  refine a_next (σ' := ⟨[(0, (.int .i64 a0)), (2, (.int .i64 a2)), (3, (eSi64 a3)), (9, (eSi64 r1)), (10, (eSi64 r3))], []⟩) (by kernel_rfl) ?_
  obtain ⟨y82, hy83, hk84⟩ := bind_some h
  clear h
  refine a_join (emb := fun (s : (List Int)) => ⟨[(9, (eSi64 s))], []⟩) (pre := fun s => s = y82) ?_ ?_
  · rintro x81 rfl
    have h := hk84
    refine a_st (σ' := ⟨[(9, (eSi64 x81))], []⟩) (by kernel_rfl) ?_
    refine a_seq ?_
    refine a_region ?_
    refine a_val (v := (eSi64 x81)) (u := []) rfl trivial rfl ?_
    refine a_val (v := (eSi64 x81)) (u := []) rfl trivial rfl ?_
    refine a_nil ?_
    refine a_next rfl ?_
    refine a_ret ?_
    refine ⟨.inr rfl, ?_⟩
    rw [Try.results108]
    cases h
    exact ⟨_, _, _, _, _, rfl, trivial, .inl ⟨rfl, .inl rfl⟩, rfl, rfl⟩
  · have h := hy83
    refine a_block ?_
    refine a_loop (emb := fun (s : (Int × (List Int) × (List Int))) => ⟨[(0, (.int .i64 a0)), (2, (.int .i64 s.1)), (3, (eSi64 a3)), (9, (eSi64 s.2.1)), (10, (eSi64 s.2.2))], []⟩) (body := (fun s : (Int × (List Int) × (List Int)) => impl_prime_power_l1 a0 a3 s.1 s.2.1 s.2.2)) (G := fun q => some q = some y82) h rfl ?_ (by kernel_rfl)
    rintro X134 ⟨x108, x109, x110⟩ x135 h hX136
    have h : impl_prime_power_l1 a0 a3 x108 x109 x110 = some x135 := h
    refine a_st (σ' := ⟨[(0, (.int .i64 a0)), (2, (.int .i64 x108)), (3, (eSi64 a3)), (9, (eSi64 x109)), (10, (eSi64 x110))], []⟩) (by kernel_rfl) ?_
    refine a_seq ?_
    refine a_seq ?_
    refine a_region ?_
    refine a_val (v := (.int .i64 x108)) (u := []) rfl trivial rfl ?_
    refine a_val (v := (.bool ((decide (x108 > 0))))) (u := []) rfl trivial rfl ?_
    refine a_nil ?_
    refine a_next (σ' := ⟨[(0, (.int .i64 a0)), (2, (.int .i64 x108)), (3, (eSi64 a3)), (9, (eSi64 x109)), (10, (eSi64 x110)), (20, (.bool ((decide (x108 > 0)))))], []⟩) (by kernel_rfl) ?_
    cases hb137 : (decide (x108 > 0))
    · have h := ite_f hb137 h
      refine a_cond_f rfl ?_
      refine a_exit ?_
      refine t_exit ?_
      cases h
      have h := hX136
      refine t_exit ?_
      refine b_exit ?_
      exact j_leaf x109 (Option.some.inj h) (by kernel_rfl)
    · have h := ite_t hb137 h
      refine a_cond_t rfl ?_
      refine a_skip ?_
      refine a_next (σ' := ⟨[(0, (.int .i64 a0)), (2, (.int .i64 x108)), (3, (eSi64 a3)), (9, (eSi64 x109)), (10, (eSi64 x110))], []⟩) (by kernel_rfl) ?_
      refine a_seq ?_
      refine a_block ?_
      obtain ⟨y146, hy147, hk148⟩ := bind_some h
      clear h
      refine a_join (emb := fun (s : (List Int)) => ⟨[(0, (.int .i64 a0)), (2, (.int .i64 x108)), (3, (eSi64 a3)), (9, (eSi64 s)), (10, (eSi64 x110))], []⟩) (pre := fun s => s = y146) ?_ ?_
      · rintro x145 rfl
        have h := hk148
        refine a_st (σ' := ⟨[(0, (.int .i64 a0)), (2, (.int .i64 x108)), (3, (eSi64 a3)), (9, (eSi64 x145)), (10, (eSi64 x110))], []⟩) (by kernel_rfl) ?_
        refine a_region ?_
        refine a_val (v := (.int .i64 a0)) (u := []) rfl trivial rfl ?_
        refine a_val (v := (.int .i64 a0)) (u := []) rfl trivial rfl ?_
        refine a_val (v := (eSi64 x110)) (u := []) rfl trivial rfl ?_
        refine a_val (v := (eSi64 x110)) (u := []) rfl trivial rfl ?_
        obtain ⟨r156, hr157, h⟩ := bind_some h
        refine a_call (args := [(.int .i64 a0), (eSi64 x110), (eSi64 x110)]) (u := []) (r := (eSi64 r156)) rfl rfl (impl_prime_times_ok a0 x110 x110 r156 hr157) rfl ?_
        refine a_val (v := (eSi64 a3)) (u := []) rfl trivial rfl ?_
        obtain ⟨r158, hr159, h⟩ := bind_some h
        refine a_call (args := [(.int .i64 a0), (eSi64 r156), (eSi64 a3)]) (u := []) (r := (eSi64 r158)) rfl rfl (impl_prime_rest_ok a0 r156 a3 r158 hr159) rfl ?_
        refine a_val (v := (eSi64 r158)) (u := []) rfl trivial rfl ?_
        refine a_nil ?_
        refine b_norm ?_
        refine a_next (σ' := ⟨[(0, (.int .i64 a0)), (2, (.int .i64 x108)), (3, (eSi64 a3)), (9, (eSi64 x145)), (10, (eSi64 r158))], []⟩) (by kernel_rfl) ?_
        refine a_region ?_
        refine a_val (v := (.int .i64 x108)) (u := []) rfl trivial rfl ?_
        refine a_val (v := (.int .i64 (Int.fdiv x108 (2 ^ (min (1 : Int).toNat IntKind.i64.bits))))) (u := []) rfl (by decide) rfl ?_
        refine a_val (v := (.int .i64 (Int.fdiv x108 (2 ^ (min (1 : Int).toNat IntKind.i64.bits))))) (u := []) rfl trivial rfl ?_
        refine a_nil ?_
        cases h
        exact a_again (by kernel_rfl) hX136
      · have h := hy147
        refine a_seq ?_
        refine a_region ?_
        refine a_val (v := (.int .i64 x108)) (u := []) rfl trivial rfl ?_
        obtain ⟨x149, hx150, h⟩ := letp_some h
        refine a_val' (v := (.int .i64 (IntKind.i64.wrap (BitVec.ofInt IntKind.i64.bits x108 &&& BitVec.ofInt IntKind.i64.bits 1).toNat))) (v' := (.int .i64 x149)) (u := []) (u' := []) rfl (congrArg (fun z => ((.int .i64 z) : AV)) hx150) rfl trivial rfl ?_
        refine a_val (v := (.bool (x149 == 1))) (u := []) rfl trivial rfl ?_
        refine a_nil ?_
        refine a_next (σ' := ⟨[(0, (.int .i64 a0)), (2, (.int .i64 x108)), (3, (eSi64 a3)), (9, (eSi64 x109)), (10, (eSi64 x110)), (25, (.bool (x149 == 1)))], []⟩) (by kernel_rfl) ?_
        cases hb151 : (x149 == 1)
        · have h := ite_f hb151 h
          refine a_cond_f rfl ?_
          refine a_skip ?_
          exact j_leaf x109 (Option.some.inj h) (by kernel_rfl)
        · have h := ite_t hb151 h
          refine a_cond_t rfl ?_
          refine a_region ?_
          refine a_val (v := (.int .i64 a0)) (u := []) rfl trivial rfl ?_
          refine a_val (v := (.int .i64 a0)) (u := []) rfl trivial rfl ?_
          refine a_val (v := (eSi64 x109)) (u := []) rfl trivial rfl ?_
          refine a_val (v := (eSi64 x110)) (u := []) rfl trivial rfl ?_
          obtain ⟨r152, hr153, h⟩ := bind_some h
          refine a_call (args := [(.int .i64 a0), (eSi64 x109), (eSi64 x110)]) (u := []) (r := (eSi64 r152)) rfl rfl (impl_prime_times_ok a0 x109 x110 r152 hr153) rfl ?_
          refine a_val (v := (eSi64 a3)) (u := []) rfl trivial rfl ?_
          obtain ⟨r154, hr155, h⟩ := bind_some h
          refine a_call (args := [(.int .i64 a0), (eSi64 r152), (eSi64 a3)]) (u := []) (r := (eSi64 r154)) rfl rfl (impl_prime_rest_ok a0 r152 a3 r154 hr155) rfl ?_
          refine a_val (v := (eSi64 r154)) (u := []) rfl trivial rfl ?_
          refine a_nil ?_
          exact j_leaf r154 (Option.some.inj h) (by kernel_rfl)
def impl_row_at_c : ACode := (.seq (.region 0 [⟨some 4, .asg 0 (.const (.int .i64 0)) 2, none, []⟩] false) (.seq (.seq (.region 1 [⟨some 5, .mov (.tmp 1), none, []⟩, ⟨some 6, .mov (.tmp 0), none, []⟩, ⟨some 7, .blt 0 .len [(.tmp 6)] [65], none, []⟩, ⟨some 8, .bin .lss 3 (.tmp 5) (.tmp 7), none, []⟩] false) (.cond (.tmp 8) (.seq (.region 2 [⟨some 9, .mov (.tmp 0), none, []⟩, ⟨some 10, .mov (.tmp 1), none, []⟩, ⟨some 11, .indexAddr 65 (.tmp 9) (.tmp 10), none, []⟩, ⟨some 12, .load 2 (.tmp 11), none, []⟩, ⟨some 4, .asg 0 (.tmp 12) 2, none, []⟩] false) .ret) .skip)) (.seq (.region 3 [⟨some 4, .asg 0 (.const (.int .i64 0)) 2, none, []⟩] false) .ret)))
def impl_row_at_L : Live := [(0, [0, 1]), (1, [0, 1]), (2, [0, 1]), (3, []), (100008, [0, 1, 8])]
theorem impl_row_at_body : Try.f129.body = some (Try.f129.body.getD .skip) := by kernel_rfl
theorem impl_row_at_strip : strip [] (Try.f129.body.getD .skip) = impl_row_at_c := by kernel_rfl
noncomputable def impl_row_at (a0 : (List Int)) (a1 : Int) : Option Int :=
  (if (decide (a1 < (a0.length : Int))) then (ifp (0 ≤ a1 ∧ a1 < ((a0.length : Nat) : Int)) ((some (rd a0 a1.toNat)))) else (some 0))
set_option maxHeartbeats 16000000 in
theorem impl_row_at_ok (a0 : (List Int)) (a1 : Int) (r : Int) (h : impl_row_at a0 a1 = some r) : Den Try.prog 129 [(eSi64 a0), (.int .i64 a1)] { r := (.int .i64 r) } := by
  refine den_of (rs := [(.int .i64 r)]) (ac := impl_row_at_c) (L := impl_row_at_L) (n := 13) (m := []) good Try.func129 impl_row_at_body (by kernel_rfl) Try.ntmps129 rfl rfl impl_row_at_strip rfl rfl ?_
  refine a_st (σ' := ⟨[(0, (eSi64 a0)), (1, (.int .i64 a1))], []⟩) (by kernel_rfl) ?_
  unfold impl_row_at_c
  refine a_seq ?_
  refine a_region ?_
  refine a_val (v := (.int .i64 0)) (u := []) rfl trivial rfl ?_
  refine a_nil ?_
  refine a_next (σ' := ⟨[(0, (eSi64 a0)), (1, (.int .i64 a1))], []⟩) (by kernel_rfl) ?_
  refine a_seq ?_
  refine a_seq ?_
  refine a_region ?_
  refine a_val (v := (.int .i64 a1)) (u := []) rfl trivial rfl ?_
  refine a_val (v := (eSi64 a0)) (u := []) rfl trivial rfl ?_
  refine a_val (v := (.int .i64 (a0.length : Int))) (u := []) (len_run rfl rfl) trivial rfl ?_
  refine a_val (v := (.bool ((decide (a1 < (a0.length : Int)))))) (u := []) rfl trivial rfl ?_
  refine a_nil ?_
  refine a_next (σ' := ⟨[(0, (eSi64 a0)), (1, (.int .i64 a1)), (8, (.bool ((decide (a1 < (a0.length : Int))))))], []⟩) (by kernel_rfl) ?_
  cases hb1 : (decide (a1 < (a0.length : Int)))
  · have h := ite_f hb1 h
    refine a_cond_f rfl ?_
    refine a_skip ?_
    refine a_next (σ' := ⟨[], []⟩) (by kernel_rfl) ?_
    refine a_seq ?_
    refine a_region ?_
    refine a_val (v := (.int .i64 0)) (u := []) rfl trivial rfl ?_
    refine a_nil ?_
    refine a_next rfl ?_
    refine a_ret ?_
    refine ⟨.inr rfl, ?_⟩
    rw [Try.results129]
    cases h
    exact ⟨_, _, _, _, _, rfl, trivial, .inl ⟨rfl, .inl rfl⟩, rfl, rfl⟩
  · have h := ite_t hb1 h
    refine a_cond_t rfl ?_
    refine a_seq ?_
    refine a_region ?_
    refine a_val (v := (eSi64 a0)) (u := []) rfl trivial rfl ?_
    refine a_val (v := (.int .i64 a1)) (u := []) rfl trivial rfl ?_
    obtain ⟨hc2, h⟩ := ifp_some h
    refine a_val (v := (.ref (.row 1 (a0.map (AV.int .i64))) [a1.toNat] [a1.toNat * 1])) (u := []) rfl (lmap hc2) rfl ?_
    have hl3 : LdOk [a1.toNat] (.row 1 (a0.map (AV.int .i64))) [a1.toNat * 1] 1 false (.int .i64 (rd a0 a1.toNat)) := (.row (llt hc2) rfl (.nil rfl rfl rfl))
    refine a_val (v := (.int .i64 (rd a0 a1.toNat))) (u := []) (ld_ref (i := ⟨.int .i64, 1, 8, (.int .i64 0)⟩) rfl rfl hl3) hl3.c rfl ?_
    refine a_val (v := (.int .i64 (rd a0 a1.toNat))) (u := []) rfl trivial rfl ?_
    refine a_nil ?_
    refine a_next rfl ?_
    refine a_ret ?_
    refine t_ret ?_
    refine ⟨.inr rfl, ?_⟩
    rw [Try.results129]
    cases h
    exact ⟨_, _, _, _, _, rfl, trivial, .inl ⟨rfl, .inl rfl⟩, rfl, rfl⟩
def impl_prime_combine_c : ACode := (.seq (.region 0 [⟨some 8, .asg 1 (.const (.slice none 0 0)) 65, none, []⟩] false) (.seq (.region 1 [⟨some 11, .mov (.tmp 1), none, []⟩, ⟨some 12, .blt 0 .len [(.tmp 11)] [65], none, []⟩, ⟨some 13, .mov (.tmp 2), none, []⟩, ⟨some 14, .blt 0 .len [(.tmp 13)] [65], none, []⟩, ⟨some 15, .blt 0 .max [(.tmp 12), (.tmp 14)] [3, 3], none, []⟩, ⟨some 16, .mkslice 65 (.tmp 15) (.tmp 15), none, []⟩, ⟨some 9, .asg 2 (.tmp 16) 65, none, []⟩] false) (.seq (.seq (.region 2 [⟨some 17, .mov (.tmp 9), none, []⟩, ⟨some 18, .blt 0 .len [(.tmp 17)] [65], none, []⟩, ⟨some 19, .mov (.const (.int .i64 0)), none, []⟩] false) (.block 0 (.loop (.seq (.region 3 [⟨some 20, .bin .lss 3 (.tmp 19) (.tmp 18), none, []⟩] false) (.seq (.cond (.tmp 20) .skip (.exit 0)) (.seq (.block 1 (.seq (.region 4 [⟨some 21, .mov (.tmp 19), none, []⟩, ⟨some 10, .asg 0 (.tmp 21) 3, none, []⟩] false) (.region 5 [⟨some 22, .mov (.tmp 9), none, []⟩, ⟨some 23, .mov (.tmp 10), none, []⟩, ⟨some 24, .mov (.tmp 0), none, []⟩, ⟨some 25, .mov (.tmp 1), none, []⟩, ⟨some 26, .mov (.tmp 10), none, []⟩, ⟨some 27, .call 0 (.func 129) [(.tmp 25), (.tmp 26)], none, []⟩, ⟨some 28, .mov (.tmp 3), none, []⟩, ⟨some 29, .mov (.tmp 2), none, []⟩, ⟨some 30, .mov (.tmp 10), none, []⟩, ⟨some 31, .call 0 (.func 129) [(.tmp 29), (.tmp 30)], none, []⟩, ⟨some 32, .bin .mul 2 (.tmp 28) (.tmp 31), none, []⟩, ⟨some 33, .bin .add 2 (.tmp 27) (.tmp 32), none, []⟩, ⟨some 34, .call 0 (.func 138) [(.tmp 24), (.tmp 33)], none, []⟩, ⟨some 35, .indexAddr 65 (.tmp 22) (.tmp 23), none, []⟩, ⟨none, .store 2 (.tmp 35) (.tmp 34), none, []⟩] false))) (.region 6 [⟨some 36, .bin .add 3 (.tmp 19) (.const (.int .i64 1)), none, []⟩, ⟨some 19, .mov (.tmp 36), none, []⟩] false))))))) (.seq (.region 7 [⟨some 37, .mov (.tmp 9), none, []⟩, ⟨some 38, .call 0 (.func 102) [(.tmp 37)], none, []⟩, ⟨some 8, .asg 1 (.tmp 38) 65, none, []⟩] false) .ret))))
def impl_prime_combine_L : Live := [(0, [0, 1, 2, 3]), (1, [0, 1, 2, 3]), (2, [0, 1, 2, 3, 9]), (3, [0, 1, 2, 3, 9, 18, 19]), (4, [0, 1, 2, 3, 9, 18, 19]), (5, [0, 1, 2, 3, 9, 10, 18, 19]), (6, [0, 1, 2, 3, 9, 18, 19]), (7, [9]), (100020, [0, 1, 2, 3, 9, 18, 19, 20])]
theorem impl_prime_combine_body : Try.f110.body = some (Try.f110.body.getD .skip) := by kernel_rfl
theorem impl_prime_combine_strip : strip [(8, 1), (9, 2)] (Try.f110.body.getD .skip) = impl_prime_combine_c := by kernel_rfl
noncomputable def impl_prime_combine_l1 (x1 : Int) (a1 : (List Int)) (a2 : (List Int)) (a0 : Int) (a3 : Int) (x58 : Int) (x59 : (List Int)) : Option ((Int × (List Int)) ⊕ (List Int)) :=
  (letp ((decide (x58 < (((List.replicate x1.toNat (0 : Int)).length : Int))))) fun x74 => (if x74 then (Option.bind (impl_row_at a1 x58) fun r77 => (Option.bind (impl_row_at a2 x58) fun r79 => (Option.bind (impl_prime_reduce a0 (IntKind.i64.wrap (r77 + (IntKind.i64.wrap (a3 * r79))))) fun r81 => (ifp (0 ≤ x58 ∧ x58 < ((x59.length : Nat) : Int)) ((some (.inl ((IntKind.i64.wrap (x58 + 1), (x59.set x58.toNat r81)))))))))) else (some (.inr x59))))
noncomputable def impl_prime_combine (a0 : Int) (a1 : (List Int)) (a2 : (List Int)) (a3 : Int) : Option (List Int) :=
  (letp ((if (a2.length : Int) > (a1.length : Int) then (a2.length : Int) else (a1.length : Int))) fun x1 => (ifp (0 ≤ x1 ∧ x1 ≤ 140737488355328 ∧ 8 * x1 ≤ 140737488355328) ((Option.bind (α := (List Int)) ((loopM (fun s : (Int × (List Int)) => impl_prime_combine_l1 x1 a1 a2 a0 a3 s.1 s.2) (0, List.replicate x1.toNat (0 : Int)))) fun x43 => (Option.bind (impl_row_trimmed x43) fun r86 => (some r86))))))
set_option maxHeartbeats 16000000 in
theorem impl_prime_combine_ok (a0 : Int) (a1 : (List Int)) (a2 : (List Int)) (a3 : Int) (r : (List Int)) (h : impl_prime_combine a0 a1 a2 a3 = some r) : Den Try.prog 110 [(.int .i64 a0), (eSi64 a1), (eSi64 a2), (.int .i64 a3)] { r := (eSi64 r) } := by
  refine den_of (rs := [(eSi64 r)]) (ac := impl_prime_combine_c) (L := impl_prime_combine_L) (n := 39) (m := [(8, 1), (9, 2)]) good Try.func110 impl_prime_combine_body (by kernel_rfl) Try.ntmps110 rfl rfl impl_prime_combine_strip rfl rfl ?_
  refine a_st (σ' := ⟨[(0, (.int .i64 a0)), (1, (eSi64 a1)), (2, (eSi64 a2)), (3, (.int .i64 a3))], []⟩) (by kernel_rfl) ?_
  unfold impl_prime_combine_c
  refine a_seq ?_
  refine a_region ?_
  refine a_val (v := (eSi64 ([]))) (u := []) rfl trivial rfl ?_
  refine a_nil ?_
  refine a_next (σ' := ⟨[(0, (.int .i64 a0)), (1, (eSi64 a1)), (2, (eSi64 a2)), (3, (.int .i64 a3))], []⟩) (by kernel_rfl) ?_
  refine a_seq ?_
  refine a_region ?_
  refine a_val (v := (eSi64 a1)) (u := []) rfl trivial rfl ?_
  refine a_val (v := (.int .i64 (a1.length : Int))) (u := []) (len_run rfl rfl) trivial rfl ?_
  refine a_val (v := (eSi64 a2)) (u := []) rfl trivial rfl ?_
  refine a_val (v := (.int .i64 (a2.length : Int))) (u := []) (len_run rfl rfl) trivial rfl ?_
  obtain ⟨x1, hx2, h⟩ := letp_some h
  refine a_val' (v := (.int .i64 ((if (a2.length : Int) > (a1.length : Int) then (a2.length : Int) else (a1.length : Int))))) (v' := (.int .i64 x1)) (u := []) (u' := []) rfl (congrArg (fun z => ((.int .i64 z) : AV)) hx2) rfl trivial rfl ?_
  obtain ⟨hc3, h⟩ := ifp_some h
  refine a_val (v := (.osl 2600)) (u := [(2600, some ⟨(.row 1 ((List.replicate x1.toNat (0 : Int)).map (AV.int .i64))), false⟩)]) (mk_run (i := ⟨.int .i64, 1, 8, (.int .i64 0)⟩) (f := (AV.int .i64)) (y := (0 : Int)) rfl rfl rfl rfl rfl rfl) ⟨rfl, hc3.1, hc3.2.1, hc3.2.2, (Nat.le_of_ble_eq_true rfl)⟩ rfl ?_
  refine a_val (v := (.osl 2600)) (u := []) rfl trivial rfl ?_
  refine a_nil ?_
  refine a_next (σ' := ⟨[(0, (.int .i64 a0)), (1, (eSi64 a1)), (2, (eSi64 a2)), (3, (.int .i64 a3)), (9, (.osl 9))], [(9, some ⟨(.row 1 ((List.replicate x1.toNat (0 : Int)).map (AV.int .i64))), false⟩)]⟩) (by kernel_rfl) ?_
  obtain ⟨y44, hy45, hk46⟩ := bind_some h
  clear h
  refine a_join (emb := fun (s : (List Int)) => ⟨[(9, (.osl 9))], [(9, some ⟨(.row 1 (s.map (AV.int .i64))), false⟩)]⟩) (pre := fun s => s = y44) ?_ ?_
  · rintro x43 rfl
    have h := hk46
    refine a_st (σ' := ⟨[(9, (.osl 9))], [(9, some ⟨(.row 1 (x43.map (AV.int .i64))), false⟩)]⟩) (by kernel_rfl) ?_
    refine a_seq ?_
    refine a_region ?_
    refine a_val (v := (.osl 9)) (u := []) rfl trivial rfl ?_
    obtain ⟨r86, hr87, h⟩ := bind_some h
    refine a_call (args := [(eSi64 x43)]) (u := [(9, some ⟨(.row 1 (x43.map (AV.int .i64))), true⟩)]) (r := (eSi64 r86)) rfl rfl (impl_row_trimmed_ok x43 r86 hr87) rfl ?_
    refine a_val (v := (eSi64 r86)) (u := []) rfl trivial rfl ?_
    refine a_nil ?_
    refine a_next rfl ?_
    refine a_ret ?_
    refine ⟨.inr rfl, ?_⟩
    rw [Try.results110]
    cases h
    exact ⟨_, _, _, _, _, rfl, trivial, .inl ⟨rfl, .inl rfl⟩, rfl, rfl⟩
  · have h := hy45
    refine a_seq ?_
    refine a_region ?_
    refine a_val (v := (.osl 9)) (u := []) rfl trivial rfl ?_
    refine a_val (v := (.int .i64 (((List.replicate x1.toNat (0 : Int)).length : Int)))) (u := []) (leno_run rfl rfl rfl) trivial rfl ?_
    refine a_val (v := (.int .i64 0)) (u := []) rfl trivial rfl ?_
    refine a_nil ?_
    refine a_next (σ' := ⟨[(0, (.int .i64 a0)), (1, (eSi64 a1)), (2, (eSi64 a2)), (3, (.int .i64 a3)), (9, (.osl 9)), (18, (.int .i64 (((List.replicate x1.toNat (0 : Int)).length : Int)))), (19, (.int .i64 0))], [(9, some ⟨(.row 1 ((List.replicate x1.toNat (0 : Int)).map (AV.int .i64))), false⟩)]⟩) (by kernel_rfl) ?_
    refine a_block ?_
    refine a_loop (emb := fun (s : (Int × (List Int))) => ⟨[(0, (.int .i64 a0)), (1, (eSi64 a1)), (2, (eSi64 a2)), (3, (.int .i64 a3)), (9, (.osl 9)), (18, (.int .i64 (((List.replicate x1.toNat (0 : Int)).length : Int)))), (19, (.int .i64 s.1))], [(9, some ⟨(.row 1 (s.2.map (AV.int .i64))), false⟩)]⟩) (body := (fun s : (Int × (List Int)) => impl_prime_combine_l1 x1 a1 a2 a0 a3 s.1 s.2)) (G := fun q => some q = some y44) h rfl ?_ (by kernel_rfl)
    rintro X71 ⟨x58, x59⟩ x72 h hX73
    have h : impl_prime_combine_l1 x1 a1 a2 a0 a3 x58 x59 = some x72 := h
    refine a_st (σ' := ⟨[(0, (.int .i64 a0)), (1, (eSi64 a1)), (2, (eSi64 a2)), (3, (.int .i64 a3)), (9, (.osl 9)), (18, (.int .i64 (((List.replicate x1.toNat (0 : Int)).length : Int)))), (19, (.int .i64 x58))], [(9, some ⟨(.row 1 (x59.map (AV.int .i64))), false⟩)]⟩) (by kernel_rfl) ?_
    refine a_seq ?_
    refine a_region ?_
    obtain ⟨x74, hx75, h⟩ := letp_some h
    refine a_val' (v := (.bool ((decide (x58 < (((List.replicate x1.toNat (0 : Int)).length : Int))))))) (v' := (.bool x74)) (u := []) (u' := []) rfl (congrArg (fun z => ((.bool z) : AV)) hx75) rfl trivial rfl ?_
    refine a_nil ?_
    refine a_next (σ' := ⟨[(0, (.int .i64 a0)), (1, (eSi64 a1)), (2, (eSi64 a2)), (3, (.int .i64 a3)), (9, (.osl 9)), (18, (.int .i64 (((List.replicate x1.toNat (0 : Int)).length : Int)))), (19, (.int .i64 x58)), (20, (.bool x74))], [(9, some ⟨(.row 1 (x59.map (AV.int .i64))), false⟩)]⟩) (by kernel_rfl) ?_
    refine a_seq ?_
    cases hb76 : x74
    · have h := ite_f hb76 h
      refine a_cond_f rfl ?_
      refine a_exit ?_
      refine t_exit ?_
      cases h
      have h := hX73
      refine t_exit ?_
      refine b_exit ?_
      exact j_leaf x59 (Option.some.inj h) (by kernel_rfl)
    · have h := ite_t hb76 h
      refine a_cond_t rfl ?_
      refine a_skip ?_
      refine a_next (σ' := ⟨[(0, (.int .i64 a0)), (1, (eSi64 a1)), (2, (eSi64 a2)), (3, (.int .i64 a3)), (9, (.osl 9)), (18, (.int .i64 (((List.replicate x1.toNat (0 : Int)).length : Int)))), (19, (.int .i64 x58))], [(9, some ⟨(.row 1 (x59.map (AV.int .i64))), false⟩)]⟩) (by kernel_rfl) ?_
      refine a_seq ?_
      refine a_block ?_
      refine a_seq ?_
      refine a_region ?_
      refine a_val (v := (.int .i64 x58)) (u := []) rfl trivial rfl ?_
      refine a_val (v := (.int .i64 x58)) (u := []) rfl trivial rfl ?_
      refine a_nil ?_
      refine a_next (σ' := ⟨[(0, (.int .i64 a0)), (1, (eSi64 a1)), (2, (eSi64 a2)), (3, (.int .i64 a3)), (9, (.osl 9)), (10, (.int .i64 x58)), (18, (.int .i64 (((List.replicate x1.toNat (0 : Int)).length : Int)))), (19, (.int .i64 x58))], [(9, some ⟨(.row 1 (x59.map (AV.int .i64))), false⟩)]⟩) (by kernel_rfl) ?_
      refine a_region ?_
      refine a_val (v := (.osl 9)) (u := []) rfl trivial rfl ?_
      refine a_val (v := (.int .i64 x58)) (u := []) rfl trivial rfl ?_
      refine a_val (v := (.int .i64 a0)) (u := []) rfl trivial rfl ?_
      refine a_val (v := (eSi64 a1)) (u := []) rfl trivial rfl ?_
      refine a_val (v := (.int .i64 x58)) (u := []) rfl trivial rfl ?_
      obtain ⟨r77, hr78, h⟩ := bind_some h
      refine a_call (args := [(eSi64 a1), (.int .i64 x58)]) (u := []) (r := (.int .i64 r77)) rfl rfl (impl_row_at_ok a1 x58 r77 hr78) rfl ?_
      refine a_val (v := (.int .i64 a3)) (u := []) rfl trivial rfl ?_
      refine a_val (v := (eSi64 a2)) (u := []) rfl trivial rfl ?_
      refine a_val (v := (.int .i64 x58)) (u := []) rfl trivial rfl ?_
      obtain ⟨r79, hr80, h⟩ := bind_some h
      refine a_call (args := [(eSi64 a2), (.int .i64 x58)]) (u := []) (r := (.int .i64 r79)) rfl rfl (impl_row_at_ok a2 x58 r79 hr80) rfl ?_
      refine a_val (v := (.int .i64 (IntKind.i64.wrap (a3 * r79)))) (u := []) rfl trivial rfl ?_
      refine a_val (v := (.int .i64 (IntKind.i64.wrap (r77 + (IntKind.i64.wrap (a3 * r79)))))) (u := []) rfl trivial rfl ?_
      obtain ⟨r81, hr82, h⟩ := bind_some h
      refine a_call (args := [(.int .i64 a0), (.int .i64 (IntKind.i64.wrap (r77 + (IntKind.i64.wrap (a3 * r79)))))]) (u := []) (r := (.int .i64 r81)) rfl rfl (impl_prime_reduce_ok a0 (IntKind.i64.wrap (r77 + (IntKind.i64.wrap (a3 * r79)))) r81 hr82) rfl ?_
      obtain ⟨hc83, h⟩ := ifp_some h
      refine a_val (v := (.own 9 [x58.toNat] [x58.toNat * 1])) (u := []) rfl (lmap hc83) rfl ?_
      have hs84 : StOk [x58.toNat] (.row 1 (x59.map (AV.int .i64))) [x58.toNat * 1] 1 (.int .i64 r81) (.row 1 ((x59.set x58.toNat r81).map (AV.int .i64))) := (.row (y := r81) (llt hc83) rfl (.nil rfl rfl rfl rfl))
      refine a_val (v := .top) (u := [(9, some ⟨(.row 1 ((x59.set x58.toNat r81).map (AV.int .i64))), false⟩)]) (st_own (i := ⟨.int .i64, 1, 8, (.int .i64 0)⟩) rfl rfl (fun _ => rfl) rfl hs84) (hs84.c rfl) rfl ?_
      refine a_nil ?_
      refine b_norm ?_
      refine a_next (σ' := ⟨[(0, (.int .i64 a0)), (1, (eSi64 a1)), (2, (eSi64 a2)), (3, (.int .i64 a3)), (9, (.osl 9)), (18, (.int .i64 (((List.replicate x1.toNat (0 : Int)).length : Int)))), (19, (.int .i64 x58))], [(9, some ⟨(.row 1 ((x59.set x58.toNat r81).map (AV.int .i64))), false⟩)]⟩) (by kernel_rfl) ?_
      refine a_region ?_
      refine a_val (v := (.int .i64 (IntKind.i64.wrap (x58 + 1)))) (u := []) rfl trivial rfl ?_
      refine a_val (v := (.int .i64 (IntKind.i64.wrap (x58 + 1)))) (u := []) rfl trivial rfl ?_
      refine a_nil ?_
      cases h
      exact a_again (by kernel_rfl) hX73
def impl_prime_scale_c : ACode := (.seq (.region 0 [⟨some 6, .asg 1 (.const (.slice none 0 0)) 65, none, []⟩] false) (.seq (.region 1 [⟨some 7, .mov (.tmp 0), none, []⟩, ⟨some 8, .mov (.tmp 1), none, []⟩, ⟨some 9, .mov (.tmp 2), none, []⟩, ⟨some 10, .call 0 (.func 110) [(.tmp 7), (.const (.slice none 0 0)), (.tmp 8), (.tmp 9)], none, []⟩, ⟨some 6, .asg 1 (.tmp 10) 65, none, []⟩] false) .ret))
def impl_prime_scale_L : Live := [(0, [0, 1, 2]), (1, [0, 1, 2])]
theorem impl_prime_scale_body : Try.f105.body = some (Try.f105.body.getD .skip) := by kernel_rfl
theorem impl_prime_scale_strip : strip [(6, 1)] (Try.f105.body.getD .skip) = impl_prime_scale_c := by kernel_rfl
noncomputable def impl_prime_scale (a0 : Int) (a1 : (List Int)) (a2 : Int) : Option (List Int) :=
  (Option.bind (impl_prime_combine a0 ([]) a1 a2) fun r1 => (some r1))
set_option maxHeartbeats 16000000 in
theorem impl_prime_scale_ok (a0 : Int) (a1 : (List Int)) (a2 : Int) (r : (List Int)) (h : impl_prime_scale a0 a1 a2 = some r) : Den Try.prog 105 [(.int .i64 a0), (eSi64 a1), (.int .i64 a2)] { r := (eSi64 r) } := by
  refine den_of (rs := [(eSi64 r)]) (ac := impl_prime_scale_c) (L := impl_prime_scale_L) (n := 11) (m := [(6, 1)]) good Try.func105 impl_prime_scale_body (by kernel_rfl) Try.ntmps105 rfl rfl impl_prime_scale_strip rfl rfl ?_
  refine a_st (σ' := ⟨[(0, (.int .i64 a0)), (1, (eSi64 a1)), (2, (.int .i64 a2))], []⟩) (by kernel_rfl) ?_
  unfold impl_prime_scale_c
  refine a_seq ?_
  refine a_region ?_
  refine a_val (v := (eSi64 ([]))) (u := []) rfl trivial rfl ?_
  refine a_nil ?_
  refine a_next (σ' := ⟨[(0, (.int .i64 a0)), (1, (eSi64 a1)), (2, (.int .i64 a2))], []⟩) (by kernel_rfl) ?_
  refine a_seq ?_
  refine a_region ?_
  refine a_val (v := (.int .i64 a0)) (u := []) rfl trivial rfl ?_
  refine a_val (v := (eSi64 a1)) (u := []) rfl trivial rfl ?_
  refine a_val (v := (.int .i64 a2)) (u := []) rfl trivial rfl ?_
  obtain ⟨r1, hr2, h⟩ := bind_some h
  refine a_call (args := [(.int .i64 a0), (.sl 0 true []), (eSi64 a1), (.int .i64 a2)]) (u := []) (r := (eSi64 r1)) rfl rfl (Den.args (impl_prime_combine_ok a0 ([]) a1 a2 r1 hr2) rfl rfl (.cons (.refl _) (.cons (.nil _ _ _ _ (fun _ => rfl)) (.cons (.refl _) (.cons (.refl _) .nil))))) rfl ?_
  refine a_val (v := (eSi64 r1)) (u := []) rfl trivial rfl ?_
  refine a_nil ?_
  refine a_next rfl ?_
  refine a_ret ?_
  refine ⟨.inr rfl, ?_⟩
  rw [Try.results105]
  cases h
  exact ⟨_, _, _, _, _, rfl, trivial, .inl ⟨rfl, .inl rfl⟩, rfl, rfl⟩
end Go.Proofs.Ytcgohoclbjgmkaa
