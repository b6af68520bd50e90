/- Functions of the program: plain Lean functions, and that the program computes them. Printed by gen.py. -/
import Derived.Test.YtacebpbhddkelaaFnT
import Derived.Test.YtacebpbhddkelaaFn2
namespace Go.Proofs.Ytacebpbhddkelaa
open Go.Abs Go.Proofs
set_option linter.unusedSimpArgs false
set_option linter.unusedVariables false

def impl_prime_inverse_c : ACode := (.seq (.region 0 [⟨some 4, .asg 0 (.const (.int .i64 0)) 2, none, []⟩] false) (.seq (.region 1 [⟨some 5, .asg 0 (.const (.int .i64 1)) 2, none, []⟩] false) (.seq (.seq (.region 2 [⟨some 6, .mov (.tmp 0), none, []⟩, ⟨some 7, .bin .sub 2 (.tmp 6) (.const (.int .i64 2)), none, []⟩, ⟨some 8, .mov (.const (.int .i64 0)), none, []⟩] false) (.block 0 (.loop (.seq (.region 3 [⟨some 9, .bin .lss 2 (.tmp 8) (.tmp 7), none, []⟩] false) (.seq (.cond (.tmp 9) .skip (.exit 0)) (.seq (.block 1 (.region 4 [⟨some 10, .mov (.tmp 5), none, []⟩, ⟨some 11, .mov (.tmp 1), none, []⟩, ⟨some 12, .bin .mul 2 (.tmp 10) (.tmp 11), none, []⟩, ⟨some 13, .mov (.tmp 0), none, []⟩, ⟨some 14, .bin .rem 2 (.tmp 12) (.tmp 13), none, []⟩, ⟨some 5, .asg 0 (.tmp 14) 2, none, []⟩] false)) (.region 5 [⟨some 15, .bin .add 2 (.tmp 8) (.const (.int .i64 1)), none, []⟩, ⟨some 8, .mov (.tmp 15), none, []⟩] false))))))) (.seq (.region 6 [⟨some 16, .mov (.tmp 5), none, []⟩, ⟨some 4, .asg 0 (.tmp 16) 2, none, []⟩] false) .ret))))
def impl_prime_inverse_L : Live := [(0, [0, 1]), (1, [0, 1]), (2, [0, 1, 5]), (3, [0, 1, 5, 7, 8]), (4, [0, 1, 5, 7, 8]), (5, [0, 1, 5, 7, 8]), (6, [5]), (100009, [0, 1, 5, 7, 8, 9])]
theorem impl_prime_inverse_body : Try.f109.body = some (Try.f109.body.getD .skip) := by kernel_rfl
theorem impl_prime_inverse_strip : strip [] (Try.f109.body.getD .skip) = impl_prime_inverse_c := by kernel_rfl
noncomputable def impl_prime_inverse_l1 (a0 : Int) (a1 : Int) (x19 : Int) (x20 : Int) : Option ((Int × Int) ⊕ Int) :=
  (if (decide (x20 < (IntKind.i64.wrap (a0 - 2)))) then (ifp (a0 ≠ 0) ((some (.inl ((Int.tmod (IntKind.i64.wrap (x19 * a1)) a0, IntKind.i64.wrap (x20 + 1))))))) else (some (.inr x19)))
noncomputable def impl_prime_inverse (a0 : Int) (a1 : Int) : Option Int :=
  (Option.bind (α := Int) ((loopM (fun s : (Int × Int) => impl_prime_inverse_l1 a0 a1 s.1 s.2) (1, 0))) fun x13 => (some x13))
set_option maxHeartbeats 16000000 in
theorem impl_prime_inverse_ok (a0 : Int) (a1 : Int) (r : Int) (h : impl_prime_inverse a0 a1 = some r) : Den Try.prog 109 [(.int .i64 a0), (.int .i64 a1)] { r := (.int .i64 r) } := by
  refine den_of (rs := [(.int .i64 r)]) (ac := impl_prime_inverse_c) (L := impl_prime_inverse_L) (n := 17) (m := []) good Try.func109 impl_prime_inverse_body (by kernel_rfl) Try.ntmps109 rfl rfl impl_prime_inverse_strip rfl rfl ?_
  refine a_st (σ' := ⟨[(0, (.int .i64 a0)), (1, (.int .i64 a1))], []⟩) rfl ?_
  unfold impl_prime_inverse_c
  refine a_seq ?_
  refine a_region ?_
  refine a_val (v := (.int .i64 0)) (u := []) rfl trivial rfl ?_
  refine a_nil ?_
  refine a_next (σ' := ⟨[(0, (.int .i64 a0)), (1, (.int .i64 a1))], []⟩) rfl ?_
  refine a_seq ?_
  refine a_region ?_
  refine a_val (v := (.int .i64 1)) (u := []) rfl trivial rfl ?_
  refine a_nil ?_
  refine a_next (σ' := ⟨[(0, (.int .i64 a0)), (1, (.int .i64 a1)), (5, (.int .i64 1))], []⟩) rfl ?_
  obtain ⟨y14, hy15, hk16⟩ := bind_some h
  clear h
  refine a_join (emb := fun (s : Int) => ⟨[(5, (.int .i64 s))], []⟩) (pre := fun s => s = y14) ?_ ?_
  · rintro x13 rfl
    have h := hk16
    refine a_st (σ' := ⟨[(5, (.int .i64 x13))], []⟩) rfl ?_
    refine a_seq ?_
    refine a_region ?_
    refine a_val (v := (.int .i64 x13)) (u := []) rfl trivial rfl ?_
    refine a_val (v := (.int .i64 x13)) (u := []) rfl trivial rfl ?_
    refine a_nil ?_
    refine a_next rfl ?_
    refine a_ret ?_
    refine ⟨.inr rfl, ?_⟩
    rw [Try.results109]
    cases h
    exact ⟨_, _, _, _, _, rfl, trivial, .inl ⟨rfl, .inl rfl⟩, rfl, rfl⟩
  · have h := hy15
    refine a_seq ?_
    refine a_region ?_
    refine a_val (v := (.int .i64 a0)) (u := []) rfl trivial rfl ?_
    refine a_val (v := (.int .i64 (IntKind.i64.wrap (a0 - 2)))) (u := []) rfl trivial rfl ?_
    refine a_val (v := (.int .i64 0)) (u := []) rfl trivial rfl ?_
    refine a_nil ?_
    refine a_next (σ' := ⟨[(0, (.int .i64 a0)), (1, (.int .i64 a1)), (5, (.int .i64 1)), (7, (.int .i64 (IntKind.i64.wrap (a0 - 2)))), (8, (.int .i64 0))], []⟩) rfl ?_
    refine a_block ?_
    refine a_loop (emb := fun (s : (Int × Int)) => ⟨[(0, (.int .i64 a0)), (1, (.int .i64 a1)), (5, (.int .i64 s.1)), (7, (.int .i64 (IntKind.i64.wrap (a0 - 2)))), (8, (.int .i64 s.2))], []⟩) (body := (fun s : (Int × Int) => impl_prime_inverse_l1 a0 a1 s.1 s.2)) (G := fun q => some q = some y14) h rfl ?_ rfl
    rintro X23 ⟨x19, x20⟩ x24 h hX25
    have h : impl_prime_inverse_l1 a0 a1 x19 x20 = some x24 := h
    refine a_st (σ' := ⟨[(0, (.int .i64 a0)), (1, (.int .i64 a1)), (5, (.int .i64 x19)), (7, (.int .i64 (IntKind.i64.wrap (a0 - 2)))), (8, (.int .i64 x20))], []⟩) rfl ?_
    refine a_seq ?_
    refine a_region ?_
    refine a_val (v := (.bool ((decide (x20 < (IntKind.i64.wrap (a0 - 2))))))) (u := []) rfl trivial rfl ?_
    refine a_nil ?_
    refine a_next (σ' := ⟨[(0, (.int .i64 a0)), (1, (.int .i64 a1)), (5, (.int .i64 x19)), (7, (.int .i64 (IntKind.i64.wrap (a0 - 2)))), (8, (.int .i64 x20)), (9, (.bool ((decide (x20 < (IntKind.i64.wrap (a0 - 2)))))))], []⟩) rfl ?_
    refine a_seq ?_
    cases hb26 : (decide (x20 < (IntKind.i64.wrap (a0 - 2))))
    · have h := ite_f hb26 h
      refine a_cond_f rfl ?_
      refine a_exit ?_
      refine t_exit ?_
      cases h
      have h := hX25
      refine t_exit ?_
      refine b_exit ?_
      exact j_leaf x19 (Option.some.inj h) rfl
    · have h := ite_t hb26 h
      refine a_cond_t rfl ?_
      refine a_skip ?_
      refine a_next (σ' := ⟨[(0, (.int .i64 a0)), (1, (.int .i64 a1)), (5, (.int .i64 x19)), (7, (.int .i64 (IntKind.i64.wrap (a0 - 2)))), (8, (.int .i64 x20))], []⟩) rfl ?_
      refine a_seq ?_
      refine a_block ?_
      refine a_region ?_
      refine a_val (v := (.int .i64 x19)) (u := []) rfl trivial rfl ?_
      refine a_val (v := (.int .i64 a1)) (u := []) rfl trivial rfl ?_
      refine a_val (v := (.int .i64 (IntKind.i64.wrap (x19 * a1)))) (u := []) rfl trivial rfl ?_
      refine a_val (v := (.int .i64 a0)) (u := []) rfl trivial rfl ?_
      obtain ⟨hc27, h⟩ := ifp_some h
      refine a_val (v := (.int .i64 (Int.tmod (IntKind.i64.wrap (x19 * a1)) a0))) (u := []) rfl hc27 rfl ?_
      refine a_val (v := (.int .i64 (Int.tmod (IntKind.i64.wrap (x19 * a1)) a0))) (u := []) rfl trivial rfl ?_
      refine a_nil ?_
      refine b_norm ?_
      refine a_next (σ' := ⟨[(0, (.int .i64 a0)), (1, (.int .i64 a1)), (5, (.int .i64 (Int.tmod (IntKind.i64.wrap (x19 * a1)) a0))), (7, (.int .i64 (IntKind.i64.wrap (a0 - 2)))), (8, (.int .i64 x20))], []⟩) rfl ?_
      refine a_region ?_
      refine a_val (v := (.int .i64 (IntKind.i64.wrap (x20 + 1)))) (u := []) rfl trivial rfl ?_
      refine a_val (v := (.int .i64 (IntKind.i64.wrap (x20 + 1)))) (u := []) rfl trivial rfl ?_
      refine a_nil ?_
      cases h
      exact a_again rfl hX25
def impl_prime_reduce_c : ACode := (.seq (.region 0 [⟨some 4, .asg 0 (.const (.int .i64 0)) 2, none, []⟩] false) (.seq (.region 1 [⟨some 5, .mov (.tmp 1), none, []⟩, ⟨some 6, .mov (.tmp 0), none, []⟩, ⟨some 7, .bin .rem 2 (.tmp 5) (.tmp 6), none, []⟩, ⟨some 8, .mov (.tmp 0), none, []⟩, ⟨some 9, .bin .add 2 (.tmp 7) (.tmp 8), none, []⟩, ⟨some 10, .mov (.tmp 0), none, []⟩, ⟨some 11, .bin .rem 2 (.tmp 9) (.tmp 10), none, []⟩, ⟨some 4, .asg 0 (.tmp 11) 2, none, []⟩] false) .ret))
def impl_prime_reduce_L : Live := [(0, [0, 1]), (1, [0, 1])]
theorem impl_prime_reduce_body : Try.f110.body = some (Try.f110.body.getD .skip) := by kernel_rfl
theorem impl_prime_reduce_strip : strip [] (Try.f110.body.getD .skip) = impl_prime_reduce_c := by kernel_rfl
noncomputable def impl_prime_reduce (a0 : Int) (a1 : Int) : Option Int :=
  (ifp (a0 ≠ 0) ((ifp (a0 ≠ 0) ((some (Int.tmod (IntKind.i64.wrap ((Int.tmod a1 a0) + a0)) a0))))))
set_option maxHeartbeats 16000000 in
theorem impl_prime_reduce_ok (a0 : Int) (a1 : Int) (r : Int) (h : impl_prime_reduce a0 a1 = some r) : Den Try.prog 110 [(.int .i64 a0), (.int .i64 a1)] { r := (.int .i64 r) } := by
  refine den_of (rs := [(.int .i64 r)]) (ac := impl_prime_reduce_c) (L := impl_prime_reduce_L) (n := 12) (m := []) good Try.func110 impl_prime_reduce_body (by kernel_rfl) Try.ntmps110 rfl rfl impl_prime_reduce_strip rfl rfl ?_
  refine a_st (σ' := ⟨[(0, (.int .i64 a0)), (1, (.int .i64 a1))], []⟩) rfl ?_
  unfold impl_prime_reduce_c
  refine a_seq ?_
  refine a_region ?_
  refine a_val (v := (.int .i64 0)) (u := []) rfl trivial rfl ?_
  refine a_nil ?_
  refine a_next (σ' := ⟨[(0, (.int .i64 a0)), (1, (.int .i64 a1))], []⟩) rfl ?_
  refine a_seq ?_
  refine a_region ?_
  refine a_val (v := (.int .i64 a1)) (u := []) rfl trivial rfl ?_
  refine a_val (v := (.int .i64 a0)) (u := []) rfl trivial rfl ?_
  obtain ⟨hc1, h⟩ := ifp_some h
  refine a_val (v := (.int .i64 (Int.tmod a1 a0))) (u := []) rfl hc1 rfl ?_
  refine a_val (v := (.int .i64 a0)) (u := []) rfl trivial rfl ?_
  refine a_val (v := (.int .i64 (IntKind.i64.wrap ((Int.tmod a1 a0) + a0)))) (u := []) rfl trivial rfl ?_
  refine a_val (v := (.int .i64 a0)) (u := []) rfl trivial rfl ?_
  obtain ⟨hc2, h⟩ := ifp_some h
  refine a_val (v := (.int .i64 (Int.tmod (IntKind.i64.wrap ((Int.tmod a1 a0) + a0)) a0))) (u := []) rfl hc2 rfl ?_
  refine a_val (v := (.int .i64 (Int.tmod (IntKind.i64.wrap ((Int.tmod a1 a0) + a0)) a0))) (u := []) rfl trivial rfl ?_
  refine a_nil ?_
  refine a_next rfl ?_
  refine a_ret ?_
  refine ⟨.inr rfl, ?_⟩
  rw [Try.results110]
  cases h
  exact ⟨_, _, _, _, _, rfl, trivial, .inl ⟨rfl, .inl rfl⟩, rfl, rfl⟩
def impl_prime_divide_c : ACode := (.seq (.region 0 [⟨some 6, .asg 1 (.const (.slice none 0 0)) 66, none, []⟩, ⟨some 7, .asg 1 (.const (.slice none 0 0)) 66, none, []⟩] false) (.seq (.region 1 [⟨some 15, .mov (.tmp 1), none, []⟩, ⟨some 16, .call 0 (.func 147) [(.tmp 15)], none, []⟩, ⟨some 8, .asg 2 (.tmp 16) 66, none, []⟩] false) (.seq (.seq (.region 2 [⟨some 17, .mov (.tmp 1), none, []⟩, ⟨some 18, .blt 0 .len [(.tmp 17)] [66], none, []⟩, ⟨some 19, .mov (.tmp 2), none, []⟩, ⟨some 20, .blt 0 .len [(.tmp 19)] [66], none, []⟩, ⟨some 21, .bin .lss 3 (.tmp 18) (.tmp 20), none, []⟩] false) (.cond (.tmp 21) (.seq (.region 3 [⟨some 22, .mov (.tmp 8), none, []⟩, ⟨some 6, .asg 1 (.const (.slice none 0 0)) 66, none, []⟩, ⟨some 7, .asg 1 (.tmp 22) 66, none, []⟩] false) .ret) .skip)) (.seq (.region 4 [⟨some 23, .mov (.tmp 1), none, []⟩, ⟨some 24, .blt 0 .len [(.tmp 23)] [66], none, []⟩, ⟨some 25, .mov (.tmp 2), none, []⟩, ⟨some 26, .blt 0 .len [(.tmp 25)] [66], none, []⟩, ⟨some 27, .bin .sub 3 (.tmp 24) (.tmp 26), none, []⟩, ⟨some 28, .bin .add 3 (.tmp 27) (.const (.int .i64 1)), none, []⟩, ⟨some 29, .mkslice 66 (.tmp 28) (.tmp 28), none, []⟩, ⟨some 9, .asg 2 (.tmp 29) 66, none, []⟩] false) (.seq (.region 5 [⟨some 30, .mov (.tmp 0), none, []⟩, ⟨some 31, .mov (.tmp 2), none, []⟩, ⟨some 32, .call 0 (.func 107) [(.tmp 31)], none, []⟩, ⟨some 33, .call 0 (.func 109) [(.tmp 30), (.tmp 32)], none, []⟩, ⟨some 10, .asg 0 (.tmp 33) 2, none, []⟩] false) (.seq (.seq (.region 6 [⟨some 34, .mov (.tmp 9), none, []⟩, ⟨some 35, .blt 0 .len [(.tmp 34)] [66], none, []⟩, ⟨some 36, .bin .sub 3 (.tmp 35) (.const (.int .i64 1)), none, []⟩, ⟨some 11, .asg 0 (.tmp 36) 3, none, []⟩] false) (.block 0 (.loop (.seq (.seq (.region 7 [⟨some 37, .mov (.tmp 11), none, []⟩, ⟨some 38, .bin .geq 3 (.tmp 37) (.const (.int .i64 0)), none, []⟩] false) (.cond (.tmp 38) .skip (.exit 0))) (.seq (.block 1 (.seq (.region 9 [⟨some 41, .mov (.tmp 8), none, []⟩, ⟨some 42, .mov (.tmp 11), none, []⟩, ⟨some 43, .mov (.tmp 2), none, []⟩, ⟨some 44, .blt 0 .len [(.tmp 43)] [66], none, []⟩, ⟨some 45, .bin .add 3 (.tmp 42) (.tmp 44), none, []⟩, ⟨some 46, .bin .sub 3 (.tmp 45) (.const (.int .i64 1)), none, []⟩, ⟨some 47, .indexAddr 66 (.tmp 41) (.tmp 46), none, []⟩, ⟨some 48, .load 2 (.tmp 47), none, []⟩, ⟨some 49, .mov (.tmp 10), none, []⟩, ⟨some 50, .bin .mul 2 (.tmp 48) (.tmp 49), none, []⟩, ⟨some 51, .mov (.tmp 0), none, []⟩, ⟨some 52, .bin .rem 2 (.tmp 50) (.tmp 51), none, []⟩, ⟨some 12, .asg 0 (.tmp 52) 2, none, []⟩] false) (.seq (.region 10 [⟨some 53, .mov (.tmp 9), none, []⟩, ⟨some 54, .mov (.tmp 11), none, []⟩, ⟨some 55, .mov (.tmp 12), none, []⟩, ⟨some 56, .indexAddr 66 (.tmp 53) (.tmp 54), none, []⟩, ⟨none, .store 2 (.tmp 56) (.tmp 55), none, []⟩] false) (.seq (.region 11 [⟨some 57, .mov (.tmp 2), none, []⟩, ⟨some 58, .blt 0 .len [(.tmp 57)] [66], none, []⟩, ⟨some 59, .mov (.const (.int .i64 0)), none, []⟩] false) (.block 2 (.loop (.seq (.region 12 [⟨some 60, .bin .lss 3 (.tmp 59) (.tmp 58), none, []⟩] false) (.seq (.cond (.tmp 60) .skip (.exit 2)) (.seq (.block 3 (.seq (.region 13 [⟨some 61, .mov (.tmp 59), none, []⟩, ⟨some 62, .indexAddr 66 (.tmp 57) (.tmp 59), none, []⟩, ⟨some 63, .load 2 (.tmp 62), none, []⟩, ⟨some 13, .asg 0 (.tmp 61) 3, none, []⟩, ⟨some 14, .asg 0 (.tmp 63) 2, none, []⟩] false) (.region 14 [⟨some 64, .mov (.tmp 8), none, []⟩, ⟨some 65, .mov (.tmp 11), none, []⟩, ⟨some 66, .mov (.tmp 13), none, []⟩, ⟨some 67, .bin .add 3 (.tmp 65) (.tmp 66), none, []⟩, ⟨some 68, .mov (.tmp 0), none, []⟩, ⟨some 69, .mov (.tmp 8), none, []⟩, ⟨some 70, .mov (.tmp 11), none, []⟩, ⟨some 71, .mov (.tmp 13), none, []⟩, ⟨some 72, .bin .add 3 (.tmp 70) (.tmp 71), none, []⟩, ⟨some 73, .indexAddr 66 (.tmp 69) (.tmp 72), none, []⟩, ⟨some 74, .load 2 (.tmp 73), none, []⟩, ⟨some 75, .mov (.tmp 12), none, []⟩, ⟨some 76, .mov (.tmp 14), none, []⟩, ⟨some 77, .bin .mul 2 (.tmp 75) (.tmp 76), none, []⟩, ⟨some 78, .bin .sub 2 (.tmp 74) (.tmp 77), none, []⟩, ⟨some 79, .call 0 (.func 110) [(.tmp 68), (.tmp 78)], none, []⟩, ⟨some 80, .indexAddr 66 (.tmp 64) (.tmp 67), none, []⟩, ⟨none, .store 2 (.tmp 80) (.tmp 79), none, []⟩] false))) (.region 15 [⟨some 81, .bin .add 3 (.tmp 59) (.const (.int .i64 1)), none, []⟩, ⟨some 59, .mov (.tmp 81), none, []⟩] false)))))))))) (.region 8 [⟨some 39, .mov (.tmp 11), none, []⟩, ⟨some 40, .bin .sub 3 (.tmp 39) (.const (.int .i64 1)), none, []⟩, ⟨some 11, .asg 0 (.tmp 40) 3, none, []⟩] false)))))) (.seq (.region 16 [⟨some 82, .mov (.tmp 9), none, []⟩, ⟨some 83, .call 0 (.func 111) [(.tmp 82)], none, []⟩, ⟨some 84, .mov (.tmp 8), none, []⟩, ⟨some 85, .call 0 (.func 111) [(.tmp 84)], none, []⟩, ⟨some 6, .asg 1 (.tmp 83) 66, none, []⟩, ⟨some 7, .asg 1 (.tmp 85) 66, none, []⟩] false) .ret)))))))
def impl_prime_divide_L : Live := [(0, [0, 1, 2]), (1, [0, 1, 2]), (2, [0, 1, 2, 8]), (3, [8]), (4, [0, 1, 2, 8]), (5, [0, 2, 8, 9]), (6, [0, 2, 8, 9, 10]), (7, [0, 2, 8, 9, 10, 11]), (8, [0, 2, 8, 9, 10, 11]), (9, [0, 2, 8, 9, 10, 11]), (10, [0, 2, 8, 9, 10, 11, 12]), (11, [0, 2, 8, 9, 10, 11, 12]), (12, [0, 2, 8, 9, 10, 11, 12, 57, 58, 59]), (13, [0, 2, 8, 9, 10, 11, 12, 57, 58, 59]), (14, [0, 2, 8, 9, 10, 11, 12, 13, 14, 57, 58, 59]), (15, [0, 2, 8, 9, 10, 11, 12, 57, 58, 59]), (16, [8, 9]), (100021, [0, 1, 2, 8, 21]), (100038, [0, 2, 8, 9, 10, 11, 38]), (100060, [0, 2, 8, 9, 10, 11, 12, 57, 58, 59, 60])]
theorem impl_prime_divide_body : Try.f130.body = some (Try.f130.body.getD .skip) := by kernel_rfl
theorem impl_prime_divide_strip : strip [(6, 1), (7, 1), (8, 2), (9, 2)] (Try.f130.body.getD .skip) = impl_prime_divide_c := by kernel_rfl
noncomputable def impl_prime_divide_l2 (a2 : (List Int)) (x467 : Int) (x468 : (List Int)) (x641 : Int) (r9 : Int) (a0 : Int) (x469 : (List Int)) (x661 : Int) (x662 : (List Int)) : Option ((Int × (List Int)) ⊕ ((List Int) × (List Int))) :=
  (if (decide (x661 < (a2.length : Int))) then (ifp (0 ≤ x661 ∧ x661 < ((a2.length : Nat) : Int)) ((ifp (0 ≤ IntKind.i64.wrap (x467 + x661) ∧ IntKind.i64.wrap (x467 + x661) < ((x662.length : Nat) : Int)) ((letp (IntKind.i64.wrap ((Int.tmod (IntKind.i64.wrap ((rd x468 x641.toNat) * r9)) a0) * (rd a2 x661.toNat))) fun x684 => (letp (IntKind.i64.wrap (((rd x662 (IntKind.i64.wrap (x467 + x661)).toNat)) - x684)) fun x686 => (Option.bind (impl_prime_reduce a0 x686) fun r688 => (ifp (0 ≤ IntKind.i64.wrap (x467 + x661) ∧ IntKind.i64.wrap (x467 + x661) < ((x662.length : Nat) : Int)) ((some (.inl ((IntKind.i64.wrap (x661 + 1), (x662.set (IntKind.i64.wrap (x467 + x661)).toNat r688)))))))))))))) else (some (.inr (((x662, (x469.set x467.toNat (Int.tmod (IntKind.i64.wrap ((rd x468 x641.toNat) * r9)) a0))))))))
noncomputable def impl_prime_divide_l1 (a2 : (List Int)) (a0 : Int) (r9 : Int) (x467 : Int) (x468 : (List Int)) (x469 : (List Int)) : Option ((Int × (List Int) × (List Int)) ⊕ ((List Int) × (List Int))) :=
  (if (decide (x467 ≥ 0)) then (Option.bind (α := ((List Int) × (List Int))) ((letp (IntKind.i64.wrap ((IntKind.i64.wrap (x467 + (a2.length : Int))) - 1)) fun x641 => (ifp (0 ≤ x641 ∧ x641 < ((x468.length : Nat) : Int)) ((ifp (a0 ≠ 0) ((ifp (0 ≤ x467 ∧ x467 < ((x469.length : Nat) : Int)) ((loopM (fun s : (Int × (List Int)) => impl_prime_divide_l2 a2 x467 x468 x641 r9 a0 x469 s.1 s.2) (0, x468)))))))))) fun ⟨x636, x637⟩ => (some (.inl ((IntKind.i64.wrap (x467 - 1), x636, x637))))) else (some (.inr (x468, x469))))
noncomputable def impl_prime_divide (a0 : Int) (a1 : (List Int)) (a2 : (List Int)) : Option ((List Int) × (List Int)) :=
  (Option.bind (slices_Clone_impl_row_int64_fresh a1) fun r1 => (if (decide ((a1.length : Int) < (a2.length : Int))) then (some ([], r1)) else (letp (IntKind.i64.wrap ((IntKind.i64.wrap ((a1.length : Int) - (a2.length : Int))) + 1)) fun x4 => (ifp (0 ≤ x4 ∧ x4 ≤ 140737488355328 ∧ 8 * x4 ≤ 140737488355328) ((Option.bind (impl_row_lead a2) fun r7 => (Option.bind (impl_prime_inverse a0 r7) fun r9 => (Option.bind (α := ((List Int) × (List Int))) ((letp (IntKind.i64.wrap ((((List.replicate x4.toNat (0 : Int)).length : Int)) - 1)) fun x355 => (loopM (fun s : (Int × (List Int) × (List Int)) => impl_prime_divide_l1 a2 a0 r9 s.1 s.2.1 s.2.2) (x355, r1, List.replicate x4.toNat (0 : Int))))) fun ⟨x350, x351⟩ => (Option.bind (impl_row_trimmed x351) fun r694 => (Option.bind (impl_row_trimmed x350) fun r696 => (some (r694, r696))))))))))))
set_option maxHeartbeats 16000000 in
theorem impl_prime_divide_ok (a0 : Int) (a1 : (List Int)) (a2 : (List Int)) (r : ((List Int) × (List Int))) (h : impl_prime_divide a0 a1 a2 = some r) : Den Try.prog 130 [(.int .i64 a0), (eSi64 a1), (eSi64 a2)] { r := (.tuple [(eSi64 r.1), (eSi64 r.2)]) } := by
  refine den_of (rs := [(eSi64 r.1), (eSi64 r.2)]) (ac := impl_prime_divide_c) (L := impl_prime_divide_L) (n := 86) (m := [(6, 1), (7, 1), (8, 2), (9, 2)]) good Try.func130 impl_prime_divide_body (by kernel_rfl) Try.ntmps130 rfl rfl impl_prime_divide_strip rfl rfl ?_
  refine a_st (σ' := ⟨[(0, (.int .i64 a0)), (1, (eSi64 a1)), (2, (eSi64 a2))], []⟩) rfl ?_
  unfold impl_prime_divide_c
  refine a_seq ?_
  refine a_region ?_
  refine a_val (v := (eSi64 ([]))) (u := []) rfl trivial rfl ?_
  refine a_val (v := (eSi64 ([]))) (u := []) rfl trivial rfl ?_
  refine a_nil ?_
  refine a_next (σ' := ⟨[(0, (.int .i64 a0)), (1, (eSi64 a1)), (2, (eSi64 a2))], []⟩) rfl ?_
  refine a_seq ?_
  refine a_region ?_
  refine a_val (v := (eSi64 a1)) (u := []) rfl trivial rfl ?_
  obtain ⟨r1, hr2, h⟩ := bind_some h
  refine a_callF (args := [(eSi64 a1)]) (u := []) (u2 := []) (r := (.osl 2000000)) (fs := [(1, r1.map (AV.int .i64))]) rfl rfl (slices_Clone_impl_row_int64_fresh_ok a1 r1 hr2) rfl rfl rfl (.inl rfl) rfl ?_
  refine a_val (v := (.osl 2600)) (u := []) rfl trivial rfl ?_
  refine a_nil ?_
  refine a_next (σ' := ⟨[(0, (.int .i64 a0)), (1, (eSi64 a1)), (2, (eSi64 a2)), (8, (.osl 8))], [(8, some ⟨(.row 1 (r1.map (AV.int .i64))), false⟩)]⟩) rfl ?_
  refine a_seq ?_
  refine a_seq ?_
  refine a_region ?_
  refine a_val (v := (eSi64 a1)) (u := []) rfl trivial rfl ?_
  refine a_val (v := (.int .i64 (a1.length : Int))) (u := []) (len_run rfl rfl) trivial rfl ?_
  refine a_val (v := (eSi64 a2)) (u := []) rfl trivial rfl ?_
  refine a_val (v := (.int .i64 (a2.length : Int))) (u := []) (len_run rfl rfl) trivial rfl ?_
  refine a_val (v := (.bool ((decide ((a1.length : Int) < (a2.length : Int)))))) (u := []) rfl trivial rfl ?_
  refine a_nil ?_
  refine a_next (σ' := ⟨[(0, (.int .i64 a0)), (1, (eSi64 a1)), (2, (eSi64 a2)), (8, (.osl 8)), (21, (.bool ((decide ((a1.length : Int) < (a2.length : Int))))))], [(8, some ⟨(.row 1 (r1.map (AV.int .i64))), false⟩)]⟩) rfl ?_
  cases hb3 : (decide ((a1.length : Int) < (a2.length : Int)))
  · have h := ite_f hb3 h
    refine a_cond_f rfl ?_
    refine a_skip ?_
    refine a_next (σ' := ⟨[(0, (.int .i64 a0)), (1, (eSi64 a1)), (2, (eSi64 a2)), (8, (.osl 8))], [(8, some ⟨(.row 1 (r1.map (AV.int .i64))), false⟩)]⟩) rfl ?_
    refine a_seq ?_
    refine a_region ?_
    refine a_val (v := (eSi64 a1)) (u := []) rfl trivial rfl ?_
    refine a_val (v := (.int .i64 (a1.length : Int))) (u := []) (len_run rfl rfl) trivial rfl ?_
    refine a_val (v := (eSi64 a2)) (u := []) rfl trivial rfl ?_
    refine a_val (v := (.int .i64 (a2.length : Int))) (u := []) (len_run rfl rfl) trivial rfl ?_
    refine a_val (v := (.int .i64 (IntKind.i64.wrap ((a1.length : Int) - (a2.length : Int))))) (u := []) rfl trivial rfl ?_
    obtain ⟨x4, hx5, h⟩ := letp_some h
    refine a_val' (v := (.int .i64 (IntKind.i64.wrap ((IntKind.i64.wrap ((a1.length : Int) - (a2.length : Int))) + 1)))) (v' := (.int .i64 x4)) (u := []) (u' := []) rfl (congrArg (fun z => ((.int .i64 z) : AV)) hx5) rfl trivial rfl ?_
    obtain ⟨hc6, h⟩ := ifp_some h
    refine a_val (v := (.osl 3900)) (u := [(3900, some ⟨(.row 1 ((List.replicate x4.toNat (0 : Int)).map (AV.int .i64))), false⟩)]) (mk_run (i := ⟨.int .i64, 1, 8, (.int .i64 0)⟩) (f := (AV.int .i64)) (y := (0 : Int)) rfl rfl rfl rfl rfl rfl) ⟨rfl, hc6.1, hc6.2.1, hc6.2.2, (Nat.le_of_ble_eq_true rfl)⟩ rfl ?_
    refine a_val (v := (.osl 3900)) (u := []) rfl trivial rfl ?_
    refine a_nil ?_
    refine a_next (σ' := ⟨[(0, (.int .i64 a0)), (2, (eSi64 a2)), (8, (.osl 8)), (9, (.osl 9))], [(8, some ⟨(.row 1 (r1.map (AV.int .i64))), false⟩), (9, some ⟨(.row 1 ((List.replicate x4.toNat (0 : Int)).map (AV.int .i64))), false⟩)]⟩) rfl ?_
    refine a_seq ?_
    refine a_region ?_
    refine a_val (v := (.int .i64 a0)) (u := []) rfl trivial rfl ?_
    refine a_val (v := (eSi64 a2)) (u := []) rfl trivial rfl ?_
    obtain ⟨r7, hr8, h⟩ := bind_some h
    refine a_call (args := [(eSi64 a2)]) (u := []) (r := (.int .i64 r7)) rfl rfl (impl_row_lead_ok a2 r7 hr8) rfl ?_
    obtain ⟨r9, hr10, h⟩ := bind_some h
    refine a_call (args := [(.int .i64 a0), (.int .i64 r7)]) (u := []) (r := (.int .i64 r9)) rfl rfl (impl_prime_inverse_ok a0 r7 r9 hr10) rfl ?_
    refine a_val (v := (.int .i64 r9)) (u := []) rfl trivial rfl ?_
    refine a_nil ?_
    refine a_next (σ' := ⟨[(0, (.int .i64 a0)), (2, (eSi64 a2)), (8, (.osl 8)), (9, (.osl 9)), (10, (.int .i64 r9))], [(8, some ⟨(.row 1 (r1.map (AV.int .i64))), false⟩), (9, some ⟨(.row 1 ((List.replicate x4.toNat (0 : Int)).map (AV.int .i64))), false⟩)]⟩) rfl ?_
    obtain ⟨y352, hy353, hk354⟩ := bind_some h
    clear h
    refine a_join (emb := fun (s : ((List Int) × (List Int))) => ⟨[(8, (.osl 8)), (9, (.osl 9))], [(8, some ⟨(.row 1 (s.1.map (AV.int .i64))), false⟩), (9, some ⟨(.row 1 (s.2.map (AV.int .i64))), false⟩)]⟩) (pre := fun s => s = y352) ?_ ?_
    · rintro ⟨x350, x351⟩ rfl
      have h := hk354
      refine a_st (σ' := ⟨[(8, (.osl 8)), (9, (.osl 9))], [(8, some ⟨(.row 1 (x350.map (AV.int .i64))), false⟩), (9, some ⟨(.row 1 (x351.map (AV.int .i64))), false⟩)]⟩) rfl ?_
      refine a_seq ?_
      refine a_region ?_
      refine a_val (v := (.osl 9)) (u := []) rfl trivial rfl ?_
      obtain ⟨r694, hr695, h⟩ := bind_some h
      refine a_call (args := [(eSi64 x351)]) (u := [(9, some ⟨(.row 1 (x351.map (AV.int .i64))), true⟩)]) (r := (eSi64 r694)) rfl rfl (impl_row_trimmed_ok x351 r694 hr695) rfl ?_
      refine a_val (v := (.osl 8)) (u := []) rfl trivial rfl ?_
      obtain ⟨r696, hr697, h⟩ := bind_some h
      refine a_call (args := [(eSi64 x350)]) (u := [(8, some ⟨(.row 1 (x350.map (AV.int .i64))), true⟩)]) (r := (eSi64 r696)) rfl rfl (impl_row_trimmed_ok x350 r696 hr697) rfl ?_
      refine a_val (v := (eSi64 r694)) (u := []) rfl trivial rfl ?_
      refine a_val (v := (eSi64 r696)) (u := []) rfl trivial rfl ?_
      refine a_nil ?_
      refine a_next rfl ?_
      refine a_ret ?_
      refine ⟨.inr rfl, ?_⟩
      rw [Try.results130]
      cases h
      exact ⟨_, _, _, _, _, rfl, trivial, .inl ⟨rfl, .inl rfl⟩, rfl, ⟨_, _, _, _, _, rfl, trivial, .inl ⟨rfl, .inl rfl⟩, rfl, rfl⟩⟩
    · have h := hy353
      refine a_seq ?_
      refine a_region ?_
      refine a_val (v := (.osl 9)) (u := []) rfl trivial rfl ?_
      refine a_val (v := (.int .i64 (((List.replicate x4.toNat (0 : Int)).length : Int)))) (u := []) (leno_run rfl rfl rfl) trivial rfl ?_
      obtain ⟨x355, hx356, h⟩ := letp_some h
      refine a_val' (v := (.int .i64 (IntKind.i64.wrap ((((List.replicate x4.toNat (0 : Int)).length : Int)) - 1)))) (v' := (.int .i64 x355)) (u := []) (u' := []) rfl (congrArg (fun z => ((.int .i64 z) : AV)) hx356) rfl trivial rfl ?_
      refine a_val (v := (.int .i64 x355)) (u := []) rfl trivial rfl ?_
      refine a_nil ?_
      refine a_next (σ' := ⟨[(0, (.int .i64 a0)), (2, (eSi64 a2)), (8, (.osl 8)), (9, (.osl 9)), (10, (.int .i64 r9)), (11, (.int .i64 x355))], [(8, some ⟨(.row 1 (r1.map (AV.int .i64))), false⟩), (9, some ⟨(.row 1 ((List.replicate x4.toNat (0 : Int)).map (AV.int .i64))), false⟩)]⟩) rfl ?_
      refine a_block ?_
      refine a_loop (emb := fun (s : (Int × (List Int) × (List Int))) => ⟨[(0, (.int .i64 a0)), (2, (eSi64 a2)), (8, (.osl 8)), (9, (.osl 9)), (10, (.int .i64 r9)), (11, (.int .i64 s.1))], [(8, some ⟨(.row 1 (s.2.1.map (AV.int .i64))), false⟩), (9, some ⟨(.row 1 (s.2.2.map (AV.int .i64))), false⟩)]⟩) (body := (fun s : (Int × (List Int) × (List Int)) => impl_prime_divide_l1 a2 a0 r9 s.1 s.2.1 s.2.2)) (G := fun q => some q = some y352) h rfl ?_ rfl
      rintro X580 ⟨x467, x468, x469⟩ x581 h hX582
      have h : impl_prime_divide_l1 a2 a0 r9 x467 x468 x469 = some x581 := h
      refine a_st (σ' := ⟨[(0, (.int .i64 a0)), (2, (eSi64 a2)), (8, (.osl 8)), (9, (.osl 9)), (10, (.int .i64 r9)), (11, (.int .i64 x467))], [(8, some ⟨(.row 1 (x468.map (AV.int .i64))), false⟩), (9, some ⟨(.row 1 (x469.map (AV.int .i64))), false⟩)]⟩) rfl ?_
      refine a_seq ?_
      refine a_seq ?_
      refine a_region ?_
      refine a_val (v := (.int .i64 x467)) (u := []) rfl trivial rfl ?_
      refine a_val (v := (.bool ((decide (x467 ≥ 0))))) (u := []) rfl trivial rfl ?_
      refine a_nil ?_
      refine a_next (σ' := ⟨[(0, (.int .i64 a0)), (2, (eSi64 a2)), (8, (.osl 8)), (9, (.osl 9)), (10, (.int .i64 r9)), (11, (.int .i64 x467)), (38, (.bool ((decide (x467 ≥ 0)))))], [(8, some ⟨(.row 1 (x468.map (AV.int .i64))), false⟩), (9, some ⟨(.row 1 (x469.map (AV.int .i64))), false⟩)]⟩) rfl ?_
      cases hb583 : (decide (x467 ≥ 0))
      · have h := ite_f hb583 h
        refine a_cond_f rfl ?_
        refine a_exit ?_
        refine t_exit ?_
        cases h
        have h := hX582
        refine t_exit ?_
        refine b_exit ?_
        exact j_leaf (x468, x469) (Option.some.inj h) rfl
      · have h := ite_t hb583 h
        refine a_cond_t rfl ?_
        refine a_skip ?_
        refine a_next (σ' := ⟨[(0, (.int .i64 a0)), (2, (eSi64 a2)), (8, (.osl 8)), (9, (.osl 9)), (10, (.int .i64 r9)), (11, (.int .i64 x467))], [(8, some ⟨(.row 1 (x468.map (AV.int .i64))), false⟩), (9, some ⟨(.row 1 (x469.map (AV.int .i64))), false⟩)]⟩) rfl ?_
        obtain ⟨y638, hy639, hk640⟩ := bind_some h
        clear h
        refine a_join (emb := fun (s : ((List Int) × (List Int))) => ⟨[(0, (.int .i64 a0)), (2, (eSi64 a2)), (8, (.osl 8)), (9, (.osl 9)), (10, (.int .i64 r9)), (11, (.int .i64 x467))], [(8, some ⟨(.row 1 (s.1.map (AV.int .i64))), false⟩), (9, some ⟨(.row 1 (s.2.map (AV.int .i64))), false⟩)]⟩) (pre := fun s => s = y638) ?_ ?_
        · rintro ⟨x636, x637⟩ rfl
          have h := hk640
          refine a_st (σ' := ⟨[(0, (.int .i64 a0)), (2, (eSi64 a2)), (8, (.osl 8)), (9, (.osl 9)), (10, (.int .i64 r9)), (11, (.int .i64 x467))], [(8, some ⟨(.row 1 (x636.map (AV.int .i64))), false⟩), (9, some ⟨(.row 1 (x637.map (AV.int .i64))), false⟩)]⟩) rfl ?_
          refine a_region ?_
          refine a_val (v := (.int .i64 x467)) (u := []) rfl trivial rfl ?_
          refine a_val (v := (.int .i64 (IntKind.i64.wrap (x467 - 1)))) (u := []) rfl trivial rfl ?_
          refine a_val (v := (.int .i64 (IntKind.i64.wrap (x467 - 1)))) (u := []) rfl trivial rfl ?_
          refine a_nil ?_
          cases h
          exact a_again rfl hX582
        · have h := hy639
          refine a_block ?_
          refine a_seq ?_
          refine a_region ?_
          refine a_val (v := (.osl 8)) (u := []) rfl trivial rfl ?_
          refine a_val (v := (.int .i64 x467)) (u := []) rfl trivial rfl ?_
          refine a_val (v := (eSi64 a2)) (u := []) rfl trivial rfl ?_
          refine a_val (v := (.int .i64 (a2.length : Int))) (u := []) (len_run rfl rfl) trivial rfl ?_
          refine a_val (v := (.int .i64 (IntKind.i64.wrap (x467 + (a2.length : Int))))) (u := []) rfl trivial rfl ?_
          obtain ⟨x641, hx642, h⟩ := letp_some h
          refine a_val' (v := (.int .i64 (IntKind.i64.wrap ((IntKind.i64.wrap (x467 + (a2.length : Int))) - 1)))) (v' := (.int .i64 x641)) (u := []) (u' := []) rfl (congrArg (fun z => ((.int .i64 z) : AV)) hx642) rfl trivial rfl ?_
          obtain ⟨hc643, h⟩ := ifp_some h
          refine a_val (v := (.own 8 [x641.toNat] [x641.toNat * 1])) (u := []) rfl (lmap hc643) rfl ?_
          have hl644 : LdOk [x641.toNat] (.row 1 (x468.map (AV.int .i64))) [x641.toNat * 1] 1 false (.int .i64 (rd x468 x641.toNat)) := (.row (llt hc643) rfl (.nil rfl rfl rfl))
          refine a_val (v := (.int .i64 (rd x468 x641.toNat))) (u := []) (ld_own (i := ⟨.int .i64, 1, 8, (.int .i64 0)⟩) rfl rfl rfl hl644) hl644.c rfl ?_
          refine a_val (v := (.int .i64 r9)) (u := []) rfl trivial rfl ?_
          refine a_val (v := (.int .i64 (IntKind.i64.wrap ((rd x468 x641.toNat) * r9)))) (u := []) rfl trivial rfl ?_
          refine a_val (v := (.int .i64 a0)) (u := []) rfl trivial rfl ?_
          obtain ⟨hc645, h⟩ := ifp_some h
          refine a_val (v := (.int .i64 (Int.tmod (IntKind.i64.wrap ((rd x468 x641.toNat) * r9)) a0))) (u := []) rfl hc645 rfl ?_
          refine a_val (v := (.int .i64 (Int.tmod (IntKind.i64.wrap ((rd x468 x641.toNat) * r9)) a0))) (u := []) rfl trivial rfl ?_
          refine a_nil ?_
          refine a_next (σ' := ⟨[(0, (.int .i64 a0)), (2, (eSi64 a2)), (8, (.osl 8)), (9, (.osl 9)), (10, (.int .i64 r9)), (11, (.int .i64 x467)), (12, (.int .i64 (Int.tmod (IntKind.i64.wrap ((rd x468 x641.toNat) * r9)) a0)))], [(8, some ⟨(.row 1 (x468.map (AV.int .i64))), false⟩), (9, some ⟨(.row 1 (x469.map (AV.int .i64))), false⟩)]⟩) rfl ?_
          refine a_seq ?_
          refine a_region ?_
          refine a_val (v := (.osl 9)) (u := []) rfl trivial rfl ?_
          refine a_val (v := (.int .i64 x467)) (u := []) rfl trivial rfl ?_
          refine a_val (v := (.int .i64 (Int.tmod (IntKind.i64.wrap ((rd x468 x641.toNat) * r9)) a0))) (u := []) rfl trivial rfl ?_
          obtain ⟨hc646, h⟩ := ifp_some h
          refine a_val (v := (.own 9 [x467.toNat] [x467.toNat * 1])) (u := []) rfl (lmap hc646) rfl ?_
          have hs647 : StOk [x467.toNat] (.row 1 (x469.map (AV.int .i64))) [x467.toNat * 1] 1 (.int .i64 (Int.tmod (IntKind.i64.wrap ((rd x468 x641.toNat) * r9)) a0)) (.row 1 (((x469.set x467.toNat (Int.tmod (IntKind.i64.wrap ((rd x468 x641.toNat) * r9)) a0))).map (AV.int .i64))) := (.row (y := Int.tmod (IntKind.i64.wrap ((rd x468 x641.toNat) * r9)) a0) (llt hc646) rfl (.nil rfl rfl rfl rfl))
          refine a_val (v := .top) (u := [(9, some ⟨(.row 1 (((x469.set x467.toNat (Int.tmod (IntKind.i64.wrap ((rd x468 x641.toNat) * r9)) a0))).map (AV.int .i64))), false⟩)]) (st_own (i := ⟨.int .i64, 1, 8, (.int .i64 0)⟩) rfl rfl (fun _ => rfl) rfl hs647) (hs647.c rfl) rfl ?_
          refine a_nil ?_
          refine a_next (σ' := ⟨[(0, (.int .i64 a0)), (2, (eSi64 a2)), (8, (.osl 8)), (9, (.osl 9)), (10, (.int .i64 r9)), (11, (.int .i64 x467)), (12, (.int .i64 (Int.tmod (IntKind.i64.wrap ((rd x468 x641.toNat) * r9)) a0)))], [(8, some ⟨(.row 1 (x468.map (AV.int .i64))), false⟩), (9, some ⟨(.row 1 (((x469.set x467.toNat (Int.tmod (IntKind.i64.wrap ((rd x468 x641.toNat) * r9)) a0))).map (AV.int .i64))), false⟩)]⟩) rfl ?_
          refine a_seq ?_
          refine a_region ?_
          refine a_val (v := (eSi64 a2)) (u := []) rfl trivial rfl ?_
          refine a_val (v := (.int .i64 (a2.length : Int))) (u := []) (len_run rfl rfl) trivial rfl ?_
          refine a_val (v := (.int .i64 0)) (u := []) rfl trivial rfl ?_
          refine a_nil ?_
          refine a_next (σ' := ⟨[(0, (.int .i64 a0)), (2, (eSi64 a2)), (8, (.osl 8)), (9, (.osl 9)), (10, (.int .i64 r9)), (11, (.int .i64 x467)), (12, (.int .i64 (Int.tmod (IntKind.i64.wrap ((rd x468 x641.toNat) * r9)) a0))), (57, (eSi64 a2)), (58, (.int .i64 (a2.length : Int))), (59, (.int .i64 0))], [(8, some ⟨(.row 1 (x468.map (AV.int .i64))), false⟩), (9, some ⟨(.row 1 (((x469.set x467.toNat (Int.tmod (IntKind.i64.wrap ((rd x468 x641.toNat) * r9)) a0))).map (AV.int .i64))), false⟩)]⟩) rfl ?_
          refine a_block ?_
          refine a_loop (emb := fun (s : (Int × (List Int))) => ⟨[(0, (.int .i64 a0)), (2, (eSi64 a2)), (8, (.osl 8)), (9, (.osl 9)), (10, (.int .i64 r9)), (11, (.int .i64 x467)), (12, (.int .i64 (Int.tmod (IntKind.i64.wrap ((rd x468 x641.toNat) * r9)) a0))), (57, (eSi64 a2)), (58, (.int .i64 (a2.length : Int))), (59, (.int .i64 s.1))], [(8, some ⟨(.row 1 (s.2.map (AV.int .i64))), false⟩), (9, some ⟨(.row 1 (((x469.set x467.toNat (Int.tmod (IntKind.i64.wrap ((rd x468 x641.toNat) * r9)) a0))).map (AV.int .i64))), false⟩)]⟩) (body := (fun s : (Int × (List Int)) => impl_prime_divide_l2 a2 x467 x468 x641 r9 a0 x469 s.1 s.2)) (G := fun q => some q = some y638) h rfl ?_ rfl
          rintro X676 ⟨x661, x662⟩ x677 h hX678
          have h : impl_prime_divide_l2 a2 x467 x468 x641 r9 a0 x469 x661 x662 = some x677 := h
          refine a_st (σ' := ⟨[(0, (.int .i64 a0)), (2, (eSi64 a2)), (8, (.osl 8)), (9, (.osl 9)), (10, (.int .i64 r9)), (11, (.int .i64 x467)), (12, (.int .i64 (Int.tmod (IntKind.i64.wrap ((rd x468 x641.toNat) * r9)) a0))), (57, (eSi64 a2)), (58, (.int .i64 (a2.length : Int))), (59, (.int .i64 x661))], [(8, some ⟨(.row 1 (x662.map (AV.int .i64))), false⟩), (9, some ⟨(.row 1 (((x469.set x467.toNat (Int.tmod (IntKind.i64.wrap ((rd x468 x641.toNat) * r9)) a0))).map (AV.int .i64))), false⟩)]⟩) rfl ?_
          refine a_seq ?_
          refine a_region ?_
          refine a_val (v := (.bool ((decide (x661 < (a2.length : Int)))))) (u := []) rfl trivial rfl ?_
          refine a_nil ?_
          refine a_next (σ' := ⟨[(0, (.int .i64 a0)), (2, (eSi64 a2)), (8, (.osl 8)), (9, (.osl 9)), (10, (.int .i64 r9)), (11, (.int .i64 x467)), (12, (.int .i64 (Int.tmod (IntKind.i64.wrap ((rd x468 x641.toNat) * r9)) a0))), (57, (eSi64 a2)), (58, (.int .i64 (a2.length : Int))), (59, (.int .i64 x661)), (60, (.bool ((decide (x661 < (a2.length : Int))))))], [(8, some ⟨(.row 1 (x662.map (AV.int .i64))), false⟩), (9, some ⟨(.row 1 (((x469.set x467.toNat (Int.tmod (IntKind.i64.wrap ((rd x468 x641.toNat) * r9)) a0))).map (AV.int .i64))), false⟩)]⟩) rfl ?_
          refine a_seq ?_
          cases hb679 : (decide (x661 < (a2.length : Int)))
          · have h := ite_f hb679 h
            refine a_cond_f rfl ?_
            refine a_exit ?_
            refine t_exit ?_
            cases h
            have h := hX678
            refine t_exit ?_
            refine b_exit ?_
            refine b_norm ?_
            exact j_leaf ((x662, (x469.set x467.toNat (Int.tmod (IntKind.i64.wrap ((rd x468 x641.toNat) * r9)) a0)))) (Option.some.inj h) rfl
          · have h := ite_t hb679 h
            refine a_cond_t rfl ?_
            refine a_skip ?_
            refine a_next (σ' := ⟨[(0, (.int .i64 a0)), (2, (eSi64 a2)), (8, (.osl 8)), (9, (.osl 9)), (10, (.int .i64 r9)), (11, (.int .i64 x467)), (12, (.int .i64 (Int.tmod (IntKind.i64.wrap ((rd x468 x641.toNat) * r9)) a0))), (57, (eSi64 a2)), (58, (.int .i64 (a2.length : Int))), (59, (.int .i64 x661))], [(8, some ⟨(.row 1 (x662.map (AV.int .i64))), false⟩), (9, some ⟨(.row 1 (((x469.set x467.toNat (Int.tmod (IntKind.i64.wrap ((rd x468 x641.toNat) * r9)) a0))).map (AV.int .i64))), false⟩)]⟩) rfl ?_
            refine a_seq ?_
            refine a_block ?_
            refine a_seq ?_
            refine a_region ?_
            refine a_val (v := (.int .i64 x661)) (u := []) rfl trivial rfl ?_
            obtain ⟨hc680, h⟩ := ifp_some h
            refine a_val (v := (.ref (.row 1 (a2.map (AV.int .i64))) [x661.toNat] [x661.toNat * 1])) (u := []) rfl (lmap hc680) rfl ?_
            have hl681 : LdOk [x661.toNat] (.row 1 (a2.map (AV.int .i64))) [x661.toNat * 1] 1 false (.int .i64 (rd a2 x661.toNat)) := (.row (llt hc680) rfl (.nil rfl rfl rfl))
            refine a_val (v := (.int .i64 (rd a2 x661.toNat))) (u := []) (ld_ref (i := ⟨.int .i64, 1, 8, (.int .i64 0)⟩) rfl rfl hl681) hl681.c rfl ?_
            refine a_val (v := (.int .i64 x661)) (u := []) rfl trivial rfl ?_
            refine a_val (v := (.int .i64 (rd a2 x661.toNat))) (u := []) rfl trivial rfl ?_
            refine a_nil ?_
            refine a_next (σ' := ⟨[(0, (.int .i64 a0)), (2, (eSi64 a2)), (8, (.osl 8)), (9, (.osl 9)), (10, (.int .i64 r9)), (11, (.int .i64 x467)), (12, (.int .i64 (Int.tmod (IntKind.i64.wrap ((rd x468 x641.toNat) * r9)) a0))), (13, (.int .i64 x661)), (14, (.int .i64 (rd a2 x661.toNat))), (57, (eSi64 a2)), (58, (.int .i64 (a2.length : Int))), (59, (.int .i64 x661))], [(8, some ⟨(.row 1 (x662.map (AV.int .i64))), false⟩), (9, some ⟨(.row 1 (((x469.set x467.toNat (Int.tmod (IntKind.i64.wrap ((rd x468 x641.toNat) * r9)) a0))).map (AV.int .i64))), false⟩)]⟩) rfl ?_
            refine a_region ?_
            refine a_val (v := (.osl 8)) (u := []) rfl trivial rfl ?_
            refine a_val (v := (.int .i64 x467)) (u := []) rfl trivial rfl ?_
            refine a_val (v := (.int .i64 x661)) (u := []) rfl trivial rfl ?_
            refine a_val (v := (.int .i64 (IntKind.i64.wrap (x467 + x661)))) (u := []) rfl trivial rfl ?_
            refine a_val (v := (.int .i64 a0)) (u := []) rfl trivial rfl ?_
            refine a_val (v := (.osl 8)) (u := []) rfl trivial rfl ?_
            refine a_val (v := (.int .i64 x467)) (u := []) rfl trivial rfl ?_
            refine a_val (v := (.int .i64 x661)) (u := []) rfl trivial rfl ?_
            refine a_val (v := (.int .i64 (IntKind.i64.wrap (x467 + x661)))) (u := []) rfl trivial rfl ?_
            obtain ⟨hc682, h⟩ := ifp_some h
            refine a_val (v := (.own 8 [(IntKind.i64.wrap (x467 + x661)).toNat] [(IntKind.i64.wrap (x467 + x661)).toNat * 1])) (u := []) rfl (lmap hc682) rfl ?_
            have hl683 : LdOk [(IntKind.i64.wrap (x467 + x661)).toNat] (.row 1 (x662.map (AV.int .i64))) [(IntKind.i64.wrap (x467 + x661)).toNat * 1] 1 false (.int .i64 ((rd x662 (IntKind.i64.wrap (x467 + x661)).toNat))) := (.row (llt hc682) rfl (.nil rfl rfl rfl))
            refine a_val (v := (.int .i64 ((rd x662 (IntKind.i64.wrap (x467 + x661)).toNat)))) (u := []) (ld_own (i := ⟨.int .i64, 1, 8, (.int .i64 0)⟩) rfl rfl rfl hl683) hl683.c rfl ?_
            refine a_val (v := (.int .i64 (Int.tmod (IntKind.i64.wrap ((rd x468 x641.toNat) * r9)) a0))) (u := []) rfl trivial rfl ?_
            refine a_val (v := (.int .i64 (rd a2 x661.toNat))) (u := []) rfl trivial rfl ?_
            obtain ⟨x684, hx685, h⟩ := letp_some h
            refine a_val' (v := (.int .i64 (IntKind.i64.wrap ((Int.tmod (IntKind.i64.wrap ((rd x468 x641.toNat) * r9)) a0) * (rd a2 x661.toNat))))) (v' := (.int .i64 x684)) (u := []) (u' := []) rfl (congrArg (fun z => ((.int .i64 z) : AV)) hx685) rfl trivial rfl ?_
            obtain ⟨x686, hx687, h⟩ := letp_some h
            refine a_val' (v := (.int .i64 (IntKind.i64.wrap (((rd x662 (IntKind.i64.wrap (x467 + x661)).toNat)) - x684)))) (v' := (.int .i64 x686)) (u := []) (u' := []) rfl (congrArg (fun z => ((.int .i64 z) : AV)) hx687) rfl trivial rfl ?_
            obtain ⟨r688, hr689, h⟩ := bind_some h
            refine a_call (args := [(.int .i64 a0), (.int .i64 x686)]) (u := []) (r := (.int .i64 r688)) rfl rfl (impl_prime_reduce_ok a0 x686 r688 hr689) rfl ?_
            obtain ⟨hc690, h⟩ := ifp_some h
            refine a_val (v := (.own 8 [(IntKind.i64.wrap (x467 + x661)).toNat] [(IntKind.i64.wrap (x467 + x661)).toNat * 1])) (u := []) rfl (lmap hc690) rfl ?_
            have hs691 : StOk [(IntKind.i64.wrap (x467 + x661)).toNat] (.row 1 (x662.map (AV.int .i64))) [(IntKind.i64.wrap (x467 + x661)).toNat * 1] 1 (.int .i64 r688) (.row 1 (((x662.set (IntKind.i64.wrap (x467 + x661)).toNat r688)).map (AV.int .i64))) := (.row (y := r688) (llt hc690) rfl (.nil rfl rfl rfl rfl))
            refine a_val (v := .top) (u := [(8, some ⟨(.row 1 (((x662.set (IntKind.i64.wrap (x467 + x661)).toNat r688)).map (AV.int .i64))), false⟩)]) (st_own (i := ⟨.int .i64, 1, 8, (.int .i64 0)⟩) rfl rfl (fun _ => rfl) rfl hs691) (hs691.c rfl) rfl ?_
            refine a_nil ?_
            refine b_norm ?_
            refine a_next (σ' := ⟨[(0, (.int .i64 a0)), (2, (eSi64 a2)), (8, (.osl 8)), (9, (.osl 9)), (10, (.int .i64 r9)), (11, (.int .i64 x467)), (12, (.int .i64 (Int.tmod (IntKind.i64.wrap ((rd x468 x641.toNat) * r9)) a0))), (57, (eSi64 a2)), (58, (.int .i64 (a2.length : Int))), (59, (.int .i64 x661))], [(8, some ⟨(.row 1 (((x662.set (IntKind.i64.wrap (x467 + x661)).toNat r688)).map (AV.int .i64))), false⟩), (9, some ⟨(.row 1 (((x469.set x467.toNat (Int.tmod (IntKind.i64.wrap ((rd x468 x641.toNat) * r9)) a0))).map (AV.int .i64))), false⟩)]⟩) rfl ?_
            refine a_region ?_
            refine a_val (v := (.int .i64 (IntKind.i64.wrap (x661 + 1)))) (u := []) rfl trivial rfl ?_
            refine a_val (v := (.int .i64 (IntKind.i64.wrap (x661 + 1)))) (u := []) rfl trivial rfl ?_
            refine a_nil ?_
            cases h
            exact a_again rfl hX678
  · have h := ite_t hb3 h
    refine a_cond_t rfl ?_
    refine a_seq ?_
    refine a_region ?_
    refine a_val (v := (.osl 8)) (u := []) rfl trivial rfl ?_
    refine a_val (v := (eSi64 ([]))) (u := []) rfl trivial rfl ?_
    refine a_val (v := (eSi64 r1)) (u := [(8, some ⟨(.row 1 (r1.map (AV.int .i64))), true⟩)]) rfl trivial rfl ?_
    refine a_nil ?_
    refine a_next rfl ?_
    refine a_ret ?_
    refine t_ret ?_
    refine ⟨.inr rfl, ?_⟩
    rw [Try.results130]
    cases h
    exact ⟨_, _, _, _, _, rfl, trivial, .inl ⟨rfl, .inl rfl⟩, rfl, ⟨_, _, _, _, _, rfl, trivial, .inl ⟨rfl, .inl rfl⟩, rfl, rfl⟩⟩
def impl_prime_partials_c : ACode := (.seq (.region 0 [⟨some 6, .asg 1 (.const (.slice none 0 0)) 79, none, []⟩] false) (.seq (.region 1 [⟨some 7, .asg 2 (.const (.slice none 0 0)) 79, none, []⟩] false) (.seq (.block 0 (.loop (.seq (.seq (.region 2 [⟨some 10, .mov (.tmp 2), none, []⟩, ⟨some 11, .blt 0 .len [(.tmp 10)] [66], none, []⟩, ⟨some 12, .bin .gtr 3 (.tmp 11) (.const (.int .i64 0)), none, []⟩] false) (.cond (.tmp 12) .skip (.exit 0))) (.block 1 (.seq (.region 3 [⟨some 14, .mov (.tmp 0), none, []⟩, ⟨some 15, .mov (.tmp 1), none, []⟩, ⟨some 16, .mov (.tmp 2), none, []⟩, ⟨some 17, .call 0 (.func 130) [(.tmp 14), (.tmp 15), (.tmp 16)], none, []⟩, ⟨some 13, .mov (.tmp 17), none, []⟩, ⟨some 18, .extract (.tmp 13) 0, none, []⟩, ⟨some 19, .extract (.tmp 13) 1, none, []⟩, ⟨some 8, .asg 1 (.tmp 18) 66, none, []⟩, ⟨some 9, .asg 1 (.tmp 19) 66, none, []⟩] false) (.seq (.region 4 [⟨some 20, .mov (.tmp 7), none, []⟩, ⟨some 21, .mov (.tmp 8), none, []⟩, ⟨some 22, .bslice 0 79 1 [(0, (.tmp 21))], none, []⟩, ⟨some 23, .blt 0 .append [(.tmp 20), (.tmp 22)] [79, 79], none, []⟩, ⟨some 7, .asg 2 (.tmp 23) 79, none, []⟩] false) (.region 5 [⟨some 24, .mov (.tmp 2), none, []⟩, ⟨some 25, .mov (.tmp 9), none, []⟩, ⟨some 1, .asg 1 (.tmp 24) 66, none, []⟩, ⟨some 2, .asg 1 (.tmp 25) 66, none, []⟩] false))))))) (.seq (.region 6 [⟨some 26, .mov (.tmp 7), none, []⟩, ⟨some 6, .asg 1 (.tmp 26) 79, none, []⟩] false) .ret))))
def impl_prime_partials_L : Live := [(0, [0, 1, 2]), (1, [0, 1, 2]), (2, [0, 1, 2, 7]), (3, [0, 1, 2, 7]), (4, [0, 2, 7, 8, 9]), (5, [0, 2, 7, 9]), (6, [7]), (100012, [0, 1, 2, 7, 12])]
theorem impl_prime_partials_body : Try.f99.body = some (Try.f99.body.getD .skip) := by kernel_rfl
theorem impl_prime_partials_strip : strip [(1, 1), (2, 1), (6, 1), (7, 2), (8, 1), (9, 1)] (Try.f99.body.getD .skip) = impl_prime_partials_c := by kernel_rfl
noncomputable def impl_prime_partials_l1 (a0 : Int) (x28 : (List Int)) (x29 : (List Int)) (x30 : (List (List Int))) : Option (((List Int) × (List Int) × (List (List Int))) ⊕ (List (List Int))) :=
  (if (decide ((x29.length : Int) > 0)) then (Option.bind (impl_prime_divide a0 x28 x29) fun r39 => (ifp ((x30.length + ([r39.1] : List (List Int)).length) * 24 ≤ 140737488355328) ((some (.inl ((x29, r39.2, (x30 ++ ([r39.1]))))))))) else (some (.inr x30)))
noncomputable def impl_prime_partials (a0 : Int) (a1 : (List Int)) (a2 : (List Int)) : Option (List (List Int)) :=
  (Option.bind (α := (List (List Int))) ((loopM (fun s : ((List Int) × (List Int) × (List (List Int))) => impl_prime_partials_l1 a0 s.1 s.2.1 s.2.2) (a1, a2, []))) fun x20 => (some x20))
set_option maxHeartbeats 16000000 in
theorem impl_prime_partials_ok (a0 : Int) (a1 : (List Int)) (a2 : (List Int)) (r : (List (List Int))) (h : impl_prime_partials a0 a1 a2 = some r) : Den Try.prog 99 [(.int .i64 a0), (eSi64 a1), (eSi64 a2)] { r := (eSSi64 r) } := by
  refine den_of (rs := [(eSSi64 r)]) (ac := impl_prime_partials_c) (L := impl_prime_partials_L) (n := 27) (m := [(1, 1), (2, 1), (6, 1), (7, 2), (8, 1), (9, 1)]) good Try.func99 impl_prime_partials_body (by kernel_rfl) Try.ntmps99 rfl rfl impl_prime_partials_strip rfl rfl ?_
  refine a_st (σ' := ⟨[(0, (.int .i64 a0)), (1, (eSi64 a1)), (2, (eSi64 a2))], []⟩) rfl ?_
  unfold impl_prime_partials_c
  refine a_seq ?_
  refine a_region ?_
  refine a_val (v := (eSSi64 ([]))) (u := []) rfl trivial rfl ?_
  refine a_nil ?_
  refine a_next (σ' := ⟨[(0, (.int .i64 a0)), (1, (eSi64 a1)), (2, (eSi64 a2))], []⟩) rfl ?_
  refine a_seq ?_
  refine a_region ?_
  refine a_val (v := (.osl 1700)) (u := [(1700, some ⟨(.row 1 (([]).map eSi64)), false⟩)]) rfl trivial rfl ?_
  refine a_nil ?_
  refine a_next (σ' := ⟨[(0, (.int .i64 a0)), (1, (eSi64 a1)), (2, (eSi64 a2)), (7, (.osl 7))], [(7, some ⟨(.row 1 (([]).map eSi64)), false⟩)]⟩) rfl ?_
  obtain ⟨y21, hy22, hk23⟩ := bind_some h
  clear h
  refine a_join (emb := fun (s : (List (List Int))) => ⟨[(7, (.osl 7))], [(7, some ⟨(.row 1 (s.map eSi64)), false⟩)]⟩) (pre := fun s => s = y21) ?_ ?_
  · rintro x20 rfl
    have h := hk23
    refine a_st (σ' := ⟨[(7, (.osl 7))], [(7, some ⟨(.row 1 (x20.map eSi64)), false⟩)]⟩) rfl ?_
    refine a_seq ?_
    refine a_region ?_
    refine a_val (v := (.osl 7)) (u := []) rfl trivial rfl ?_
    refine a_val (v := (eSSi64 x20)) (u := [(7, some ⟨(.row 1 (x20.map eSi64)), true⟩)]) rfl trivial rfl ?_
    refine a_nil ?_
    refine a_next rfl ?_
    refine a_ret ?_
    refine ⟨.inr rfl, ?_⟩
    rw [Try.results99]
    cases h
    exact ⟨_, _, _, _, _, rfl, trivial, .inl ⟨rfl, .inl rfl⟩, rfl, rfl⟩
  · have h := hy22
    refine a_block ?_
    refine a_loop (emb := fun (s : ((List Int) × (List Int) × (List (List Int)))) => ⟨[(0, (.int .i64 a0)), (1, (eSi64 s.1)), (2, (eSi64 s.2.1)), (7, (.osl 7))], [(7, some ⟨(.row 1 (s.2.2.map eSi64)), false⟩)]⟩) (body := (fun s : ((List Int) × (List Int) × (List (List Int))) => impl_prime_partials_l1 a0 s.1 s.2.1 s.2.2)) (G := fun q => some q = some y21) h rfl ?_ rfl
    rintro X35 ⟨x28, x29, x30⟩ x36 h hX37
    have h : impl_prime_partials_l1 a0 x28 x29 x30 = some x36 := h
    refine a_st (σ' := ⟨[(0, (.int .i64 a0)), (1, (eSi64 x28)), (2, (eSi64 x29)), (7, (.osl 7))], [(7, some ⟨(.row 1 (x30.map eSi64)), false⟩)]⟩) rfl ?_
    refine a_seq ?_
    refine a_seq ?_
    refine a_region ?_
    refine a_val (v := (eSi64 x29)) (u := []) rfl trivial rfl ?_
    refine a_val (v := (.int .i64 (x29.length : Int))) (u := []) (len_run rfl rfl) trivial rfl ?_
    refine a_val (v := (.bool ((decide ((x29.length : Int) > 0))))) (u := []) rfl trivial rfl ?_
    refine a_nil ?_
    refine a_next (σ' := ⟨[(0, (.int .i64 a0)), (1, (eSi64 x28)), (2, (eSi64 x29)), (7, (.osl 7)), (12, (.bool ((decide ((x29.length : Int) > 0)))))], [(7, some ⟨(.row 1 (x30.map eSi64)), false⟩)]⟩) rfl ?_
    cases hb38 : (decide ((x29.length : Int) > 0))
    · have h := ite_f hb38 h
      refine a_cond_f rfl ?_
      refine a_exit ?_
      refine t_exit ?_
      cases h
      have h := hX37
      refine t_exit ?_
      refine b_exit ?_
      exact j_leaf x30 (Option.some.inj h) rfl
    · have h := ite_t hb38 h
      refine a_cond_t rfl ?_
      refine a_skip ?_
      refine a_next (σ' := ⟨[(0, (.int .i64 a0)), (1, (eSi64 x28)), (2, (eSi64 x29)), (7, (.osl 7))], [(7, some ⟨(.row 1 (x30.map eSi64)), false⟩)]⟩) rfl ?_
      refine a_block ?_
      refine a_seq ?_
      refine a_region ?_
      refine a_val (v := (.int .i64 a0)) (u := []) rfl trivial rfl ?_
      refine a_val (v := (eSi64 x28)) (u := []) rfl trivial rfl ?_
      refine a_val (v := (eSi64 x29)) (u := []) rfl trivial rfl ?_
      obtain ⟨r39, hr40, h⟩ := bind_some h
      refine a_call (args := [(.int .i64 a0), (eSi64 x28), (eSi64 x29)]) (u := []) (r := (.tuple [(eSi64 r39.1), (eSi64 r39.2)])) rfl rfl (impl_prime_divide_ok a0 x28 x29 r39 hr40) rfl ?_
      refine a_val (v := (.tuple [(eSi64 r39.1), (eSi64 r39.2)])) (u := []) rfl trivial rfl ?_
      refine a_val (v := (eSi64 r39.1)) (u := []) rfl (Nat.le_of_ble_eq_true rfl) rfl ?_
      refine a_val (v := (eSi64 r39.2)) (u := []) rfl (Nat.le_of_ble_eq_true rfl) rfl ?_
      refine a_val (v := (eSi64 r39.1)) (u := []) rfl trivial rfl ?_
      refine a_val (v := (eSi64 r39.2)) (u := []) rfl trivial rfl ?_
      refine a_nil ?_
      refine a_next (σ' := ⟨[(0, (.int .i64 a0)), (2, (eSi64 x29)), (7, (.osl 7)), (8, (eSi64 r39.1)), (9, (eSi64 r39.2))], [(7, some ⟨(.row 1 (x30.map eSi64)), false⟩)]⟩) rfl ?_
      refine a_seq ?_
      refine a_region ?_
      refine a_val (v := (.osl 7)) (u := []) rfl trivial rfl ?_
      refine a_val (v := (eSi64 r39.1)) (u := []) rfl trivial rfl ?_
      refine a_val (v := (.sl 1 true (([r39.1]).map eSi64))) (u := []) rfl ⟨(Nat.le_of_ble_eq_true rfl), (Nat.le_of_ble_eq_true rfl), (all_cons ⟨(Nat.le_of_ble_eq_true rfl), rfl⟩ all_nil)⟩ rfl ?_
      obtain ⟨hc41, h⟩ := ifp_some h
      refine a_val (v := (.osl 3300)) (u := [(3300, some ⟨(.row 1 (((x30 ++ ([r39.1]))).map eSi64)), false⟩), (7, none)]) (app_run (i := ⟨.slice 2, 1, 24, (eSi64 [])⟩) (f := eSi64) (l := x30) (l2 := [r39.1]) rfl rfl rfl rfl (fun _ => rfl) rfl rfl) (app_c (f := eSi64) (s := 1) (sz := 1) (by' := 24) (u := []) (id := 7) hc41 (.inr rfl) rfl rfl rfl) rfl ?_
      refine a_val (v := (.osl 3300)) (u := []) rfl trivial rfl ?_
      refine a_nil ?_
      refine a_next (σ' := ⟨[(0, (.int .i64 a0)), (2, (eSi64 x29)), (7, (.osl 7)), (9, (eSi64 r39.2))], [(7, some ⟨(.row 1 (((x30 ++ ([r39.1]))).map eSi64)), false⟩)]⟩) rfl ?_
      refine a_region ?_
      refine a_val (v := (eSi64 x29)) (u := []) rfl trivial rfl ?_
      refine a_val (v := (eSi64 r39.2)) (u := []) rfl trivial rfl ?_
      refine a_val (v := (eSi64 x29)) (u := []) rfl trivial rfl ?_
      refine a_val (v := (eSi64 r39.2)) (u := []) rfl trivial rfl ?_
      refine a_nil ?_
      refine b_norm ?_
      cases h
      exact a_again rfl hX37
def impl_row_degree_c : ACode := (.seq (.region 0 [⟨some 2, .asg 0 (.const (.int .i64 0)) 2, none, []⟩] false) (.seq (.region 1 [⟨some 3, .mov (.tmp 0), none, []⟩, ⟨some 4, .blt 0 .len [(.tmp 3)] [66], none, []⟩, ⟨some 5, .bin .sub 2 (.tmp 4) (.const (.int .i64 1)), none, []⟩, ⟨some 2, .asg 0 (.tmp 5) 2, none, []⟩] false) .ret))
def impl_row_degree_L : Live := [(0, [0]), (1, [0])]
theorem impl_row_degree_body : Try.f100.body = some (Try.f100.body.getD .skip) := by kernel_rfl
theorem impl_row_degree_strip : strip [] (Try.f100.body.getD .skip) = impl_row_degree_c := by kernel_rfl
noncomputable def impl_row_degree (a0 : (List Int)) : Option Int :=
  (some (IntKind.i64.wrap ((a0.length : Int) - 1)))
set_option maxHeartbeats 16000000 in
theorem impl_row_degree_ok (a0 : (List Int)) (r : Int) (h : impl_row_degree a0 = some r) : Den Try.prog 100 [(eSi64 a0)] { r := (.int .i64 r) } := by
  refine den_of (rs := [(.int .i64 r)]) (ac := impl_row_degree_c) (L := impl_row_degree_L) (n := 6) (m := []) good Try.func100 impl_row_degree_body (by kernel_rfl) Try.ntmps100 rfl rfl impl_row_degree_strip rfl rfl ?_
  refine a_st (σ' := ⟨[(0, (eSi64 a0))], []⟩) rfl ?_
  unfold impl_row_degree_c
  refine a_seq ?_
  refine a_region ?_
  refine a_val (v := (.int .i64 0)) (u := []) rfl trivial rfl ?_
  refine a_nil ?_
  refine a_next (σ' := ⟨[(0, (eSi64 a0))], []⟩) rfl ?_
  refine a_seq ?_
  refine a_region ?_
  refine a_val (v := (eSi64 a0)) (u := []) rfl trivial rfl ?_
  refine a_val (v := (.int .i64 (a0.length : Int))) (u := []) (len_run rfl rfl) trivial rfl ?_
  refine a_val (v := (.int .i64 (IntKind.i64.wrap ((a0.length : Int) - 1)))) (u := []) rfl trivial rfl ?_
  refine a_val (v := (.int .i64 (IntKind.i64.wrap ((a0.length : Int) - 1)))) (u := []) rfl trivial rfl ?_
  refine a_nil ?_
  refine a_next rfl ?_
  refine a_ret ?_
  refine ⟨.inr rfl, ?_⟩
  rw [Try.results100]
  cases h
  exact ⟨_, _, _, _, _, rfl, trivial, .inl ⟨rfl, .inl rfl⟩, rfl, rfl⟩
def impl_DegreesOfPartials_fresh_c : ACode := (.seq (.region 0 [⟨some 4, .box 23 (.tmp 1), none, []⟩, ⟨some 5, .box 23 (.tmp 2), none, []⟩, ⟨some 6, .asg 2 (.const (.slice none 0 0)) 45, none, []⟩, ⟨some 7, .asg 0 (.const (.int .i64 0)) 2, none, []⟩] false) (.seq (.seq (.region 1 [⟨some 12, .mov (.tmp 0), none, []⟩, ⟨some 13, .load 23 (.tmp 4), none, []⟩, ⟨some 14, .load 23 (.tmp 5), none, []⟩, ⟨some 15, .call 0 (.func 98) [(.tmp 12), (.tmp 13), (.tmp 14), (.const (.bool true))], none, []⟩, ⟨some 8, .asg 0 (.tmp 15) 2, none, []⟩] false) (.seq (.region 2 [⟨some 16, .mov (.tmp 8), none, []⟩, ⟨some 17, .bin .neq 2 (.tmp 16) (.const (.int .i64 0)), none, []⟩] false) (.cond (.tmp 17) (.seq (.region 3 [⟨some 18, .mov (.tmp 8), none, []⟩, ⟨some 6, .asg 2 (.const (.slice none 0 0)) 45, none, []⟩, ⟨some 7, .asg 0 (.tmp 18) 2, none, []⟩] false) .ret) .skip))) (.seq (.region 4 [⟨some 9, .asg 2 (.const (.slice none 0 0)) 45, none, []⟩] false) (.seq (.seq (.region 5 [⟨some 19, .mov (.tmp 0), none, []⟩, ⟨some 20, .load 23 (.tmp 4), none, []⟩, ⟨some 21, .call 0 (.func 76) [(.tmp 20)], none, [1]⟩, ⟨some 22, .load 23 (.tmp 5), none, []⟩, ⟨some 23, .call 0 (.func 76) [(.tmp 22)], none, [3, 2]⟩, ⟨some 24, .call 0 (.func 99) [(.tmp 19), (.tmp 21), (.tmp 23)], none, [0, 2, 4, 4]⟩, ⟨some 25, .blt 0 .len [(.tmp 24)] [79], none, [5]⟩, ⟨some 26, .mov (.const (.int .i64 0)), none, []⟩] true) (.block 0 (.loop (.seq (.region 6 [⟨some 27, .bin .lss 3 (.tmp 26) (.tmp 25), none, []⟩] false) (.seq (.cond (.tmp 27) .skip (.exit 0)) (.seq (.block 1 (.seq (.region 7 [⟨some 28, .indexAddr 79 (.tmp 24) (.tmp 26), none, []⟩, ⟨some 29, .load 66 (.tmp 28), none, []⟩, ⟨some 11, .asg 1 (.tmp 29) 66, none, []⟩] false) (.region 8 [⟨some 30, .mov (.tmp 9), none, []⟩, ⟨some 31, .mov (.tmp 11), none, []⟩, ⟨some 32, .call 0 (.func 100) [(.tmp 31)], none, []⟩, ⟨some 33, .bslice 0 45 1 [(0, (.tmp 32))], none, []⟩, ⟨some 34, .blt 0 .append [(.tmp 30), (.tmp 33)] [45, 45], none, []⟩, ⟨some 9, .asg 2 (.tmp 34) 45, none, []⟩] false))) (.region 9 [⟨some 35, .bin .add 3 (.tmp 26) (.const (.int .i64 1)), none, []⟩, ⟨some 26, .mov (.tmp 35), none, []⟩] false))))))) (.seq (.region 10 [⟨some 36, .mov (.tmp 9), none, []⟩, ⟨some 6, .asg 2 (.tmp 36) 45, none, []⟩, ⟨some 7, .asg 0 (.const (.int .i64 0)) 2, none, []⟩] false) .ret)))))
def impl_DegreesOfPartials_fresh_L : Live := [(0, [0, 1, 2]), (1, [0, 4, 5]), (2, [0, 4, 5, 8]), (3, [8]), (4, [0, 4, 5]), (5, [0, 4, 5, 9]), (6, [9, 24, 25, 26]), (7, [9, 24, 25, 26]), (8, [9, 11, 24, 25, 26]), (9, [9, 24, 25, 26]), (10, [9]), (100017, [0, 4, 5, 8, 17]), (100027, [9, 24, 25, 26, 27])]
theorem impl_DegreesOfPartials_fresh_body : Try.f49.body = some (Try.f49.body.getD .skip) := by kernel_rfl
theorem impl_DegreesOfPartials_fresh_strip : strip [(6, 2), (9, 2), (11, 1)] (Try.f49.body.getD .skip) = impl_DegreesOfPartials_fresh_c := by kernel_rfl
noncomputable def impl_DegreesOfPartials_fresh_l1 (r64 : (List (List Int))) (x72 : Int) (x73 : (List Int)) : Option ((Int × (List Int)) ⊕ (List Int)) :=
  (if (decide (x72 < (r64.length : Int))) then (ifp (0 ≤ x72 ∧ x72 < ((r64.length : Nat) : Int)) ((Option.bind (impl_row_degree (rd r64 x72.toNat)) fun r86 => (ifp ((x73.length + ([r86] : List Int).length) * 8 ≤ 140737488355328) ((some (.inl ((IntKind.i64.wrap (x72 + 1), (x73 ++ ([r86]))))))))))) else (some (.inr x73)))
noncomputable def impl_DegreesOfPartials_fresh (a0 : Int) (a1 : (Vec Int 64)) (a2 : (Vec Int 64)) : Option ((List Int) × Int) :=
  (Option.bind (impl_quotientCode a0 a1 a2 true) fun r3 => (if (r3 != 0) then (some ([], r3)) else (Option.bind (α := (List Int)) ((Option.bind (impl_rowOf a1) fun r59 => (Option.bind (impl_rowOf a2) fun r62 => (Option.bind (impl_prime_partials a0 r59 r62) fun r64 => (loopM (fun s : (Int × (List Int)) => impl_DegreesOfPartials_fresh_l1 r64 s.1 s.2) (0, [])))))) fun x46 => (some (x46, 0)))))
set_option maxHeartbeats 16000000 in
theorem impl_DegreesOfPartials_fresh_ok (a0 : Int) (a1 : (Vec Int 64)) (a2 : (Vec Int 64)) (r : ((List Int) × Int)) (h : impl_DegreesOfPartials_fresh a0 a1 a2 = some r) : Den Try.prog 49 [(.int .i64 a0), (eA64u8 a1), (eA64u8 a2)] { r := (.tuple [(.osl 2000000), (.int .i64 r.2)]), ms := [], fs := [(1, r.1.map (AV.int .i64))] } := by
  refine den_ofX (rs := [(.osl 2000000), (.int .i64 r.2)]) (ac := impl_DegreesOfPartials_fresh_c) (L := impl_DegreesOfPartials_fresh_L) (n := 37) (m := [(6, 2), (9, 2), (11, 1)]) good Try.func49 impl_DegreesOfPartials_fresh_body (by kernel_rfl) Try.ntmps49 rfl rfl impl_DegreesOfPartials_fresh_strip rfl ?_
  refine a_st (σ' := ⟨[(0, (.int .i64 a0)), (1, (eA64u8 a1)), (2, (eA64u8 a2))], []⟩) rfl ?_
  unfold impl_DegreesOfPartials_fresh_c
  refine a_seq ?_
  refine a_region ?_
  refine a_val (v := (.own 1400 [] [])) (u := [(1400, some ⟨(eA64u8 a1), false⟩)]) rfl trivial rfl ?_
  refine a_val (v := (.own 1500 [] [])) (u := [(1500, some ⟨(eA64u8 a2), false⟩)]) rfl trivial rfl ?_
  refine a_val (v := (.osl 1600)) (u := [(1600, some ⟨(.row 1 (([]).map (AV.int .i64))), false⟩)]) rfl trivial rfl ?_
  refine a_val (v := (.int .i64 0)) (u := []) rfl trivial rfl ?_
  refine a_nil ?_
  refine a_next (σ' := ⟨[(0, (.int .i64 a0)), (4, (.own 4 [] [])), (5, (.own 5 [] []))], [(4, some ⟨(eA64u8 a1), false⟩), (5, some ⟨(eA64u8 a2), false⟩)]⟩) rfl ?_
  refine a_seq ?_
  refine a_seq ?_
  refine a_region ?_
  refine a_val (v := (.int .i64 a0)) (u := []) rfl trivial rfl ?_
  have hl1 : LdOk [] (eA64u8 a1) [] 64 true (eA64u8 a1) := (.nil rfl rfl rfl)
  refine a_val (v := (eA64u8 a1)) (u := []) (ld_own (i := ⟨.arr 64 5, 64, 64, (eA64u8 (vrep 64 (0 : Int)))⟩) rfl rfl rfl hl1) hl1.c rfl ?_
  have hl2 : LdOk [] (eA64u8 a2) [] 64 true (eA64u8 a2) := (.nil rfl rfl rfl)
  refine a_val (v := (eA64u8 a2)) (u := []) (ld_own (i := ⟨.arr 64 5, 64, 64, (eA64u8 (vrep 64 (0 : Int)))⟩) rfl rfl rfl hl2) hl2.c rfl ?_
  obtain ⟨r3, hr4, h⟩ := bind_some h
  refine a_call (args := [(.int .i64 a0), (eA64u8 a1), (eA64u8 a2), (.bool true)]) (u := []) (r := (.int .i64 r3)) rfl rfl (impl_quotientCode_ok a0 a1 a2 true r3 hr4) rfl ?_
  refine a_val (v := (.int .i64 r3)) (u := []) rfl trivial rfl ?_
  refine a_nil ?_
  refine a_next (σ' := ⟨[(0, (.int .i64 a0)), (4, (.own 4 [] [])), (5, (.own 5 [] [])), (8, (.int .i64 r3))], [(4, some ⟨(eA64u8 a1), false⟩), (5, some ⟨(eA64u8 a2), false⟩)]⟩) rfl ?_
  refine a_seq ?_
  refine a_region ?_
  refine a_val (v := (.int .i64 r3)) (u := []) rfl trivial rfl ?_
  refine a_val (v := (.bool (r3 != 0))) (u := []) rfl trivial rfl ?_
  refine a_nil ?_
  refine a_next (σ' := ⟨[(0, (.int .i64 a0)), (4, (.own 4 [] [])), (5, (.own 5 [] [])), (8, (.int .i64 r3)), (17, (.bool (r3 != 0)))], [(4, some ⟨(eA64u8 a1), false⟩), (5, some ⟨(eA64u8 a2), false⟩)]⟩) rfl ?_
  cases hb5 : (r3 != 0)
  · have h := ite_f hb5 h
    refine a_cond_f rfl ?_
    refine a_skip ?_
    refine a_next (σ' := ⟨[(0, (.int .i64 a0)), (4, (.own 4 [] [])), (5, (.own 5 [] []))], [(4, some ⟨(eA64u8 a1), false⟩), (5, some ⟨(eA64u8 a2), false⟩)]⟩) rfl ?_
    refine a_seq ?_
    refine a_region ?_
    refine a_val (v := (.osl 1900)) (u := [(1900, some ⟨(.row 1 (([]).map (AV.int .i64))), false⟩)]) rfl trivial rfl ?_
    refine a_nil ?_
    refine a_next (σ' := ⟨[(0, (.int .i64 a0)), (4, (.own 4 [] [])), (5, (.own 5 [] [])), (9, (.osl 9))], [(4, some ⟨(eA64u8 a1), false⟩), (5, some ⟨(eA64u8 a2), false⟩), (9, some ⟨(.row 1 (([]).map (AV.int .i64))), false⟩)]⟩) rfl ?_
    obtain ⟨y47, hy48, hk49⟩ := bind_some h
    clear h
    refine a_join (emb := fun (s : (List Int)) => ⟨[(9, (.osl 9))], [(9, some ⟨(.row 1 (s.map (AV.int .i64))), false⟩)]⟩) (pre := fun s => s = y47) ?_ ?_
    · rintro x46 rfl
      have h := hk49
      refine a_st (σ' := ⟨[(9, (.osl 9))], [(9, some ⟨(.row 1 (x46.map (AV.int .i64))), false⟩)]⟩) rfl ?_
      refine a_seq ?_
      refine a_region ?_
      refine a_val (v := (.osl 9)) (u := []) rfl trivial rfl ?_
      refine a_val (v := (.osl 9)) (u := []) rfl trivial rfl ?_
      refine a_val (v := (.int .i64 0)) (u := []) rfl trivial rfl ?_
      refine a_nil ?_
      refine a_next rfl ?_
      refine a_ret ?_
      refine ⟨.inr rfl, ?_⟩
      rw [Try.results49]
      cases h
      exact ⟨[some 9], ⟨_, _, _, _, _, rfl, trivial, rfl, .inr (.inl ⟨_, _, _, _, _, rfl, rfl, rfl, rfl, rfl, ⟨_, _, _, _, _, rfl, trivial, rfl, .inl ⟨rfl, .inl rfl, ⟨rfl, rfl, rfl⟩⟩⟩⟩)⟩, rfl, rfl⟩
    · have h := hy48
      refine a_seq ?_
      refine a_draw [⟨[], [], [], []⟩, ⟨[4], [], [], []⟩, ⟨[], [], [], [1]⟩, ⟨[5], [], [], []⟩, ⟨[], [], [], [1, 2, 3]⟩, ⟨[], [], [], [0, 1, 2, 3, 4]⟩, ⟨[], [], [], [0, 1, 2, 3, 4, 5]⟩, ⟨[], [], [], []⟩] (by kernel_rfl) ?_
      refine d_cons ?_
      refine a_val (v := (.int .i64 a0)) (u := []) rfl trivial rfl ?_
      refine d_next rfl ?_
      refine d_cons ?_
      have hl58 : LdOk [] (eA64u8 a1) [] 64 true (eA64u8 a1) := (.nil rfl rfl rfl)
      refine a_val (v := (eA64u8 a1)) (u := []) (ld_own (i := ⟨.arr 64 5, 64, 64, (eA64u8 (vrep 64 (0 : Int)))⟩) rfl rfl rfl hl58) hl58.c rfl ?_
      refine d_next rfl ?_
      refine d_cons ?_
      obtain ⟨r59, hr60, h⟩ := bind_some h
      refine a_call (args := [(eA64u8 a1)]) (u := []) (r := (eSi64 r59)) rfl rfl (impl_rowOf_ok a1 r59 hr60) rfl ?_
      refine d_next rfl ?_
      refine d_cons ?_
      have hl61 : LdOk [] (eA64u8 a2) [] 64 true (eA64u8 a2) := (.nil rfl rfl rfl)
      refine a_val (v := (eA64u8 a2)) (u := []) (ld_own (i := ⟨.arr 64 5, 64, 64, (eA64u8 (vrep 64 (0 : Int)))⟩) rfl rfl rfl hl61) hl61.c rfl ?_
      refine d_next rfl ?_
      refine d_cons ?_
      obtain ⟨r62, hr63, h⟩ := bind_some h
      refine a_call (args := [(eA64u8 a2)]) (u := []) (r := (eSi64 r62)) rfl rfl (impl_rowOf_ok a2 r62 hr63) rfl ?_
      refine d_next rfl ?_
      refine d_cons ?_
      obtain ⟨r64, hr65, h⟩ := bind_some h
      refine a_call (args := [(.int .i64 a0), (eSi64 r59), (eSi64 r62)]) (u := []) (r := (eSSi64 r64)) rfl rfl (impl_prime_partials_ok a0 r59 r62 r64 hr65) rfl ?_
      refine d_next rfl ?_
      refine d_cons ?_
      refine a_val (v := (.int .i64 (r64.length : Int))) (u := []) (len_run rfl rfl) trivial rfl ?_
      refine d_next rfl ?_
      refine d_cons ?_
      refine a_val (v := (.int .i64 0)) (u := []) rfl trivial rfl ?_
      refine d_next rfl ?_
      refine d_nil ?_
      refine a_next (σ' := ⟨[(9, (.osl 9)), (24, (eSSi64 r64)), (25, (.int .i64 (r64.length : Int))), (26, (.int .i64 0))], [(9, some ⟨(.row 1 (([]).map (AV.int .i64))), false⟩)]⟩) rfl ?_
      refine a_block ?_
      refine a_loop (emb := fun (s : (Int × (List Int))) => ⟨[(9, (.osl 9)), (24, (eSSi64 r64)), (25, (.int .i64 (r64.length : Int))), (26, (.int .i64 s.1))], [(9, some ⟨(.row 1 (s.2.map (AV.int .i64))), false⟩)]⟩) (body := (fun s : (Int × (List Int)) => impl_DegreesOfPartials_fresh_l1 r64 s.1 s.2)) (G := fun q => some q = some y47) h rfl ?_ rfl
      rintro X80 ⟨x72, x73⟩ x81 h hX82
      have h : impl_DegreesOfPartials_fresh_l1 r64 x72 x73 = some x81 := h
      refine a_st (σ' := ⟨[(9, (.osl 9)), (24, (eSSi64 r64)), (25, (.int .i64 (r64.length : Int))), (26, (.int .i64 x72))], [(9, some ⟨(.row 1 (x73.map (AV.int .i64))), false⟩)]⟩) rfl ?_
      refine a_seq ?_
      refine a_region ?_
      refine a_val (v := (.bool ((decide (x72 < (r64.length : Int)))))) (u := []) rfl trivial rfl ?_
      refine a_nil ?_
      refine a_next (σ' := ⟨[(9, (.osl 9)), (24, (eSSi64 r64)), (25, (.int .i64 (r64.length : Int))), (26, (.int .i64 x72)), (27, (.bool ((decide (x72 < (r64.length : Int))))))], [(9, some ⟨(.row 1 (x73.map (AV.int .i64))), false⟩)]⟩) rfl ?_
      refine a_seq ?_
      cases hb83 : (decide (x72 < (r64.length : Int)))
      · have h := ite_f hb83 h
        refine a_cond_f rfl ?_
        refine a_exit ?_
        refine t_exit ?_
        cases h
        have h := hX82
        refine t_exit ?_
        refine b_exit ?_
        exact j_leaf x73 (Option.some.inj h) rfl
      · have h := ite_t hb83 h
        refine a_cond_t rfl ?_
        refine a_skip ?_
        refine a_next (σ' := ⟨[(9, (.osl 9)), (24, (eSSi64 r64)), (25, (.int .i64 (r64.length : Int))), (26, (.int .i64 x72))], [(9, some ⟨(.row 1 (x73.map (AV.int .i64))), false⟩)]⟩) rfl ?_
        refine a_seq ?_
        refine a_block ?_
        refine a_seq ?_
        refine a_region ?_
        obtain ⟨hc84, h⟩ := ifp_some h
        refine a_val (v := (.ref (.row 1 (r64.map eSi64)) [x72.toNat] [x72.toNat * 1])) (u := []) rfl (lmap hc84) rfl ?_
        have hl85 : LdOk [x72.toNat] (.row 1 (r64.map eSi64)) [x72.toNat * 1] 1 false (eSi64 (rd r64 x72.toNat)) := (.row (llt hc84) rfl (.nil rfl rfl rfl))
        refine a_val (v := (eSi64 (rd r64 x72.toNat))) (u := []) (ld_ref (i := ⟨.slice 2, 1, 24, (eSi64 [])⟩) rfl rfl hl85) hl85.c rfl ?_
        refine a_val (v := (eSi64 (rd r64 x72.toNat))) (u := []) rfl trivial rfl ?_
        refine a_nil ?_
        refine a_next (σ' := ⟨[(9, (.osl 9)), (11, (eSi64 (rd r64 x72.toNat))), (24, (eSSi64 r64)), (25, (.int .i64 (r64.length : Int))), (26, (.int .i64 x72))], [(9, some ⟨(.row 1 (x73.map (AV.int .i64))), false⟩)]⟩) rfl ?_
        refine a_region ?_
        refine a_val (v := (.osl 9)) (u := []) rfl trivial rfl ?_
        refine a_val (v := (eSi64 (rd r64 x72.toNat))) (u := []) rfl trivial rfl ?_
        obtain ⟨r86, hr87, h⟩ := bind_some h
        refine a_call (args := [(eSi64 (rd r64 x72.toNat))]) (u := []) (r := (.int .i64 r86)) rfl rfl (impl_row_degree_ok (rd r64 x72.toNat) r86 hr87) rfl ?_
        refine a_val (v := (.sl 1 true (([r86]).map (AV.int .i64)))) (u := []) rfl ⟨(Nat.le_of_ble_eq_true rfl), (Nat.le_of_ble_eq_true rfl), (all_cons ⟨(Nat.le_of_ble_eq_true rfl), rfl⟩ all_nil)⟩ rfl ?_
        obtain ⟨hc88, h⟩ := ifp_some h
        refine a_val (v := (.osl 4400)) (u := [(4400, some ⟨(.row 1 (((x73 ++ ([r86]))).map (AV.int .i64))), false⟩), (9, none)]) (app_run (i := ⟨.int .i64, 1, 8, (.int .i64 0)⟩) (f := (AV.int .i64)) (l := x73) (l2 := [r86]) rfl rfl rfl rfl (fun _ => rfl) rfl rfl) (app_c (f := (AV.int .i64)) (s := 1) (sz := 1) (by' := 8) (u := []) (id := 9) hc88 (.inr rfl) rfl rfl rfl) rfl ?_
        refine a_val (v := (.osl 4400)) (u := []) rfl trivial rfl ?_
        refine a_nil ?_
        refine b_norm ?_
        refine a_next (σ' := ⟨[(9, (.osl 9)), (24, (eSSi64 r64)), (25, (.int .i64 (r64.length : Int))), (26, (.int .i64 x72))], [(9, some ⟨(.row 1 (((x73 ++ ([r86]))).map (AV.int .i64))), false⟩)]⟩) rfl ?_
        refine a_region ?_
        refine a_val (v := (.int .i64 (IntKind.i64.wrap (x72 + 1)))) (u := []) rfl trivial rfl ?_
        refine a_val (v := (.int .i64 (IntKind.i64.wrap (x72 + 1)))) (u := []) rfl trivial rfl ?_
        refine a_nil ?_
        cases h
        exact a_again rfl hX82
  · have h := ite_t hb5 h
    refine a_cond_t rfl ?_
    refine a_seq ?_
    refine a_region ?_
    refine a_val (v := (.int .i64 r3)) (u := []) rfl trivial rfl ?_
    refine a_val (v := (.osl 1600)) (u := [(1600, some ⟨(.row 1 (([]).map (AV.int .i64))), false⟩)]) rfl trivial rfl ?_
    refine a_val (v := (.int .i64 r3)) (u := []) rfl trivial rfl ?_
    refine a_nil ?_
    refine a_next rfl ?_
    refine a_ret ?_
    refine t_ret ?_
    refine ⟨.inr rfl, ?_⟩
    rw [Try.results49]
    cases h
    exact ⟨[some 1600], ⟨_, _, _, _, _, rfl, trivial, rfl, .inr (.inl ⟨_, _, _, _, _, rfl, rfl, rfl, rfl, rfl, ⟨_, _, _, _, _, rfl, trivial, rfl, .inl ⟨rfl, .inl rfl, ⟨rfl, rfl, rfl⟩⟩⟩⟩)⟩, rfl, rfl⟩
def laws_eqInt64S_c : ACode := (.seq (.region 0 [⟨some 4, .asg 0 (.const (.bool false)) 4, none, []⟩] false) (.seq (.seq (.region 1 [⟨some 6, .mov (.tmp 0), none, []⟩, ⟨some 7, .blt 0 .len [(.tmp 6)] [45], none, []⟩, ⟨some 8, .mov (.tmp 1), none, []⟩, ⟨some 9, .blt 0 .len [(.tmp 8)] [45], none, []⟩, ⟨some 10, .bin .neq 3 (.tmp 7) (.tmp 9), none, []⟩] false) (.cond (.tmp 10) (.seq (.region 2 [⟨some 4, .asg 0 (.const (.bool false)) 4, none, []⟩] false) .ret) .skip)) (.seq (.seq (.region 3 [⟨some 5, .asg 0 (.const (.int .i64 0)) 3, none, []⟩] false) (.block 0 (.loop (.seq (.seq (.region 4 [⟨some 11, .mov (.tmp 5), none, []⟩, ⟨some 12, .mov (.tmp 0), none, []⟩, ⟨some 13, .blt 0 .len [(.tmp 12)] [45], none, []⟩, ⟨some 14, .bin .lss 3 (.tmp 11) (.tmp 13), none, []⟩] false) (.cond (.tmp 14) .skip (.exit 0))) (.seq (.block 1 (.seq (.region 6 [⟨some 17, .mov (.tmp 0), none, []⟩, ⟨some 18, .mov (.tmp 5), none, []⟩, ⟨some 19, .indexAddr 45 (.tmp 17) (.tmp 18), none, [0, 1]⟩, ⟨some 20, .load 2 (.tmp 19), none, [2]⟩, ⟨some 21, .mov (.tmp 1), none, []⟩, ⟨some 22, .mov (.tmp 5), none, []⟩, ⟨some 23, .indexAddr 45 (.tmp 21) (.tmp 22), none, [4, 5]⟩, ⟨some 24, .load 2 (.tmp 23), none, [6]⟩, ⟨some 25, .bin .neq 2 (.tmp 20) (.tmp 24), none, [3, 7]⟩] true) (.cond (.tmp 25) (.seq (.region 7 [⟨some 4, .asg 0 (.const (.bool false)) 4, none, []⟩] false) .ret) .skip))) (.region 5 [⟨some 15, .mov (.tmp 5), none, []⟩, ⟨some 16, .bin .add 3 (.tmp 15) (.const (.int .i64 1)), none, []⟩, ⟨some 5, .asg 0 (.tmp 16) 3, none, []⟩] false)))))) (.seq (.region 8 [⟨some 4, .asg 0 (.const (.bool true)) 4, none, []⟩] false) .ret))))
def laws_eqInt64S_L : Live := [(0, [0, 1]), (1, [0, 1]), (2, []), (3, [0, 1]), (4, [0, 1, 5]), (5, [0, 1, 5]), (6, [0, 1, 5]), (7, []), (8, []), (100010, [0, 1, 10]), (100014, [0, 1, 5, 14]), (100025, [0, 1, 5, 25])]
theorem laws_eqInt64S_body : Try.f34.body = some (Try.f34.body.getD .skip) := by kernel_rfl
theorem laws_eqInt64S_strip : strip [] (Try.f34.body.getD .skip) = laws_eqInt64S_c := by kernel_rfl
noncomputable def laws_eqInt64S_l1 (a0 : (List Int)) (a1 : (List Int)) (x50 : Int) : Option (Int ⊕ (Unit ⊕ Bool)) :=
  (if (decide (x50 < (a0.length : Int))) then (ifp (0 ≤ x50 ∧ x50 < ((a0.length : Nat) : Int)) ((ifp (0 ≤ x50 ∧ x50 < ((a1.length : Nat) : Int)) ((if ((rd a0 x50.toNat) != (rd a1 x50.toNat)) then (some (.inr (.inr false))) else (some (.inl (IntKind.i64.wrap (x50 + 1))))))))) else (some (.inr (((.inl ()))))))
noncomputable def laws_eqInt64S (a0 : (List Int)) (a1 : (List Int)) : Option Bool :=
  (if ((a0.length : Int) != (a1.length : Int)) then (some false) else (Option.bind (α := (Unit ⊕ Bool)) ((loopM (fun s : Int => laws_eqInt64S_l1 a0 a1 s) 0)) fun z => match z with | .inl _ => (some true) | .inr r75 => (some r75)))
set_option maxHeartbeats 16000000 in
theorem laws_eqInt64S_ok (a0 : (List Int)) (a1 : (List Int)) (r : Bool) (h : laws_eqInt64S a0 a1 = some r) : Den Try.prog 34 [(eSi64 a0), (eSi64 a1)] { r := (.bool r) } := by
  refine den_of (rs := [(.bool r)]) (ac := laws_eqInt64S_c) (L := laws_eqInt64S_L) (n := 26) (m := []) good Try.func34 laws_eqInt64S_body (by kernel_rfl) Try.ntmps34 rfl rfl laws_eqInt64S_strip rfl rfl ?_
  refine a_st (σ' := ⟨[(0, (eSi64 a0)), (1, (eSi64 a1))], []⟩) rfl ?_
  unfold laws_eqInt64S_c
  refine a_seq ?_
  refine a_region ?_
  refine a_val (v := (.bool false)) (u := []) rfl trivial rfl ?_
  refine a_nil ?_
  refine a_next (σ' := ⟨[(0, (eSi64 a0)), (1, (eSi64 a1))], []⟩) rfl ?_
  refine a_seq ?_
  refine a_seq ?_
  refine a_region ?_
  refine a_val (v := (eSi64 a0)) (u := []) rfl trivial rfl ?_
  refine a_val (v := (.int .i64 (a0.length : Int))) (u := []) (len_run rfl rfl) trivial rfl ?_
  refine a_val (v := (eSi64 a1)) (u := []) rfl trivial rfl ?_
  refine a_val (v := (.int .i64 (a1.length : Int))) (u := []) (len_run rfl rfl) trivial rfl ?_
  refine a_val (v := (.bool (((a0.length : Int) != (a1.length : Int))))) (u := []) rfl trivial rfl ?_
  refine a_nil ?_
  refine a_next (σ' := ⟨[(0, (eSi64 a0)), (1, (eSi64 a1)), (10, (.bool (((a0.length : Int) != (a1.length : Int)))))], []⟩) rfl ?_
  cases hb1 : ((a0.length : Int) != (a1.length : Int))
  · have h := ite_f hb1 h
    refine a_cond_f rfl ?_
    refine a_skip ?_
    refine a_next (σ' := ⟨[(0, (eSi64 a0)), (1, (eSi64 a1))], []⟩) rfl ?_
    obtain ⟨y37, hy38, hk39⟩ := bind_some h
    clear h
    refine a_join (emb := fun (s : Unit) => ⟨[], []⟩) (pre := fun s => (.inl s) = y37) ?_ ?_
    · rintro _ rfl
      have h := hk39
      refine a_st (σ' := ⟨[], []⟩) rfl ?_
      refine a_seq ?_
      refine a_region ?_
      refine a_val (v := (.bool true)) (u := []) rfl trivial rfl ?_
      refine a_nil ?_
      refine a_next rfl ?_
      refine a_ret ?_
      refine ⟨.inr rfl, ?_⟩
      rw [Try.results34]
      cases h
      exact ⟨_, _, _, _, _, rfl, trivial, .inl ⟨rfl, .inl rfl⟩, rfl, rfl⟩
    · have h := hy38
      refine a_seq ?_
      refine a_region ?_
      refine a_val (v := (.int .i64 0)) (u := []) rfl trivial rfl ?_
      refine a_nil ?_
      refine a_next (σ' := ⟨[(0, (eSi64 a0)), (1, (eSi64 a1)), (5, (.int .i64 0))], []⟩) rfl ?_
      refine a_block ?_
      refine a_loop (emb := fun (s : Int) => ⟨[(0, (eSi64 a0)), (1, (eSi64 a1)), (5, (.int .i64 s))], []⟩) (body := (fun s : Int => laws_eqInt64S_l1 a0 a1 s)) (G := fun q => some q = some y37) h rfl ?_ rfl
      rintro X61 x50 x62 h hX63
      have h : laws_eqInt64S_l1 a0 a1 x50 = some x62 := h
      refine a_st (σ' := ⟨[(0, (eSi64 a0)), (1, (eSi64 a1)), (5, (.int .i64 x50))], []⟩) rfl ?_
      refine a_seq ?_
      refine a_seq ?_
      refine a_region ?_
      refine a_val (v := (.int .i64 x50)) (u := []) rfl trivial rfl ?_
      refine a_val (v := (eSi64 a0)) (u := []) rfl trivial rfl ?_
      refine a_val (v := (.int .i64 (a0.length : Int))) (u := []) (len_run rfl rfl) trivial rfl ?_
      refine a_val (v := (.bool ((decide (x50 < (a0.length : Int)))))) (u := []) rfl trivial rfl ?_
      refine a_nil ?_
      refine a_next (σ' := ⟨[(0, (eSi64 a0)), (1, (eSi64 a1)), (5, (.int .i64 x50)), (14, (.bool ((decide (x50 < (a0.length : Int))))))], []⟩) rfl ?_
      cases hb64 : (decide (x50 < (a0.length : Int)))
      · have h := ite_f hb64 h
        refine a_cond_f rfl ?_
        refine a_exit ?_
        refine t_exit ?_
        cases h
        have h := hX63
        refine t_exit ?_
        refine b_exit ?_
        exact j_leaf () (Option.some.inj h) rfl
      · have h := ite_t hb64 h
        refine a_cond_t rfl ?_
        refine a_skip ?_
        refine a_next (σ' := ⟨[(0, (eSi64 a0)), (1, (eSi64 a1)), (5, (.int .i64 x50))], []⟩) rfl ?_
        refine a_seq ?_
        refine a_block ?_
        refine a_seq ?_
        refine a_draw [⟨[], [], [], []⟩, ⟨[], [], [], []⟩, ⟨[], [], [], [0, 1]⟩, ⟨[], [], [], [0, 1, 2]⟩, ⟨[], [], [], []⟩, ⟨[], [], [], []⟩, ⟨[], [], [], [4, 5]⟩, ⟨[], [], [], [4, 5, 6]⟩, ⟨[], [], [], [0, 1, 2, 3, 4, 5, 6, 7]⟩] (by kernel_rfl) ?_
        refine d_cons ?_
        refine a_val (v := (eSi64 a0)) (u := []) rfl trivial rfl ?_
        refine d_next rfl ?_
        refine d_cons ?_
        refine a_val (v := (.int .i64 x50)) (u := []) rfl trivial rfl ?_
        refine d_next rfl ?_
        refine d_cons ?_
        obtain ⟨hc69, h⟩ := ifp_some h
        refine a_val (v := (.ref (.row 1 (a0.map (AV.int .i64))) [x50.toNat] [x50.toNat * 1])) (u := []) rfl (lmap hc69) rfl ?_
        refine d_next rfl ?_
        refine d_cons ?_
        have hl70 : LdOk [x50.toNat] (.row 1 (a0.map (AV.int .i64))) [x50.toNat * 1] 1 false (.int .i64 (rd a0 x50.toNat)) := (.row (llt hc69) rfl (.nil rfl rfl rfl))
        refine a_val (v := (.int .i64 (rd a0 x50.toNat))) (u := []) (ld_ref (i := ⟨.int .i64, 1, 8, (.int .i64 0)⟩) rfl rfl hl70) hl70.c rfl ?_
        refine d_next rfl ?_
        refine d_cons ?_
        refine a_val (v := (eSi64 a1)) (u := []) rfl trivial rfl ?_
        refine d_next rfl ?_
        refine d_cons ?_
        refine a_val (v := (.int .i64 x50)) (u := []) rfl trivial rfl ?_
        refine d_next rfl ?_
        refine d_cons ?_
        obtain ⟨hc71, h⟩ := ifp_some h
        refine a_val (v := (.ref (.row 1 (a1.map (AV.int .i64))) [x50.toNat] [x50.toNat * 1])) (u := []) rfl (lmap hc71) rfl ?_
        refine d_next rfl ?_
        refine d_cons ?_
        have hl72 : LdOk [x50.toNat] (.row 1 (a1.map (AV.int .i64))) [x50.toNat * 1] 1 false (.int .i64 (rd a1 x50.toNat)) := (.row (llt hc71) rfl (.nil rfl rfl rfl))
        refine a_val (v := (.int .i64 (rd a1 x50.toNat))) (u := []) (ld_ref (i := ⟨.int .i64, 1, 8, (.int .i64 0)⟩) rfl rfl hl72) hl72.c rfl ?_
        refine d_next rfl ?_
        refine d_cons ?_
        refine a_val (v := (.bool (((rd a0 x50.toNat) != (rd a1 x50.toNat))))) (u := []) rfl trivial rfl ?_
        refine d_next rfl ?_
        refine d_nil ?_
        refine a_next (σ' := ⟨[(0, (eSi64 a0)), (1, (eSi64 a1)), (5, (.int .i64 x50)), (25, (.bool (((rd a0 x50.toNat) != (rd a1 x50.toNat)))))], []⟩) rfl ?_
        cases hb73 : ((rd a0 x50.toNat) != (rd a1 x50.toNat))
        · have h := ite_f hb73 h
          refine a_cond_f rfl ?_
          refine a_skip ?_
          refine b_norm ?_
          refine a_next (σ' := ⟨[(0, (eSi64 a0)), (1, (eSi64 a1)), (5, (.int .i64 x50))], []⟩) rfl ?_
          refine a_region ?_
          refine a_val (v := (.int .i64 x50)) (u := []) rfl trivial rfl ?_
          refine a_val (v := (.int .i64 (IntKind.i64.wrap (x50 + 1)))) (u := []) rfl trivial rfl ?_
          refine a_val (v := (.int .i64 (IntKind.i64.wrap (x50 + 1)))) (u := []) rfl trivial rfl ?_
          refine a_nil ?_
          cases h
          exact a_again rfl hX63
        · have h := ite_t hb73 h
          refine a_cond_t rfl ?_
          refine a_seq ?_
          refine a_region ?_
          refine a_val (v := (.bool false)) (u := []) rfl trivial rfl ?_
          refine a_nil ?_
          refine a_next rfl ?_
          refine a_ret ?_
          refine b_ret ?_
          refine t_ret ?_
          cases h
          have h := hX63
          refine t_ret ?_
          refine b_ret ?_
          refine t_ret ?_
          cases h
          have h := hk39
          refine ⟨.inr rfl, ?_⟩
          rw [Try.results34]
          cases h
          exact ⟨_, _, _, _, _, rfl, trivial, .inl ⟨rfl, .inl rfl⟩, rfl, rfl⟩
  · have h := ite_t hb1 h
    refine a_cond_t rfl ?_
    refine a_seq ?_
    refine a_region ?_
    refine a_val (v := (.bool false)) (u := []) rfl trivial rfl ?_
    refine a_nil ?_
    refine a_next rfl ?_
    refine a_ret ?_
    refine t_ret ?_
    refine ⟨.inr rfl, ?_⟩
    rw [Try.results34]
    cases h
    exact ⟨_, _, _, _, _, rfl, trivial, .inl ⟨rfl, .inl rfl⟩, rfl, rfl⟩
def laws_markInt64S_of_mut_c : ACode := (.seq (.region 0 [⟨some 4, .asg 0 (.const (.int .i64 0)) 3, none, []⟩] false) (.seq (.seq (.region 1 [⟨some 5, .asg 0 (.const (.int .i64 0)) 3, none, []⟩] false) (.block 0 (.loop (.seq (.seq (.region 2 [⟨some 6, .mov (.tmp 5), none, []⟩, ⟨some 7, .mov (.tmp 0), none, []⟩, ⟨some 8, .blt 0 .len [(.tmp 7)] [45], none, []⟩, ⟨some 9, .bin .lss 3 (.tmp 6) (.tmp 8), none, []⟩] false) (.cond (.tmp 9) .skip (.exit 0))) (.seq (.block 1 (.seq (.region 4 [⟨some 12, .mov (.tmp 0), none, []⟩, ⟨some 13, .mov (.tmp 5), none, []⟩, ⟨some 14, .mov (.tmp 1), none, []⟩, ⟨some 15, .indexAddr 45 (.tmp 12) (.tmp 13), none, []⟩, ⟨none, .store 2 (.tmp 15) (.tmp 14), none, []⟩] false) (.region 5 [⟨some 16, .mov (.tmp 1), none, []⟩, ⟨some 17, .bin .add 3 (.tmp 16) (.const (.int .i64 1)), none, []⟩, ⟨some 1, .asg 0 (.tmp 17) 3, none, []⟩] false))) (.region 3 [⟨some 10, .mov (.tmp 5), none, []⟩, ⟨some 11, .bin .add 3 (.tmp 10) (.const (.int .i64 1)), none, []⟩, ⟨some 5, .asg 0 (.tmp 11) 3, none, []⟩] false)))))) (.seq (.region 6 [⟨some 18, .mov (.tmp 1), none, []⟩, ⟨some 4, .asg 0 (.tmp 18) 3, none, []⟩] false) .ret)))
def laws_markInt64S_of_mut_L : Live := [(0, [0, 1]), (1, [0, 1]), (2, [0, 1, 5]), (3, [0, 1, 5]), (4, [0, 1, 5]), (5, [0, 1, 5]), (6, [1]), (100009, [0, 1, 5, 9])]
theorem laws_markInt64S_of_mut_body : Try.f35.body = some (Try.f35.body.getD .skip) := by kernel_rfl
theorem laws_markInt64S_of_mut_strip : strip [] (Try.f35.body.getD .skip) = laws_markInt64S_of_mut_c := by kernel_rfl
noncomputable def laws_markInt64S_of_mut_l1  (x25 : Int) (x26 : Int) (x27 : (List Int)) : Option ((Int × Int × (List Int)) ⊕ (Int × (List Int))) :=
  (if (decide (x26 < (x27.length : Int))) then (ifp (0 ≤ x26 ∧ x26 < ((x27.length : Nat) : Int)) ((some (.inl ((IntKind.i64.wrap (x25 + 1), IntKind.i64.wrap (x26 + 1), (x27.set x26.toNat x25))))))) else (some (.inr (x25, x27))))
noncomputable def laws_markInt64S_of_mut (a0 : (List Int)) (a1 : Int) : Option (Int × (List Int)) :=
  (Option.bind (α := (Int × (List Int))) ((loopM (fun s : (Int × Int × (List Int)) => laws_markInt64S_of_mut_l1 s.1 s.2.1 s.2.2) (a1, 0, a0))) fun ⟨x17, x18⟩ => (some (x17, x18)))
set_option maxHeartbeats 16000000 in
theorem laws_markInt64S_of_mut_ok (a0 : (List Int)) (a1 : Int) (r : (Int × (List Int))) (h : laws_markInt64S_of_mut a0 a1 = some r) : Den Try.prog 35 [(.mutsl 1 (a0.map (AV.int .i64))), (.int .i64 a1)] { r := (.int .i64 r.1), ms := [(.row 1 (r.2.map (AV.int .i64)))], fs := [] } := by
  refine den_ofX (rs := [(.int .i64 r.1)]) (ac := laws_markInt64S_of_mut_c) (L := laws_markInt64S_of_mut_L) (n := 19) (m := []) good Try.func35 laws_markInt64S_of_mut_body (by kernel_rfl) Try.ntmps35 rfl rfl laws_markInt64S_of_mut_strip rfl ?_
  refine a_st (σ' := ⟨[(0, (.osl 1000000)), (1, (.int .i64 a1))], [(1000000, some ⟨(.row 1 (a0.map (AV.int .i64))), false⟩)]⟩) rfl ?_
  unfold laws_markInt64S_of_mut_c
  refine a_seq ?_
  refine a_region ?_
  refine a_val (v := (.int .i64 0)) (u := []) rfl trivial rfl ?_
  refine a_nil ?_
  refine a_next (σ' := ⟨[(0, (.osl 1000000)), (1, (.int .i64 a1))], [(1000000, some ⟨(.row 1 (a0.map (AV.int .i64))), false⟩)]⟩) rfl ?_
  obtain ⟨y19, hy20, hk21⟩ := bind_some h
  clear h
  refine a_join (emb := fun (s : (Int × (List Int))) => ⟨[(1, (.int .i64 s.1))], [(1000000, some ⟨(.row 1 (s.2.map (AV.int .i64))), false⟩)]⟩) (pre := fun s => s = y19) ?_ ?_
  · rintro ⟨x17, x18⟩ rfl
    have h := hk21
    refine a_st (σ' := ⟨[(1, (.int .i64 x17))], [(1000000, some ⟨(.row 1 (x18.map (AV.int .i64))), false⟩)]⟩) rfl ?_
    refine a_seq ?_
    refine a_region ?_
    refine a_val (v := (.int .i64 x17)) (u := []) rfl trivial rfl ?_
    refine a_val (v := (.int .i64 x17)) (u := []) rfl trivial rfl ?_
    refine a_nil ?_
    refine a_next rfl ?_
    refine a_ret ?_
    refine ⟨.inr rfl, ?_⟩
    rw [Try.results35]
    cases h
    exact ⟨[], ⟨_, _, _, _, _, rfl, trivial, rfl, .inl ⟨rfl, .inl rfl, ⟨rfl, rfl, rfl⟩⟩⟩, rfl, ⟨_, _, rfl, rfl, rfl⟩⟩
  · have h := hy20
    refine a_seq ?_
    refine a_region ?_
    refine a_val (v := (.int .i64 0)) (u := []) rfl trivial rfl ?_
    refine a_nil ?_
    refine a_next (σ' := ⟨[(0, (.osl 1000000)), (1, (.int .i64 a1)), (5, (.int .i64 0))], [(1000000, some ⟨(.row 1 (a0.map (AV.int .i64))), false⟩)]⟩) rfl ?_
    refine a_block ?_
    refine a_loop (emb := fun (s : (Int × Int × (List Int))) => ⟨[(0, (.osl 1000000)), (1, (.int .i64 s.1)), (5, (.int .i64 s.2.1))], [(1000000, some ⟨(.row 1 (s.2.2.map (AV.int .i64))), false⟩)]⟩) (body := (fun s : (Int × Int × (List Int)) => laws_markInt64S_of_mut_l1 s.1 s.2.1 s.2.2)) (G := fun q => some q = some y19) h rfl ?_ rfl
    rintro X31 ⟨x25, x26, x27⟩ x32 h hX33
    have h : laws_markInt64S_of_mut_l1 x25 x26 x27 = some x32 := h
    refine a_st (σ' := ⟨[(0, (.osl 1000000)), (1, (.int .i64 x25)), (5, (.int .i64 x26))], [(1000000, some ⟨(.row 1 (x27.map (AV.int .i64))), false⟩)]⟩) rfl ?_
    refine a_seq ?_
    refine a_seq ?_
    refine a_region ?_
    refine a_val (v := (.int .i64 x26)) (u := []) rfl trivial rfl ?_
    refine a_val (v := (.osl 1000000)) (u := []) rfl trivial rfl ?_
    refine a_val (v := (.int .i64 (x27.length : Int))) (u := []) (leno_run rfl rfl rfl) trivial rfl ?_
    refine a_val (v := (.bool ((decide (x26 < (x27.length : Int)))))) (u := []) rfl trivial rfl ?_
    refine a_nil ?_
    refine a_next (σ' := ⟨[(0, (.osl 1000000)), (1, (.int .i64 x25)), (5, (.int .i64 x26)), (9, (.bool ((decide (x26 < (x27.length : Int))))))], [(1000000, some ⟨(.row 1 (x27.map (AV.int .i64))), false⟩)]⟩) rfl ?_
    cases hb34 : (decide (x26 < (x27.length : Int)))
    · have h := ite_f hb34 h
      refine a_cond_f rfl ?_
      refine a_exit ?_
      refine t_exit ?_
      cases h
      have h := hX33
      refine t_exit ?_
      refine b_exit ?_
      exact j_leaf (x25, x27) (Option.some.inj h) rfl
    · have h := ite_t hb34 h
      refine a_cond_t rfl ?_
      refine a_skip ?_
      refine a_next (σ' := ⟨[(0, (.osl 1000000)), (1, (.int .i64 x25)), (5, (.int .i64 x26))], [(1000000, some ⟨(.row 1 (x27.map (AV.int .i64))), false⟩)]⟩) rfl ?_
      refine a_seq ?_
      refine a_block ?_
      refine a_seq ?_
      refine a_region ?_
      refine a_val (v := (.osl 1000000)) (u := []) rfl trivial rfl ?_
      refine a_val (v := (.int .i64 x26)) (u := []) rfl trivial rfl ?_
      refine a_val (v := (.int .i64 x25)) (u := []) rfl trivial rfl ?_
      obtain ⟨hc35, h⟩ := ifp_some h
      refine a_val (v := (.own 1000000 [x26.toNat] [x26.toNat * 1])) (u := []) rfl (lmap hc35) rfl ?_
      have hs36 : StOk [x26.toNat] (.row 1 (x27.map (AV.int .i64))) [x26.toNat * 1] 1 (.int .i64 x25) (.row 1 ((x27.set x26.toNat x25).map (AV.int .i64))) := (.row (y := x25) (llt hc35) rfl (.nil rfl rfl rfl rfl))
      refine a_val (v := .top) (u := [(1000000, some ⟨(.row 1 ((x27.set x26.toNat x25).map (AV.int .i64))), false⟩)]) (st_own (i := ⟨.int .i64, 1, 8, (.int .i64 0)⟩) rfl rfl (fun _ => rfl) rfl hs36) (hs36.c rfl) rfl ?_
      refine a_nil ?_
      refine a_next (σ' := ⟨[(0, (.osl 1000000)), (1, (.int .i64 x25)), (5, (.int .i64 x26))], [(1000000, some ⟨(.row 1 ((x27.set x26.toNat x25).map (AV.int .i64))), false⟩)]⟩) rfl ?_
      refine a_region ?_
      refine a_val (v := (.int .i64 x25)) (u := []) rfl trivial rfl ?_
      refine a_val (v := (.int .i64 (IntKind.i64.wrap (x25 + 1)))) (u := []) rfl trivial rfl ?_
      refine a_val (v := (.int .i64 (IntKind.i64.wrap (x25 + 1)))) (u := []) rfl trivial rfl ?_
      refine a_nil ?_
      refine b_norm ?_
      refine a_next (σ' := ⟨[(0, (.osl 1000000)), (1, (.int .i64 (IntKind.i64.wrap (x25 + 1)))), (5, (.int .i64 x26))], [(1000000, some ⟨(.row 1 ((x27.set x26.toNat x25).map (AV.int .i64))), false⟩)]⟩) rfl ?_
      refine a_region ?_
      refine a_val (v := (.int .i64 x26)) (u := []) rfl trivial rfl ?_
      refine a_val (v := (.int .i64 (IntKind.i64.wrap (x26 + 1)))) (u := []) rfl trivial rfl ?_
      refine a_val (v := (.int .i64 (IntKind.i64.wrap (x26 + 1)))) (u := []) rfl trivial rfl ?_
      refine a_nil ?_
      cases h
      exact a_again rfl hX33
def laws_heldInt64S_c : ACode := (.seq (.region 0 [⟨some 4, .asg 0 (.const (.int .i64 0)) 3, none, []⟩] false) (.seq (.seq (.region 1 [⟨some 5, .asg 0 (.const (.int .i64 0)) 3, none, []⟩] false) (.block 0 (.loop (.seq (.seq (.region 2 [⟨some 6, .mov (.tmp 5), none, []⟩, ⟨some 7, .mov (.tmp 0), none, []⟩, ⟨some 8, .blt 0 .len [(.tmp 7)] [45], none, []⟩, ⟨some 9, .bin .lss 3 (.tmp 6) (.tmp 8), none, []⟩] false) (.cond (.tmp 9) .skip (.exit 0))) (.seq (.block 1 (.seq (.seq (.region 4 [⟨some 12, .mov (.tmp 0), none, []⟩, ⟨some 13, .mov (.tmp 5), none, []⟩, ⟨some 14, .indexAddr 45 (.tmp 12) (.tmp 13), none, []⟩, ⟨some 15, .load 2 (.tmp 14), none, []⟩, ⟨some 16, .mov (.tmp 1), none, []⟩, ⟨some 17, .bin .neq 2 (.tmp 15) (.tmp 16), none, []⟩] false) (.cond (.tmp 17) (.seq (.region 5 [⟨some 4, .asg 0 (.const (.int .i64 (-1))) 3, none, []⟩] false) .ret) .skip)) (.region 6 [⟨some 18, .mov (.tmp 1), none, []⟩, ⟨some 19, .bin .add 3 (.tmp 18) (.const (.int .i64 1)), none, []⟩, ⟨some 1, .asg 0 (.tmp 19) 3, none, []⟩] false))) (.region 3 [⟨some 10, .mov (.tmp 5), none, []⟩, ⟨some 11, .bin .add 3 (.tmp 10) (.const (.int .i64 1)), none, []⟩, ⟨some 5, .asg 0 (.tmp 11) 3, none, []⟩] false)))))) (.seq (.region 7 [⟨some 20, .mov (.tmp 1), none, []⟩, ⟨some 4, .asg 0 (.tmp 20) 3, none, []⟩] false) .ret)))
def laws_heldInt64S_L : Live := [(0, [0, 1]), (1, [0, 1]), (2, [0, 1, 5]), (3, [0, 1, 5]), (4, [0, 1, 5]), (5, []), (6, [0, 1, 5]), (7, [1]), (100009, [0, 1, 5, 9]), (100017, [0, 1, 5, 17])]
theorem laws_heldInt64S_body : Try.f36.body = some (Try.f36.body.getD .skip) := by kernel_rfl
theorem laws_heldInt64S_strip : strip [] (Try.f36.body.getD .skip) = laws_heldInt64S_c := by kernel_rfl
noncomputable def laws_heldInt64S_l1 (a0 : (List Int)) (x27 : Int) (x28 : Int) : Option ((Int × Int) ⊕ (Int ⊕ Int)) :=
  (if (decide (x28 < (a0.length : Int))) then (ifp (0 ≤ x28 ∧ x28 < ((a0.length : Nat) : Int)) ((if ((rd a0 x28.toNat) != x27) then (some (.inr ((.inr (-1))))) else (some (.inl ((IntKind.i64.wrap (x27 + 1), IntKind.i64.wrap (x28 + 1)))))))) else (some (.inr (.inl x27))))
noncomputable def laws_heldInt64S (a0 : (List Int)) (a1 : Int) : Option Int :=
  (Option.bind (α := (Int ⊕ Int)) ((loopM (fun s : (Int × Int) => laws_heldInt64S_l1 a0 s.1 s.2) (a1, 0))) fun z => match z with | .inl x19 => (some x19) | .inr r41 => (some r41))
set_option maxHeartbeats 16000000 in
theorem laws_heldInt64S_ok (a0 : (List Int)) (a1 : Int) (r : Int) (h : laws_heldInt64S a0 a1 = some r) : Den Try.prog 36 [(eSi64 a0), (.int .i64 a1)] { r := (.int .i64 r) } := by
  refine den_of (rs := [(.int .i64 r)]) (ac := laws_heldInt64S_c) (L := laws_heldInt64S_L) (n := 21) (m := []) good Try.func36 laws_heldInt64S_body (by kernel_rfl) Try.ntmps36 rfl rfl laws_heldInt64S_strip rfl rfl ?_
  refine a_st (σ' := ⟨[(0, (eSi64 a0)), (1, (.int .i64 a1))], []⟩) rfl ?_
  unfold laws_heldInt64S_c
  refine a_seq ?_
  refine a_region ?_
  refine a_val (v := (.int .i64 0)) (u := []) rfl trivial rfl ?_
  refine a_nil ?_
  refine a_next (σ' := ⟨[(0, (eSi64 a0)), (1, (.int .i64 a1))], []⟩) rfl ?_
  obtain ⟨y20, hy21, hk22⟩ := bind_some h
  clear h
  refine a_join (emb := fun (s : Int) => ⟨[(1, (.int .i64 s))], []⟩) (pre := fun s => (.inl s) = y20) ?_ ?_
  · rintro x19 rfl
    have h := hk22
    refine a_st (σ' := ⟨[(1, (.int .i64 x19))], []⟩) rfl ?_
    refine a_seq ?_
    refine a_region ?_
    refine a_val (v := (.int .i64 x19)) (u := []) rfl trivial rfl ?_
    refine a_val (v := (.int .i64 x19)) (u := []) rfl trivial rfl ?_
    refine a_nil ?_
    refine a_next rfl ?_
    refine a_ret ?_
    refine ⟨.inr rfl, ?_⟩
    rw [Try.results36]
    cases h
    exact ⟨_, _, _, _, _, rfl, trivial, .inl ⟨rfl, .inl rfl⟩, rfl, rfl⟩
  · have h := hy21
    refine a_seq ?_
    refine a_region ?_
    refine a_val (v := (.int .i64 0)) (u := []) rfl trivial rfl ?_
    refine a_nil ?_
    refine a_next (σ' := ⟨[(0, (eSi64 a0)), (1, (.int .i64 a1)), (5, (.int .i64 0))], []⟩) rfl ?_
    refine a_block ?_
    refine a_loop (emb := fun (s : (Int × Int)) => ⟨[(0, (eSi64 a0)), (1, (.int .i64 s.1)), (5, (.int .i64 s.2))], []⟩) (body := (fun s : (Int × Int) => laws_heldInt64S_l1 a0 s.1 s.2)) (G := fun q => some q = some y20) h rfl ?_ rfl
    rintro X33 ⟨x27, x28⟩ x34 h hX35
    have h : laws_heldInt64S_l1 a0 x27 x28 = some x34 := h
    refine a_st (σ' := ⟨[(0, (eSi64 a0)), (1, (.int .i64 x27)), (5, (.int .i64 x28))], []⟩) rfl ?_
    refine a_seq ?_
    refine a_seq ?_
    refine a_region ?_
    refine a_val (v := (.int .i64 x28)) (u := []) rfl trivial rfl ?_
    refine a_val (v := (eSi64 a0)) (u := []) rfl trivial rfl ?_
    refine a_val (v := (.int .i64 (a0.length : Int))) (u := []) (len_run rfl rfl) trivial rfl ?_
    refine a_val (v := (.bool ((decide (x28 < (a0.length : Int)))))) (u := []) rfl trivial rfl ?_
    refine a_nil ?_
    refine a_next (σ' := ⟨[(0, (eSi64 a0)), (1, (.int .i64 x27)), (5, (.int .i64 x28)), (9, (.bool ((decide (x28 < (a0.length : Int))))))], []⟩) rfl ?_
    cases hb36 : (decide (x28 < (a0.length : Int)))
    · have h := ite_f hb36 h
      refine a_cond_f rfl ?_
      refine a_exit ?_
      refine t_exit ?_
      cases h
      have h := hX35
      refine t_exit ?_
      refine b_exit ?_
      exact j_leaf x27 (Option.some.inj h) rfl
    · have h := ite_t hb36 h
      refine a_cond_t rfl ?_
      refine a_skip ?_
      refine a_next (σ' := ⟨[(0, (eSi64 a0)), (1, (.int .i64 x27)), (5, (.int .i64 x28))], []⟩) rfl ?_
      refine a_seq ?_
      refine a_block ?_
      refine a_seq ?_
      refine a_seq ?_
      refine a_region ?_
      refine a_val (v := (eSi64 a0)) (u := []) rfl trivial rfl ?_
      refine a_val (v := (.int .i64 x28)) (u := []) rfl trivial rfl ?_
      obtain ⟨hc37, h⟩ := ifp_some h
      refine a_val (v := (.ref (.row 1 (a0.map (AV.int .i64))) [x28.toNat] [x28.toNat * 1])) (u := []) rfl (lmap hc37) rfl ?_
      have hl38 : LdOk [x28.toNat] (.row 1 (a0.map (AV.int .i64))) [x28.toNat * 1] 1 false (.int .i64 (rd a0 x28.toNat)) := (.row (llt hc37) rfl (.nil rfl rfl rfl))
      refine a_val (v := (.int .i64 (rd a0 x28.toNat))) (u := []) (ld_ref (i := ⟨.int .i64, 1, 8, (.int .i64 0)⟩) rfl rfl hl38) hl38.c rfl ?_
      refine a_val (v := (.int .i64 x27)) (u := []) rfl trivial rfl ?_
      refine a_val (v := (.bool (((rd a0 x28.toNat) != x27)))) (u := []) rfl trivial rfl ?_
      refine a_nil ?_
      refine a_next (σ' := ⟨[(0, (eSi64 a0)), (1, (.int .i64 x27)), (5, (.int .i64 x28)), (17, (.bool (((rd a0 x28.toNat) != x27))))], []⟩) rfl ?_
      cases hb39 : ((rd a0 x28.toNat) != x27)
      · have h := ite_f hb39 h
        refine a_cond_f rfl ?_
        refine a_skip ?_
        refine a_next (σ' := ⟨[(0, (eSi64 a0)), (1, (.int .i64 x27)), (5, (.int .i64 x28))], []⟩) rfl ?_
        refine a_region ?_
        refine a_val (v := (.int .i64 x27)) (u := []) rfl trivial rfl ?_
        refine a_val (v := (.int .i64 (IntKind.i64.wrap (x27 + 1)))) (u := []) rfl trivial rfl ?_
        refine a_val (v := (.int .i64 (IntKind.i64.wrap (x27 + 1)))) (u := []) rfl trivial rfl ?_
        refine a_nil ?_
        refine b_norm ?_
        refine a_next (σ' := ⟨[(0, (eSi64 a0)), (1, (.int .i64 (IntKind.i64.wrap (x27 + 1)))), (5, (.int .i64 x28))], []⟩) rfl ?_
        refine a_region ?_
        refine a_val (v := (.int .i64 x28)) (u := []) rfl trivial rfl ?_
        refine a_val (v := (.int .i64 (IntKind.i64.wrap (x28 + 1)))) (u := []) rfl trivial rfl ?_
        refine a_val (v := (.int .i64 (IntKind.i64.wrap (x28 + 1)))) (u := []) rfl trivial rfl ?_
        refine a_nil ?_
        cases h
        exact a_again rfl hX35
      · have h := ite_t hb39 h
        refine a_cond_t rfl ?_
        refine a_seq ?_
        refine a_region ?_
        refine a_val (v := (.int .i64 (-1))) (u := []) rfl trivial rfl ?_
        refine a_nil ?_
        refine a_next rfl ?_
        refine a_ret ?_
        refine t_ret ?_
        refine b_ret ?_
        refine t_ret ?_
        cases h
        have h := hX35
        refine t_ret ?_
        refine b_ret ?_
        refine t_ret ?_
        cases h
        have h := hk22
        refine ⟨.inr rfl, ?_⟩
        rw [Try.results36]
        cases h
        exact ⟨_, _, _, _, _, rfl, trivial, .inl ⟨rfl, .inl rfl⟩, rfl, rfl⟩
end Go.Proofs.Ytacebpbhddkelaa
