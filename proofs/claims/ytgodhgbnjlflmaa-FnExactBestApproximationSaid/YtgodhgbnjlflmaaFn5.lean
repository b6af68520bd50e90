/- Functions of the program: plain Lean functions, and that the program computes them. Printed by gen.py. -/
import Derived.Test.YtgodhgbnjlflmaaFnT
import Derived.Test.YtgodhgbnjlflmaaFn4
namespace Go.Proofs.Ytgodhgbnjlflmaa
open Go.Abs Go.Proofs
set_option linter.unusedSimpArgs false
set_option linter.unusedVariables false
attribute [local irreducible] Abs.acode Abs.aops Abs.aopsT Abs.thenK Abs.blockK

def impl_prime_partials_c : ACode := (.seq (.region 0 [⟨some 6, .asg 1 (.const (.slice none 0 0)) 72, none, []⟩] false) (.seq (.region 1 [⟨some 7, .asg 2 (.const (.slice none 0 0)) 72, none, []⟩] false) (.seq (.block 0 (.loop (.seq (.seq (.region 2 [⟨some 10, .mov (.tmp 2), none, []⟩, ⟨some 11, .blt 0 .len [(.tmp 10)] [64], none, []⟩, ⟨some 12, .bin .gtr 3 (.tmp 11) (.const (.int .i64 0)), none, []⟩] false) (.cond (.tmp 12) .skip (.exit 0))) (.block 1 (.seq (.region 3 [⟨some 14, .mov (.tmp 0), none, []⟩, ⟨some 15, .mov (.tmp 1), none, []⟩, ⟨some 16, .mov (.tmp 2), none, []⟩, ⟨some 17, .call 0 (.func 91) [(.tmp 14), (.tmp 15), (.tmp 16)], none, []⟩, ⟨some 13, .mov (.tmp 17), none, []⟩, ⟨some 18, .extract (.tmp 13) 0, none, []⟩, ⟨some 19, .extract (.tmp 13) 1, none, []⟩, ⟨some 8, .asg 1 (.tmp 18) 64, none, []⟩, ⟨some 9, .asg 1 (.tmp 19) 64, none, []⟩] false) (.seq (.region 4 [⟨some 20, .mov (.tmp 7), none, []⟩, ⟨some 21, .mov (.tmp 8), none, []⟩, ⟨some 22, .bslice 0 72 1 [(0, (.tmp 21))], none, []⟩, ⟨some 23, .blt 0 .append [(.tmp 20), (.tmp 22)] [72, 72], none, []⟩, ⟨some 7, .asg 2 (.tmp 23) 72, none, []⟩] false) (.region 5 [⟨some 24, .mov (.tmp 2), none, []⟩, ⟨some 25, .mov (.tmp 9), none, []⟩, ⟨some 1, .asg 1 (.tmp 24) 64, none, []⟩, ⟨some 2, .asg 1 (.tmp 25) 64, none, []⟩] false))))))) (.seq (.region 6 [⟨some 26, .mov (.tmp 7), none, []⟩, ⟨some 6, .asg 1 (.tmp 26) 72, none, []⟩] false) .ret))))
def impl_prime_partials_L : Live := [(0, [0, 1, 2]), (1, [0, 1, 2]), (2, [0, 1, 2, 7]), (3, [0, 1, 2, 7]), (4, [0, 2, 7, 8, 9]), (5, [0, 2, 7, 9]), (6, [7]), (100012, [0, 1, 2, 7, 12])]
theorem impl_prime_partials_body : Try.f71.body = some (Try.f71.body.getD .skip) := by kernel_rfl
theorem impl_prime_partials_strip : strip [(1, 1), (2, 1), (6, 1), (7, 2), (8, 1), (9, 1)] (Try.f71.body.getD .skip) = impl_prime_partials_c := by kernel_rfl
noncomputable def impl_prime_partials_l1 (a0 : Int) (x28 : (List Int)) (x29 : (List Int)) (x30 : (List (List Int))) : Option (((List Int) × (List Int) × (List (List Int))) ⊕ (List (List Int))) :=
  (if (decide ((x29.length : Int) > 0)) then (Option.bind (impl_prime_divide a0 x28 x29) fun r39 => (ifp ((x30.length + ([r39.1] : List (List Int)).length) * 24 ≤ 140737488355328) ((some (.inl ((x29, r39.2, (x30 ++ ([r39.1]))))))))) else (some (.inr x30)))
noncomputable def impl_prime_partials (a0 : Int) (a1 : (List Int)) (a2 : (List Int)) : Option (List (List Int)) :=
  (Option.bind (α := (List (List Int))) ((loopM (fun s : ((List Int) × (List Int) × (List (List Int))) => impl_prime_partials_l1 a0 s.1 s.2.1 s.2.2) (a1, a2, []))) fun x20 => (some x20))
set_option maxHeartbeats 16000000 in
theorem impl_prime_partials_ok (a0 : Int) (a1 : (List Int)) (a2 : (List Int)) (r : (List (List Int))) (h : impl_prime_partials a0 a1 a2 = some r) : Den Try.prog 71 [(.int .i64 a0), (eSi64 a1), (eSi64 a2)] { r := (eSSi64 r) } := by
  refine den_of (rs := [(eSSi64 r)]) (ac := impl_prime_partials_c) (L := impl_prime_partials_L) (n := 27) (m := [(1, 1), (2, 1), (6, 1), (7, 2), (8, 1), (9, 1)]) good Try.func71 impl_prime_partials_body (by kernel_rfl) Try.ntmps71 rfl rfl impl_prime_partials_strip rfl rfl ?_
  refine a_st (σ' := ⟨[(0, (.int .i64 a0)), (1, (eSi64 a1)), (2, (eSi64 a2))], []⟩) (by kernel_rfl) ?_
  unfold impl_prime_partials_c
  refine a_seq ?_
  refine a_region ?_
  refine a_val (v := (eSSi64 ([]))) (u := []) rfl trivial rfl ?_
  refine a_nil ?_
  refine a_next (σ' := ⟨[(0, (.int .i64 a0)), (1, (eSi64 a1)), (2, (eSi64 a2))], []⟩) (by kernel_rfl) ?_
  refine a_seq ?_
  refine a_region ?_
  refine a_val (v := (.osl 1700)) (u := [(1700, some ⟨(.row 1 (([]).map eSi64)), false⟩)]) rfl trivial rfl ?_
  refine a_nil ?_
  refine a_next (σ' := ⟨[(0, (.int .i64 a0)), (1, (eSi64 a1)), (2, (eSi64 a2)), (7, (.osl 7))], [(7, some ⟨(.row 1 (([]).map eSi64)), false⟩)]⟩) (by kernel_rfl) ?_
  obtain ⟨y21, hy22, hk23⟩ := bind_some h
  clear h
  refine a_join (emb := fun (s : (List (List Int))) => ⟨[(7, (.osl 7))], [(7, some ⟨(.row 1 (s.map eSi64)), false⟩)]⟩) (pre := fun s => s = y21) ?_ ?_
  · rintro x20 rfl
    have h := hk23
    refine a_st (σ' := ⟨[(7, (.osl 7))], [(7, some ⟨(.row 1 (x20.map eSi64)), false⟩)]⟩) (by kernel_rfl) ?_
    refine a_seq ?_
    refine a_region ?_
    refine a_val (v := (.osl 7)) (u := []) rfl trivial rfl ?_
    refine a_val (v := (eSSi64 x20)) (u := [(7, some ⟨(.row 1 (x20.map eSi64)), true⟩)]) rfl trivial rfl ?_
    refine a_nil ?_
    refine a_next rfl ?_
    refine a_ret ?_
    refine ⟨.inr rfl, ?_⟩
    rw [Try.results71]
    cases h
    exact ⟨_, _, _, _, _, rfl, trivial, .inl ⟨rfl, .inl rfl⟩, rfl, rfl⟩
  · have h := hy22
    refine a_block ?_
    refine a_loop (emb := fun (s : ((List Int) × (List Int) × (List (List Int)))) => ⟨[(0, (.int .i64 a0)), (1, (eSi64 s.1)), (2, (eSi64 s.2.1)), (7, (.osl 7))], [(7, some ⟨(.row 1 (s.2.2.map eSi64)), false⟩)]⟩) (body := (fun s : ((List Int) × (List Int) × (List (List Int))) => impl_prime_partials_l1 a0 s.1 s.2.1 s.2.2)) (G := fun q => some q = some y21) h rfl ?_ (by kernel_rfl)
    rintro X35 ⟨x28, x29, x30⟩ x36 h hX37
    have h : impl_prime_partials_l1 a0 x28 x29 x30 = some x36 := h
    refine a_st (σ' := ⟨[(0, (.int .i64 a0)), (1, (eSi64 x28)), (2, (eSi64 x29)), (7, (.osl 7))], [(7, some ⟨(.row 1 (x30.map eSi64)), false⟩)]⟩) (by kernel_rfl) ?_
    refine a_seq ?_
    refine a_seq ?_
    refine a_region ?_
    refine a_val (v := (eSi64 x29)) (u := []) rfl trivial rfl ?_
    refine a_val (v := (.int .i64 (x29.length : Int))) (u := []) (len_run rfl rfl) trivial rfl ?_
    refine a_val (v := (.bool ((decide ((x29.length : Int) > 0))))) (u := []) rfl trivial rfl ?_
    refine a_nil ?_
    refine a_next (σ' := ⟨[(0, (.int .i64 a0)), (1, (eSi64 x28)), (2, (eSi64 x29)), (7, (.osl 7)), (12, (.bool ((decide ((x29.length : Int) > 0)))))], [(7, some ⟨(.row 1 (x30.map eSi64)), false⟩)]⟩) (by kernel_rfl) ?_
    cases hb38 : (decide ((x29.length : Int) > 0))
    · have h := ite_f hb38 h
      refine a_cond_f rfl ?_
      refine a_exit ?_
      refine t_exit ?_
      cases h
      have h := hX37
      refine t_exit ?_
      refine b_exit ?_
      exact j_leaf x30 (Option.some.inj h) (by kernel_rfl)
    · have h := ite_t hb38 h
      refine a_cond_t rfl ?_
      refine a_skip ?_
      refine a_next (σ' := ⟨[(0, (.int .i64 a0)), (1, (eSi64 x28)), (2, (eSi64 x29)), (7, (.osl 7))], [(7, some ⟨(.row 1 (x30.map eSi64)), false⟩)]⟩) (by kernel_rfl) ?_
      refine a_block ?_
      refine a_seq ?_
      refine a_region ?_
      refine a_val (v := (.int .i64 a0)) (u := []) rfl trivial rfl ?_
      refine a_val (v := (eSi64 x28)) (u := []) rfl trivial rfl ?_
      refine a_val (v := (eSi64 x29)) (u := []) rfl trivial rfl ?_
      obtain ⟨r39, hr40, h⟩ := bind_some h
      refine a_call (args := [(.int .i64 a0), (eSi64 x28), (eSi64 x29)]) (u := []) (r := (.tuple [(eSi64 r39.1), (eSi64 r39.2)])) rfl rfl (impl_prime_divide_ok a0 x28 x29 r39 hr40) rfl ?_
      refine a_val (v := (.tuple [(eSi64 r39.1), (eSi64 r39.2)])) (u := []) rfl trivial rfl ?_
      refine a_val (v := (eSi64 r39.1)) (u := []) rfl (Nat.le_of_ble_eq_true rfl) rfl ?_
      refine a_val (v := (eSi64 r39.2)) (u := []) rfl (Nat.le_of_ble_eq_true rfl) rfl ?_
      refine a_val (v := (eSi64 r39.1)) (u := []) rfl trivial rfl ?_
      refine a_val (v := (eSi64 r39.2)) (u := []) rfl trivial rfl ?_
      refine a_nil ?_
      refine a_next (σ' := ⟨[(0, (.int .i64 a0)), (2, (eSi64 x29)), (7, (.osl 7)), (8, (eSi64 r39.1)), (9, (eSi64 r39.2))], [(7, some ⟨(.row 1 (x30.map eSi64)), false⟩)]⟩) (by kernel_rfl) ?_
      refine a_seq ?_
      refine a_region ?_
      refine a_val (v := (.osl 7)) (u := []) rfl trivial rfl ?_
      refine a_val (v := (eSi64 r39.1)) (u := []) rfl trivial rfl ?_
      refine a_val (v := (.sl 1 true (([r39.1]).map eSi64))) (u := []) rfl ⟨(Nat.le_of_ble_eq_true rfl), (Nat.le_of_ble_eq_true rfl), (all_cons ⟨(Nat.le_of_ble_eq_true rfl), rfl⟩ all_nil)⟩ rfl ?_
      obtain ⟨hc41, h⟩ := ifp_some h
      refine a_val (v := (.osl 3300)) (u := [(3300, some ⟨(.row 1 (((x30 ++ ([r39.1]))).map eSi64)), false⟩), (7, none)]) (app_run (i := ⟨.slice 2, 1, 24, (eSi64 [])⟩) (f := eSi64) (l := x30) (l2 := [r39.1]) rfl rfl rfl rfl (fun _ => rfl) rfl rfl) (app_c (f := eSi64) (s := 1) (sz := 1) (by' := 24) (u := []) (id := 7) hc41 (.inr rfl) rfl rfl rfl) rfl ?_
      refine a_val (v := (.osl 3300)) (u := []) rfl trivial rfl ?_
      refine a_nil ?_
      refine a_next (σ' := ⟨[(0, (.int .i64 a0)), (2, (eSi64 x29)), (7, (.osl 7)), (9, (eSi64 r39.2))], [(7, some ⟨(.row 1 (((x30 ++ ([r39.1]))).map eSi64)), false⟩)]⟩) (by kernel_rfl) ?_
      refine a_region ?_
      refine a_val (v := (eSi64 x29)) (u := []) rfl trivial rfl ?_
      refine a_val (v := (eSi64 r39.2)) (u := []) rfl trivial rfl ?_
      refine a_val (v := (eSi64 x29)) (u := []) rfl trivial rfl ?_
      refine a_val (v := (eSi64 r39.2)) (u := []) rfl trivial rfl ?_
      refine a_nil ?_
      refine b_norm ?_
      cases h
      exact a_again (by kernel_rfl) hX37
def impl_prime_times_c : ACode := (.seq (.region 0 [⟨some 6, .asg 1 (.const (.slice none 0 0)) 64, none, []⟩] false) (.seq (.seq (.region 1 [⟨some 14, .mov (.tmp 1), none, []⟩, ⟨some 15, .blt 0 .len [(.tmp 14)] [64], none, []⟩, ⟨some 16, .bin .eql 3 (.tmp 15) (.const (.int .i64 0)), none, []⟩, ⟨some 17, .mov (.tmp 16), none, []⟩, ⟨some 18, .mov (.tmp 2), some (17, false), []⟩, ⟨some 19, .blt 0 .len [(.tmp 18)] [64], some (17, false), []⟩, ⟨some 20, .bin .eql 3 (.tmp 19) (.const (.int .i64 0)), some (17, false), []⟩, ⟨some 21, .pick (.tmp 17) (.const (.bool true)) (.tmp 20), none, []⟩] false) (.cond (.tmp 21) (.seq (.region 2 [⟨some 6, .asg 1 (.const (.slice none 0 0)) 64, none, []⟩] false) .ret) .skip)) (.seq (.region 3 [⟨some 22, .mov (.tmp 1), none, []⟩, ⟨some 23, .blt 0 .len [(.tmp 22)] [64], none, []⟩, ⟨some 24, .mov (.tmp 2), none, []⟩, ⟨some 25, .blt 0 .len [(.tmp 24)] [64], none, []⟩, ⟨some 26, .bin .add 3 (.tmp 23) (.tmp 25), none, []⟩, ⟨some 27, .bin .sub 3 (.tmp 26) (.const (.int .i64 1)), none, []⟩, ⟨some 28, .mkslice 64 (.tmp 27) (.tmp 27), none, []⟩, ⟨some 7, .asg 2 (.tmp 28) 64, none, []⟩] false) (.seq (.seq (.region 4 [⟨some 29, .mov (.tmp 1), none, []⟩, ⟨some 30, .blt 0 .len [(.tmp 29)] [64], none, []⟩, ⟨some 31, .mov (.const (.int .i64 0)), none, []⟩] false) (.block 0 (.loop (.seq (.region 5 [⟨some 32, .bin .lss 3 (.tmp 31) (.tmp 30), none, []⟩] false) (.seq (.cond (.tmp 32) .skip (.exit 0)) (.seq (.block 1 (.seq (.region 6 [⟨some 33, .mov (.tmp 31), none, []⟩, ⟨some 34, .indexAddr 64 (.tmp 29) (.tmp 31), none, []⟩, ⟨some 35, .load 2 (.tmp 34), none, []⟩, ⟨some 8, .asg 0 (.tmp 33) 3, none, []⟩, ⟨some 9, .asg 0 (.tmp 35) 2, none, []⟩] false) (.seq (.region 7 [⟨some 36, .mov (.tmp 2), none, []⟩, ⟨some 37, .blt 0 .len [(.tmp 36)] [64], none, []⟩, ⟨some 38, .mov (.const (.int .i64 0)), none, []⟩] false) (.block 2 (.loop (.seq (.region 8 [⟨some 39, .bin .lss 3 (.tmp 38) (.tmp 37), none, []⟩] false) (.seq (.cond (.tmp 39) .skip (.exit 2)) (.seq (.block 3 (.seq (.region 9 [⟨some 40, .mov (.tmp 38), none, []⟩, ⟨some 41, .indexAddr 64 (.tmp 36) (.tmp 38), none, []⟩, ⟨some 42, .load 2 (.tmp 41), none, []⟩, ⟨some 10, .asg 0 (.tmp 40) 3, none, []⟩, ⟨some 11, .asg 0 (.tmp 42) 2, none, []⟩] false) (.region 10 [⟨some 43, .mov (.tmp 7), none, []⟩, ⟨some 44, .mov (.tmp 8), none, []⟩, ⟨some 45, .mov (.tmp 10), none, []⟩, ⟨some 46, .bin .add 3 (.tmp 44) (.tmp 45), none, []⟩, ⟨some 47, .indexAddr 64 (.tmp 43) (.tmp 46), none, []⟩, ⟨some 48, .load 2 (.tmp 47), none, []⟩, ⟨some 49, .mov (.tmp 9), none, []⟩, ⟨some 50, .mov (.tmp 11), none, []⟩, ⟨some 51, .bin .mul 2 (.tmp 49) (.tmp 50), none, []⟩, ⟨some 52, .bin .add 2 (.tmp 48) (.tmp 51), none, []⟩, ⟨some 53, .indexAddr 64 (.tmp 43) (.tmp 46), none, []⟩, ⟨none, .store 2 (.tmp 53) (.tmp 52), none, []⟩] false))) (.region 11 [⟨some 54, .bin .add 3 (.tmp 38) (.const (.int .i64 1)), none, []⟩, ⟨some 38, .mov (.tmp 54), none, []⟩] false))))))))) (.region 12 [⟨some 55, .bin .add 3 (.tmp 31) (.const (.int .i64 1)), none, []⟩, ⟨some 31, .mov (.tmp 55), none, []⟩] false))))))) (.seq (.seq (.region 13 [⟨some 56, .mov (.tmp 7), none, []⟩, ⟨some 57, .blt 0 .len [(.tmp 56)] [64], none, []⟩, ⟨some 58, .mov (.const (.int .i64 0)), none, []⟩] false) (.block 4 (.loop (.seq (.region 14 [⟨some 59, .bin .lss 3 (.tmp 58) (.tmp 57), none, []⟩] false) (.seq (.cond (.tmp 59) .skip (.exit 4)) (.seq (.block 5 (.seq (.region 15 [⟨some 60, .mov (.tmp 58), none, []⟩, ⟨some 61, .indexAddr 64 (.tmp 56) (.tmp 58), none, []⟩, ⟨some 62, .load 2 (.tmp 61), none, []⟩, ⟨some 12, .asg 0 (.tmp 60) 3, none, []⟩, ⟨some 13, .asg 0 (.tmp 62) 2, none, []⟩] false) (.region 16 [⟨some 63, .mov (.tmp 7), none, []⟩, ⟨some 64, .mov (.tmp 12), none, []⟩, ⟨some 65, .mov (.tmp 13), none, []⟩, ⟨some 66, .mov (.tmp 0), none, []⟩, ⟨some 67, .bin .rem 2 (.tmp 65) (.tmp 66), none, []⟩, ⟨some 68, .indexAddr 64 (.tmp 63) (.tmp 64), none, []⟩, ⟨none, .store 2 (.tmp 68) (.tmp 67), none, []⟩] false))) (.region 17 [⟨some 69, .bin .add 3 (.tmp 58) (.const (.int .i64 1)), none, []⟩, ⟨some 58, .mov (.tmp 69), none, []⟩] false))))))) (.seq (.region 18 [⟨some 70, .mov (.tmp 7), none, []⟩, ⟨some 71, .call 0 (.func 111) [(.tmp 70)], none, []⟩, ⟨some 6, .asg 1 (.tmp 71) 64, none, []⟩] false) .ret))))))
def impl_prime_times_L : Live := [(0, [0, 1, 2]), (1, [0, 1, 2]), (2, []), (3, [0, 1, 2]), (4, [0, 1, 2, 7]), (5, [0, 2, 7, 29, 30, 31]), (6, [0, 2, 7, 29, 30, 31]), (7, [0, 2, 7, 8, 9, 29, 30, 31]), (8, [0, 2, 7, 8, 9, 29, 30, 31, 36, 37, 38]), (9, [0, 2, 7, 8, 9, 29, 30, 31, 36, 37, 38]), (10, [0, 2, 7, 8, 9, 10, 11, 29, 30, 31, 36, 37, 38]), (11, [0, 2, 7, 8, 9, 29, 30, 31, 36, 37, 38]), (12, [0, 2, 7, 29, 30, 31]), (13, [0, 7]), (14, [0, 7, 56, 57, 58]), (15, [0, 7, 56, 57, 58]), (16, [0, 7, 12, 13, 56, 57, 58]), (17, [0, 7, 56, 57, 58]), (18, [7]), (100021, [0, 1, 2, 21]), (100032, [0, 2, 7, 29, 30, 31, 32]), (100039, [0, 2, 7, 8, 9, 29, 30, 31, 36, 37, 38, 39]), (100059, [0, 7, 56, 57, 58, 59])]
theorem impl_prime_times_body : Try.f59.body = some (Try.f59.body.getD .skip) := by kernel_rfl
theorem impl_prime_times_strip : strip [(6, 1), (7, 2)] (Try.f59.body.getD .skip) = impl_prime_times_c := by kernel_rfl
noncomputable def impl_prime_times_l2 (a2 : (List Int)) (x353 : Int) (a1 : (List Int)) (x492 : Int) (x493 : (List Int)) : Option ((Int × (List Int)) ⊕ (List Int)) :=
  (if (decide (x492 < (a2.length : Int))) then (ifp (0 ≤ x492 ∧ x492 < ((a2.length : Nat) : Int)) ((ifp (0 ≤ IntKind.i64.wrap (x353 + x492) ∧ IntKind.i64.wrap (x353 + x492) < ((x493.length : Nat) : Int)) ((letp (IntKind.i64.wrap (((rd x493 (IntKind.i64.wrap (x353 + x492)).toNat)) + (IntKind.i64.wrap ((rd a1 x353.toNat) * (rd a2 x492.toNat))))) fun x511 => (ifp (0 ≤ IntKind.i64.wrap (x353 + x492) ∧ IntKind.i64.wrap (x353 + x492) < ((x493.length : Nat) : Int)) ((some (.inl ((IntKind.i64.wrap (x492 + 1), (x493.set (IntKind.i64.wrap (x353 + x492)).toNat x511)))))))))))) else (some (.inr x493)))
noncomputable def impl_prime_times_l1 (a1 : (List Int)) (a2 : (List Int)) (x353 : Int) (x354 : (List Int)) : Option ((Int × (List Int)) ⊕ (List Int)) :=
  (if (decide (x353 < (a1.length : Int))) then (Option.bind (α := (List Int)) ((ifp (0 ≤ x353 ∧ x353 < ((a1.length : Nat) : Int)) ((loopM (fun s : (Int × (List Int)) => impl_prime_times_l2 a2 x353 a1 s.1 s.2) (0, x354))))) fun x475 => (some (.inl ((IntKind.i64.wrap (x353 + 1), x475))))) else (some (.inr x354)))
noncomputable def impl_prime_times_l3 (x262 : (List Int)) (a0 : Int) (x551 : Int) (x552 : (List Int)) : Option ((Int × (List Int)) ⊕ (List Int)) :=
  (if (decide (x551 < (x262.length : Int))) then (ifp (0 ≤ x551 ∧ x551 < ((x552.length : Nat) : Int)) ((ifp (a0 ≠ 0) ((ifp (0 ≤ x551 ∧ x551 < ((x552.length : Nat) : Int)) ((some (.inl ((IntKind.i64.wrap (x551 + 1), (x552.set x551.toNat (Int.tmod (rd x552 x551.toNat) a0)))))))))))) else (some (.inr x552)))
noncomputable def impl_prime_times (a0 : Int) (a1 : (List Int)) (a2 : (List Int)) : Option (List Int) :=
  (Option.bind (α := Bool) ((if ((a1.length : Int) == 0) then (some true) else (some (((a2.length : Int) == 0))))) fun x2 => (if x2 then (some ([])) else (letp (IntKind.i64.wrap ((IntKind.i64.wrap ((a1.length : Int) + (a2.length : Int))) - 1)) fun x8 => (ifp (0 ≤ x8 ∧ x8 ≤ 140737488355328 ∧ 8 * x8 ≤ 140737488355328) ((Option.bind (α := (List Int)) ((loopM (fun s : (Int × (List Int)) => impl_prime_times_l1 a1 a2 s.1 s.2) (0, List.replicate x8.toNat (0 : Int)))) fun x262 => (Option.bind (α := (List Int)) ((loopM (fun s : (Int × (List Int)) => impl_prime_times_l3 x262 a0 s.1 s.2) (0, x262))) fun x541 => (Option.bind (impl_row_trimmed x541) fun r569 => (some r569)))))))))
set_option maxHeartbeats 16000000 in
theorem impl_prime_times_ok (a0 : Int) (a1 : (List Int)) (a2 : (List Int)) (r : (List Int)) (h : impl_prime_times a0 a1 a2 = some r) : Den Try.prog 59 [(.int .i64 a0), (eSi64 a1), (eSi64 a2)] { r := (eSi64 r) } := by
  refine den_of (rs := [(eSi64 r)]) (ac := impl_prime_times_c) (L := impl_prime_times_L) (n := 72) (m := [(6, 1), (7, 2)]) good Try.func59 impl_prime_times_body (by kernel_rfl) Try.ntmps59 rfl rfl impl_prime_times_strip rfl rfl ?_
  refine a_st (σ' := ⟨[(0, (.int .i64 a0)), (1, (eSi64 a1)), (2, (eSi64 a2))], []⟩) (by kernel_rfl) ?_
  unfold impl_prime_times_c
  refine a_seq ?_
  refine a_region ?_
  refine a_val (v := (eSi64 ([]))) (u := []) rfl trivial rfl ?_
  refine a_nil ?_
  refine a_next (σ' := ⟨[(0, (.int .i64 a0)), (1, (eSi64 a1)), (2, (eSi64 a2))], []⟩) (by kernel_rfl) ?_
  refine a_seq ?_
  obtain ⟨y3, hy4, hk5⟩ := bind_some h
  clear h
  refine a_join (emb := fun (s : Bool) => ⟨[(0, (.int .i64 a0)), (1, (eSi64 a1)), (2, (eSi64 a2)), (21, (.bool s))], []⟩) (pre := fun s => s = y3) ?_ ?_
  · rintro x2 rfl
    have h := hk5
    refine a_st (σ' := ⟨[(0, (.int .i64 a0)), (1, (eSi64 a1)), (2, (eSi64 a2)), (21, (.bool x2))], []⟩) (by kernel_rfl) ?_
    cases hb7 : x2
    · have h := ite_f hb7 h
      refine a_cond_f rfl ?_
      refine a_skip ?_
      refine a_next (σ' := ⟨[(0, (.int .i64 a0)), (1, (eSi64 a1)), (2, (eSi64 a2))], []⟩) (by kernel_rfl) ?_
      refine a_seq ?_
      refine a_region ?_
      refine a_val (v := (eSi64 a1)) (u := []) rfl trivial rfl ?_
      refine a_val (v := (.int .i64 (a1.length : Int))) (u := []) (len_run rfl rfl) trivial rfl ?_
      refine a_val (v := (eSi64 a2)) (u := []) rfl trivial rfl ?_
      refine a_val (v := (.int .i64 (a2.length : Int))) (u := []) (len_run rfl rfl) trivial rfl ?_
      refine a_val (v := (.int .i64 (IntKind.i64.wrap ((a1.length : Int) + (a2.length : Int))))) (u := []) rfl trivial rfl ?_
      obtain ⟨x8, hx9, h⟩ := letp_some h
      refine a_val' (v := (.int .i64 (IntKind.i64.wrap ((IntKind.i64.wrap ((a1.length : Int) + (a2.length : Int))) - 1)))) (v' := (.int .i64 x8)) (u := []) (u' := []) rfl (congrArg (fun z => ((.int .i64 z) : AV)) hx9) rfl trivial rfl ?_
      obtain ⟨hc10, h⟩ := ifp_some h
      refine a_val (v := (.osl 3800)) (u := [(3800, some ⟨(.row 1 ((List.replicate x8.toNat (0 : Int)).map (AV.int .i64))), false⟩)]) (mk_run (i := ⟨.int .i64, 1, 8, (.int .i64 0)⟩) (f := (AV.int .i64)) (y := (0 : Int)) rfl rfl rfl rfl rfl rfl) ⟨rfl, hc10.1, hc10.2.1, hc10.2.2, (Nat.le_of_ble_eq_true rfl)⟩ rfl ?_
      refine a_val (v := (.osl 3800)) (u := []) rfl trivial rfl ?_
      refine a_nil ?_
      refine a_next (σ' := ⟨[(0, (.int .i64 a0)), (1, (eSi64 a1)), (2, (eSi64 a2)), (7, (.osl 7))], [(7, some ⟨(.row 1 ((List.replicate x8.toNat (0 : Int)).map (AV.int .i64))), false⟩)]⟩) (by kernel_rfl) ?_
      obtain ⟨y263, hy264, hk265⟩ := bind_some h
      clear h
      refine a_join (emb := fun (s : (List Int)) => ⟨[(0, (.int .i64 a0)), (7, (.osl 7))], [(7, some ⟨(.row 1 (s.map (AV.int .i64))), false⟩)]⟩) (pre := fun s => s = y263) ?_ ?_
      · rintro x262 rfl
        have h := hk265
        refine a_st (σ' := ⟨[(0, (.int .i64 a0)), (7, (.osl 7))], [(7, some ⟨(.row 1 (x262.map (AV.int .i64))), false⟩)]⟩) (by kernel_rfl) ?_
        obtain ⟨y542, hy543, hk544⟩ := bind_some h
        clear h
        refine a_join (emb := fun (s : (List Int)) => ⟨[(7, (.osl 7))], [(7, some ⟨(.row 1 (s.map (AV.int .i64))), false⟩)]⟩) (pre := fun s => s = y542) ?_ ?_
        · rintro x541 rfl
          have h := hk544
          refine a_st (σ' := ⟨[(7, (.osl 7))], [(7, some ⟨(.row 1 (x541.map (AV.int .i64))), false⟩)]⟩) (by kernel_rfl) ?_
          refine a_seq ?_
          refine a_region ?_
          refine a_val (v := (.osl 7)) (u := []) rfl trivial rfl ?_
          obtain ⟨r569, hr570, h⟩ := bind_some h
          refine a_call (args := [(eSi64 x541)]) (u := [(7, some ⟨(.row 1 (x541.map (AV.int .i64))), true⟩)]) (r := (eSi64 r569)) rfl rfl (impl_row_trimmed_ok x541 r569 hr570) rfl ?_
          refine a_val (v := (eSi64 r569)) (u := []) rfl trivial rfl ?_
          refine a_nil ?_
          refine a_next rfl ?_
          refine a_ret ?_
          refine ⟨.inr rfl, ?_⟩
          rw [Try.results59]
          cases h
          exact ⟨_, _, _, _, _, rfl, trivial, .inl ⟨rfl, .inl rfl⟩, rfl, rfl⟩
        · have h := hy543
          refine a_seq ?_
          refine a_region ?_
          refine a_val (v := (.osl 7)) (u := []) rfl trivial rfl ?_
          refine a_val (v := (.int .i64 (x262.length : Int))) (u := []) (leno_run rfl rfl rfl) trivial rfl ?_
          refine a_val (v := (.int .i64 0)) (u := []) rfl trivial rfl ?_
          refine a_nil ?_
          refine a_next (σ' := ⟨[(0, (.int .i64 a0)), (7, (.osl 7)), (56, (.osl 7)), (57, (.int .i64 (x262.length : Int))), (58, (.int .i64 0))], [(7, some ⟨(.row 1 (x262.map (AV.int .i64))), false⟩)]⟩) (by kernel_rfl) ?_
          refine a_block ?_
          refine a_loop (emb := fun (s : (Int × (List Int))) => ⟨[(0, (.int .i64 a0)), (7, (.osl 7)), (56, (.osl 7)), (57, (.int .i64 (x262.length : Int))), (58, (.int .i64 s.1))], [(7, some ⟨(.row 1 (s.2.map (AV.int .i64))), false⟩)]⟩) (body := (fun s : (Int × (List Int)) => impl_prime_times_l3 x262 a0 s.1 s.2)) (G := fun q => some q = some y542) h rfl ?_ (by kernel_rfl)
          rintro X559 ⟨x551, x552⟩ x560 h hX561
          have h : impl_prime_times_l3 x262 a0 x551 x552 = some x560 := h
          refine a_st (σ' := ⟨[(0, (.int .i64 a0)), (7, (.osl 7)), (56, (.osl 7)), (57, (.int .i64 (x262.length : Int))), (58, (.int .i64 x551))], [(7, some ⟨(.row 1 (x552.map (AV.int .i64))), false⟩)]⟩) (by kernel_rfl) ?_
          refine a_seq ?_
          refine a_region ?_
          refine a_val (v := (.bool ((decide (x551 < (x262.length : Int)))))) (u := []) rfl trivial rfl ?_
          refine a_nil ?_
          refine a_next (σ' := ⟨[(0, (.int .i64 a0)), (7, (.osl 7)), (56, (.osl 7)), (57, (.int .i64 (x262.length : Int))), (58, (.int .i64 x551)), (59, (.bool ((decide (x551 < (x262.length : Int))))))], [(7, some ⟨(.row 1 (x552.map (AV.int .i64))), false⟩)]⟩) (by kernel_rfl) ?_
          refine a_seq ?_
          cases hb562 : (decide (x551 < (x262.length : Int)))
          · have h := ite_f hb562 h
            refine a_cond_f rfl ?_
            refine a_exit ?_
            refine t_exit ?_
            cases h
            have h := hX561
            refine t_exit ?_
            refine b_exit ?_
            exact j_leaf x552 (Option.some.inj h) (by kernel_rfl)
          · have h := ite_t hb562 h
            refine a_cond_t rfl ?_
            refine a_skip ?_
            refine a_next (σ' := ⟨[(0, (.int .i64 a0)), (7, (.osl 7)), (56, (.osl 7)), (57, (.int .i64 (x262.length : Int))), (58, (.int .i64 x551))], [(7, some ⟨(.row 1 (x552.map (AV.int .i64))), false⟩)]⟩) (by kernel_rfl) ?_
            refine a_seq ?_
            refine a_block ?_
            refine a_seq ?_
            refine a_region ?_
            refine a_val (v := (.int .i64 x551)) (u := []) rfl trivial rfl ?_
            obtain ⟨hc563, h⟩ := ifp_some h
            refine a_val (v := (.own 7 [x551.toNat] [x551.toNat * 1])) (u := []) rfl (lmap hc563) rfl ?_
            have hl564 : LdOk [x551.toNat] (.row 1 (x552.map (AV.int .i64))) [x551.toNat * 1] 1 false (.int .i64 (rd x552 x551.toNat)) := (.row (llt hc563) rfl (.nil rfl rfl rfl))
            refine a_val (v := (.int .i64 (rd x552 x551.toNat))) (u := []) (ld_own (i := ⟨.int .i64, 1, 8, (.int .i64 0)⟩) rfl rfl rfl hl564) hl564.c rfl ?_
            refine a_val (v := (.int .i64 x551)) (u := []) rfl trivial rfl ?_
            refine a_val (v := (.int .i64 (rd x552 x551.toNat))) (u := []) rfl trivial rfl ?_
            refine a_nil ?_
            refine a_next (σ' := ⟨[(0, (.int .i64 a0)), (7, (.osl 7)), (12, (.int .i64 x551)), (13, (.int .i64 (rd x552 x551.toNat))), (56, (.osl 7)), (57, (.int .i64 (x262.length : Int))), (58, (.int .i64 x551))], [(7, some ⟨(.row 1 (x552.map (AV.int .i64))), false⟩)]⟩) (by kernel_rfl) ?_
            refine a_region ?_
            refine a_val (v := (.osl 7)) (u := []) rfl trivial rfl ?_
            refine a_val (v := (.int .i64 x551)) (u := []) rfl trivial rfl ?_
            refine a_val (v := (.int .i64 (rd x552 x551.toNat))) (u := []) rfl trivial rfl ?_
            refine a_val (v := (.int .i64 a0)) (u := []) rfl trivial rfl ?_
            obtain ⟨hc565, h⟩ := ifp_some h
            refine a_val (v := (.int .i64 (Int.tmod (rd x552 x551.toNat) a0))) (u := []) rfl hc565 rfl ?_
            obtain ⟨hc566, h⟩ := ifp_some h
            refine a_val (v := (.own 7 [x551.toNat] [x551.toNat * 1])) (u := []) rfl (lmap hc566) rfl ?_
            have hs567 : StOk [x551.toNat] (.row 1 (x552.map (AV.int .i64))) [x551.toNat * 1] 1 (.int .i64 (Int.tmod (rd x552 x551.toNat) a0)) (.row 1 (((x552.set x551.toNat (Int.tmod (rd x552 x551.toNat) a0))).map (AV.int .i64))) := (.row (y := Int.tmod (rd x552 x551.toNat) a0) (llt hc566) rfl (.nil rfl rfl rfl rfl))
            refine a_val (v := .top) (u := [(7, some ⟨(.row 1 (((x552.set x551.toNat (Int.tmod (rd x552 x551.toNat) a0))).map (AV.int .i64))), false⟩)]) (st_own (i := ⟨.int .i64, 1, 8, (.int .i64 0)⟩) rfl rfl (fun _ => rfl) rfl hs567) (hs567.c rfl) rfl ?_
            refine a_nil ?_
            refine b_norm ?_
            refine a_next (σ' := ⟨[(0, (.int .i64 a0)), (7, (.osl 7)), (56, (.osl 7)), (57, (.int .i64 (x262.length : Int))), (58, (.int .i64 x551))], [(7, some ⟨(.row 1 (((x552.set x551.toNat (Int.tmod (rd x552 x551.toNat) a0))).map (AV.int .i64))), false⟩)]⟩) (by kernel_rfl) ?_
            refine a_region ?_
            refine a_val (v := (.int .i64 (IntKind.i64.wrap (x551 + 1)))) (u := []) rfl trivial rfl ?_
            refine a_val (v := (.int .i64 (IntKind.i64.wrap (x551 + 1)))) (u := []) rfl trivial rfl ?_
            refine a_nil ?_
            cases h
            exact a_again (by kernel_rfl) hX561
      · have h := hy264
        refine a_seq ?_
        refine a_region ?_
        refine a_val (v := (eSi64 a1)) (u := []) rfl trivial rfl ?_
        refine a_val (v := (.int .i64 (a1.length : Int))) (u := []) (len_run rfl rfl) trivial rfl ?_
        refine a_val (v := (.int .i64 0)) (u := []) rfl trivial rfl ?_
        refine a_nil ?_
        refine a_next (σ' := ⟨[(0, (.int .i64 a0)), (2, (eSi64 a2)), (7, (.osl 7)), (29, (eSi64 a1)), (30, (.int .i64 (a1.length : Int))), (31, (.int .i64 0))], [(7, some ⟨(.row 1 ((List.replicate x8.toNat (0 : Int)).map (AV.int .i64))), false⟩)]⟩) (by kernel_rfl) ?_
        refine a_block ?_
        refine a_loop (emb := fun (s : (Int × (List Int))) => ⟨[(0, (.int .i64 a0)), (2, (eSi64 a2)), (7, (.osl 7)), (29, (eSi64 a1)), (30, (.int .i64 (a1.length : Int))), (31, (.int .i64 s.1))], [(7, some ⟨(.row 1 (s.2.map (AV.int .i64))), false⟩)]⟩) (body := (fun s : (Int × (List Int)) => impl_prime_times_l1 a1 a2 s.1 s.2)) (G := fun q => some q = some y263) h rfl ?_ (by kernel_rfl)
        rintro X434 ⟨x353, x354⟩ x435 h hX436
        have h : impl_prime_times_l1 a1 a2 x353 x354 = some x435 := h
        refine a_st (σ' := ⟨[(0, (.int .i64 a0)), (2, (eSi64 a2)), (7, (.osl 7)), (29, (eSi64 a1)), (30, (.int .i64 (a1.length : Int))), (31, (.int .i64 x353))], [(7, some ⟨(.row 1 (x354.map (AV.int .i64))), false⟩)]⟩) (by kernel_rfl) ?_
        refine a_seq ?_
        refine a_region ?_
        refine a_val (v := (.bool ((decide (x353 < (a1.length : Int)))))) (u := []) rfl trivial rfl ?_
        refine a_nil ?_
        refine a_next (σ' := ⟨[(0, (.int .i64 a0)), (2, (eSi64 a2)), (7, (.osl 7)), (29, (eSi64 a1)), (30, (.int .i64 (a1.length : Int))), (31, (.int .i64 x353)), (32, (.bool ((decide (x353 < (a1.length : Int))))))], [(7, some ⟨(.row 1 (x354.map (AV.int .i64))), false⟩)]⟩) (by kernel_rfl) ?_
        refine a_seq ?_
        cases hb437 : (decide (x353 < (a1.length : Int)))
        · have h := ite_f hb437 h
          refine a_cond_f rfl ?_
          refine a_exit ?_
          refine t_exit ?_
          cases h
          have h := hX436
          refine t_exit ?_
          refine b_exit ?_
          exact j_leaf x354 (Option.some.inj h) (by kernel_rfl)
        · have h := ite_t hb437 h
          refine a_cond_t rfl ?_
          refine a_skip ?_
          refine a_next (σ' := ⟨[(0, (.int .i64 a0)), (2, (eSi64 a2)), (7, (.osl 7)), (29, (eSi64 a1)), (30, (.int .i64 (a1.length : Int))), (31, (.int .i64 x353))], [(7, some ⟨(.row 1 (x354.map (AV.int .i64))), false⟩)]⟩) (by kernel_rfl) ?_
          obtain ⟨y476, hy477, hk478⟩ := bind_some h
          clear h
          refine a_join (emb := fun (s : (List Int)) => ⟨[(0, (.int .i64 a0)), (2, (eSi64 a2)), (7, (.osl 7)), (29, (eSi64 a1)), (30, (.int .i64 (a1.length : Int))), (31, (.int .i64 x353))], [(7, some ⟨(.row 1 (s.map (AV.int .i64))), false⟩)]⟩) (pre := fun s => s = y476) ?_ ?_
          · rintro x475 rfl
            have h := hk478
            refine a_st (σ' := ⟨[(0, (.int .i64 a0)), (2, (eSi64 a2)), (7, (.osl 7)), (29, (eSi64 a1)), (30, (.int .i64 (a1.length : Int))), (31, (.int .i64 x353))], [(7, some ⟨(.row 1 (x475.map (AV.int .i64))), false⟩)]⟩) (by kernel_rfl) ?_
            refine a_region ?_
            refine a_val (v := (.int .i64 (IntKind.i64.wrap (x353 + 1)))) (u := []) rfl trivial rfl ?_
            refine a_val (v := (.int .i64 (IntKind.i64.wrap (x353 + 1)))) (u := []) rfl trivial rfl ?_
            refine a_nil ?_
            cases h
            exact a_again (by kernel_rfl) hX436
          · have h := hy477
            refine a_block ?_
            refine a_seq ?_
            refine a_region ?_
            refine a_val (v := (.int .i64 x353)) (u := []) rfl trivial rfl ?_
            obtain ⟨hc479, h⟩ := ifp_some h
            refine a_val (v := (.ref (.row 1 (a1.map (AV.int .i64))) [x353.toNat] [x353.toNat * 1])) (u := []) rfl (lmap hc479) rfl ?_
            have hl480 : LdOk [x353.toNat] (.row 1 (a1.map (AV.int .i64))) [x353.toNat * 1] 1 false (.int .i64 (rd a1 x353.toNat)) := (.row (llt hc479) rfl (.nil rfl rfl rfl))
            refine a_val (v := (.int .i64 (rd a1 x353.toNat))) (u := []) (ld_ref (i := ⟨.int .i64, 1, 8, (.int .i64 0)⟩) rfl rfl hl480) hl480.c rfl ?_
            refine a_val (v := (.int .i64 x353)) (u := []) rfl trivial rfl ?_
            refine a_val (v := (.int .i64 (rd a1 x353.toNat))) (u := []) rfl trivial rfl ?_
            refine a_nil ?_
            refine a_next (σ' := ⟨[(0, (.int .i64 a0)), (2, (eSi64 a2)), (7, (.osl 7)), (8, (.int .i64 x353)), (9, (.int .i64 (rd a1 x353.toNat))), (29, (eSi64 a1)), (30, (.int .i64 (a1.length : Int))), (31, (.int .i64 x353))], [(7, some ⟨(.row 1 (x354.map (AV.int .i64))), false⟩)]⟩) (by kernel_rfl) ?_
            refine a_seq ?_
            refine a_region ?_
            refine a_val (v := (eSi64 a2)) (u := []) rfl trivial rfl ?_
            refine a_val (v := (.int .i64 (a2.length : Int))) (u := []) (len_run rfl rfl) trivial rfl ?_
            refine a_val (v := (.int .i64 0)) (u := []) rfl trivial rfl ?_
            refine a_nil ?_
            refine a_next (σ' := ⟨[(0, (.int .i64 a0)), (2, (eSi64 a2)), (7, (.osl 7)), (8, (.int .i64 x353)), (9, (.int .i64 (rd a1 x353.toNat))), (29, (eSi64 a1)), (30, (.int .i64 (a1.length : Int))), (31, (.int .i64 x353)), (36, (eSi64 a2)), (37, (.int .i64 (a2.length : Int))), (38, (.int .i64 0))], [(7, some ⟨(.row 1 (x354.map (AV.int .i64))), false⟩)]⟩) (by kernel_rfl) ?_
            refine a_block ?_
            refine a_loop (emb := fun (s : (Int × (List Int))) => ⟨[(0, (.int .i64 a0)), (2, (eSi64 a2)), (7, (.osl 7)), (8, (.int .i64 x353)), (9, (.int .i64 (rd a1 x353.toNat))), (29, (eSi64 a1)), (30, (.int .i64 (a1.length : Int))), (31, (.int .i64 x353)), (36, (eSi64 a2)), (37, (.int .i64 (a2.length : Int))), (38, (.int .i64 s.1))], [(7, some ⟨(.row 1 (s.2.map (AV.int .i64))), false⟩)]⟩) (body := (fun s : (Int × (List Int)) => impl_prime_times_l2 a2 x353 a1 s.1 s.2)) (G := fun q => some q = some y476) h rfl ?_ (by kernel_rfl)
            rintro X503 ⟨x492, x493⟩ x504 h hX505
            have h : impl_prime_times_l2 a2 x353 a1 x492 x493 = some x504 := h
            refine a_st (σ' := ⟨[(0, (.int .i64 a0)), (2, (eSi64 a2)), (7, (.osl 7)), (8, (.int .i64 x353)), (9, (.int .i64 (rd a1 x353.toNat))), (29, (eSi64 a1)), (30, (.int .i64 (a1.length : Int))), (31, (.int .i64 x353)), (36, (eSi64 a2)), (37, (.int .i64 (a2.length : Int))), (38, (.int .i64 x492))], [(7, some ⟨(.row 1 (x493.map (AV.int .i64))), false⟩)]⟩) (by kernel_rfl) ?_
            refine a_seq ?_
            refine a_region ?_
            refine a_val (v := (.bool ((decide (x492 < (a2.length : Int)))))) (u := []) rfl trivial rfl ?_
            refine a_nil ?_
            refine a_next (σ' := ⟨[(0, (.int .i64 a0)), (2, (eSi64 a2)), (7, (.osl 7)), (8, (.int .i64 x353)), (9, (.int .i64 (rd a1 x353.toNat))), (29, (eSi64 a1)), (30, (.int .i64 (a1.length : Int))), (31, (.int .i64 x353)), (36, (eSi64 a2)), (37, (.int .i64 (a2.length : Int))), (38, (.int .i64 x492)), (39, (.bool ((decide (x492 < (a2.length : Int))))))], [(7, some ⟨(.row 1 (x493.map (AV.int .i64))), false⟩)]⟩) (by kernel_rfl) ?_
            refine a_seq ?_
            cases hb506 : (decide (x492 < (a2.length : Int)))
            · have h := ite_f hb506 h
              refine a_cond_f rfl ?_
              refine a_exit ?_
              refine t_exit ?_
              cases h
              have h := hX505
              refine t_exit ?_
              refine b_exit ?_
              refine b_norm ?_
              exact j_leaf x493 (Option.some.inj h) (by kernel_rfl)
            · have h := ite_t hb506 h
              refine a_cond_t rfl ?_
              refine a_skip ?_
              refine a_next (σ' := ⟨[(0, (.int .i64 a0)), (2, (eSi64 a2)), (7, (.osl 7)), (8, (.int .i64 x353)), (9, (.int .i64 (rd a1 x353.toNat))), (29, (eSi64 a1)), (30, (.int .i64 (a1.length : Int))), (31, (.int .i64 x353)), (36, (eSi64 a2)), (37, (.int .i64 (a2.length : Int))), (38, (.int .i64 x492))], [(7, some ⟨(.row 1 (x493.map (AV.int .i64))), false⟩)]⟩) (by kernel_rfl) ?_
              refine a_seq ?_
              refine a_block ?_
              refine a_seq ?_
              refine a_region ?_
              refine a_val (v := (.int .i64 x492)) (u := []) rfl trivial rfl ?_
              obtain ⟨hc507, h⟩ := ifp_some h
              refine a_val (v := (.ref (.row 1 (a2.map (AV.int .i64))) [x492.toNat] [x492.toNat * 1])) (u := []) rfl (lmap hc507) rfl ?_
              have hl508 : LdOk [x492.toNat] (.row 1 (a2.map (AV.int .i64))) [x492.toNat * 1] 1 false (.int .i64 (rd a2 x492.toNat)) := (.row (llt hc507) rfl (.nil rfl rfl rfl))
              refine a_val (v := (.int .i64 (rd a2 x492.toNat))) (u := []) (ld_ref (i := ⟨.int .i64, 1, 8, (.int .i64 0)⟩) rfl rfl hl508) hl508.c rfl ?_
              refine a_val (v := (.int .i64 x492)) (u := []) rfl trivial rfl ?_
              refine a_val (v := (.int .i64 (rd a2 x492.toNat))) (u := []) rfl trivial rfl ?_
              refine a_nil ?_
              refine a_next (σ' := ⟨[(0, (.int .i64 a0)), (2, (eSi64 a2)), (7, (.osl 7)), (8, (.int .i64 x353)), (9, (.int .i64 (rd a1 x353.toNat))), (10, (.int .i64 x492)), (11, (.int .i64 (rd a2 x492.toNat))), (29, (eSi64 a1)), (30, (.int .i64 (a1.length : Int))), (31, (.int .i64 x353)), (36, (eSi64 a2)), (37, (.int .i64 (a2.length : Int))), (38, (.int .i64 x492))], [(7, some ⟨(.row 1 (x493.map (AV.int .i64))), false⟩)]⟩) (by kernel_rfl) ?_
              refine a_region ?_
              refine a_val (v := (.osl 7)) (u := []) rfl trivial rfl ?_
              refine a_val (v := (.int .i64 x353)) (u := []) rfl trivial rfl ?_
              refine a_val (v := (.int .i64 x492)) (u := []) rfl trivial rfl ?_
              refine a_val (v := (.int .i64 (IntKind.i64.wrap (x353 + x492)))) (u := []) rfl trivial rfl ?_
              obtain ⟨hc509, h⟩ := ifp_some h
              refine a_val (v := (.own 7 [(IntKind.i64.wrap (x353 + x492)).toNat] [(IntKind.i64.wrap (x353 + x492)).toNat * 1])) (u := []) rfl (lmap hc509) rfl ?_
              have hl510 : LdOk [(IntKind.i64.wrap (x353 + x492)).toNat] (.row 1 (x493.map (AV.int .i64))) [(IntKind.i64.wrap (x353 + x492)).toNat * 1] 1 false (.int .i64 ((rd x493 (IntKind.i64.wrap (x353 + x492)).toNat))) := (.row (llt hc509) rfl (.nil rfl rfl rfl))
              refine a_val (v := (.int .i64 ((rd x493 (IntKind.i64.wrap (x353 + x492)).toNat)))) (u := []) (ld_own (i := ⟨.int .i64, 1, 8, (.int .i64 0)⟩) rfl rfl rfl hl510) hl510.c rfl ?_
              refine a_val (v := (.int .i64 (rd a1 x353.toNat))) (u := []) rfl trivial rfl ?_
              refine a_val (v := (.int .i64 (rd a2 x492.toNat))) (u := []) rfl trivial rfl ?_
              refine a_val (v := (.int .i64 (IntKind.i64.wrap ((rd a1 x353.toNat) * (rd a2 x492.toNat))))) (u := []) rfl trivial rfl ?_
              obtain ⟨x511, hx512, h⟩ := letp_some h
              refine a_val' (v := (.int .i64 (IntKind.i64.wrap (((rd x493 (IntKind.i64.wrap (x353 + x492)).toNat)) + (IntKind.i64.wrap ((rd a1 x353.toNat) * (rd a2 x492.toNat))))))) (v' := (.int .i64 x511)) (u := []) (u' := []) rfl (congrArg (fun z => ((.int .i64 z) : AV)) hx512) rfl trivial rfl ?_
              obtain ⟨hc513, h⟩ := ifp_some h
              refine a_val (v := (.own 7 [(IntKind.i64.wrap (x353 + x492)).toNat] [(IntKind.i64.wrap (x353 + x492)).toNat * 1])) (u := []) rfl (lmap hc513) rfl ?_
              have hs514 : StOk [(IntKind.i64.wrap (x353 + x492)).toNat] (.row 1 (x493.map (AV.int .i64))) [(IntKind.i64.wrap (x353 + x492)).toNat * 1] 1 (.int .i64 x511) (.row 1 (((x493.set (IntKind.i64.wrap (x353 + x492)).toNat x511)).map (AV.int .i64))) := (.row (y := x511) (llt hc513) rfl (.nil rfl rfl rfl rfl))
              refine a_val (v := .top) (u := [(7, some ⟨(.row 1 (((x493.set (IntKind.i64.wrap (x353 + x492)).toNat x511)).map (AV.int .i64))), false⟩)]) (st_own (i := ⟨.int .i64, 1, 8, (.int .i64 0)⟩) rfl rfl (fun _ => rfl) rfl hs514) (hs514.c rfl) rfl ?_
              refine a_nil ?_
              refine b_norm ?_
              refine a_next (σ' := ⟨[(0, (.int .i64 a0)), (2, (eSi64 a2)), (7, (.osl 7)), (8, (.int .i64 x353)), (9, (.int .i64 (rd a1 x353.toNat))), (29, (eSi64 a1)), (30, (.int .i64 (a1.length : Int))), (31, (.int .i64 x353)), (36, (eSi64 a2)), (37, (.int .i64 (a2.length : Int))), (38, (.int .i64 x492))], [(7, some ⟨(.row 1 (((x493.set (IntKind.i64.wrap (x353 + x492)).toNat x511)).map (AV.int .i64))), false⟩)]⟩) (by kernel_rfl) ?_
              refine a_region ?_
              refine a_val (v := (.int .i64 (IntKind.i64.wrap (x492 + 1)))) (u := []) rfl trivial rfl ?_
              refine a_val (v := (.int .i64 (IntKind.i64.wrap (x492 + 1)))) (u := []) rfl trivial rfl ?_
              refine a_nil ?_
              cases h
              exact a_again (by kernel_rfl) hX505
    · have h := ite_t hb7 h
      refine a_cond_t rfl ?_
      refine a_seq ?_
      refine a_region ?_
      refine a_val (v := (eSi64 ([]))) (u := []) rfl trivial rfl ?_
      refine a_nil ?_
      refine a_next rfl ?_
      refine a_ret ?_
      refine t_ret ?_
      refine ⟨.inr rfl, ?_⟩
      rw [Try.results59]
      cases h
      exact ⟨_, _, _, _, _, rfl, trivial, .inl ⟨rfl, .inl rfl⟩, rfl, rfl⟩
  · have h := hy4
    refine a_region ?_
    refine a_val (v := (eSi64 a1)) (u := []) rfl trivial rfl ?_
    refine a_val (v := (.int .i64 (a1.length : Int))) (u := []) (len_run rfl rfl) trivial rfl ?_
    refine a_val (v := (.bool (((a1.length : Int) == 0)))) (u := []) rfl trivial rfl ?_
    refine a_val (v := (.bool (((a1.length : Int) == 0)))) (u := []) rfl trivial rfl ?_
    cases hb6 : ((a1.length : Int) == 0)
    · have h := ite_f hb6 h
      refine a_gval rfl (v := (eSi64 a2)) (u := []) rfl trivial rfl ?_
      refine a_gval rfl (v := (.int .i64 (a2.length : Int))) (u := []) (len_run rfl rfl) trivial rfl ?_
      refine a_gval rfl (v := (.bool (((a2.length : Int) == 0)))) (u := []) rfl trivial rfl ?_
      refine a_val (v := (.bool (((a2.length : Int) == 0)))) (u := []) rfl trivial rfl ?_
      refine a_nil ?_
      exact j_leaf (((a2.length : Int) == 0)) (Option.some.inj h) (by kernel_rfl)
    · have h := ite_t hb6 h
      refine a_gskip rfl ?_
      refine a_gskip rfl ?_
      refine a_gskip rfl ?_
      refine a_val (v := (.bool true)) (u := []) rfl trivial rfl ?_
      refine a_nil ?_
      exact j_leaf true (Option.some.inj h) (by kernel_rfl)
def impl_row_at_c : ACode := (.seq (.region 0 [⟨some 4, .asg 0 (.const (.int .i64 0)) 2, none, []⟩] false) (.seq (.seq (.region 1 [⟨some 5, .mov (.tmp 1), none, []⟩, ⟨some 6, .mov (.tmp 0), none, []⟩, ⟨some 7, .blt 0 .len [(.tmp 6)] [64], none, []⟩, ⟨some 8, .bin .lss 3 (.tmp 5) (.tmp 7), none, []⟩] false) (.cond (.tmp 8) (.seq (.region 2 [⟨some 9, .mov (.tmp 0), none, []⟩, ⟨some 10, .mov (.tmp 1), none, []⟩, ⟨some 11, .indexAddr 64 (.tmp 9) (.tmp 10), none, []⟩, ⟨some 12, .load 2 (.tmp 11), none, []⟩, ⟨some 4, .asg 0 (.tmp 12) 2, none, []⟩] false) .ret) .skip)) (.seq (.region 3 [⟨some 4, .asg 0 (.const (.int .i64 0)) 2, none, []⟩] false) .ret)))
def impl_row_at_L : Live := [(0, [0, 1]), (1, [0, 1]), (2, [0, 1]), (3, []), (100008, [0, 1, 8])]
theorem impl_row_at_body : Try.f93.body = some (Try.f93.body.getD .skip) := by kernel_rfl
theorem impl_row_at_strip : strip [] (Try.f93.body.getD .skip) = impl_row_at_c := by kernel_rfl
noncomputable def impl_row_at (a0 : (List Int)) (a1 : Int) : Option Int :=
  (if (decide (a1 < (a0.length : Int))) then (ifp (0 ≤ a1 ∧ a1 < ((a0.length : Nat) : Int)) ((some (rd a0 a1.toNat)))) else (some 0))
set_option maxHeartbeats 16000000 in
theorem impl_row_at_ok (a0 : (List Int)) (a1 : Int) (r : Int) (h : impl_row_at a0 a1 = some r) : Den Try.prog 93 [(eSi64 a0), (.int .i64 a1)] { r := (.int .i64 r) } := by
  refine den_of (rs := [(.int .i64 r)]) (ac := impl_row_at_c) (L := impl_row_at_L) (n := 13) (m := []) good Try.func93 impl_row_at_body (by kernel_rfl) Try.ntmps93 rfl rfl impl_row_at_strip rfl rfl ?_
  refine a_st (σ' := ⟨[(0, (eSi64 a0)), (1, (.int .i64 a1))], []⟩) (by kernel_rfl) ?_
  unfold impl_row_at_c
  refine a_seq ?_
  refine a_region ?_
  refine a_val (v := (.int .i64 0)) (u := []) rfl trivial rfl ?_
  refine a_nil ?_
  refine a_next (σ' := ⟨[(0, (eSi64 a0)), (1, (.int .i64 a1))], []⟩) (by kernel_rfl) ?_
  refine a_seq ?_
  refine a_seq ?_
  refine a_region ?_
  refine a_val (v := (.int .i64 a1)) (u := []) rfl trivial rfl ?_
  refine a_val (v := (eSi64 a0)) (u := []) rfl trivial rfl ?_
  refine a_val (v := (.int .i64 (a0.length : Int))) (u := []) (len_run rfl rfl) trivial rfl ?_
  refine a_val (v := (.bool ((decide (a1 < (a0.length : Int)))))) (u := []) rfl trivial rfl ?_
  refine a_nil ?_
  refine a_next (σ' := ⟨[(0, (eSi64 a0)), (1, (.int .i64 a1)), (8, (.bool ((decide (a1 < (a0.length : Int))))))], []⟩) (by kernel_rfl) ?_
  cases hb1 : (decide (a1 < (a0.length : Int)))
  · have h := ite_f hb1 h
    refine a_cond_f rfl ?_
    refine a_skip ?_
    refine a_next (σ' := ⟨[], []⟩) (by kernel_rfl) ?_
    refine a_seq ?_
    refine a_region ?_
    refine a_val (v := (.int .i64 0)) (u := []) rfl trivial rfl ?_
    refine a_nil ?_
    refine a_next rfl ?_
    refine a_ret ?_
    refine ⟨.inr rfl, ?_⟩
    rw [Try.results93]
    cases h
    exact ⟨_, _, _, _, _, rfl, trivial, .inl ⟨rfl, .inl rfl⟩, rfl, rfl⟩
  · have h := ite_t hb1 h
    refine a_cond_t rfl ?_
    refine a_seq ?_
    refine a_region ?_
    refine a_val (v := (eSi64 a0)) (u := []) rfl trivial rfl ?_
    refine a_val (v := (.int .i64 a1)) (u := []) rfl trivial rfl ?_
    obtain ⟨hc2, h⟩ := ifp_some h
    refine a_val (v := (.ref (.row 1 (a0.map (AV.int .i64))) [a1.toNat] [a1.toNat * 1])) (u := []) rfl (lmap hc2) rfl ?_
    have hl3 : LdOk [a1.toNat] (.row 1 (a0.map (AV.int .i64))) [a1.toNat * 1] 1 false (.int .i64 (rd a0 a1.toNat)) := (.row (llt hc2) rfl (.nil rfl rfl rfl))
    refine a_val (v := (.int .i64 (rd a0 a1.toNat))) (u := []) (ld_ref (i := ⟨.int .i64, 1, 8, (.int .i64 0)⟩) rfl rfl hl3) hl3.c rfl ?_
    refine a_val (v := (.int .i64 (rd a0 a1.toNat))) (u := []) rfl trivial rfl ?_
    refine a_nil ?_
    refine a_next rfl ?_
    refine a_ret ?_
    refine t_ret ?_
    refine ⟨.inr rfl, ?_⟩
    rw [Try.results93]
    cases h
    exact ⟨_, _, _, _, _, rfl, trivial, .inl ⟨rfl, .inl rfl⟩, rfl, rfl⟩
def impl_prime_combine_c : ACode := (.seq (.region 0 [⟨some 8, .asg 1 (.const (.slice none 0 0)) 64, none, []⟩] false) (.seq (.region 1 [⟨some 11, .mov (.tmp 1), none, []⟩, ⟨some 12, .blt 0 .len [(.tmp 11)] [64], none, []⟩, ⟨some 13, .mov (.tmp 2), none, []⟩, ⟨some 14, .blt 0 .len [(.tmp 13)] [64], none, []⟩, ⟨some 15, .blt 0 .max [(.tmp 12), (.tmp 14)] [3, 3], none, []⟩, ⟨some 16, .mkslice 64 (.tmp 15) (.tmp 15), none, []⟩, ⟨some 9, .asg 2 (.tmp 16) 64, none, []⟩] false) (.seq (.seq (.region 2 [⟨some 17, .mov (.tmp 9), none, []⟩, ⟨some 18, .blt 0 .len [(.tmp 17)] [64], none, []⟩, ⟨some 19, .mov (.const (.int .i64 0)), none, []⟩] false) (.block 0 (.loop (.seq (.region 3 [⟨some 20, .bin .lss 3 (.tmp 19) (.tmp 18), none, []⟩] false) (.seq (.cond (.tmp 20) .skip (.exit 0)) (.seq (.block 1 (.seq (.region 4 [⟨some 21, .mov (.tmp 19), none, []⟩, ⟨some 10, .asg 0 (.tmp 21) 3, none, []⟩] false) (.region 5 [⟨some 22, .mov (.tmp 9), none, []⟩, ⟨some 23, .mov (.tmp 10), none, []⟩, ⟨some 24, .mov (.tmp 0), none, []⟩, ⟨some 25, .mov (.tmp 1), none, []⟩, ⟨some 26, .mov (.tmp 10), none, []⟩, ⟨some 27, .call 0 (.func 93) [(.tmp 25), (.tmp 26)], none, []⟩, ⟨some 28, .mov (.tmp 3), none, []⟩, ⟨some 29, .mov (.tmp 2), none, []⟩, ⟨some 30, .mov (.tmp 10), none, []⟩, ⟨some 31, .call 0 (.func 93) [(.tmp 29), (.tmp 30)], none, []⟩, ⟨some 32, .bin .mul 2 (.tmp 28) (.tmp 31), none, []⟩, ⟨some 33, .bin .add 2 (.tmp 27) (.tmp 32), none, []⟩, ⟨some 34, .call 0 (.func 110) [(.tmp 24), (.tmp 33)], none, []⟩, ⟨some 35, .indexAddr 64 (.tmp 22) (.tmp 23), none, []⟩, ⟨none, .store 2 (.tmp 35) (.tmp 34), none, []⟩] false))) (.region 6 [⟨some 36, .bin .add 3 (.tmp 19) (.const (.int .i64 1)), none, []⟩, ⟨some 19, .mov (.tmp 36), none, []⟩] false))))))) (.seq (.region 7 [⟨some 37, .mov (.tmp 9), none, []⟩, ⟨some 38, .call 0 (.func 111) [(.tmp 37)], none, []⟩, ⟨some 8, .asg 1 (.tmp 38) 64, none, []⟩] false) .ret))))
def impl_prime_combine_L : Live := [(0, [0, 1, 2, 3]), (1, [0, 1, 2, 3]), (2, [0, 1, 2, 3, 9]), (3, [0, 1, 2, 3, 9, 18, 19]), (4, [0, 1, 2, 3, 9, 18, 19]), (5, [0, 1, 2, 3, 9, 10, 18, 19]), (6, [0, 1, 2, 3, 9, 18, 19]), (7, [9]), (100020, [0, 1, 2, 3, 9, 18, 19, 20])]
theorem impl_prime_combine_body : Try.f56.body = some (Try.f56.body.getD .skip) := by kernel_rfl
theorem impl_prime_combine_strip : strip [(8, 1), (9, 2)] (Try.f56.body.getD .skip) = impl_prime_combine_c := by kernel_rfl
noncomputable def impl_prime_combine_l1 (x1 : Int) (a1 : (List Int)) (a2 : (List Int)) (a0 : Int) (a3 : Int) (x58 : Int) (x59 : (List Int)) : Option ((Int × (List Int)) ⊕ (List Int)) :=
  (letp ((decide (x58 < (((List.replicate x1.toNat (0 : Int)).length : Int))))) fun x74 => (if x74 then (Option.bind (impl_row_at a1 x58) fun r77 => (Option.bind (impl_row_at a2 x58) fun r79 => (Option.bind (impl_prime_reduce a0 (IntKind.i64.wrap (r77 + (IntKind.i64.wrap (a3 * r79))))) fun r81 => (ifp (0 ≤ x58 ∧ x58 < ((x59.length : Nat) : Int)) ((some (.inl ((IntKind.i64.wrap (x58 + 1), (x59.set x58.toNat r81)))))))))) else (some (.inr x59))))
noncomputable def impl_prime_combine (a0 : Int) (a1 : (List Int)) (a2 : (List Int)) (a3 : Int) : Option (List Int) :=
  (letp ((if (a2.length : Int) > (a1.length : Int) then (a2.length : Int) else (a1.length : Int))) fun x1 => (ifp (0 ≤ x1 ∧ x1 ≤ 140737488355328 ∧ 8 * x1 ≤ 140737488355328) ((Option.bind (α := (List Int)) ((loopM (fun s : (Int × (List Int)) => impl_prime_combine_l1 x1 a1 a2 a0 a3 s.1 s.2) (0, List.replicate x1.toNat (0 : Int)))) fun x43 => (Option.bind (impl_row_trimmed x43) fun r86 => (some r86))))))
set_option maxHeartbeats 16000000 in
theorem impl_prime_combine_ok (a0 : Int) (a1 : (List Int)) (a2 : (List Int)) (a3 : Int) (r : (List Int)) (h : impl_prime_combine a0 a1 a2 a3 = some r) : Den Try.prog 56 [(.int .i64 a0), (eSi64 a1), (eSi64 a2), (.int .i64 a3)] { r := (eSi64 r) } := by
  refine den_of (rs := [(eSi64 r)]) (ac := impl_prime_combine_c) (L := impl_prime_combine_L) (n := 39) (m := [(8, 1), (9, 2)]) good Try.func56 impl_prime_combine_body (by kernel_rfl) Try.ntmps56 rfl rfl impl_prime_combine_strip rfl rfl ?_
  refine a_st (σ' := ⟨[(0, (.int .i64 a0)), (1, (eSi64 a1)), (2, (eSi64 a2)), (3, (.int .i64 a3))], []⟩) (by kernel_rfl) ?_
  unfold impl_prime_combine_c
  refine a_seq ?_
  refine a_region ?_
  refine a_val (v := (eSi64 ([]))) (u := []) rfl trivial rfl ?_
  refine a_nil ?_
  refine a_next (σ' := ⟨[(0, (.int .i64 a0)), (1, (eSi64 a1)), (2, (eSi64 a2)), (3, (.int .i64 a3))], []⟩) (by kernel_rfl) ?_
  refine a_seq ?_
  refine a_region ?_
  refine a_val (v := (eSi64 a1)) (u := []) rfl trivial rfl ?_
  refine a_val (v := (.int .i64 (a1.length : Int))) (u := []) (len_run rfl rfl) trivial rfl ?_
  refine a_val (v := (eSi64 a2)) (u := []) rfl trivial rfl ?_
  refine a_val (v := (.int .i64 (a2.length : Int))) (u := []) (len_run rfl rfl) trivial rfl ?_
  obtain ⟨x1, hx2, h⟩ := letp_some h
  refine a_val' (v := (.int .i64 ((if (a2.length : Int) > (a1.length : Int) then (a2.length : Int) else (a1.length : Int))))) (v' := (.int .i64 x1)) (u := []) (u' := []) rfl (congrArg (fun z => ((.int .i64 z) : AV)) hx2) rfl trivial rfl ?_
  obtain ⟨hc3, h⟩ := ifp_some h
  refine a_val (v := (.osl 2600)) (u := [(2600, some ⟨(.row 1 ((List.replicate x1.toNat (0 : Int)).map (AV.int .i64))), false⟩)]) (mk_run (i := ⟨.int .i64, 1, 8, (.int .i64 0)⟩) (f := (AV.int .i64)) (y := (0 : Int)) rfl rfl rfl rfl rfl rfl) ⟨rfl, hc3.1, hc3.2.1, hc3.2.2, (Nat.le_of_ble_eq_true rfl)⟩ rfl ?_
  refine a_val (v := (.osl 2600)) (u := []) rfl trivial rfl ?_
  refine a_nil ?_
  refine a_next (σ' := ⟨[(0, (.int .i64 a0)), (1, (eSi64 a1)), (2, (eSi64 a2)), (3, (.int .i64 a3)), (9, (.osl 9))], [(9, some ⟨(.row 1 ((List.replicate x1.toNat (0 : Int)).map (AV.int .i64))), false⟩)]⟩) (by kernel_rfl) ?_
  obtain ⟨y44, hy45, hk46⟩ := bind_some h
  clear h
  refine a_join (emb := fun (s : (List Int)) => ⟨[(9, (.osl 9))], [(9, some ⟨(.row 1 (s.map (AV.int .i64))), false⟩)]⟩) (pre := fun s => s = y44) ?_ ?_
  · rintro x43 rfl
    have h := hk46
    refine a_st (σ' := ⟨[(9, (.osl 9))], [(9, some ⟨(.row 1 (x43.map (AV.int .i64))), false⟩)]⟩) (by kernel_rfl) ?_
    refine a_seq ?_
    refine a_region ?_
    refine a_val (v := (.osl 9)) (u := []) rfl trivial rfl ?_
    obtain ⟨r86, hr87, h⟩ := bind_some h
    refine a_call (args := [(eSi64 x43)]) (u := [(9, some ⟨(.row 1 (x43.map (AV.int .i64))), true⟩)]) (r := (eSi64 r86)) rfl rfl (impl_row_trimmed_ok x43 r86 hr87) rfl ?_
    refine a_val (v := (eSi64 r86)) (u := []) rfl trivial rfl ?_
    refine a_nil ?_
    refine a_next rfl ?_
    refine a_ret ?_
    refine ⟨.inr rfl, ?_⟩
    rw [Try.results56]
    cases h
    exact ⟨_, _, _, _, _, rfl, trivial, .inl ⟨rfl, .inl rfl⟩, rfl, rfl⟩
  · have h := hy45
    refine a_seq ?_
    refine a_region ?_
    refine a_val (v := (.osl 9)) (u := []) rfl trivial rfl ?_
    refine a_val (v := (.int .i64 (((List.replicate x1.toNat (0 : Int)).length : Int)))) (u := []) (leno_run rfl rfl rfl) trivial rfl ?_
    refine a_val (v := (.int .i64 0)) (u := []) rfl trivial rfl ?_
    refine a_nil ?_
    refine a_next (σ' := ⟨[(0, (.int .i64 a0)), (1, (eSi64 a1)), (2, (eSi64 a2)), (3, (.int .i64 a3)), (9, (.osl 9)), (18, (.int .i64 (((List.replicate x1.toNat (0 : Int)).length : Int)))), (19, (.int .i64 0))], [(9, some ⟨(.row 1 ((List.replicate x1.toNat (0 : Int)).map (AV.int .i64))), false⟩)]⟩) (by kernel_rfl) ?_
    refine a_block ?_
    refine a_loop (emb := fun (s : (Int × (List Int))) => ⟨[(0, (.int .i64 a0)), (1, (eSi64 a1)), (2, (eSi64 a2)), (3, (.int .i64 a3)), (9, (.osl 9)), (18, (.int .i64 (((List.replicate x1.toNat (0 : Int)).length : Int)))), (19, (.int .i64 s.1))], [(9, some ⟨(.row 1 (s.2.map (AV.int .i64))), false⟩)]⟩) (body := (fun s : (Int × (List Int)) => impl_prime_combine_l1 x1 a1 a2 a0 a3 s.1 s.2)) (G := fun q => some q = some y44) h rfl ?_ (by kernel_rfl)
    rintro X71 ⟨x58, x59⟩ x72 h hX73
    have h : impl_prime_combine_l1 x1 a1 a2 a0 a3 x58 x59 = some x72 := h
    refine a_st (σ' := ⟨[(0, (.int .i64 a0)), (1, (eSi64 a1)), (2, (eSi64 a2)), (3, (.int .i64 a3)), (9, (.osl 9)), (18, (.int .i64 (((List.replicate x1.toNat (0 : Int)).length : Int)))), (19, (.int .i64 x58))], [(9, some ⟨(.row 1 (x59.map (AV.int .i64))), false⟩)]⟩) (by kernel_rfl) ?_
    refine a_seq ?_
    refine a_region ?_
    obtain ⟨x74, hx75, h⟩ := letp_some h
    refine a_val' (v := (.bool ((decide (x58 < (((List.replicate x1.toNat (0 : Int)).length : Int))))))) (v' := (.bool x74)) (u := []) (u' := []) rfl (congrArg (fun z => ((.bool z) : AV)) hx75) rfl trivial rfl ?_
    refine a_nil ?_
    refine a_next (σ' := ⟨[(0, (.int .i64 a0)), (1, (eSi64 a1)), (2, (eSi64 a2)), (3, (.int .i64 a3)), (9, (.osl 9)), (18, (.int .i64 (((List.replicate x1.toNat (0 : Int)).length : Int)))), (19, (.int .i64 x58)), (20, (.bool x74))], [(9, some ⟨(.row 1 (x59.map (AV.int .i64))), false⟩)]⟩) (by kernel_rfl) ?_
    refine a_seq ?_
    cases hb76 : x74
    · have h := ite_f hb76 h
      refine a_cond_f rfl ?_
      refine a_exit ?_
      refine t_exit ?_
      cases h
      have h := hX73
      refine t_exit ?_
      refine b_exit ?_
      exact j_leaf x59 (Option.some.inj h) (by kernel_rfl)
    · have h := ite_t hb76 h
      refine a_cond_t rfl ?_
      refine a_skip ?_
      refine a_next (σ' := ⟨[(0, (.int .i64 a0)), (1, (eSi64 a1)), (2, (eSi64 a2)), (3, (.int .i64 a3)), (9, (.osl 9)), (18, (.int .i64 (((List.replicate x1.toNat (0 : Int)).length : Int)))), (19, (.int .i64 x58))], [(9, some ⟨(.row 1 (x59.map (AV.int .i64))), false⟩)]⟩) (by kernel_rfl) ?_
      refine a_seq ?_
      refine a_block ?_
      refine a_seq ?_
      refine a_region ?_
      refine a_val (v := (.int .i64 x58)) (u := []) rfl trivial rfl ?_
      refine a_val (v := (.int .i64 x58)) (u := []) rfl trivial rfl ?_
      refine a_nil ?_
      refine a_next (σ' := ⟨[(0, (.int .i64 a0)), (1, (eSi64 a1)), (2, (eSi64 a2)), (3, (.int .i64 a3)), (9, (.osl 9)), (10, (.int .i64 x58)), (18, (.int .i64 (((List.replicate x1.toNat (0 : Int)).length : Int)))), (19, (.int .i64 x58))], [(9, some ⟨(.row 1 (x59.map (AV.int .i64))), false⟩)]⟩) (by kernel_rfl) ?_
      refine a_region ?_
      refine a_val (v := (.osl 9)) (u := []) rfl trivial rfl ?_
      refine a_val (v := (.int .i64 x58)) (u := []) rfl trivial rfl ?_
      refine a_val (v := (.int .i64 a0)) (u := []) rfl trivial rfl ?_
      refine a_val (v := (eSi64 a1)) (u := []) rfl trivial rfl ?_
      refine a_val (v := (.int .i64 x58)) (u := []) rfl trivial rfl ?_
      obtain ⟨r77, hr78, h⟩ := bind_some h
      refine a_call (args := [(eSi64 a1), (.int .i64 x58)]) (u := []) (r := (.int .i64 r77)) rfl rfl (impl_row_at_ok a1 x58 r77 hr78) rfl ?_
      refine a_val (v := (.int .i64 a3)) (u := []) rfl trivial rfl ?_
      refine a_val (v := (eSi64 a2)) (u := []) rfl trivial rfl ?_
      refine a_val (v := (.int .i64 x58)) (u := []) rfl trivial rfl ?_
      obtain ⟨r79, hr80, h⟩ := bind_some h
      refine a_call (args := [(eSi64 a2), (.int .i64 x58)]) (u := []) (r := (.int .i64 r79)) rfl rfl (impl_row_at_ok a2 x58 r79 hr80) rfl ?_
      refine a_val (v := (.int .i64 (IntKind.i64.wrap (a3 * r79)))) (u := []) rfl trivial rfl ?_
      refine a_val (v := (.int .i64 (IntKind.i64.wrap (r77 + (IntKind.i64.wrap (a3 * r79)))))) (u := []) rfl trivial rfl ?_
      obtain ⟨r81, hr82, h⟩ := bind_some h
      refine a_call (args := [(.int .i64 a0), (.int .i64 (IntKind.i64.wrap (r77 + (IntKind.i64.wrap (a3 * r79)))))]) (u := []) (r := (.int .i64 r81)) rfl rfl (impl_prime_reduce_ok a0 (IntKind.i64.wrap (r77 + (IntKind.i64.wrap (a3 * r79)))) r81 hr82) rfl ?_
      obtain ⟨hc83, h⟩ := ifp_some h
      refine a_val (v := (.own 9 [x58.toNat] [x58.toNat * 1])) (u := []) rfl (lmap hc83) rfl ?_
      have hs84 : StOk [x58.toNat] (.row 1 (x59.map (AV.int .i64))) [x58.toNat * 1] 1 (.int .i64 r81) (.row 1 ((x59.set x58.toNat r81).map (AV.int .i64))) := (.row (y := r81) (llt hc83) rfl (.nil rfl rfl rfl rfl))
      refine a_val (v := .top) (u := [(9, some ⟨(.row 1 ((x59.set x58.toNat r81).map (AV.int .i64))), false⟩)]) (st_own (i := ⟨.int .i64, 1, 8, (.int .i64 0)⟩) rfl rfl (fun _ => rfl) rfl hs84) (hs84.c rfl) rfl ?_
      refine a_nil ?_
      refine b_norm ?_
      refine a_next (σ' := ⟨[(0, (.int .i64 a0)), (1, (eSi64 a1)), (2, (eSi64 a2)), (3, (.int .i64 a3)), (9, (.osl 9)), (18, (.int .i64 (((List.replicate x1.toNat (0 : Int)).length : Int)))), (19, (.int .i64 x58))], [(9, some ⟨(.row 1 ((x59.set x58.toNat r81).map (AV.int .i64))), false⟩)]⟩) (by kernel_rfl) ?_
      refine a_region ?_
      refine a_val (v := (.int .i64 (IntKind.i64.wrap (x58 + 1)))) (u := []) rfl trivial rfl ?_
      refine a_val (v := (.int .i64 (IntKind.i64.wrap (x58 + 1)))) (u := []) rfl trivial rfl ?_
      refine a_nil ?_
      cases h
      exact a_again (by kernel_rfl) hX73
def impl_row_degree_c : ACode := (.seq (.region 0 [⟨some 2, .asg 0 (.const (.int .i64 0)) 2, none, []⟩] false) (.seq (.region 1 [⟨some 3, .mov (.tmp 0), none, []⟩, ⟨some 4, .blt 0 .len [(.tmp 3)] [64], none, []⟩, ⟨some 5, .bin .sub 2 (.tmp 4) (.const (.int .i64 1)), none, []⟩, ⟨some 2, .asg 0 (.tmp 5) 2, none, []⟩] false) .ret))
def impl_row_degree_L : Live := [(0, [0]), (1, [0])]
theorem impl_row_degree_body : Try.f89.body = some (Try.f89.body.getD .skip) := by kernel_rfl
theorem impl_row_degree_strip : strip [] (Try.f89.body.getD .skip) = impl_row_degree_c := by kernel_rfl
noncomputable def impl_row_degree (a0 : (List Int)) : Option Int :=
  (some (IntKind.i64.wrap ((a0.length : Int) - 1)))
set_option maxHeartbeats 16000000 in
theorem impl_row_degree_ok (a0 : (List Int)) (r : Int) (h : impl_row_degree a0 = some r) : Den Try.prog 89 [(eSi64 a0)] { r := (.int .i64 r) } := by
  refine den_of (rs := [(.int .i64 r)]) (ac := impl_row_degree_c) (L := impl_row_degree_L) (n := 6) (m := []) good Try.func89 impl_row_degree_body (by kernel_rfl) Try.ntmps89 rfl rfl impl_row_degree_strip rfl rfl ?_
  refine a_st (σ' := ⟨[(0, (eSi64 a0))], []⟩) (by kernel_rfl) ?_
  unfold impl_row_degree_c
  refine a_seq ?_
  refine a_region ?_
  refine a_val (v := (.int .i64 0)) (u := []) rfl trivial rfl ?_
  refine a_nil ?_
  refine a_next (σ' := ⟨[(0, (eSi64 a0))], []⟩) (by kernel_rfl) ?_
  refine a_seq ?_
  refine a_region ?_
  refine a_val (v := (eSi64 a0)) (u := []) rfl trivial rfl ?_
  refine a_val (v := (.int .i64 (a0.length : Int))) (u := []) (len_run rfl rfl) trivial rfl ?_
  refine a_val (v := (.int .i64 (IntKind.i64.wrap ((a0.length : Int) - 1)))) (u := []) rfl trivial rfl ?_
  refine a_val (v := (.int .i64 (IntKind.i64.wrap ((a0.length : Int) - 1)))) (u := []) rfl trivial rfl ?_
  refine a_nil ?_
  refine a_next rfl ?_
  refine a_ret ?_
  refine ⟨.inr rfl, ?_⟩
  rw [Try.results89]
  cases h
  exact ⟨_, _, _, _, _, rfl, trivial, .inl ⟨rfl, .inl rfl⟩, rfl, rfl⟩
def impl_row_fits_c : ACode := (.seq (.region 0 [⟨some 2, .asg 0 (.const (.bool false)) 4, none, []⟩] false) (.seq (.region 1 [⟨some 3, .mov (.tmp 0), none, []⟩, ⟨some 4, .call 0 (.func 89) [(.tmp 3)], none, []⟩, ⟨some 5, .bin .leq 2 (.tmp 4) (.const (.int .i64 63)), none, []⟩, ⟨some 2, .asg 0 (.tmp 5) 4, none, []⟩] false) .ret))
def impl_row_fits_L : Live := [(0, [0]), (1, [0])]
theorem impl_row_fits_body : Try.f112.body = some (Try.f112.body.getD .skip) := by kernel_rfl
theorem impl_row_fits_strip : strip [] (Try.f112.body.getD .skip) = impl_row_fits_c := by kernel_rfl
noncomputable def impl_row_fits (a0 : (List Int)) : Option Bool :=
  (Option.bind (impl_row_degree a0) fun r1 => (some ((decide (r1 ≤ 63)))))
set_option maxHeartbeats 16000000 in
theorem impl_row_fits_ok (a0 : (List Int)) (r : Bool) (h : impl_row_fits a0 = some r) : Den Try.prog 112 [(eSi64 a0)] { r := (.bool r) } := by
  refine den_of (rs := [(.bool r)]) (ac := impl_row_fits_c) (L := impl_row_fits_L) (n := 6) (m := []) good Try.func112 impl_row_fits_body (by kernel_rfl) Try.ntmps112 rfl rfl impl_row_fits_strip rfl rfl ?_
  refine a_st (σ' := ⟨[(0, (eSi64 a0))], []⟩) (by kernel_rfl) ?_
  unfold impl_row_fits_c
  refine a_seq ?_
  refine a_region ?_
  refine a_val (v := (.bool false)) (u := []) rfl trivial rfl ?_
  refine a_nil ?_
  refine a_next (σ' := ⟨[(0, (eSi64 a0))], []⟩) (by kernel_rfl) ?_
  refine a_seq ?_
  refine a_region ?_
  refine a_val (v := (eSi64 a0)) (u := []) rfl trivial rfl ?_
  obtain ⟨r1, hr2, h⟩ := bind_some h
  refine a_call (args := [(eSi64 a0)]) (u := []) (r := (.int .i64 r1)) rfl rfl (impl_row_degree_ok a0 r1 hr2) rfl ?_
  refine a_val (v := (.bool ((decide (r1 ≤ 63))))) (u := []) rfl trivial rfl ?_
  refine a_val (v := (.bool ((decide (r1 ≤ 63))))) (u := []) rfl trivial rfl ?_
  refine a_nil ?_
  refine a_next rfl ?_
  refine a_ret ?_
  refine ⟨.inr rfl, ?_⟩
  rw [Try.results112]
  cases h
  exact ⟨_, _, _, _, _, rfl, trivial, .inl ⟨rfl, .inl rfl⟩, rfl, rfl⟩
def impl_prime_convergents_c : ACode := (.seq (.region 0 [⟨some 4, .asg 1 (.const (.slice none 0 0)) 72, none, []⟩, ⟨some 5, .asg 1 (.const (.slice none 0 0)) 72, none, []⟩] false) (.seq (.region 1 [⟨some 14, .bslice 0 64 1 [(0, (.const (.int .i64 1)))], none, []⟩, ⟨some 6, .asg 1 (.tmp 14) 64, none, []⟩, ⟨some 7, .asg 1 (.const (.slice none 0 0)) 64, none, []⟩] false) (.seq (.region 2 [⟨some 15, .bslice 0 64 1 [(0, (.const (.int .i64 1)))], none, []⟩, ⟨some 8, .asg 1 (.const (.slice none 0 0)) 64, none, []⟩, ⟨some 9, .asg 1 (.tmp 15) 64, none, []⟩] false) (.seq (.region 3 [⟨some 10, .asg 2 (.const (.slice none 0 0)) 72, none, []⟩, ⟨some 11, .asg 2 (.const (.slice none 0 0)) 72, none, []⟩] false) (.seq (.seq (.region 4 [⟨some 16, .mov (.tmp 1), none, []⟩, ⟨some 17, .blt 0 .len [(.tmp 16)] [72], none, []⟩, ⟨some 18, .mov (.const (.int .i64 0)), none, []⟩] false) (.block 0 (.loop (.seq (.region 5 [⟨some 19, .bin .lss 3 (.tmp 18) (.tmp 17), none, []⟩] false) (.seq (.cond (.tmp 19) .skip (.exit 0)) (.seq (.block 1 (.seq (.region 6 [⟨some 20, .indexAddr 72 (.tmp 16) (.tmp 18), none, []⟩, ⟨some 21, .load 64 (.tmp 20), none, []⟩, ⟨some 13, .asg 1 (.tmp 21) 64, none, []⟩] false) (.seq (.region 7 [⟨some 22, .mov (.tmp 0), none, []⟩, ⟨some 23, .mov (.tmp 0), none, []⟩, ⟨some 24, .mov (.tmp 13), none, []⟩, ⟨some 25, .mov (.tmp 6), none, []⟩, ⟨some 26, .call 0 (.func 59) [(.tmp 23), (.tmp 24), (.tmp 25)], none, []⟩, ⟨some 27, .mov (.tmp 8), none, []⟩, ⟨some 28, .call 0 (.func 56) [(.tmp 22), (.tmp 26), (.tmp 27), (.const (.int .i64 1))], none, []⟩, ⟨some 29, .mov (.tmp 6), none, []⟩, ⟨some 6, .asg 1 (.tmp 28) 64, none, []⟩, ⟨some 8, .asg 1 (.tmp 29) 64, none, []⟩] false) (.seq (.region 8 [⟨some 30, .mov (.tmp 0), none, []⟩, ⟨some 31, .mov (.tmp 0), none, []⟩, ⟨some 32, .mov (.tmp 13), none, []⟩, ⟨some 33, .mov (.tmp 7), none, []⟩, ⟨some 34, .call 0 (.func 59) [(.tmp 31), (.tmp 32), (.tmp 33)], none, []⟩, ⟨some 35, .mov (.tmp 9), none, []⟩, ⟨some 36, .call 0 (.func 56) [(.tmp 30), (.tmp 34), (.tmp 35), (.const (.int .i64 1))], none, []⟩, ⟨some 37, .mov (.tmp 7), none, []⟩, ⟨some 7, .asg 1 (.tmp 36) 64, none, []⟩, ⟨some 9, .asg 1 (.tmp 37) 64, none, []⟩] false) (.seq (.seq (.region 9 [⟨some 38, .mov (.tmp 6), none, []⟩, ⟨some 39, .call 0 (.func 112) [(.tmp 38)], none, []⟩, ⟨some 40, .un .not (.tmp 39), none, []⟩, ⟨some 41, .mov (.tmp 40), none, []⟩, ⟨some 42, .mov (.tmp 7), some (41, false), []⟩, ⟨some 43, .call 0 (.func 112) [(.tmp 42)], some (41, false), []⟩, ⟨some 44, .un .not (.tmp 43), some (41, false), []⟩, ⟨some 45, .pick (.tmp 41) (.const (.bool true)) (.tmp 44), none, []⟩] false) (.cond (.tmp 45) (.exit 0) .skip)) (.region 10 [⟨some 46, .mov (.tmp 10), none, []⟩, ⟨some 47, .mov (.tmp 6), none, []⟩, ⟨some 48, .bslice 0 72 1 [(0, (.tmp 47))], none, []⟩, ⟨some 49, .blt 0 .append [(.tmp 46), (.tmp 48)] [72, 72], none, []⟩, ⟨some 50, .mov (.tmp 11), none, []⟩, ⟨some 51, .mov (.tmp 7), none, []⟩, ⟨some 52, .bslice 0 72 1 [(0, (.tmp 51))], none, []⟩, ⟨some 53, .blt 0 .append [(.tmp 50), (.tmp 52)] [72, 72], none, []⟩, ⟨some 10, .asg 2 (.tmp 49) 72, none, []⟩, ⟨some 11, .asg 2 (.tmp 53) 72, none, []⟩] false)))))) (.region 11 [⟨some 54, .bin .add 3 (.tmp 18) (.const (.int .i64 1)), none, []⟩, ⟨some 18, .mov (.tmp 54), none, []⟩] false))))))) (.seq (.region 12 [⟨some 55, .mov (.tmp 10), none, []⟩, ⟨some 56, .mov (.tmp 11), none, []⟩, ⟨some 4, .asg 1 (.tmp 55) 72, none, []⟩, ⟨some 5, .asg 1 (.tmp 56) 72, none, []⟩] false) .ret))))))
def impl_prime_convergents_L : Live := [(0, [0, 1]), (1, [0, 1]), (2, [0, 1, 6, 7]), (3, [0, 1, 6, 7, 8, 9]), (4, [0, 1, 6, 7, 8, 9, 10, 11]), (5, [0, 6, 7, 8, 9, 10, 11, 16, 17, 18]), (6, [0, 6, 7, 8, 9, 10, 11, 16, 17, 18]), (7, [0, 6, 7, 8, 9, 10, 11, 13, 16, 17, 18]), (8, [0, 6, 7, 8, 9, 10, 11, 13, 16, 17, 18]), (9, [0, 6, 7, 8, 9, 10, 11, 16, 17, 18]), (10, [0, 6, 7, 8, 9, 10, 11, 16, 17, 18]), (11, [0, 6, 7, 8, 9, 10, 11, 16, 17, 18]), (12, [10, 11]), (100019, [0, 6, 7, 8, 9, 10, 11, 16, 17, 18, 19]), (100045, [0, 6, 7, 8, 9, 10, 11, 16, 17, 18, 45])]
theorem impl_prime_convergents_body : Try.f81.body = some (Try.f81.body.getD .skip) := by kernel_rfl
theorem impl_prime_convergents_strip : strip [(4, 1), (5, 1), (6, 1), (7, 1), (8, 1), (9, 1), (10, 2), (11, 2), (13, 1)] (Try.f81.body.getD .skip) = impl_prime_convergents_c := by kernel_rfl
noncomputable def impl_prime_convergents_l1 (a1 : (List (List Int))) (a0 : Int) (x129 : (List Int)) (x130 : (List Int)) (x131 : (List Int)) (x132 : (List Int)) (x133 : Int) (x134 : (List (List Int))) (x135 : (List (List Int))) : Option (((List Int) × (List Int) × (List Int) × (List Int) × Int × (List (List Int)) × (List (List Int))) ⊕ ((List (List Int)) × (List (List Int)))) :=
  (if (decide (x133 < (a1.length : Int))) then (ifp (0 ≤ x133 ∧ x133 < ((a1.length : Nat) : Int)) ((Option.bind (impl_prime_times a0 (rd a1 x133.toNat) x129) fun r170 => (Option.bind (impl_prime_combine a0 r170 x131 1) fun r172 => (Option.bind (impl_prime_times a0 (rd a1 x133.toNat) x130) fun r174 => (Option.bind (impl_prime_combine a0 r174 x132 1) fun r176 => (Option.bind (α := Bool) ((Option.bind (impl_row_fits r172) fun r187 => (if (!r187) then (some true) else (Option.bind (impl_row_fits r176) fun r190 => (some (!r190)))))) fun x183 => (if x183 then (some (.inr (x134, x135))) else (ifp ((x134.length + ([r172] : List (List Int)).length) * 24 ≤ 140737488355328) ((ifp ((x135.length + ([r176] : List (List Int)).length) * 24 ≤ 140737488355328) ((some (.inl ((r172, r176, x129, x130, IntKind.i64.wrap (x133 + 1), (x134 ++ ([r172])), (x135 ++ ([r176])))))))))))))))))) else (some (.inr (x134, x135))))
noncomputable def impl_prime_convergents (a0 : Int) (a1 : (List (List Int))) : Option ((List (List Int)) × (List (List Int))) :=
  (Option.bind (α := ((List (List Int)) × (List (List Int)))) ((loopM (fun s : ((List Int) × (List Int) × (List Int) × (List Int) × Int × (List (List Int)) × (List (List Int))) => impl_prime_convergents_l1 a1 a0 s.1 s.2.1 s.2.2.1 s.2.2.2.1 s.2.2.2.2.1 s.2.2.2.2.2.1 s.2.2.2.2.2.2) ([1], [], [], [1], 0, [], []))) fun ⟨x96, x97⟩ => (some (x96, x97)))
set_option maxHeartbeats 16000000 in
theorem impl_prime_convergents_ok (a0 : Int) (a1 : (List (List Int))) (r : ((List (List Int)) × (List (List Int)))) (h : impl_prime_convergents a0 a1 = some r) : Den Try.prog 81 [(.int .i64 a0), (eSSi64 a1)] { r := (.tuple [(eSSi64 r.1), (eSSi64 r.2)]) } := by
  refine den_of (rs := [(eSSi64 r.1), (eSSi64 r.2)]) (ac := impl_prime_convergents_c) (L := impl_prime_convergents_L) (n := 57) (m := [(4, 1), (5, 1), (6, 1), (7, 1), (8, 1), (9, 1), (10, 2), (11, 2), (13, 1)]) good Try.func81 impl_prime_convergents_body (by kernel_rfl) Try.ntmps81 rfl rfl impl_prime_convergents_strip rfl rfl ?_
  refine a_st (σ' := ⟨[(0, (.int .i64 a0)), (1, (eSSi64 a1))], []⟩) (by kernel_rfl) ?_
  unfold impl_prime_convergents_c
  refine a_seq ?_
  refine a_region ?_
  refine a_val (v := (eSSi64 ([]))) (u := []) rfl trivial rfl ?_
  refine a_val (v := (eSSi64 ([]))) (u := []) rfl trivial rfl ?_
  refine a_nil ?_
  refine a_next (σ' := ⟨[(0, (.int .i64 a0)), (1, (eSSi64 a1))], []⟩) (by kernel_rfl) ?_
  refine a_seq ?_
  refine a_region ?_
  refine a_val (v := (.sl 1 true (([1]).map (AV.int .i64)))) (u := []) rfl ⟨(Nat.le_of_ble_eq_true rfl), (Nat.le_of_ble_eq_true rfl), (all_cons ⟨(Nat.le_of_ble_eq_true rfl), rfl⟩ all_nil)⟩ rfl ?_
  refine a_val (v := (eSi64 ([1]))) (u := []) (asg_tight (i := ⟨.int .i64, 1, 8, (.int .i64 0)⟩) (f := (AV.int .i64)) (l := [1]) rfl rfl rfl) trivial rfl ?_
  refine a_val (v := (eSi64 ([]))) (u := []) rfl trivial rfl ?_
  refine a_nil ?_
  refine a_next (σ' := ⟨[(0, (.int .i64 a0)), (1, (eSSi64 a1)), (6, (eSi64 ([1]))), (7, (eSi64 ([])))], []⟩) (by kernel_rfl) ?_
  refine a_seq ?_
  refine a_region ?_
  refine a_val (v := (.sl 1 true (([1]).map (AV.int .i64)))) (u := []) rfl ⟨(Nat.le_of_ble_eq_true rfl), (Nat.le_of_ble_eq_true rfl), (all_cons ⟨(Nat.le_of_ble_eq_true rfl), rfl⟩ all_nil)⟩ rfl ?_
  refine a_val (v := (eSi64 ([]))) (u := []) rfl trivial rfl ?_
  refine a_val (v := (eSi64 ([1]))) (u := []) (asg_tight (i := ⟨.int .i64, 1, 8, (.int .i64 0)⟩) (f := (AV.int .i64)) (l := [1]) rfl rfl rfl) trivial rfl ?_
  refine a_nil ?_
  refine a_next (σ' := ⟨[(0, (.int .i64 a0)), (1, (eSSi64 a1)), (6, (eSi64 ([1]))), (7, (eSi64 ([]))), (8, (eSi64 ([]))), (9, (eSi64 ([1])))], []⟩) (by kernel_rfl) ?_
  refine a_seq ?_
  refine a_region ?_
  refine a_val (v := (.osl 2000)) (u := [(2000, some ⟨(.row 1 (([]).map eSi64)), false⟩)]) rfl trivial rfl ?_
  refine a_val (v := (.osl 2100)) (u := [(2100, some ⟨(.row 1 (([]).map eSi64)), false⟩)]) rfl trivial rfl ?_
  refine a_nil ?_
  refine a_next (σ' := ⟨[(0, (.int .i64 a0)), (1, (eSSi64 a1)), (6, (eSi64 ([1]))), (7, (eSi64 ([]))), (8, (eSi64 ([]))), (9, (eSi64 ([1]))), (10, (.osl 10)), (11, (.osl 11))], [(10, some ⟨(.row 1 (([]).map eSi64)), false⟩), (11, some ⟨(.row 1 (([]).map eSi64)), false⟩)]⟩) (by kernel_rfl) ?_
  obtain ⟨y98, hy99, hk100⟩ := bind_some h
  clear h
  refine a_join (emb := fun (s : ((List (List Int)) × (List (List Int)))) => ⟨[(10, (.osl 10)), (11, (.osl 11))], [(10, some ⟨(.row 1 (s.1.map eSi64)), false⟩), (11, some ⟨(.row 1 (s.2.map eSi64)), false⟩)]⟩) (pre := fun s => s = y98) ?_ ?_
  · rintro ⟨x96, x97⟩ rfl
    have h := hk100
    refine a_st (σ' := ⟨[(10, (.osl 10)), (11, (.osl 11))], [(10, some ⟨(.row 1 (x96.map eSi64)), false⟩), (11, some ⟨(.row 1 (x97.map eSi64)), false⟩)]⟩) (by kernel_rfl) ?_
    refine a_seq ?_
    refine a_region ?_
    refine a_val (v := (.osl 10)) (u := []) rfl trivial rfl ?_
    refine a_val (v := (.osl 11)) (u := []) rfl trivial rfl ?_
    refine a_val (v := (eSSi64 x96)) (u := [(10, some ⟨(.row 1 (x96.map eSi64)), true⟩)]) rfl trivial rfl ?_
    refine a_val (v := (eSSi64 x97)) (u := [(11, some ⟨(.row 1 (x97.map eSi64)), true⟩)]) rfl trivial rfl ?_
    refine a_nil ?_
    refine a_next rfl ?_
    refine a_ret ?_
    refine ⟨.inr rfl, ?_⟩
    rw [Try.results81]
    cases h
    exact ⟨_, _, _, _, _, rfl, trivial, .inl ⟨rfl, .inl rfl⟩, rfl, ⟨_, _, _, _, _, rfl, trivial, .inl ⟨rfl, .inl rfl⟩, rfl, rfl⟩⟩
  · have h := hy99
    refine a_seq ?_
    refine a_region ?_
    refine a_val (v := (eSSi64 a1)) (u := []) rfl trivial rfl ?_
    refine a_val (v := (.int .i64 (a1.length : Int))) (u := []) (len_run rfl rfl) trivial rfl ?_
    refine a_val (v := (.int .i64 0)) (u := []) rfl trivial rfl ?_
    refine a_nil ?_
    refine a_next (σ' := ⟨[(0, (.int .i64 a0)), (6, (eSi64 ([1]))), (7, (eSi64 ([]))), (8, (eSi64 ([]))), (9, (eSi64 ([1]))), (10, (.osl 10)), (11, (.osl 11)), (16, (eSSi64 a1)), (17, (.int .i64 (a1.length : Int))), (18, (.int .i64 0))], [(10, some ⟨(.row 1 (([]).map eSi64)), false⟩), (11, some ⟨(.row 1 (([]).map eSi64)), false⟩)]⟩) (by kernel_rfl) ?_
    refine a_block ?_
    refine a_loop (emb := fun (s : ((List Int) × (List Int) × (List Int) × (List Int) × Int × (List (List Int)) × (List (List Int)))) => ⟨[(0, (.int .i64 a0)), (6, (eSi64 s.1)), (7, (eSi64 s.2.1)), (8, (eSi64 s.2.2.1)), (9, (eSi64 s.2.2.2.1)), (10, (.osl 10)), (11, (.osl 11)), (16, (eSSi64 a1)), (17, (.int .i64 (a1.length : Int))), (18, (.int .i64 s.2.2.2.2.1))], [(10, some ⟨(.row 1 (s.2.2.2.2.2.1.map eSi64)), false⟩), (11, some ⟨(.row 1 (s.2.2.2.2.2.2.map eSi64)), false⟩)]⟩) (body := (fun s : ((List Int) × (List Int) × (List Int) × (List Int) × Int × (List (List Int)) × (List (List Int))) => impl_prime_convergents_l1 a1 a0 s.1 s.2.1 s.2.2.1 s.2.2.2.1 s.2.2.2.2.1 s.2.2.2.2.2.1 s.2.2.2.2.2.2)) (G := fun q => some q = some y98) h rfl ?_ (by kernel_rfl)
    rintro X164 ⟨x129, x130, x131, x132, x133, x134, x135⟩ x165 h hX166
    have h : impl_prime_convergents_l1 a1 a0 x129 x130 x131 x132 x133 x134 x135 = some x165 := h
    refine a_st (σ' := ⟨[(0, (.int .i64 a0)), (6, (eSi64 x129)), (7, (eSi64 x130)), (8, (eSi64 x131)), (9, (eSi64 x132)), (10, (.osl 10)), (11, (.osl 11)), (16, (eSSi64 a1)), (17, (.int .i64 (a1.length : Int))), (18, (.int .i64 x133))], [(10, some ⟨(.row 1 (x134.map eSi64)), false⟩), (11, some ⟨(.row 1 (x135.map eSi64)), false⟩)]⟩) (by kernel_rfl) ?_
    refine a_seq ?_
    refine a_region ?_
    refine a_val (v := (.bool ((decide (x133 < (a1.length : Int)))))) (u := []) rfl trivial rfl ?_
    refine a_nil ?_
    refine a_next (σ' := ⟨[(0, (.int .i64 a0)), (6, (eSi64 x129)), (7, (eSi64 x130)), (8, (eSi64 x131)), (9, (eSi64 x132)), (10, (.osl 10)), (11, (.osl 11)), (16, (eSSi64 a1)), (17, (.int .i64 (a1.length : Int))), (18, (.int .i64 x133)), (19, (.bool ((decide (x133 < (a1.length : Int))))))], [(10, some ⟨(.row 1 (x134.map eSi64)), false⟩), (11, some ⟨(.row 1 (x135.map eSi64)), false⟩)]⟩) (by kernel_rfl) ?_
    refine a_seq ?_
    cases hb167 : (decide (x133 < (a1.length : Int)))
    · have h := ite_f hb167 h
      refine a_cond_f rfl ?_
      refine a_exit ?_
      refine t_exit ?_
      cases h
      have h := hX166
      refine t_exit ?_
      refine b_exit ?_
      exact j_leaf (x134, x135) (Option.some.inj h) (by kernel_rfl)
    · have h := ite_t hb167 h
      refine a_cond_t rfl ?_
      refine a_skip ?_
      refine a_next (σ' := ⟨[(0, (.int .i64 a0)), (6, (eSi64 x129)), (7, (eSi64 x130)), (8, (eSi64 x131)), (9, (eSi64 x132)), (10, (.osl 10)), (11, (.osl 11)), (16, (eSSi64 a1)), (17, (.int .i64 (a1.length : Int))), (18, (.int .i64 x133))], [(10, some ⟨(.row 1 (x134.map eSi64)), false⟩), (11, some ⟨(.row 1 (x135.map eSi64)), false⟩)]⟩) (by kernel_rfl) ?_
      refine a_seq ?_
      refine a_block ?_
      refine a_seq ?_
      refine a_region ?_
      obtain ⟨hc168, h⟩ := ifp_some h
      refine a_val (v := (.ref (.row 1 (a1.map eSi64)) [x133.toNat] [x133.toNat * 1])) (u := []) rfl (lmap hc168) rfl ?_
      have hl169 : LdOk [x133.toNat] (.row 1 (a1.map eSi64)) [x133.toNat * 1] 1 false (eSi64 (rd a1 x133.toNat)) := (.row (llt hc168) rfl (.nil rfl rfl rfl))
      refine a_val (v := (eSi64 (rd a1 x133.toNat))) (u := []) (ld_ref (i := ⟨.slice 2, 1, 24, (eSi64 [])⟩) rfl rfl hl169) hl169.c rfl ?_
      refine a_val (v := (eSi64 (rd a1 x133.toNat))) (u := []) rfl trivial rfl ?_
      refine a_nil ?_
      refine a_next (σ' := ⟨[(0, (.int .i64 a0)), (6, (eSi64 x129)), (7, (eSi64 x130)), (8, (eSi64 x131)), (9, (eSi64 x132)), (10, (.osl 10)), (11, (.osl 11)), (13, (eSi64 (rd a1 x133.toNat))), (16, (eSSi64 a1)), (17, (.int .i64 (a1.length : Int))), (18, (.int .i64 x133))], [(10, some ⟨(.row 1 (x134.map eSi64)), false⟩), (11, some ⟨(.row 1 (x135.map eSi64)), false⟩)]⟩) (by kernel_rfl) ?_
      refine a_seq ?_
      refine a_region ?_
      refine a_val (v := (.int .i64 a0)) (u := []) rfl trivial rfl ?_
      refine a_val (v := (.int .i64 a0)) (u := []) rfl trivial rfl ?_
      refine a_val (v := (eSi64 (rd a1 x133.toNat))) (u := []) rfl trivial rfl ?_
      refine a_val (v := (eSi64 x129)) (u := []) rfl trivial rfl ?_
      obtain ⟨r170, hr171, h⟩ := bind_some h
      refine a_call (args := [(.int .i64 a0), (eSi64 (rd a1 x133.toNat)), (eSi64 x129)]) (u := []) (r := (eSi64 r170)) rfl rfl (impl_prime_times_ok a0 (rd a1 x133.toNat) x129 r170 hr171) rfl ?_
      refine a_val (v := (eSi64 x131)) (u := []) rfl trivial rfl ?_
      obtain ⟨r172, hr173, h⟩ := bind_some h
      refine a_call (args := [(.int .i64 a0), (eSi64 r170), (eSi64 x131), (.int .i64 1)]) (u := []) (r := (eSi64 r172)) rfl rfl (impl_prime_combine_ok a0 r170 x131 1 r172 hr173) rfl ?_
      refine a_val (v := (eSi64 x129)) (u := []) rfl trivial rfl ?_
      refine a_val (v := (eSi64 r172)) (u := []) rfl trivial rfl ?_
      refine a_val (v := (eSi64 x129)) (u := []) rfl trivial rfl ?_
      refine a_nil ?_
      refine a_next (σ' := ⟨[(0, (.int .i64 a0)), (6, (eSi64 r172)), (7, (eSi64 x130)), (8, (eSi64 x129)), (9, (eSi64 x132)), (10, (.osl 10)), (11, (.osl 11)), (13, (eSi64 (rd a1 x133.toNat))), (16, (eSSi64 a1)), (17, (.int .i64 (a1.length : Int))), (18, (.int .i64 x133))], [(10, some ⟨(.row 1 (x134.map eSi64)), false⟩), (11, some ⟨(.row 1 (x135.map eSi64)), false⟩)]⟩) (by kernel_rfl) ?_
      refine a_seq ?_
      refine a_region ?_
      refine a_val (v := (.int .i64 a0)) (u := []) rfl trivial rfl ?_
      refine a_val (v := (.int .i64 a0)) (u := []) rfl trivial rfl ?_
      refine a_val (v := (eSi64 (rd a1 x133.toNat))) (u := []) rfl trivial rfl ?_
      refine a_val (v := (eSi64 x130)) (u := []) rfl trivial rfl ?_
      obtain ⟨r174, hr175, h⟩ := bind_some h
      refine a_call (args := [(.int .i64 a0), (eSi64 (rd a1 x133.toNat)), (eSi64 x130)]) (u := []) (r := (eSi64 r174)) rfl rfl (impl_prime_times_ok a0 (rd a1 x133.toNat) x130 r174 hr175) rfl ?_
      refine a_val (v := (eSi64 x132)) (u := []) rfl trivial rfl ?_
      obtain ⟨r176, hr177, h⟩ := bind_some h
      refine a_call (args := [(.int .i64 a0), (eSi64 r174), (eSi64 x132), (.int .i64 1)]) (u := []) (r := (eSi64 r176)) rfl rfl (impl_prime_combine_ok a0 r174 x132 1 r176 hr177) rfl ?_
      refine a_val (v := (eSi64 x130)) (u := []) rfl trivial rfl ?_
      refine a_val (v := (eSi64 r176)) (u := []) rfl trivial rfl ?_
      refine a_val (v := (eSi64 x130)) (u := []) rfl trivial rfl ?_
      refine a_nil ?_
      refine a_next (σ' := ⟨[(0, (.int .i64 a0)), (6, (eSi64 r172)), (7, (eSi64 r176)), (8, (eSi64 x129)), (9, (eSi64 x130)), (10, (.osl 10)), (11, (.osl 11)), (16, (eSSi64 a1)), (17, (.int .i64 (a1.length : Int))), (18, (.int .i64 x133))], [(10, some ⟨(.row 1 (x134.map eSi64)), false⟩), (11, some ⟨(.row 1 (x135.map eSi64)), false⟩)]⟩) (by kernel_rfl) ?_
      refine a_seq ?_
      obtain ⟨y184, hy185, hk186⟩ := bind_some h
      clear h
      refine a_join (emb := fun (s : Bool) => ⟨[(0, (.int .i64 a0)), (6, (eSi64 r172)), (7, (eSi64 r176)), (8, (eSi64 x129)), (9, (eSi64 x130)), (10, (.osl 10)), (11, (.osl 11)), (16, (eSSi64 a1)), (17, (.int .i64 (a1.length : Int))), (18, (.int .i64 x133)), (45, (.bool s))], [(10, some ⟨(.row 1 (x134.map eSi64)), false⟩), (11, some ⟨(.row 1 (x135.map eSi64)), false⟩)]⟩) (pre := fun s => s = y184) ?_ ?_
      · rintro x183 rfl
        have h := hk186
        refine a_st (σ' := ⟨[(0, (.int .i64 a0)), (6, (eSi64 r172)), (7, (eSi64 r176)), (8, (eSi64 x129)), (9, (eSi64 x130)), (10, (.osl 10)), (11, (.osl 11)), (16, (eSSi64 a1)), (17, (.int .i64 (a1.length : Int))), (18, (.int .i64 x133)), (45, (.bool x183))], [(10, some ⟨(.row 1 (x134.map eSi64)), false⟩), (11, some ⟨(.row 1 (x135.map eSi64)), false⟩)]⟩) (by kernel_rfl) ?_
        cases hb192 : x183
        · have h := ite_f hb192 h
          refine a_cond_f rfl ?_
          refine a_skip ?_
          refine a_next (σ' := ⟨[(0, (.int .i64 a0)), (6, (eSi64 r172)), (7, (eSi64 r176)), (8, (eSi64 x129)), (9, (eSi64 x130)), (10, (.osl 10)), (11, (.osl 11)), (16, (eSSi64 a1)), (17, (.int .i64 (a1.length : Int))), (18, (.int .i64 x133))], [(10, some ⟨(.row 1 (x134.map eSi64)), false⟩), (11, some ⟨(.row 1 (x135.map eSi64)), false⟩)]⟩) (by kernel_rfl) ?_
          refine a_region ?_
          refine a_val (v := (.osl 10)) (u := []) rfl trivial rfl ?_
          refine a_val (v := (eSi64 r172)) (u := []) rfl trivial rfl ?_
          refine a_val (v := (.sl 1 true (([r172]).map eSi64))) (u := []) rfl ⟨(Nat.le_of_ble_eq_true rfl), (Nat.le_of_ble_eq_true rfl), (all_cons ⟨(Nat.le_of_ble_eq_true rfl), rfl⟩ all_nil)⟩ rfl ?_
          obtain ⟨hc193, h⟩ := ifp_some h
          refine a_val (v := (.osl 5900)) (u := [(5900, some ⟨(.row 1 (((x134 ++ ([r172]))).map eSi64)), false⟩), (10, none)]) (app_run (i := ⟨.slice 2, 1, 24, (eSi64 [])⟩) (f := eSi64) (l := x134) (l2 := [r172]) rfl rfl rfl rfl (fun _ => rfl) rfl rfl) (app_c (f := eSi64) (s := 1) (sz := 1) (by' := 24) (u := []) (id := 10) hc193 (.inr rfl) rfl rfl rfl) rfl ?_
          refine a_val (v := (.osl 11)) (u := []) rfl trivial rfl ?_
          refine a_val (v := (eSi64 r176)) (u := []) rfl trivial rfl ?_
          refine a_val (v := (.sl 1 true (([r176]).map eSi64))) (u := []) rfl ⟨(Nat.le_of_ble_eq_true rfl), (Nat.le_of_ble_eq_true rfl), (all_cons ⟨(Nat.le_of_ble_eq_true rfl), rfl⟩ all_nil)⟩ rfl ?_
          obtain ⟨hc194, h⟩ := ifp_some h
          refine a_val (v := (.osl 6300)) (u := [(6300, some ⟨(.row 1 (((x135 ++ ([r176]))).map eSi64)), false⟩), (11, none)]) (app_run (i := ⟨.slice 2, 1, 24, (eSi64 [])⟩) (f := eSi64) (l := x135) (l2 := [r176]) rfl rfl rfl rfl (fun _ => rfl) rfl rfl) (app_c (f := eSi64) (s := 1) (sz := 1) (by' := 24) (u := []) (id := 11) hc194 (.inr rfl) rfl rfl rfl) rfl ?_
          refine a_val (v := (.osl 5900)) (u := []) rfl trivial rfl ?_
          refine a_val (v := (.osl 6300)) (u := []) rfl trivial rfl ?_
          refine a_nil ?_
          refine b_norm ?_
          refine a_next (σ' := ⟨[(0, (.int .i64 a0)), (6, (eSi64 r172)), (7, (eSi64 r176)), (8, (eSi64 x129)), (9, (eSi64 x130)), (10, (.osl 10)), (11, (.osl 11)), (16, (eSSi64 a1)), (17, (.int .i64 (a1.length : Int))), (18, (.int .i64 x133))], [(10, some ⟨(.row 1 (((x134 ++ ([r172]))).map eSi64)), false⟩), (11, some ⟨(.row 1 (((x135 ++ ([r176]))).map eSi64)), false⟩)]⟩) (by kernel_rfl) ?_
          refine a_region ?_
          refine a_val (v := (.int .i64 (IntKind.i64.wrap (x133 + 1)))) (u := []) rfl trivial rfl ?_
          refine a_val (v := (.int .i64 (IntKind.i64.wrap (x133 + 1)))) (u := []) rfl trivial rfl ?_
          refine a_nil ?_
          cases h
          exact a_again (by kernel_rfl) hX166
        · have h := ite_t hb192 h
          refine a_cond_t rfl ?_
          refine a_exit ?_
          refine t_exit ?_
          refine b_other rfl ?_
          refine t_exit ?_
          cases h
          have h := hX166
          refine t_exit ?_
          refine b_exit ?_
          exact j_leaf (x134, x135) (Option.some.inj h) (by kernel_rfl)
      · have h := hy185
        refine a_region ?_
        refine a_val (v := (eSi64 r172)) (u := []) rfl trivial rfl ?_
        obtain ⟨r187, hr188, h⟩ := bind_some h
        refine a_call (args := [(eSi64 r172)]) (u := []) (r := (.bool r187)) rfl rfl (impl_row_fits_ok r172 r187 hr188) rfl ?_
        refine a_val (v := (.bool (!r187))) (u := []) rfl trivial rfl ?_
        refine a_val (v := (.bool (!r187))) (u := []) rfl trivial rfl ?_
        cases hb189 : (!r187)
        · have h := ite_f hb189 h
          refine a_gval rfl (v := (eSi64 r176)) (u := []) rfl trivial rfl ?_
          obtain ⟨r190, hr191, h⟩ := bind_some h
          refine a_gcall rfl (args := [(eSi64 r176)]) (u := []) (r := (.bool r190)) rfl rfl (impl_row_fits_ok r176 r190 hr191) rfl ?_
          refine a_gval rfl (v := (.bool (!r190))) (u := []) rfl trivial rfl ?_
          refine a_val (v := (.bool (!r190))) (u := []) rfl trivial rfl ?_
          refine a_nil ?_
          exact j_leaf (!r190) (Option.some.inj h) (by kernel_rfl)
        · have h := ite_t hb189 h
          refine a_gskip rfl ?_
          refine a_gskip rfl ?_
          refine a_gskip rfl ?_
          refine a_val (v := (.bool true)) (u := []) rfl trivial rfl ?_
          refine a_nil ?_
          exact j_leaf true (Option.some.inj h) (by kernel_rfl)
def impl_row_poly_c : ACode := (.seq (.region 0 [⟨some 2, .alloc 23, none, []⟩] false) (.seq (.region 1 [⟨some 3, .alloc 23, none, []⟩] false) (.seq (.seq (.region 2 [⟨some 6, .mov (.tmp 0), none, []⟩, ⟨some 7, .blt 0 .len [(.tmp 6)] [64], none, []⟩, ⟨some 8, .mov (.const (.int .i64 0)), none, []⟩] false) (.block 0 (.loop (.seq (.region 3 [⟨some 9, .bin .lss 3 (.tmp 8) (.tmp 7), none, []⟩] false) (.seq (.cond (.tmp 9) .skip (.exit 0)) (.seq (.block 1 (.seq (.region 4 [⟨some 10, .mov (.tmp 8), none, []⟩, ⟨some 11, .indexAddr 64 (.tmp 6) (.tmp 8), none, []⟩, ⟨some 12, .load 2 (.tmp 11), none, []⟩, ⟨some 4, .asg 0 (.tmp 10) 3, none, []⟩, ⟨some 5, .asg 0 (.tmp 12) 2, none, []⟩] false) (.region 5 [⟨some 13, .mov (.tmp 4), none, []⟩, ⟨some 14, .mov (.tmp 5), none, []⟩, ⟨some 15, .conv 2 5 (.tmp 14), none, []⟩, ⟨some 16, .indexAddr 23 (.tmp 3) (.tmp 13), none, []⟩, ⟨none, .store 5 (.tmp 16) (.tmp 15), none, []⟩] false))) (.region 6 [⟨some 17, .bin .add 3 (.tmp 8) (.const (.int .i64 1)), none, []⟩, ⟨some 8, .mov (.tmp 17), none, []⟩] false))))))) (.seq (.region 7 [⟨some 18, .load 23 (.tmp 3), none, []⟩, ⟨none, .store 23 (.tmp 2) (.tmp 18), none, []⟩] false) .ret))))
def impl_row_poly_L : Live := [(0, [0]), (1, [0, 2]), (2, [0, 2, 3]), (3, [2, 3, 6, 7, 8]), (4, [2, 3, 6, 7, 8]), (5, [2, 3, 4, 5, 6, 7, 8]), (6, [2, 3, 6, 7, 8]), (7, [2, 3]), (100009, [2, 3, 6, 7, 8, 9])]
theorem impl_row_poly_body : Try.f101.body = some (Try.f101.body.getD .skip) := by kernel_rfl
theorem impl_row_poly_strip : strip [] (Try.f101.body.getD .skip) = impl_row_poly_c := by kernel_rfl
noncomputable def impl_row_poly_l1 (a0 : (List Int)) (x31 : Int) (x32 : (Vec Int 64)) : Option ((Int × (Vec Int 64)) ⊕ (Vec Int 64)) :=
  (if (decide (x31 < (a0.length : Int))) then (ifp (0 ≤ x31 ∧ x31 < ((a0.length : Nat) : Int)) ((ifp (0 ≤ x31 ∧ x31 < ((64 : Nat) : Int)) ((some (.inl ((IntKind.i64.wrap (x31 + 1), (vset x32 x31.toNat (IntKind.u8.wrap (rd a0 x31.toNat))))))))))) else (some (.inr x32)))
noncomputable def impl_row_poly (a0 : (List Int)) : Option (Vec Int 64) :=
  (Option.bind (α := (Vec Int 64)) ((loopM (fun s : (Int × (Vec Int 64)) => impl_row_poly_l1 a0 s.1 s.2) (0, (vrep 64 (0 : Int))))) fun x22 => (some x22))
set_option maxHeartbeats 16000000 in
theorem impl_row_poly_ok (a0 : (List Int)) (r : (Vec Int 64)) (h : impl_row_poly a0 = some r) : Den Try.prog 101 [(eSi64 a0)] { r := (eA64u8 r) } := by
  refine den_of (rs := [(eA64u8 r)]) (ac := impl_row_poly_c) (L := impl_row_poly_L) (n := 19) (m := []) good Try.func101 impl_row_poly_body (by kernel_rfl) Try.ntmps101 rfl rfl impl_row_poly_strip rfl rfl ?_
  refine a_st (σ' := ⟨[(0, (eSi64 a0))], []⟩) (by kernel_rfl) ?_
  unfold impl_row_poly_c
  refine a_seq ?_
  refine a_region ?_
  refine a_val (v := (.own 1200 [] [])) (u := [(1200, some ⟨(eA64u8 ((vrep 64 (0 : Int)))), false⟩)]) rfl trivial rfl ?_
  refine a_nil ?_
  refine a_next (σ' := ⟨[(0, (eSi64 a0)), (2, (.own 2 [] []))], [(2, some ⟨(eA64u8 ((vrep 64 (0 : Int)))), false⟩)]⟩) (by kernel_rfl) ?_
  refine a_seq ?_
  refine a_region ?_
  refine a_val (v := (.own 1300 [] [])) (u := [(1300, some ⟨(eA64u8 ((vrep 64 (0 : Int)))), false⟩)]) rfl trivial rfl ?_
  refine a_nil ?_
  refine a_next (σ' := ⟨[(0, (eSi64 a0)), (2, (.own 2 [] [])), (3, (.own 3 [] []))], [(2, some ⟨(eA64u8 ((vrep 64 (0 : Int)))), false⟩), (3, some ⟨(eA64u8 ((vrep 64 (0 : Int)))), false⟩)]⟩) (by kernel_rfl) ?_
  obtain ⟨y23, hy24, hk25⟩ := bind_some h
  clear h
  refine a_join (emb := fun (s : (Vec Int 64)) => ⟨[(2, (.own 2 [] [])), (3, (.own 3 [] []))], [(2, some ⟨(eA64u8 ((vrep 64 (0 : Int)))), false⟩), (3, some ⟨(eA64u8 s), false⟩)]⟩) (pre := fun s => s = y23) ?_ ?_
  · rintro x22 rfl
    have h := hk25
    refine a_st (σ' := ⟨[(2, (.own 2 [] [])), (3, (.own 3 [] []))], [(2, some ⟨(eA64u8 ((vrep 64 (0 : Int)))), false⟩), (3, some ⟨(eA64u8 x22), false⟩)]⟩) (by kernel_rfl) ?_
    refine a_seq ?_
    refine a_region ?_
    have hl47 : LdOk [] (eA64u8 x22) [] 64 true (eA64u8 x22) := (.nil rfl rfl rfl)
    refine a_val (v := (eA64u8 x22)) (u := []) (ld_own (i := ⟨.arr 64 5, 64, 64, (eA64u8 (vrep 64 (0 : Int)))⟩) rfl rfl rfl hl47) hl47.c rfl ?_
    have hs48 : StOk [] (eA64u8 ((vrep 64 (0 : Int)))) [] 64 (eA64u8 x22) (eA64u8 x22) := (.nil rfl rfl rfl rfl)
    refine a_val (v := .top) (u := [(2, some ⟨(eA64u8 x22), false⟩)]) (st_own (i := ⟨.arr 64 5, 64, 64, (eA64u8 (vrep 64 (0 : Int)))⟩) rfl rfl (fun _ => rfl) rfl hs48) (hs48.c rfl) rfl ?_
    refine a_nil ?_
    refine a_next rfl ?_
    refine a_ret ?_
    have hl49 : LdOk [] (eA64u8 x22) [] 64 true (eA64u8 x22) := (.nil rfl rfl rfl)
    refine ⟨.inr rfl, ?_⟩
    rw [Try.results101]
    cases h
    exact ⟨_, _, _, _, _, ld_own (i := ⟨.arr 64 5, 64, 64, (eA64u8 (vrep 64 (0 : Int)))⟩) rfl rfl rfl hl49, hl49.c, .inl ⟨rfl, .inl rfl⟩, rfl, rfl⟩
  · have h := hy24
    refine a_seq ?_
    refine a_region ?_
    refine a_val (v := (eSi64 a0)) (u := []) rfl trivial rfl ?_
    refine a_val (v := (.int .i64 (a0.length : Int))) (u := []) (len_run rfl rfl) trivial rfl ?_
    refine a_val (v := (.int .i64 0)) (u := []) rfl trivial rfl ?_
    refine a_nil ?_
    refine a_next (σ' := ⟨[(2, (.own 2 [] [])), (3, (.own 3 [] [])), (6, (eSi64 a0)), (7, (.int .i64 (a0.length : Int))), (8, (.int .i64 0))], [(2, some ⟨(eA64u8 ((vrep 64 (0 : Int)))), false⟩), (3, some ⟨(eA64u8 ((vrep 64 (0 : Int)))), false⟩)]⟩) (by kernel_rfl) ?_
    refine a_block ?_
    refine a_loop (emb := fun (s : (Int × (Vec Int 64))) => ⟨[(2, (.own 2 [] [])), (3, (.own 3 [] [])), (6, (eSi64 a0)), (7, (.int .i64 (a0.length : Int))), (8, (.int .i64 s.1))], [(2, some ⟨(eA64u8 ((vrep 64 (0 : Int)))), false⟩), (3, some ⟨(eA64u8 s.2), false⟩)]⟩) (body := (fun s : (Int × (Vec Int 64)) => impl_row_poly_l1 a0 s.1 s.2)) (G := fun q => some q = some y23) h rfl ?_ (by kernel_rfl)
    rintro X38 ⟨x31, x32⟩ x39 h hX40
    have h : impl_row_poly_l1 a0 x31 x32 = some x39 := h
    refine a_st (σ' := ⟨[(2, (.own 2 [] [])), (3, (.own 3 [] [])), (6, (eSi64 a0)), (7, (.int .i64 (a0.length : Int))), (8, (.int .i64 x31))], [(2, some ⟨(eA64u8 ((vrep 64 (0 : Int)))), false⟩), (3, some ⟨(eA64u8 x32), false⟩)]⟩) (by kernel_rfl) ?_
    refine a_seq ?_
    refine a_region ?_
    refine a_val (v := (.bool ((decide (x31 < (a0.length : Int)))))) (u := []) rfl trivial rfl ?_
    refine a_nil ?_
    refine a_next (σ' := ⟨[(2, (.own 2 [] [])), (3, (.own 3 [] [])), (6, (eSi64 a0)), (7, (.int .i64 (a0.length : Int))), (8, (.int .i64 x31)), (9, (.bool ((decide (x31 < (a0.length : Int))))))], [(2, some ⟨(eA64u8 ((vrep 64 (0 : Int)))), false⟩), (3, some ⟨(eA64u8 x32), false⟩)]⟩) (by kernel_rfl) ?_
    refine a_seq ?_
    cases hb41 : (decide (x31 < (a0.length : Int)))
    · have h := ite_f hb41 h
      refine a_cond_f rfl ?_
      refine a_exit ?_
      refine t_exit ?_
      cases h
      have h := hX40
      refine t_exit ?_
      refine b_exit ?_
      exact j_leaf x32 (Option.some.inj h) (by kernel_rfl)
    · have h := ite_t hb41 h
      refine a_cond_t rfl ?_
      refine a_skip ?_
      refine a_next (σ' := ⟨[(2, (.own 2 [] [])), (3, (.own 3 [] [])), (6, (eSi64 a0)), (7, (.int .i64 (a0.length : Int))), (8, (.int .i64 x31))], [(2, some ⟨(eA64u8 ((vrep 64 (0 : Int)))), false⟩), (3, some ⟨(eA64u8 x32), false⟩)]⟩) (by kernel_rfl) ?_
      refine a_seq ?_
      refine a_block ?_
      refine a_seq ?_
      refine a_region ?_
      refine a_val (v := (.int .i64 x31)) (u := []) rfl trivial rfl ?_
      obtain ⟨hc42, h⟩ := ifp_some h
      refine a_val (v := (.ref (.row 1 (a0.map (AV.int .i64))) [x31.toNat] [x31.toNat * 1])) (u := []) rfl (lmap hc42) rfl ?_
      have hl43 : LdOk [x31.toNat] (.row 1 (a0.map (AV.int .i64))) [x31.toNat * 1] 1 false (.int .i64 (rd a0 x31.toNat)) := (.row (llt hc42) rfl (.nil rfl rfl rfl))
      refine a_val (v := (.int .i64 (rd a0 x31.toNat))) (u := []) (ld_ref (i := ⟨.int .i64, 1, 8, (.int .i64 0)⟩) rfl rfl hl43) hl43.c rfl ?_
      refine a_val (v := (.int .i64 x31)) (u := []) rfl trivial rfl ?_
      refine a_val (v := (.int .i64 (rd a0 x31.toNat))) (u := []) rfl trivial rfl ?_
      refine a_nil ?_
      refine a_next (σ' := ⟨[(2, (.own 2 [] [])), (3, (.own 3 [] [])), (4, (.int .i64 x31)), (5, (.int .i64 (rd a0 x31.toNat))), (6, (eSi64 a0)), (7, (.int .i64 (a0.length : Int))), (8, (.int .i64 x31))], [(2, some ⟨(eA64u8 ((vrep 64 (0 : Int)))), false⟩), (3, some ⟨(eA64u8 x32), false⟩)]⟩) (by kernel_rfl) ?_
      refine a_region ?_
      refine a_val (v := (.int .i64 x31)) (u := []) rfl trivial rfl ?_
      refine a_val (v := (.int .i64 (rd a0 x31.toNat))) (u := []) rfl trivial rfl ?_
      refine a_val (v := (.int .u8 (IntKind.u8.wrap (rd a0 x31.toNat)))) (u := []) rfl trivial rfl ?_
      obtain ⟨hc44, h⟩ := ifp_some h
      refine a_val (v := (.own 3 [x31.toNat] [x31.toNat * 1])) (u := []) rfl hc44 rfl ?_
      have hs45 : StOk [x31.toNat] (eA64u8 x32) [x31.toNat * 1] 1 (.int .u8 (IntKind.u8.wrap (rd a0 x31.toNat))) (eA64u8 ((vset x32 x31.toNat (IntKind.u8.wrap (rd a0 x31.toNat))))) := (.arr (y := IntKind.u8.wrap (rd a0 x31.toNat)) (vlt x32 hc44) rfl (.nil rfl rfl rfl rfl))
      refine a_val (v := .top) (u := [(3, some ⟨(eA64u8 ((vset x32 x31.toNat (IntKind.u8.wrap (rd a0 x31.toNat))))), false⟩)]) (st_own (i := ⟨.int .u8, 1, 1, (.int .u8 0)⟩) rfl rfl (fun _ => rfl) rfl hs45) (hs45.c rfl) rfl ?_
      refine a_nil ?_
      refine b_norm ?_
      refine a_next (σ' := ⟨[(2, (.own 2 [] [])), (3, (.own 3 [] [])), (6, (eSi64 a0)), (7, (.int .i64 (a0.length : Int))), (8, (.int .i64 x31))], [(2, some ⟨(eA64u8 ((vrep 64 (0 : Int)))), false⟩), (3, some ⟨(eA64u8 ((vset x32 x31.toNat (IntKind.u8.wrap (rd a0 x31.toNat))))), false⟩)]⟩) (by kernel_rfl) ?_
      refine a_region ?_
      refine a_val (v := (.int .i64 (IntKind.i64.wrap (x31 + 1)))) (u := []) rfl trivial rfl ?_
      refine a_val (v := (.int .i64 (IntKind.i64.wrap (x31 + 1)))) (u := []) rfl trivial rfl ?_
      refine a_nil ?_
      cases h
      exact a_again (by kernel_rfl) hX40
end Go.Proofs.Ytgodhgbnjlflmaa
