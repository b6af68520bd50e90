/- Functions of the program: plain Lean functions, and that the program computes them. Printed by gen.py. -/
import Derived.Test.YtgodhgbnjlflmaaFnT
import Derived.Test.YtgodhgbnjlflmaaFn3
namespace Go.Proofs.Ytgodhgbnjlflmaa
open Go.Abs Go.Proofs
set_option linter.unusedSimpArgs false
set_option linter.unusedVariables false
attribute [local irreducible] Abs.acode Abs.aops Abs.aopsT Abs.thenK Abs.blockK

def impl_prime_numbered_c : ACode := (.seq (.region 0 [⟨some 4, .asg 1 (.const (.slice none 0 0)) 64, none, []⟩] false) (.seq (.region 1 [⟨some 5, .asg 2 (.const (.slice none 0 0)) 64, none, []⟩] false) (.seq (.block 0 (.loop (.seq (.seq (.region 2 [⟨some 6, .mov (.tmp 1), none, []⟩, ⟨some 7, .bin .gtr 2 (.tmp 6) (.const (.int .i64 0)), none, []⟩] false) (.cond (.tmp 7) .skip (.exit 0))) (.seq (.block 1 (.region 4 [⟨some 11, .mov (.tmp 5), none, []⟩, ⟨some 12, .mov (.tmp 1), none, []⟩, ⟨some 13, .mov (.tmp 0), none, []⟩, ⟨some 14, .bin .rem 2 (.tmp 12) (.tmp 13), none, []⟩, ⟨some 15, .bslice 0 64 1 [(0, (.tmp 14))], none, []⟩, ⟨some 16, .blt 0 .append [(.tmp 11), (.tmp 15)] [64, 64], none, []⟩, ⟨some 5, .asg 2 (.tmp 16) 64, none, []⟩] false)) (.region 3 [⟨some 8, .mov (.tmp 1), none, []⟩, ⟨some 9, .mov (.tmp 0), none, []⟩, ⟨some 10, .bin .quo 2 (.tmp 8) (.tmp 9), none, []⟩, ⟨some 1, .asg 0 (.tmp 10) 2, none, []⟩] false))))) (.seq (.region 5 [⟨some 17, .mov (.tmp 5), none, []⟩, ⟨some 4, .asg 1 (.tmp 17) 64, none, []⟩] false) .ret))))
def impl_prime_numbered_L : Live := [(0, [0, 1]), (1, [0, 1]), (2, [0, 1, 5]), (3, [0, 1, 5]), (4, [0, 1, 5]), (5, [5]), (100007, [0, 1, 5, 7])]
theorem impl_prime_numbered_body : Try.f64.body = some (Try.f64.body.getD .skip) := by kernel_rfl
theorem impl_prime_numbered_strip : strip [(4, 1), (5, 2)] (Try.f64.body.getD .skip) = impl_prime_numbered_c := by kernel_rfl
noncomputable def impl_prime_numbered_l1 (a0 : Int) (x27 : Int) (x28 : (List Int)) : Option ((Int × (List Int)) ⊕ (List Int)) :=
  (if (decide (x27 > 0)) then (ifp (a0 ≠ 0) ((ifp ((x28.length + ([Int.tmod x27 a0] : List Int).length) * 8 ≤ 140737488355328) ((ifp (a0 ≠ 0) ((some (.inl ((IntKind.i64.wrap (Int.tdiv x27 a0), (x28 ++ ([Int.tmod x27 a0])))))))))))) else (some (.inr x28)))
noncomputable def impl_prime_numbered (a0 : Int) (a1 : Int) : Option (List Int) :=
  (Option.bind (α := (List Int)) ((loopM (fun s : (Int × (List Int)) => impl_prime_numbered_l1 a0 s.1 s.2) (a1, []))) fun x19 => (some x19))
set_option maxHeartbeats 16000000 in
theorem impl_prime_numbered_ok (a0 : Int) (a1 : Int) (r : (List Int)) (h : impl_prime_numbered a0 a1 = some r) : Den Try.prog 64 [(.int .i64 a0), (.int .i64 a1)] { r := (eSi64 r) } := by
  refine den_of (rs := [(eSi64 r)]) (ac := impl_prime_numbered_c) (L := impl_prime_numbered_L) (n := 18) (m := [(4, 1), (5, 2)]) good Try.func64 impl_prime_numbered_body (by kernel_rfl) Try.ntmps64 rfl rfl impl_prime_numbered_strip rfl rfl ?_
  refine a_st (σ' := ⟨[(0, (.int .i64 a0)), (1, (.int .i64 a1))], []⟩) (by kernel_rfl) ?_
  unfold impl_prime_numbered_c
  refine a_seq ?_
  refine a_region ?_
  refine a_val (v := (eSi64 ([]))) (u := []) rfl trivial rfl ?_
  refine a_nil ?_
  refine a_next (σ' := ⟨[(0, (.int .i64 a0)), (1, (.int .i64 a1))], []⟩) (by kernel_rfl) ?_
  refine a_seq ?_
  refine a_region ?_
  refine a_val (v := (.osl 1500)) (u := [(1500, some ⟨(.row 1 (([]).map (AV.int .i64))), false⟩)]) rfl trivial rfl ?_
  refine a_nil ?_
  refine a_next (σ' := ⟨[(0, (.int .i64 a0)), (1, (.int .i64 a1)), (5, (.osl 5))], [(5, some ⟨(.row 1 (([]).map (AV.int .i64))), false⟩)]⟩) (by kernel_rfl) ?_
  obtain ⟨y20, hy21, hk22⟩ := bind_some h
  clear h
  refine a_join (emb := fun (s : (List Int)) => ⟨[(5, (.osl 5))], [(5, some ⟨(.row 1 (s.map (AV.int .i64))), false⟩)]⟩) (pre := fun s => s = y20) ?_ ?_
  · rintro x19 rfl
    have h := hk22
    refine a_st (σ' := ⟨[(5, (.osl 5))], [(5, some ⟨(.row 1 (x19.map (AV.int .i64))), false⟩)]⟩) (by kernel_rfl) ?_
    refine a_seq ?_
    refine a_region ?_
    refine a_val (v := (.osl 5)) (u := []) rfl trivial rfl ?_
    refine a_val (v := (eSi64 x19)) (u := [(5, some ⟨(.row 1 (x19.map (AV.int .i64))), true⟩)]) rfl trivial rfl ?_
    refine a_nil ?_
    refine a_next rfl ?_
    refine a_ret ?_
    refine ⟨.inr rfl, ?_⟩
    rw [Try.results64]
    cases h
    exact ⟨_, _, _, _, _, rfl, trivial, .inl ⟨rfl, .inl rfl⟩, rfl, rfl⟩
  · have h := hy21
    refine a_block ?_
    refine a_loop (emb := fun (s : (Int × (List Int))) => ⟨[(0, (.int .i64 a0)), (1, (.int .i64 s.1)), (5, (.osl 5))], [(5, some ⟨(.row 1 (s.2.map (AV.int .i64))), false⟩)]⟩) (body := (fun s : (Int × (List Int)) => impl_prime_numbered_l1 a0 s.1 s.2)) (G := fun q => some q = some y20) h rfl ?_ (by kernel_rfl)
    rintro X33 ⟨x27, x28⟩ x34 h hX35
    have h : impl_prime_numbered_l1 a0 x27 x28 = some x34 := h
    refine a_st (σ' := ⟨[(0, (.int .i64 a0)), (1, (.int .i64 x27)), (5, (.osl 5))], [(5, some ⟨(.row 1 (x28.map (AV.int .i64))), false⟩)]⟩) (by kernel_rfl) ?_
    refine a_seq ?_
    refine a_seq ?_
    refine a_region ?_
    refine a_val (v := (.int .i64 x27)) (u := []) rfl trivial rfl ?_
    refine a_val (v := (.bool ((decide (x27 > 0))))) (u := []) rfl trivial rfl ?_
    refine a_nil ?_
    refine a_next (σ' := ⟨[(0, (.int .i64 a0)), (1, (.int .i64 x27)), (5, (.osl 5)), (7, (.bool ((decide (x27 > 0)))))], [(5, some ⟨(.row 1 (x28.map (AV.int .i64))), false⟩)]⟩) (by kernel_rfl) ?_
    cases hb36 : (decide (x27 > 0))
    · have h := ite_f hb36 h
      refine a_cond_f rfl ?_
      refine a_exit ?_
      refine t_exit ?_
      cases h
      have h := hX35
      refine t_exit ?_
      refine b_exit ?_
      exact j_leaf x28 (Option.some.inj h) (by kernel_rfl)
    · have h := ite_t hb36 h
      refine a_cond_t rfl ?_
      refine a_skip ?_
      refine a_next (σ' := ⟨[(0, (.int .i64 a0)), (1, (.int .i64 x27)), (5, (.osl 5))], [(5, some ⟨(.row 1 (x28.map (AV.int .i64))), false⟩)]⟩) (by kernel_rfl) ?_
      refine a_seq ?_
      refine a_block ?_
      refine a_region ?_
      refine a_val (v := (.osl 5)) (u := []) rfl trivial rfl ?_
      refine a_val (v := (.int .i64 x27)) (u := []) rfl trivial rfl ?_
      refine a_val (v := (.int .i64 a0)) (u := []) rfl trivial rfl ?_
      obtain ⟨hc37, h⟩ := ifp_some h
      refine a_val (v := (.int .i64 (Int.tmod x27 a0))) (u := []) rfl hc37 rfl ?_
      refine a_val (v := (.sl 1 true (([Int.tmod x27 a0]).map (AV.int .i64)))) (u := []) rfl ⟨(Nat.le_of_ble_eq_true rfl), (Nat.le_of_ble_eq_true rfl), (all_cons ⟨(Nat.le_of_ble_eq_true rfl), rfl⟩ all_nil)⟩ rfl ?_
      obtain ⟨hc38, h⟩ := ifp_some h
      refine a_val (v := (.osl 2600)) (u := [(2600, some ⟨(.row 1 (((x28 ++ ([Int.tmod x27 a0]))).map (AV.int .i64))), false⟩), (5, none)]) (app_run (i := ⟨.int .i64, 1, 8, (.int .i64 0)⟩) (f := (AV.int .i64)) (l := x28) (l2 := [Int.tmod x27 a0]) rfl rfl rfl rfl (fun _ => rfl) rfl rfl) (app_c (f := (AV.int .i64)) (s := 1) (sz := 1) (by' := 8) (u := []) (id := 5) hc38 (.inr rfl) rfl rfl rfl) rfl ?_
      refine a_val (v := (.osl 2600)) (u := []) rfl trivial rfl ?_
      refine a_nil ?_
      refine b_norm ?_
      refine a_next (σ' := ⟨[(0, (.int .i64 a0)), (1, (.int .i64 x27)), (5, (.osl 5))], [(5, some ⟨(.row 1 (((x28 ++ ([Int.tmod x27 a0]))).map (AV.int .i64))), false⟩)]⟩) (by kernel_rfl) ?_
      refine a_region ?_
      refine a_val (v := (.int .i64 x27)) (u := []) rfl trivial rfl ?_
      refine a_val (v := (.int .i64 a0)) (u := []) rfl trivial rfl ?_
      obtain ⟨hc39, h⟩ := ifp_some h
      refine a_val (v := (.int .i64 (IntKind.i64.wrap (Int.tdiv x27 a0)))) (u := []) rfl hc39 rfl ?_
      refine a_val (v := (.int .i64 (IntKind.i64.wrap (Int.tdiv x27 a0)))) (u := []) rfl trivial rfl ?_
      refine a_nil ?_
      cases h
      exact a_again (by kernel_rfl) hX35
def impl_prime_monics_c : ACode := (.seq (.region 0 [⟨some 4, .asg 1 (.const (.slice none 0 0)) 72, none, []⟩] false) (.seq (.region 1 [⟨some 8, .mov (.tmp 0), none, []⟩, ⟨some 9, .mov (.tmp 1), none, []⟩, ⟨some 10, .call 0 (.func 115) [(.tmp 8), (.tmp 9), (.const (.int .i64 343))], none, []⟩, ⟨some 5, .asg 0 (.tmp 10) 2, none, []⟩] false) (.seq (.region 2 [⟨some 6, .asg 2 (.const (.slice none 0 0)) 72, none, []⟩] false) (.seq (.seq (.region 3 [⟨some 11, .mov (.tmp 5), none, []⟩, ⟨some 12, .mov (.const (.int .i64 0)), none, []⟩] false) (.block 0 (.loop (.seq (.region 4 [⟨some 13, .bin .lss 2 (.tmp 12) (.tmp 11), none, []⟩] false) (.seq (.cond (.tmp 13) .skip (.exit 0)) (.seq (.block 1 (.seq (.region 5 [⟨some 14, .mov (.tmp 12), none, []⟩, ⟨some 7, .asg 0 (.tmp 14) 2, none, []⟩] false) (.region 6 [⟨some 15, .mov (.tmp 6), none, []⟩, ⟨some 16, .mov (.tmp 0), none, []⟩, ⟨some 17, .mov (.tmp 5), none, []⟩, ⟨some 18, .mov (.tmp 7), none, []⟩, ⟨some 19, .bin .add 2 (.tmp 17) (.tmp 18), none, []⟩, ⟨some 20, .call 0 (.func 64) [(.tmp 16), (.tmp 19)], none, []⟩, ⟨some 21, .bslice 0 72 1 [(0, (.tmp 20))], none, []⟩, ⟨some 22, .blt 0 .append [(.tmp 15), (.tmp 21)] [72, 72], none, []⟩, ⟨some 6, .asg 2 (.tmp 22) 72, none, []⟩] false))) (.region 7 [⟨some 23, .bin .add 2 (.tmp 12) (.const (.int .i64 1)), none, []⟩, ⟨some 12, .mov (.tmp 23), none, []⟩] false))))))) (.seq (.region 8 [⟨some 24, .mov (.tmp 6), none, []⟩, ⟨some 4, .asg 1 (.tmp 24) 72, none, []⟩] false) .ret)))))
def impl_prime_monics_L : Live := [(0, [0, 1]), (1, [0, 1]), (2, [0, 5]), (3, [0, 5, 6]), (4, [0, 5, 6, 11, 12]), (5, [0, 5, 6, 11, 12]), (6, [0, 5, 6, 7, 11, 12]), (7, [0, 5, 6, 11, 12]), (8, [6]), (100013, [0, 5, 6, 11, 12, 13])]
theorem impl_prime_monics_body : Try.f98.body = some (Try.f98.body.getD .skip) := by kernel_rfl
theorem impl_prime_monics_strip : strip [(4, 1), (6, 2)] (Try.f98.body.getD .skip) = impl_prime_monics_c := by kernel_rfl
noncomputable def impl_prime_monics_l1 (r1 : Int) (a0 : Int) (x29 : Int) (x30 : (List (List Int))) : Option ((Int × (List (List Int))) ⊕ (List (List Int))) :=
  (if (decide (x29 < r1)) then (Option.bind (impl_prime_numbered a0 (IntKind.i64.wrap (r1 + x29))) fun r39 => (ifp ((x30.length + ([r39] : List (List Int)).length) * 24 ≤ 140737488355328) ((some (.inl ((IntKind.i64.wrap (x29 + 1), (x30 ++ ([r39]))))))))) else (some (.inr x30)))
noncomputable def impl_prime_monics (a0 : Int) (a1 : Int) : Option (List (List Int)) :=
  (Option.bind (impl_prime_norm a0 a1 343) fun r1 => (Option.bind (α := (List (List Int))) ((loopM (fun s : (Int × (List (List Int))) => impl_prime_monics_l1 r1 a0 s.1 s.2) (0, []))) fun x21 => (some x21)))
set_option maxHeartbeats 16000000 in
theorem impl_prime_monics_ok (a0 : Int) (a1 : Int) (r : (List (List Int))) (h : impl_prime_monics a0 a1 = some r) : Den Try.prog 98 [(.int .i64 a0), (.int .i64 a1)] { r := (eSSi64 r) } := by
  refine den_of (rs := [(eSSi64 r)]) (ac := impl_prime_monics_c) (L := impl_prime_monics_L) (n := 25) (m := [(4, 1), (6, 2)]) good Try.func98 impl_prime_monics_body (by kernel_rfl) Try.ntmps98 rfl rfl impl_prime_monics_strip rfl rfl ?_
  refine a_st (σ' := ⟨[(0, (.int .i64 a0)), (1, (.int .i64 a1))], []⟩) (by kernel_rfl) ?_
  unfold impl_prime_monics_c
  refine a_seq ?_
  refine a_region ?_
  refine a_val (v := (eSSi64 ([]))) (u := []) rfl trivial rfl ?_
  refine a_nil ?_
  refine a_next (σ' := ⟨[(0, (.int .i64 a0)), (1, (.int .i64 a1))], []⟩) (by kernel_rfl) ?_
  refine a_seq ?_
  refine a_region ?_
  refine a_val (v := (.int .i64 a0)) (u := []) rfl trivial rfl ?_
  refine a_val (v := (.int .i64 a1)) (u := []) rfl trivial rfl ?_
  obtain ⟨r1, hr2, h⟩ := bind_some h
  refine a_call (args := [(.int .i64 a0), (.int .i64 a1), (.int .i64 343)]) (u := []) (r := (.int .i64 r1)) rfl rfl (impl_prime_norm_ok a0 a1 343 r1 hr2) rfl ?_
  refine a_val (v := (.int .i64 r1)) (u := []) rfl trivial rfl ?_
  refine a_nil ?_
  refine a_next (σ' := ⟨[(0, (.int .i64 a0)), (5, (.int .i64 r1))], []⟩) (by kernel_rfl) ?_
  refine a_seq ?_
  refine a_region ?_
  refine a_val (v := (.osl 1600)) (u := [(1600, some ⟨(.row 1 (([]).map eSi64)), false⟩)]) rfl trivial rfl ?_
  refine a_nil ?_
  refine a_next (σ' := ⟨[(0, (.int .i64 a0)), (5, (.int .i64 r1)), (6, (.osl 6))], [(6, some ⟨(.row 1 (([]).map eSi64)), false⟩)]⟩) (by kernel_rfl) ?_
  obtain ⟨y22, hy23, hk24⟩ := bind_some h
  clear h
  refine a_join (emb := fun (s : (List (List Int))) => ⟨[(6, (.osl 6))], [(6, some ⟨(.row 1 (s.map eSi64)), false⟩)]⟩) (pre := fun s => s = y22) ?_ ?_
  · rintro x21 rfl
    have h := hk24
    refine a_st (σ' := ⟨[(6, (.osl 6))], [(6, some ⟨(.row 1 (x21.map eSi64)), false⟩)]⟩) (by kernel_rfl) ?_
    refine a_seq ?_
    refine a_region ?_
    refine a_val (v := (.osl 6)) (u := []) rfl trivial rfl ?_
    refine a_val (v := (eSSi64 x21)) (u := [(6, some ⟨(.row 1 (x21.map eSi64)), true⟩)]) rfl trivial rfl ?_
    refine a_nil ?_
    refine a_next rfl ?_
    refine a_ret ?_
    refine ⟨.inr rfl, ?_⟩
    rw [Try.results98]
    cases h
    exact ⟨_, _, _, _, _, rfl, trivial, .inl ⟨rfl, .inl rfl⟩, rfl, rfl⟩
  · have h := hy23
    refine a_seq ?_
    refine a_region ?_
    refine a_val (v := (.int .i64 r1)) (u := []) rfl trivial rfl ?_
    refine a_val (v := (.int .i64 0)) (u := []) rfl trivial rfl ?_
    refine a_nil ?_
    refine a_next (σ' := ⟨[(0, (.int .i64 a0)), (5, (.int .i64 r1)), (6, (.osl 6)), (11, (.int .i64 r1)), (12, (.int .i64 0))], [(6, some ⟨(.row 1 (([]).map eSi64)), false⟩)]⟩) (by kernel_rfl) ?_
    refine a_block ?_
    refine a_loop (emb := fun (s : (Int × (List (List Int)))) => ⟨[(0, (.int .i64 a0)), (5, (.int .i64 r1)), (6, (.osl 6)), (11, (.int .i64 r1)), (12, (.int .i64 s.1))], [(6, some ⟨(.row 1 (s.2.map eSi64)), false⟩)]⟩) (body := (fun s : (Int × (List (List Int))) => impl_prime_monics_l1 r1 a0 s.1 s.2)) (G := fun q => some q = some y22) h rfl ?_ (by kernel_rfl)
    rintro X35 ⟨x29, x30⟩ x36 h hX37
    have h : impl_prime_monics_l1 r1 a0 x29 x30 = some x36 := h
    refine a_st (σ' := ⟨[(0, (.int .i64 a0)), (5, (.int .i64 r1)), (6, (.osl 6)), (11, (.int .i64 r1)), (12, (.int .i64 x29))], [(6, some ⟨(.row 1 (x30.map eSi64)), false⟩)]⟩) (by kernel_rfl) ?_
    refine a_seq ?_
    refine a_region ?_
    refine a_val (v := (.bool ((decide (x29 < r1))))) (u := []) rfl trivial rfl ?_
    refine a_nil ?_
    refine a_next (σ' := ⟨[(0, (.int .i64 a0)), (5, (.int .i64 r1)), (6, (.osl 6)), (11, (.int .i64 r1)), (12, (.int .i64 x29)), (13, (.bool ((decide (x29 < r1)))))], [(6, some ⟨(.row 1 (x30.map eSi64)), false⟩)]⟩) (by kernel_rfl) ?_
    refine a_seq ?_
    cases hb38 : (decide (x29 < r1))
    · have h := ite_f hb38 h
      refine a_cond_f rfl ?_
      refine a_exit ?_
      refine t_exit ?_
      cases h
      have h := hX37
      refine t_exit ?_
      refine b_exit ?_
      exact j_leaf x30 (Option.some.inj h) (by kernel_rfl)
    · have h := ite_t hb38 h
      refine a_cond_t rfl ?_
      refine a_skip ?_
      refine a_next (σ' := ⟨[(0, (.int .i64 a0)), (5, (.int .i64 r1)), (6, (.osl 6)), (11, (.int .i64 r1)), (12, (.int .i64 x29))], [(6, some ⟨(.row 1 (x30.map eSi64)), false⟩)]⟩) (by kernel_rfl) ?_
      refine a_seq ?_
      refine a_block ?_
      refine a_seq ?_
      refine a_region ?_
      refine a_val (v := (.int .i64 x29)) (u := []) rfl trivial rfl ?_
      refine a_val (v := (.int .i64 x29)) (u := []) rfl trivial rfl ?_
      refine a_nil ?_
      refine a_next (σ' := ⟨[(0, (.int .i64 a0)), (5, (.int .i64 r1)), (6, (.osl 6)), (7, (.int .i64 x29)), (11, (.int .i64 r1)), (12, (.int .i64 x29))], [(6, some ⟨(.row 1 (x30.map eSi64)), false⟩)]⟩) (by kernel_rfl) ?_
      refine a_region ?_
      refine a_val (v := (.osl 6)) (u := []) rfl trivial rfl ?_
      refine a_val (v := (.int .i64 a0)) (u := []) rfl trivial rfl ?_
      refine a_val (v := (.int .i64 r1)) (u := []) rfl trivial rfl ?_
      refine a_val (v := (.int .i64 x29)) (u := []) rfl trivial rfl ?_
      refine a_val (v := (.int .i64 (IntKind.i64.wrap (r1 + x29)))) (u := []) rfl trivial rfl ?_
      obtain ⟨r39, hr40, h⟩ := bind_some h
      refine a_call (args := [(.int .i64 a0), (.int .i64 (IntKind.i64.wrap (r1 + x29)))]) (u := []) (r := (eSi64 r39)) rfl rfl (impl_prime_numbered_ok a0 (IntKind.i64.wrap (r1 + x29)) r39 hr40) rfl ?_
      refine a_val (v := (.sl 1 true (([r39]).map eSi64))) (u := []) rfl ⟨(Nat.le_of_ble_eq_true rfl), (Nat.le_of_ble_eq_true rfl), (all_cons ⟨(Nat.le_of_ble_eq_true rfl), rfl⟩ all_nil)⟩ rfl ?_
      obtain ⟨hc41, h⟩ := ifp_some h
      refine a_val (v := (.osl 3200)) (u := [(3200, some ⟨(.row 1 (((x30 ++ ([r39]))).map eSi64)), false⟩), (6, none)]) (app_run (i := ⟨.slice 2, 1, 24, (eSi64 [])⟩) (f := eSi64) (l := x30) (l2 := [r39]) rfl rfl rfl rfl (fun _ => rfl) rfl rfl) (app_c (f := eSi64) (s := 1) (sz := 1) (by' := 24) (u := []) (id := 6) hc41 (.inr rfl) rfl rfl rfl) rfl ?_
      refine a_val (v := (.osl 3200)) (u := []) rfl trivial rfl ?_
      refine a_nil ?_
      refine b_norm ?_
      refine a_next (σ' := ⟨[(0, (.int .i64 a0)), (5, (.int .i64 r1)), (6, (.osl 6)), (11, (.int .i64 r1)), (12, (.int .i64 x29))], [(6, some ⟨(.row 1 (((x30 ++ ([r39]))).map eSi64)), false⟩)]⟩) (by kernel_rfl) ?_
      refine a_region ?_
      refine a_val (v := (.int .i64 (IntKind.i64.wrap (x29 + 1)))) (u := []) rfl trivial rfl ?_
      refine a_val (v := (.int .i64 (IntKind.i64.wrap (x29 + 1)))) (u := []) rfl trivial rfl ?_
      refine a_nil ?_
      cases h
      exact a_again (by kernel_rfl) hX37
def impl_prime_times_c : ACode := (.seq (.region 0 [⟨some 6, .asg 1 (.const (.slice none 0 0)) 64, none, []⟩] false) (.seq (.seq (.region 1 [⟨some 14, .mov (.tmp 1), none, []⟩, ⟨some 15, .blt 0 .len [(.tmp 14)] [64], none, []⟩, ⟨some 16, .bin .eql 3 (.tmp 15) (.const (.int .i64 0)), none, []⟩, ⟨some 17, .mov (.tmp 16), none, []⟩, ⟨some 18, .mov (.tmp 2), some (17, false), []⟩, ⟨some 19, .blt 0 .len [(.tmp 18)] [64], some (17, false), []⟩, ⟨some 20, .bin .eql 3 (.tmp 19) (.const (.int .i64 0)), some (17, false), []⟩, ⟨some 21, .pick (.tmp 17) (.const (.bool true)) (.tmp 20), none, []⟩] false) (.cond (.tmp 21) (.seq (.region 2 [⟨some 6, .asg 1 (.const (.slice none 0 0)) 64, none, []⟩] false) .ret) .skip)) (.seq (.region 3 [⟨some 22, .mov (.tmp 1), none, []⟩, ⟨some 23, .blt 0 .len [(.tmp 22)] [64], none, []⟩, ⟨some 24, .mov (.tmp 2), none, []⟩, ⟨some 25, .blt 0 .len [(.tmp 24)] [64], none, []⟩, ⟨some 26, .bin .add 3 (.tmp 23) (.tmp 25), none, []⟩, ⟨some 27, .bin .sub 3 (.tmp 26) (.const (.int .i64 1)), none, []⟩, ⟨some 28, .mkslice 64 (.tmp 27) (.tmp 27), none, []⟩, ⟨some 7, .asg 2 (.tmp 28) 64, none, []⟩] false) (.seq (.seq (.region 4 [⟨some 29, .mov (.tmp 1), none, []⟩, ⟨some 30, .blt 0 .len [(.tmp 29)] [64], none, []⟩, ⟨some 31, .mov (.const (.int .i64 0)), none, []⟩] false) (.block 0 (.loop (.seq (.region 5 [⟨some 32, .bin .lss 3 (.tmp 31) (.tmp 30), none, []⟩] false) (.seq (.cond (.tmp 32) .skip (.exit 0)) (.seq (.block 1 (.seq (.region 6 [⟨some 33, .mov (.tmp 31), none, []⟩, ⟨some 34, .indexAddr 64 (.tmp 29) (.tmp 31), none, []⟩, ⟨some 35, .load 2 (.tmp 34), none, []⟩, ⟨some 8, .asg 0 (.tmp 33) 3, none, []⟩, ⟨some 9, .asg 0 (.tmp 35) 2, none, []⟩] false) (.seq (.region 7 [⟨some 36, .mov (.tmp 2), none, []⟩, ⟨some 37, .blt 0 .len [(.tmp 36)] [64], none, []⟩, ⟨some 38, .mov (.const (.int .i64 0)), none, []⟩] false) (.block 2 (.loop (.seq (.region 8 [⟨some 39, .bin .lss 3 (.tmp 38) (.tmp 37), none, []⟩] false) (.seq (.cond (.tmp 39) .skip (.exit 2)) (.seq (.block 3 (.seq (.region 9 [⟨some 40, .mov (.tmp 38), none, []⟩, ⟨some 41, .indexAddr 64 (.tmp 36) (.tmp 38), none, []⟩, ⟨some 42, .load 2 (.tmp 41), none, []⟩, ⟨some 10, .asg 0 (.tmp 40) 3, none, []⟩, ⟨some 11, .asg 0 (.tmp 42) 2, none, []⟩] false) (.region 10 [⟨some 43, .mov (.tmp 7), none, []⟩, ⟨some 44, .mov (.tmp 8), none, []⟩, ⟨some 45, .mov (.tmp 10), none, []⟩, ⟨some 46, .bin .add 3 (.tmp 44) (.tmp 45), none, []⟩, ⟨some 47, .indexAddr 64 (.tmp 43) (.tmp 46), none, []⟩, ⟨some 48, .load 2 (.tmp 47), none, []⟩, ⟨some 49, .mov (.tmp 9), none, []⟩, ⟨some 50, .mov (.tmp 11), none, []⟩, ⟨some 51, .bin .mul 2 (.tmp 49) (.tmp 50), none, []⟩, ⟨some 52, .bin .add 2 (.tmp 48) (.tmp 51), none, []⟩, ⟨some 53, .indexAddr 64 (.tmp 43) (.tmp 46), none, []⟩, ⟨none, .store 2 (.tmp 53) (.tmp 52), none, []⟩] false))) (.region 11 [⟨some 54, .bin .add 3 (.tmp 38) (.const (.int .i64 1)), none, []⟩, ⟨some 38, .mov (.tmp 54), none, []⟩] false))))))))) (.region 12 [⟨some 55, .bin .add 3 (.tmp 31) (.const (.int .i64 1)), none, []⟩, ⟨some 31, .mov (.tmp 55), none, []⟩] false))))))) (.seq (.seq (.region 13 [⟨some 56, .mov (.tmp 7), none, []⟩, ⟨some 57, .blt 0 .len [(.tmp 56)] [64], none, []⟩, ⟨some 58, .mov (.const (.int .i64 0)), none, []⟩] false) (.block 4 (.loop (.seq (.region 14 [⟨some 59, .bin .lss 3 (.tmp 58) (.tmp 57), none, []⟩] false) (.seq (.cond (.tmp 59) .skip (.exit 4)) (.seq (.block 5 (.seq (.region 15 [⟨some 60, .mov (.tmp 58), none, []⟩, ⟨some 61, .indexAddr 64 (.tmp 56) (.tmp 58), none, []⟩, ⟨some 62, .load 2 (.tmp 61), none, []⟩, ⟨some 12, .asg 0 (.tmp 60) 3, none, []⟩, ⟨some 13, .asg 0 (.tmp 62) 2, none, []⟩] false) (.region 16 [⟨some 63, .mov (.tmp 7), none, []⟩, ⟨some 64, .mov (.tmp 12), none, []⟩, ⟨some 65, .mov (.tmp 13), none, []⟩, ⟨some 66, .mov (.tmp 0), none, []⟩, ⟨some 67, .bin .rem 2 (.tmp 65) (.tmp 66), none, []⟩, ⟨some 68, .indexAddr 64 (.tmp 63) (.tmp 64), none, []⟩, ⟨none, .store 2 (.tmp 68) (.tmp 67), none, []⟩] false))) (.region 17 [⟨some 69, .bin .add 3 (.tmp 58) (.const (.int .i64 1)), none, []⟩, ⟨some 58, .mov (.tmp 69), none, []⟩] false))))))) (.seq (.region 18 [⟨some 70, .mov (.tmp 7), none, []⟩, ⟨some 71, .call 0 (.func 111) [(.tmp 70)], none, []⟩, ⟨some 6, .asg 1 (.tmp 71) 64, none, []⟩] false) .ret))))))
def impl_prime_times_L : Live := [(0, [0, 1, 2]), (1, [0, 1, 2]), (2, []), (3, [0, 1, 2]), (4, [0, 1, 2, 7]), (5, [0, 2, 7, 29, 30, 31]), (6, [0, 2, 7, 29, 30, 31]), (7, [0, 2, 7, 8, 9, 29, 30, 31]), (8, [0, 2, 7, 8, 9, 29, 30, 31, 36, 37, 38]), (9, [0, 2, 7, 8, 9, 29, 30, 31, 36, 37, 38]), (10, [0, 2, 7, 8, 9, 10, 11, 29, 30, 31, 36, 37, 38]), (11, [0, 2, 7, 8, 9, 29, 30, 31, 36, 37, 38]), (12, [0, 2, 7, 29, 30, 31]), (13, [0, 7]), (14, [0, 7, 56, 57, 58]), (15, [0, 7, 56, 57, 58]), (16, [0, 7, 12, 13, 56, 57, 58]), (17, [0, 7, 56, 57, 58]), (18, [7]), (100021, [0, 1, 2, 21]), (100032, [0, 2, 7, 29, 30, 31, 32]), (100039, [0, 2, 7, 8, 9, 29, 30, 31, 36, 37, 38, 39]), (100059, [0, 7, 56, 57, 58, 59])]
theorem impl_prime_times_body : Try.f59.body = some (Try.f59.body.getD .skip) := by kernel_rfl
theorem impl_prime_times_strip : strip [(6, 1), (7, 2)] (Try.f59.body.getD .skip) = impl_prime_times_c := by kernel_rfl
noncomputable def impl_prime_times_l2 (a2 : (List Int)) (x353 : Int) (a1 : (List Int)) (x492 : Int) (x493 : (List Int)) : Option ((Int × (List Int)) ⊕ (List Int)) :=
  (if (decide (x492 < (a2.length : Int))) then (ifp (0 ≤ x492 ∧ x492 < ((a2.length : Nat) : Int)) ((ifp (0 ≤ IntKind.i64.wrap (x353 + x492) ∧ IntKind.i64.wrap (x353 + x492) < ((x493.length : Nat) : Int)) ((letp (IntKind.i64.wrap (((rd x493 (IntKind.i64.wrap (x353 + x492)).toNat)) + (IntKind.i64.wrap ((rd a1 x353.toNat) * (rd a2 x492.toNat))))) fun x511 => (ifp (0 ≤ IntKind.i64.wrap (x353 + x492) ∧ IntKind.i64.wrap (x353 + x492) < ((x493.length : Nat) : Int)) ((some (.inl ((IntKind.i64.wrap (x492 + 1), (x493.set (IntKind.i64.wrap (x353 + x492)).toNat x511)))))))))))) else (some (.inr x493)))
noncomputable def impl_prime_times_l1 (a1 : (List Int)) (a2 : (List Int)) (x353 : Int) (x354 : (List Int)) : Option ((Int × (List Int)) ⊕ (List Int)) :=
  (if (decide (x353 < (a1.length : Int))) then (Option.bind (α := (List Int)) ((ifp (0 ≤ x353 ∧ x353 < ((a1.length : Nat) : Int)) ((loopM (fun s : (Int × (List Int)) => impl_prime_times_l2 a2 x353 a1 s.1 s.2) (0, x354))))) fun x475 => (some (.inl ((IntKind.i64.wrap (x353 + 1), x475))))) else (some (.inr x354)))
noncomputable def impl_prime_times_l3 (x262 : (List Int)) (a0 : Int) (x551 : Int) (x552 : (List Int)) : Option ((Int × (List Int)) ⊕ (List Int)) :=
  (if (decide (x551 < (x262.length : Int))) then (ifp (0 ≤ x551 ∧ x551 < ((x552.length : Nat) : Int)) ((ifp (a0 ≠ 0) ((ifp (0 ≤ x551 ∧ x551 < ((x552.length : Nat) : Int)) ((some (.inl ((IntKind.i64.wrap (x551 + 1), (x552.set x551.toNat (Int.tmod (rd x552 x551.toNat) a0)))))))))))) else (some (.inr x552)))
noncomputable def impl_prime_times (a0 : Int) (a1 : (List Int)) (a2 : (List Int)) : Option (List Int) :=
  (Option.bind (α := Bool) ((if ((a1.length : Int) == 0) then (some true) else (some (((a2.length : Int) == 0))))) fun x2 => (if x2 then (some ([])) else (letp (IntKind.i64.wrap ((IntKind.i64.wrap ((a1.length : Int) + (a2.length : Int))) - 1)) fun x8 => (ifp (0 ≤ x8 ∧ x8 ≤ 140737488355328 ∧ 8 * x8 ≤ 140737488355328) ((Option.bind (α := (List Int)) ((loopM (fun s : (Int × (List Int)) => impl_prime_times_l1 a1 a2 s.1 s.2) (0, List.replicate x8.toNat (0 : Int)))) fun x262 => (Option.bind (α := (List Int)) ((loopM (fun s : (Int × (List Int)) => impl_prime_times_l3 x262 a0 s.1 s.2) (0, x262))) fun x541 => (Option.bind (impl_row_trimmed x541) fun r569 => (some r569)))))))))
set_option maxHeartbeats 16000000 in
theorem impl_prime_times_ok (a0 : Int) (a1 : (List Int)) (a2 : (List Int)) (r : (List Int)) (h : impl_prime_times a0 a1 a2 = some r) : Den Try.prog 59 [(.int .i64 a0), (eSi64 a1), (eSi64 a2)] { r := (eSi64 r) } := by
  refine den_of (rs := [(eSi64 r)]) (ac := impl_prime_times_c) (L := impl_prime_times_L) (n := 72) (m := [(6, 1), (7, 2)]) good Try.func59 impl_prime_times_body (by kernel_rfl) Try.ntmps59 rfl rfl impl_prime_times_strip rfl rfl ?_
  refine a_st (σ' := ⟨[(0, (.int .i64 a0)), (1, (eSi64 a1)), (2, (eSi64 a2))], []⟩) (by kernel_rfl) ?_
  unfold impl_prime_times_c
  refine a_seq ?_
  refine a_region ?_
  refine a_val (v := (eSi64 ([]))) (u := []) rfl trivial rfl ?_
  refine a_nil ?_
  refine a_next (σ' := ⟨[(0, (.int .i64 a0)), (1, (eSi64 a1)), (2, (eSi64 a2))], []⟩) (by kernel_rfl) ?_
  refine a_seq ?_
  obtain ⟨y3, hy4, hk5⟩ := bind_some h
  clear h
  refine a_join (emb := fun (s : Bool) => ⟨[(0, (.int .i64 a0)), (1, (eSi64 a1)), (2, (eSi64 a2)), (21, (.bool s))], []⟩) (pre := fun s => s = y3) ?_ ?_
  · rintro x2 rfl
    have h := hk5
    refine a_st (σ' := ⟨[(0, (.int .i64 a0)), (1, (eSi64 a1)), (2, (eSi64 a2)), (21, (.bool x2))], []⟩) (by kernel_rfl) ?_
    cases hb7 : x2
    · have h := ite_f hb7 h
      refine a_cond_f rfl ?_
      refine a_skip ?_
      refine a_next (σ' := ⟨[(0, (.int .i64 a0)), (1, (eSi64 a1)), (2, (eSi64 a2))], []⟩) (by kernel_rfl) ?_
      refine a_seq ?_
      refine a_region ?_
      refine a_val (v := (eSi64 a1)) (u := []) rfl trivial rfl ?_
      refine a_val (v := (.int .i64 (a1.length : Int))) (u := []) (len_run rfl rfl) trivial rfl ?_
      refine a_val (v := (eSi64 a2)) (u := []) rfl trivial rfl ?_
      refine a_val (v := (.int .i64 (a2.length : Int))) (u := []) (len_run rfl rfl) trivial rfl ?_
      refine a_val (v := (.int .i64 (IntKind.i64.wrap ((a1.length : Int) + (a2.length : Int))))) (u := []) rfl trivial rfl ?_
      obtain ⟨x8, hx9, h⟩ := letp_some h
      refine a_val' (v := (.int .i64 (IntKind.i64.wrap ((IntKind.i64.wrap ((a1.length : Int) + (a2.length : Int))) - 1)))) (v' := (.int .i64 x8)) (u := []) (u' := []) rfl (congrArg (fun z => ((.int .i64 z) : AV)) hx9) rfl trivial rfl ?_
      obtain ⟨hc10, h⟩ := ifp_some h
      refine a_val (v := (.osl 3800)) (u := [(3800, some ⟨(.row 1 ((List.replicate x8.toNat (0 : Int)).map (AV.int .i64))), false⟩)]) (mk_run (i := ⟨.int .i64, 1, 8, (.int .i64 0)⟩) (f := (AV.int .i64)) (y := (0 : Int)) rfl rfl rfl rfl rfl rfl) ⟨rfl, hc10.1, hc10.2.1, hc10.2.2, (Nat.le_of_ble_eq_true rfl)⟩ rfl ?_
      refine a_val (v := (.osl 3800)) (u := []) rfl trivial rfl ?_
      refine a_nil ?_
      refine a_next (σ' := ⟨[(0, (.int .i64 a0)), (1, (eSi64 a1)), (2, (eSi64 a2)), (7, (.osl 7))], [(7, some ⟨(.row 1 ((List.replicate x8.toNat (0 : Int)).map (AV.int .i64))), false⟩)]⟩) (by kernel_rfl) ?_
      obtain ⟨y263, hy264, hk265⟩ := bind_some h
      clear h
      refine a_join (emb := fun (s : (List Int)) => ⟨[(0, (.int .i64 a0)), (7, (.osl 7))], [(7, some ⟨(.row 1 (s.map (AV.int .i64))), false⟩)]⟩) (pre := fun s => s = y263) ?_ ?_
      · rintro x262 rfl
        have h := hk265
        refine a_st (σ' := ⟨[(0, (.int .i64 a0)), (7, (.osl 7))], [(7, some ⟨(.row 1 (x262.map (AV.int .i64))), false⟩)]⟩) (by kernel_rfl) ?_
        obtain ⟨y542, hy543, hk544⟩ := bind_some h
        clear h
        refine a_join (emb := fun (s : (List Int)) => ⟨[(7, (.osl 7))], [(7, some ⟨(.row 1 (s.map (AV.int .i64))), false⟩)]⟩) (pre := fun s => s = y542) ?_ ?_
        · rintro x541 rfl
          have h := hk544
          refine a_st (σ' := ⟨[(7, (.osl 7))], [(7, some ⟨(.row 1 (x541.map (AV.int .i64))), false⟩)]⟩) (by kernel_rfl) ?_
          refine a_seq ?_
          refine a_region ?_
          refine a_val (v := (.osl 7)) (u := []) rfl trivial rfl ?_
          obtain ⟨r569, hr570, h⟩ := bind_some h
          refine a_call (args := [(eSi64 x541)]) (u := [(7, some ⟨(.row 1 (x541.map (AV.int .i64))), true⟩)]) (r := (eSi64 r569)) rfl rfl (impl_row_trimmed_ok x541 r569 hr570) rfl ?_
          refine a_val (v := (eSi64 r569)) (u := []) rfl trivial rfl ?_
          refine a_nil ?_
          refine a_next rfl ?_
          refine a_ret ?_
          refine ⟨.inr rfl, ?_⟩
          rw [Try.results59]
          cases h
          exact ⟨_, _, _, _, _, rfl, trivial, .inl ⟨rfl, .inl rfl⟩, rfl, rfl⟩
        · have h := hy543
          refine a_seq ?_
          refine a_region ?_
          refine a_val (v := (.osl 7)) (u := []) rfl trivial rfl ?_
          refine a_val (v := (.int .i64 (x262.length : Int))) (u := []) (leno_run rfl rfl rfl) trivial rfl ?_
          refine a_val (v := (.int .i64 0)) (u := []) rfl trivial rfl ?_
          refine a_nil ?_
          refine a_next (σ' := ⟨[(0, (.int .i64 a0)), (7, (.osl 7)), (56, (.osl 7)), (57, (.int .i64 (x262.length : Int))), (58, (.int .i64 0))], [(7, some ⟨(.row 1 (x262.map (AV.int .i64))), false⟩)]⟩) (by kernel_rfl) ?_
          refine a_block ?_
          refine a_loop (emb := fun (s : (Int × (List Int))) => ⟨[(0, (.int .i64 a0)), (7, (.osl 7)), (56, (.osl 7)), (57, (.int .i64 (x262.length : Int))), (58, (.int .i64 s.1))], [(7, some ⟨(.row 1 (s.2.map (AV.int .i64))), false⟩)]⟩) (body := (fun s : (Int × (List Int)) => impl_prime_times_l3 x262 a0 s.1 s.2)) (G := fun q => some q = some y542) h rfl ?_ (by kernel_rfl)
          rintro X559 ⟨x551, x552⟩ x560 h hX561
          have h : impl_prime_times_l3 x262 a0 x551 x552 = some x560 := h
          refine a_st (σ' := ⟨[(0, (.int .i64 a0)), (7, (.osl 7)), (56, (.osl 7)), (57, (.int .i64 (x262.length : Int))), (58, (.int .i64 x551))], [(7, some ⟨(.row 1 (x552.map (AV.int .i64))), false⟩)]⟩) (by kernel_rfl) ?_
          refine a_seq ?_
          refine a_region ?_
          refine a_val (v := (.bool ((decide (x551 < (x262.length : Int)))))) (u := []) rfl trivial rfl ?_
          refine a_nil ?_
          refine a_next (σ' := ⟨[(0, (.int .i64 a0)), (7, (.osl 7)), (56, (.osl 7)), (57, (.int .i64 (x262.length : Int))), (58, (.int .i64 x551)), (59, (.bool ((decide (x551 < (x262.length : Int))))))], [(7, some ⟨(.row 1 (x552.map (AV.int .i64))), false⟩)]⟩) (by kernel_rfl) ?_
          refine a_seq ?_
          cases hb562 : (decide (x551 < (x262.length : Int)))
          · have h := ite_f hb562 h
            refine a_cond_f rfl ?_
            refine a_exit ?_
            refine t_exit ?_
            cases h
            have h := hX561
            refine t_exit ?_
            refine b_exit ?_
            exact j_leaf x552 (Option.some.inj h) (by kernel_rfl)
          · have h := ite_t hb562 h
            refine a_cond_t rfl ?_
            refine a_skip ?_
            refine a_next (σ' := ⟨[(0, (.int .i64 a0)), (7, (.osl 7)), (56, (.osl 7)), (57, (.int .i64 (x262.length : Int))), (58, (.int .i64 x551))], [(7, some ⟨(.row 1 (x552.map (AV.int .i64))), false⟩)]⟩) (by kernel_rfl) ?_
            refine a_seq ?_
            refine a_block ?_
            refine a_seq ?_
            refine a_region ?_
            refine a_val (v := (.int .i64 x551)) (u := []) rfl trivial rfl ?_
            obtain ⟨hc563, h⟩ := ifp_some h
            refine a_val (v := (.own 7 [x551.toNat] [x551.toNat * 1])) (u := []) rfl (lmap hc563) rfl ?_
            have hl564 : LdOk [x551.toNat] (.row 1 (x552.map (AV.int .i64))) [x551.toNat * 1] 1 false (.int .i64 (rd x552 x551.toNat)) := (.row (llt hc563) rfl (.nil rfl rfl rfl))
            refine a_val (v := (.int .i64 (rd x552 x551.toNat))) (u := []) (ld_own (i := ⟨.int .i64, 1, 8, (.int .i64 0)⟩) rfl rfl rfl hl564) hl564.c rfl ?_
            refine a_val (v := (.int .i64 x551)) (u := []) rfl trivial rfl ?_
            refine a_val (v := (.int .i64 (rd x552 x551.toNat))) (u := []) rfl trivial rfl ?_
            refine a_nil ?_
            refine a_next (σ' := ⟨[(0, (.int .i64 a0)), (7, (.osl 7)), (12, (.int .i64 x551)), (13, (.int .i64 (rd x552 x551.toNat))), (56, (.osl 7)), (57, (.int .i64 (x262.length : Int))), (58, (.int .i64 x551))], [(7, some ⟨(.row 1 (x552.map (AV.int .i64))), false⟩)]⟩) (by kernel_rfl) ?_
            refine a_region ?_
            refine a_val (v := (.osl 7)) (u := []) rfl trivial rfl ?_
            refine a_val (v := (.int .i64 x551)) (u := []) rfl trivial rfl ?_
            refine a_val (v := (.int .i64 (rd x552 x551.toNat))) (u := []) rfl trivial rfl ?_
            refine a_val (v := (.int .i64 a0)) (u := []) rfl trivial rfl ?_
            obtain ⟨hc565, h⟩ := ifp_some h
            refine a_val (v := (.int .i64 (Int.tmod (rd x552 x551.toNat) a0))) (u := []) rfl hc565 rfl ?_
            obtain ⟨hc566, h⟩ := ifp_some h
            refine a_val (v := (.own 7 [x551.toNat] [x551.toNat * 1])) (u := []) rfl (lmap hc566) rfl ?_
            have hs567 : StOk [x551.toNat] (.row 1 (x552.map (AV.int .i64))) [x551.toNat * 1] 1 (.int .i64 (Int.tmod (rd x552 x551.toNat) a0)) (.row 1 (((x552.set x551.toNat (Int.tmod (rd x552 x551.toNat) a0))).map (AV.int .i64))) := (.row (y := Int.tmod (rd x552 x551.toNat) a0) (llt hc566) rfl (.nil rfl rfl rfl rfl))
            refine a_val (v := .top) (u := [(7, some ⟨(.row 1 (((x552.set x551.toNat (Int.tmod (rd x552 x551.toNat) a0))).map (AV.int .i64))), false⟩)]) (st_own (i := ⟨.int .i64, 1, 8, (.int .i64 0)⟩) rfl rfl (fun _ => rfl) rfl hs567) (hs567.c rfl) rfl ?_
            refine a_nil ?_
            refine b_norm ?_
            refine a_next (σ' := ⟨[(0, (.int .i64 a0)), (7, (.osl 7)), (56, (.osl 7)), (57, (.int .i64 (x262.length : Int))), (58, (.int .i64 x551))], [(7, some ⟨(.row 1 (((x552.set x551.toNat (Int.tmod (rd x552 x551.toNat) a0))).map (AV.int .i64))), false⟩)]⟩) (by kernel_rfl) ?_
            refine a_region ?_
            refine a_val (v := (.int .i64 (IntKind.i64.wrap (x551 + 1)))) (u := []) rfl trivial rfl ?_
            refine a_val (v := (.int .i64 (IntKind.i64.wrap (x551 + 1)))) (u := []) rfl trivial rfl ?_
            refine a_nil ?_
            cases h
            exact a_again (by kernel_rfl) hX561
      · have h := hy264
        refine a_seq ?_
        refine a_region ?_
        refine a_val (v := (eSi64 a1)) (u := []) rfl trivial rfl ?_
        refine a_val (v := (.int .i64 (a1.length : Int))) (u := []) (len_run rfl rfl) trivial rfl ?_
        refine a_val (v := (.int .i64 0)) (u := []) rfl trivial rfl ?_
        refine a_nil ?_
        refine a_next (σ' := ⟨[(0, (.int .i64 a0)), (2, (eSi64 a2)), (7, (.osl 7)), (29, (eSi64 a1)), (30, (.int .i64 (a1.length : Int))), (31, (.int .i64 0))], [(7, some ⟨(.row 1 ((List.replicate x8.toNat (0 : Int)).map (AV.int .i64))), false⟩)]⟩) (by kernel_rfl) ?_
        refine a_block ?_
        refine a_loop (emb := fun (s : (Int × (List Int))) => ⟨[(0, (.int .i64 a0)), (2, (eSi64 a2)), (7, (.osl 7)), (29, (eSi64 a1)), (30, (.int .i64 (a1.length : Int))), (31, (.int .i64 s.1))], [(7, some ⟨(.row 1 (s.2.map (AV.int .i64))), false⟩)]⟩) (body := (fun s : (Int × (List Int)) => impl_prime_times_l1 a1 a2 s.1 s.2)) (G := fun q => some q = some y263) h rfl ?_ (by kernel_rfl)
        rintro X434 ⟨x353, x354⟩ x435 h hX436
        have h : impl_prime_times_l1 a1 a2 x353 x354 = some x435 := h
        refine a_st (σ' := ⟨[(0, (.int .i64 a0)), (2, (eSi64 a2)), (7, (.osl 7)), (29, (eSi64 a1)), (30, (.int .i64 (a1.length : Int))), (31, (.int .i64 x353))], [(7, some ⟨(.row 1 (x354.map (AV.int .i64))), false⟩)]⟩) (by kernel_rfl) ?_
        refine a_seq ?_
        refine a_region ?_
        refine a_val (v := (.bool ((decide (x353 < (a1.length : Int)))))) (u := []) rfl trivial rfl ?_
        refine a_nil ?_
        refine a_next (σ' := ⟨[(0, (.int .i64 a0)), (2, (eSi64 a2)), (7, (.osl 7)), (29, (eSi64 a1)), (30, (.int .i64 (a1.length : Int))), (31, (.int .i64 x353)), (32, (.bool ((decide (x353 < (a1.length : Int))))))], [(7, some ⟨(.row 1 (x354.map (AV.int .i64))), false⟩)]⟩) (by kernel_rfl) ?_
        refine a_seq ?_
        cases hb437 : (decide (x353 < (a1.length : Int)))
        · have h := ite_f hb437 h
          refine a_cond_f rfl ?_
          refine a_exit ?_
          refine t_exit ?_
          cases h
          have h := hX436
          refine t_exit ?_
          refine b_exit ?_
          exact j_leaf x354 (Option.some.inj h) (by kernel_rfl)
        · have h := ite_t hb437 h
          refine a_cond_t rfl ?_
          refine a_skip ?_
          refine a_next (σ' := ⟨[(0, (.int .i64 a0)), (2, (eSi64 a2)), (7, (.osl 7)), (29, (eSi64 a1)), (30, (.int .i64 (a1.length : Int))), (31, (.int .i64 x353))], [(7, some ⟨(.row 1 (x354.map (AV.int .i64))), false⟩)]⟩) (by kernel_rfl) ?_
          obtain ⟨y476, hy477, hk478⟩ := bind_some h
          clear h
          refine a_join (emb := fun (s : (List Int)) => ⟨[(0, (.int .i64 a0)), (2, (eSi64 a2)), (7, (.osl 7)), (29, (eSi64 a1)), (30, (.int .i64 (a1.length : Int))), (31, (.int .i64 x353))], [(7, some ⟨(.row 1 (s.map (AV.int .i64))), false⟩)]⟩) (pre := fun s => s = y476) ?_ ?_
          · rintro x475 rfl
            have h := hk478
            refine a_st (σ' := ⟨[(0, (.int .i64 a0)), (2, (eSi64 a2)), (7, (.osl 7)), (29, (eSi64 a1)), (30, (.int .i64 (a1.length : Int))), (31, (.int .i64 x353))], [(7, some ⟨(.row 1 (x475.map (AV.int .i64))), false⟩)]⟩) (by kernel_rfl) ?_
            refine a_region ?_
            refine a_val (v := (.int .i64 (IntKind.i64.wrap (x353 + 1)))) (u := []) rfl trivial rfl ?_
            refine a_val (v := (.int .i64 (IntKind.i64.wrap (x353 + 1)))) (u := []) rfl trivial rfl ?_
            refine a_nil ?_
            cases h
            exact a_again (by kernel_rfl) hX436
          · have h := hy477
            refine a_block ?_
            refine a_seq ?_
            refine a_region ?_
            refine a_val (v := (.int .i64 x353)) (u := []) rfl trivial rfl ?_
            obtain ⟨hc479, h⟩ := ifp_some h
            refine a_val (v := (.ref (.row 1 (a1.map (AV.int .i64))) [x353.toNat] [x353.toNat * 1])) (u := []) rfl (lmap hc479) rfl ?_
            have hl480 : LdOk [x353.toNat] (.row 1 (a1.map (AV.int .i64))) [x353.toNat * 1] 1 false (.int .i64 (rd a1 x353.toNat)) := (.row (llt hc479) rfl (.nil rfl rfl rfl))
            refine a_val (v := (.int .i64 (rd a1 x353.toNat))) (u := []) (ld_ref (i := ⟨.int .i64, 1, 8, (.int .i64 0)⟩) rfl rfl hl480) hl480.c rfl ?_
            refine a_val (v := (.int .i64 x353)) (u := []) rfl trivial rfl ?_
            refine a_val (v := (.int .i64 (rd a1 x353.toNat))) (u := []) rfl trivial rfl ?_
            refine a_nil ?_
            refine a_next (σ' := ⟨[(0, (.int .i64 a0)), (2, (eSi64 a2)), (7, (.osl 7)), (8, (.int .i64 x353)), (9, (.int .i64 (rd a1 x353.toNat))), (29, (eSi64 a1)), (30, (.int .i64 (a1.length : Int))), (31, (.int .i64 x353))], [(7, some ⟨(.row 1 (x354.map (AV.int .i64))), false⟩)]⟩) (by kernel_rfl) ?_
            refine a_seq ?_
            refine a_region ?_
            refine a_val (v := (eSi64 a2)) (u := []) rfl trivial rfl ?_
            refine a_val (v := (.int .i64 (a2.length : Int))) (u := []) (len_run rfl rfl) trivial rfl ?_
            refine a_val (v := (.int .i64 0)) (u := []) rfl trivial rfl ?_
            refine a_nil ?_
            refine a_next (σ' := ⟨[(0, (.int .i64 a0)), (2, (eSi64 a2)), (7, (.osl 7)), (8, (.int .i64 x353)), (9, (.int .i64 (rd a1 x353.toNat))), (29, (eSi64 a1)), (30, (.int .i64 (a1.length : Int))), (31, (.int .i64 x353)), (36, (eSi64 a2)), (37, (.int .i64 (a2.length : Int))), (38, (.int .i64 0))], [(7, some ⟨(.row 1 (x354.map (AV.int .i64))), false⟩)]⟩) (by kernel_rfl) ?_
            refine a_block ?_
            refine a_loop (emb := fun (s : (Int × (List Int))) => ⟨[(0, (.int .i64 a0)), (2, (eSi64 a2)), (7, (.osl 7)), (8, (.int .i64 x353)), (9, (.int .i64 (rd a1 x353.toNat))), (29, (eSi64 a1)), (30, (.int .i64 (a1.length : Int))), (31, (.int .i64 x353)), (36, (eSi64 a2)), (37, (.int .i64 (a2.length : Int))), (38, (.int .i64 s.1))], [(7, some ⟨(.row 1 (s.2.map (AV.int .i64))), false⟩)]⟩) (body := (fun s : (Int × (List Int)) => impl_prime_times_l2 a2 x353 a1 s.1 s.2)) (G := fun q => some q = some y476) h rfl ?_ (by kernel_rfl)
            rintro X503 ⟨x492, x493⟩ x504 h hX505
            have h : impl_prime_times_l2 a2 x353 a1 x492 x493 = some x504 := h
            refine a_st (σ' := ⟨[(0, (.int .i64 a0)), (2, (eSi64 a2)), (7, (.osl 7)), (8, (.int .i64 x353)), (9, (.int .i64 (rd a1 x353.toNat))), (29, (eSi64 a1)), (30, (.int .i64 (a1.length : Int))), (31, (.int .i64 x353)), (36, (eSi64 a2)), (37, (.int .i64 (a2.length : Int))), (38, (.int .i64 x492))], [(7, some ⟨(.row 1 (x493.map (AV.int .i64))), false⟩)]⟩) (by kernel_rfl) ?_
            refine a_seq ?_
            refine a_region ?_
            refine a_val (v := (.bool ((decide (x492 < (a2.length : Int)))))) (u := []) rfl trivial rfl ?_
            refine a_nil ?_
            refine a_next (σ' := ⟨[(0, (.int .i64 a0)), (2, (eSi64 a2)), (7, (.osl 7)), (8, (.int .i64 x353)), (9, (.int .i64 (rd a1 x353.toNat))), (29, (eSi64 a1)), (30, (.int .i64 (a1.length : Int))), (31, (.int .i64 x353)), (36, (eSi64 a2)), (37, (.int .i64 (a2.length : Int))), (38, (.int .i64 x492)), (39, (.bool ((decide (x492 < (a2.length : Int))))))], [(7, some ⟨(.row 1 (x493.map (AV.int .i64))), false⟩)]⟩) (by kernel_rfl) ?_
            refine a_seq ?_
            cases hb506 : (decide (x492 < (a2.length : Int)))
            · have h := ite_f hb506 h
              refine a_cond_f rfl ?_
              refine a_exit ?_
              refine t_exit ?_
              cases h
              have h := hX505
              refine t_exit ?_
              refine b_exit ?_
              refine b_norm ?_
              exact j_leaf x493 (Option.some.inj h) (by kernel_rfl)
            · have h := ite_t hb506 h
              refine a_cond_t rfl ?_
              refine a_skip ?_
              refine a_next (σ' := ⟨[(0, (.int .i64 a0)), (2, (eSi64 a2)), (7, (.osl 7)), (8, (.int .i64 x353)), (9, (.int .i64 (rd a1 x353.toNat))), (29, (eSi64 a1)), (30, (.int .i64 (a1.length : Int))), (31, (.int .i64 x353)), (36, (eSi64 a2)), (37, (.int .i64 (a2.length : Int))), (38, (.int .i64 x492))], [(7, some ⟨(.row 1 (x493.map (AV.int .i64))), false⟩)]⟩) (by kernel_rfl) ?_
              refine a_seq ?_
              refine a_block ?_
              refine a_seq ?_
              refine a_region ?_
              refine a_val (v := (.int .i64 x492)) (u := []) rfl trivial rfl ?_
              obtain ⟨hc507, h⟩ := ifp_some h
              refine a_val (v := (.ref (.row 1 (a2.map (AV.int .i64))) [x492.toNat] [x492.toNat * 1])) (u := []) rfl (lmap hc507) rfl ?_
              have hl508 : LdOk [x492.toNat] (.row 1 (a2.map (AV.int .i64))) [x492.toNat * 1] 1 false (.int .i64 (rd a2 x492.toNat)) := (.row (llt hc507) rfl (.nil rfl rfl rfl))
              refine a_val (v := (.int .i64 (rd a2 x492.toNat))) (u := []) (ld_ref (i := ⟨.int .i64, 1, 8, (.int .i64 0)⟩) rfl rfl hl508) hl508.c rfl ?_
              refine a_val (v := (.int .i64 x492)) (u := []) rfl trivial rfl ?_
              refine a_val (v := (.int .i64 (rd a2 x492.toNat))) (u := []) rfl trivial rfl ?_
              refine a_nil ?_
              refine a_next (σ' := ⟨[(0, (.int .i64 a0)), (2, (eSi64 a2)), (7, (.osl 7)), (8, (.int .i64 x353)), (9, (.int .i64 (rd a1 x353.toNat))), (10, (.int .i64 x492)), (11, (.int .i64 (rd a2 x492.toNat))), (29, (eSi64 a1)), (30, (.int .i64 (a1.length : Int))), (31, (.int .i64 x353)), (36, (eSi64 a2)), (37, (.int .i64 (a2.length : Int))), (38, (.int .i64 x492))], [(7, some ⟨(.row 1 (x493.map (AV.int .i64))), false⟩)]⟩) (by kernel_rfl) ?_
              refine a_region ?_
              refine a_val (v := (.osl 7)) (u := []) rfl trivial rfl ?_
              refine a_val (v := (.int .i64 x353)) (u := []) rfl trivial rfl ?_
              refine a_val (v := (.int .i64 x492)) (u := []) rfl trivial rfl ?_
              refine a_val (v := (.int .i64 (IntKind.i64.wrap (x353 + x492)))) (u := []) rfl trivial rfl ?_
              obtain ⟨hc509, h⟩ := ifp_some h
              refine a_val (v := (.own 7 [(IntKind.i64.wrap (x353 + x492)).toNat] [(IntKind.i64.wrap (x353 + x492)).toNat * 1])) (u := []) rfl (lmap hc509) rfl ?_
              have hl510 : LdOk [(IntKind.i64.wrap (x353 + x492)).toNat] (.row 1 (x493.map (AV.int .i64))) [(IntKind.i64.wrap (x353 + x492)).toNat * 1] 1 false (.int .i64 ((rd x493 (IntKind.i64.wrap (x353 + x492)).toNat))) := (.row (llt hc509) rfl (.nil rfl rfl rfl))
              refine a_val (v := (.int .i64 ((rd x493 (IntKind.i64.wrap (x353 + x492)).toNat)))) (u := []) (ld_own (i := ⟨.int .i64, 1, 8, (.int .i64 0)⟩) rfl rfl rfl hl510) hl510.c rfl ?_
              refine a_val (v := (.int .i64 (rd a1 x353.toNat))) (u := []) rfl trivial rfl ?_
              refine a_val (v := (.int .i64 (rd a2 x492.toNat))) (u := []) rfl trivial rfl ?_
              refine a_val (v := (.int .i64 (IntKind.i64.wrap ((rd a1 x353.toNat) * (rd a2 x492.toNat))))) (u := []) rfl trivial rfl ?_
              obtain ⟨x511, hx512, h⟩ := letp_some h
              refine a_val' (v := (.int .i64 (IntKind.i64.wrap (((rd x493 (IntKind.i64.wrap (x353 + x492)).toNat)) + (IntKind.i64.wrap ((rd a1 x353.toNat) * (rd a2 x492.toNat))))))) (v' := (.int .i64 x511)) (u := []) (u' := []) rfl (congrArg (fun z => ((.int .i64 z) : AV)) hx512) rfl trivial rfl ?_
              obtain ⟨hc513, h⟩ := ifp_some h
              refine a_val (v := (.own 7 [(IntKind.i64.wrap (x353 + x492)).toNat] [(IntKind.i64.wrap (x353 + x492)).toNat * 1])) (u := []) rfl (lmap hc513) rfl ?_
              have hs514 : StOk [(IntKind.i64.wrap (x353 + x492)).toNat] (.row 1 (x493.map (AV.int .i64))) [(IntKind.i64.wrap (x353 + x492)).toNat * 1] 1 (.int .i64 x511) (.row 1 (((x493.set (IntKind.i64.wrap (x353 + x492)).toNat x511)).map (AV.int .i64))) := (.row (y := x511) (llt hc513) rfl (.nil rfl rfl rfl rfl))
              refine a_val (v := .top) (u := [(7, some ⟨(.row 1 (((x493.set (IntKind.i64.wrap (x353 + x492)).toNat x511)).map (AV.int .i64))), false⟩)]) (st_own (i := ⟨.int .i64, 1, 8, (.int .i64 0)⟩) rfl rfl (fun _ => rfl) rfl hs514) (hs514.c rfl) rfl ?_
              refine a_nil ?_
              refine b_norm ?_
              refine a_next (σ' := ⟨[(0, (.int .i64 a0)), (2, (eSi64 a2)), (7, (.osl 7)), (8, (.int .i64 x353)), (9, (.int .i64 (rd a1 x353.toNat))), (29, (eSi64 a1)), (30, (.int .i64 (a1.length : Int))), (31, (.int .i64 x353)), (36, (eSi64 a2)), (37, (.int .i64 (a2.length : Int))), (38, (.int .i64 x492))], [(7, some ⟨(.row 1 (((x493.set (IntKind.i64.wrap (x353 + x492)).toNat x511)).map (AV.int .i64))), false⟩)]⟩) (by kernel_rfl) ?_
              refine a_region ?_
              refine a_val (v := (.int .i64 (IntKind.i64.wrap (x492 + 1)))) (u := []) rfl trivial rfl ?_
              refine a_val (v := (.int .i64 (IntKind.i64.wrap (x492 + 1)))) (u := []) rfl trivial rfl ?_
              refine a_nil ?_
              cases h
              exact a_again (by kernel_rfl) hX505
    · have h := ite_t hb7 h
      refine a_cond_t rfl ?_
      refine a_seq ?_
      refine a_region ?_
      refine a_val (v := (eSi64 ([]))) (u := []) rfl trivial rfl ?_
      refine a_nil ?_
      refine a_next rfl ?_
      refine a_ret ?_
      refine t_ret ?_
      refine ⟨.inr rfl, ?_⟩
      rw [Try.results59]
      cases h
      exact ⟨_, _, _, _, _, rfl, trivial, .inl ⟨rfl, .inl rfl⟩, rfl, rfl⟩
  · have h := hy4
    refine a_region ?_
    refine a_val (v := (eSi64 a1)) (u := []) rfl trivial rfl ?_
    refine a_val (v := (.int .i64 (a1.length : Int))) (u := []) (len_run rfl rfl) trivial rfl ?_
    refine a_val (v := (.bool (((a1.length : Int) == 0)))) (u := []) rfl trivial rfl ?_
    refine a_val (v := (.bool (((a1.length : Int) == 0)))) (u := []) rfl trivial rfl ?_
    cases hb6 : ((a1.length : Int) == 0)
    · have h := ite_f hb6 h
      refine a_gval rfl (v := (eSi64 a2)) (u := []) rfl trivial rfl ?_
      refine a_gval rfl (v := (.int .i64 (a2.length : Int))) (u := []) (len_run rfl rfl) trivial rfl ?_
      refine a_gval rfl (v := (.bool (((a2.length : Int) == 0)))) (u := []) rfl trivial rfl ?_
      refine a_val (v := (.bool (((a2.length : Int) == 0)))) (u := []) rfl trivial rfl ?_
      refine a_nil ?_
      exact j_leaf (((a2.length : Int) == 0)) (Option.some.inj h) (by kernel_rfl)
    · have h := ite_t hb6 h
      refine a_gskip rfl ?_
      refine a_gskip rfl ?_
      refine a_gskip rfl ?_
      refine a_val (v := (.bool true)) (u := []) rfl trivial rfl ?_
      refine a_nil ?_
      exact j_leaf true (Option.some.inj h) (by kernel_rfl)
def impl_row_at_c : ACode := (.seq (.region 0 [⟨some 4, .asg 0 (.const (.int .i64 0)) 2, none, []⟩] false) (.seq (.seq (.region 1 [⟨some 5, .mov (.tmp 1), none, []⟩, ⟨some 6, .mov (.tmp 0), none, []⟩, ⟨some 7, .blt 0 .len [(.tmp 6)] [64], none, []⟩, ⟨some 8, .bin .lss 3 (.tmp 5) (.tmp 7), none, []⟩] false) (.cond (.tmp 8) (.seq (.region 2 [⟨some 9, .mov (.tmp 0), none, []⟩, ⟨some 10, .mov (.tmp 1), none, []⟩, ⟨some 11, .indexAddr 64 (.tmp 9) (.tmp 10), none, []⟩, ⟨some 12, .load 2 (.tmp 11), none, []⟩, ⟨some 4, .asg 0 (.tmp 12) 2, none, []⟩] false) .ret) .skip)) (.seq (.region 3 [⟨some 4, .asg 0 (.const (.int .i64 0)) 2, none, []⟩] false) .ret)))
def impl_row_at_L : Live := [(0, [0, 1]), (1, [0, 1]), (2, [0, 1]), (3, []), (100008, [0, 1, 8])]
theorem impl_row_at_body : Try.f93.body = some (Try.f93.body.getD .skip) := by kernel_rfl
theorem impl_row_at_strip : strip [] (Try.f93.body.getD .skip) = impl_row_at_c := by kernel_rfl
noncomputable def impl_row_at (a0 : (List Int)) (a1 : Int) : Option Int :=
  (if (decide (a1 < (a0.length : Int))) then (ifp (0 ≤ a1 ∧ a1 < ((a0.length : Nat) : Int)) ((some (rd a0 a1.toNat)))) else (some 0))
set_option maxHeartbeats 16000000 in
theorem impl_row_at_ok (a0 : (List Int)) (a1 : Int) (r : Int) (h : impl_row_at a0 a1 = some r) : Den Try.prog 93 [(eSi64 a0), (.int .i64 a1)] { r := (.int .i64 r) } := by
  refine den_of (rs := [(.int .i64 r)]) (ac := impl_row_at_c) (L := impl_row_at_L) (n := 13) (m := []) good Try.func93 impl_row_at_body (by kernel_rfl) Try.ntmps93 rfl rfl impl_row_at_strip rfl rfl ?_
  refine a_st (σ' := ⟨[(0, (eSi64 a0)), (1, (.int .i64 a1))], []⟩) (by kernel_rfl) ?_
  unfold impl_row_at_c
  refine a_seq ?_
  refine a_region ?_
  refine a_val (v := (.int .i64 0)) (u := []) rfl trivial rfl ?_
  refine a_nil ?_
  refine a_next (σ' := ⟨[(0, (eSi64 a0)), (1, (.int .i64 a1))], []⟩) (by kernel_rfl) ?_
  refine a_seq ?_
  refine a_seq ?_
  refine a_region ?_
  refine a_val (v := (.int .i64 a1)) (u := []) rfl trivial rfl ?_
  refine a_val (v := (eSi64 a0)) (u := []) rfl trivial rfl ?_
  refine a_val (v := (.int .i64 (a0.length : Int))) (u := []) (len_run rfl rfl) trivial rfl ?_
  refine a_val (v := (.bool ((decide (a1 < (a0.length : Int)))))) (u := []) rfl trivial rfl ?_
  refine a_nil ?_
  refine a_next (σ' := ⟨[(0, (eSi64 a0)), (1, (.int .i64 a1)), (8, (.bool ((decide (a1 < (a0.length : Int))))))], []⟩) (by kernel_rfl) ?_
  cases hb1 : (decide (a1 < (a0.length : Int)))
  · have h := ite_f hb1 h
    refine a_cond_f rfl ?_
    refine a_skip ?_
    refine a_next (σ' := ⟨[], []⟩) (by kernel_rfl) ?_
    refine a_seq ?_
    refine a_region ?_
    refine a_val (v := (.int .i64 0)) (u := []) rfl trivial rfl ?_
    refine a_nil ?_
    refine a_next rfl ?_
    refine a_ret ?_
    refine ⟨.inr rfl, ?_⟩
    rw [Try.results93]
    cases h
    exact ⟨_, _, _, _, _, rfl, trivial, .inl ⟨rfl, .inl rfl⟩, rfl, rfl⟩
  · have h := ite_t hb1 h
    refine a_cond_t rfl ?_
    refine a_seq ?_
    refine a_region ?_
    refine a_val (v := (eSi64 a0)) (u := []) rfl trivial rfl ?_
    refine a_val (v := (.int .i64 a1)) (u := []) rfl trivial rfl ?_
    obtain ⟨hc2, h⟩ := ifp_some h
    refine a_val (v := (.ref (.row 1 (a0.map (AV.int .i64))) [a1.toNat] [a1.toNat * 1])) (u := []) rfl (lmap hc2) rfl ?_
    have hl3 : LdOk [a1.toNat] (.row 1 (a0.map (AV.int .i64))) [a1.toNat * 1] 1 false (.int .i64 (rd a0 a1.toNat)) := (.row (llt hc2) rfl (.nil rfl rfl rfl))
    refine a_val (v := (.int .i64 (rd a0 a1.toNat))) (u := []) (ld_ref (i := ⟨.int .i64, 1, 8, (.int .i64 0)⟩) rfl rfl hl3) hl3.c rfl ?_
    refine a_val (v := (.int .i64 (rd a0 a1.toNat))) (u := []) rfl trivial rfl ?_
    refine a_nil ?_
    refine a_next rfl ?_
    refine a_ret ?_
    refine t_ret ?_
    refine ⟨.inr rfl, ?_⟩
    rw [Try.results93]
    cases h
    exact ⟨_, _, _, _, _, rfl, trivial, .inl ⟨rfl, .inl rfl⟩, rfl, rfl⟩
def impl_prime_reduce_c : ACode := (.seq (.region 0 [⟨some 4, .asg 0 (.const (.int .i64 0)) 2, none, []⟩] false) (.seq (.region 1 [⟨some 5, .mov (.tmp 1), none, []⟩, ⟨some 6, .mov (.tmp 0), none, []⟩, ⟨some 7, .bin .rem 2 (.tmp 5) (.tmp 6), none, []⟩, ⟨some 8, .mov (.tmp 0), none, []⟩, ⟨some 9, .bin .add 2 (.tmp 7) (.tmp 8), none, []⟩, ⟨some 10, .mov (.tmp 0), none, []⟩, ⟨some 11, .bin .rem 2 (.tmp 9) (.tmp 10), none, []⟩, ⟨some 4, .asg 0 (.tmp 11) 2, none, []⟩] false) .ret))
def impl_prime_reduce_L : Live := [(0, [0, 1]), (1, [0, 1])]
theorem impl_prime_reduce_body : Try.f110.body = some (Try.f110.body.getD .skip) := by kernel_rfl
theorem impl_prime_reduce_strip : strip [] (Try.f110.body.getD .skip) = impl_prime_reduce_c := by kernel_rfl
noncomputable def impl_prime_reduce (a0 : Int) (a1 : Int) : Option Int :=
  (ifp (a0 ≠ 0) ((ifp (a0 ≠ 0) ((some (Int.tmod (IntKind.i64.wrap ((Int.tmod a1 a0) + a0)) a0))))))
set_option maxHeartbeats 16000000 in
theorem impl_prime_reduce_ok (a0 : Int) (a1 : Int) (r : Int) (h : impl_prime_reduce a0 a1 = some r) : Den Try.prog 110 [(.int .i64 a0), (.int .i64 a1)] { r := (.int .i64 r) } := by
  refine den_of (rs := [(.int .i64 r)]) (ac := impl_prime_reduce_c) (L := impl_prime_reduce_L) (n := 12) (m := []) good Try.func110 impl_prime_reduce_body (by kernel_rfl) Try.ntmps110 rfl rfl impl_prime_reduce_strip rfl rfl ?_
  refine a_st (σ' := ⟨[(0, (.int .i64 a0)), (1, (.int .i64 a1))], []⟩) (by kernel_rfl) ?_
  unfold impl_prime_reduce_c
  refine a_seq ?_
  refine a_region ?_
  refine a_val (v := (.int .i64 0)) (u := []) rfl trivial rfl ?_
  refine a_nil ?_
  refine a_next (σ' := ⟨[(0, (.int .i64 a0)), (1, (.int .i64 a1))], []⟩) (by kernel_rfl) ?_
  refine a_seq ?_
  refine a_region ?_
  refine a_val (v := (.int .i64 a1)) (u := []) rfl trivial rfl ?_
  refine a_val (v := (.int .i64 a0)) (u := []) rfl trivial rfl ?_
  obtain ⟨hc1, h⟩ := ifp_some h
  refine a_val (v := (.int .i64 (Int.tmod a1 a0))) (u := []) rfl hc1 rfl ?_
  refine a_val (v := (.int .i64 a0)) (u := []) rfl trivial rfl ?_
  refine a_val (v := (.int .i64 (IntKind.i64.wrap ((Int.tmod a1 a0) + a0)))) (u := []) rfl trivial rfl ?_
  refine a_val (v := (.int .i64 a0)) (u := []) rfl trivial rfl ?_
  obtain ⟨hc2, h⟩ := ifp_some h
  refine a_val (v := (.int .i64 (Int.tmod (IntKind.i64.wrap ((Int.tmod a1 a0) + a0)) a0))) (u := []) rfl hc2 rfl ?_
  refine a_val (v := (.int .i64 (Int.tmod (IntKind.i64.wrap ((Int.tmod a1 a0) + a0)) a0))) (u := []) rfl trivial rfl ?_
  refine a_nil ?_
  refine a_next rfl ?_
  refine a_ret ?_
  refine ⟨.inr rfl, ?_⟩
  rw [Try.results110]
  cases h
  exact ⟨_, _, _, _, _, rfl, trivial, .inl ⟨rfl, .inl rfl⟩, rfl, rfl⟩
def impl_prime_combine_c : ACode := (.seq (.region 0 [⟨some 8, .asg 1 (.const (.slice none 0 0)) 64, none, []⟩] false) (.seq (.region 1 [⟨some 11, .mov (.tmp 1), none, []⟩, ⟨some 12, .blt 0 .len [(.tmp 11)] [64], none, []⟩, ⟨some 13, .mov (.tmp 2), none, []⟩, ⟨some 14, .blt 0 .len [(.tmp 13)] [64], none, []⟩, ⟨some 15, .blt 0 .max [(.tmp 12), (.tmp 14)] [3, 3], none, []⟩, ⟨some 16, .mkslice 64 (.tmp 15) (.tmp 15), none, []⟩, ⟨some 9, .asg 2 (.tmp 16) 64, none, []⟩] false) (.seq (.seq (.region 2 [⟨some 17, .mov (.tmp 9), none, []⟩, ⟨some 18, .blt 0 .len [(.tmp 17)] [64], none, []⟩, ⟨some 19, .mov (.const (.int .i64 0)), none, []⟩] false) (.block 0 (.loop (.seq (.region 3 [⟨some 20, .bin .lss 3 (.tmp 19) (.tmp 18), none, []⟩] false) (.seq (.cond (.tmp 20) .skip (.exit 0)) (.seq (.block 1 (.seq (.region 4 [⟨some 21, .mov (.tmp 19), none, []⟩, ⟨some 10, .asg 0 (.tmp 21) 3, none, []⟩] false) (.region 5 [⟨some 22, .mov (.tmp 9), none, []⟩, ⟨some 23, .mov (.tmp 10), none, []⟩, ⟨some 24, .mov (.tmp 0), none, []⟩, ⟨some 25, .mov (.tmp 1), none, []⟩, ⟨some 26, .mov (.tmp 10), none, []⟩, ⟨some 27, .call 0 (.func 93) [(.tmp 25), (.tmp 26)], none, []⟩, ⟨some 28, .mov (.tmp 3), none, []⟩, ⟨some 29, .mov (.tmp 2), none, []⟩, ⟨some 30, .mov (.tmp 10), none, []⟩, ⟨some 31, .call 0 (.func 93) [(.tmp 29), (.tmp 30)], none, []⟩, ⟨some 32, .bin .mul 2 (.tmp 28) (.tmp 31), none, []⟩, ⟨some 33, .bin .add 2 (.tmp 27) (.tmp 32), none, []⟩, ⟨some 34, .call 0 (.func 110) [(.tmp 24), (.tmp 33)], none, []⟩, ⟨some 35, .indexAddr 64 (.tmp 22) (.tmp 23), none, []⟩, ⟨none, .store 2 (.tmp 35) (.tmp 34), none, []⟩] false))) (.region 6 [⟨some 36, .bin .add 3 (.tmp 19) (.const (.int .i64 1)), none, []⟩, ⟨some 19, .mov (.tmp 36), none, []⟩] false))))))) (.seq (.region 7 [⟨some 37, .mov (.tmp 9), none, []⟩, ⟨some 38, .call 0 (.func 111) [(.tmp 37)], none, []⟩, ⟨some 8, .asg 1 (.tmp 38) 64, none, []⟩] false) .ret))))
def impl_prime_combine_L : Live := [(0, [0, 1, 2, 3]), (1, [0, 1, 2, 3]), (2, [0, 1, 2, 3, 9]), (3, [0, 1, 2, 3, 9, 18, 19]), (4, [0, 1, 2, 3, 9, 18, 19]), (5, [0, 1, 2, 3, 9, 10, 18, 19]), (6, [0, 1, 2, 3, 9, 18, 19]), (7, [9]), (100020, [0, 1, 2, 3, 9, 18, 19, 20])]
theorem impl_prime_combine_body : Try.f56.body = some (Try.f56.body.getD .skip) := by kernel_rfl
theorem impl_prime_combine_strip : strip [(8, 1), (9, 2)] (Try.f56.body.getD .skip) = impl_prime_combine_c := by kernel_rfl
noncomputable def impl_prime_combine_l1 (x1 : Int) (a1 : (List Int)) (a2 : (List Int)) (a0 : Int) (a3 : Int) (x58 : Int) (x59 : (List Int)) : Option ((Int × (List Int)) ⊕ (List Int)) :=
  (letp ((decide (x58 < (((List.replicate x1.toNat (0 : Int)).length : Int))))) fun x74 => (if x74 then (Option.bind (impl_row_at a1 x58) fun r77 => (Option.bind (impl_row_at a2 x58) fun r79 => (Option.bind (impl_prime_reduce a0 (IntKind.i64.wrap (r77 + (IntKind.i64.wrap (a3 * r79))))) fun r81 => (ifp (0 ≤ x58 ∧ x58 < ((x59.length : Nat) : Int)) ((some (.inl ((IntKind.i64.wrap (x58 + 1), (x59.set x58.toNat r81)))))))))) else (some (.inr x59))))
noncomputable def impl_prime_combine (a0 : Int) (a1 : (List Int)) (a2 : (List Int)) (a3 : Int) : Option (List Int) :=
  (letp ((if (a2.length : Int) > (a1.length : Int) then (a2.length : Int) else (a1.length : Int))) fun x1 => (ifp (0 ≤ x1 ∧ x1 ≤ 140737488355328 ∧ 8 * x1 ≤ 140737488355328) ((Option.bind (α := (List Int)) ((loopM (fun s : (Int × (List Int)) => impl_prime_combine_l1 x1 a1 a2 a0 a3 s.1 s.2) (0, List.replicate x1.toNat (0 : Int)))) fun x43 => (Option.bind (impl_row_trimmed x43) fun r86 => (some r86))))))
set_option maxHeartbeats 16000000 in
theorem impl_prime_combine_ok (a0 : Int) (a1 : (List Int)) (a2 : (List Int)) (a3 : Int) (r : (List Int)) (h : impl_prime_combine a0 a1 a2 a3 = some r) : Den Try.prog 56 [(.int .i64 a0), (eSi64 a1), (eSi64 a2), (.int .i64 a3)] { r := (eSi64 r) } := by
  refine den_of (rs := [(eSi64 r)]) (ac := impl_prime_combine_c) (L := impl_prime_combine_L) (n := 39) (m := [(8, 1), (9, 2)]) good Try.func56 impl_prime_combine_body (by kernel_rfl) Try.ntmps56 rfl rfl impl_prime_combine_strip rfl rfl ?_
  refine a_st (σ' := ⟨[(0, (.int .i64 a0)), (1, (eSi64 a1)), (2, (eSi64 a2)), (3, (.int .i64 a3))], []⟩) (by kernel_rfl) ?_
  unfold impl_prime_combine_c
  refine a_seq ?_
  refine a_region ?_
  refine a_val (v := (eSi64 ([]))) (u := []) rfl trivial rfl ?_
  refine a_nil ?_
  refine a_next (σ' := ⟨[(0, (.int .i64 a0)), (1, (eSi64 a1)), (2, (eSi64 a2)), (3, (.int .i64 a3))], []⟩) (by kernel_rfl) ?_
  refine a_seq ?_
  refine a_region ?_
  refine a_val (v := (eSi64 a1)) (u := []) rfl trivial rfl ?_
  refine a_val (v := (.int .i64 (a1.length : Int))) (u := []) (len_run rfl rfl) trivial rfl ?_
  refine a_val (v := (eSi64 a2)) (u := []) rfl trivial rfl ?_
  refine a_val (v := (.int .i64 (a2.length : Int))) (u := []) (len_run rfl rfl) trivial rfl ?_
  obtain ⟨x1, hx2, h⟩ := letp_some h
  refine a_val' (v := (.int .i64 ((if (a2.length : Int) > (a1.length : Int) then (a2.length : Int) else (a1.length : Int))))) (v' := (.int .i64 x1)) (u := []) (u' := []) rfl (congrArg (fun z => ((.int .i64 z) : AV)) hx2) rfl trivial rfl ?_
  obtain ⟨hc3, h⟩ := ifp_some h
  refine a_val (v := (.osl 2600)) (u := [(2600, some ⟨(.row 1 ((List.replicate x1.toNat (0 : Int)).map (AV.int .i64))), false⟩)]) (mk_run (i := ⟨.int .i64, 1, 8, (.int .i64 0)⟩) (f := (AV.int .i64)) (y := (0 : Int)) rfl rfl rfl rfl rfl rfl) ⟨rfl, hc3.1, hc3.2.1, hc3.2.2, (Nat.le_of_ble_eq_true rfl)⟩ rfl ?_
  refine a_val (v := (.osl 2600)) (u := []) rfl trivial rfl ?_
  refine a_nil ?_
  refine a_next (σ' := ⟨[(0, (.int .i64 a0)), (1, (eSi64 a1)), (2, (eSi64 a2)), (3, (.int .i64 a3)), (9, (.osl 9))], [(9, some ⟨(.row 1 ((List.replicate x1.toNat (0 : Int)).map (AV.int .i64))), false⟩)]⟩) (by kernel_rfl) ?_
  obtain ⟨y44, hy45, hk46⟩ := bind_some h
  clear h
  refine a_join (emb := fun (s : (List Int)) => ⟨[(9, (.osl 9))], [(9, some ⟨(.row 1 (s.map (AV.int .i64))), false⟩)]⟩) (pre := fun s => s = y44) ?_ ?_
  · rintro x43 rfl
    have h := hk46
    refine a_st (σ' := ⟨[(9, (.osl 9))], [(9, some ⟨(.row 1 (x43.map (AV.int .i64))), false⟩)]⟩) (by kernel_rfl) ?_
    refine a_seq ?_
    refine a_region ?_
    refine a_val (v := (.osl 9)) (u := []) rfl trivial rfl ?_
    obtain ⟨r86, hr87, h⟩ := bind_some h
    refine a_call (args := [(eSi64 x43)]) (u := [(9, some ⟨(.row 1 (x43.map (AV.int .i64))), true⟩)]) (r := (eSi64 r86)) rfl rfl (impl_row_trimmed_ok x43 r86 hr87) rfl ?_
    refine a_val (v := (eSi64 r86)) (u := []) rfl trivial rfl ?_
    refine a_nil ?_
    refine a_next rfl ?_
    refine a_ret ?_
    refine ⟨.inr rfl, ?_⟩
    rw [Try.results56]
    cases h
    exact ⟨_, _, _, _, _, rfl, trivial, .inl ⟨rfl, .inl rfl⟩, rfl, rfl⟩
  · have h := hy45
    refine a_seq ?_
    refine a_region ?_
    refine a_val (v := (.osl 9)) (u := []) rfl trivial rfl ?_
    refine a_val (v := (.int .i64 (((List.replicate x1.toNat (0 : Int)).length : Int)))) (u := []) (leno_run rfl rfl rfl) trivial rfl ?_
    refine a_val (v := (.int .i64 0)) (u := []) rfl trivial rfl ?_
    refine a_nil ?_
    refine a_next (σ' := ⟨[(0, (.int .i64 a0)), (1, (eSi64 a1)), (2, (eSi64 a2)), (3, (.int .i64 a3)), (9, (.osl 9)), (18, (.int .i64 (((List.replicate x1.toNat (0 : Int)).length : Int)))), (19, (.int .i64 0))], [(9, some ⟨(.row 1 ((List.replicate x1.toNat (0 : Int)).map (AV.int .i64))), false⟩)]⟩) (by kernel_rfl) ?_
    refine a_block ?_
    refine a_loop (emb := fun (s : (Int × (List Int))) => ⟨[(0, (.int .i64 a0)), (1, (eSi64 a1)), (2, (eSi64 a2)), (3, (.int .i64 a3)), (9, (.osl 9)), (18, (.int .i64 (((List.replicate x1.toNat (0 : Int)).length : Int)))), (19, (.int .i64 s.1))], [(9, some ⟨(.row 1 (s.2.map (AV.int .i64))), false⟩)]⟩) (body := (fun s : (Int × (List Int)) => impl_prime_combine_l1 x1 a1 a2 a0 a3 s.1 s.2)) (G := fun q => some q = some y44) h rfl ?_ (by kernel_rfl)
    rintro X71 ⟨x58, x59⟩ x72 h hX73
    have h : impl_prime_combine_l1 x1 a1 a2 a0 a3 x58 x59 = some x72 := h
    refine a_st (σ' := ⟨[(0, (.int .i64 a0)), (1, (eSi64 a1)), (2, (eSi64 a2)), (3, (.int .i64 a3)), (9, (.osl 9)), (18, (.int .i64 (((List.replicate x1.toNat (0 : Int)).length : Int)))), (19, (.int .i64 x58))], [(9, some ⟨(.row 1 (x59.map (AV.int .i64))), false⟩)]⟩) (by kernel_rfl) ?_
    refine a_seq ?_
    refine a_region ?_
    obtain ⟨x74, hx75, h⟩ := letp_some h
    refine a_val' (v := (.bool ((decide (x58 < (((List.replicate x1.toNat (0 : Int)).length : Int))))))) (v' := (.bool x74)) (u := []) (u' := []) rfl (congrArg (fun z => ((.bool z) : AV)) hx75) rfl trivial rfl ?_
    refine a_nil ?_
    refine a_next (σ' := ⟨[(0, (.int .i64 a0)), (1, (eSi64 a1)), (2, (eSi64 a2)), (3, (.int .i64 a3)), (9, (.osl 9)), (18, (.int .i64 (((List.replicate x1.toNat (0 : Int)).length : Int)))), (19, (.int .i64 x58)), (20, (.bool x74))], [(9, some ⟨(.row 1 (x59.map (AV.int .i64))), false⟩)]⟩) (by kernel_rfl) ?_
    refine a_seq ?_
    cases hb76 : x74
    · have h := ite_f hb76 h
      refine a_cond_f rfl ?_
      refine a_exit ?_
      refine t_exit ?_
      cases h
      have h := hX73
      refine t_exit ?_
      refine b_exit ?_
      exact j_leaf x59 (Option.some.inj h) (by kernel_rfl)
    · have h := ite_t hb76 h
      refine a_cond_t rfl ?_
      refine a_skip ?_
      refine a_next (σ' := ⟨[(0, (.int .i64 a0)), (1, (eSi64 a1)), (2, (eSi64 a2)), (3, (.int .i64 a3)), (9, (.osl 9)), (18, (.int .i64 (((List.replicate x1.toNat (0 : Int)).length : Int)))), (19, (.int .i64 x58))], [(9, some ⟨(.row 1 (x59.map (AV.int .i64))), false⟩)]⟩) (by kernel_rfl) ?_
      refine a_seq ?_
      refine a_block ?_
      refine a_seq ?_
      refine a_region ?_
      refine a_val (v := (.int .i64 x58)) (u := []) rfl trivial rfl ?_
      refine a_val (v := (.int .i64 x58)) (u := []) rfl trivial rfl ?_
      refine a_nil ?_
      refine a_next (σ' := ⟨[(0, (.int .i64 a0)), (1, (eSi64 a1)), (2, (eSi64 a2)), (3, (.int .i64 a3)), (9, (.osl 9)), (10, (.int .i64 x58)), (18, (.int .i64 (((List.replicate x1.toNat (0 : Int)).length : Int)))), (19, (.int .i64 x58))], [(9, some ⟨(.row 1 (x59.map (AV.int .i64))), false⟩)]⟩) (by kernel_rfl) ?_
      refine a_region ?_
      refine a_val (v := (.osl 9)) (u := []) rfl trivial rfl ?_
      refine a_val (v := (.int .i64 x58)) (u := []) rfl trivial rfl ?_
      refine a_val (v := (.int .i64 a0)) (u := []) rfl trivial rfl ?_
      refine a_val (v := (eSi64 a1)) (u := []) rfl trivial rfl ?_
      refine a_val (v := (.int .i64 x58)) (u := []) rfl trivial rfl ?_
      obtain ⟨r77, hr78, h⟩ := bind_some h
      refine a_call (args := [(eSi64 a1), (.int .i64 x58)]) (u := []) (r := (.int .i64 r77)) rfl rfl (impl_row_at_ok a1 x58 r77 hr78) rfl ?_
      refine a_val (v := (.int .i64 a3)) (u := []) rfl trivial rfl ?_
      refine a_val (v := (eSi64 a2)) (u := []) rfl trivial rfl ?_
      refine a_val (v := (.int .i64 x58)) (u := []) rfl trivial rfl ?_
      obtain ⟨r79, hr80, h⟩ := bind_some h
      refine a_call (args := [(eSi64 a2), (.int .i64 x58)]) (u := []) (r := (.int .i64 r79)) rfl rfl (impl_row_at_ok a2 x58 r79 hr80) rfl ?_
      refine a_val (v := (.int .i64 (IntKind.i64.wrap (a3 * r79)))) (u := []) rfl trivial rfl ?_
      refine a_val (v := (.int .i64 (IntKind.i64.wrap (r77 + (IntKind.i64.wrap (a3 * r79)))))) (u := []) rfl trivial rfl ?_
      obtain ⟨r81, hr82, h⟩ := bind_some h
      refine a_call (args := [(.int .i64 a0), (.int .i64 (IntKind.i64.wrap (r77 + (IntKind.i64.wrap (a3 * r79)))))]) (u := []) (r := (.int .i64 r81)) rfl rfl (impl_prime_reduce_ok a0 (IntKind.i64.wrap (r77 + (IntKind.i64.wrap (a3 * r79)))) r81 hr82) rfl ?_
      obtain ⟨hc83, h⟩ := ifp_some h
      refine a_val (v := (.own 9 [x58.toNat] [x58.toNat * 1])) (u := []) rfl (lmap hc83) rfl ?_
      have hs84 : StOk [x58.toNat] (.row 1 (x59.map (AV.int .i64))) [x58.toNat * 1] 1 (.int .i64 r81) (.row 1 ((x59.set x58.toNat r81).map (AV.int .i64))) := (.row (y := r81) (llt hc83) rfl (.nil rfl rfl rfl rfl))
      refine a_val (v := .top) (u := [(9, some ⟨(.row 1 ((x59.set x58.toNat r81).map (AV.int .i64))), false⟩)]) (st_own (i := ⟨.int .i64, 1, 8, (.int .i64 0)⟩) rfl rfl (fun _ => rfl) rfl hs84) (hs84.c rfl) rfl ?_
      refine a_nil ?_
      refine b_norm ?_
      refine a_next (σ' := ⟨[(0, (.int .i64 a0)), (1, (eSi64 a1)), (2, (eSi64 a2)), (3, (.int .i64 a3)), (9, (.osl 9)), (18, (.int .i64 (((List.replicate x1.toNat (0 : Int)).length : Int)))), (19, (.int .i64 x58))], [(9, some ⟨(.row 1 ((x59.set x58.toNat r81).map (AV.int .i64))), false⟩)]⟩) (by kernel_rfl) ?_
      refine a_region ?_
      refine a_val (v := (.int .i64 (IntKind.i64.wrap (x58 + 1)))) (u := []) rfl trivial rfl ?_
      refine a_val (v := (.int .i64 (IntKind.i64.wrap (x58 + 1)))) (u := []) rfl trivial rfl ?_
      refine a_nil ?_
      cases h
      exact a_again (by kernel_rfl) hX73
def impl_prime_raised_c : ACode := (.seq (.region 0 [⟨some 6, .asg 1 (.const (.slice none 0 0)) 64, none, []⟩] false) (.seq (.region 1 [⟨some 8, .bslice 0 64 1 [(0, (.const (.int .i64 1)))], none, []⟩, ⟨some 7, .asg 1 (.tmp 8) 64, none, []⟩] false) (.seq (.seq (.region 2 [⟨some 9, .mov (.tmp 2), none, []⟩, ⟨some 10, .mov (.const (.int .i64 0)), none, []⟩] false) (.block 0 (.loop (.seq (.region 3 [⟨some 11, .bin .lss 2 (.tmp 10) (.tmp 9), none, []⟩] false) (.seq (.cond (.tmp 11) .skip (.exit 0)) (.seq (.block 1 (.region 4 [⟨some 12, .mov (.tmp 0), none, []⟩, ⟨some 13, .mov (.tmp 7), none, []⟩, ⟨some 14, .mov (.tmp 1), none, []⟩, ⟨some 15, .call 0 (.func 59) [(.tmp 12), (.tmp 13), (.tmp 14)], none, []⟩, ⟨some 7, .asg 1 (.tmp 15) 64, none, []⟩] false)) (.region 5 [⟨some 16, .bin .add 2 (.tmp 10) (.const (.int .i64 1)), none, []⟩, ⟨some 10, .mov (.tmp 16), none, []⟩] false))))))) (.seq (.region 6 [⟨some 17, .mov (.tmp 7), none, []⟩, ⟨some 6, .asg 1 (.tmp 17) 64, none, []⟩] false) .ret))))
def impl_prime_raised_L : Live := [(0, [0, 1, 2]), (1, [0, 1, 2]), (2, [0, 1, 2, 7]), (3, [0, 1, 7, 9, 10]), (4, [0, 1, 7, 9, 10]), (5, [0, 1, 7, 9, 10]), (6, [7]), (100011, [0, 1, 7, 9, 10, 11])]
theorem impl_prime_raised_body : Try.f99.body = some (Try.f99.body.getD .skip) := by kernel_rfl
theorem impl_prime_raised_strip : strip [(6, 1), (7, 1)] (Try.f99.body.getD .skip) = impl_prime_raised_c := by kernel_rfl
noncomputable def impl_prime_raised_l1 (a2 : Int) (a0 : Int) (a1 : (List Int)) (x23 : (List Int)) (x24 : Int) : Option (((List Int) × Int) ⊕ (List Int)) :=
  (if (decide (x24 < a2)) then (Option.bind (impl_prime_times a0 x23 a1) fun r32 => (some (.inl ((r32, IntKind.i64.wrap (x24 + 1)))))) else (some (.inr x23)))
noncomputable def impl_prime_raised (a0 : Int) (a1 : (List Int)) (a2 : Int) : Option (List Int) :=
  (Option.bind (α := (List Int)) ((loopM (fun s : ((List Int) × Int) => impl_prime_raised_l1 a2 a0 a1 s.1 s.2) ([1], 0))) fun x16 => (some x16))
set_option maxHeartbeats 16000000 in
theorem impl_prime_raised_ok (a0 : Int) (a1 : (List Int)) (a2 : Int) (r : (List Int)) (h : impl_prime_raised a0 a1 a2 = some r) : Den Try.prog 99 [(.int .i64 a0), (eSi64 a1), (.int .i64 a2)] { r := (eSi64 r) } := by
  refine den_of (rs := [(eSi64 r)]) (ac := impl_prime_raised_c) (L := impl_prime_raised_L) (n := 18) (m := [(6, 1), (7, 1)]) good Try.func99 impl_prime_raised_body (by kernel_rfl) Try.ntmps99 rfl rfl impl_prime_raised_strip rfl rfl ?_
  refine a_st (σ' := ⟨[(0, (.int .i64 a0)), (1, (eSi64 a1)), (2, (.int .i64 a2))], []⟩) (by kernel_rfl) ?_
  unfold impl_prime_raised_c
  refine a_seq ?_
  refine a_region ?_
  refine a_val (v := (eSi64 ([]))) (u := []) rfl trivial rfl ?_
  refine a_nil ?_
  refine a_next (σ' := ⟨[(0, (.int .i64 a0)), (1, (eSi64 a1)), (2, (.int .i64 a2))], []⟩) (by kernel_rfl) ?_
  refine a_seq ?_
  refine a_region ?_
  refine a_val (v := (.sl 1 true (([1]).map (AV.int .i64)))) (u := []) rfl ⟨(Nat.le_of_ble_eq_true rfl), (Nat.le_of_ble_eq_true rfl), (all_cons ⟨(Nat.le_of_ble_eq_true rfl), rfl⟩ all_nil)⟩ rfl ?_
  refine a_val (v := (eSi64 ([1]))) (u := []) (asg_tight (i := ⟨.int .i64, 1, 8, (.int .i64 0)⟩) (f := (AV.int .i64)) (l := [1]) rfl rfl rfl) trivial rfl ?_
  refine a_nil ?_
  refine a_next (σ' := ⟨[(0, (.int .i64 a0)), (1, (eSi64 a1)), (2, (.int .i64 a2)), (7, (eSi64 ([1])))], []⟩) (by kernel_rfl) ?_
  obtain ⟨y17, hy18, hk19⟩ := bind_some h
  clear h
  refine a_join (emb := fun (s : (List Int)) => ⟨[(7, (eSi64 s))], []⟩) (pre := fun s => s = y17) ?_ ?_
  · rintro x16 rfl
    have h := hk19
    refine a_st (σ' := ⟨[(7, (eSi64 x16))], []⟩) (by kernel_rfl) ?_
    refine a_seq ?_
    refine a_region ?_
    refine a_val (v := (eSi64 x16)) (u := []) rfl trivial rfl ?_
    refine a_val (v := (eSi64 x16)) (u := []) rfl trivial rfl ?_
    refine a_nil ?_
    refine a_next rfl ?_
    refine a_ret ?_
    refine ⟨.inr rfl, ?_⟩
    rw [Try.results99]
    cases h
    exact ⟨_, _, _, _, _, rfl, trivial, .inl ⟨rfl, .inl rfl⟩, rfl, rfl⟩
  · have h := hy18
    refine a_seq ?_
    refine a_region ?_
    refine a_val (v := (.int .i64 a2)) (u := []) rfl trivial rfl ?_
    refine a_val (v := (.int .i64 0)) (u := []) rfl trivial rfl ?_
    refine a_nil ?_
    refine a_next (σ' := ⟨[(0, (.int .i64 a0)), (1, (eSi64 a1)), (7, (eSi64 ([1]))), (9, (.int .i64 a2)), (10, (.int .i64 0))], []⟩) (by kernel_rfl) ?_
    refine a_block ?_
    refine a_loop (emb := fun (s : ((List Int) × Int)) => ⟨[(0, (.int .i64 a0)), (1, (eSi64 a1)), (7, (eSi64 s.1)), (9, (.int .i64 a2)), (10, (.int .i64 s.2))], []⟩) (body := (fun s : ((List Int) × Int) => impl_prime_raised_l1 a2 a0 a1 s.1 s.2)) (G := fun q => some q = some y17) h rfl ?_ (by kernel_rfl)
    rintro X28 ⟨x23, x24⟩ x29 h hX30
    have h : impl_prime_raised_l1 a2 a0 a1 x23 x24 = some x29 := h
    refine a_st (σ' := ⟨[(0, (.int .i64 a0)), (1, (eSi64 a1)), (7, (eSi64 x23)), (9, (.int .i64 a2)), (10, (.int .i64 x24))], []⟩) (by kernel_rfl) ?_
    refine a_seq ?_
    refine a_region ?_
    refine a_val (v := (.bool ((decide (x24 < a2))))) (u := []) rfl trivial rfl ?_
    refine a_nil ?_
    refine a_next (σ' := ⟨[(0, (.int .i64 a0)), (1, (eSi64 a1)), (7, (eSi64 x23)), (9, (.int .i64 a2)), (10, (.int .i64 x24)), (11, (.bool ((decide (x24 < a2)))))], []⟩) (by kernel_rfl) ?_
    refine a_seq ?_
    cases hb31 : (decide (x24 < a2))
    · have h := ite_f hb31 h
      refine a_cond_f rfl ?_
      refine a_exit ?_
      refine t_exit ?_
      cases h
      have h := hX30
      refine t_exit ?_
      refine b_exit ?_
      exact j_leaf x23 (Option.some.inj h) (by kernel_rfl)
    · have h := ite_t hb31 h
      refine a_cond_t rfl ?_
      refine a_skip ?_
      refine a_next (σ' := ⟨[(0, (.int .i64 a0)), (1, (eSi64 a1)), (7, (eSi64 x23)), (9, (.int .i64 a2)), (10, (.int .i64 x24))], []⟩) (by kernel_rfl) ?_
      refine a_seq ?_
      refine a_block ?_
      refine a_region ?_
      refine a_val (v := (.int .i64 a0)) (u := []) rfl trivial rfl ?_
      refine a_val (v := (eSi64 x23)) (u := []) rfl trivial rfl ?_
      refine a_val (v := (eSi64 a1)) (u := []) rfl trivial rfl ?_
      obtain ⟨r32, hr33, h⟩ := bind_some h
      refine a_call (args := [(.int .i64 a0), (eSi64 x23), (eSi64 a1)]) (u := []) (r := (eSi64 r32)) rfl rfl (impl_prime_times_ok a0 x23 a1 r32 hr33) rfl ?_
      refine a_val (v := (eSi64 r32)) (u := []) rfl trivial rfl ?_
      refine a_nil ?_
      refine b_norm ?_
      refine a_next (σ' := ⟨[(0, (.int .i64 a0)), (1, (eSi64 a1)), (7, (eSi64 r32)), (9, (.int .i64 a2)), (10, (.int .i64 x24))], []⟩) (by kernel_rfl) ?_
      refine a_region ?_
      refine a_val (v := (.int .i64 (IntKind.i64.wrap (x24 + 1)))) (u := []) rfl trivial rfl ?_
      refine a_val (v := (.int .i64 (IntKind.i64.wrap (x24 + 1)))) (u := []) rfl trivial rfl ?_
      refine a_nil ?_
      cases h
      exact a_again (by kernel_rfl) hX30
def impl_row_fits_c : ACode := (.seq (.region 0 [⟨some 2, .asg 0 (.const (.bool false)) 4, none, []⟩] false) (.seq (.region 1 [⟨some 3, .mov (.tmp 0), none, []⟩, ⟨some 4, .call 0 (.func 89) [(.tmp 3)], none, []⟩, ⟨some 5, .bin .leq 2 (.tmp 4) (.const (.int .i64 63)), none, []⟩, ⟨some 2, .asg 0 (.tmp 5) 4, none, []⟩] false) .ret))
def impl_row_fits_L : Live := [(0, [0]), (1, [0])]
theorem impl_row_fits_body : Try.f112.body = some (Try.f112.body.getD .skip) := by kernel_rfl
theorem impl_row_fits_strip : strip [] (Try.f112.body.getD .skip) = impl_row_fits_c := by kernel_rfl
noncomputable def impl_row_fits (a0 : (List Int)) : Option Bool :=
  (Option.bind (impl_row_degree a0) fun r1 => (some ((decide (r1 ≤ 63)))))
set_option maxHeartbeats 16000000 in
theorem impl_row_fits_ok (a0 : (List Int)) (r : Bool) (h : impl_row_fits a0 = some r) : Den Try.prog 112 [(eSi64 a0)] { r := (.bool r) } := by
  refine den_of (rs := [(.bool r)]) (ac := impl_row_fits_c) (L := impl_row_fits_L) (n := 6) (m := []) good Try.func112 impl_row_fits_body (by kernel_rfl) Try.ntmps112 rfl rfl impl_row_fits_strip rfl rfl ?_
  refine a_st (σ' := ⟨[(0, (eSi64 a0))], []⟩) (by kernel_rfl) ?_
  unfold impl_row_fits_c
  refine a_seq ?_
  refine a_region ?_
  refine a_val (v := (.bool false)) (u := []) rfl trivial rfl ?_
  refine a_nil ?_
  refine a_next (σ' := ⟨[(0, (eSi64 a0))], []⟩) (by kernel_rfl) ?_
  refine a_seq ?_
  refine a_region ?_
  refine a_val (v := (eSi64 a0)) (u := []) rfl trivial rfl ?_
  obtain ⟨r1, hr2, h⟩ := bind_some h
  refine a_call (args := [(eSi64 a0)]) (u := []) (r := (.int .i64 r1)) rfl rfl (impl_row_degree_ok a0 r1 hr2) rfl ?_
  refine a_val (v := (.bool ((decide (r1 ≤ 63))))) (u := []) rfl trivial rfl ?_
  refine a_val (v := (.bool ((decide (r1 ≤ 63))))) (u := []) rfl trivial rfl ?_
  refine a_nil ?_
  refine a_next rfl ?_
  refine a_ret ?_
  refine ⟨.inr rfl, ?_⟩
  rw [Try.results112]
  cases h
  exact ⟨_, _, _, _, _, rfl, trivial, .inl ⟨rfl, .inl rfl⟩, rfl, rfl⟩
def impl_row_poly_c : ACode := (.seq (.region 0 [⟨some 2, .alloc 23, none, []⟩] false) (.seq (.region 1 [⟨some 3, .alloc 23, none, []⟩] false) (.seq (.seq (.region 2 [⟨some 6, .mov (.tmp 0), none, []⟩, ⟨some 7, .blt 0 .len [(.tmp 6)] [64], none, []⟩, ⟨some 8, .mov (.const (.int .i64 0)), none, []⟩] false) (.block 0 (.loop (.seq (.region 3 [⟨some 9, .bin .lss 3 (.tmp 8) (.tmp 7), none, []⟩] false) (.seq (.cond (.tmp 9) .skip (.exit 0)) (.seq (.block 1 (.seq (.region 4 [⟨some 10, .mov (.tmp 8), none, []⟩, ⟨some 11, .indexAddr 64 (.tmp 6) (.tmp 8), none, []⟩, ⟨some 12, .load 2 (.tmp 11), none, []⟩, ⟨some 4, .asg 0 (.tmp 10) 3, none, []⟩, ⟨some 5, .asg 0 (.tmp 12) 2, none, []⟩] false) (.region 5 [⟨some 13, .mov (.tmp 4), none, []⟩, ⟨some 14, .mov (.tmp 5), none, []⟩, ⟨some 15, .conv 2 5 (.tmp 14), none, []⟩, ⟨some 16, .indexAddr 23 (.tmp 3) (.tmp 13), none, []⟩, ⟨none, .store 5 (.tmp 16) (.tmp 15), none, []⟩] false))) (.region 6 [⟨some 17, .bin .add 3 (.tmp 8) (.const (.int .i64 1)), none, []⟩, ⟨some 8, .mov (.tmp 17), none, []⟩] false))))))) (.seq (.region 7 [⟨some 18, .load 23 (.tmp 3), none, []⟩, ⟨none, .store 23 (.tmp 2) (.tmp 18), none, []⟩] false) .ret))))
def impl_row_poly_L : Live := [(0, [0]), (1, [0, 2]), (2, [0, 2, 3]), (3, [2, 3, 6, 7, 8]), (4, [2, 3, 6, 7, 8]), (5, [2, 3, 4, 5, 6, 7, 8]), (6, [2, 3, 6, 7, 8]), (7, [2, 3]), (100009, [2, 3, 6, 7, 8, 9])]
theorem impl_row_poly_body : Try.f101.body = some (Try.f101.body.getD .skip) := by kernel_rfl
theorem impl_row_poly_strip : strip [] (Try.f101.body.getD .skip) = impl_row_poly_c := by kernel_rfl
noncomputable def impl_row_poly_l1 (a0 : (List Int)) (x31 : Int) (x32 : (Vec Int 64)) : Option ((Int × (Vec Int 64)) ⊕ (Vec Int 64)) :=
  (if (decide (x31 < (a0.length : Int))) then (ifp (0 ≤ x31 ∧ x31 < ((a0.length : Nat) : Int)) ((ifp (0 ≤ x31 ∧ x31 < ((64 : Nat) : Int)) ((some (.inl ((IntKind.i64.wrap (x31 + 1), (vset x32 x31.toNat (IntKind.u8.wrap (rd a0 x31.toNat))))))))))) else (some (.inr x32)))
noncomputable def impl_row_poly (a0 : (List Int)) : Option (Vec Int 64) :=
  (Option.bind (α := (Vec Int 64)) ((loopM (fun s : (Int × (Vec Int 64)) => impl_row_poly_l1 a0 s.1 s.2) (0, (vrep 64 (0 : Int))))) fun x22 => (some x22))
set_option maxHeartbeats 16000000 in
theorem impl_row_poly_ok (a0 : (List Int)) (r : (Vec Int 64)) (h : impl_row_poly a0 = some r) : Den Try.prog 101 [(eSi64 a0)] { r := (eA64u8 r) } := by
  refine den_of (rs := [(eA64u8 r)]) (ac := impl_row_poly_c) (L := impl_row_poly_L) (n := 19) (m := []) good Try.func101 impl_row_poly_body (by kernel_rfl) Try.ntmps101 rfl rfl impl_row_poly_strip rfl rfl ?_
  refine a_st (σ' := ⟨[(0, (eSi64 a0))], []⟩) (by kernel_rfl) ?_
  unfold impl_row_poly_c
  refine a_seq ?_
  refine a_region ?_
  refine a_val (v := (.own 1200 [] [])) (u := [(1200, some ⟨(eA64u8 ((vrep 64 (0 : Int)))), false⟩)]) rfl trivial rfl ?_
  refine a_nil ?_
  refine a_next (σ' := ⟨[(0, (eSi64 a0)), (2, (.own 2 [] []))], [(2, some ⟨(eA64u8 ((vrep 64 (0 : Int)))), false⟩)]⟩) (by kernel_rfl) ?_
  refine a_seq ?_
  refine a_region ?_
  refine a_val (v := (.own 1300 [] [])) (u := [(1300, some ⟨(eA64u8 ((vrep 64 (0 : Int)))), false⟩)]) rfl trivial rfl ?_
  refine a_nil ?_
  refine a_next (σ' := ⟨[(0, (eSi64 a0)), (2, (.own 2 [] [])), (3, (.own 3 [] []))], [(2, some ⟨(eA64u8 ((vrep 64 (0 : Int)))), false⟩), (3, some ⟨(eA64u8 ((vrep 64 (0 : Int)))), false⟩)]⟩) (by kernel_rfl) ?_
  obtain ⟨y23, hy24, hk25⟩ := bind_some h
  clear h
  refine a_join (emb := fun (s : (Vec Int 64)) => ⟨[(2, (.own 2 [] [])), (3, (.own 3 [] []))], [(2, some ⟨(eA64u8 ((vrep 64 (0 : Int)))), false⟩), (3, some ⟨(eA64u8 s), false⟩)]⟩) (pre := fun s => s = y23) ?_ ?_
  · rintro x22 rfl
    have h := hk25
    refine a_st (σ' := ⟨[(2, (.own 2 [] [])), (3, (.own 3 [] []))], [(2, some ⟨(eA64u8 ((vrep 64 (0 : Int)))), false⟩), (3, some ⟨(eA64u8 x22), false⟩)]⟩) (by kernel_rfl) ?_
    refine a_seq ?_
    refine a_region ?_
    have hl47 : LdOk [] (eA64u8 x22) [] 64 true (eA64u8 x22) := (.nil rfl rfl rfl)
    refine a_val (v := (eA64u8 x22)) (u := []) (ld_own (i := ⟨.arr 64 5, 64, 64, (eA64u8 (vrep 64 (0 : Int)))⟩) rfl rfl rfl hl47) hl47.c rfl ?_
    have hs48 : StOk [] (eA64u8 ((vrep 64 (0 : Int)))) [] 64 (eA64u8 x22) (eA64u8 x22) := (.nil rfl rfl rfl rfl)
    refine a_val (v := .top) (u := [(2, some ⟨(eA64u8 x22), false⟩)]) (st_own (i := ⟨.arr 64 5, 64, 64, (eA64u8 (vrep 64 (0 : Int)))⟩) rfl rfl (fun _ => rfl) rfl hs48) (hs48.c rfl) rfl ?_
    refine a_nil ?_
    refine a_next rfl ?_
    refine a_ret ?_
    have hl49 : LdOk [] (eA64u8 x22) [] 64 true (eA64u8 x22) := (.nil rfl rfl rfl)
    refine ⟨.inr rfl, ?_⟩
    rw [Try.results101]
    cases h
    exact ⟨_, _, _, _, _, ld_own (i := ⟨.arr 64 5, 64, 64, (eA64u8 (vrep 64 (0 : Int)))⟩) rfl rfl rfl hl49, hl49.c, .inl ⟨rfl, .inl rfl⟩, rfl, rfl⟩
  · have h := hy24
    refine a_seq ?_
    refine a_region ?_
    refine a_val (v := (eSi64 a0)) (u := []) rfl trivial rfl ?_
    refine a_val (v := (.int .i64 (a0.length : Int))) (u := []) (len_run rfl rfl) trivial rfl ?_
    refine a_val (v := (.int .i64 0)) (u := []) rfl trivial rfl ?_
    refine a_nil ?_
    refine a_next (σ' := ⟨[(2, (.own 2 [] [])), (3, (.own 3 [] [])), (6, (eSi64 a0)), (7, (.int .i64 (a0.length : Int))), (8, (.int .i64 0))], [(2, some ⟨(eA64u8 ((vrep 64 (0 : Int)))), false⟩), (3, some ⟨(eA64u8 ((vrep 64 (0 : Int)))), false⟩)]⟩) (by kernel_rfl) ?_
    refine a_block ?_
    refine a_loop (emb := fun (s : (Int × (Vec Int 64))) => ⟨[(2, (.own 2 [] [])), (3, (.own 3 [] [])), (6, (eSi64 a0)), (7, (.int .i64 (a0.length : Int))), (8, (.int .i64 s.1))], [(2, some ⟨(eA64u8 ((vrep 64 (0 : Int)))), false⟩), (3, some ⟨(eA64u8 s.2), false⟩)]⟩) (body := (fun s : (Int × (Vec Int 64)) => impl_row_poly_l1 a0 s.1 s.2)) (G := fun q => some q = some y23) h rfl ?_ (by kernel_rfl)
    rintro X38 ⟨x31, x32⟩ x39 h hX40
    have h : impl_row_poly_l1 a0 x31 x32 = some x39 := h
    refine a_st (σ' := ⟨[(2, (.own 2 [] [])), (3, (.own 3 [] [])), (6, (eSi64 a0)), (7, (.int .i64 (a0.length : Int))), (8, (.int .i64 x31))], [(2, some ⟨(eA64u8 ((vrep 64 (0 : Int)))), false⟩), (3, some ⟨(eA64u8 x32), false⟩)]⟩) (by kernel_rfl) ?_
    refine a_seq ?_
    refine a_region ?_
    refine a_val (v := (.bool ((decide (x31 < (a0.length : Int)))))) (u := []) rfl trivial rfl ?_
    refine a_nil ?_
    refine a_next (σ' := ⟨[(2, (.own 2 [] [])), (3, (.own 3 [] [])), (6, (eSi64 a0)), (7, (.int .i64 (a0.length : Int))), (8, (.int .i64 x31)), (9, (.bool ((decide (x31 < (a0.length : Int))))))], [(2, some ⟨(eA64u8 ((vrep 64 (0 : Int)))), false⟩), (3, some ⟨(eA64u8 x32), false⟩)]⟩) (by kernel_rfl) ?_
    refine a_seq ?_
    cases hb41 : (decide (x31 < (a0.length : Int)))
    · have h := ite_f hb41 h
      refine a_cond_f rfl ?_
      refine a_exit ?_
      refine t_exit ?_
      cases h
      have h := hX40
      refine t_exit ?_
      refine b_exit ?_
      exact j_leaf x32 (Option.some.inj h) (by kernel_rfl)
    · have h := ite_t hb41 h
      refine a_cond_t rfl ?_
      refine a_skip ?_
      refine a_next (σ' := ⟨[(2, (.own 2 [] [])), (3, (.own 3 [] [])), (6, (eSi64 a0)), (7, (.int .i64 (a0.length : Int))), (8, (.int .i64 x31))], [(2, some ⟨(eA64u8 ((vrep 64 (0 : Int)))), false⟩), (3, some ⟨(eA64u8 x32), false⟩)]⟩) (by kernel_rfl) ?_
      refine a_seq ?_
      refine a_block ?_
      refine a_seq ?_
      refine a_region ?_
      refine a_val (v := (.int .i64 x31)) (u := []) rfl trivial rfl ?_
      obtain ⟨hc42, h⟩ := ifp_some h
      refine a_val (v := (.ref (.row 1 (a0.map (AV.int .i64))) [x31.toNat] [x31.toNat * 1])) (u := []) rfl (lmap hc42) rfl ?_
      have hl43 : LdOk [x31.toNat] (.row 1 (a0.map (AV.int .i64))) [x31.toNat * 1] 1 false (.int .i64 (rd a0 x31.toNat)) := (.row (llt hc42) rfl (.nil rfl rfl rfl))
      refine a_val (v := (.int .i64 (rd a0 x31.toNat))) (u := []) (ld_ref (i := ⟨.int .i64, 1, 8, (.int .i64 0)⟩) rfl rfl hl43) hl43.c rfl ?_
      refine a_val (v := (.int .i64 x31)) (u := []) rfl trivial rfl ?_
      refine a_val (v := (.int .i64 (rd a0 x31.toNat))) (u := []) rfl trivial rfl ?_
      refine a_nil ?_
      refine a_next (σ' := ⟨[(2, (.own 2 [] [])), (3, (.own 3 [] [])), (4, (.int .i64 x31)), (5, (.int .i64 (rd a0 x31.toNat))), (6, (eSi64 a0)), (7, (.int .i64 (a0.length : Int))), (8, (.int .i64 x31))], [(2, some ⟨(eA64u8 ((vrep 64 (0 : Int)))), false⟩), (3, some ⟨(eA64u8 x32), false⟩)]⟩) (by kernel_rfl) ?_
      refine a_region ?_
      refine a_val (v := (.int .i64 x31)) (u := []) rfl trivial rfl ?_
      refine a_val (v := (.int .i64 (rd a0 x31.toNat))) (u := []) rfl trivial rfl ?_
      refine a_val (v := (.int .u8 (IntKind.u8.wrap (rd a0 x31.toNat)))) (u := []) rfl trivial rfl ?_
      obtain ⟨hc44, h⟩ := ifp_some h
      refine a_val (v := (.own 3 [x31.toNat] [x31.toNat * 1])) (u := []) rfl hc44 rfl ?_
      have hs45 : StOk [x31.toNat] (eA64u8 x32) [x31.toNat * 1] 1 (.int .u8 (IntKind.u8.wrap (rd a0 x31.toNat))) (eA64u8 ((vset x32 x31.toNat (IntKind.u8.wrap (rd a0 x31.toNat))))) := (.arr (y := IntKind.u8.wrap (rd a0 x31.toNat)) (vlt x32 hc44) rfl (.nil rfl rfl rfl rfl))
      refine a_val (v := .top) (u := [(3, some ⟨(eA64u8 ((vset x32 x31.toNat (IntKind.u8.wrap (rd a0 x31.toNat))))), false⟩)]) (st_own (i := ⟨.int .u8, 1, 1, (.int .u8 0)⟩) rfl rfl (fun _ => rfl) rfl hs45) (hs45.c rfl) rfl ?_
      refine a_nil ?_
      refine b_norm ?_
      refine a_next (σ' := ⟨[(2, (.own 2 [] [])), (3, (.own 3 [] [])), (6, (eSi64 a0)), (7, (.int .i64 (a0.length : Int))), (8, (.int .i64 x31))], [(2, some ⟨(eA64u8 ((vrep 64 (0 : Int)))), false⟩), (3, some ⟨(eA64u8 ((vset x32 x31.toNat (IntKind.u8.wrap (rd a0 x31.toNat))))), false⟩)]⟩) (by kernel_rfl) ?_
      refine a_region ?_
      refine a_val (v := (.int .i64 (IntKind.i64.wrap (x31 + 1)))) (u := []) rfl trivial rfl ?_
      refine a_val (v := (.int .i64 (IntKind.i64.wrap (x31 + 1)))) (u := []) rfl trivial rfl ?_
      refine a_nil ?_
      cases h
      exact a_again (by kernel_rfl) hX40
def impl_told_c : ACode := (.seq (.region 0 [⟨some 2, .alloc 23, none, []⟩, ⟨some 3, .asg 0 (.const (.int .i64 0)) 2, none, []⟩] false) (.seq (.seq (.region 1 [⟨some 4, .mov (.tmp 0), none, []⟩, ⟨some 5, .call 0 (.func 112) [(.tmp 4)], none, []⟩, ⟨some 6, .un .not (.tmp 5), none, []⟩] false) (.cond (.tmp 6) (.seq (.region 2 [⟨some 7, .build 23 [], none, []⟩, ⟨none, .store 23 (.tmp 2) (.tmp 7), none, []⟩, ⟨some 3, .asg 0 (.const (.int .i64 3)) 2, none, []⟩] false) .ret) .skip)) (.seq (.region 3 [⟨some 8, .mov (.tmp 0), none, []⟩, ⟨some 9, .call 0 (.func 101) [(.tmp 8)], none, []⟩, ⟨none, .store 23 (.tmp 2) (.tmp 9), none, []⟩, ⟨some 3, .asg 0 (.const (.int .i64 0)) 2, none, []⟩] false) .ret)))
def impl_told_L : Live := [(0, [0]), (1, [0, 2]), (2, [2]), (3, [0, 2]), (100006, [0, 2, 6])]
theorem impl_told_body : Try.f58.body = some (Try.f58.body.getD .skip) := by kernel_rfl
theorem impl_told_strip : strip [] (Try.f58.body.getD .skip) = impl_told_c := by kernel_rfl
noncomputable def impl_told (a0 : (List Int)) : Option ((Vec Int 64) × Int) :=
  (Option.bind (impl_row_fits a0) fun r1 => (if (!r1) then (some (((vrep 64 (0 : Int)), 3))) else (Option.bind (impl_row_poly a0) fun r4 => (some (r4, 0)))))
set_option maxHeartbeats 16000000 in
theorem impl_told_ok (a0 : (List Int)) (r : ((Vec Int 64) × Int)) (h : impl_told a0 = some r) : Den Try.prog 58 [(eSi64 a0)] { r := (.tuple [(eA64u8 r.1), (.int .i64 r.2)]) } := by
  refine den_of (rs := [(eA64u8 r.1), (.int .i64 r.2)]) (ac := impl_told_c) (L := impl_told_L) (n := 10) (m := []) good Try.func58 impl_told_body (by kernel_rfl) Try.ntmps58 rfl rfl impl_told_strip rfl rfl ?_
  refine a_st (σ' := ⟨[(0, (eSi64 a0))], []⟩) (by kernel_rfl) ?_
  unfold impl_told_c
  refine a_seq ?_
  refine a_region ?_
  refine a_val (v := (.own 1200 [] [])) (u := [(1200, some ⟨(eA64u8 ((vrep 64 (0 : Int)))), false⟩)]) rfl trivial rfl ?_
  refine a_val (v := (.int .i64 0)) (u := []) rfl trivial rfl ?_
  refine a_nil ?_
  refine a_next (σ' := ⟨[(0, (eSi64 a0)), (2, (.own 2 [] []))], [(2, some ⟨(eA64u8 ((vrep 64 (0 : Int)))), false⟩)]⟩) (by kernel_rfl) ?_
  refine a_seq ?_
  refine a_seq ?_
  refine a_region ?_
  refine a_val (v := (eSi64 a0)) (u := []) rfl trivial rfl ?_
  obtain ⟨r1, hr2, h⟩ := bind_some h
  refine a_call (args := [(eSi64 a0)]) (u := []) (r := (.bool r1)) rfl rfl (impl_row_fits_ok a0 r1 hr2) rfl ?_
  refine a_val (v := (.bool (!r1))) (u := []) rfl trivial rfl ?_
  refine a_nil ?_
  refine a_next (σ' := ⟨[(0, (eSi64 a0)), (2, (.own 2 [] [])), (6, (.bool (!r1)))], [(2, some ⟨(eA64u8 ((vrep 64 (0 : Int)))), false⟩)]⟩) (by kernel_rfl) ?_
  cases hb3 : (!r1)
  · have h := ite_f hb3 h
    refine a_cond_f rfl ?_
    refine a_skip ?_
    refine a_next (σ' := ⟨[(0, (eSi64 a0)), (2, (.own 2 [] []))], [(2, some ⟨(eA64u8 ((vrep 64 (0 : Int)))), false⟩)]⟩) (by kernel_rfl) ?_
    refine a_seq ?_
    refine a_region ?_
    refine a_val (v := (eSi64 a0)) (u := []) rfl trivial rfl ?_
    obtain ⟨r4, hr5, h⟩ := bind_some h
    refine a_call (args := [(eSi64 a0)]) (u := []) (r := (eA64u8 r4)) rfl rfl (impl_row_poly_ok a0 r4 hr5) rfl ?_
    have hs6 : StOk [] (eA64u8 ((vrep 64 (0 : Int)))) [] 64 (eA64u8 r4) (eA64u8 r4) := (.nil rfl rfl rfl rfl)
    refine a_val (v := .top) (u := [(2, some ⟨(eA64u8 r4), false⟩)]) (st_own (i := ⟨.arr 64 5, 64, 64, (eA64u8 (vrep 64 (0 : Int)))⟩) rfl rfl (fun _ => rfl) rfl hs6) (hs6.c rfl) rfl ?_
    refine a_val (v := (.int .i64 0)) (u := []) rfl trivial rfl ?_
    refine a_nil ?_
    refine a_next rfl ?_
    refine a_ret ?_
    have hl7 : LdOk [] (eA64u8 r4) [] 64 true (eA64u8 r4) := (.nil rfl rfl rfl)
    refine ⟨.inr rfl, ?_⟩
    rw [Try.results58]
    cases h
    exact ⟨_, _, _, _, _, ld_own (i := ⟨.arr 64 5, 64, 64, (eA64u8 (vrep 64 (0 : Int)))⟩) rfl rfl rfl hl7, hl7.c, .inl ⟨rfl, .inl rfl⟩, rfl, ⟨_, _, _, _, _, rfl, trivial, .inl ⟨rfl, .inl rfl⟩, rfl, rfl⟩⟩
  · have h := ite_t hb3 h
    refine a_cond_t rfl ?_
    refine a_seq ?_
    refine a_region ?_
    refine a_val (v := (eA64u8 ((vrep 64 (0 : Int))))) (u := []) rfl ⟨⟨_, rfl, rfl⟩, all_nil⟩ rfl ?_
    have hs8 : StOk [] (eA64u8 ((vrep 64 (0 : Int)))) [] 64 (eA64u8 ((vrep 64 (0 : Int)))) (eA64u8 ((vrep 64 (0 : Int)))) := (.nil rfl rfl rfl rfl)
    refine a_val (v := .top) (u := [(2, some ⟨(eA64u8 ((vrep 64 (0 : Int)))), false⟩)]) (st_own (i := ⟨.arr 64 5, 64, 64, (eA64u8 (vrep 64 (0 : Int)))⟩) rfl rfl (fun _ => rfl) rfl hs8) (hs8.c rfl) rfl ?_
    refine a_val (v := (.int .i64 3)) (u := []) rfl trivial rfl ?_
    refine a_nil ?_
    refine a_next rfl ?_
    refine a_ret ?_
    refine t_ret ?_
    have hl9 : LdOk [] (eA64u8 ((vrep 64 (0 : Int)))) [] 64 true (eA64u8 ((vrep 64 (0 : Int)))) := (.nil rfl rfl rfl)
    refine ⟨.inr rfl, ?_⟩
    rw [Try.results58]
    cases h
    exact ⟨_, _, _, _, _, ld_own (i := ⟨.arr 64 5, 64, 64, (eA64u8 (vrep 64 (0 : Int)))⟩) rfl rfl rfl hl9, hl9.c, .inl ⟨rfl, .inl rfl⟩, rfl, ⟨_, _, _, _, _, rfl, trivial, .inl ⟨rfl, .inl rfl⟩, rfl, rfl⟩⟩
end Go.Proofs.Ytgodhgbnjlflmaa
