/- Functions of the program: plain Lean functions, and that the program computes them. Printed by gen.py. -/
import Derived.Test.YtgodhgbnjlflmaaFnT
import Derived.Test.YtgodhgbnjlflmaaFn2
import Derived.Test.YtgodhgbnjlflmaaFn3
namespace Go.Proofs.Ytgodhgbnjlflmaa
open Go.Abs Go.Proofs
set_option linter.unusedSimpArgs false
set_option linter.unusedVariables false

def impl_FirstVanishing_c : ACode := (.seq (.region 0 [⟨some 4, .asg 0 (.const (.int .i64 0)) 2, none, []⟩, ⟨some 5, .asg 0 (.const (.int .i64 0)) 2, none, []⟩] false) (.seq (.seq (.region 1 [⟨some 10, .mov (.tmp 0), none, []⟩, ⟨some 11, .mov (.tmp 1), none, []⟩, ⟨some 12, .call 0 (.func 63) [(.tmp 10), (.tmp 11), (.const (.int .i64 1)), (.const (.int .i64 40))], none, []⟩, ⟨some 6, .asg 0 (.tmp 12) 2, none, []⟩] false) (.seq (.region 2 [⟨some 13, .mov (.tmp 6), none, []⟩, ⟨some 14, .bin .neq 2 (.tmp 13) (.const (.int .i64 0)), none, []⟩] false) (.cond (.tmp 14) (.seq (.region 3 [⟨some 15, .mov (.tmp 6), none, []⟩, ⟨some 4, .asg 0 (.const (.int .i64 0)) 2, none, []⟩, ⟨some 5, .asg 0 (.tmp 15) 2, none, []⟩] false) .ret) .skip))) (.seq (.region 4 [⟨some 7, .asg 0 (.const (.int .i64 0)) 2, none, []⟩] false) (.block 0 (.loop (.seq (.block 1 (.seq (.region 6 [⟨some 19, .mov (.tmp 0), none, []⟩, ⟨some 20, .mov (.tmp 7), none, []⟩, ⟨some 21, .mov (.tmp 1), none, []⟩, ⟨some 22, .call 0 (.func 73) [(.tmp 19), (.tmp 20), (.tmp 21)], none, []⟩, ⟨some 18, .mov (.tmp 22), none, []⟩, ⟨some 23, .extract (.tmp 18) 0, none, []⟩, ⟨some 24, .extract (.tmp 18) 1, none, []⟩, ⟨some 8, .alloc 23, none, []⟩, ⟨none, .store 23 (.tmp 8) (.tmp 23), none, []⟩, ⟨some 9, .asg 0 (.tmp 24) 2, none, []⟩] false) (.seq (.seq (.region 7 [⟨some 25, .mov (.tmp 9), none, []⟩, ⟨some 26, .bin .neq 2 (.tmp 25) (.const (.int .i64 0)), none, []⟩] false) (.cond (.tmp 26) (.seq (.region 8 [⟨some 27, .mov (.tmp 9), none, []⟩, ⟨some 4, .asg 0 (.const (.int .i64 0)) 2, none, []⟩, ⟨some 5, .asg 0 (.tmp 27) 2, none, []⟩] false) .ret) .skip)) (.seq (.region 9 [⟨some 28, .load 23 (.tmp 8), none, []⟩, ⟨some 29, .build 23 [], none, []⟩, ⟨some 30, .bin .eql 23 (.tmp 28) (.tmp 29), none, []⟩] false) (.cond (.tmp 30) (.seq (.region 10 [⟨some 31, .mov (.tmp 7), none, []⟩, ⟨some 4, .asg 0 (.tmp 31) 2, none, []⟩, ⟨some 5, .asg 0 (.const (.int .i64 0)) 2, none, []⟩] false) .ret) .skip))))) (.region 5 [⟨some 16, .mov (.tmp 7), none, []⟩, ⟨some 17, .bin .add 2 (.tmp 16) (.const (.int .i64 1)), none, []⟩, ⟨some 7, .asg 0 (.tmp 17) 2, none, []⟩] false)))))))
def impl_FirstVanishing_L : Live := [(0, [0, 1]), (1, [0, 1]), (2, [0, 1, 6]), (3, [6]), (4, [0, 1]), (5, [0, 1, 7]), (6, [0, 1, 7]), (7, [0, 1, 7, 8, 9]), (8, [9]), (9, [0, 1, 7, 8]), (10, [7]), (100014, [0, 1, 6, 14]), (100026, [0, 1, 7, 8, 9, 26]), (100030, [0, 1, 7, 30])]
theorem impl_FirstVanishing_body : Try.f27.body = some (Try.f27.body.getD .skip) := by kernel_rfl
theorem impl_FirstVanishing_strip : strip [] (Try.f27.body.getD .skip) = impl_FirstVanishing_c := by kernel_rfl
noncomputable def impl_FirstVanishing_l1 (a0 : Int) (a1 : Int) (x10 : Int) : Option (Int ⊕ (Int × Int)) :=
  (Option.bind (impl_PowerSum a0 x10 a1) fun r20 => (if (r20.2 != 0) then (some (.inr (0, r20.2))) else (if (decide (r20.1 = ((vrep 64 (0 : Int))))) then (some (.inr (x10, 0))) else (some (.inl (IntKind.i64.wrap (x10 + 1)))))))
noncomputable def impl_FirstVanishing (a0 : Int) (a1 : Int) : Option (Int × Int) :=
  (Option.bind (impl_numberCode a0 a1 1 40) fun r1 => (if (r1 != 0) then (some (0, r1)) else (loopM (fun s : Int => impl_FirstVanishing_l1 a0 a1 s) 0)))
set_option maxHeartbeats 16000000 in
theorem impl_FirstVanishing_ok (a0 : Int) (a1 : Int) (r : (Int × Int)) (h : impl_FirstVanishing a0 a1 = some r) : Den Try.prog 27 [(.int .i64 a0), (.int .i64 a1)] { r := (.tuple [(.int .i64 r.1), (.int .i64 r.2)]) } := by
  refine den_of (rs := [(.int .i64 r.1), (.int .i64 r.2)]) (ac := impl_FirstVanishing_c) (L := impl_FirstVanishing_L) (n := 32) (m := []) good Try.func27 impl_FirstVanishing_body (by kernel_rfl) Try.ntmps27 rfl rfl impl_FirstVanishing_strip rfl rfl ?_
  refine a_st (σ' := ⟨[(0, (.int .i64 a0)), (1, (.int .i64 a1))], []⟩) rfl ?_
  unfold impl_FirstVanishing_c
  refine a_seq ?_
  refine a_region ?_
  refine a_val (v := (.int .i64 0)) (u := []) rfl trivial rfl ?_
  refine a_val (v := (.int .i64 0)) (u := []) rfl trivial rfl ?_
  refine a_nil ?_
  refine a_next (σ' := ⟨[(0, (.int .i64 a0)), (1, (.int .i64 a1))], []⟩) rfl ?_
  refine a_seq ?_
  refine a_seq ?_
  refine a_region ?_
  refine a_val (v := (.int .i64 a0)) (u := []) rfl trivial rfl ?_
  refine a_val (v := (.int .i64 a1)) (u := []) rfl trivial rfl ?_
  obtain ⟨r1, hr2, h⟩ := bind_some h
  refine a_call (args := [(.int .i64 a0), (.int .i64 a1), (.int .i64 1), (.int .i64 40)]) (u := []) (r := (.int .i64 r1)) rfl rfl (impl_numberCode_ok a0 a1 1 40 r1 hr2) rfl ?_
  refine a_val (v := (.int .i64 r1)) (u := []) rfl trivial rfl ?_
  refine a_nil ?_
  refine a_next (σ' := ⟨[(0, (.int .i64 a0)), (1, (.int .i64 a1)), (6, (.int .i64 r1))], []⟩) rfl ?_
  refine a_seq ?_
  refine a_region ?_
  refine a_val (v := (.int .i64 r1)) (u := []) rfl trivial rfl ?_
  refine a_val (v := (.bool (r1 != 0))) (u := []) rfl trivial rfl ?_
  refine a_nil ?_
  refine a_next (σ' := ⟨[(0, (.int .i64 a0)), (1, (.int .i64 a1)), (6, (.int .i64 r1)), (14, (.bool (r1 != 0)))], []⟩) rfl ?_
  cases hb3 : (r1 != 0)
  · have h := ite_f hb3 h
    refine a_cond_f rfl ?_
    refine a_skip ?_
    refine a_next (σ' := ⟨[(0, (.int .i64 a0)), (1, (.int .i64 a1))], []⟩) rfl ?_
    refine a_seq ?_
    refine a_region ?_
    refine a_val (v := (.int .i64 0)) (u := []) rfl trivial rfl ?_
    refine a_nil ?_
    refine a_next (σ' := ⟨[(0, (.int .i64 a0)), (1, (.int .i64 a1)), (7, (.int .i64 0))], []⟩) rfl ?_
    refine a_block ?_
    refine a_loop (emb := fun (s : Int) => ⟨[(0, (.int .i64 a0)), (1, (.int .i64 a1)), (7, (.int .i64 s))], []⟩) (body := (fun s : Int => impl_FirstVanishing_l1 a0 a1 s)) (G := fun q => some q = some r) h rfl ?_ rfl
    rintro X17 x10 x18 h hX19
    have h : impl_FirstVanishing_l1 a0 a1 x10 = some x18 := h
    refine a_st (σ' := ⟨[(0, (.int .i64 a0)), (1, (.int .i64 a1)), (7, (.int .i64 x10))], []⟩) rfl ?_
    refine a_seq ?_
    refine a_block ?_
    refine a_seq ?_
    refine a_region ?_
    refine a_val (v := (.int .i64 a0)) (u := []) rfl trivial rfl ?_
    refine a_val (v := (.int .i64 x10)) (u := []) rfl trivial rfl ?_
    refine a_val (v := (.int .i64 a1)) (u := []) rfl trivial rfl ?_
    obtain ⟨r20, hr21, h⟩ := bind_some h
    refine a_call (args := [(.int .i64 a0), (.int .i64 x10), (.int .i64 a1)]) (u := []) (r := (.tuple [(eA64u8 r20.1), (.int .i64 r20.2)])) rfl rfl (impl_PowerSum_ok a0 x10 a1 r20 hr21) rfl ?_
    refine a_val (v := (.tuple [(eA64u8 r20.1), (.int .i64 r20.2)])) (u := []) rfl trivial rfl ?_
    refine a_val (v := (eA64u8 r20.1)) (u := []) rfl (Nat.le_of_ble_eq_true rfl) rfl ?_
    refine a_val (v := (.int .i64 r20.2)) (u := []) rfl (Nat.le_of_ble_eq_true rfl) rfl ?_
    refine a_val (v := (.own 1800 [] [])) (u := [(1800, some ⟨(eA64u8 ((vrep 64 (0 : Int)))), false⟩)]) rfl trivial rfl ?_
    have hs22 : StOk [] (eA64u8 ((vrep 64 (0 : Int)))) [] 64 (eA64u8 r20.1) (eA64u8 r20.1) := (.nil rfl rfl rfl rfl)
    refine a_val (v := .top) (u := [(1800, some ⟨(eA64u8 r20.1), false⟩)]) (st_own (i := ⟨.arr 64 5, 64, 64, (eA64u8 (vrep 64 (0 : Int)))⟩) rfl rfl (fun _ => rfl) rfl hs22) (hs22.c rfl) rfl ?_
    refine a_val (v := (.int .i64 r20.2)) (u := []) rfl trivial rfl ?_
    refine a_nil ?_
    refine a_next (σ' := ⟨[(0, (.int .i64 a0)), (1, (.int .i64 a1)), (7, (.int .i64 x10)), (8, (.own 8 [] [])), (9, (.int .i64 r20.2))], [(8, some ⟨(eA64u8 r20.1), false⟩)]⟩) rfl ?_
    refine a_seq ?_
    refine a_seq ?_
    refine a_region ?_
    refine a_val (v := (.int .i64 r20.2)) (u := []) rfl trivial rfl ?_
    refine a_val (v := (.bool (r20.2 != 0))) (u := []) rfl trivial rfl ?_
    refine a_nil ?_
    refine a_next (σ' := ⟨[(0, (.int .i64 a0)), (1, (.int .i64 a1)), (7, (.int .i64 x10)), (8, (.own 8 [] [])), (9, (.int .i64 r20.2)), (26, (.bool (r20.2 != 0)))], [(8, some ⟨(eA64u8 r20.1), false⟩)]⟩) rfl ?_
    cases hb23 : (r20.2 != 0)
    · have h := ite_f hb23 h
      refine a_cond_f rfl ?_
      refine a_skip ?_
      refine a_next (σ' := ⟨[(0, (.int .i64 a0)), (1, (.int .i64 a1)), (7, (.int .i64 x10)), (8, (.own 8 [] []))], [(8, some ⟨(eA64u8 r20.1), false⟩)]⟩) rfl ?_
      refine a_seq ?_
      refine a_region ?_
      have hl24 : LdOk [] (eA64u8 r20.1) [] 64 true (eA64u8 r20.1) := (.nil rfl rfl rfl)
      refine a_val (v := (eA64u8 r20.1)) (u := []) (ld_own (i := ⟨.arr 64 5, 64, 64, (eA64u8 (vrep 64 (0 : Int)))⟩) rfl rfl rfl hl24) hl24.c rfl ?_
      refine a_val (v := (eA64u8 ((vrep 64 (0 : Int))))) (u := []) rfl ⟨⟨_, rfl, rfl⟩, all_nil⟩ rfl ?_
      refine a_val (v := (.bool ((decide (r20.1 = ((vrep 64 (0 : Int)))))))) (u := []) (eqa_run (f := (AV.int .u8)) (a := r20.1.1) (b := ((vrep 64 (0 : Int))).1) rfl rfl (eqb_vec (fun _ _ => eqb_int _ _) r20.1 ((vrep 64 (0 : Int))))) (cmp_arr (g := 8) (f := (AV.int .u8)) (x := r20.1) (y := ((vrep 64 (0 : Int)))) rfl rfl rfl (fun _ _ => rfl) (fun _ _ => cmp_int rfl)) rfl ?_
      refine a_nil ?_
      refine a_next (σ' := ⟨[(0, (.int .i64 a0)), (1, (.int .i64 a1)), (7, (.int .i64 x10)), (30, (.bool ((decide (r20.1 = ((vrep 64 (0 : Int))))))))], []⟩) rfl ?_
      cases hb25 : (decide (r20.1 = ((vrep 64 (0 : Int)))))
      · have h := ite_f hb25 h
        refine a_cond_f rfl ?_
        refine a_skip ?_
        refine b_norm ?_
        refine a_next (σ' := ⟨[(0, (.int .i64 a0)), (1, (.int .i64 a1)), (7, (.int .i64 x10))], []⟩) rfl ?_
        refine a_region ?_
        refine a_val (v := (.int .i64 x10)) (u := []) rfl trivial rfl ?_
        refine a_val (v := (.int .i64 (IntKind.i64.wrap (x10 + 1)))) (u := []) rfl trivial rfl ?_
        refine a_val (v := (.int .i64 (IntKind.i64.wrap (x10 + 1)))) (u := []) rfl trivial rfl ?_
        refine a_nil ?_
        cases h
        exact a_again rfl hX19
      · have h := ite_t hb25 h
        refine a_cond_t rfl ?_
        refine a_seq ?_
        refine a_region ?_
        refine a_val (v := (.int .i64 x10)) (u := []) rfl trivial rfl ?_
        refine a_val (v := (.int .i64 x10)) (u := []) rfl trivial rfl ?_
        refine a_val (v := (.int .i64 0)) (u := []) rfl trivial rfl ?_
        refine a_nil ?_
        refine a_next rfl ?_
        refine a_ret ?_
        refine b_ret ?_
        refine t_ret ?_
        cases h
        have h := hX19
        refine t_ret ?_
        refine b_ret ?_
        refine ⟨.inr rfl, ?_⟩
        rw [Try.results27]
        cases h
        exact ⟨_, _, _, _, _, rfl, trivial, .inl ⟨rfl, .inl rfl⟩, rfl, ⟨_, _, _, _, _, rfl, trivial, .inl ⟨rfl, .inl rfl⟩, rfl, rfl⟩⟩
    · have h := ite_t hb23 h
      refine a_cond_t rfl ?_
      refine a_seq ?_
      refine a_region ?_
      refine a_val (v := (.int .i64 r20.2)) (u := []) rfl trivial rfl ?_
      refine a_val (v := (.int .i64 0)) (u := []) rfl trivial rfl ?_
      refine a_val (v := (.int .i64 r20.2)) (u := []) rfl trivial rfl ?_
      refine a_nil ?_
      refine a_next rfl ?_
      refine a_ret ?_
      refine t_ret ?_
      refine b_ret ?_
      refine t_ret ?_
      cases h
      have h := hX19
      refine t_ret ?_
      refine b_ret ?_
      refine ⟨.inr rfl, ?_⟩
      rw [Try.results27]
      cases h
      exact ⟨_, _, _, _, _, rfl, trivial, .inl ⟨rfl, .inl rfl⟩, rfl, ⟨_, _, _, _, _, rfl, trivial, .inl ⟨rfl, .inl rfl⟩, rfl, rfl⟩⟩
  · have h := ite_t hb3 h
    refine a_cond_t rfl ?_
    refine a_seq ?_
    refine a_region ?_
    refine a_val (v := (.int .i64 r1)) (u := []) rfl trivial rfl ?_
    refine a_val (v := (.int .i64 0)) (u := []) rfl trivial rfl ?_
    refine a_val (v := (.int .i64 r1)) (u := []) rfl trivial rfl ?_
    refine a_nil ?_
    refine a_next rfl ?_
    refine a_ret ?_
    refine t_ret ?_
    refine ⟨.inr rfl, ?_⟩
    rw [Try.results27]
    cases h
    exact ⟨_, _, _, _, _, rfl, trivial, .inl ⟨rfl, .inl rfl⟩, rfl, ⟨_, _, _, _, _, rfl, trivial, .inl ⟨rfl, .inl rfl⟩, rfl, rfl⟩⟩
def laws_FnExactFirstVanishing_c : ACode := (.seq (.region 0 [⟨some 4, .asg 0 (.const (.bool false)) 4, none, []⟩] false) (.seq (.region 1 [⟨some 10, .mov (.tmp 0), none, []⟩, ⟨some 11, .mov (.tmp 1), none, []⟩, ⟨some 12, .call 0 (.func 26) [(.tmp 10), (.tmp 11)], none, []⟩, ⟨some 9, .mov (.tmp 12), none, []⟩, ⟨some 13, .extract (.tmp 9) 0, none, []⟩, ⟨some 14, .extract (.tmp 9) 1, none, []⟩, ⟨some 5, .asg 0 (.tmp 13) 2, none, []⟩, ⟨some 6, .asg 0 (.tmp 14) 2, none, []⟩] false) (.seq (.region 2 [⟨some 16, .mov (.tmp 0), none, []⟩, ⟨some 17, .mov (.tmp 1), none, []⟩, ⟨some 18, .call 0 (.func 27) [(.tmp 16), (.tmp 17)], none, []⟩, ⟨some 15, .mov (.tmp 18), none, []⟩, ⟨some 19, .extract (.tmp 15) 0, none, []⟩, ⟨some 20, .extract (.tmp 15) 1, none, []⟩, ⟨some 7, .asg 0 (.tmp 19) 2, none, []⟩, ⟨some 8, .asg 0 (.tmp 20) 2, none, []⟩] false) (.seq (.seq (.region 3 [⟨some 21, .mov (.tmp 7), none, []⟩, ⟨some 22, .mov (.tmp 5), none, []⟩, ⟨some 23, .bin .neq 2 (.tmp 21) (.tmp 22), none, []⟩, ⟨some 24, .mov (.tmp 23), none, []⟩, ⟨some 25, .mov (.tmp 8), some (24, false), []⟩, ⟨some 26, .mov (.tmp 6), some (24, false), []⟩, ⟨some 27, .bin .neq 2 (.tmp 25) (.tmp 26), some (24, false), []⟩, ⟨some 28, .pick (.tmp 24) (.const (.bool true)) (.tmp 27), none, []⟩] false) (.cond (.tmp 28) (.seq (.region 4 [⟨some 4, .asg 0 (.const (.bool false)) 4, none, []⟩] false) .ret) .skip)) (.seq (.region 5 [⟨some 4, .asg 0 (.const (.bool true)) 4, none, []⟩] false) .ret)))))
def laws_FnExactFirstVanishing_L : Live := [(0, [0, 1]), (1, [0, 1]), (2, [0, 1, 5, 6]), (3, [5, 6, 7, 8]), (4, []), (5, []), (100028, [28])]
theorem laws_FnExactFirstVanishing_body : Try.f6.body = some (Try.f6.body.getD .skip) := by kernel_rfl
theorem laws_FnExactFirstVanishing_strip : strip [] (Try.f6.body.getD .skip) = laws_FnExactFirstVanishing_c := by kernel_rfl
noncomputable def laws_FnExactFirstVanishing (a0 : Int) (a1 : Int) : Option Bool :=
  (Option.bind (spec_FirstVanishing a0 a1) fun r1 => (Option.bind (impl_FirstVanishing a0 a1) fun r3 => (Option.bind (α := Bool) ((if (r3.1 != r1.1) then (some true) else (some (r3.2 != r1.2)))) fun x6 => (if x6 then (some false) else (some true)))))
set_option maxHeartbeats 16000000 in
theorem laws_FnExactFirstVanishing_ok (a0 : Int) (a1 : Int) (r : Bool) (h : laws_FnExactFirstVanishing a0 a1 = some r) : Den Try.prog 6 [(.int .i64 a0), (.int .i64 a1)] { r := (.bool r) } := by
  refine den_of (rs := [(.bool r)]) (ac := laws_FnExactFirstVanishing_c) (L := laws_FnExactFirstVanishing_L) (n := 29) (m := []) good Try.func6 laws_FnExactFirstVanishing_body (by kernel_rfl) Try.ntmps6 rfl rfl laws_FnExactFirstVanishing_strip rfl rfl ?_
  refine a_st (σ' := ⟨[(0, (.int .i64 a0)), (1, (.int .i64 a1))], []⟩) rfl ?_
  unfold laws_FnExactFirstVanishing_c
  refine a_seq ?_
  refine a_region ?_
  refine a_val (v := (.bool false)) (u := []) rfl trivial rfl ?_
  refine a_nil ?_
  refine a_next (σ' := ⟨[(0, (.int .i64 a0)), (1, (.int .i64 a1))], []⟩) rfl ?_
  refine a_seq ?_
  refine a_region ?_
  refine a_val (v := (.int .i64 a0)) (u := []) rfl trivial rfl ?_
  refine a_val (v := (.int .i64 a1)) (u := []) rfl trivial rfl ?_
  obtain ⟨r1, hr2, h⟩ := bind_some h
  refine a_call (args := [(.int .i64 a0), (.int .i64 a1)]) (u := []) (r := (.tuple [(.int .i64 r1.1), (.int .i64 r1.2)])) rfl rfl (spec_FirstVanishing_ok a0 a1 r1 hr2) rfl ?_
  refine a_val (v := (.tuple [(.int .i64 r1.1), (.int .i64 r1.2)])) (u := []) rfl trivial rfl ?_
  refine a_val (v := (.int .i64 r1.1)) (u := []) rfl (Nat.le_of_ble_eq_true rfl) rfl ?_
  refine a_val (v := (.int .i64 r1.2)) (u := []) rfl (Nat.le_of_ble_eq_true rfl) rfl ?_
  refine a_val (v := (.int .i64 r1.1)) (u := []) rfl trivial rfl ?_
  refine a_val (v := (.int .i64 r1.2)) (u := []) rfl trivial rfl ?_
  refine a_nil ?_
  refine a_next (σ' := ⟨[(0, (.int .i64 a0)), (1, (.int .i64 a1)), (5, (.int .i64 r1.1)), (6, (.int .i64 r1.2))], []⟩) rfl ?_
  refine a_seq ?_
  refine a_region ?_
  refine a_val (v := (.int .i64 a0)) (u := []) rfl trivial rfl ?_
  refine a_val (v := (.int .i64 a1)) (u := []) rfl trivial rfl ?_
  obtain ⟨r3, hr4, h⟩ := bind_some h
  refine a_call (args := [(.int .i64 a0), (.int .i64 a1)]) (u := []) (r := (.tuple [(.int .i64 r3.1), (.int .i64 r3.2)])) rfl rfl (impl_FirstVanishing_ok a0 a1 r3 hr4) rfl ?_
  refine a_val (v := (.tuple [(.int .i64 r3.1), (.int .i64 r3.2)])) (u := []) rfl trivial rfl ?_
  refine a_val (v := (.int .i64 r3.1)) (u := []) rfl (Nat.le_of_ble_eq_true rfl) rfl ?_
  refine a_val (v := (.int .i64 r3.2)) (u := []) rfl (Nat.le_of_ble_eq_true rfl) rfl ?_
  refine a_val (v := (.int .i64 r3.1)) (u := []) rfl trivial rfl ?_
  refine a_val (v := (.int .i64 r3.2)) (u := []) rfl trivial rfl ?_
  refine a_nil ?_
  refine a_next (σ' := ⟨[(5, (.int .i64 r1.1)), (6, (.int .i64 r1.2)), (7, (.int .i64 r3.1)), (8, (.int .i64 r3.2))], []⟩) rfl ?_
  refine a_seq ?_
  obtain ⟨y7, hy8, hk9⟩ := bind_some h
  clear h
  refine a_join (emb := fun (s : Bool) => ⟨[(28, (.bool s))], []⟩) (pre := fun s => s = y7) ?_ ?_
  · rintro x6 rfl
    have h := hk9
    refine a_st (σ' := ⟨[(28, (.bool x6))], []⟩) rfl ?_
    cases hb11 : x6
    · have h := ite_f hb11 h
      refine a_cond_f rfl ?_
      refine a_skip ?_
      refine a_next (σ' := ⟨[], []⟩) rfl ?_
      refine a_seq ?_
      refine a_region ?_
      refine a_val (v := (.bool true)) (u := []) rfl trivial rfl ?_
      refine a_nil ?_
      refine a_next rfl ?_
      refine a_ret ?_
      refine ⟨.inr rfl, ?_⟩
      rw [Try.results6]
      cases h
      exact ⟨_, _, _, _, _, rfl, trivial, .inl ⟨rfl, .inl rfl⟩, rfl, rfl⟩
    · have h := ite_t hb11 h
      refine a_cond_t rfl ?_
      refine a_seq ?_
      refine a_region ?_
      refine a_val (v := (.bool false)) (u := []) rfl trivial rfl ?_
      refine a_nil ?_
      refine a_next rfl ?_
      refine a_ret ?_
      refine t_ret ?_
      refine ⟨.inr rfl, ?_⟩
      rw [Try.results6]
      cases h
      exact ⟨_, _, _, _, _, rfl, trivial, .inl ⟨rfl, .inl rfl⟩, rfl, rfl⟩
  · have h := hy8
    refine a_region ?_
    refine a_val (v := (.int .i64 r3.1)) (u := []) rfl trivial rfl ?_
    refine a_val (v := (.int .i64 r1.1)) (u := []) rfl trivial rfl ?_
    refine a_val (v := (.bool (r3.1 != r1.1))) (u := []) rfl trivial rfl ?_
    refine a_val (v := (.bool (r3.1 != r1.1))) (u := []) rfl trivial rfl ?_
    cases hb10 : (r3.1 != r1.1)
    · have h := ite_f hb10 h
      refine a_gval rfl (v := (.int .i64 r3.2)) (u := []) rfl trivial rfl ?_
      refine a_gval rfl (v := (.int .i64 r1.2)) (u := []) rfl trivial rfl ?_
      refine a_gval rfl (v := (.bool (r3.2 != r1.2))) (u := []) rfl trivial rfl ?_
      refine a_val (v := (.bool (r3.2 != r1.2))) (u := []) rfl trivial rfl ?_
      refine a_nil ?_
      exact j_leaf (r3.2 != r1.2) (Option.some.inj h) rfl
    · have h := ite_t hb10 h
      refine a_gskip rfl ?_
      refine a_gskip rfl ?_
      refine a_gskip rfl ?_
      refine a_val (v := (.bool true)) (u := []) rfl trivial rfl ?_
      refine a_nil ?_
      exact j_leaf true (Option.some.inj h) rfl
def impl_rowOf_c : ACode := (.seq (.region 0 [⟨some 1, .box 23 (.tmp 0), none, []⟩, ⟨some 2, .asg 1 (.const (.slice none 0 0)) 64, none, []⟩] false) (.seq (.region 1 [⟨some 3, .asg 2 (.const (.slice none 0 0)) 64, none, []⟩] false) (.seq (.seq (.region 2 [⟨some 6, .load 23 (.tmp 1), none, []⟩, ⟨some 7, .mov (.const (.int .i64 0)), none, []⟩] false) (.block 0 (.loop (.seq (.region 3 [⟨some 8, .bin .lss 3 (.tmp 7) (.const (.int .i64 64)), none, []⟩] false) (.seq (.cond (.tmp 8) .skip (.exit 0)) (.seq (.block 1 (.seq (.region 4 [⟨some 9, .index 23 (.tmp 6) (.tmp 7), none, []⟩, ⟨some 5, .asg 0 (.tmp 9) 5, none, []⟩] false) (.region 5 [⟨some 10, .mov (.tmp 3), none, []⟩, ⟨some 11, .mov (.tmp 5), none, []⟩, ⟨some 12, .conv 5 2 (.tmp 11), none, []⟩, ⟨some 13, .bslice 0 64 1 [(0, (.tmp 12))], none, []⟩, ⟨some 14, .blt 0 .append [(.tmp 10), (.tmp 13)] [64, 64], none, []⟩, ⟨some 3, .asg 2 (.tmp 14) 64, none, []⟩] false))) (.region 6 [⟨some 15, .bin .add 3 (.tmp 7) (.const (.int .i64 1)), none, []⟩, ⟨some 7, .mov (.tmp 15), none, []⟩] false))))))) (.seq (.region 7 [⟨some 16, .mov (.tmp 3), none, []⟩, ⟨some 17, .call 0 (.func 111) [(.tmp 16)], none, []⟩, ⟨some 2, .asg 1 (.tmp 17) 64, none, []⟩] false) .ret))))
def impl_rowOf_L : Live := [(0, [0]), (1, [1]), (2, [1, 3]), (3, [3, 6, 7]), (4, [3, 6, 7]), (5, [3, 5, 6, 7]), (6, [3, 6, 7]), (7, [3]), (100008, [3, 6, 7, 8])]
theorem impl_rowOf_body : Try.f72.body = some (Try.f72.body.getD .skip) := by kernel_rfl
theorem impl_rowOf_strip : strip [(2, 1), (3, 2)] (Try.f72.body.getD .skip) = impl_rowOf_c := by kernel_rfl
noncomputable def impl_rowOf_l1 (a0 : (Vec Int 64)) (x25 : Int) (x26 : (List Int)) : Option ((Int × (List Int)) ⊕ (List Int)) :=
  (if (decide (x25 < 64)) then (ifp (0 ≤ x25 ∧ x25 < ((64 : Nat) : Int)) ((ifp ((x26.length + ([IntKind.i64.wrap (rd a0.1 x25.toNat)] : List Int).length) * 8 ≤ 140737488355328) ((some (.inl ((IntKind.i64.wrap (x25 + 1), (x26 ++ ([IntKind.i64.wrap (rd a0.1 x25.toNat)])))))))))) else (some (.inr x26)))
noncomputable def impl_rowOf (a0 : (Vec Int 64)) : Option (List Int) :=
  (Option.bind (α := (List Int)) ((loopM (fun s : (Int × (List Int)) => impl_rowOf_l1 a0 s.1 s.2) (0, []))) fun x17 => (Option.bind (impl_row_trimmed x17) fun r37 => (some r37)))
set_option maxHeartbeats 16000000 in
theorem impl_rowOf_ok (a0 : (Vec Int 64)) (r : (List Int)) (h : impl_rowOf a0 = some r) : Den Try.prog 72 [(eA64u8 a0)] { r := (eSi64 r) } := by
  refine den_of (rs := [(eSi64 r)]) (ac := impl_rowOf_c) (L := impl_rowOf_L) (n := 18) (m := [(2, 1), (3, 2)]) good Try.func72 impl_rowOf_body (by kernel_rfl) Try.ntmps72 rfl rfl impl_rowOf_strip rfl rfl ?_
  refine a_st (σ' := ⟨[(0, (eA64u8 a0))], []⟩) rfl ?_
  unfold impl_rowOf_c
  refine a_seq ?_
  refine a_region ?_
  refine a_val (v := (.own 1100 [] [])) (u := [(1100, some ⟨(eA64u8 a0), false⟩)]) rfl trivial rfl ?_
  refine a_val (v := (eSi64 ([]))) (u := []) rfl trivial rfl ?_
  refine a_nil ?_
  refine a_next (σ' := ⟨[(1, (.own 1 [] []))], [(1, some ⟨(eA64u8 a0), false⟩)]⟩) rfl ?_
  refine a_seq ?_
  refine a_region ?_
  refine a_val (v := (.osl 1300)) (u := [(1300, some ⟨(.row 1 (([]).map (AV.int .i64))), false⟩)]) rfl trivial rfl ?_
  refine a_nil ?_
  refine a_next (σ' := ⟨[(1, (.own 1 [] [])), (3, (.osl 3))], [(1, some ⟨(eA64u8 a0), false⟩), (3, some ⟨(.row 1 (([]).map (AV.int .i64))), false⟩)]⟩) rfl ?_
  obtain ⟨y18, hy19, hk20⟩ := bind_some h
  clear h
  refine a_join (emb := fun (s : (List Int)) => ⟨[(3, (.osl 3))], [(3, some ⟨(.row 1 (s.map (AV.int .i64))), false⟩)]⟩) (pre := fun s => s = y18) ?_ ?_
  · rintro x17 rfl
    have h := hk20
    refine a_st (σ' := ⟨[(3, (.osl 3))], [(3, some ⟨(.row 1 (x17.map (AV.int .i64))), false⟩)]⟩) rfl ?_
    refine a_seq ?_
    refine a_region ?_
    refine a_val (v := (.osl 3)) (u := []) rfl trivial rfl ?_
    obtain ⟨r37, hr38, h⟩ := bind_some h
    refine a_call (args := [(eSi64 x17)]) (u := [(3, some ⟨(.row 1 (x17.map (AV.int .i64))), true⟩)]) (r := (eSi64 r37)) rfl rfl (impl_row_trimmed_ok x17 r37 hr38) rfl ?_
    refine a_val (v := (eSi64 r37)) (u := []) rfl trivial rfl ?_
    refine a_nil ?_
    refine a_next rfl ?_
    refine a_ret ?_
    refine ⟨.inr rfl, ?_⟩
    rw [Try.results72]
    cases h
    exact ⟨_, _, _, _, _, rfl, trivial, .inl ⟨rfl, .inl rfl⟩, rfl, rfl⟩
  · have h := hy19
    refine a_seq ?_
    refine a_region ?_
    have hl21 : LdOk [] (eA64u8 a0) [] 64 true (eA64u8 a0) := (.nil rfl rfl rfl)
    refine a_val (v := (eA64u8 a0)) (u := []) (ld_own (i := ⟨.arr 64 5, 64, 64, (eA64u8 (vrep 64 (0 : Int)))⟩) rfl rfl rfl hl21) hl21.c rfl ?_
    refine a_val (v := (.int .i64 0)) (u := []) rfl trivial rfl ?_
    refine a_nil ?_
    refine a_next (σ' := ⟨[(3, (.osl 3)), (6, (eA64u8 a0)), (7, (.int .i64 0))], [(3, some ⟨(.row 1 (([]).map (AV.int .i64))), false⟩)]⟩) rfl ?_
    refine a_block ?_
    refine a_loop (emb := fun (s : (Int × (List Int))) => ⟨[(3, (.osl 3)), (6, (eA64u8 a0)), (7, (.int .i64 s.1))], [(3, some ⟨(.row 1 (s.2.map (AV.int .i64))), false⟩)]⟩) (body := (fun s : (Int × (List Int)) => impl_rowOf_l1 a0 s.1 s.2)) (G := fun q => some q = some y18) h rfl ?_ rfl
    rintro X30 ⟨x25, x26⟩ x31 h hX32
    have h : impl_rowOf_l1 a0 x25 x26 = some x31 := h
    refine a_st (σ' := ⟨[(3, (.osl 3)), (6, (eA64u8 a0)), (7, (.int .i64 x25))], [(3, some ⟨(.row 1 (x26.map (AV.int .i64))), false⟩)]⟩) rfl ?_
    refine a_seq ?_
    refine a_region ?_
    refine a_val (v := (.bool ((decide (x25 < 64))))) (u := []) rfl trivial rfl ?_
    refine a_nil ?_
    refine a_next (σ' := ⟨[(3, (.osl 3)), (6, (eA64u8 a0)), (7, (.int .i64 x25)), (8, (.bool ((decide (x25 < 64)))))], [(3, some ⟨(.row 1 (x26.map (AV.int .i64))), false⟩)]⟩) rfl ?_
    refine a_seq ?_
    cases hb33 : (decide (x25 < 64))
    · have h := ite_f hb33 h
      refine a_cond_f rfl ?_
      refine a_exit ?_
      refine t_exit ?_
      cases h
      have h := hX32
      refine t_exit ?_
      refine b_exit ?_
      exact j_leaf x26 (Option.some.inj h) rfl
    · have h := ite_t hb33 h
      refine a_cond_t rfl ?_
      refine a_skip ?_
      refine a_next (σ' := ⟨[(3, (.osl 3)), (6, (eA64u8 a0)), (7, (.int .i64 x25))], [(3, some ⟨(.row 1 (x26.map (AV.int .i64))), false⟩)]⟩) rfl ?_
      refine a_seq ?_
      refine a_block ?_
      refine a_seq ?_
      refine a_region ?_
      obtain ⟨hc34, h⟩ := ifp_some h
      refine a_val (v := (.int .u8 (rd a0.1 x25.toNat))) (u := []) (ix_run (i := ⟨.int .u8, 1, 1, (.int .u8 0)⟩) (f := (AV.int .u8)) rfl rfl rfl rfl (vlt a0 hc34)) ⟨hc34.1, hc34.2, rfl, rfl, rfl, rfl⟩ rfl ?_
      refine a_val (v := (.int .u8 (rd a0.1 x25.toNat))) (u := []) rfl trivial rfl ?_
      refine a_nil ?_
      refine a_next (σ' := ⟨[(3, (.osl 3)), (5, (.int .u8 (rd a0.1 x25.toNat))), (6, (eA64u8 a0)), (7, (.int .i64 x25))], [(3, some ⟨(.row 1 (x26.map (AV.int .i64))), false⟩)]⟩) rfl ?_
      refine a_region ?_
      refine a_val (v := (.osl 3)) (u := []) rfl trivial rfl ?_
      refine a_val (v := (.int .u8 (rd a0.1 x25.toNat))) (u := []) rfl trivial rfl ?_
      refine a_val (v := (.int .i64 (IntKind.i64.wrap (rd a0.1 x25.toNat)))) (u := []) rfl trivial rfl ?_
      refine a_val (v := (.sl 1 true (([IntKind.i64.wrap (rd a0.1 x25.toNat)]).map (AV.int .i64)))) (u := []) rfl ⟨(Nat.le_of_ble_eq_true rfl), (Nat.le_of_ble_eq_true rfl), (all_cons ⟨(Nat.le_of_ble_eq_true rfl), rfl⟩ all_nil)⟩ rfl ?_
      obtain ⟨hc35, h⟩ := ifp_some h
      refine a_val (v := (.osl 2400)) (u := [(2400, some ⟨(.row 1 (((x26 ++ ([IntKind.i64.wrap (rd a0.1 x25.toNat)]))).map (AV.int .i64))), false⟩), (3, none)]) (app_run (i := ⟨.int .i64, 1, 8, (.int .i64 0)⟩) (f := (AV.int .i64)) (l := x26) (l2 := [IntKind.i64.wrap (rd a0.1 x25.toNat)]) rfl rfl rfl rfl (fun _ => rfl) rfl rfl) (app_c (f := (AV.int .i64)) (s := 1) (sz := 1) (by' := 8) (u := []) (id := 3) hc35 (.inr rfl) rfl rfl rfl) rfl ?_
      refine a_val (v := (.osl 2400)) (u := []) rfl trivial rfl ?_
      refine a_nil ?_
      refine b_norm ?_
      refine a_next (σ' := ⟨[(3, (.osl 3)), (6, (eA64u8 a0)), (7, (.int .i64 x25))], [(3, some ⟨(.row 1 (((x26 ++ ([IntKind.i64.wrap (rd a0.1 x25.toNat)]))).map (AV.int .i64))), false⟩)]⟩) rfl ?_
      refine a_region ?_
      refine a_val (v := (.int .i64 (IntKind.i64.wrap (x25 + 1)))) (u := []) rfl trivial rfl ?_
      refine a_val (v := (.int .i64 (IntKind.i64.wrap (x25 + 1)))) (u := []) rfl trivial rfl ?_
      refine a_nil ?_
      cases h
      exact a_again rfl hX32
end Go.Proofs.Ytgodhgbnjlflmaa
