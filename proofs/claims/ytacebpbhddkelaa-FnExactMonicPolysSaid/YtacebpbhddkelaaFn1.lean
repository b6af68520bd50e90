/- Functions of the program: plain Lean functions, and that the program computes them. Printed by gen.py. -/
import Derived.Test.YtacebpbhddkelaaFnT
namespace Go.Proofs.Ytacebpbhddkelaa
open Go.Abs Go.Proofs
set_option linter.unusedSimpArgs false
set_option linter.unusedVariables false

def spec_l01Prime_c : ACode := (.seq (.region 0 [⟨some 2, .asg 0 (.const (.bool false)) 4, none, []⟩] false) (.seq (.region 1 [⟨some 3, .mov (.tmp 0), none, []⟩, ⟨some 4, .bin .eql 2 (.tmp 3) (.const (.int .i64 2)), none, []⟩, ⟨some 5, .mov (.tmp 4), none, []⟩, ⟨some 6, .mov (.tmp 0), some (5, false), []⟩, ⟨some 7, .bin .eql 2 (.tmp 6) (.const (.int .i64 3)), some (5, false), []⟩, ⟨some 8, .pick (.tmp 5) (.const (.bool true)) (.tmp 7), none, []⟩, ⟨some 9, .mov (.tmp 8), none, []⟩, ⟨some 10, .mov (.tmp 0), some (9, false), []⟩, ⟨some 11, .bin .eql 2 (.tmp 10) (.const (.int .i64 5)), some (9, false), []⟩, ⟨some 12, .pick (.tmp 9) (.const (.bool true)) (.tmp 11), none, []⟩, ⟨some 13, .mov (.tmp 12), none, []⟩, ⟨some 14, .mov (.tmp 0), some (13, false), []⟩, ⟨some 15, .bin .eql 2 (.tmp 14) (.const (.int .i64 7)), some (13, false), []⟩, ⟨some 16, .pick (.tmp 13) (.const (.bool true)) (.tmp 15), none, []⟩, ⟨some 2, .asg 0 (.tmp 16) 4, none, []⟩] false) .ret))
def spec_l01Prime_L : Live := [(0, [0]), (1, [0])]
theorem spec_l01Prime_body : Try.f56.body = some (Try.f56.body.getD .skip) := by kernel_rfl
theorem spec_l01Prime_strip : strip [] (Try.f56.body.getD .skip) = spec_l01Prime_c := by kernel_rfl
noncomputable def spec_l01Prime (a0 : Int) : Option Bool :=
  (if (a0 == 2) then (some true) else (if (a0 == 3) then (some true) else (if (a0 == 5) then (some true) else (some (a0 == 7)))))
set_option maxHeartbeats 16000000 in
theorem spec_l01Prime_ok (a0 : Int) (r : Bool) (h : spec_l01Prime a0 = some r) : Den Try.prog 56 [(.int .i64 a0)] { r := (.bool r) } := by
  refine den_of (rs := [(.bool r)]) (ac := spec_l01Prime_c) (L := spec_l01Prime_L) (n := 17) (m := []) good Try.func56 spec_l01Prime_body (by kernel_rfl) Try.ntmps56 rfl rfl spec_l01Prime_strip rfl rfl ?_
  refine a_st (σ' := ⟨[(0, (.int .i64 a0))], []⟩) rfl ?_
  unfold spec_l01Prime_c
  refine a_seq ?_
  refine a_region ?_
  refine a_val (v := (.bool false)) (u := []) rfl trivial rfl ?_
  refine a_nil ?_
  refine a_next (σ' := ⟨[(0, (.int .i64 a0))], []⟩) rfl ?_
  refine a_seq ?_
  refine a_region ?_
  refine a_val (v := (.int .i64 a0)) (u := []) rfl trivial rfl ?_
  refine a_val (v := (.bool (a0 == 2))) (u := []) rfl trivial rfl ?_
  refine a_val (v := (.bool (a0 == 2))) (u := []) rfl trivial rfl ?_
  cases hb1 : (a0 == 2)
  · have h := ite_f hb1 h
    refine a_gval rfl (v := (.int .i64 a0)) (u := []) rfl trivial rfl ?_
    refine a_gval rfl (v := (.bool (a0 == 3))) (u := []) rfl trivial rfl ?_
    refine a_val (v := (.bool (a0 == 3))) (u := []) rfl trivial rfl ?_
    refine a_val (v := (.bool (a0 == 3))) (u := []) rfl trivial rfl ?_
    cases hb2 : (a0 == 3)
    · have h := ite_f hb2 h
      refine a_gval rfl (v := (.int .i64 a0)) (u := []) rfl trivial rfl ?_
      refine a_gval rfl (v := (.bool (a0 == 5))) (u := []) rfl trivial rfl ?_
      refine a_val (v := (.bool (a0 == 5))) (u := []) rfl trivial rfl ?_
      refine a_val (v := (.bool (a0 == 5))) (u := []) rfl trivial rfl ?_
      cases hb3 : (a0 == 5)
      · have h := ite_f hb3 h
        refine a_gval rfl (v := (.int .i64 a0)) (u := []) rfl trivial rfl ?_
        refine a_gval rfl (v := (.bool (a0 == 7))) (u := []) rfl trivial rfl ?_
        refine a_val (v := (.bool (a0 == 7))) (u := []) rfl trivial rfl ?_
        refine a_val (v := (.bool (a0 == 7))) (u := []) rfl trivial rfl ?_
        refine a_nil ?_
        refine a_next rfl ?_
        refine a_ret ?_
        refine ⟨.inr rfl, ?_⟩
        rw [Try.results56]
        cases h
        exact ⟨_, _, _, _, _, rfl, trivial, .inl ⟨rfl, .inl rfl⟩, rfl, rfl⟩
      · have h := ite_t hb3 h
        refine a_gskip rfl ?_
        refine a_gskip rfl ?_
        refine a_val (v := (.bool true)) (u := []) rfl trivial rfl ?_
        refine a_val (v := (.bool true)) (u := []) rfl trivial rfl ?_
        refine a_nil ?_
        refine a_next rfl ?_
        refine a_ret ?_
        refine ⟨.inr rfl, ?_⟩
        rw [Try.results56]
        cases h
        exact ⟨_, _, _, _, _, rfl, trivial, .inl ⟨rfl, .inl rfl⟩, rfl, rfl⟩
    · have h := ite_t hb2 h
      refine a_gskip rfl ?_
      refine a_gskip rfl ?_
      refine a_val (v := (.bool true)) (u := []) rfl trivial rfl ?_
      refine a_val (v := (.bool true)) (u := []) rfl trivial rfl ?_
      refine a_gskip rfl ?_
      refine a_gskip rfl ?_
      refine a_val (v := (.bool true)) (u := []) rfl trivial rfl ?_
      refine a_val (v := (.bool true)) (u := []) rfl trivial rfl ?_
      refine a_nil ?_
      refine a_next rfl ?_
      refine a_ret ?_
      refine ⟨.inr rfl, ?_⟩
      rw [Try.results56]
      cases h
      exact ⟨_, _, _, _, _, rfl, trivial, .inl ⟨rfl, .inl rfl⟩, rfl, rfl⟩
  · have h := ite_t hb1 h
    refine a_gskip rfl ?_
    refine a_gskip rfl ?_
    refine a_val (v := (.bool true)) (u := []) rfl trivial rfl ?_
    refine a_val (v := (.bool true)) (u := []) rfl trivial rfl ?_
    refine a_gskip rfl ?_
    refine a_gskip rfl ?_
    refine a_val (v := (.bool true)) (u := []) rfl trivial rfl ?_
    refine a_val (v := (.bool true)) (u := []) rfl trivial rfl ?_
    refine a_gskip rfl ?_
    refine a_gskip rfl ?_
    refine a_val (v := (.bool true)) (u := []) rfl trivial rfl ?_
    refine a_val (v := (.bool true)) (u := []) rfl trivial rfl ?_
    refine a_nil ?_
    refine a_next rfl ?_
    refine a_ret ?_
    refine ⟨.inr rfl, ?_⟩
    rw [Try.results56]
    cases h
    exact ⟨_, _, _, _, _, rfl, trivial, .inl ⟨rfl, .inl rfl⟩, rfl, rfl⟩
def spec_l01In_c : ACode := (.seq (.region 0 [⟨some 6, .asg 0 (.const (.bool false)) 4, none, []⟩] false) (.seq (.region 1 [⟨some 7, .mov (.tmp 0), none, []⟩, ⟨some 8, .mov (.tmp 1), none, []⟩, ⟨some 9, .bin .geq 2 (.tmp 7) (.tmp 8), none, []⟩, ⟨some 10, .mov (.tmp 9), none, []⟩, ⟨some 11, .mov (.tmp 0), some (10, true), []⟩, ⟨some 12, .mov (.tmp 2), some (10, true), []⟩, ⟨some 13, .bin .leq 2 (.tmp 11) (.tmp 12), some (10, true), []⟩, ⟨some 14, .pick (.tmp 10) (.tmp 13) (.const (.bool false)), none, []⟩, ⟨some 6, .asg 0 (.tmp 14) 4, none, []⟩] false) .ret))
def spec_l01In_L : Live := [(0, [0, 1, 2]), (1, [0, 1, 2])]
theorem spec_l01In_body : Try.f57.body = some (Try.f57.body.getD .skip) := by kernel_rfl
theorem spec_l01In_strip : strip [] (Try.f57.body.getD .skip) = spec_l01In_c := by kernel_rfl
noncomputable def spec_l01In (a0 : Int) (a1 : Int) (a2 : Int) : Option Bool :=
  (if (decide (a0 ≥ a1)) then (some ((decide (a0 ≤ a2)))) else (some false))
set_option maxHeartbeats 16000000 in
theorem spec_l01In_ok (a0 : Int) (a1 : Int) (a2 : Int) (r : Bool) (h : spec_l01In a0 a1 a2 = some r) : Den Try.prog 57 [(.int .i64 a0), (.int .i64 a1), (.int .i64 a2)] { r := (.bool r) } := by
  refine den_of (rs := [(.bool r)]) (ac := spec_l01In_c) (L := spec_l01In_L) (n := 15) (m := []) good Try.func57 spec_l01In_body (by kernel_rfl) Try.ntmps57 rfl rfl spec_l01In_strip rfl rfl ?_
  refine a_st (σ' := ⟨[(0, (.int .i64 a0)), (1, (.int .i64 a1)), (2, (.int .i64 a2))], []⟩) rfl ?_
  unfold spec_l01In_c
  refine a_seq ?_
  refine a_region ?_
  refine a_val (v := (.bool false)) (u := []) rfl trivial rfl ?_
  refine a_nil ?_
  refine a_next (σ' := ⟨[(0, (.int .i64 a0)), (1, (.int .i64 a1)), (2, (.int .i64 a2))], []⟩) rfl ?_
  refine a_seq ?_
  refine a_region ?_
  refine a_val (v := (.int .i64 a0)) (u := []) rfl trivial rfl ?_
  refine a_val (v := (.int .i64 a1)) (u := []) rfl trivial rfl ?_
  refine a_val (v := (.bool ((decide (a0 ≥ a1))))) (u := []) rfl trivial rfl ?_
  refine a_val (v := (.bool ((decide (a0 ≥ a1))))) (u := []) rfl trivial rfl ?_
  cases hb1 : (decide (a0 ≥ a1))
  · have h := ite_f hb1 h
    refine a_gskip rfl ?_
    refine a_gskip rfl ?_
    refine a_gskip rfl ?_
    refine a_val (v := (.bool false)) (u := []) rfl trivial rfl ?_
    refine a_val (v := (.bool false)) (u := []) rfl trivial rfl ?_
    refine a_nil ?_
    refine a_next rfl ?_
    refine a_ret ?_
    refine ⟨.inr rfl, ?_⟩
    rw [Try.results57]
    cases h
    exact ⟨_, _, _, _, _, rfl, trivial, .inl ⟨rfl, .inl rfl⟩, rfl, rfl⟩
  · have h := ite_t hb1 h
    refine a_gval rfl (v := (.int .i64 a0)) (u := []) rfl trivial rfl ?_
    refine a_gval rfl (v := (.int .i64 a2)) (u := []) rfl trivial rfl ?_
    refine a_gval rfl (v := (.bool ((decide (a0 ≤ a2))))) (u := []) rfl trivial rfl ?_
    refine a_val (v := (.bool ((decide (a0 ≤ a2))))) (u := []) rfl trivial rfl ?_
    refine a_val (v := (.bool ((decide (a0 ≤ a2))))) (u := []) rfl trivial rfl ?_
    refine a_nil ?_
    refine a_next rfl ?_
    refine a_ret ?_
    refine ⟨.inr rfl, ?_⟩
    rw [Try.results57]
    cases h
    exact ⟨_, _, _, _, _, rfl, trivial, .inl ⟨rfl, .inl rfl⟩, rfl, rfl⟩
def spec_l01Count_c : ACode := (.seq (.region 0 [⟨some 4, .asg 0 (.const (.int .i64 0)) 2, none, []⟩] false) (.seq (.region 1 [⟨some 5, .asg 0 (.const (.int .i64 1)) 2, none, []⟩] false) (.seq (.block 0 (.loop (.seq (.seq (.region 2 [⟨some 6, .mov (.tmp 1), none, []⟩, ⟨some 7, .bin .gtr 2 (.tmp 6) (.const (.int .i64 0)), none, []⟩, ⟨some 8, .mov (.tmp 7), none, []⟩, ⟨some 9, .mov (.tmp 5), some (8, true), []⟩, ⟨some 10, .bin .leq 2 (.tmp 9) (.const (.int .i64 1000000000000)), some (8, true), []⟩, ⟨some 11, .pick (.tmp 8) (.tmp 10) (.const (.bool false)), none, []⟩] false) (.cond (.tmp 11) .skip (.exit 0))) (.seq (.block 1 (.region 4 [⟨some 14, .mov (.tmp 5), none, []⟩, ⟨some 15, .mov (.tmp 0), none, []⟩, ⟨some 16, .bin .mul 2 (.tmp 14) (.tmp 15), none, []⟩, ⟨some 5, .asg 0 (.tmp 16) 2, none, []⟩] false)) (.region 3 [⟨some 12, .mov (.tmp 1), none, []⟩, ⟨some 13, .bin .sub 2 (.tmp 12) (.const (.int .i64 1)), none, []⟩, ⟨some 1, .asg 0 (.tmp 13) 2, none, []⟩] false))))) (.seq (.region 5 [⟨some 17, .mov (.tmp 5), none, []⟩, ⟨some 18, .blt 0 .min [(.tmp 17), (.const (.int .i64 1000000000001))] [2, 2], none, []⟩, ⟨some 4, .asg 0 (.tmp 18) 2, none, []⟩] false) .ret))))
def spec_l01Count_L : Live := [(0, [0, 1]), (1, [0, 1]), (2, [0, 1, 5]), (3, [0, 1, 5]), (4, [0, 1, 5]), (5, [5]), (100011, [0, 1, 5, 11])]
theorem spec_l01Count_body : Try.f65.body = some (Try.f65.body.getD .skip) := by kernel_rfl
theorem spec_l01Count_strip : strip [] (Try.f65.body.getD .skip) = spec_l01Count_c := by kernel_rfl
noncomputable def spec_l01Count_l1 (a0 : Int) (x39 : Int) (x40 : Int) : Option ((Int × Int) ⊕ Int) :=
  (Option.bind (α := Bool) ((if (decide (x39 > 0)) then (some ((decide (x40 ≤ 1000000000000)))) else (some false))) fun x52 => (if x52 then (some (.inl ((IntKind.i64.wrap (x39 - 1), IntKind.i64.wrap (x40 * a0))))) else (some (.inr x40))))
noncomputable def spec_l01Count (a0 : Int) (a1 : Int) : Option Int :=
  (Option.bind (α := Int) ((loopM (fun s : (Int × Int) => spec_l01Count_l1 a0 s.1 s.2) (a1, 1))) fun x28 => (some (if 1000000000001 < x28 then 1000000000001 else x28)))
set_option maxHeartbeats 16000000 in
theorem spec_l01Count_ok (a0 : Int) (a1 : Int) (r : Int) (h : spec_l01Count a0 a1 = some r) : Den Try.prog 65 [(.int .i64 a0), (.int .i64 a1)] { r := (.int .i64 r) } := by
  refine den_of (rs := [(.int .i64 r)]) (ac := spec_l01Count_c) (L := spec_l01Count_L) (n := 19) (m := []) good Try.func65 spec_l01Count_body (by kernel_rfl) Try.ntmps65 rfl rfl spec_l01Count_strip rfl rfl ?_
  refine a_st (σ' := ⟨[(0, (.int .i64 a0)), (1, (.int .i64 a1))], []⟩) rfl ?_
  unfold spec_l01Count_c
  refine a_seq ?_
  refine a_region ?_
  refine a_val (v := (.int .i64 0)) (u := []) rfl trivial rfl ?_
  refine a_nil ?_
  refine a_next (σ' := ⟨[(0, (.int .i64 a0)), (1, (.int .i64 a1))], []⟩) rfl ?_
  refine a_seq ?_
  refine a_region ?_
  refine a_val (v := (.int .i64 1)) (u := []) rfl trivial rfl ?_
  refine a_nil ?_
  refine a_next (σ' := ⟨[(0, (.int .i64 a0)), (1, (.int .i64 a1)), (5, (.int .i64 1))], []⟩) rfl ?_
  obtain ⟨y29, hy30, hk31⟩ := bind_some h
  clear h
  refine a_join (emb := fun (s : Int) => ⟨[(5, (.int .i64 s))], []⟩) (pre := fun s => s = y29) ?_ ?_
  · rintro x28 rfl
    have h := hk31
    refine a_st (σ' := ⟨[(5, (.int .i64 x28))], []⟩) rfl ?_
    refine a_seq ?_
    refine a_region ?_
    refine a_val (v := (.int .i64 x28)) (u := []) rfl trivial rfl ?_
    refine a_val (v := (.int .i64 (if 1000000000001 < x28 then 1000000000001 else x28))) (u := []) rfl trivial rfl ?_
    refine a_val (v := (.int .i64 (if 1000000000001 < x28 then 1000000000001 else x28))) (u := []) rfl trivial rfl ?_
    refine a_nil ?_
    refine a_next rfl ?_
    refine a_ret ?_
    refine ⟨.inr rfl, ?_⟩
    rw [Try.results65]
    cases h
    exact ⟨_, _, _, _, _, rfl, trivial, .inl ⟨rfl, .inl rfl⟩, rfl, rfl⟩
  · have h := hy30
    refine a_block ?_
    refine a_loop (emb := fun (s : (Int × Int)) => ⟨[(0, (.int .i64 a0)), (1, (.int .i64 s.1)), (5, (.int .i64 s.2))], []⟩) (body := (fun s : (Int × Int) => spec_l01Count_l1 a0 s.1 s.2)) (G := fun q => some q = some y29) h rfl ?_ rfl
    rintro X48 ⟨x39, x40⟩ x49 h hX50
    have h : spec_l01Count_l1 a0 x39 x40 = some x49 := h
    refine a_st (σ' := ⟨[(0, (.int .i64 a0)), (1, (.int .i64 x39)), (5, (.int .i64 x40))], []⟩) rfl ?_
    refine a_seq ?_
    obtain ⟨y53, hy54, hk55⟩ := bind_some h
    clear h
    refine a_join (emb := fun (s : Bool) => ⟨[(0, (.int .i64 a0)), (1, (.int .i64 x39)), (5, (.int .i64 x40)), (11, (.bool s))], []⟩) (pre := fun s => s = y53) ?_ ?_
    · rintro x52 rfl
      have h := hk55
      refine a_st (σ' := ⟨[(0, (.int .i64 a0)), (1, (.int .i64 x39)), (5, (.int .i64 x40)), (11, (.bool x52))], []⟩) rfl ?_
      cases hb57 : x52
      · have h := ite_f hb57 h
        refine a_cond_f rfl ?_
        refine a_exit ?_
        refine t_exit ?_
        cases h
        have h := hX50
        refine t_exit ?_
        refine b_exit ?_
        exact j_leaf x40 (Option.some.inj h) rfl
      · have h := ite_t hb57 h
        refine a_cond_t rfl ?_
        refine a_skip ?_
        refine a_next (σ' := ⟨[(0, (.int .i64 a0)), (1, (.int .i64 x39)), (5, (.int .i64 x40))], []⟩) rfl ?_
        refine a_seq ?_
        refine a_block ?_
        refine a_region ?_
        refine a_val (v := (.int .i64 x40)) (u := []) rfl trivial rfl ?_
        refine a_val (v := (.int .i64 a0)) (u := []) rfl trivial rfl ?_
        refine a_val (v := (.int .i64 (IntKind.i64.wrap (x40 * a0)))) (u := []) rfl trivial rfl ?_
        refine a_val (v := (.int .i64 (IntKind.i64.wrap (x40 * a0)))) (u := []) rfl trivial rfl ?_
        refine a_nil ?_
        refine b_norm ?_
        refine a_next (σ' := ⟨[(0, (.int .i64 a0)), (1, (.int .i64 x39)), (5, (.int .i64 (IntKind.i64.wrap (x40 * a0))))], []⟩) rfl ?_
        refine a_region ?_
        refine a_val (v := (.int .i64 x39)) (u := []) rfl trivial rfl ?_
        refine a_val (v := (.int .i64 (IntKind.i64.wrap (x39 - 1)))) (u := []) rfl trivial rfl ?_
        refine a_val (v := (.int .i64 (IntKind.i64.wrap (x39 - 1)))) (u := []) rfl trivial rfl ?_
        refine a_nil ?_
        cases h
        exact a_again rfl hX50
    · have h := hy54
      refine a_region ?_
      refine a_val (v := (.int .i64 x39)) (u := []) rfl trivial rfl ?_
      refine a_val (v := (.bool ((decide (x39 > 0))))) (u := []) rfl trivial rfl ?_
      refine a_val (v := (.bool ((decide (x39 > 0))))) (u := []) rfl trivial rfl ?_
      cases hb56 : (decide (x39 > 0))
      · have h := ite_f hb56 h
        refine a_gskip rfl ?_
        refine a_gskip rfl ?_
        refine a_val (v := (.bool false)) (u := []) rfl trivial rfl ?_
        refine a_nil ?_
        exact j_leaf false (Option.some.inj h) rfl
      · have h := ite_t hb56 h
        refine a_gval rfl (v := (.int .i64 x40)) (u := []) rfl trivial rfl ?_
        refine a_gval rfl (v := (.bool ((decide (x40 ≤ 1000000000000))))) (u := []) rfl trivial rfl ?_
        refine a_val (v := (.bool ((decide (x40 ≤ 1000000000000))))) (u := []) rfl trivial rfl ?_
        refine a_nil ?_
        exact j_leaf ((decide (x40 ≤ 1000000000000))) (Option.some.inj h) rfl
def spec_l01Of_c : ACode := (.seq (.region 0 [⟨some 4, .alloc 23, none, []⟩] false) (.seq (.region 1 [⟨some 7, .build 23 [], none, []⟩, ⟨some 5, .alloc 23, none, []⟩, ⟨none, .store 23 (.tmp 5) (.tmp 7), none, []⟩] false) (.seq (.seq (.region 2 [⟨some 6, .asg 0 (.const (.int .i64 0)) 3, none, []⟩] false) (.block 0 (.loop (.seq (.seq (.region 3 [⟨some 8, .mov (.tmp 1), none, []⟩, ⟨some 9, .bin .gtr 2 (.tmp 8) (.const (.int .i64 0)), none, []⟩] false) (.cond (.tmp 9) .skip (.exit 0))) (.seq (.block 1 (.seq (.region 5 [⟨some 12, .mov (.tmp 6), none, []⟩, ⟨some 13, .mov (.tmp 1), none, []⟩, ⟨some 14, .mov (.tmp 0), none, []⟩, ⟨some 15, .bin .rem 2 (.tmp 13) (.tmp 14), none, []⟩, ⟨some 16, .conv 2 5 (.tmp 15), none, []⟩, ⟨some 17, .indexAddr 23 (.tmp 5) (.tmp 12), none, []⟩, ⟨none, .store 5 (.tmp 17) (.tmp 16), none, []⟩] false) (.region 6 [⟨some 18, .mov (.tmp 1), none, []⟩, ⟨some 19, .mov (.tmp 0), none, []⟩, ⟨some 20, .bin .quo 2 (.tmp 18) (.tmp 19), none, []⟩, ⟨some 1, .asg 0 (.tmp 20) 2, none, []⟩] false))) (.region 4 [⟨some 10, .mov (.tmp 6), none, []⟩, ⟨some 11, .bin .add 3 (.tmp 10) (.const (.int .i64 1)), none, []⟩, ⟨some 6, .asg 0 (.tmp 11) 3, none, []⟩] false)))))) (.seq (.region 7 [⟨some 21, .load 23 (.tmp 5), none, []⟩, ⟨none, .store 23 (.tmp 4) (.tmp 21), none, []⟩] false) .ret))))
def spec_l01Of_L : Live := [(0, [0, 1]), (1, [0, 1, 4]), (2, [0, 1, 4, 5]), (3, [0, 1, 4, 5, 6]), (4, [0, 1, 4, 5, 6]), (5, [0, 1, 4, 5, 6]), (6, [0, 1, 4, 5, 6]), (7, [4, 5]), (100009, [0, 1, 4, 5, 6, 9])]
theorem spec_l01Of_body : Try.f58.body = some (Try.f58.body.getD .skip) := by kernel_rfl
theorem spec_l01Of_strip : strip [] (Try.f58.body.getD .skip) = spec_l01Of_c := by kernel_rfl
noncomputable def spec_l01Of_l1 (a0 : Int) (x33 : Int) (x34 : Int) (x35 : (Vec Int 64)) : Option ((Int × Int × (Vec Int 64)) ⊕ (Vec Int 64)) :=
  (if (decide (x33 > 0)) then (ifp (a0 ≠ 0) ((ifp (0 ≤ x34 ∧ x34 < ((64 : Nat) : Int)) ((ifp (a0 ≠ 0) ((some (.inl ((IntKind.i64.wrap (Int.tdiv x33 a0), IntKind.i64.wrap (x34 + 1), (vset x35 x34.toNat (IntKind.u8.wrap (Int.tmod x33 a0))))))))))))) else (some (.inr x35)))
noncomputable def spec_l01Of (a0 : Int) (a1 : Int) : Option (Vec Int 64) :=
  (Option.bind (α := (Vec Int 64)) ((loopM (fun s : (Int × Int × (Vec Int 64)) => spec_l01Of_l1 a0 s.1 s.2.1 s.2.2) (a1, 0, (vrep 64 (0 : Int))))) fun x24 => (some x24))
set_option maxHeartbeats 16000000 in
theorem spec_l01Of_ok (a0 : Int) (a1 : Int) (r : (Vec Int 64)) (h : spec_l01Of a0 a1 = some r) : Den Try.prog 58 [(.int .i64 a0), (.int .i64 a1)] { r := (eA64u8 r) } := by
  refine den_of (rs := [(eA64u8 r)]) (ac := spec_l01Of_c) (L := spec_l01Of_L) (n := 22) (m := []) good Try.func58 spec_l01Of_body (by kernel_rfl) Try.ntmps58 rfl rfl spec_l01Of_strip rfl rfl ?_
  refine a_st (σ' := ⟨[(0, (.int .i64 a0)), (1, (.int .i64 a1))], []⟩) rfl ?_
  unfold spec_l01Of_c
  refine a_seq ?_
  refine a_region ?_
  refine a_val (v := (.own 1400 [] [])) (u := [(1400, some ⟨(eA64u8 ((vrep 64 (0 : Int)))), false⟩)]) rfl trivial rfl ?_
  refine a_nil ?_
  refine a_next (σ' := ⟨[(0, (.int .i64 a0)), (1, (.int .i64 a1)), (4, (.own 4 [] []))], [(4, some ⟨(eA64u8 ((vrep 64 (0 : Int)))), false⟩)]⟩) rfl ?_
  refine a_seq ?_
  refine a_region ?_
  refine a_val (v := (eA64u8 ((vrep 64 (0 : Int))))) (u := []) rfl ⟨⟨_, rfl, rfl⟩, all_nil⟩ rfl ?_
  refine a_val (v := (.own 1500 [] [])) (u := [(1500, some ⟨(eA64u8 ((vrep 64 (0 : Int)))), false⟩)]) rfl trivial rfl ?_
  have hs1 : StOk [] (eA64u8 ((vrep 64 (0 : Int)))) [] 64 (eA64u8 ((vrep 64 (0 : Int)))) (eA64u8 ((vrep 64 (0 : Int)))) := (.nil rfl rfl rfl rfl)
  refine a_val (v := .top) (u := [(1500, some ⟨(eA64u8 ((vrep 64 (0 : Int)))), false⟩)]) (st_own (i := ⟨.arr 64 5, 64, 64, (eA64u8 (vrep 64 (0 : Int)))⟩) rfl rfl (fun _ => rfl) rfl hs1) (hs1.c rfl) rfl ?_
  refine a_nil ?_
  refine a_next (σ' := ⟨[(0, (.int .i64 a0)), (1, (.int .i64 a1)), (4, (.own 4 [] [])), (5, (.own 5 [] []))], [(4, some ⟨(eA64u8 ((vrep 64 (0 : Int)))), false⟩), (5, some ⟨(eA64u8 ((vrep 64 (0 : Int)))), false⟩)]⟩) rfl ?_
  obtain ⟨y25, hy26, hk27⟩ := bind_some h
  clear h
  refine a_join (emb := fun (s : (Vec Int 64)) => ⟨[(4, (.own 4 [] [])), (5, (.own 5 [] []))], [(4, some ⟨(eA64u8 ((vrep 64 (0 : Int)))), false⟩), (5, some ⟨(eA64u8 s), false⟩)]⟩) (pre := fun s => s = y25) ?_ ?_
  · rintro x24 rfl
    have h := hk27
    refine a_st (σ' := ⟨[(4, (.own 4 [] [])), (5, (.own 5 [] []))], [(4, some ⟨(eA64u8 ((vrep 64 (0 : Int)))), false⟩), (5, some ⟨(eA64u8 x24), false⟩)]⟩) rfl ?_
    refine a_seq ?_
    refine a_region ?_
    have hl50 : LdOk [] (eA64u8 x24) [] 64 true (eA64u8 x24) := (.nil rfl rfl rfl)
    refine a_val (v := (eA64u8 x24)) (u := []) (ld_own (i := ⟨.arr 64 5, 64, 64, (eA64u8 (vrep 64 (0 : Int)))⟩) rfl rfl rfl hl50) hl50.c rfl ?_
    have hs51 : StOk [] (eA64u8 ((vrep 64 (0 : Int)))) [] 64 (eA64u8 x24) (eA64u8 x24) := (.nil rfl rfl rfl rfl)
    refine a_val (v := .top) (u := [(4, some ⟨(eA64u8 x24), false⟩)]) (st_own (i := ⟨.arr 64 5, 64, 64, (eA64u8 (vrep 64 (0 : Int)))⟩) rfl rfl (fun _ => rfl) rfl hs51) (hs51.c rfl) rfl ?_
    refine a_nil ?_
    refine a_next rfl ?_
    refine a_ret ?_
    have hl52 : LdOk [] (eA64u8 x24) [] 64 true (eA64u8 x24) := (.nil rfl rfl rfl)
    refine ⟨.inr rfl, ?_⟩
    rw [Try.results58]
    cases h
    exact ⟨_, _, _, _, _, ld_own (i := ⟨.arr 64 5, 64, 64, (eA64u8 (vrep 64 (0 : Int)))⟩) rfl rfl rfl hl52, hl52.c, .inl ⟨rfl, .inl rfl⟩, rfl, rfl⟩
  · have h := hy26
    refine a_seq ?_
    refine a_region ?_
    refine a_val (v := (.int .i64 0)) (u := []) rfl trivial rfl ?_
    refine a_nil ?_
    refine a_next (σ' := ⟨[(0, (.int .i64 a0)), (1, (.int .i64 a1)), (4, (.own 4 [] [])), (5, (.own 5 [] [])), (6, (.int .i64 0))], [(4, some ⟨(eA64u8 ((vrep 64 (0 : Int)))), false⟩), (5, some ⟨(eA64u8 ((vrep 64 (0 : Int)))), false⟩)]⟩) rfl ?_
    refine a_block ?_
    refine a_loop (emb := fun (s : (Int × Int × (Vec Int 64))) => ⟨[(0, (.int .i64 a0)), (1, (.int .i64 s.1)), (4, (.own 4 [] [])), (5, (.own 5 [] [])), (6, (.int .i64 s.2.1))], [(4, some ⟨(eA64u8 ((vrep 64 (0 : Int)))), false⟩), (5, some ⟨(eA64u8 s.2.2), false⟩)]⟩) (body := (fun s : (Int × Int × (Vec Int 64)) => spec_l01Of_l1 a0 s.1 s.2.1 s.2.2)) (G := fun q => some q = some y25) h rfl ?_ rfl
    rintro X41 ⟨x33, x34, x35⟩ x42 h hX43
    have h : spec_l01Of_l1 a0 x33 x34 x35 = some x42 := h
    refine a_st (σ' := ⟨[(0, (.int .i64 a0)), (1, (.int .i64 x33)), (4, (.own 4 [] [])), (5, (.own 5 [] [])), (6, (.int .i64 x34))], [(4, some ⟨(eA64u8 ((vrep 64 (0 : Int)))), false⟩), (5, some ⟨(eA64u8 x35), false⟩)]⟩) rfl ?_
    refine a_seq ?_
    refine a_seq ?_
    refine a_region ?_
    refine a_val (v := (.int .i64 x33)) (u := []) rfl trivial rfl ?_
    refine a_val (v := (.bool ((decide (x33 > 0))))) (u := []) rfl trivial rfl ?_
    refine a_nil ?_
    refine a_next (σ' := ⟨[(0, (.int .i64 a0)), (1, (.int .i64 x33)), (4, (.own 4 [] [])), (5, (.own 5 [] [])), (6, (.int .i64 x34)), (9, (.bool ((decide (x33 > 0)))))], [(4, some ⟨(eA64u8 ((vrep 64 (0 : Int)))), false⟩), (5, some ⟨(eA64u8 x35), false⟩)]⟩) rfl ?_
    cases hb44 : (decide (x33 > 0))
    · have h := ite_f hb44 h
      refine a_cond_f rfl ?_
      refine a_exit ?_
      refine t_exit ?_
      cases h
      have h := hX43
      refine t_exit ?_
      refine b_exit ?_
      exact j_leaf x35 (Option.some.inj h) rfl
    · have h := ite_t hb44 h
      refine a_cond_t rfl ?_
      refine a_skip ?_
      refine a_next (σ' := ⟨[(0, (.int .i64 a0)), (1, (.int .i64 x33)), (4, (.own 4 [] [])), (5, (.own 5 [] [])), (6, (.int .i64 x34))], [(4, some ⟨(eA64u8 ((vrep 64 (0 : Int)))), false⟩), (5, some ⟨(eA64u8 x35), false⟩)]⟩) rfl ?_
      refine a_seq ?_
      refine a_block ?_
      refine a_seq ?_
      refine a_region ?_
      refine a_val (v := (.int .i64 x34)) (u := []) rfl trivial rfl ?_
      refine a_val (v := (.int .i64 x33)) (u := []) rfl trivial rfl ?_
      refine a_val (v := (.int .i64 a0)) (u := []) rfl trivial rfl ?_
      obtain ⟨hc45, h⟩ := ifp_some h
      refine a_val (v := (.int .i64 (Int.tmod x33 a0))) (u := []) rfl hc45 rfl ?_
      refine a_val (v := (.int .u8 (IntKind.u8.wrap (Int.tmod x33 a0)))) (u := []) rfl trivial rfl ?_
      obtain ⟨hc46, h⟩ := ifp_some h
      refine a_val (v := (.own 5 [x34.toNat] [x34.toNat * 1])) (u := []) rfl hc46 rfl ?_
      have hs47 : StOk [x34.toNat] (eA64u8 x35) [x34.toNat * 1] 1 (.int .u8 (IntKind.u8.wrap (Int.tmod x33 a0))) (eA64u8 ((vset x35 x34.toNat (IntKind.u8.wrap (Int.tmod x33 a0))))) := (.arr (y := IntKind.u8.wrap (Int.tmod x33 a0)) (vlt x35 hc46) rfl (.nil rfl rfl rfl rfl))
      refine a_val (v := .top) (u := [(5, some ⟨(eA64u8 ((vset x35 x34.toNat (IntKind.u8.wrap (Int.tmod x33 a0))))), false⟩)]) (st_own (i := ⟨.int .u8, 1, 1, (.int .u8 0)⟩) rfl rfl (fun _ => rfl) rfl hs47) (hs47.c rfl) rfl ?_
      refine a_nil ?_
      refine a_next (σ' := ⟨[(0, (.int .i64 a0)), (1, (.int .i64 x33)), (4, (.own 4 [] [])), (5, (.own 5 [] [])), (6, (.int .i64 x34))], [(4, some ⟨(eA64u8 ((vrep 64 (0 : Int)))), false⟩), (5, some ⟨(eA64u8 ((vset x35 x34.toNat (IntKind.u8.wrap (Int.tmod x33 a0))))), false⟩)]⟩) rfl ?_
      refine a_region ?_
      refine a_val (v := (.int .i64 x33)) (u := []) rfl trivial rfl ?_
      refine a_val (v := (.int .i64 a0)) (u := []) rfl trivial rfl ?_
      obtain ⟨hc48, h⟩ := ifp_some h
      refine a_val (v := (.int .i64 (IntKind.i64.wrap (Int.tdiv x33 a0)))) (u := []) rfl hc48 rfl ?_
      refine a_val (v := (.int .i64 (IntKind.i64.wrap (Int.tdiv x33 a0)))) (u := []) rfl trivial rfl ?_
      refine a_nil ?_
      refine b_norm ?_
      refine a_next (σ' := ⟨[(0, (.int .i64 a0)), (1, (.int .i64 (IntKind.i64.wrap (Int.tdiv x33 a0)))), (4, (.own 4 [] [])), (5, (.own 5 [] [])), (6, (.int .i64 x34))], [(4, some ⟨(eA64u8 ((vrep 64 (0 : Int)))), false⟩), (5, some ⟨(eA64u8 ((vset x35 x34.toNat (IntKind.u8.wrap (Int.tmod x33 a0))))), false⟩)]⟩) rfl ?_
      refine a_region ?_
      refine a_val (v := (.int .i64 x34)) (u := []) rfl trivial rfl ?_
      refine a_val (v := (.int .i64 (IntKind.i64.wrap (x34 + 1)))) (u := []) rfl trivial rfl ?_
      refine a_val (v := (.int .i64 (IntKind.i64.wrap (x34 + 1)))) (u := []) rfl trivial rfl ?_
      refine a_nil ?_
      cases h
      exact a_again rfl hX43
def spec_MonicPolys_c : ACode := (.seq (.region 0 [⟨some 4, .asg 1 (.const (.slice none 0 0)) 40, none, []⟩, ⟨some 5, .asg 0 (.const (.int .i64 0)) 2, none, []⟩] false) (.seq (.block 0 (.seq (.region 1 [⟨some 10, .mov (.tmp 0), none, []⟩, ⟨some 11, .call 0 (.func 56) [(.tmp 10)], none, []⟩, ⟨some 12, .un .not (.tmp 11), none, []⟩, ⟨some 9, .asg 0 (.tmp 12) 4, none, []⟩] false) (.cond (.tmp 9) (.seq (.region 2 [⟨some 4, .asg 1 (.const (.slice none 0 0)) 40, none, []⟩, ⟨some 5, .asg 0 (.const (.int .i64 1)) 2, none, []⟩] false) .ret) (.seq (.region 3 [⟨some 14, .mov (.tmp 1), none, []⟩, ⟨some 15, .call 0 (.func 57) [(.tmp 14), (.const (.int .i64 0)), (.const (.int .i64 63))], none, []⟩, ⟨some 16, .un .not (.tmp 15), none, []⟩, ⟨some 13, .asg 0 (.tmp 16) 4, none, []⟩] false) (.cond (.tmp 13) (.seq (.region 4 [⟨some 4, .asg 1 (.const (.slice none 0 0)) 40, none, []⟩, ⟨some 5, .asg 0 (.const (.int .i64 2)) 2, none, []⟩] false) .ret) (.seq (.region 5 [⟨some 18, .mov (.tmp 0), none, []⟩, ⟨some 19, .mov (.tmp 1), none, []⟩, ⟨some 20, .call 0 (.func 65) [(.tmp 18), (.tmp 19)], none, []⟩, ⟨some 21, .bin .gtr 2 (.tmp 20) (.const (.int .i64 343)), none, []⟩, ⟨some 17, .asg 0 (.tmp 21) 4, none, []⟩] false) (.cond (.tmp 17) (.seq (.region 6 [⟨some 4, .asg 1 (.const (.slice none 0 0)) 40, none, []⟩, ⟨some 5, .asg 0 (.const (.int .i64 3)) 2, none, []⟩] false) .ret) .skip))))))) (.seq (.region 7 [⟨some 22, .bslice 2 40 0 [], none, []⟩, ⟨some 6, .asg 2 (.tmp 22) 40, none, []⟩] false) (.seq (.seq (.region 8 [⟨some 7, .asg 0 (.const (.int .i64 0)) 2, none, []⟩] false) (.block 1 (.loop (.seq (.seq (.region 9 [⟨some 23, .mov (.tmp 7), none, []⟩, ⟨some 24, .mov (.tmp 0), none, []⟩, ⟨some 25, .mov (.tmp 1), none, []⟩, ⟨some 26, .call 0 (.func 65) [(.tmp 24), (.tmp 25)], none, []⟩, ⟨some 27, .bin .lss 2 (.tmp 23) (.tmp 26), none, []⟩] false) (.cond (.tmp 27) .skip (.exit 1))) (.seq (.block 2 (.seq (.region 11 [⟨some 30, .mov (.tmp 0), none, []⟩, ⟨some 31, .mov (.tmp 7), none, []⟩, ⟨some 32, .call 0 (.func 58) [(.tmp 30), (.tmp 31)], none, []⟩, ⟨some 8, .alloc 23, none, []⟩, ⟨none, .store 23 (.tmp 8) (.tmp 32), none, []⟩] false) (.seq (.region 12 [⟨some 33, .mov (.tmp 1), none, []⟩, ⟨some 34, .indexAddr 23 (.tmp 8) (.tmp 33), none, []⟩, ⟨none, .store 5 (.tmp 34) (.const (.int .u8 1)), none, []⟩] false) (.region 13 [⟨some 35, .mov (.tmp 6), none, []⟩, ⟨some 36, .load 23 (.tmp 8), none, []⟩, ⟨some 37, .bslice 0 40 1 [(0, (.tmp 36))], none, []⟩, ⟨some 38, .blt 0 .append [(.tmp 35), (.tmp 37)] [40, 40], none, []⟩, ⟨some 6, .asg 2 (.tmp 38) 40, none, []⟩] false)))) (.region 10 [⟨some 28, .mov (.tmp 7), none, []⟩, ⟨some 29, .bin .add 2 (.tmp 28) (.const (.int .i64 1)), none, []⟩, ⟨some 7, .asg 0 (.tmp 29) 2, none, []⟩] false)))))) (.seq (.region 14 [⟨some 39, .mov (.tmp 6), none, []⟩, ⟨some 4, .asg 1 (.tmp 39) 40, none, []⟩, ⟨some 5, .asg 0 (.const (.int .i64 0)) 2, none, []⟩] false) .ret)))))
def spec_MonicPolys_L : Live := [(0, [0, 1]), (1, [0, 1]), (2, []), (3, [0, 1]), (4, []), (5, [0, 1]), (6, []), (7, [0, 1]), (8, [0, 1, 6]), (9, [0, 1, 6, 7]), (10, [0, 1, 6, 7]), (11, [0, 1, 6, 7]), (12, [0, 1, 6, 7, 8]), (13, [0, 1, 6, 7, 8]), (14, [6]), (100009, [0, 1, 9]), (100013, [0, 1, 13]), (100017, [0, 1, 17]), (100027, [0, 1, 6, 7, 27])]
theorem spec_MonicPolys_body : Try.f26.body = some (Try.f26.body.getD .skip) := by kernel_rfl
theorem spec_MonicPolys_strip : strip [(4, 1), (6, 2), (22, 2)] (Try.f26.body.getD .skip) = spec_MonicPolys_c := by kernel_rfl
noncomputable def spec_MonicPolys_l1 (a0 : Int) (a1 : Int) (x60 : Int) (x61 : (List (Vec Int 64))) : Option ((Int × (List (Vec Int 64))) ⊕ (List (Vec Int 64))) :=
  (Option.bind (spec_l01Count a0 a1) fun r75 => (if (decide (x60 < r75)) then (Option.bind (spec_l01Of a0 x60) fun r78 => (ifp (0 ≤ a1 ∧ a1 < ((64 : Nat) : Int)) ((ifp ((x61.length + ([(vset r78 a1.toNat 1)] : List (Vec Int 64)).length) * 64 ≤ 140737488355328) ((some (.inl ((IntKind.i64.wrap (x60 + 1), (x61 ++ ([(vset r78 a1.toNat 1)]))))))))))) else (some (.inr x61))))
noncomputable def spec_MonicPolys (a0 : Int) (a1 : Int) : Option ((List (Vec Int 64)) × Int) :=
  (Option.bind (spec_l01Prime a0) fun r1 => (if (!r1) then (some ([], 1)) else (Option.bind (spec_l01In a1 0 63) fun r4 => (if (!r4) then (some ([], 2)) else (Option.bind (spec_l01Count a0 a1) fun r7 => (if (decide (r7 > 343)) then (some ([], 3)) else (Option.bind (α := (List (Vec Int 64))) ((loopM (fun s : (Int × (List (Vec Int 64))) => spec_MonicPolys_l1 a0 a1 s.1 s.2) (0, []))) fun x46 => (some (x46, 0)))))))))
set_option maxHeartbeats 16000000 in
theorem spec_MonicPolys_ok (a0 : Int) (a1 : Int) (r : ((List (Vec Int 64)) × Int)) (h : spec_MonicPolys a0 a1 = some r) : Den Try.prog 26 [(.int .i64 a0), (.int .i64 a1)] { r := (.tuple [(eSA64u8 r.1), (.int .i64 r.2)]) } := by
  refine den_of (rs := [(eSA64u8 r.1), (.int .i64 r.2)]) (ac := spec_MonicPolys_c) (L := spec_MonicPolys_L) (n := 40) (m := [(4, 1), (6, 2), (22, 2)]) good Try.func26 spec_MonicPolys_body (by kernel_rfl) Try.ntmps26 rfl rfl spec_MonicPolys_strip rfl rfl ?_
  refine a_st (σ' := ⟨[(0, (.int .i64 a0)), (1, (.int .i64 a1))], []⟩) rfl ?_
  unfold spec_MonicPolys_c
  refine a_seq ?_
  refine a_region ?_
  refine a_val (v := (eSA64u8 ([]))) (u := []) rfl trivial rfl ?_
  refine a_val (v := (.int .i64 0)) (u := []) rfl trivial rfl ?_
  refine a_nil ?_
  refine a_next (σ' := ⟨[(0, (.int .i64 a0)), (1, (.int .i64 a1))], []⟩) rfl ?_
  refine a_seq ?_
  refine a_block ?_
  refine a_seq ?_
  refine a_region ?_
  refine a_val (v := (.int .i64 a0)) (u := []) rfl trivial rfl ?_
  obtain ⟨r1, hr2, h⟩ := bind_some h
  refine a_call (args := [(.int .i64 a0)]) (u := []) (r := (.bool r1)) rfl rfl (spec_l01Prime_ok a0 r1 hr2) rfl ?_
  refine a_val (v := (.bool (!r1))) (u := []) rfl trivial rfl ?_
  refine a_val (v := (.bool (!r1))) (u := []) rfl trivial rfl ?_
  refine a_nil ?_
  refine a_next (σ' := ⟨[(0, (.int .i64 a0)), (1, (.int .i64 a1)), (9, (.bool (!r1)))], []⟩) rfl ?_
  cases hb3 : (!r1)
  · have h := ite_f hb3 h
    refine a_cond_f rfl ?_
    refine a_seq ?_
    refine a_region ?_
    refine a_val (v := (.int .i64 a1)) (u := []) rfl trivial rfl ?_
    obtain ⟨r4, hr5, h⟩ := bind_some h
    refine a_call (args := [(.int .i64 a1), (.int .i64 0), (.int .i64 63)]) (u := []) (r := (.bool r4)) rfl rfl (spec_l01In_ok a1 0 63 r4 hr5) rfl ?_
    refine a_val (v := (.bool (!r4))) (u := []) rfl trivial rfl ?_
    refine a_val (v := (.bool (!r4))) (u := []) rfl trivial rfl ?_
    refine a_nil ?_
    refine a_next (σ' := ⟨[(0, (.int .i64 a0)), (1, (.int .i64 a1)), (13, (.bool (!r4)))], []⟩) rfl ?_
    cases hb6 : (!r4)
    · have h := ite_f hb6 h
      refine a_cond_f rfl ?_
      refine a_seq ?_
      refine a_region ?_
      refine a_val (v := (.int .i64 a0)) (u := []) rfl trivial rfl ?_
      refine a_val (v := (.int .i64 a1)) (u := []) rfl trivial rfl ?_
      obtain ⟨r7, hr8, h⟩ := bind_some h
      refine a_call (args := [(.int .i64 a0), (.int .i64 a1)]) (u := []) (r := (.int .i64 r7)) rfl rfl (spec_l01Count_ok a0 a1 r7 hr8) rfl ?_
      refine a_val (v := (.bool ((decide (r7 > 343))))) (u := []) rfl trivial rfl ?_
      refine a_val (v := (.bool ((decide (r7 > 343))))) (u := []) rfl trivial rfl ?_
      refine a_nil ?_
      refine a_next (σ' := ⟨[(0, (.int .i64 a0)), (1, (.int .i64 a1)), (17, (.bool ((decide (r7 > 343)))))], []⟩) rfl ?_
      cases hb9 : (decide (r7 > 343))
      · have h := ite_f hb9 h
        refine a_cond_f rfl ?_
        refine a_skip ?_
        refine b_norm ?_
        refine a_next (σ' := ⟨[(0, (.int .i64 a0)), (1, (.int .i64 a1))], []⟩) rfl ?_
        refine a_seq ?_
        refine a_region ?_
        refine a_val (v := (.osl 3200)) (u := [(3200, some ⟨(.row 64 (([]).map eA64u8)), false⟩)]) rfl ⟨(Nat.le_of_ble_eq_true rfl), (Nat.le_of_ble_eq_true rfl), all_nil⟩ rfl ?_
        refine a_val (v := (.osl 3200)) (u := []) rfl trivial rfl ?_
        refine a_nil ?_
        refine a_next (σ' := ⟨[(0, (.int .i64 a0)), (1, (.int .i64 a1)), (6, (.osl 6))], [(6, some ⟨(.row 64 (([]).map eA64u8)), false⟩)]⟩) rfl ?_
        obtain ⟨y47, hy48, hk49⟩ := bind_some h
        clear h
        refine a_join (emb := fun (s : (List (Vec Int 64))) => ⟨[(6, (.osl 6))], [(6, some ⟨(.row 64 (s.map eA64u8)), false⟩)]⟩) (pre := fun s => s = y47) ?_ ?_
        · rintro x46 rfl
          have h := hk49
          refine a_st (σ' := ⟨[(6, (.osl 6))], [(6, some ⟨(.row 64 (x46.map eA64u8)), false⟩)]⟩) rfl ?_
          refine a_seq ?_
          refine a_region ?_
          refine a_val (v := (.osl 6)) (u := []) rfl trivial rfl ?_
          refine a_val (v := (eSA64u8 x46)) (u := [(6, some ⟨(.row 64 (x46.map eA64u8)), true⟩)]) rfl trivial rfl ?_
          refine a_val (v := (.int .i64 0)) (u := []) rfl trivial rfl ?_
          refine a_nil ?_
          refine a_next rfl ?_
          refine a_ret ?_
          refine ⟨.inr rfl, ?_⟩
          rw [Try.results26]
          cases h
          exact ⟨_, _, _, _, _, rfl, trivial, .inl ⟨rfl, .inl rfl⟩, rfl, ⟨_, _, _, _, _, rfl, trivial, .inl ⟨rfl, .inl rfl⟩, rfl, rfl⟩⟩
        · have h := hy48
          refine a_seq ?_
          refine a_region ?_
          refine a_val (v := (.int .i64 0)) (u := []) rfl trivial rfl ?_
          refine a_nil ?_
          refine a_next (σ' := ⟨[(0, (.int .i64 a0)), (1, (.int .i64 a1)), (6, (.osl 6)), (7, (.int .i64 0))], [(6, some ⟨(.row 64 (([]).map eA64u8)), false⟩)]⟩) rfl ?_
          refine a_block ?_
          refine a_loop (emb := fun (s : (Int × (List (Vec Int 64)))) => ⟨[(0, (.int .i64 a0)), (1, (.int .i64 a1)), (6, (.osl 6)), (7, (.int .i64 s.1))], [(6, some ⟨(.row 64 (s.2.map eA64u8)), false⟩)]⟩) (body := (fun s : (Int × (List (Vec Int 64))) => spec_MonicPolys_l1 a0 a1 s.1 s.2)) (G := fun q => some q = some y47) h rfl ?_ rfl
          rintro X72 ⟨x60, x61⟩ x73 h hX74
          have h : spec_MonicPolys_l1 a0 a1 x60 x61 = some x73 := h
          refine a_st (σ' := ⟨[(0, (.int .i64 a0)), (1, (.int .i64 a1)), (6, (.osl 6)), (7, (.int .i64 x60))], [(6, some ⟨(.row 64 (x61.map eA64u8)), false⟩)]⟩) rfl ?_
          refine a_seq ?_
          refine a_seq ?_
          refine a_region ?_
          refine a_val (v := (.int .i64 x60)) (u := []) rfl trivial rfl ?_
          refine a_val (v := (.int .i64 a0)) (u := []) rfl trivial rfl ?_
          refine a_val (v := (.int .i64 a1)) (u := []) rfl trivial rfl ?_
          obtain ⟨r75, hr76, h⟩ := bind_some h
          refine a_call (args := [(.int .i64 a0), (.int .i64 a1)]) (u := []) (r := (.int .i64 r75)) rfl rfl (spec_l01Count_ok a0 a1 r75 hr76) rfl ?_
          refine a_val (v := (.bool ((decide (x60 < r75))))) (u := []) rfl trivial rfl ?_
          refine a_nil ?_
          refine a_next (σ' := ⟨[(0, (.int .i64 a0)), (1, (.int .i64 a1)), (6, (.osl 6)), (7, (.int .i64 x60)), (27, (.bool ((decide (x60 < r75)))))], [(6, some ⟨(.row 64 (x61.map eA64u8)), false⟩)]⟩) rfl ?_
          cases hb77 : (decide (x60 < r75))
          · have h := ite_f hb77 h
            refine a_cond_f rfl ?_
            refine a_exit ?_
            refine t_exit ?_
            cases h
            have h := hX74
            refine t_exit ?_
            refine b_exit ?_
            exact j_leaf x61 (Option.some.inj h) rfl
          · have h := ite_t hb77 h
            refine a_cond_t rfl ?_
            refine a_skip ?_
            refine a_next (σ' := ⟨[(0, (.int .i64 a0)), (1, (.int .i64 a1)), (6, (.osl 6)), (7, (.int .i64 x60))], [(6, some ⟨(.row 64 (x61.map eA64u8)), false⟩)]⟩) rfl ?_
            refine a_seq ?_
            refine a_block ?_
            refine a_seq ?_
            refine a_region ?_
            refine a_val (v := (.int .i64 a0)) (u := []) rfl trivial rfl ?_
            refine a_val (v := (.int .i64 x60)) (u := []) rfl trivial rfl ?_
            obtain ⟨r78, hr79, h⟩ := bind_some h
            refine a_call (args := [(.int .i64 a0), (.int .i64 x60)]) (u := []) (r := (eA64u8 r78)) rfl rfl (spec_l01Of_ok a0 x60 r78 hr79) rfl ?_
            refine a_val (v := (.own 1800 [] [])) (u := [(1800, some ⟨(eA64u8 ((vrep 64 (0 : Int)))), false⟩)]) rfl trivial rfl ?_
            have hs80 : StOk [] (eA64u8 ((vrep 64 (0 : Int)))) [] 64 (eA64u8 r78) (eA64u8 r78) := (.nil rfl rfl rfl rfl)
            refine a_val (v := .top) (u := [(1800, some ⟨(eA64u8 r78), false⟩)]) (st_own (i := ⟨.arr 64 5, 64, 64, (eA64u8 (vrep 64 (0 : Int)))⟩) rfl rfl (fun _ => rfl) rfl hs80) (hs80.c rfl) rfl ?_
            refine a_nil ?_
            refine a_next (σ' := ⟨[(0, (.int .i64 a0)), (1, (.int .i64 a1)), (6, (.osl 6)), (7, (.int .i64 x60)), (8, (.own 8 [] []))], [(6, some ⟨(.row 64 (x61.map eA64u8)), false⟩), (8, some ⟨(eA64u8 r78), false⟩)]⟩) rfl ?_
            refine a_seq ?_
            refine a_region ?_
            refine a_val (v := (.int .i64 a1)) (u := []) rfl trivial rfl ?_
            obtain ⟨hc81, h⟩ := ifp_some h
            refine a_val (v := (.own 8 [a1.toNat] [a1.toNat * 1])) (u := []) rfl hc81 rfl ?_
            have hs82 : StOk [a1.toNat] (eA64u8 r78) [a1.toNat * 1] 1 (.int .u8 1) (eA64u8 (vset r78 a1.toNat 1)) := (.arr (y := 1) (vlt r78 hc81) rfl (.nil rfl rfl rfl rfl))
            refine a_val (v := .top) (u := [(8, some ⟨(eA64u8 (vset r78 a1.toNat 1)), false⟩)]) (st_own (i := ⟨.int .u8, 1, 1, (.int .u8 0)⟩) rfl rfl (fun _ => rfl) rfl hs82) (hs82.c rfl) rfl ?_
            refine a_nil ?_
            refine a_next (σ' := ⟨[(0, (.int .i64 a0)), (1, (.int .i64 a1)), (6, (.osl 6)), (7, (.int .i64 x60)), (8, (.own 8 [] []))], [(6, some ⟨(.row 64 (x61.map eA64u8)), false⟩), (8, some ⟨(eA64u8 (vset r78 a1.toNat 1)), false⟩)]⟩) rfl ?_
            refine a_region ?_
            refine a_val (v := (.osl 6)) (u := []) rfl trivial rfl ?_
            have hl83 : LdOk [] (eA64u8 (vset r78 a1.toNat 1)) [] 64 true (eA64u8 (vset r78 a1.toNat 1)) := (.nil rfl rfl rfl)
            refine a_val (v := (eA64u8 (vset r78 a1.toNat 1))) (u := []) (ld_own (i := ⟨.arr 64 5, 64, 64, (eA64u8 (vrep 64 (0 : Int)))⟩) rfl rfl rfl hl83) hl83.c rfl ?_
            refine a_val (v := (.sl 64 true (([(vset r78 a1.toNat 1)]).map eA64u8))) (u := []) rfl ⟨(Nat.le_of_ble_eq_true rfl), (Nat.le_of_ble_eq_true rfl), (all_cons ⟨(Nat.le_of_ble_eq_true rfl), rfl⟩ all_nil)⟩ rfl ?_
            obtain ⟨hc84, h⟩ := ifp_some h
            refine a_val (v := (.osl 4800)) (u := [(4800, some ⟨(.row 64 (((x61 ++ ([(vset r78 a1.toNat 1)]))).map eA64u8)), false⟩), (6, none)]) (app_run (i := ⟨.arr 64 5, 64, 64, (eA64u8 (vrep 64 (0 : Int)))⟩) (f := eA64u8) (l := x61) (l2 := [(vset r78 a1.toNat 1)]) rfl rfl rfl rfl (fun _ => rfl) rfl rfl) (app_c (f := eA64u8) (s := 64) (sz := 64) (by' := 64) (u := []) (id := 6) hc84 (.inr rfl) rfl rfl rfl) rfl ?_
            refine a_val (v := (.osl 4800)) (u := []) rfl trivial rfl ?_
            refine a_nil ?_
            refine b_norm ?_
            refine a_next (σ' := ⟨[(0, (.int .i64 a0)), (1, (.int .i64 a1)), (6, (.osl 6)), (7, (.int .i64 x60))], [(6, some ⟨(.row 64 (((x61 ++ ([(vset r78 a1.toNat 1)]))).map eA64u8)), false⟩)]⟩) rfl ?_
            refine a_region ?_
            refine a_val (v := (.int .i64 x60)) (u := []) rfl trivial rfl ?_
            refine a_val (v := (.int .i64 (IntKind.i64.wrap (x60 + 1)))) (u := []) rfl trivial rfl ?_
            refine a_val (v := (.int .i64 (IntKind.i64.wrap (x60 + 1)))) (u := []) rfl trivial rfl ?_
            refine a_nil ?_
            cases h
            exact a_again rfl hX74
      · have h := ite_t hb9 h
        refine a_cond_t rfl ?_
        refine a_seq ?_
        refine a_region ?_
        refine a_val (v := (eSA64u8 ([]))) (u := []) rfl trivial rfl ?_
        refine a_val (v := (.int .i64 3)) (u := []) rfl trivial rfl ?_
        refine a_nil ?_
        refine a_next rfl ?_
        refine a_ret ?_
        refine b_ret ?_
        refine t_ret ?_
        refine ⟨.inr rfl, ?_⟩
        rw [Try.results26]
        cases h
        exact ⟨_, _, _, _, _, rfl, trivial, .inl ⟨rfl, .inl rfl⟩, rfl, ⟨_, _, _, _, _, rfl, trivial, .inl ⟨rfl, .inl rfl⟩, rfl, rfl⟩⟩
    · have h := ite_t hb6 h
      refine a_cond_t rfl ?_
      refine a_seq ?_
      refine a_region ?_
      refine a_val (v := (eSA64u8 ([]))) (u := []) rfl trivial rfl ?_
      refine a_val (v := (.int .i64 2)) (u := []) rfl trivial rfl ?_
      refine a_nil ?_
      refine a_next rfl ?_
      refine a_ret ?_
      refine b_ret ?_
      refine t_ret ?_
      refine ⟨.inr rfl, ?_⟩
      rw [Try.results26]
      cases h
      exact ⟨_, _, _, _, _, rfl, trivial, .inl ⟨rfl, .inl rfl⟩, rfl, ⟨_, _, _, _, _, rfl, trivial, .inl ⟨rfl, .inl rfl⟩, rfl, rfl⟩⟩
  · have h := ite_t hb3 h
    refine a_cond_t rfl ?_
    refine a_seq ?_
    refine a_region ?_
    refine a_val (v := (eSA64u8 ([]))) (u := []) rfl trivial rfl ?_
    refine a_val (v := (.int .i64 1)) (u := []) rfl trivial rfl ?_
    refine a_nil ?_
    refine a_next rfl ?_
    refine a_ret ?_
    refine b_ret ?_
    refine t_ret ?_
    refine ⟨.inr rfl, ?_⟩
    rw [Try.results26]
    cases h
    exact ⟨_, _, _, _, _, rfl, trivial, .inl ⟨rfl, .inl rfl⟩, rfl, ⟨_, _, _, _, _, rfl, trivial, .inl ⟨rfl, .inl rfl⟩, rfl, rfl⟩⟩
def impl_isPrime_c : ACode := (.seq (.region 0 [⟨some 2, .asg 0 (.const (.bool false)) 4, none, []⟩] false) (.seq (.region 1 [⟨some 3, .mov (.tmp 0), none, []⟩, ⟨some 4, .bin .eql 2 (.tmp 3) (.const (.int .i64 2)), none, []⟩, ⟨some 5, .mov (.tmp 4), none, []⟩, ⟨some 6, .mov (.tmp 0), some (5, false), []⟩, ⟨some 7, .bin .eql 2 (.tmp 6) (.const (.int .i64 3)), some (5, false), []⟩, ⟨some 8, .pick (.tmp 5) (.const (.bool true)) (.tmp 7), none, []⟩, ⟨some 9, .mov (.tmp 8), none, []⟩, ⟨some 10, .mov (.tmp 0), some (9, false), []⟩, ⟨some 11, .bin .eql 2 (.tmp 10) (.const (.int .i64 5)), some (9, false), []⟩, ⟨some 12, .pick (.tmp 9) (.const (.bool true)) (.tmp 11), none, []⟩, ⟨some 13, .mov (.tmp 12), none, []⟩, ⟨some 14, .mov (.tmp 0), some (13, false), []⟩, ⟨some 15, .bin .eql 2 (.tmp 14) (.const (.int .i64 7)), some (13, false), []⟩, ⟨some 16, .pick (.tmp 13) (.const (.bool true)) (.tmp 15), none, []⟩, ⟨some 2, .asg 0 (.tmp 16) 4, none, []⟩] false) .ret))
def impl_isPrime_L : Live := [(0, [0]), (1, [0])]
theorem impl_isPrime_body : Try.f59.body = some (Try.f59.body.getD .skip) := by kernel_rfl
theorem impl_isPrime_strip : strip [] (Try.f59.body.getD .skip) = impl_isPrime_c := by kernel_rfl
noncomputable def impl_isPrime (a0 : Int) : Option Bool :=
  (if (a0 == 2) then (some true) else (if (a0 == 3) then (some true) else (if (a0 == 5) then (some true) else (some (a0 == 7)))))
set_option maxHeartbeats 16000000 in
theorem impl_isPrime_ok (a0 : Int) (r : Bool) (h : impl_isPrime a0 = some r) : Den Try.prog 59 [(.int .i64 a0)] { r := (.bool r) } := by
  refine den_of (rs := [(.bool r)]) (ac := impl_isPrime_c) (L := impl_isPrime_L) (n := 17) (m := []) good Try.func59 impl_isPrime_body (by kernel_rfl) Try.ntmps59 rfl rfl impl_isPrime_strip rfl rfl ?_
  refine a_st (σ' := ⟨[(0, (.int .i64 a0))], []⟩) rfl ?_
  unfold impl_isPrime_c
  refine a_seq ?_
  refine a_region ?_
  refine a_val (v := (.bool false)) (u := []) rfl trivial rfl ?_
  refine a_nil ?_
  refine a_next (σ' := ⟨[(0, (.int .i64 a0))], []⟩) rfl ?_
  refine a_seq ?_
  refine a_region ?_
  refine a_val (v := (.int .i64 a0)) (u := []) rfl trivial rfl ?_
  refine a_val (v := (.bool (a0 == 2))) (u := []) rfl trivial rfl ?_
  refine a_val (v := (.bool (a0 == 2))) (u := []) rfl trivial rfl ?_
  cases hb1 : (a0 == 2)
  · have h := ite_f hb1 h
    refine a_gval rfl (v := (.int .i64 a0)) (u := []) rfl trivial rfl ?_
    refine a_gval rfl (v := (.bool (a0 == 3))) (u := []) rfl trivial rfl ?_
    refine a_val (v := (.bool (a0 == 3))) (u := []) rfl trivial rfl ?_
    refine a_val (v := (.bool (a0 == 3))) (u := []) rfl trivial rfl ?_
    cases hb2 : (a0 == 3)
    · have h := ite_f hb2 h
      refine a_gval rfl (v := (.int .i64 a0)) (u := []) rfl trivial rfl ?_
      refine a_gval rfl (v := (.bool (a0 == 5))) (u := []) rfl trivial rfl ?_
      refine a_val (v := (.bool (a0 == 5))) (u := []) rfl trivial rfl ?_
      refine a_val (v := (.bool (a0 == 5))) (u := []) rfl trivial rfl ?_
      cases hb3 : (a0 == 5)
      · have h := ite_f hb3 h
        refine a_gval rfl (v := (.int .i64 a0)) (u := []) rfl trivial rfl ?_
        refine a_gval rfl (v := (.bool (a0 == 7))) (u := []) rfl trivial rfl ?_
        refine a_val (v := (.bool (a0 == 7))) (u := []) rfl trivial rfl ?_
        refine a_val (v := (.bool (a0 == 7))) (u := []) rfl trivial rfl ?_
        refine a_nil ?_
        refine a_next rfl ?_
        refine a_ret ?_
        refine ⟨.inr rfl, ?_⟩
        rw [Try.results59]
        cases h
        exact ⟨_, _, _, _, _, rfl, trivial, .inl ⟨rfl, .inl rfl⟩, rfl, rfl⟩
      · have h := ite_t hb3 h
        refine a_gskip rfl ?_
        refine a_gskip rfl ?_
        refine a_val (v := (.bool true)) (u := []) rfl trivial rfl ?_
        refine a_val (v := (.bool true)) (u := []) rfl trivial rfl ?_
        refine a_nil ?_
        refine a_next rfl ?_
        refine a_ret ?_
        refine ⟨.inr rfl, ?_⟩
        rw [Try.results59]
        cases h
        exact ⟨_, _, _, _, _, rfl, trivial, .inl ⟨rfl, .inl rfl⟩, rfl, rfl⟩
    · have h := ite_t hb2 h
      refine a_gskip rfl ?_
      refine a_gskip rfl ?_
      refine a_val (v := (.bool true)) (u := []) rfl trivial rfl ?_
      refine a_val (v := (.bool true)) (u := []) rfl trivial rfl ?_
      refine a_gskip rfl ?_
      refine a_gskip rfl ?_
      refine a_val (v := (.bool true)) (u := []) rfl trivial rfl ?_
      refine a_val (v := (.bool true)) (u := []) rfl trivial rfl ?_
      refine a_nil ?_
      refine a_next rfl ?_
      refine a_ret ?_
      refine ⟨.inr rfl, ?_⟩
      rw [Try.results59]
      cases h
      exact ⟨_, _, _, _, _, rfl, trivial, .inl ⟨rfl, .inl rfl⟩, rfl, rfl⟩
  · have h := ite_t hb1 h
    refine a_gskip rfl ?_
    refine a_gskip rfl ?_
    refine a_val (v := (.bool true)) (u := []) rfl trivial rfl ?_
    refine a_val (v := (.bool true)) (u := []) rfl trivial rfl ?_
    refine a_gskip rfl ?_
    refine a_gskip rfl ?_
    refine a_val (v := (.bool true)) (u := []) rfl trivial rfl ?_
    refine a_val (v := (.bool true)) (u := []) rfl trivial rfl ?_
    refine a_gskip rfl ?_
    refine a_gskip rfl ?_
    refine a_val (v := (.bool true)) (u := []) rfl trivial rfl ?_
    refine a_val (v := (.bool true)) (u := []) rfl trivial rfl ?_
    refine a_nil ?_
    refine a_next rfl ?_
    refine a_ret ?_
    refine ⟨.inr rfl, ?_⟩
    rw [Try.results59]
    cases h
    exact ⟨_, _, _, _, _, rfl, trivial, .inl ⟨rfl, .inl rfl⟩, rfl, rfl⟩
def impl_within_c : ACode := (.seq (.region 0 [⟨some 6, .asg 0 (.const (.bool false)) 4, none, []⟩] false) (.seq (.region 1 [⟨some 7, .mov (.tmp 1), none, []⟩, ⟨some 8, .mov (.tmp 0), none, []⟩, ⟨some 9, .bin .leq 2 (.tmp 7) (.tmp 8), none, []⟩, ⟨some 10, .mov (.tmp 9), none, []⟩, ⟨some 11, .mov (.tmp 0), some (10, true), []⟩, ⟨some 12, .mov (.tmp 2), some (10, true), []⟩, ⟨some 13, .bin .leq 2 (.tmp 11) (.tmp 12), some (10, true), []⟩, ⟨some 14, .pick (.tmp 10) (.tmp 13) (.const (.bool false)), none, []⟩, ⟨some 6, .asg 0 (.tmp 14) 4, none, []⟩] false) .ret))
def impl_within_L : Live := [(0, [0, 1, 2]), (1, [0, 1, 2])]
theorem impl_within_body : Try.f66.body = some (Try.f66.body.getD .skip) := by kernel_rfl
theorem impl_within_strip : strip [] (Try.f66.body.getD .skip) = impl_within_c := by kernel_rfl
noncomputable def impl_within (a0 : Int) (a1 : Int) (a2 : Int) : Option Bool :=
  (if (decide (a1 ≤ a0)) then (some ((decide (a0 ≤ a2)))) else (some false))
set_option maxHeartbeats 16000000 in
theorem impl_within_ok (a0 : Int) (a1 : Int) (a2 : Int) (r : Bool) (h : impl_within a0 a1 a2 = some r) : Den Try.prog 66 [(.int .i64 a0), (.int .i64 a1), (.int .i64 a2)] { r := (.bool r) } := by
  refine den_of (rs := [(.bool r)]) (ac := impl_within_c) (L := impl_within_L) (n := 15) (m := []) good Try.func66 impl_within_body (by kernel_rfl) Try.ntmps66 rfl rfl impl_within_strip rfl rfl ?_
  refine a_st (σ' := ⟨[(0, (.int .i64 a0)), (1, (.int .i64 a1)), (2, (.int .i64 a2))], []⟩) rfl ?_
  unfold impl_within_c
  refine a_seq ?_
  refine a_region ?_
  refine a_val (v := (.bool false)) (u := []) rfl trivial rfl ?_
  refine a_nil ?_
  refine a_next (σ' := ⟨[(0, (.int .i64 a0)), (1, (.int .i64 a1)), (2, (.int .i64 a2))], []⟩) rfl ?_
  refine a_seq ?_
  refine a_region ?_
  refine a_val (v := (.int .i64 a1)) (u := []) rfl trivial rfl ?_
  refine a_val (v := (.int .i64 a0)) (u := []) rfl trivial rfl ?_
  refine a_val (v := (.bool ((decide (a1 ≤ a0))))) (u := []) rfl trivial rfl ?_
  refine a_val (v := (.bool ((decide (a1 ≤ a0))))) (u := []) rfl trivial rfl ?_
  cases hb1 : (decide (a1 ≤ a0))
  · have h := ite_f hb1 h
    refine a_gskip rfl ?_
    refine a_gskip rfl ?_
    refine a_gskip rfl ?_
    refine a_val (v := (.bool false)) (u := []) rfl trivial rfl ?_
    refine a_val (v := (.bool false)) (u := []) rfl trivial rfl ?_
    refine a_nil ?_
    refine a_next rfl ?_
    refine a_ret ?_
    refine ⟨.inr rfl, ?_⟩
    rw [Try.results66]
    cases h
    exact ⟨_, _, _, _, _, rfl, trivial, .inl ⟨rfl, .inl rfl⟩, rfl, rfl⟩
  · have h := ite_t hb1 h
    refine a_gval rfl (v := (.int .i64 a0)) (u := []) rfl trivial rfl ?_
    refine a_gval rfl (v := (.int .i64 a2)) (u := []) rfl trivial rfl ?_
    refine a_gval rfl (v := (.bool ((decide (a0 ≤ a2))))) (u := []) rfl trivial rfl ?_
    refine a_val (v := (.bool ((decide (a0 ≤ a2))))) (u := []) rfl trivial rfl ?_
    refine a_val (v := (.bool ((decide (a0 ≤ a2))))) (u := []) rfl trivial rfl ?_
    refine a_nil ?_
    refine a_next rfl ?_
    refine a_ret ?_
    refine ⟨.inr rfl, ?_⟩
    rw [Try.results66]
    cases h
    exact ⟨_, _, _, _, _, rfl, trivial, .inl ⟨rfl, .inl rfl⟩, rfl, rfl⟩
def impl_prime_norm_c : ACode := (.seq (.region 0 [⟨some 6, .asg 0 (.const (.int .i64 0)) 2, none, []⟩] false) (.seq (.region 1 [⟨some 7, .asg 0 (.const (.int .i64 1)) 2, none, []⟩] false) (.seq (.seq (.region 2 [⟨some 8, .mov (.tmp 1), none, []⟩, ⟨some 9, .mov (.const (.int .i64 0)), none, []⟩] false) (.block 0 (.loop (.seq (.region 3 [⟨some 10, .bin .lss 2 (.tmp 9) (.tmp 8), none, []⟩] false) (.seq (.cond (.tmp 10) .skip (.exit 0)) (.seq (.block 1 (.seq (.seq (.region 4 [⟨some 11, .mov (.tmp 7), none, []⟩, ⟨some 12, .mov (.tmp 2), none, []⟩, ⟨some 13, .bin .gtr 2 (.tmp 11) (.tmp 12), none, []⟩] false) (.cond (.tmp 13) (.exit 0) .skip)) (.region 5 [⟨some 14, .mov (.tmp 7), none, []⟩, ⟨some 15, .mov (.tmp 0), none, []⟩, ⟨some 16, .bin .mul 2 (.tmp 14) (.tmp 15), none, []⟩, ⟨some 7, .asg 0 (.tmp 16) 2, none, []⟩] false))) (.region 6 [⟨some 17, .bin .add 2 (.tmp 9) (.const (.int .i64 1)), none, []⟩, ⟨some 9, .mov (.tmp 17), none, []⟩] false))))))) (.seq (.region 7 [⟨some 18, .mov (.tmp 7), none, []⟩, ⟨some 6, .asg 0 (.tmp 18) 2, none, []⟩] false) .ret))))
def impl_prime_norm_L : Live := [(0, [0, 1, 2]), (1, [0, 1, 2]), (2, [0, 1, 2, 7]), (3, [0, 2, 7, 8, 9]), (4, [0, 2, 7, 8, 9]), (5, [0, 2, 7, 8, 9]), (6, [0, 2, 7, 8, 9]), (7, [7]), (100010, [0, 2, 7, 8, 9, 10]), (100013, [0, 2, 7, 8, 9, 13])]
theorem impl_prime_norm_body : Try.f67.body = some (Try.f67.body.getD .skip) := by kernel_rfl
theorem impl_prime_norm_strip : strip [] (Try.f67.body.getD .skip) = impl_prime_norm_c := by kernel_rfl
noncomputable def impl_prime_norm_l1 (a1 : Int) (a2 : Int) (a0 : Int) (x19 : Int) (x20 : Int) : Option ((Int × Int) ⊕ Int) :=
  (if (decide (x20 < a1)) then (if (decide (x19 > a2)) then (some (.inr x19)) else (some (.inl ((IntKind.i64.wrap (x19 * a0), IntKind.i64.wrap (x20 + 1)))))) else (some (.inr x19)))
noncomputable def impl_prime_norm (a0 : Int) (a1 : Int) (a2 : Int) : Option Int :=
  (Option.bind (α := Int) ((loopM (fun s : (Int × Int) => impl_prime_norm_l1 a1 a2 a0 s.1 s.2) (1, 0))) fun x13 => (some x13))
set_option maxHeartbeats 16000000 in
theorem impl_prime_norm_ok (a0 : Int) (a1 : Int) (a2 : Int) (r : Int) (h : impl_prime_norm a0 a1 a2 = some r) : Den Try.prog 67 [(.int .i64 a0), (.int .i64 a1), (.int .i64 a2)] { r := (.int .i64 r) } := by
  refine den_of (rs := [(.int .i64 r)]) (ac := impl_prime_norm_c) (L := impl_prime_norm_L) (n := 19) (m := []) good Try.func67 impl_prime_norm_body (by kernel_rfl) Try.ntmps67 rfl rfl impl_prime_norm_strip rfl rfl ?_
  refine a_st (σ' := ⟨[(0, (.int .i64 a0)), (1, (.int .i64 a1)), (2, (.int .i64 a2))], []⟩) rfl ?_
  unfold impl_prime_norm_c
  refine a_seq ?_
  refine a_region ?_
  refine a_val (v := (.int .i64 0)) (u := []) rfl trivial rfl ?_
  refine a_nil ?_
  refine a_next (σ' := ⟨[(0, (.int .i64 a0)), (1, (.int .i64 a1)), (2, (.int .i64 a2))], []⟩) rfl ?_
  refine a_seq ?_
  refine a_region ?_
  refine a_val (v := (.int .i64 1)) (u := []) rfl trivial rfl ?_
  refine a_nil ?_
  refine a_next (σ' := ⟨[(0, (.int .i64 a0)), (1, (.int .i64 a1)), (2, (.int .i64 a2)), (7, (.int .i64 1))], []⟩) rfl ?_
  obtain ⟨y14, hy15, hk16⟩ := bind_some h
  clear h
  refine a_join (emb := fun (s : Int) => ⟨[(7, (.int .i64 s))], []⟩) (pre := fun s => s = y14) ?_ ?_
  · rintro x13 rfl
    have h := hk16
    refine a_st (σ' := ⟨[(7, (.int .i64 x13))], []⟩) rfl ?_
    refine a_seq ?_
    refine a_region ?_
    refine a_val (v := (.int .i64 x13)) (u := []) rfl trivial rfl ?_
    refine a_val (v := (.int .i64 x13)) (u := []) rfl trivial rfl ?_
    refine a_nil ?_
    refine a_next rfl ?_
    refine a_ret ?_
    refine ⟨.inr rfl, ?_⟩
    rw [Try.results67]
    cases h
    exact ⟨_, _, _, _, _, rfl, trivial, .inl ⟨rfl, .inl rfl⟩, rfl, rfl⟩
  · have h := hy15
    refine a_seq ?_
    refine a_region ?_
    refine a_val (v := (.int .i64 a1)) (u := []) rfl trivial rfl ?_
    refine a_val (v := (.int .i64 0)) (u := []) rfl trivial rfl ?_
    refine a_nil ?_
    refine a_next (σ' := ⟨[(0, (.int .i64 a0)), (2, (.int .i64 a2)), (7, (.int .i64 1)), (8, (.int .i64 a1)), (9, (.int .i64 0))], []⟩) rfl ?_
    refine a_block ?_
    refine a_loop (emb := fun (s : (Int × Int)) => ⟨[(0, (.int .i64 a0)), (2, (.int .i64 a2)), (7, (.int .i64 s.1)), (8, (.int .i64 a1)), (9, (.int .i64 s.2))], []⟩) (body := (fun s : (Int × Int) => impl_prime_norm_l1 a1 a2 a0 s.1 s.2)) (G := fun q => some q = some y14) h rfl ?_ rfl
    rintro X23 ⟨x19, x20⟩ x24 h hX25
    have h : impl_prime_norm_l1 a1 a2 a0 x19 x20 = some x24 := h
    refine a_st (σ' := ⟨[(0, (.int .i64 a0)), (2, (.int .i64 a2)), (7, (.int .i64 x19)), (8, (.int .i64 a1)), (9, (.int .i64 x20))], []⟩) rfl ?_
    refine a_seq ?_
    refine a_region ?_
    refine a_val (v := (.bool ((decide (x20 < a1))))) (u := []) rfl trivial rfl ?_
    refine a_nil ?_
    refine a_next (σ' := ⟨[(0, (.int .i64 a0)), (2, (.int .i64 a2)), (7, (.int .i64 x19)), (8, (.int .i64 a1)), (9, (.int .i64 x20)), (10, (.bool ((decide (x20 < a1)))))], []⟩) rfl ?_
    refine a_seq ?_
    cases hb26 : (decide (x20 < a1))
    · have h := ite_f hb26 h
      refine a_cond_f rfl ?_
      refine a_exit ?_
      refine t_exit ?_
      cases h
      have h := hX25
      refine t_exit ?_
      refine b_exit ?_
      exact j_leaf x19 (Option.some.inj h) rfl
    · have h := ite_t hb26 h
      refine a_cond_t rfl ?_
      refine a_skip ?_
      refine a_next (σ' := ⟨[(0, (.int .i64 a0)), (2, (.int .i64 a2)), (7, (.int .i64 x19)), (8, (.int .i64 a1)), (9, (.int .i64 x20))], []⟩) rfl ?_
      refine a_seq ?_
      refine a_block ?_
      refine a_seq ?_
      refine a_seq ?_
      refine a_region ?_
      refine a_val (v := (.int .i64 x19)) (u := []) rfl trivial rfl ?_
      refine a_val (v := (.int .i64 a2)) (u := []) rfl trivial rfl ?_
      refine a_val (v := (.bool ((decide (x19 > a2))))) (u := []) rfl trivial rfl ?_
      refine a_nil ?_
      refine a_next (σ' := ⟨[(0, (.int .i64 a0)), (2, (.int .i64 a2)), (7, (.int .i64 x19)), (8, (.int .i64 a1)), (9, (.int .i64 x20)), (13, (.bool ((decide (x19 > a2)))))], []⟩) rfl ?_
      cases hb27 : (decide (x19 > a2))
      · have h := ite_f hb27 h
        refine a_cond_f rfl ?_
        refine a_skip ?_
        refine a_next (σ' := ⟨[(0, (.int .i64 a0)), (2, (.int .i64 a2)), (7, (.int .i64 x19)), (8, (.int .i64 a1)), (9, (.int .i64 x20))], []⟩) rfl ?_
        refine a_region ?_
        refine a_val (v := (.int .i64 x19)) (u := []) rfl trivial rfl ?_
        refine a_val (v := (.int .i64 a0)) (u := []) rfl trivial rfl ?_
        refine a_val (v := (.int .i64 (IntKind.i64.wrap (x19 * a0)))) (u := []) rfl trivial rfl ?_
        refine a_val (v := (.int .i64 (IntKind.i64.wrap (x19 * a0)))) (u := []) rfl trivial rfl ?_
        refine a_nil ?_
        refine b_norm ?_
        refine a_next (σ' := ⟨[(0, (.int .i64 a0)), (2, (.int .i64 a2)), (7, (.int .i64 (IntKind.i64.wrap (x19 * a0)))), (8, (.int .i64 a1)), (9, (.int .i64 x20))], []⟩) rfl ?_
        refine a_region ?_
        refine a_val (v := (.int .i64 (IntKind.i64.wrap (x20 + 1)))) (u := []) rfl trivial rfl ?_
        refine a_val (v := (.int .i64 (IntKind.i64.wrap (x20 + 1)))) (u := []) rfl trivial rfl ?_
        refine a_nil ?_
        cases h
        exact a_again rfl hX25
      · have h := ite_t hb27 h
        refine a_cond_t rfl ?_
        refine a_exit ?_
        refine t_exit ?_
        refine b_other rfl ?_
        refine t_exit ?_
        cases h
        have h := hX25
        refine t_exit ?_
        refine b_exit ?_
        exact j_leaf x19 (Option.some.inj h) rfl
def impl_prime_numbered_c : ACode := (.seq (.region 0 [⟨some 4, .asg 1 (.const (.slice none 0 0)) 66, none, []⟩] false) (.seq (.region 1 [⟨some 5, .asg 2 (.const (.slice none 0 0)) 66, none, []⟩] false) (.seq (.block 0 (.loop (.seq (.seq (.region 2 [⟨some 6, .mov (.tmp 1), none, []⟩, ⟨some 7, .bin .gtr 2 (.tmp 6) (.const (.int .i64 0)), none, []⟩] false) (.cond (.tmp 7) .skip (.exit 0))) (.seq (.block 1 (.region 4 [⟨some 11, .mov (.tmp 5), none, []⟩, ⟨some 12, .mov (.tmp 1), none, []⟩, ⟨some 13, .mov (.tmp 0), none, []⟩, ⟨some 14, .bin .rem 2 (.tmp 12) (.tmp 13), none, []⟩, ⟨some 15, .bslice 0 66 1 [(0, (.tmp 14))], none, []⟩, ⟨some 16, .blt 0 .append [(.tmp 11), (.tmp 15)] [66, 66], none, []⟩, ⟨some 5, .asg 2 (.tmp 16) 66, none, []⟩] false)) (.region 3 [⟨some 8, .mov (.tmp 1), none, []⟩, ⟨some 9, .mov (.tmp 0), none, []⟩, ⟨some 10, .bin .quo 2 (.tmp 8) (.tmp 9), none, []⟩, ⟨some 1, .asg 0 (.tmp 10) 2, none, []⟩] false))))) (.seq (.region 5 [⟨some 17, .mov (.tmp 5), none, []⟩, ⟨some 4, .asg 1 (.tmp 17) 66, none, []⟩] false) .ret))))
def impl_prime_numbered_L : Live := [(0, [0, 1]), (1, [0, 1]), (2, [0, 1, 5]), (3, [0, 1, 5]), (4, [0, 1, 5]), (5, [5]), (100007, [0, 1, 5, 7])]
theorem impl_prime_numbered_body : Try.f55.body = some (Try.f55.body.getD .skip) := by kernel_rfl
theorem impl_prime_numbered_strip : strip [(4, 1), (5, 2)] (Try.f55.body.getD .skip) = impl_prime_numbered_c := by kernel_rfl
noncomputable def impl_prime_numbered_l1 (a0 : Int) (x27 : Int) (x28 : (List Int)) : Option ((Int × (List Int)) ⊕ (List Int)) :=
  (if (decide (x27 > 0)) then (ifp (a0 ≠ 0) ((ifp ((x28.length + ([Int.tmod x27 a0] : List Int).length) * 8 ≤ 140737488355328) ((ifp (a0 ≠ 0) ((some (.inl ((IntKind.i64.wrap (Int.tdiv x27 a0), (x28 ++ ([Int.tmod x27 a0])))))))))))) else (some (.inr x28)))
noncomputable def impl_prime_numbered (a0 : Int) (a1 : Int) : Option (List Int) :=
  (Option.bind (α := (List Int)) ((loopM (fun s : (Int × (List Int)) => impl_prime_numbered_l1 a0 s.1 s.2) (a1, []))) fun x19 => (some x19))
set_option maxHeartbeats 16000000 in
theorem impl_prime_numbered_ok (a0 : Int) (a1 : Int) (r : (List Int)) (h : impl_prime_numbered a0 a1 = some r) : Den Try.prog 55 [(.int .i64 a0), (.int .i64 a1)] { r := (eSi64 r) } := by
  refine den_of (rs := [(eSi64 r)]) (ac := impl_prime_numbered_c) (L := impl_prime_numbered_L) (n := 18) (m := [(4, 1), (5, 2)]) good Try.func55 impl_prime_numbered_body (by kernel_rfl) Try.ntmps55 rfl rfl impl_prime_numbered_strip rfl rfl ?_
  refine a_st (σ' := ⟨[(0, (.int .i64 a0)), (1, (.int .i64 a1))], []⟩) rfl ?_
  unfold impl_prime_numbered_c
  refine a_seq ?_
  refine a_region ?_
  refine a_val (v := (eSi64 ([]))) (u := []) rfl trivial rfl ?_
  refine a_nil ?_
  refine a_next (σ' := ⟨[(0, (.int .i64 a0)), (1, (.int .i64 a1))], []⟩) rfl ?_
  refine a_seq ?_
  refine a_region ?_
  refine a_val (v := (.osl 1500)) (u := [(1500, some ⟨(.row 1 (([]).map (AV.int .i64))), false⟩)]) rfl trivial rfl ?_
  refine a_nil ?_
  refine a_next (σ' := ⟨[(0, (.int .i64 a0)), (1, (.int .i64 a1)), (5, (.osl 5))], [(5, some ⟨(.row 1 (([]).map (AV.int .i64))), false⟩)]⟩) rfl ?_
  obtain ⟨y20, hy21, hk22⟩ := bind_some h
  clear h
  refine a_join (emb := fun (s : (List Int)) => ⟨[(5, (.osl 5))], [(5, some ⟨(.row 1 (s.map (AV.int .i64))), false⟩)]⟩) (pre := fun s => s = y20) ?_ ?_
  · rintro x19 rfl
    have h := hk22
    refine a_st (σ' := ⟨[(5, (.osl 5))], [(5, some ⟨(.row 1 (x19.map (AV.int .i64))), false⟩)]⟩) rfl ?_
    refine a_seq ?_
    refine a_region ?_
    refine a_val (v := (.osl 5)) (u := []) rfl trivial rfl ?_
    refine a_val (v := (eSi64 x19)) (u := [(5, some ⟨(.row 1 (x19.map (AV.int .i64))), true⟩)]) rfl trivial rfl ?_
    refine a_nil ?_
    refine a_next rfl ?_
    refine a_ret ?_
    refine ⟨.inr rfl, ?_⟩
    rw [Try.results55]
    cases h
    exact ⟨_, _, _, _, _, rfl, trivial, .inl ⟨rfl, .inl rfl⟩, rfl, rfl⟩
  · have h := hy21
    refine a_block ?_
    refine a_loop (emb := fun (s : (Int × (List Int))) => ⟨[(0, (.int .i64 a0)), (1, (.int .i64 s.1)), (5, (.osl 5))], [(5, some ⟨(.row 1 (s.2.map (AV.int .i64))), false⟩)]⟩) (body := (fun s : (Int × (List Int)) => impl_prime_numbered_l1 a0 s.1 s.2)) (G := fun q => some q = some y20) h rfl ?_ rfl
    rintro X33 ⟨x27, x28⟩ x34 h hX35
    have h : impl_prime_numbered_l1 a0 x27 x28 = some x34 := h
    refine a_st (σ' := ⟨[(0, (.int .i64 a0)), (1, (.int .i64 x27)), (5, (.osl 5))], [(5, some ⟨(.row 1 (x28.map (AV.int .i64))), false⟩)]⟩) rfl ?_
    refine a_seq ?_
    refine a_seq ?_
    refine a_region ?_
    refine a_val (v := (.int .i64 x27)) (u := []) rfl trivial rfl ?_
    refine a_val (v := (.bool ((decide (x27 > 0))))) (u := []) rfl trivial rfl ?_
    refine a_nil ?_
    refine a_next (σ' := ⟨[(0, (.int .i64 a0)), (1, (.int .i64 x27)), (5, (.osl 5)), (7, (.bool ((decide (x27 > 0)))))], [(5, some ⟨(.row 1 (x28.map (AV.int .i64))), false⟩)]⟩) rfl ?_
    cases hb36 : (decide (x27 > 0))
    · have h := ite_f hb36 h
      refine a_cond_f rfl ?_
      refine a_exit ?_
      refine t_exit ?_
      cases h
      have h := hX35
      refine t_exit ?_
      refine b_exit ?_
      exact j_leaf x28 (Option.some.inj h) rfl
    · have h := ite_t hb36 h
      refine a_cond_t rfl ?_
      refine a_skip ?_
      refine a_next (σ' := ⟨[(0, (.int .i64 a0)), (1, (.int .i64 x27)), (5, (.osl 5))], [(5, some ⟨(.row 1 (x28.map (AV.int .i64))), false⟩)]⟩) rfl ?_
      refine a_seq ?_
      refine a_block ?_
      refine a_region ?_
      refine a_val (v := (.osl 5)) (u := []) rfl trivial rfl ?_
      refine a_val (v := (.int .i64 x27)) (u := []) rfl trivial rfl ?_
      refine a_val (v := (.int .i64 a0)) (u := []) rfl trivial rfl ?_
      obtain ⟨hc37, h⟩ := ifp_some h
      refine a_val (v := (.int .i64 (Int.tmod x27 a0))) (u := []) rfl hc37 rfl ?_
      refine a_val (v := (.sl 1 true (([Int.tmod x27 a0]).map (AV.int .i64)))) (u := []) rfl ⟨(Nat.le_of_ble_eq_true rfl), (Nat.le_of_ble_eq_true rfl), (all_cons ⟨(Nat.le_of_ble_eq_true rfl), rfl⟩ all_nil)⟩ rfl ?_
      obtain ⟨hc38, h⟩ := ifp_some h
      refine a_val (v := (.osl 2600)) (u := [(2600, some ⟨(.row 1 (((x28 ++ ([Int.tmod x27 a0]))).map (AV.int .i64))), false⟩), (5, none)]) (app_run (i := ⟨.int .i64, 1, 8, (.int .i64 0)⟩) (f := (AV.int .i64)) (l := x28) (l2 := [Int.tmod x27 a0]) rfl rfl rfl rfl (fun _ => rfl) rfl rfl) (app_c (f := (AV.int .i64)) (s := 1) (sz := 1) (by' := 8) (u := []) (id := 5) hc38 (.inr rfl) rfl rfl rfl) rfl ?_
      refine a_val (v := (.osl 2600)) (u := []) rfl trivial rfl ?_
      refine a_nil ?_
      refine b_norm ?_
      refine a_next (σ' := ⟨[(0, (.int .i64 a0)), (1, (.int .i64 x27)), (5, (.osl 5))], [(5, some ⟨(.row 1 (((x28 ++ ([Int.tmod x27 a0]))).map (AV.int .i64))), false⟩)]⟩) rfl ?_
      refine a_region ?_
      refine a_val (v := (.int .i64 x27)) (u := []) rfl trivial rfl ?_
      refine a_val (v := (.int .i64 a0)) (u := []) rfl trivial rfl ?_
      obtain ⟨hc39, h⟩ := ifp_some h
      refine a_val (v := (.int .i64 (IntKind.i64.wrap (Int.tdiv x27 a0)))) (u := []) rfl hc39 rfl ?_
      refine a_val (v := (.int .i64 (IntKind.i64.wrap (Int.tdiv x27 a0)))) (u := []) rfl trivial rfl ?_
      refine a_nil ?_
      cases h
      exact a_again rfl hX35
def impl_prime_monics_c : ACode := (.seq (.region 0 [⟨some 4, .asg 1 (.const (.slice none 0 0)) 79, none, []⟩] false) (.seq (.region 1 [⟨some 8, .mov (.tmp 0), none, []⟩, ⟨some 9, .mov (.tmp 1), none, []⟩, ⟨some 10, .call 0 (.func 67) [(.tmp 8), (.tmp 9), (.const (.int .i64 343))], none, []⟩, ⟨some 5, .asg 0 (.tmp 10) 2, none, []⟩] false) (.seq (.region 2 [⟨some 6, .asg 2 (.const (.slice none 0 0)) 79, none, []⟩] false) (.seq (.seq (.region 3 [⟨some 11, .mov (.tmp 5), none, []⟩, ⟨some 12, .mov (.const (.int .i64 0)), none, []⟩] false) (.block 0 (.loop (.seq (.region 4 [⟨some 13, .bin .lss 2 (.tmp 12) (.tmp 11), none, []⟩] false) (.seq (.cond (.tmp 13) .skip (.exit 0)) (.seq (.block 1 (.seq (.region 5 [⟨some 14, .mov (.tmp 12), none, []⟩, ⟨some 7, .asg 0 (.tmp 14) 2, none, []⟩] false) (.region 6 [⟨some 15, .mov (.tmp 6), none, []⟩, ⟨some 16, .mov (.tmp 0), none, []⟩, ⟨some 17, .mov (.tmp 5), none, []⟩, ⟨some 18, .mov (.tmp 7), none, []⟩, ⟨some 19, .bin .add 2 (.tmp 17) (.tmp 18), none, []⟩, ⟨some 20, .call 0 (.func 55) [(.tmp 16), (.tmp 19)], none, []⟩, ⟨some 21, .bslice 0 79 1 [(0, (.tmp 20))], none, []⟩, ⟨some 22, .blt 0 .append [(.tmp 15), (.tmp 21)] [79, 79], none, []⟩, ⟨some 6, .asg 2 (.tmp 22) 79, none, []⟩] false))) (.region 7 [⟨some 23, .bin .add 2 (.tmp 12) (.const (.int .i64 1)), none, []⟩, ⟨some 12, .mov (.tmp 23), none, []⟩] false))))))) (.seq (.region 8 [⟨some 24, .mov (.tmp 6), none, []⟩, ⟨some 4, .asg 1 (.tmp 24) 79, none, []⟩] false) .ret)))))
def impl_prime_monics_L : Live := [(0, [0, 1]), (1, [0, 1]), (2, [0, 5]), (3, [0, 5, 6]), (4, [0, 5, 6, 11, 12]), (5, [0, 5, 6, 11, 12]), (6, [0, 5, 6, 7, 11, 12]), (7, [0, 5, 6, 11, 12]), (8, [6]), (100013, [0, 5, 6, 11, 12, 13])]
theorem impl_prime_monics_body : Try.f69.body = some (Try.f69.body.getD .skip) := by kernel_rfl
theorem impl_prime_monics_strip : strip [(4, 1), (6, 2)] (Try.f69.body.getD .skip) = impl_prime_monics_c := by kernel_rfl
noncomputable def impl_prime_monics_l1 (r1 : Int) (a0 : Int) (x29 : Int) (x30 : (List (List Int))) : Option ((Int × (List (List Int))) ⊕ (List (List Int))) :=
  (if (decide (x29 < r1)) then (Option.bind (impl_prime_numbered a0 (IntKind.i64.wrap (r1 + x29))) fun r39 => (ifp ((x30.length + ([r39] : List (List Int)).length) * 24 ≤ 140737488355328) ((some (.inl ((IntKind.i64.wrap (x29 + 1), (x30 ++ ([r39]))))))))) else (some (.inr x30)))
noncomputable def impl_prime_monics (a0 : Int) (a1 : Int) : Option (List (List Int)) :=
  (Option.bind (impl_prime_norm a0 a1 343) fun r1 => (Option.bind (α := (List (List Int))) ((loopM (fun s : (Int × (List (List Int))) => impl_prime_monics_l1 r1 a0 s.1 s.2) (0, []))) fun x21 => (some x21)))
set_option maxHeartbeats 16000000 in
theorem impl_prime_monics_ok (a0 : Int) (a1 : Int) (r : (List (List Int))) (h : impl_prime_monics a0 a1 = some r) : Den Try.prog 69 [(.int .i64 a0), (.int .i64 a1)] { r := (eSSi64 r) } := by
  refine den_of (rs := [(eSSi64 r)]) (ac := impl_prime_monics_c) (L := impl_prime_monics_L) (n := 25) (m := [(4, 1), (6, 2)]) good Try.func69 impl_prime_monics_body (by kernel_rfl) Try.ntmps69 rfl rfl impl_prime_monics_strip rfl rfl ?_
  refine a_st (σ' := ⟨[(0, (.int .i64 a0)), (1, (.int .i64 a1))], []⟩) rfl ?_
  unfold impl_prime_monics_c
  refine a_seq ?_
  refine a_region ?_
  refine a_val (v := (eSSi64 ([]))) (u := []) rfl trivial rfl ?_
  refine a_nil ?_
  refine a_next (σ' := ⟨[(0, (.int .i64 a0)), (1, (.int .i64 a1))], []⟩) rfl ?_
  refine a_seq ?_
  refine a_region ?_
  refine a_val (v := (.int .i64 a0)) (u := []) rfl trivial rfl ?_
  refine a_val (v := (.int .i64 a1)) (u := []) rfl trivial rfl ?_
  obtain ⟨r1, hr2, h⟩ := bind_some h
  refine a_call (args := [(.int .i64 a0), (.int .i64 a1), (.int .i64 343)]) (u := []) (r := (.int .i64 r1)) rfl rfl (impl_prime_norm_ok a0 a1 343 r1 hr2) rfl ?_
  refine a_val (v := (.int .i64 r1)) (u := []) rfl trivial rfl ?_
  refine a_nil ?_
  refine a_next (σ' := ⟨[(0, (.int .i64 a0)), (5, (.int .i64 r1))], []⟩) rfl ?_
  refine a_seq ?_
  refine a_region ?_
  refine a_val (v := (.osl 1600)) (u := [(1600, some ⟨(.row 1 (([]).map eSi64)), false⟩)]) rfl trivial rfl ?_
  refine a_nil ?_
  refine a_next (σ' := ⟨[(0, (.int .i64 a0)), (5, (.int .i64 r1)), (6, (.osl 6))], [(6, some ⟨(.row 1 (([]).map eSi64)), false⟩)]⟩) rfl ?_
  obtain ⟨y22, hy23, hk24⟩ := bind_some h
  clear h
  refine a_join (emb := fun (s : (List (List Int))) => ⟨[(6, (.osl 6))], [(6, some ⟨(.row 1 (s.map eSi64)), false⟩)]⟩) (pre := fun s => s = y22) ?_ ?_
  · rintro x21 rfl
    have h := hk24
    refine a_st (σ' := ⟨[(6, (.osl 6))], [(6, some ⟨(.row 1 (x21.map eSi64)), false⟩)]⟩) rfl ?_
    refine a_seq ?_
    refine a_region ?_
    refine a_val (v := (.osl 6)) (u := []) rfl trivial rfl ?_
    refine a_val (v := (eSSi64 x21)) (u := [(6, some ⟨(.row 1 (x21.map eSi64)), true⟩)]) rfl trivial rfl ?_
    refine a_nil ?_
    refine a_next rfl ?_
    refine a_ret ?_
    refine ⟨.inr rfl, ?_⟩
    rw [Try.results69]
    cases h
    exact ⟨_, _, _, _, _, rfl, trivial, .inl ⟨rfl, .inl rfl⟩, rfl, rfl⟩
  · have h := hy23
    refine a_seq ?_
    refine a_region ?_
    refine a_val (v := (.int .i64 r1)) (u := []) rfl trivial rfl ?_
    refine a_val (v := (.int .i64 0)) (u := []) rfl trivial rfl ?_
    refine a_nil ?_
    refine a_next (σ' := ⟨[(0, (.int .i64 a0)), (5, (.int .i64 r1)), (6, (.osl 6)), (11, (.int .i64 r1)), (12, (.int .i64 0))], [(6, some ⟨(.row 1 (([]).map eSi64)), false⟩)]⟩) rfl ?_
    refine a_block ?_
    refine a_loop (emb := fun (s : (Int × (List (List Int)))) => ⟨[(0, (.int .i64 a0)), (5, (.int .i64 r1)), (6, (.osl 6)), (11, (.int .i64 r1)), (12, (.int .i64 s.1))], [(6, some ⟨(.row 1 (s.2.map eSi64)), false⟩)]⟩) (body := (fun s : (Int × (List (List Int))) => impl_prime_monics_l1 r1 a0 s.1 s.2)) (G := fun q => some q = some y22) h rfl ?_ rfl
    rintro X35 ⟨x29, x30⟩ x36 h hX37
    have h : impl_prime_monics_l1 r1 a0 x29 x30 = some x36 := h
    refine a_st (σ' := ⟨[(0, (.int .i64 a0)), (5, (.int .i64 r1)), (6, (.osl 6)), (11, (.int .i64 r1)), (12, (.int .i64 x29))], [(6, some ⟨(.row 1 (x30.map eSi64)), false⟩)]⟩) rfl ?_
    refine a_seq ?_
    refine a_region ?_
    refine a_val (v := (.bool ((decide (x29 < r1))))) (u := []) rfl trivial rfl ?_
    refine a_nil ?_
    refine a_next (σ' := ⟨[(0, (.int .i64 a0)), (5, (.int .i64 r1)), (6, (.osl 6)), (11, (.int .i64 r1)), (12, (.int .i64 x29)), (13, (.bool ((decide (x29 < r1)))))], [(6, some ⟨(.row 1 (x30.map eSi64)), false⟩)]⟩) rfl ?_
    refine a_seq ?_
    cases hb38 : (decide (x29 < r1))
    · have h := ite_f hb38 h
      refine a_cond_f rfl ?_
      refine a_exit ?_
      refine t_exit ?_
      cases h
      have h := hX37
      refine t_exit ?_
      refine b_exit ?_
      exact j_leaf x30 (Option.some.inj h) rfl
    · have h := ite_t hb38 h
      refine a_cond_t rfl ?_
      refine a_skip ?_
      refine a_next (σ' := ⟨[(0, (.int .i64 a0)), (5, (.int .i64 r1)), (6, (.osl 6)), (11, (.int .i64 r1)), (12, (.int .i64 x29))], [(6, some ⟨(.row 1 (x30.map eSi64)), false⟩)]⟩) rfl ?_
      refine a_seq ?_
      refine a_block ?_
      refine a_seq ?_
      refine a_region ?_
      refine a_val (v := (.int .i64 x29)) (u := []) rfl trivial rfl ?_
      refine a_val (v := (.int .i64 x29)) (u := []) rfl trivial rfl ?_
      refine a_nil ?_
      refine a_next (σ' := ⟨[(0, (.int .i64 a0)), (5, (.int .i64 r1)), (6, (.osl 6)), (7, (.int .i64 x29)), (11, (.int .i64 r1)), (12, (.int .i64 x29))], [(6, some ⟨(.row 1 (x30.map eSi64)), false⟩)]⟩) rfl ?_
      refine a_region ?_
      refine a_val (v := (.osl 6)) (u := []) rfl trivial rfl ?_
      refine a_val (v := (.int .i64 a0)) (u := []) rfl trivial rfl ?_
      refine a_val (v := (.int .i64 r1)) (u := []) rfl trivial rfl ?_
      refine a_val (v := (.int .i64 x29)) (u := []) rfl trivial rfl ?_
      refine a_val (v := (.int .i64 (IntKind.i64.wrap (r1 + x29)))) (u := []) rfl trivial rfl ?_
      obtain ⟨r39, hr40, h⟩ := bind_some h
      refine a_call (args := [(.int .i64 a0), (.int .i64 (IntKind.i64.wrap (r1 + x29)))]) (u := []) (r := (eSi64 r39)) rfl rfl (impl_prime_numbered_ok a0 (IntKind.i64.wrap (r1 + x29)) r39 hr40) rfl ?_
      refine a_val (v := (.sl 1 true (([r39]).map eSi64))) (u := []) rfl ⟨(Nat.le_of_ble_eq_true rfl), (Nat.le_of_ble_eq_true rfl), (all_cons ⟨(Nat.le_of_ble_eq_true rfl), rfl⟩ all_nil)⟩ rfl ?_
      obtain ⟨hc41, h⟩ := ifp_some h
      refine a_val (v := (.osl 3200)) (u := [(3200, some ⟨(.row 1 (((x30 ++ ([r39]))).map eSi64)), false⟩), (6, none)]) (app_run (i := ⟨.slice 2, 1, 24, (eSi64 [])⟩) (f := eSi64) (l := x30) (l2 := [r39]) rfl rfl rfl rfl (fun _ => rfl) rfl rfl) (app_c (f := eSi64) (s := 1) (sz := 1) (by' := 24) (u := []) (id := 6) hc41 (.inr rfl) rfl rfl rfl) rfl ?_
      refine a_val (v := (.osl 3200)) (u := []) rfl trivial rfl ?_
      refine a_nil ?_
      refine b_norm ?_
      refine a_next (σ' := ⟨[(0, (.int .i64 a0)), (5, (.int .i64 r1)), (6, (.osl 6)), (11, (.int .i64 r1)), (12, (.int .i64 x29))], [(6, some ⟨(.row 1 (((x30 ++ ([r39]))).map eSi64)), false⟩)]⟩) rfl ?_
      refine a_region ?_
      refine a_val (v := (.int .i64 (IntKind.i64.wrap (x29 + 1)))) (u := []) rfl trivial rfl ?_
      refine a_val (v := (.int .i64 (IntKind.i64.wrap (x29 + 1)))) (u := []) rfl trivial rfl ?_
      refine a_nil ?_
      cases h
      exact a_again rfl hX37
def impl_row_poly_c : ACode := (.seq (.region 0 [⟨some 2, .alloc 23, none, []⟩] false) (.seq (.region 1 [⟨some 3, .alloc 23, none, []⟩] false) (.seq (.seq (.region 2 [⟨some 6, .mov (.tmp 0), none, []⟩, ⟨some 7, .blt 0 .len [(.tmp 6)] [66], none, []⟩, ⟨some 8, .mov (.const (.int .i64 0)), none, []⟩] false) (.block 0 (.loop (.seq (.region 3 [⟨some 9, .bin .lss 3 (.tmp 8) (.tmp 7), none, []⟩] false) (.seq (.cond (.tmp 9) .skip (.exit 0)) (.seq (.block 1 (.seq (.region 4 [⟨some 10, .mov (.tmp 8), none, []⟩, ⟨some 11, .indexAddr 66 (.tmp 6) (.tmp 8), none, []⟩, ⟨some 12, .load 2 (.tmp 11), none, []⟩, ⟨some 4, .asg 0 (.tmp 10) 3, none, []⟩, ⟨some 5, .asg 0 (.tmp 12) 2, none, []⟩] false) (.region 5 [⟨some 13, .mov (.tmp 4), none, []⟩, ⟨some 14, .mov (.tmp 5), none, []⟩, ⟨some 15, .conv 2 5 (.tmp 14), none, []⟩, ⟨some 16, .indexAddr 23 (.tmp 3) (.tmp 13), none, []⟩, ⟨none, .store 5 (.tmp 16) (.tmp 15), none, []⟩] false))) (.region 6 [⟨some 17, .bin .add 3 (.tmp 8) (.const (.int .i64 1)), none, []⟩, ⟨some 8, .mov (.tmp 17), none, []⟩] false))))))) (.seq (.region 7 [⟨some 18, .load 23 (.tmp 3), none, []⟩, ⟨none, .store 23 (.tmp 2) (.tmp 18), none, []⟩] false) .ret))))
def impl_row_poly_L : Live := [(0, [0]), (1, [0, 2]), (2, [0, 2, 3]), (3, [2, 3, 6, 7, 8]), (4, [2, 3, 6, 7, 8]), (5, [2, 3, 4, 5, 6, 7, 8]), (6, [2, 3, 6, 7, 8]), (7, [2, 3]), (100009, [2, 3, 6, 7, 8, 9])]
theorem impl_row_poly_body : Try.f51.body = some (Try.f51.body.getD .skip) := by kernel_rfl
theorem impl_row_poly_strip : strip [] (Try.f51.body.getD .skip) = impl_row_poly_c := by kernel_rfl
noncomputable def impl_row_poly_l1 (a0 : (List Int)) (x31 : Int) (x32 : (Vec Int 64)) : Option ((Int × (Vec Int 64)) ⊕ (Vec Int 64)) :=
  (if (decide (x31 < (a0.length : Int))) then (ifp (0 ≤ x31 ∧ x31 < ((a0.length : Nat) : Int)) ((ifp (0 ≤ x31 ∧ x31 < ((64 : Nat) : Int)) ((some (.inl ((IntKind.i64.wrap (x31 + 1), (vset x32 x31.toNat (IntKind.u8.wrap (rd a0 x31.toNat))))))))))) else (some (.inr x32)))
noncomputable def impl_row_poly (a0 : (List Int)) : Option (Vec Int 64) :=
  (Option.bind (α := (Vec Int 64)) ((loopM (fun s : (Int × (Vec Int 64)) => impl_row_poly_l1 a0 s.1 s.2) (0, (vrep 64 (0 : Int))))) fun x22 => (some x22))
set_option maxHeartbeats 16000000 in
theorem impl_row_poly_ok (a0 : (List Int)) (r : (Vec Int 64)) (h : impl_row_poly a0 = some r) : Den Try.prog 51 [(eSi64 a0)] { r := (eA64u8 r) } := by
  refine den_of (rs := [(eA64u8 r)]) (ac := impl_row_poly_c) (L := impl_row_poly_L) (n := 19) (m := []) good Try.func51 impl_row_poly_body (by kernel_rfl) Try.ntmps51 rfl rfl impl_row_poly_strip rfl rfl ?_
  refine a_st (σ' := ⟨[(0, (eSi64 a0))], []⟩) rfl ?_
  unfold impl_row_poly_c
  refine a_seq ?_
  refine a_region ?_
  refine a_val (v := (.own 1200 [] [])) (u := [(1200, some ⟨(eA64u8 ((vrep 64 (0 : Int)))), false⟩)]) rfl trivial rfl ?_
  refine a_nil ?_
  refine a_next (σ' := ⟨[(0, (eSi64 a0)), (2, (.own 2 [] []))], [(2, some ⟨(eA64u8 ((vrep 64 (0 : Int)))), false⟩)]⟩) rfl ?_
  refine a_seq ?_
  refine a_region ?_
  refine a_val (v := (.own 1300 [] [])) (u := [(1300, some ⟨(eA64u8 ((vrep 64 (0 : Int)))), false⟩)]) rfl trivial rfl ?_
  refine a_nil ?_
  refine a_next (σ' := ⟨[(0, (eSi64 a0)), (2, (.own 2 [] [])), (3, (.own 3 [] []))], [(2, some ⟨(eA64u8 ((vrep 64 (0 : Int)))), false⟩), (3, some ⟨(eA64u8 ((vrep 64 (0 : Int)))), false⟩)]⟩) rfl ?_
  obtain ⟨y23, hy24, hk25⟩ := bind_some h
  clear h
  refine a_join (emb := fun (s : (Vec Int 64)) => ⟨[(2, (.own 2 [] [])), (3, (.own 3 [] []))], [(2, some ⟨(eA64u8 ((vrep 64 (0 : Int)))), false⟩), (3, some ⟨(eA64u8 s), false⟩)]⟩) (pre := fun s => s = y23) ?_ ?_
  · rintro x22 rfl
    have h := hk25
    refine a_st (σ' := ⟨[(2, (.own 2 [] [])), (3, (.own 3 [] []))], [(2, some ⟨(eA64u8 ((vrep 64 (0 : Int)))), false⟩), (3, some ⟨(eA64u8 x22), false⟩)]⟩) rfl ?_
    refine a_seq ?_
    refine a_region ?_
    have hl47 : LdOk [] (eA64u8 x22) [] 64 true (eA64u8 x22) := (.nil rfl rfl rfl)
    refine a_val (v := (eA64u8 x22)) (u := []) (ld_own (i := ⟨.arr 64 5, 64, 64, (eA64u8 (vrep 64 (0 : Int)))⟩) rfl rfl rfl hl47) hl47.c rfl ?_
    have hs48 : StOk [] (eA64u8 ((vrep 64 (0 : Int)))) [] 64 (eA64u8 x22) (eA64u8 x22) := (.nil rfl rfl rfl rfl)
    refine a_val (v := .top) (u := [(2, some ⟨(eA64u8 x22), false⟩)]) (st_own (i := ⟨.arr 64 5, 64, 64, (eA64u8 (vrep 64 (0 : Int)))⟩) rfl rfl (fun _ => rfl) rfl hs48) (hs48.c rfl) rfl ?_
    refine a_nil ?_
    refine a_next rfl ?_
    refine a_ret ?_
    have hl49 : LdOk [] (eA64u8 x22) [] 64 true (eA64u8 x22) := (.nil rfl rfl rfl)
    refine ⟨.inr rfl, ?_⟩
    rw [Try.results51]
    cases h
    exact ⟨_, _, _, _, _, ld_own (i := ⟨.arr 64 5, 64, 64, (eA64u8 (vrep 64 (0 : Int)))⟩) rfl rfl rfl hl49, hl49.c, .inl ⟨rfl, .inl rfl⟩, rfl, rfl⟩
  · have h := hy24
    refine a_seq ?_
    refine a_region ?_
    refine a_val (v := (eSi64 a0)) (u := []) rfl trivial rfl ?_
    refine a_val (v := (.int .i64 (a0.length : Int))) (u := []) (len_run rfl rfl) trivial rfl ?_
    refine a_val (v := (.int .i64 0)) (u := []) rfl trivial rfl ?_
    refine a_nil ?_
    refine a_next (σ' := ⟨[(2, (.own 2 [] [])), (3, (.own 3 [] [])), (6, (eSi64 a0)), (7, (.int .i64 (a0.length : Int))), (8, (.int .i64 0))], [(2, some ⟨(eA64u8 ((vrep 64 (0 : Int)))), false⟩), (3, some ⟨(eA64u8 ((vrep 64 (0 : Int)))), false⟩)]⟩) rfl ?_
    refine a_block ?_
    refine a_loop (emb := fun (s : (Int × (Vec Int 64))) => ⟨[(2, (.own 2 [] [])), (3, (.own 3 [] [])), (6, (eSi64 a0)), (7, (.int .i64 (a0.length : Int))), (8, (.int .i64 s.1))], [(2, some ⟨(eA64u8 ((vrep 64 (0 : Int)))), false⟩), (3, some ⟨(eA64u8 s.2), false⟩)]⟩) (body := (fun s : (Int × (Vec Int 64)) => impl_row_poly_l1 a0 s.1 s.2)) (G := fun q => some q = some y23) h rfl ?_ rfl
    rintro X38 ⟨x31, x32⟩ x39 h hX40
    have h : impl_row_poly_l1 a0 x31 x32 = some x39 := h
    refine a_st (σ' := ⟨[(2, (.own 2 [] [])), (3, (.own 3 [] [])), (6, (eSi64 a0)), (7, (.int .i64 (a0.length : Int))), (8, (.int .i64 x31))], [(2, some ⟨(eA64u8 ((vrep 64 (0 : Int)))), false⟩), (3, some ⟨(eA64u8 x32), false⟩)]⟩) rfl ?_
    refine a_seq ?_
    refine a_region ?_
    refine a_val (v := (.bool ((decide (x31 < (a0.length : Int)))))) (u := []) rfl trivial rfl ?_
    refine a_nil ?_
    refine a_next (σ' := ⟨[(2, (.own 2 [] [])), (3, (.own 3 [] [])), (6, (eSi64 a0)), (7, (.int .i64 (a0.length : Int))), (8, (.int .i64 x31)), (9, (.bool ((decide (x31 < (a0.length : Int))))))], [(2, some ⟨(eA64u8 ((vrep 64 (0 : Int)))), false⟩), (3, some ⟨(eA64u8 x32), false⟩)]⟩) rfl ?_
    refine a_seq ?_
    cases hb41 : (decide (x31 < (a0.length : Int)))
    · have h := ite_f hb41 h
      refine a_cond_f rfl ?_
      refine a_exit ?_
      refine t_exit ?_
      cases h
      have h := hX40
      refine t_exit ?_
      refine b_exit ?_
      exact j_leaf x32 (Option.some.inj h) rfl
    · have h := ite_t hb41 h
      refine a_cond_t rfl ?_
      refine a_skip ?_
      refine a_next (σ' := ⟨[(2, (.own 2 [] [])), (3, (.own 3 [] [])), (6, (eSi64 a0)), (7, (.int .i64 (a0.length : Int))), (8, (.int .i64 x31))], [(2, some ⟨(eA64u8 ((vrep 64 (0 : Int)))), false⟩), (3, some ⟨(eA64u8 x32), false⟩)]⟩) rfl ?_
      refine a_seq ?_
      refine a_block ?_
      refine a_seq ?_
      refine a_region ?_
      refine a_val (v := (.int .i64 x31)) (u := []) rfl trivial rfl ?_
      obtain ⟨hc42, h⟩ := ifp_some h
      refine a_val (v := (.ref (.row 1 (a0.map (AV.int .i64))) [x31.toNat] [x31.toNat * 1])) (u := []) rfl (lmap hc42) rfl ?_
      have hl43 : LdOk [x31.toNat] (.row 1 (a0.map (AV.int .i64))) [x31.toNat * 1] 1 false (.int .i64 (rd a0 x31.toNat)) := (.row (llt hc42) rfl (.nil rfl rfl rfl))
      refine a_val (v := (.int .i64 (rd a0 x31.toNat))) (u := []) (ld_ref (i := ⟨.int .i64, 1, 8, (.int .i64 0)⟩) rfl rfl hl43) hl43.c rfl ?_
      refine a_val (v := (.int .i64 x31)) (u := []) rfl trivial rfl ?_
      refine a_val (v := (.int .i64 (rd a0 x31.toNat))) (u := []) rfl trivial rfl ?_
      refine a_nil ?_
      refine a_next (σ' := ⟨[(2, (.own 2 [] [])), (3, (.own 3 [] [])), (4, (.int .i64 x31)), (5, (.int .i64 (rd a0 x31.toNat))), (6, (eSi64 a0)), (7, (.int .i64 (a0.length : Int))), (8, (.int .i64 x31))], [(2, some ⟨(eA64u8 ((vrep 64 (0 : Int)))), false⟩), (3, some ⟨(eA64u8 x32), false⟩)]⟩) rfl ?_
      refine a_region ?_
      refine a_val (v := (.int .i64 x31)) (u := []) rfl trivial rfl ?_
      refine a_val (v := (.int .i64 (rd a0 x31.toNat))) (u := []) rfl trivial rfl ?_
      refine a_val (v := (.int .u8 (IntKind.u8.wrap (rd a0 x31.toNat)))) (u := []) rfl trivial rfl ?_
      obtain ⟨hc44, h⟩ := ifp_some h
      refine a_val (v := (.own 3 [x31.toNat] [x31.toNat * 1])) (u := []) rfl hc44 rfl ?_
      have hs45 : StOk [x31.toNat] (eA64u8 x32) [x31.toNat * 1] 1 (.int .u8 (IntKind.u8.wrap (rd a0 x31.toNat))) (eA64u8 ((vset x32 x31.toNat (IntKind.u8.wrap (rd a0 x31.toNat))))) := (.arr (y := IntKind.u8.wrap (rd a0 x31.toNat)) (vlt x32 hc44) rfl (.nil rfl rfl rfl rfl))
      refine a_val (v := .top) (u := [(3, some ⟨(eA64u8 ((vset x32 x31.toNat (IntKind.u8.wrap (rd a0 x31.toNat))))), false⟩)]) (st_own (i := ⟨.int .u8, 1, 1, (.int .u8 0)⟩) rfl rfl (fun _ => rfl) rfl hs45) (hs45.c rfl) rfl ?_
      refine a_nil ?_
      refine b_norm ?_
      refine a_next (σ' := ⟨[(2, (.own 2 [] [])), (3, (.own 3 [] [])), (6, (eSi64 a0)), (7, (.int .i64 (a0.length : Int))), (8, (.int .i64 x31))], [(2, some ⟨(eA64u8 ((vrep 64 (0 : Int)))), false⟩), (3, some ⟨(eA64u8 ((vset x32 x31.toNat (IntKind.u8.wrap (rd a0 x31.toNat))))), false⟩)]⟩) rfl ?_
      refine a_region ?_
      refine a_val (v := (.int .i64 (IntKind.i64.wrap (x31 + 1)))) (u := []) rfl trivial rfl ?_
      refine a_val (v := (.int .i64 (IntKind.i64.wrap (x31 + 1)))) (u := []) rfl trivial rfl ?_
      refine a_nil ?_
      cases h
      exact a_again rfl hX40
def impl_polys_fresh_c : ACode := (.seq (.region 0 [⟨some 2, .asg 2 (.const (.slice none 0 0)) 40, none, []⟩] false) (.seq (.region 1 [⟨some 3, .asg 2 (.const (.slice none 0 0)) 40, none, []⟩] false) (.seq (.seq (.region 2 [⟨some 6, .mov (.tmp 0), none, []⟩, ⟨some 7, .blt 0 .len [(.tmp 6)] [79], none, []⟩, ⟨some 8, .mov (.const (.int .i64 0)), none, []⟩] false) (.block 0 (.loop (.seq (.region 3 [⟨some 9, .bin .lss 3 (.tmp 8) (.tmp 7), none, []⟩] false) (.seq (.cond (.tmp 9) .skip (.exit 0)) (.seq (.block 1 (.seq (.region 4 [⟨some 10, .indexAddr 79 (.tmp 6) (.tmp 8), none, []⟩, ⟨some 11, .load 66 (.tmp 10), none, []⟩, ⟨some 5, .asg 1 (.tmp 11) 66, none, []⟩] false) (.region 5 [⟨some 12, .mov (.tmp 3), none, []⟩, ⟨some 13, .mov (.tmp 5), none, []⟩, ⟨some 14, .call 0 (.func 51) [(.tmp 13)], none, []⟩, ⟨some 15, .bslice 0 40 1 [(0, (.tmp 14))], none, []⟩, ⟨some 16, .blt 0 .append [(.tmp 12), (.tmp 15)] [40, 40], none, []⟩, ⟨some 3, .asg 2 (.tmp 16) 40, none, []⟩] false))) (.region 6 [⟨some 17, .bin .add 3 (.tmp 8) (.const (.int .i64 1)), none, []⟩, ⟨some 8, .mov (.tmp 17), none, []⟩] false))))))) (.seq (.region 7 [⟨some 18, .mov (.tmp 3), none, []⟩, ⟨some 2, .asg 2 (.tmp 18) 40, none, []⟩] false) .ret))))
def impl_polys_fresh_L : Live := [(0, [0]), (1, [0]), (2, [0, 3]), (3, [3, 6, 7, 8]), (4, [3, 6, 7, 8]), (5, [3, 5, 6, 7, 8]), (6, [3, 6, 7, 8]), (7, [3]), (100009, [3, 6, 7, 8, 9])]
theorem impl_polys_fresh_body : Try.f68.body = some (Try.f68.body.getD .skip) := by kernel_rfl
theorem impl_polys_fresh_strip : strip [(2, 2), (3, 2), (5, 1)] (Try.f68.body.getD .skip) = impl_polys_fresh_c := by kernel_rfl
noncomputable def impl_polys_fresh_l1 (a0 : (List (List Int))) (x35 : Int) (x36 : (List (Vec Int 64))) : Option ((Int × (List (Vec Int 64))) ⊕ (List (Vec Int 64))) :=
  (if (decide (x35 < (a0.length : Int))) then (ifp (0 ≤ x35 ∧ x35 < ((a0.length : Nat) : Int)) ((Option.bind (impl_row_poly (rd a0 x35.toNat)) fun r49 => (ifp ((x36.length + ([r49] : List (Vec Int 64)).length) * 64 ≤ 140737488355328) ((some (.inl ((IntKind.i64.wrap (x35 + 1), (x36 ++ ([r49]))))))))))) else (some (.inr x36)))
noncomputable def impl_polys_fresh (a0 : (List (List Int))) : Option (List (Vec Int 64)) :=
  (Option.bind (α := (List (Vec Int 64))) ((loopM (fun s : (Int × (List (Vec Int 64))) => impl_polys_fresh_l1 a0 s.1 s.2) (0, []))) fun x25 => (some x25))
set_option maxHeartbeats 16000000 in
theorem impl_polys_fresh_ok (a0 : (List (List Int))) (r : (List (Vec Int 64))) (h : impl_polys_fresh a0 = some r) : Den Try.prog 68 [(eSSi64 a0)] { r := (.osl 2000000), ms := [], fs := [(64, r.map eA64u8)] } := by
  refine den_ofX (rs := [(.osl 2000000)]) (ac := impl_polys_fresh_c) (L := impl_polys_fresh_L) (n := 19) (m := [(2, 2), (3, 2), (5, 1)]) good Try.func68 impl_polys_fresh_body (by kernel_rfl) Try.ntmps68 rfl rfl impl_polys_fresh_strip rfl ?_
  refine a_st (σ' := ⟨[(0, (eSSi64 a0))], []⟩) rfl ?_
  unfold impl_polys_fresh_c
  refine a_seq ?_
  refine a_region ?_
  refine a_val (v := (.osl 1200)) (u := [(1200, some ⟨(.row 64 (([]).map eA64u8)), false⟩)]) rfl trivial rfl ?_
  refine a_nil ?_
  refine a_next (σ' := ⟨[(0, (eSSi64 a0))], []⟩) rfl ?_
  refine a_seq ?_
  refine a_region ?_
  refine a_val (v := (.osl 1300)) (u := [(1300, some ⟨(.row 64 (([]).map eA64u8)), false⟩)]) rfl trivial rfl ?_
  refine a_nil ?_
  refine a_next (σ' := ⟨[(0, (eSSi64 a0)), (3, (.osl 3))], [(3, some ⟨(.row 64 (([]).map eA64u8)), false⟩)]⟩) rfl ?_
  obtain ⟨y26, hy27, hk28⟩ := bind_some h
  clear h
  refine a_join (emb := fun (s : (List (Vec Int 64))) => ⟨[(3, (.osl 3))], [(3, some ⟨(.row 64 (s.map eA64u8)), false⟩)]⟩) (pre := fun s => s = y26) ?_ ?_
  · rintro x25 rfl
    have h := hk28
    refine a_st (σ' := ⟨[(3, (.osl 3))], [(3, some ⟨(.row 64 (x25.map eA64u8)), false⟩)]⟩) rfl ?_
    refine a_seq ?_
    refine a_region ?_
    refine a_val (v := (.osl 3)) (u := []) rfl trivial rfl ?_
    refine a_val (v := (.osl 3)) (u := []) rfl trivial rfl ?_
    refine a_nil ?_
    refine a_next rfl ?_
    refine a_ret ?_
    refine ⟨.inr rfl, ?_⟩
    rw [Try.results68]
    cases h
    exact ⟨[some 3], ⟨_, _, _, _, _, rfl, trivial, rfl, .inr (.inl ⟨_, _, _, _, _, rfl, rfl, rfl, rfl, rfl, ⟨rfl, rfl, rfl⟩⟩)⟩, rfl, rfl⟩
  · have h := hy27
    refine a_seq ?_
    refine a_region ?_
    refine a_val (v := (eSSi64 a0)) (u := []) rfl trivial rfl ?_
    refine a_val (v := (.int .i64 (a0.length : Int))) (u := []) (len_run rfl rfl) trivial rfl ?_
    refine a_val (v := (.int .i64 0)) (u := []) rfl trivial rfl ?_
    refine a_nil ?_
    refine a_next (σ' := ⟨[(3, (.osl 3)), (6, (eSSi64 a0)), (7, (.int .i64 (a0.length : Int))), (8, (.int .i64 0))], [(3, some ⟨(.row 64 (([]).map eA64u8)), false⟩)]⟩) rfl ?_
    refine a_block ?_
    refine a_loop (emb := fun (s : (Int × (List (Vec Int 64)))) => ⟨[(3, (.osl 3)), (6, (eSSi64 a0)), (7, (.int .i64 (a0.length : Int))), (8, (.int .i64 s.1))], [(3, some ⟨(.row 64 (s.2.map eA64u8)), false⟩)]⟩) (body := (fun s : (Int × (List (Vec Int 64))) => impl_polys_fresh_l1 a0 s.1 s.2)) (G := fun q => some q = some y26) h rfl ?_ rfl
    rintro X43 ⟨x35, x36⟩ x44 h hX45
    have h : impl_polys_fresh_l1 a0 x35 x36 = some x44 := h
    refine a_st (σ' := ⟨[(3, (.osl 3)), (6, (eSSi64 a0)), (7, (.int .i64 (a0.length : Int))), (8, (.int .i64 x35))], [(3, some ⟨(.row 64 (x36.map eA64u8)), false⟩)]⟩) rfl ?_
    refine a_seq ?_
    refine a_region ?_
    refine a_val (v := (.bool ((decide (x35 < (a0.length : Int)))))) (u := []) rfl trivial rfl ?_
    refine a_nil ?_
    refine a_next (σ' := ⟨[(3, (.osl 3)), (6, (eSSi64 a0)), (7, (.int .i64 (a0.length : Int))), (8, (.int .i64 x35)), (9, (.bool ((decide (x35 < (a0.length : Int))))))], [(3, some ⟨(.row 64 (x36.map eA64u8)), false⟩)]⟩) rfl ?_
    refine a_seq ?_
    cases hb46 : (decide (x35 < (a0.length : Int)))
    · have h := ite_f hb46 h
      refine a_cond_f rfl ?_
      refine a_exit ?_
      refine t_exit ?_
      cases h
      have h := hX45
      refine t_exit ?_
      refine b_exit ?_
      exact j_leaf x36 (Option.some.inj h) rfl
    · have h := ite_t hb46 h
      refine a_cond_t rfl ?_
      refine a_skip ?_
      refine a_next (σ' := ⟨[(3, (.osl 3)), (6, (eSSi64 a0)), (7, (.int .i64 (a0.length : Int))), (8, (.int .i64 x35))], [(3, some ⟨(.row 64 (x36.map eA64u8)), false⟩)]⟩) rfl ?_
      refine a_seq ?_
      refine a_block ?_
      refine a_seq ?_
      refine a_region ?_
      obtain ⟨hc47, h⟩ := ifp_some h
      refine a_val (v := (.ref (.row 1 (a0.map eSi64)) [x35.toNat] [x35.toNat * 1])) (u := []) rfl (lmap hc47) rfl ?_
      have hl48 : LdOk [x35.toNat] (.row 1 (a0.map eSi64)) [x35.toNat * 1] 1 false (eSi64 (rd a0 x35.toNat)) := (.row (llt hc47) rfl (.nil rfl rfl rfl))
      refine a_val (v := (eSi64 (rd a0 x35.toNat))) (u := []) (ld_ref (i := ⟨.slice 2, 1, 24, (eSi64 [])⟩) rfl rfl hl48) hl48.c rfl ?_
      refine a_val (v := (eSi64 (rd a0 x35.toNat))) (u := []) rfl trivial rfl ?_
      refine a_nil ?_
      refine a_next (σ' := ⟨[(3, (.osl 3)), (5, (eSi64 (rd a0 x35.toNat))), (6, (eSSi64 a0)), (7, (.int .i64 (a0.length : Int))), (8, (.int .i64 x35))], [(3, some ⟨(.row 64 (x36.map eA64u8)), false⟩)]⟩) rfl ?_
      refine a_region ?_
      refine a_val (v := (.osl 3)) (u := []) rfl trivial rfl ?_
      refine a_val (v := (eSi64 (rd a0 x35.toNat))) (u := []) rfl trivial rfl ?_
      obtain ⟨r49, hr50, h⟩ := bind_some h
      refine a_call (args := [(eSi64 (rd a0 x35.toNat))]) (u := []) (r := (eA64u8 r49)) rfl rfl (impl_row_poly_ok (rd a0 x35.toNat) r49 hr50) rfl ?_
      refine a_val (v := (.sl 64 true (([r49]).map eA64u8))) (u := []) rfl ⟨(Nat.le_of_ble_eq_true rfl), (Nat.le_of_ble_eq_true rfl), (all_cons ⟨(Nat.le_of_ble_eq_true rfl), rfl⟩ all_nil)⟩ rfl ?_
      obtain ⟨hc51, h⟩ := ifp_some h
      refine a_val (v := (.osl 2600)) (u := [(2600, some ⟨(.row 64 (((x36 ++ ([r49]))).map eA64u8)), false⟩), (3, none)]) (app_run (i := ⟨.arr 64 5, 64, 64, (eA64u8 (vrep 64 (0 : Int)))⟩) (f := eA64u8) (l := x36) (l2 := [r49]) rfl rfl rfl rfl (fun _ => rfl) rfl rfl) (app_c (f := eA64u8) (s := 64) (sz := 64) (by' := 64) (u := []) (id := 3) hc51 (.inr rfl) rfl rfl rfl) rfl ?_
      refine a_val (v := (.osl 2600)) (u := []) rfl trivial rfl ?_
      refine a_nil ?_
      refine b_norm ?_
      refine a_next (σ' := ⟨[(3, (.osl 3)), (6, (eSSi64 a0)), (7, (.int .i64 (a0.length : Int))), (8, (.int .i64 x35))], [(3, some ⟨(.row 64 (((x36 ++ ([r49]))).map eA64u8)), false⟩)]⟩) rfl ?_
      refine a_region ?_
      refine a_val (v := (.int .i64 (IntKind.i64.wrap (x35 + 1)))) (u := []) rfl trivial rfl ?_
      refine a_val (v := (.int .i64 (IntKind.i64.wrap (x35 + 1)))) (u := []) rfl trivial rfl ?_
      refine a_nil ?_
      cases h
      exact a_again rfl hX45
def impl_MonicPolys_fresh_c : ACode := (.seq (.region 0 [⟨some 4, .asg 2 (.const (.slice none 0 0)) 40, none, []⟩, ⟨some 5, .asg 0 (.const (.int .i64 0)) 2, none, []⟩] false) (.seq (.block 0 (.seq (.region 1 [⟨some 7, .mov (.tmp 0), none, []⟩, ⟨some 8, .call 0 (.func 59) [(.tmp 7)], none, []⟩, ⟨some 9, .un .not (.tmp 8), none, []⟩, ⟨some 6, .asg 0 (.tmp 9) 4, none, []⟩] false) (.cond (.tmp 6) (.seq (.region 2 [⟨some 4, .asg 2 (.const (.slice none 0 0)) 40, none, []⟩, ⟨some 5, .asg 0 (.const (.int .i64 1)) 2, none, []⟩] false) .ret) (.seq (.region 3 [⟨some 11, .mov (.tmp 1), none, []⟩, ⟨some 12, .call 0 (.func 66) [(.tmp 11), (.const (.int .i64 0)), (.const (.int .i64 63))], none, []⟩, ⟨some 13, .un .not (.tmp 12), none, []⟩, ⟨some 10, .asg 0 (.tmp 13) 4, none, []⟩] false) (.cond (.tmp 10) (.seq (.region 4 [⟨some 4, .asg 2 (.const (.slice none 0 0)) 40, none, []⟩, ⟨some 5, .asg 0 (.const (.int .i64 2)) 2, none, []⟩] false) .ret) (.seq (.region 5 [⟨some 15, .mov (.tmp 0), none, []⟩, ⟨some 16, .mov (.tmp 1), none, []⟩, ⟨some 17, .call 0 (.func 67) [(.tmp 15), (.tmp 16), (.const (.int .i64 343))], none, []⟩, ⟨some 18, .bin .gtr 2 (.tmp 17) (.const (.int .i64 343)), none, []⟩, ⟨some 14, .asg 0 (.tmp 18) 4, none, []⟩] false) (.cond (.tmp 14) (.seq (.region 6 [⟨some 4, .asg 2 (.const (.slice none 0 0)) 40, none, []⟩, ⟨some 5, .asg 0 (.const (.int .i64 3)) 2, none, []⟩] false) .ret) .skip))))))) (.seq (.region 7 [⟨some 19, .mov (.tmp 0), none, []⟩, ⟨some 20, .mov (.tmp 1), none, []⟩, ⟨some 21, .call 0 (.func 69) [(.tmp 19), (.tmp 20)], none, []⟩, ⟨some 22, .call 0 (.func 68) [(.tmp 21)], none, []⟩, ⟨some 4, .asg 2 (.tmp 22) 40, none, []⟩, ⟨some 5, .asg 0 (.const (.int .i64 0)) 2, none, []⟩] false) .ret)))
def impl_MonicPolys_fresh_L : Live := [(0, [0, 1]), (1, [0, 1]), (2, []), (3, [0, 1]), (4, []), (5, [0, 1]), (6, []), (7, [0, 1]), (100006, [0, 1, 6]), (100010, [0, 1, 10]), (100014, [0, 1, 14])]
theorem impl_MonicPolys_fresh_body : Try.f27.body = some (Try.f27.body.getD .skip) := by kernel_rfl
theorem impl_MonicPolys_fresh_strip : strip [(4, 2)] (Try.f27.body.getD .skip) = impl_MonicPolys_fresh_c := by kernel_rfl
noncomputable def impl_MonicPolys_fresh (a0 : Int) (a1 : Int) : Option ((List (Vec Int 64)) × Int) :=
  (Option.bind (impl_isPrime a0) fun r1 => (if (!r1) then (some ([], 1)) else (Option.bind (impl_within a1 0 63) fun r4 => (if (!r4) then (some ([], 2)) else (Option.bind (impl_prime_norm a0 a1 343) fun r7 => (if (decide (r7 > 343)) then (some ([], 3)) else (Option.bind (impl_prime_monics a0 a1) fun r10 => (Option.bind (impl_polys_fresh r10) fun r12 => (some (r12, 0))))))))))
set_option maxHeartbeats 16000000 in
theorem impl_MonicPolys_fresh_ok (a0 : Int) (a1 : Int) (r : ((List (Vec Int 64)) × Int)) (h : impl_MonicPolys_fresh a0 a1 = some r) : Den Try.prog 27 [(.int .i64 a0), (.int .i64 a1)] { r := (.tuple [(.osl 2000000), (.int .i64 r.2)]), ms := [], fs := [(64, r.1.map eA64u8)] } := by
  refine den_ofX (rs := [(.osl 2000000), (.int .i64 r.2)]) (ac := impl_MonicPolys_fresh_c) (L := impl_MonicPolys_fresh_L) (n := 23) (m := [(4, 2)]) good Try.func27 impl_MonicPolys_fresh_body (by kernel_rfl) Try.ntmps27 rfl rfl impl_MonicPolys_fresh_strip rfl ?_
  refine a_st (σ' := ⟨[(0, (.int .i64 a0)), (1, (.int .i64 a1))], []⟩) rfl ?_
  unfold impl_MonicPolys_fresh_c
  refine a_seq ?_
  refine a_region ?_
  refine a_val (v := (.osl 1400)) (u := [(1400, some ⟨(.row 64 (([]).map eA64u8)), false⟩)]) rfl trivial rfl ?_
  refine a_val (v := (.int .i64 0)) (u := []) rfl trivial rfl ?_
  refine a_nil ?_
  refine a_next (σ' := ⟨[(0, (.int .i64 a0)), (1, (.int .i64 a1))], []⟩) rfl ?_
  refine a_seq ?_
  refine a_block ?_
  refine a_seq ?_
  refine a_region ?_
  refine a_val (v := (.int .i64 a0)) (u := []) rfl trivial rfl ?_
  obtain ⟨r1, hr2, h⟩ := bind_some h
  refine a_call (args := [(.int .i64 a0)]) (u := []) (r := (.bool r1)) rfl rfl (impl_isPrime_ok a0 r1 hr2) rfl ?_
  refine a_val (v := (.bool (!r1))) (u := []) rfl trivial rfl ?_
  refine a_val (v := (.bool (!r1))) (u := []) rfl trivial rfl ?_
  refine a_nil ?_
  refine a_next (σ' := ⟨[(0, (.int .i64 a0)), (1, (.int .i64 a1)), (6, (.bool (!r1)))], []⟩) rfl ?_
  cases hb3 : (!r1)
  · have h := ite_f hb3 h
    refine a_cond_f rfl ?_
    refine a_seq ?_
    refine a_region ?_
    refine a_val (v := (.int .i64 a1)) (u := []) rfl trivial rfl ?_
    obtain ⟨r4, hr5, h⟩ := bind_some h
    refine a_call (args := [(.int .i64 a1), (.int .i64 0), (.int .i64 63)]) (u := []) (r := (.bool r4)) rfl rfl (impl_within_ok a1 0 63 r4 hr5) rfl ?_
    refine a_val (v := (.bool (!r4))) (u := []) rfl trivial rfl ?_
    refine a_val (v := (.bool (!r4))) (u := []) rfl trivial rfl ?_
    refine a_nil ?_
    refine a_next (σ' := ⟨[(0, (.int .i64 a0)), (1, (.int .i64 a1)), (10, (.bool (!r4)))], []⟩) rfl ?_
    cases hb6 : (!r4)
    · have h := ite_f hb6 h
      refine a_cond_f rfl ?_
      refine a_seq ?_
      refine a_region ?_
      refine a_val (v := (.int .i64 a0)) (u := []) rfl trivial rfl ?_
      refine a_val (v := (.int .i64 a1)) (u := []) rfl trivial rfl ?_
      obtain ⟨r7, hr8, h⟩ := bind_some h
      refine a_call (args := [(.int .i64 a0), (.int .i64 a1), (.int .i64 343)]) (u := []) (r := (.int .i64 r7)) rfl rfl (impl_prime_norm_ok a0 a1 343 r7 hr8) rfl ?_
      refine a_val (v := (.bool ((decide (r7 > 343))))) (u := []) rfl trivial rfl ?_
      refine a_val (v := (.bool ((decide (r7 > 343))))) (u := []) rfl trivial rfl ?_
      refine a_nil ?_
      refine a_next (σ' := ⟨[(0, (.int .i64 a0)), (1, (.int .i64 a1)), (14, (.bool ((decide (r7 > 343)))))], []⟩) rfl ?_
      cases hb9 : (decide (r7 > 343))
      · have h := ite_f hb9 h
        refine a_cond_f rfl ?_
        refine a_skip ?_
        refine b_norm ?_
        refine a_next (σ' := ⟨[(0, (.int .i64 a0)), (1, (.int .i64 a1))], []⟩) rfl ?_
        refine a_seq ?_
        refine a_region ?_
        refine a_val (v := (.int .i64 a0)) (u := []) rfl trivial rfl ?_
        refine a_val (v := (.int .i64 a1)) (u := []) rfl trivial rfl ?_
        obtain ⟨r10, hr11, h⟩ := bind_some h
        refine a_call (args := [(.int .i64 a0), (.int .i64 a1)]) (u := []) (r := (eSSi64 r10)) rfl rfl (impl_prime_monics_ok a0 a1 r10 hr11) rfl ?_
        obtain ⟨r12, hr13, h⟩ := bind_some h
        refine a_callF (args := [(eSSi64 r10)]) (u := []) (u2 := []) (r := (.osl 2000000)) (fs := [(64, r12.map eA64u8)]) rfl rfl (impl_polys_fresh_ok r10 r12 hr13) rfl rfl rfl (.inl rfl) rfl ?_
        refine a_val (v := (.osl 3200)) (u := []) rfl trivial rfl ?_
        refine a_val (v := (.int .i64 0)) (u := []) rfl trivial rfl ?_
        refine a_nil ?_
        refine a_next rfl ?_
        refine a_ret ?_
        refine ⟨.inr rfl, ?_⟩
        rw [Try.results27]
        cases h
        exact ⟨[some 3200], ⟨_, _, _, _, _, rfl, trivial, rfl, .inr (.inl ⟨_, _, _, _, _, rfl, rfl, rfl, rfl, rfl, ⟨_, _, _, _, _, rfl, trivial, rfl, .inl ⟨rfl, .inl rfl, ⟨rfl, rfl, rfl⟩⟩⟩⟩)⟩, rfl, rfl⟩
      · have h := ite_t hb9 h
        refine a_cond_t rfl ?_
        refine a_seq ?_
        refine a_region ?_
        refine a_val (v := (.osl 1400)) (u := [(1400, some ⟨(.row 64 (([]).map eA64u8)), false⟩)]) rfl trivial rfl ?_
        refine a_val (v := (.int .i64 3)) (u := []) rfl trivial rfl ?_
        refine a_nil ?_
        refine a_next rfl ?_
        refine a_ret ?_
        refine b_ret ?_
        refine t_ret ?_
        refine ⟨.inr rfl, ?_⟩
        rw [Try.results27]
        cases h
        exact ⟨[some 1400], ⟨_, _, _, _, _, rfl, trivial, rfl, .inr (.inl ⟨_, _, _, _, _, rfl, rfl, rfl, rfl, rfl, ⟨_, _, _, _, _, rfl, trivial, rfl, .inl ⟨rfl, .inl rfl, ⟨rfl, rfl, rfl⟩⟩⟩⟩)⟩, rfl, rfl⟩
    · have h := ite_t hb6 h
      refine a_cond_t rfl ?_
      refine a_seq ?_
      refine a_region ?_
      refine a_val (v := (.osl 1400)) (u := [(1400, some ⟨(.row 64 (([]).map eA64u8)), false⟩)]) rfl trivial rfl ?_
      refine a_val (v := (.int .i64 2)) (u := []) rfl trivial rfl ?_
      refine a_nil ?_
      refine a_next rfl ?_
      refine a_ret ?_
      refine b_ret ?_
      refine t_ret ?_
      refine ⟨.inr rfl, ?_⟩
      rw [Try.results27]
      cases h
      exact ⟨[some 1400], ⟨_, _, _, _, _, rfl, trivial, rfl, .inr (.inl ⟨_, _, _, _, _, rfl, rfl, rfl, rfl, rfl, ⟨_, _, _, _, _, rfl, trivial, rfl, .inl ⟨rfl, .inl rfl, ⟨rfl, rfl, rfl⟩⟩⟩⟩)⟩, rfl, rfl⟩
  · have h := ite_t hb3 h
    refine a_cond_t rfl ?_
    refine a_seq ?_
    refine a_region ?_
    refine a_val (v := (.osl 1400)) (u := [(1400, some ⟨(.row 64 (([]).map eA64u8)), false⟩)]) rfl trivial rfl ?_
    refine a_val (v := (.int .i64 1)) (u := []) rfl trivial rfl ?_
    refine a_nil ?_
    refine a_next rfl ?_
    refine a_ret ?_
    refine b_ret ?_
    refine t_ret ?_
    refine ⟨.inr rfl, ?_⟩
    rw [Try.results27]
    cases h
    exact ⟨[some 1400], ⟨_, _, _, _, _, rfl, trivial, rfl, .inr (.inl ⟨_, _, _, _, _, rfl, rfl, rfl, rfl, rfl, ⟨_, _, _, _, _, rfl, trivial, rfl, .inl ⟨rfl, .inl rfl, ⟨rfl, rfl, rfl⟩⟩⟩⟩)⟩, rfl, rfl⟩
end Go.Proofs.Ytacebpbhddkelaa
