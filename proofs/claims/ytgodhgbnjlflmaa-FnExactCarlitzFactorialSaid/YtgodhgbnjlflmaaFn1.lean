/- Functions of the program: plain Lean functions, and that the program computes them. Printed by gen.py. -/
import Derived.Test.YtgodhgbnjlflmaaFnT
namespace Go.Proofs.Ytgodhgbnjlflmaa
open Go.Abs Go.Proofs
set_option linter.unusedSimpArgs false
set_option linter.unusedVariables false

def spec_l01Prime_c : ACode := (.seq (.region 0 [⟨some 2, .asg 0 (.const (.bool false)) 4, none, []⟩] false) (.seq (.region 1 [⟨some 3, .mov (.tmp 0), none, []⟩, ⟨some 4, .bin .eql 2 (.tmp 3) (.const (.int .i64 2)), none, []⟩, ⟨some 5, .mov (.tmp 4), none, []⟩, ⟨some 6, .mov (.tmp 0), some (5, false), []⟩, ⟨some 7, .bin .eql 2 (.tmp 6) (.const (.int .i64 3)), some (5, false), []⟩, ⟨some 8, .pick (.tmp 5) (.const (.bool true)) (.tmp 7), none, []⟩, ⟨some 9, .mov (.tmp 8), none, []⟩, ⟨some 10, .mov (.tmp 0), some (9, false), []⟩, ⟨some 11, .bin .eql 2 (.tmp 10) (.const (.int .i64 5)), some (9, false), []⟩, ⟨some 12, .pick (.tmp 9) (.const (.bool true)) (.tmp 11), none, []⟩, ⟨some 13, .mov (.tmp 12), none, []⟩, ⟨some 14, .mov (.tmp 0), some (13, false), []⟩, ⟨some 15, .bin .eql 2 (.tmp 14) (.const (.int .i64 7)), some (13, false), []⟩, ⟨some 16, .pick (.tmp 13) (.const (.bool true)) (.tmp 15), none, []⟩, ⟨some 2, .asg 0 (.tmp 16) 4, none, []⟩] false) .ret))
def spec_l01Prime_L : Live := [(0, [0]), (1, [0])]
theorem spec_l01Prime_body : Try.f109.body = some (Try.f109.body.getD .skip) := by kernel_rfl
theorem spec_l01Prime_strip : strip [] (Try.f109.body.getD .skip) = spec_l01Prime_c := by kernel_rfl
noncomputable def spec_l01Prime (a0 : Int) : Option Bool :=
  (if (a0 == 2) then (some true) else (if (a0 == 3) then (some true) else (if (a0 == 5) then (some true) else (some (a0 == 7)))))
set_option maxHeartbeats 16000000 in
theorem spec_l01Prime_ok (a0 : Int) (r : Bool) (h : spec_l01Prime a0 = some r) : Den Try.prog 109 [(.int .i64 a0)] { r := (.bool r) } := by
  refine den_of (rs := [(.bool r)]) (ac := spec_l01Prime_c) (L := spec_l01Prime_L) (n := 17) (m := []) good Try.func109 spec_l01Prime_body (by kernel_rfl) Try.ntmps109 rfl rfl spec_l01Prime_strip rfl rfl ?_
  refine a_st (σ' := ⟨[(0, (.int .i64 a0))], []⟩) rfl ?_
  unfold spec_l01Prime_c
  refine a_seq ?_
  refine a_region ?_
  refine a_val (v := (.bool false)) (u := []) rfl trivial rfl ?_
  refine a_nil ?_
  refine a_next (σ' := ⟨[(0, (.int .i64 a0))], []⟩) rfl ?_
  refine a_seq ?_
  refine a_region ?_
  refine a_val (v := (.int .i64 a0)) (u := []) rfl trivial rfl ?_
  refine a_val (v := (.bool (a0 == 2))) (u := []) rfl trivial rfl ?_
  refine a_val (v := (.bool (a0 == 2))) (u := []) rfl trivial rfl ?_
  cases hb1 : (a0 == 2)
  · have h := ite_f hb1 h
    refine a_gval rfl (v := (.int .i64 a0)) (u := []) rfl trivial rfl ?_
    refine a_gval rfl (v := (.bool (a0 == 3))) (u := []) rfl trivial rfl ?_
    refine a_val (v := (.bool (a0 == 3))) (u := []) rfl trivial rfl ?_
    refine a_val (v := (.bool (a0 == 3))) (u := []) rfl trivial rfl ?_
    cases hb2 : (a0 == 3)
    · have h := ite_f hb2 h
      refine a_gval rfl (v := (.int .i64 a0)) (u := []) rfl trivial rfl ?_
      refine a_gval rfl (v := (.bool (a0 == 5))) (u := []) rfl trivial rfl ?_
      refine a_val (v := (.bool (a0 == 5))) (u := []) rfl trivial rfl ?_
      refine a_val (v := (.bool (a0 == 5))) (u := []) rfl trivial rfl ?_
      cases hb3 : (a0 == 5)
      · have h := ite_f hb3 h
        refine a_gval rfl (v := (.int .i64 a0)) (u := []) rfl trivial rfl ?_
        refine a_gval rfl (v := (.bool (a0 == 7))) (u := []) rfl trivial rfl ?_
        refine a_val (v := (.bool (a0 == 7))) (u := []) rfl trivial rfl ?_
        refine a_val (v := (.bool (a0 == 7))) (u := []) rfl trivial rfl ?_
        refine a_nil ?_
        refine a_next rfl ?_
        refine a_ret ?_
        refine ⟨.inr rfl, ?_⟩
        rw [Try.results109]
        cases h
        exact ⟨_, _, _, _, _, rfl, trivial, .inl ⟨rfl, .inl rfl⟩, rfl, rfl⟩
      · have h := ite_t hb3 h
        refine a_gskip rfl ?_
        refine a_gskip rfl ?_
        refine a_val (v := (.bool true)) (u := []) rfl trivial rfl ?_
        refine a_val (v := (.bool true)) (u := []) rfl trivial rfl ?_
        refine a_nil ?_
        refine a_next rfl ?_
        refine a_ret ?_
        refine ⟨.inr rfl, ?_⟩
        rw [Try.results109]
        cases h
        exact ⟨_, _, _, _, _, rfl, trivial, .inl ⟨rfl, .inl rfl⟩, rfl, rfl⟩
    · have h := ite_t hb2 h
      refine a_gskip rfl ?_
      refine a_gskip rfl ?_
      refine a_val (v := (.bool true)) (u := []) rfl trivial rfl ?_
      refine a_val (v := (.bool true)) (u := []) rfl trivial rfl ?_
      refine a_gskip rfl ?_
      refine a_gskip rfl ?_
      refine a_val (v := (.bool true)) (u := []) rfl trivial rfl ?_
      refine a_val (v := (.bool true)) (u := []) rfl trivial rfl ?_
      refine a_nil ?_
      refine a_next rfl ?_
      refine a_ret ?_
      refine ⟨.inr rfl, ?_⟩
      rw [Try.results109]
      cases h
      exact ⟨_, _, _, _, _, rfl, trivial, .inl ⟨rfl, .inl rfl⟩, rfl, rfl⟩
  · have h := ite_t hb1 h
    refine a_gskip rfl ?_
    refine a_gskip rfl ?_
    refine a_val (v := (.bool true)) (u := []) rfl trivial rfl ?_
    refine a_val (v := (.bool true)) (u := []) rfl trivial rfl ?_
    refine a_gskip rfl ?_
    refine a_gskip rfl ?_
    refine a_val (v := (.bool true)) (u := []) rfl trivial rfl ?_
    refine a_val (v := (.bool true)) (u := []) rfl trivial rfl ?_
    refine a_gskip rfl ?_
    refine a_gskip rfl ?_
    refine a_val (v := (.bool true)) (u := []) rfl trivial rfl ?_
    refine a_val (v := (.bool true)) (u := []) rfl trivial rfl ?_
    refine a_nil ?_
    refine a_next rfl ?_
    refine a_ret ?_
    refine ⟨.inr rfl, ?_⟩
    rw [Try.results109]
    cases h
    exact ⟨_, _, _, _, _, rfl, trivial, .inl ⟨rfl, .inl rfl⟩, rfl, rfl⟩
def spec_l01In_c : ACode := (.seq (.region 0 [⟨some 6, .asg 0 (.const (.bool false)) 4, none, []⟩] false) (.seq (.region 1 [⟨some 7, .mov (.tmp 0), none, []⟩, ⟨some 8, .mov (.tmp 1), none, []⟩, ⟨some 9, .bin .geq 2 (.tmp 7) (.tmp 8), none, []⟩, ⟨some 10, .mov (.tmp 9), none, []⟩, ⟨some 11, .mov (.tmp 0), some (10, true), []⟩, ⟨some 12, .mov (.tmp 2), some (10, true), []⟩, ⟨some 13, .bin .leq 2 (.tmp 11) (.tmp 12), some (10, true), []⟩, ⟨some 14, .pick (.tmp 10) (.tmp 13) (.const (.bool false)), none, []⟩, ⟨some 6, .asg 0 (.tmp 14) 4, none, []⟩] false) .ret))
def spec_l01In_L : Live := [(0, [0, 1, 2]), (1, [0, 1, 2])]
theorem spec_l01In_body : Try.f84.body = some (Try.f84.body.getD .skip) := by kernel_rfl
theorem spec_l01In_strip : strip [] (Try.f84.body.getD .skip) = spec_l01In_c := by kernel_rfl
noncomputable def spec_l01In (a0 : Int) (a1 : Int) (a2 : Int) : Option Bool :=
  (if (decide (a0 ≥ a1)) then (some ((decide (a0 ≤ a2)))) else (some false))
set_option maxHeartbeats 16000000 in
theorem spec_l01In_ok (a0 : Int) (a1 : Int) (a2 : Int) (r : Bool) (h : spec_l01In a0 a1 a2 = some r) : Den Try.prog 84 [(.int .i64 a0), (.int .i64 a1), (.int .i64 a2)] { r := (.bool r) } := by
  refine den_of (rs := [(.bool r)]) (ac := spec_l01In_c) (L := spec_l01In_L) (n := 15) (m := []) good Try.func84 spec_l01In_body (by kernel_rfl) Try.ntmps84 rfl rfl spec_l01In_strip rfl rfl ?_
  refine a_st (σ' := ⟨[(0, (.int .i64 a0)), (1, (.int .i64 a1)), (2, (.int .i64 a2))], []⟩) rfl ?_
  unfold spec_l01In_c
  refine a_seq ?_
  refine a_region ?_
  refine a_val (v := (.bool false)) (u := []) rfl trivial rfl ?_
  refine a_nil ?_
  refine a_next (σ' := ⟨[(0, (.int .i64 a0)), (1, (.int .i64 a1)), (2, (.int .i64 a2))], []⟩) rfl ?_
  refine a_seq ?_
  refine a_region ?_
  refine a_val (v := (.int .i64 a0)) (u := []) rfl trivial rfl ?_
  refine a_val (v := (.int .i64 a1)) (u := []) rfl trivial rfl ?_
  refine a_val (v := (.bool ((decide (a0 ≥ a1))))) (u := []) rfl trivial rfl ?_
  refine a_val (v := (.bool ((decide (a0 ≥ a1))))) (u := []) rfl trivial rfl ?_
  cases hb1 : (decide (a0 ≥ a1))
  · have h := ite_f hb1 h
    refine a_gskip rfl ?_
    refine a_gskip rfl ?_
    refine a_gskip rfl ?_
    refine a_val (v := (.bool false)) (u := []) rfl trivial rfl ?_
    refine a_val (v := (.bool false)) (u := []) rfl trivial rfl ?_
    refine a_nil ?_
    refine a_next rfl ?_
    refine a_ret ?_
    refine ⟨.inr rfl, ?_⟩
    rw [Try.results84]
    cases h
    exact ⟨_, _, _, _, _, rfl, trivial, .inl ⟨rfl, .inl rfl⟩, rfl, rfl⟩
  · have h := ite_t hb1 h
    refine a_gval rfl (v := (.int .i64 a0)) (u := []) rfl trivial rfl ?_
    refine a_gval rfl (v := (.int .i64 a2)) (u := []) rfl trivial rfl ?_
    refine a_gval rfl (v := (.bool ((decide (a0 ≤ a2))))) (u := []) rfl trivial rfl ?_
    refine a_val (v := (.bool ((decide (a0 ≤ a2))))) (u := []) rfl trivial rfl ?_
    refine a_val (v := (.bool ((decide (a0 ≤ a2))))) (u := []) rfl trivial rfl ?_
    refine a_nil ?_
    refine a_next rfl ?_
    refine a_ret ?_
    refine ⟨.inr rfl, ?_⟩
    rw [Try.results84]
    cases h
    exact ⟨_, _, _, _, _, rfl, trivial, .inl ⟨rfl, .inl rfl⟩, rfl, rfl⟩
def spec_l04Range_c : ACode := (.seq (.region 0 [⟨some 8, .asg 0 (.const (.int .i64 0)) 2, none, []⟩] false) (.seq (.block 0 (.seq (.region 1 [⟨some 10, .mov (.tmp 0), none, []⟩, ⟨some 11, .call 0 (.func 109) [(.tmp 10)], none, []⟩, ⟨some 12, .un .not (.tmp 11), none, []⟩, ⟨some 9, .asg 0 (.tmp 12) 4, none, []⟩] false) (.cond (.tmp 9) (.seq (.region 2 [⟨some 8, .asg 0 (.const (.int .i64 1)) 2, none, []⟩] false) .ret) (.seq (.region 3 [⟨some 14, .mov (.tmp 1), none, []⟩, ⟨some 15, .mov (.tmp 2), none, []⟩, ⟨some 16, .mov (.tmp 3), none, []⟩, ⟨some 17, .call 0 (.func 84) [(.tmp 14), (.tmp 15), (.tmp 16)], none, []⟩, ⟨some 18, .un .not (.tmp 17), none, []⟩, ⟨some 13, .asg 0 (.tmp 18) 4, none, []⟩] false) (.cond (.tmp 13) (.seq (.region 4 [⟨some 8, .asg 0 (.const (.int .i64 2)) 2, none, []⟩] false) .ret) .skip))))) (.seq (.region 5 [⟨some 8, .asg 0 (.const (.int .i64 0)) 2, none, []⟩] false) .ret)))
def spec_l04Range_L : Live := [(0, [0, 1, 2, 3]), (1, [0, 1, 2, 3]), (2, []), (3, [1, 2, 3]), (4, []), (5, []), (100009, [1, 2, 3, 9]), (100013, [13])]
theorem spec_l04Range_body : Try.f60.body = some (Try.f60.body.getD .skip) := by kernel_rfl
theorem spec_l04Range_strip : strip [] (Try.f60.body.getD .skip) = spec_l04Range_c := by kernel_rfl
noncomputable def spec_l04Range (a0 : Int) (a1 : Int) (a2 : Int) (a3 : Int) : Option Int :=
  (Option.bind (spec_l01Prime a0) fun r1 => (if (!r1) then (some 1) else (Option.bind (spec_l01In a1 a2 a3) fun r4 => (if (!r4) then (some 2) else (some 0)))))
set_option maxHeartbeats 16000000 in
theorem spec_l04Range_ok (a0 : Int) (a1 : Int) (a2 : Int) (a3 : Int) (r : Int) (h : spec_l04Range a0 a1 a2 a3 = some r) : Den Try.prog 60 [(.int .i64 a0), (.int .i64 a1), (.int .i64 a2), (.int .i64 a3)] { r := (.int .i64 r) } := by
  refine den_of (rs := [(.int .i64 r)]) (ac := spec_l04Range_c) (L := spec_l04Range_L) (n := 19) (m := []) good Try.func60 spec_l04Range_body (by kernel_rfl) Try.ntmps60 rfl rfl spec_l04Range_strip rfl rfl ?_
  refine a_st (σ' := ⟨[(0, (.int .i64 a0)), (1, (.int .i64 a1)), (2, (.int .i64 a2)), (3, (.int .i64 a3))], []⟩) rfl ?_
  unfold spec_l04Range_c
  refine a_seq ?_
  refine a_region ?_
  refine a_val (v := (.int .i64 0)) (u := []) rfl trivial rfl ?_
  refine a_nil ?_
  refine a_next (σ' := ⟨[(0, (.int .i64 a0)), (1, (.int .i64 a1)), (2, (.int .i64 a2)), (3, (.int .i64 a3))], []⟩) rfl ?_
  refine a_seq ?_
  refine a_block ?_
  refine a_seq ?_
  refine a_region ?_
  refine a_val (v := (.int .i64 a0)) (u := []) rfl trivial rfl ?_
  obtain ⟨r1, hr2, h⟩ := bind_some h
  refine a_call (args := [(.int .i64 a0)]) (u := []) (r := (.bool r1)) rfl rfl (spec_l01Prime_ok a0 r1 hr2) rfl ?_
  refine a_val (v := (.bool (!r1))) (u := []) rfl trivial rfl ?_
  refine a_val (v := (.bool (!r1))) (u := []) rfl trivial rfl ?_
  refine a_nil ?_
  refine a_next (σ' := ⟨[(1, (.int .i64 a1)), (2, (.int .i64 a2)), (3, (.int .i64 a3)), (9, (.bool (!r1)))], []⟩) rfl ?_
  cases hb3 : (!r1)
  · have h := ite_f hb3 h
    refine a_cond_f rfl ?_
    refine a_seq ?_
    refine a_region ?_
    refine a_val (v := (.int .i64 a1)) (u := []) rfl trivial rfl ?_
    refine a_val (v := (.int .i64 a2)) (u := []) rfl trivial rfl ?_
    refine a_val (v := (.int .i64 a3)) (u := []) rfl trivial rfl ?_
    obtain ⟨r4, hr5, h⟩ := bind_some h
    refine a_call (args := [(.int .i64 a1), (.int .i64 a2), (.int .i64 a3)]) (u := []) (r := (.bool r4)) rfl rfl (spec_l01In_ok a1 a2 a3 r4 hr5) rfl ?_
    refine a_val (v := (.bool (!r4))) (u := []) rfl trivial rfl ?_
    refine a_val (v := (.bool (!r4))) (u := []) rfl trivial rfl ?_
    refine a_nil ?_
    refine a_next (σ' := ⟨[(13, (.bool (!r4)))], []⟩) rfl ?_
    cases hb6 : (!r4)
    · have h := ite_f hb6 h
      refine a_cond_f rfl ?_
      refine a_skip ?_
      refine b_norm ?_
      refine a_next (σ' := ⟨[], []⟩) rfl ?_
      refine a_seq ?_
      refine a_region ?_
      refine a_val (v := (.int .i64 0)) (u := []) rfl trivial rfl ?_
      refine a_nil ?_
      refine a_next rfl ?_
      refine a_ret ?_
      refine ⟨.inr rfl, ?_⟩
      rw [Try.results60]
      cases h
      exact ⟨_, _, _, _, _, rfl, trivial, .inl ⟨rfl, .inl rfl⟩, rfl, rfl⟩
    · have h := ite_t hb6 h
      refine a_cond_t rfl ?_
      refine a_seq ?_
      refine a_region ?_
      refine a_val (v := (.int .i64 2)) (u := []) rfl trivial rfl ?_
      refine a_nil ?_
      refine a_next rfl ?_
      refine a_ret ?_
      refine b_ret ?_
      refine t_ret ?_
      refine ⟨.inr rfl, ?_⟩
      rw [Try.results60]
      cases h
      exact ⟨_, _, _, _, _, rfl, trivial, .inl ⟨rfl, .inl rfl⟩, rfl, rfl⟩
  · have h := ite_t hb3 h
    refine a_cond_t rfl ?_
    refine a_seq ?_
    refine a_region ?_
    refine a_val (v := (.int .i64 1)) (u := []) rfl trivial rfl ?_
    refine a_nil ?_
    refine a_next rfl ?_
    refine a_ret ?_
    refine b_ret ?_
    refine t_ret ?_
    refine ⟨.inr rfl, ?_⟩
    rw [Try.results60]
    cases h
    exact ⟨_, _, _, _, _, rfl, trivial, .inl ⟨rfl, .inl rfl⟩, rfl, rfl⟩
def spec_l01One_c : ACode := (.seq (.region 0 [⟨some 0, .alloc 23, none, []⟩] false) (.seq (.region 1 [⟨some 1, .build 23 [(0, (.const (.int .u8 1)))], none, []⟩, ⟨none, .store 23 (.tmp 0) (.tmp 1), none, []⟩] false) .ret))
def spec_l01One_L : Live := [(0, []), (1, [0])]
theorem spec_l01One_body : Try.f61.body = some (Try.f61.body.getD .skip) := by kernel_rfl
theorem spec_l01One_strip : strip [] (Try.f61.body.getD .skip) = spec_l01One_c := by kernel_rfl
noncomputable def spec_l01One  : Option (Vec Int 64) :=
  (some ((vset (vrep 64 (0 : Int)) 0 1)))
set_option maxHeartbeats 16000000 in
theorem spec_l01One_ok  (r : (Vec Int 64)) (h : spec_l01One = some r) : Den Try.prog 61 [] { r := (eA64u8 r) } := by
  refine den_of (rs := [(eA64u8 r)]) (ac := spec_l01One_c) (L := spec_l01One_L) (n := 2) (m := []) good Try.func61 spec_l01One_body (by kernel_rfl) Try.ntmps61 rfl rfl spec_l01One_strip rfl rfl ?_
  refine a_st (σ' := ⟨[], []⟩) rfl ?_
  unfold spec_l01One_c
  refine a_seq ?_
  refine a_region ?_
  refine a_val (v := (.own 1000 [] [])) (u := [(1000, some ⟨(eA64u8 ((vrep 64 (0 : Int)))), false⟩)]) rfl trivial rfl ?_
  refine a_nil ?_
  refine a_next (σ' := ⟨[(0, (.own 0 [] []))], [(0, some ⟨(eA64u8 ((vrep 64 (0 : Int)))), false⟩)]⟩) rfl ?_
  refine a_seq ?_
  refine a_region ?_
  refine a_val (v := (eA64u8 ((vset (vrep 64 (0 : Int)) 0 1)))) (u := []) rfl ⟨⟨_, rfl, rfl⟩, (all_cons ⟨(Nat.le_of_ble_eq_true rfl), rfl⟩ all_nil)⟩ rfl ?_
  have hs1 : StOk [] (eA64u8 ((vrep 64 (0 : Int)))) [] 64 (eA64u8 ((vset (vrep 64 (0 : Int)) 0 1))) (eA64u8 ((vset (vrep 64 (0 : Int)) 0 1))) := (.nil rfl rfl rfl rfl)
  refine a_val (v := .top) (u := [(0, some ⟨(eA64u8 ((vset (vrep 64 (0 : Int)) 0 1))), false⟩)]) (st_own (i := ⟨.arr 64 5, 64, 64, (eA64u8 (vrep 64 (0 : Int)))⟩) rfl rfl (fun _ => rfl) rfl hs1) (hs1.c rfl) rfl ?_
  refine a_nil ?_
  refine a_next rfl ?_
  refine a_ret ?_
  have hl2 : LdOk [] (eA64u8 ((vset (vrep 64 (0 : Int)) 0 1))) [] 64 true (eA64u8 ((vset (vrep 64 (0 : Int)) 0 1))) := (.nil rfl rfl rfl)
  refine ⟨.inr rfl, ?_⟩
  rw [Try.results61]
  cases h
  exact ⟨_, _, _, _, _, ld_own (i := ⟨.arr 64 5, 64, 64, (eA64u8 (vrep 64 (0 : Int)))⟩) rfl rfl rfl hl2, hl2.c, .inl ⟨rfl, .inl rfl⟩, rfl, rfl⟩
def spec_l01T_c : ACode := (.seq (.region 0 [⟨some 0, .alloc 23, none, []⟩] false) (.seq (.region 1 [⟨some 1, .build 23 [(0, (.const (.int .u8 0))), (1, (.const (.int .u8 1)))], none, []⟩, ⟨none, .store 23 (.tmp 0) (.tmp 1), none, []⟩] false) .ret))
def spec_l01T_L : Live := [(0, []), (1, [0])]
theorem spec_l01T_body : Try.f86.body = some (Try.f86.body.getD .skip) := by kernel_rfl
theorem spec_l01T_strip : strip [] (Try.f86.body.getD .skip) = spec_l01T_c := by kernel_rfl
noncomputable def spec_l01T  : Option (Vec Int 64) :=
  (some ((vset (vset (vrep 64 (0 : Int)) 0 0) 1 1)))
set_option maxHeartbeats 16000000 in
theorem spec_l01T_ok  (r : (Vec Int 64)) (h : spec_l01T = some r) : Den Try.prog 86 [] { r := (eA64u8 r) } := by
  refine den_of (rs := [(eA64u8 r)]) (ac := spec_l01T_c) (L := spec_l01T_L) (n := 2) (m := []) good Try.func86 spec_l01T_body (by kernel_rfl) Try.ntmps86 rfl rfl spec_l01T_strip rfl rfl ?_
  refine a_st (σ' := ⟨[], []⟩) rfl ?_
  unfold spec_l01T_c
  refine a_seq ?_
  refine a_region ?_
  refine a_val (v := (.own 1000 [] [])) (u := [(1000, some ⟨(eA64u8 ((vrep 64 (0 : Int)))), false⟩)]) rfl trivial rfl ?_
  refine a_nil ?_
  refine a_next (σ' := ⟨[(0, (.own 0 [] []))], [(0, some ⟨(eA64u8 ((vrep 64 (0 : Int)))), false⟩)]⟩) rfl ?_
  refine a_seq ?_
  refine a_region ?_
  refine a_val (v := (eA64u8 ((vset (vset (vrep 64 (0 : Int)) 0 0) 1 1)))) (u := []) rfl ⟨⟨_, rfl, rfl⟩, (all_cons ⟨(Nat.le_of_ble_eq_true rfl), rfl⟩ (all_cons ⟨(Nat.le_of_ble_eq_true rfl), rfl⟩ all_nil))⟩ rfl ?_
  have hs1 : StOk [] (eA64u8 ((vrep 64 (0 : Int)))) [] 64 (eA64u8 ((vset (vset (vrep 64 (0 : Int)) 0 0) 1 1))) (eA64u8 ((vset (vset (vrep 64 (0 : Int)) 0 0) 1 1))) := (.nil rfl rfl rfl rfl)
  refine a_val (v := .top) (u := [(0, some ⟨(eA64u8 ((vset (vset (vrep 64 (0 : Int)) 0 0) 1 1))), false⟩)]) (st_own (i := ⟨.arr 64 5, 64, 64, (eA64u8 (vrep 64 (0 : Int)))⟩) rfl rfl (fun _ => rfl) rfl hs1) (hs1.c rfl) rfl ?_
  refine a_nil ?_
  refine a_next rfl ?_
  refine a_ret ?_
  have hl2 : LdOk [] (eA64u8 ((vset (vset (vrep 64 (0 : Int)) 0 0) 1 1))) [] 64 true (eA64u8 ((vset (vset (vrep 64 (0 : Int)) 0 0) 1 1))) := (.nil rfl rfl rfl)
  refine ⟨.inr rfl, ?_⟩
  rw [Try.results86]
  cases h
  exact ⟨_, _, _, _, _, ld_own (i := ⟨.arr 64 5, 64, 64, (eA64u8 (vrep 64 (0 : Int)))⟩) rfl rfl rfl hl2, hl2.c, .inl ⟨rfl, .inl rfl⟩, rfl, rfl⟩
def spec_l01Deg_c : ACode := (.seq (.region 0 [⟨some 1, .box 23 (.tmp 0), none, []⟩, ⟨some 2, .asg 0 (.const (.int .i64 0)) 2, none, []⟩] false) (.seq (.region 1 [⟨some 3, .asg 0 (.const (.int .i64 63)) 2, none, []⟩] false) (.seq (.block 0 (.loop (.seq (.seq (.region 2 [⟨some 4, .mov (.tmp 3), none, []⟩, ⟨some 5, .bin .geq 2 (.tmp 4) (.const (.int .i64 0)), none, []⟩, ⟨some 6, .mov (.tmp 5), none, []⟩, ⟨some 7, .mov (.tmp 3), some (6, true), []⟩, ⟨some 8, .indexAddr 23 (.tmp 1) (.tmp 7), some (6, true), []⟩, ⟨some 9, .load 5 (.tmp 8), some (6, true), []⟩, ⟨some 10, .bin .eql 5 (.tmp 9) (.const (.int .u8 0)), some (6, true), []⟩, ⟨some 11, .pick (.tmp 6) (.tmp 10) (.const (.bool false)), none, []⟩] false) (.cond (.tmp 11) .skip (.exit 0))) (.block 1 (.region 3 [⟨some 12, .mov (.tmp 3), none, []⟩, ⟨some 13, .bin .sub 2 (.tmp 12) (.const (.int .i64 1)), none, []⟩, ⟨some 3, .asg 0 (.tmp 13) 2, none, []⟩] false))))) (.seq (.region 4 [⟨some 14, .mov (.tmp 3), none, []⟩, ⟨some 2, .asg 0 (.tmp 14) 2, none, []⟩] false) .ret))))
def spec_l01Deg_L : Live := [(0, [0]), (1, [1]), (2, [1, 3]), (3, [1, 3]), (4, [3]), (100011, [1, 3, 11])]
theorem spec_l01Deg_body : Try.f83.body = some (Try.f83.body.getD .skip) := by kernel_rfl
theorem spec_l01Deg_strip : strip [] (Try.f83.body.getD .skip) = spec_l01Deg_c := by kernel_rfl
noncomputable def spec_l01Deg_l1 (a0 : (Vec Int 64)) (x54 : Int) : Option (Int ⊕ Int) :=
  (Option.bind (α := Bool) ((if (decide (x54 ≥ 0)) then (ifp (0 ≤ x54 ∧ x54 < ((64 : Nat) : Int)) ((some (((rd a0.1 x54.toNat) == 0))))) else (some false))) fun x72 => (if x72 then (some (.inl (IntKind.i64.wrap (x54 - 1)))) else (some (.inr x54))))
noncomputable def spec_l01Deg (a0 : (Vec Int 64)) : Option Int :=
  (Option.bind (α := Int) ((loopM (fun s : Int => spec_l01Deg_l1 a0 s) 63)) fun x39 => (some x39))
set_option maxHeartbeats 16000000 in
theorem spec_l01Deg_ok (a0 : (Vec Int 64)) (r : Int) (h : spec_l01Deg a0 = some r) : Den Try.prog 83 [(eA64u8 a0)] { r := (.int .i64 r) } := by
  refine den_of (rs := [(.int .i64 r)]) (ac := spec_l01Deg_c) (L := spec_l01Deg_L) (n := 15) (m := []) good Try.func83 spec_l01Deg_body (by kernel_rfl) Try.ntmps83 rfl rfl spec_l01Deg_strip rfl rfl ?_
  refine a_st (σ' := ⟨[(0, (eA64u8 a0))], []⟩) rfl ?_
  unfold spec_l01Deg_c
  refine a_seq ?_
  refine a_region ?_
  refine a_val (v := (.own 1100 [] [])) (u := [(1100, some ⟨(eA64u8 a0), false⟩)]) rfl trivial rfl ?_
  refine a_val (v := (.int .i64 0)) (u := []) rfl trivial rfl ?_
  refine a_nil ?_
  refine a_next (σ' := ⟨[(1, (.own 1 [] []))], [(1, some ⟨(eA64u8 a0), false⟩)]⟩) rfl ?_
  refine a_seq ?_
  refine a_region ?_
  refine a_val (v := (.int .i64 63)) (u := []) rfl trivial rfl ?_
  refine a_nil ?_
  refine a_next (σ' := ⟨[(1, (.own 1 [] [])), (3, (.int .i64 63))], [(1, some ⟨(eA64u8 a0), false⟩)]⟩) rfl ?_
  obtain ⟨y40, hy41, hk42⟩ := bind_some h
  clear h
  refine a_join (emb := fun (s : Int) => ⟨[(3, (.int .i64 s))], []⟩) (pre := fun s => s = y40) ?_ ?_
  · rintro x39 rfl
    have h := hk42
    refine a_st (σ' := ⟨[(3, (.int .i64 x39))], []⟩) rfl ?_
    refine a_seq ?_
    refine a_region ?_
    refine a_val (v := (.int .i64 x39)) (u := []) rfl trivial rfl ?_
    refine a_val (v := (.int .i64 x39)) (u := []) rfl trivial rfl ?_
    refine a_nil ?_
    refine a_next rfl ?_
    refine a_ret ?_
    refine ⟨.inr rfl, ?_⟩
    rw [Try.results83]
    cases h
    exact ⟨_, _, _, _, _, rfl, trivial, .inl ⟨rfl, .inl rfl⟩, rfl, rfl⟩
  · have h := hy41
    refine a_block ?_
    refine a_loop (emb := fun (s : Int) => ⟨[(1, (.own 1 [] [])), (3, (.int .i64 s))], [(1, some ⟨(eA64u8 a0), false⟩)]⟩) (body := (fun s : Int => spec_l01Deg_l1 a0 s)) (G := fun q => some q = some y40) h rfl ?_ rfl
    rintro X66 x54 x67 h hX68
    have h : spec_l01Deg_l1 a0 x54 = some x67 := h
    refine a_st (σ' := ⟨[(1, (.own 1 [] [])), (3, (.int .i64 x54))], [(1, some ⟨(eA64u8 a0), false⟩)]⟩) rfl ?_
    refine a_seq ?_
    obtain ⟨y73, hy74, hk75⟩ := bind_some h
    clear h
    refine a_join (emb := fun (s : Bool) => ⟨[(1, (.own 1 [] [])), (3, (.int .i64 x54)), (11, (.bool s))], [(1, some ⟨(eA64u8 a0), false⟩)]⟩) (pre := fun s => s = y73) ?_ ?_
    · rintro x72 rfl
      have h := hk75
      refine a_st (σ' := ⟨[(1, (.own 1 [] [])), (3, (.int .i64 x54)), (11, (.bool x72))], [(1, some ⟨(eA64u8 a0), false⟩)]⟩) rfl ?_
      cases hb79 : x72
      · have h := ite_f hb79 h
        refine a_cond_f rfl ?_
        refine a_exit ?_
        refine t_exit ?_
        cases h
        have h := hX68
        refine t_exit ?_
        refine b_exit ?_
        exact j_leaf x54 (Option.some.inj h) rfl
      · have h := ite_t hb79 h
        refine a_cond_t rfl ?_
        refine a_skip ?_
        refine a_next (σ' := ⟨[(1, (.own 1 [] [])), (3, (.int .i64 x54))], [(1, some ⟨(eA64u8 a0), false⟩)]⟩) rfl ?_
        refine a_block ?_
        refine a_region ?_
        refine a_val (v := (.int .i64 x54)) (u := []) rfl trivial rfl ?_
        refine a_val (v := (.int .i64 (IntKind.i64.wrap (x54 - 1)))) (u := []) rfl trivial rfl ?_
        refine a_val (v := (.int .i64 (IntKind.i64.wrap (x54 - 1)))) (u := []) rfl trivial rfl ?_
        refine a_nil ?_
        refine b_norm ?_
        cases h
        exact a_again rfl hX68
    · have h := hy74
      refine a_region ?_
      refine a_val (v := (.int .i64 x54)) (u := []) rfl trivial rfl ?_
      refine a_val (v := (.bool ((decide (x54 ≥ 0))))) (u := []) rfl trivial rfl ?_
      refine a_val (v := (.bool ((decide (x54 ≥ 0))))) (u := []) rfl trivial rfl ?_
      cases hb76 : (decide (x54 ≥ 0))
      · have h := ite_f hb76 h
        refine a_gskip rfl ?_
        refine a_gskip rfl ?_
        refine a_gskip rfl ?_
        refine a_gskip rfl ?_
        refine a_val (v := (.bool false)) (u := []) rfl trivial rfl ?_
        refine a_nil ?_
        exact j_leaf false (Option.some.inj h) rfl
      · have h := ite_t hb76 h
        refine a_gval rfl (v := (.int .i64 x54)) (u := []) rfl trivial rfl ?_
        obtain ⟨hc77, h⟩ := ifp_some h
        refine a_gval rfl (v := (.own 1 [x54.toNat] [x54.toNat * 1])) (u := []) rfl hc77 rfl ?_
        have hl78 : LdOk [x54.toNat] (eA64u8 a0) [x54.toNat * 1] 1 false (.int .u8 (rd a0.1 x54.toNat)) := (.arr (vlt a0 hc77) rfl (.nil rfl rfl rfl))
        refine a_gval rfl (v := (.int .u8 (rd a0.1 x54.toNat))) (u := []) (ld_own (i := ⟨.int .u8, 1, 1, (.int .u8 0)⟩) rfl rfl rfl hl78) hl78.c rfl ?_
        refine a_gval rfl (v := (.bool (((rd a0.1 x54.toNat) == 0)))) (u := []) rfl trivial rfl ?_
        refine a_val (v := (.bool (((rd a0.1 x54.toNat) == 0)))) (u := []) rfl trivial rfl ?_
        refine a_nil ?_
        exact j_leaf (((rd a0.1 x54.toNat) == 0)) (Option.some.inj h) rfl
def spec_l04Raise_c : ACode := (.seq (.region 0 [⟨some 4, .box 23 (.tmp 1), none, []⟩, ⟨some 6, .alloc 23, none, []⟩, ⟨some 7, .asg 0 (.const (.bool false)) 4, none, []⟩] false) (.seq (.region 1 [⟨some 13, .build 23 [], none, []⟩, ⟨some 14, .load 23 (.tmp 4), none, []⟩, ⟨some 15, .call 0 (.func 83) [(.tmp 14)], none, []⟩, ⟨some 8, .alloc 23, none, []⟩, ⟨none, .store 23 (.tmp 8) (.tmp 13), none, []⟩, ⟨some 9, .asg 0 (.tmp 15) 2, none, []⟩] false) (.seq (.seq (.region 2 [⟨some 10, .asg 0 (.const (.int .i64 0)) 2, none, []⟩] false) (.block 0 (.loop (.seq (.seq (.region 3 [⟨some 16, .mov (.tmp 10), none, []⟩, ⟨some 17, .mov (.tmp 9), none, []⟩, ⟨some 18, .bin .leq 2 (.tmp 16) (.tmp 17), none, []⟩] false) (.cond (.tmp 18) .skip (.exit 0))) (.seq (.block 1 (.seq (.seq (.region 5 [⟨some 21, .mov (.tmp 10), none, []⟩, ⟨some 22, .indexAddr 23 (.tmp 4) (.tmp 21), none, []⟩, ⟨some 23, .load 5 (.tmp 22), none, []⟩, ⟨some 24, .bin .eql 5 (.tmp 23) (.const (.int .u8 0)), none, []⟩] false) (.cond (.tmp 24) (.exit 1) .skip)) (.seq (.region 6 [⟨some 25, .mov (.tmp 10), none, []⟩, ⟨some 11, .asg 0 (.tmp 25) 2, none, []⟩] false) (.seq (.seq (.region 7 [⟨some 12, .asg 0 (.const (.int .i64 0)) 2, none, []⟩] false) (.block 2 (.loop (.seq (.seq (.region 8 [⟨some 26, .mov (.tmp 12), none, []⟩, ⟨some 27, .mov (.tmp 2), none, []⟩, ⟨some 28, .bin .lss 2 (.tmp 26) (.tmp 27), none, []⟩, ⟨some 29, .mov (.tmp 28), none, []⟩, ⟨some 30, .mov (.tmp 11), some (29, true), []⟩, ⟨some 31, .bin .gtr 2 (.tmp 30) (.const (.int .i64 0)), some (29, true), []⟩, ⟨some 32, .pick (.tmp 29) (.tmp 31) (.const (.bool false)), none, []⟩] false) (.cond (.tmp 32) .skip (.exit 2))) (.seq (.block 3 (.seq (.region 10 [⟨some 35, .mov (.tmp 11), none, []⟩, ⟨some 36, .mov (.tmp 0), none, []⟩, ⟨some 37, .bin .mul 2 (.tmp 35) (.tmp 36), none, []⟩, ⟨some 11, .asg 0 (.tmp 37) 2, none, []⟩] false) (.seq (.region 11 [⟨some 38, .mov (.tmp 11), none, []⟩, ⟨some 39, .bin .gtr 2 (.tmp 38) (.const (.int .i64 63)), none, []⟩] false) (.cond (.tmp 39) (.seq (.region 12 [⟨some 40, .build 23 [], none, []⟩, ⟨none, .store 23 (.tmp 6) (.tmp 40), none, []⟩, ⟨some 7, .asg 0 (.const (.bool false)) 4, none, []⟩] false) .ret) .skip)))) (.region 9 [⟨some 33, .mov (.tmp 12), none, []⟩, ⟨some 34, .bin .add 2 (.tmp 33) (.const (.int .i64 1)), none, []⟩, ⟨some 12, .asg 0 (.tmp 34) 2, none, []⟩] false)))))) (.region 13 [⟨some 41, .mov (.tmp 11), none, []⟩, ⟨some 42, .mov (.tmp 10), none, []⟩, ⟨some 43, .indexAddr 23 (.tmp 4) (.tmp 42), none, []⟩, ⟨some 44, .load 5 (.tmp 43), none, []⟩, ⟨some 45, .indexAddr 23 (.tmp 8) (.tmp 41), none, []⟩, ⟨none, .store 5 (.tmp 45) (.tmp 44), none, []⟩] false))))) (.region 4 [⟨some 19, .mov (.tmp 10), none, []⟩, ⟨some 20, .bin .add 2 (.tmp 19) (.const (.int .i64 1)), none, []⟩, ⟨some 10, .asg 0 (.tmp 20) 2, none, []⟩] false)))))) (.seq (.region 14 [⟨some 46, .load 23 (.tmp 8), none, []⟩, ⟨none, .store 23 (.tmp 6) (.tmp 46), none, []⟩, ⟨some 7, .asg 0 (.const (.bool true)) 4, none, []⟩] false) .ret))))
def spec_l04Raise_L : Live := [(0, [0, 1, 2]), (1, [0, 2, 4, 6]), (2, [0, 2, 4, 6, 8, 9]), (3, [0, 2, 4, 6, 8, 9, 10]), (4, [0, 2, 4, 6, 8, 9, 10]), (5, [0, 2, 4, 6, 8, 9, 10]), (6, [0, 2, 4, 6, 8, 9, 10]), (7, [0, 2, 4, 6, 8, 9, 10, 11]), (8, [0, 2, 4, 6, 8, 9, 10, 11, 12]), (9, [0, 2, 4, 6, 8, 9, 10, 11, 12]), (10, [0, 2, 4, 6, 8, 9, 10, 11, 12]), (11, [0, 2, 4, 6, 8, 9, 10, 11, 12]), (12, [6]), (13, [0, 2, 4, 6, 8, 9, 10, 11]), (14, [6, 8]), (100018, [0, 2, 4, 6, 8, 9, 10, 18]), (100024, [0, 2, 4, 6, 8, 9, 10, 24]), (100032, [0, 2, 4, 6, 8, 9, 10, 11, 12, 32]), (100039, [0, 2, 4, 6, 8, 9, 10, 11, 12, 39])]
theorem spec_l04Raise_body : Try.f133.body = some (Try.f133.body.getD .skip) := by kernel_rfl
theorem spec_l04Raise_strip : strip [] (Try.f133.body.getD .skip) = spec_l04Raise_c := by kernel_rfl
noncomputable def spec_l04Raise_l2 (a2 : Int) (a0 : Int) (x962 : Int) (x963 : Int) : Option ((Int × Int) ⊕ (Int ⊕ ((Vec Int 64) × Bool))) :=
  (Option.bind (α := Bool) ((if (decide (x963 < a2)) then (some ((decide (x962 > 0)))) else (some false))) fun x977 => (if x977 then (if (decide ((IntKind.i64.wrap (x962 * a0)) > 63)) then (some (.inr ((.inr (((vrep 64 (0 : Int)), false)))))) else (some (.inl ((IntKind.i64.wrap (x962 * a0), IntKind.i64.wrap (x963 + 1)))))) else (some (.inr (.inl x962)))))
noncomputable def spec_l04Raise_l1 (r2 : Int) (a1 : (Vec Int 64)) (a2 : Int) (a0 : Int) (x663 : Int) (x664 : (Vec Int 64)) : Option ((Int × (Vec Int 64)) ⊕ ((Vec Int 64) ⊕ ((Vec Int 64) × Bool))) :=
  (if (decide (x663 ≤ r2)) then (Option.bind (α := ((Vec Int 64) ⊕ ((Vec Int 64) × Bool))) ((ifp (0 ≤ x663 ∧ x663 < ((64 : Nat) : Int)) ((if ((rd a1.1 x663.toNat) == 0) then (some (.inl x664)) else (Option.bind (α := (Int ⊕ ((Vec Int 64) × Bool))) ((loopM (fun s : (Int × Int) => spec_l04Raise_l2 a2 a0 s.1 s.2) (x663, 0))) fun z => match z with | .inl x949 => (ifp (0 ≤ x663 ∧ x663 < ((64 : Nat) : Int)) ((ifp (0 ≤ x949 ∧ x949 < ((64 : Nat) : Int)) ((some ((.inl (vset x664 x949.toNat (rd a1.1 x663.toNat))))))))) | .inr r991 => (some (.inr r991))))))) fun z => match z with | .inl x909 => (some (.inl ((IntKind.i64.wrap (x663 + 1), x909)))) | .inr r992 => (some (.inr (.inr r992)))) else (some (.inr (.inl x664))))
noncomputable def spec_l04Raise (a0 : Int) (a1 : (Vec Int 64)) (a2 : Int) : Option ((Vec Int 64) × Bool) :=
  (Option.bind (spec_l01Deg a1) fun r2 => (Option.bind (α := ((Vec Int 64) ⊕ ((Vec Int 64) × Bool))) ((loopM (fun s : (Int × (Vec Int 64)) => spec_l04Raise_l1 r2 a1 a2 a0 s.1 s.2) (0, (vrep 64 (0 : Int))))) fun z => match z with | .inl x497 => (some (x497, true)) | .inr r997 => (some r997)))
set_option maxHeartbeats 16000000 in
theorem spec_l04Raise_ok (a0 : Int) (a1 : (Vec Int 64)) (a2 : Int) (r : ((Vec Int 64) × Bool)) (h : spec_l04Raise a0 a1 a2 = some r) : Den Try.prog 133 [(.int .i64 a0), (eA64u8 a1), (.int .i64 a2)] { r := (.tuple [(eA64u8 r.1), (.bool r.2)]) } := by
  refine den_of (rs := [(eA64u8 r.1), (.bool r.2)]) (ac := spec_l04Raise_c) (L := spec_l04Raise_L) (n := 47) (m := []) good Try.func133 spec_l04Raise_body (by kernel_rfl) Try.ntmps133 rfl rfl spec_l04Raise_strip rfl rfl ?_
  refine a_st (σ' := ⟨[(0, (.int .i64 a0)), (1, (eA64u8 a1)), (2, (.int .i64 a2))], []⟩) rfl ?_
  unfold spec_l04Raise_c
  refine a_seq ?_
  refine a_region ?_
  refine a_val (v := (.own 1400 [] [])) (u := [(1400, some ⟨(eA64u8 a1), false⟩)]) rfl trivial rfl ?_
  refine a_val (v := (.own 1600 [] [])) (u := [(1600, some ⟨(eA64u8 ((vrep 64 (0 : Int)))), false⟩)]) rfl trivial rfl ?_
  refine a_val (v := (.bool false)) (u := []) rfl trivial rfl ?_
  refine a_nil ?_
  refine a_next (σ' := ⟨[(0, (.int .i64 a0)), (2, (.int .i64 a2)), (4, (.own 4 [] [])), (6, (.own 6 [] []))], [(4, some ⟨(eA64u8 a1), false⟩), (6, some ⟨(eA64u8 ((vrep 64 (0 : Int)))), false⟩)]⟩) rfl ?_
  refine a_seq ?_
  refine a_region ?_
  refine a_val (v := (eA64u8 ((vrep 64 (0 : Int))))) (u := []) rfl ⟨⟨_, rfl, rfl⟩, all_nil⟩ rfl ?_
  have hl1 : LdOk [] (eA64u8 a1) [] 64 true (eA64u8 a1) := (.nil rfl rfl rfl)
  refine a_val (v := (eA64u8 a1)) (u := []) (ld_own (i := ⟨.arr 64 5, 64, 64, (eA64u8 (vrep 64 (0 : Int)))⟩) rfl rfl rfl hl1) hl1.c rfl ?_
  obtain ⟨r2, hr3, h⟩ := bind_some h
  refine a_call (args := [(eA64u8 a1)]) (u := []) (r := (.int .i64 r2)) rfl rfl (spec_l01Deg_ok a1 r2 hr3) rfl ?_
  refine a_val (v := (.own 1800 [] [])) (u := [(1800, some ⟨(eA64u8 ((vrep 64 (0 : Int)))), false⟩)]) rfl trivial rfl ?_
  have hs4 : StOk [] (eA64u8 ((vrep 64 (0 : Int)))) [] 64 (eA64u8 ((vrep 64 (0 : Int)))) (eA64u8 ((vrep 64 (0 : Int)))) := (.nil rfl rfl rfl rfl)
  refine a_val (v := .top) (u := [(1800, some ⟨(eA64u8 ((vrep 64 (0 : Int)))), false⟩)]) (st_own (i := ⟨.arr 64 5, 64, 64, (eA64u8 (vrep 64 (0 : Int)))⟩) rfl rfl (fun _ => rfl) rfl hs4) (hs4.c rfl) rfl ?_
  refine a_val (v := (.int .i64 r2)) (u := []) rfl trivial rfl ?_
  refine a_nil ?_
  refine a_next (σ' := ⟨[(0, (.int .i64 a0)), (2, (.int .i64 a2)), (4, (.own 4 [] [])), (6, (.own 6 [] [])), (8, (.own 8 [] [])), (9, (.int .i64 r2))], [(4, some ⟨(eA64u8 a1), false⟩), (6, some ⟨(eA64u8 ((vrep 64 (0 : Int)))), false⟩), (8, some ⟨(eA64u8 ((vrep 64 (0 : Int)))), false⟩)]⟩) rfl ?_
  obtain ⟨y498, hy499, hk500⟩ := bind_some h
  clear h
  refine a_join (emb := fun (s : (Vec Int 64)) => ⟨[(6, (.own 6 [] [])), (8, (.own 8 [] []))], [(6, some ⟨(eA64u8 ((vrep 64 (0 : Int)))), false⟩), (8, some ⟨(eA64u8 s), false⟩)]⟩) (pre := fun s => (.inl s) = y498) ?_ ?_
  · rintro x497 rfl
    have h := hk500
    refine a_st (σ' := ⟨[(6, (.own 6 [] [])), (8, (.own 8 [] []))], [(6, some ⟨(eA64u8 ((vrep 64 (0 : Int)))), false⟩), (8, some ⟨(eA64u8 x497), false⟩)]⟩) rfl ?_
    refine a_seq ?_
    refine a_region ?_
    have hl994 : LdOk [] (eA64u8 x497) [] 64 true (eA64u8 x497) := (.nil rfl rfl rfl)
    refine a_val (v := (eA64u8 x497)) (u := []) (ld_own (i := ⟨.arr 64 5, 64, 64, (eA64u8 (vrep 64 (0 : Int)))⟩) rfl rfl rfl hl994) hl994.c rfl ?_
    have hs995 : StOk [] (eA64u8 ((vrep 64 (0 : Int)))) [] 64 (eA64u8 x497) (eA64u8 x497) := (.nil rfl rfl rfl rfl)
    refine a_val (v := .top) (u := [(6, some ⟨(eA64u8 x497), false⟩)]) (st_own (i := ⟨.arr 64 5, 64, 64, (eA64u8 (vrep 64 (0 : Int)))⟩) rfl rfl (fun _ => rfl) rfl hs995) (hs995.c rfl) rfl ?_
    refine a_val (v := (.bool true)) (u := []) rfl trivial rfl ?_
    refine a_nil ?_
    refine a_next rfl ?_
    refine a_ret ?_
    have hl996 : LdOk [] (eA64u8 x497) [] 64 true (eA64u8 x497) := (.nil rfl rfl rfl)
    refine ⟨.inr rfl, ?_⟩
    rw [Try.results133]
    cases h
    exact ⟨_, _, _, _, _, ld_own (i := ⟨.arr 64 5, 64, 64, (eA64u8 (vrep 64 (0 : Int)))⟩) rfl rfl rfl hl996, hl996.c, .inl ⟨rfl, .inl rfl⟩, rfl, ⟨_, _, _, _, _, rfl, trivial, .inl ⟨rfl, .inl rfl⟩, rfl, rfl⟩⟩
  · have h := hy499
    refine a_seq ?_
    refine a_region ?_
    refine a_val (v := (.int .i64 0)) (u := []) rfl trivial rfl ?_
    refine a_nil ?_
    refine a_next (σ' := ⟨[(0, (.int .i64 a0)), (2, (.int .i64 a2)), (4, (.own 4 [] [])), (6, (.own 6 [] [])), (8, (.own 8 [] [])), (9, (.int .i64 r2)), (10, (.int .i64 0))], [(4, some ⟨(eA64u8 a1), false⟩), (6, some ⟨(eA64u8 ((vrep 64 (0 : Int)))), false⟩), (8, some ⟨(eA64u8 ((vrep 64 (0 : Int)))), false⟩)]⟩) rfl ?_
    refine a_block ?_
    refine a_loop (emb := fun (s : (Int × (Vec Int 64))) => ⟨[(0, (.int .i64 a0)), (2, (.int .i64 a2)), (4, (.own 4 [] [])), (6, (.own 6 [] [])), (8, (.own 8 [] [])), (9, (.int .i64 r2)), (10, (.int .i64 s.1))], [(4, some ⟨(eA64u8 a1), false⟩), (6, some ⟨(eA64u8 ((vrep 64 (0 : Int)))), false⟩), (8, some ⟨(eA64u8 s.2), false⟩)]⟩) (body := (fun s : (Int × (Vec Int 64)) => spec_l04Raise_l1 r2 a1 a2 a0 s.1 s.2)) (G := fun q => some q = some y498) h rfl ?_ rfl
    rintro X827 ⟨x663, x664⟩ x828 h hX829
    have h : spec_l04Raise_l1 r2 a1 a2 a0 x663 x664 = some x828 := h
    refine a_st (σ' := ⟨[(0, (.int .i64 a0)), (2, (.int .i64 a2)), (4, (.own 4 [] [])), (6, (.own 6 [] [])), (8, (.own 8 [] [])), (9, (.int .i64 r2)), (10, (.int .i64 x663))], [(4, some ⟨(eA64u8 a1), false⟩), (6, some ⟨(eA64u8 ((vrep 64 (0 : Int)))), false⟩), (8, some ⟨(eA64u8 x664), false⟩)]⟩) rfl ?_
    refine a_seq ?_
    refine a_seq ?_
    refine a_region ?_
    refine a_val (v := (.int .i64 x663)) (u := []) rfl trivial rfl ?_
    refine a_val (v := (.int .i64 r2)) (u := []) rfl trivial rfl ?_
    refine a_val (v := (.bool ((decide (x663 ≤ r2))))) (u := []) rfl trivial rfl ?_
    refine a_nil ?_
    refine a_next (σ' := ⟨[(0, (.int .i64 a0)), (2, (.int .i64 a2)), (4, (.own 4 [] [])), (6, (.own 6 [] [])), (8, (.own 8 [] [])), (9, (.int .i64 r2)), (10, (.int .i64 x663)), (18, (.bool ((decide (x663 ≤ r2)))))], [(4, some ⟨(eA64u8 a1), false⟩), (6, some ⟨(eA64u8 ((vrep 64 (0 : Int)))), false⟩), (8, some ⟨(eA64u8 x664), false⟩)]⟩) rfl ?_
    cases hb830 : (decide (x663 ≤ r2))
    · have h := ite_f hb830 h
      refine a_cond_f rfl ?_
      refine a_exit ?_
      refine t_exit ?_
      cases h
      have h := hX829
      refine t_exit ?_
      refine b_exit ?_
      exact j_leaf x664 (Option.some.inj h) rfl
    · have h := ite_t hb830 h
      refine a_cond_t rfl ?_
      refine a_skip ?_
      refine a_next (σ' := ⟨[(0, (.int .i64 a0)), (2, (.int .i64 a2)), (4, (.own 4 [] [])), (6, (.own 6 [] [])), (8, (.own 8 [] [])), (9, (.int .i64 r2)), (10, (.int .i64 x663))], [(4, some ⟨(eA64u8 a1), false⟩), (6, some ⟨(eA64u8 ((vrep 64 (0 : Int)))), false⟩), (8, some ⟨(eA64u8 x664), false⟩)]⟩) rfl ?_
      obtain ⟨y910, hy911, hk912⟩ := bind_some h
      clear h
      refine a_join (emb := fun (s : (Vec Int 64)) => ⟨[(0, (.int .i64 a0)), (2, (.int .i64 a2)), (4, (.own 4 [] [])), (6, (.own 6 [] [])), (8, (.own 8 [] [])), (9, (.int .i64 r2)), (10, (.int .i64 x663))], [(4, some ⟨(eA64u8 a1), false⟩), (6, some ⟨(eA64u8 ((vrep 64 (0 : Int)))), false⟩), (8, some ⟨(eA64u8 s), false⟩)]⟩) (pre := fun s => (.inl s) = y910) ?_ ?_
      · rintro x909 rfl
        have h := hk912
        refine a_st (σ' := ⟨[(0, (.int .i64 a0)), (2, (.int .i64 a2)), (4, (.own 4 [] [])), (6, (.own 6 [] [])), (8, (.own 8 [] [])), (9, (.int .i64 r2)), (10, (.int .i64 x663))], [(4, some ⟨(eA64u8 a1), false⟩), (6, some ⟨(eA64u8 ((vrep 64 (0 : Int)))), false⟩), (8, some ⟨(eA64u8 x909), false⟩)]⟩) rfl ?_
        refine a_region ?_
        refine a_val (v := (.int .i64 x663)) (u := []) rfl trivial rfl ?_
        refine a_val (v := (.int .i64 (IntKind.i64.wrap (x663 + 1)))) (u := []) rfl trivial rfl ?_
        refine a_val (v := (.int .i64 (IntKind.i64.wrap (x663 + 1)))) (u := []) rfl trivial rfl ?_
        refine a_nil ?_
        cases h
        exact a_again rfl hX829
      · have h := hy911
        refine a_block ?_
        refine a_seq ?_
        refine a_seq ?_
        refine a_region ?_
        refine a_val (v := (.int .i64 x663)) (u := []) rfl trivial rfl ?_
        obtain ⟨hc913, h⟩ := ifp_some h
        refine a_val (v := (.own 4 [x663.toNat] [x663.toNat * 1])) (u := []) rfl hc913 rfl ?_
        have hl914 : LdOk [x663.toNat] (eA64u8 a1) [x663.toNat * 1] 1 false (.int .u8 (rd a1.1 x663.toNat)) := (.arr (vlt a1 hc913) rfl (.nil rfl rfl rfl))
        refine a_val (v := (.int .u8 (rd a1.1 x663.toNat))) (u := []) (ld_own (i := ⟨.int .u8, 1, 1, (.int .u8 0)⟩) rfl rfl rfl hl914) hl914.c rfl ?_
        refine a_val (v := (.bool (((rd a1.1 x663.toNat) == 0)))) (u := []) rfl trivial rfl ?_
        refine a_nil ?_
        refine a_next (σ' := ⟨[(0, (.int .i64 a0)), (2, (.int .i64 a2)), (4, (.own 4 [] [])), (6, (.own 6 [] [])), (8, (.own 8 [] [])), (9, (.int .i64 r2)), (10, (.int .i64 x663)), (24, (.bool (((rd a1.1 x663.toNat) == 0))))], [(4, some ⟨(eA64u8 a1), false⟩), (6, some ⟨(eA64u8 ((vrep 64 (0 : Int)))), false⟩), (8, some ⟨(eA64u8 x664), false⟩)]⟩) rfl ?_
        cases hb915 : ((rd a1.1 x663.toNat) == 0)
        · have h := ite_f hb915 h
          refine a_cond_f rfl ?_
          refine a_skip ?_
          refine a_next (σ' := ⟨[(0, (.int .i64 a0)), (2, (.int .i64 a2)), (4, (.own 4 [] [])), (6, (.own 6 [] [])), (8, (.own 8 [] [])), (9, (.int .i64 r2)), (10, (.int .i64 x663))], [(4, some ⟨(eA64u8 a1), false⟩), (6, some ⟨(eA64u8 ((vrep 64 (0 : Int)))), false⟩), (8, some ⟨(eA64u8 x664), false⟩)]⟩) rfl ?_
          refine a_seq ?_
          refine a_region ?_
          refine a_val (v := (.int .i64 x663)) (u := []) rfl trivial rfl ?_
          refine a_val (v := (.int .i64 x663)) (u := []) rfl trivial rfl ?_
          refine a_nil ?_
          refine a_next (σ' := ⟨[(0, (.int .i64 a0)), (2, (.int .i64 a2)), (4, (.own 4 [] [])), (6, (.own 6 [] [])), (8, (.own 8 [] [])), (9, (.int .i64 r2)), (10, (.int .i64 x663)), (11, (.int .i64 x663))], [(4, some ⟨(eA64u8 a1), false⟩), (6, some ⟨(eA64u8 ((vrep 64 (0 : Int)))), false⟩), (8, some ⟨(eA64u8 x664), false⟩)]⟩) rfl ?_
          obtain ⟨y950, hy951, hk952⟩ := bind_some h
          clear h
          refine a_join (emb := fun (s : Int) => ⟨[(0, (.int .i64 a0)), (2, (.int .i64 a2)), (4, (.own 4 [] [])), (6, (.own 6 [] [])), (8, (.own 8 [] [])), (9, (.int .i64 r2)), (10, (.int .i64 x663)), (11, (.int .i64 s))], [(4, some ⟨(eA64u8 a1), false⟩), (6, some ⟨(eA64u8 ((vrep 64 (0 : Int)))), false⟩), (8, some ⟨(eA64u8 x664), false⟩)]⟩) (pre := fun s => (.inl s) = y950) ?_ ?_
          · rintro x949 rfl
            have h := hk952
            refine a_st (σ' := ⟨[(0, (.int .i64 a0)), (2, (.int .i64 a2)), (4, (.own 4 [] [])), (6, (.own 6 [] [])), (8, (.own 8 [] [])), (9, (.int .i64 r2)), (10, (.int .i64 x663)), (11, (.int .i64 x949))], [(4, some ⟨(eA64u8 a1), false⟩), (6, some ⟨(eA64u8 ((vrep 64 (0 : Int)))), false⟩), (8, some ⟨(eA64u8 x664), false⟩)]⟩) rfl ?_
            refine a_region ?_
            refine a_val (v := (.int .i64 x949)) (u := []) rfl trivial rfl ?_
            refine a_val (v := (.int .i64 x663)) (u := []) rfl trivial rfl ?_
            obtain ⟨hc987, h⟩ := ifp_some h
            refine a_val (v := (.own 4 [x663.toNat] [x663.toNat * 1])) (u := []) rfl hc987 rfl ?_
            have hl988 : LdOk [x663.toNat] (eA64u8 a1) [x663.toNat * 1] 1 false (.int .u8 (rd a1.1 x663.toNat)) := (.arr (vlt a1 hc987) rfl (.nil rfl rfl rfl))
            refine a_val (v := (.int .u8 (rd a1.1 x663.toNat))) (u := []) (ld_own (i := ⟨.int .u8, 1, 1, (.int .u8 0)⟩) rfl rfl rfl hl988) hl988.c rfl ?_
            obtain ⟨hc989, h⟩ := ifp_some h
            refine a_val (v := (.own 8 [x949.toNat] [x949.toNat * 1])) (u := []) rfl hc989 rfl ?_
            have hs990 : StOk [x949.toNat] (eA64u8 x664) [x949.toNat * 1] 1 (.int .u8 (rd a1.1 x663.toNat)) (eA64u8 ((vset x664 x949.toNat (rd a1.1 x663.toNat)))) := (.arr (y := (rd a1.1 x663.toNat)) (vlt x664 hc989) rfl (.nil rfl rfl rfl rfl))
            refine a_val (v := .top) (u := [(8, some ⟨(eA64u8 ((vset x664 x949.toNat (rd a1.1 x663.toNat)))), false⟩)]) (st_own (i := ⟨.int .u8, 1, 1, (.int .u8 0)⟩) rfl rfl (fun _ => rfl) rfl hs990) (hs990.c rfl) rfl ?_
            refine a_nil ?_
            refine b_norm ?_
            exact j_leaf ((vset x664 x949.toNat (rd a1.1 x663.toNat))) (Option.some.inj h) rfl
          · have h := hy951
            refine a_seq ?_
            refine a_region ?_
            refine a_val (v := (.int .i64 0)) (u := []) rfl trivial rfl ?_
            refine a_nil ?_
            refine a_next (σ' := ⟨[(0, (.int .i64 a0)), (2, (.int .i64 a2)), (4, (.own 4 [] [])), (6, (.own 6 [] [])), (8, (.own 8 [] [])), (9, (.int .i64 r2)), (10, (.int .i64 x663)), (11, (.int .i64 x663)), (12, (.int .i64 0))], [(4, some ⟨(eA64u8 a1), false⟩), (6, some ⟨(eA64u8 ((vrep 64 (0 : Int)))), false⟩), (8, some ⟨(eA64u8 x664), false⟩)]⟩) rfl ?_
            refine a_block ?_
            refine a_loop (emb := fun (s : (Int × Int)) => ⟨[(0, (.int .i64 a0)), (2, (.int .i64 a2)), (4, (.own 4 [] [])), (6, (.own 6 [] [])), (8, (.own 8 [] [])), (9, (.int .i64 r2)), (10, (.int .i64 x663)), (11, (.int .i64 s.1)), (12, (.int .i64 s.2))], [(4, some ⟨(eA64u8 a1), false⟩), (6, some ⟨(eA64u8 ((vrep 64 (0 : Int)))), false⟩), (8, some ⟨(eA64u8 x664), false⟩)]⟩) (body := (fun s : (Int × Int) => spec_l04Raise_l2 a2 a0 s.1 s.2)) (G := fun q => some q = some y950) h rfl ?_ rfl
            rintro X973 ⟨x962, x963⟩ x974 h hX975
            have h : spec_l04Raise_l2 a2 a0 x962 x963 = some x974 := h
            refine a_st (σ' := ⟨[(0, (.int .i64 a0)), (2, (.int .i64 a2)), (4, (.own 4 [] [])), (6, (.own 6 [] [])), (8, (.own 8 [] [])), (9, (.int .i64 r2)), (10, (.int .i64 x663)), (11, (.int .i64 x962)), (12, (.int .i64 x963))], [(4, some ⟨(eA64u8 a1), false⟩), (6, some ⟨(eA64u8 ((vrep 64 (0 : Int)))), false⟩), (8, some ⟨(eA64u8 x664), false⟩)]⟩) rfl ?_
            refine a_seq ?_
            obtain ⟨y978, hy979, hk980⟩ := bind_some h
            clear h
            refine a_join (emb := fun (s : Bool) => ⟨[(0, (.int .i64 a0)), (2, (.int .i64 a2)), (4, (.own 4 [] [])), (6, (.own 6 [] [])), (8, (.own 8 [] [])), (9, (.int .i64 r2)), (10, (.int .i64 x663)), (11, (.int .i64 x962)), (12, (.int .i64 x963)), (32, (.bool s))], [(4, some ⟨(eA64u8 a1), false⟩), (6, some ⟨(eA64u8 ((vrep 64 (0 : Int)))), false⟩), (8, some ⟨(eA64u8 x664), false⟩)]⟩) (pre := fun s => s = y978) ?_ ?_
            · rintro x977 rfl
              have h := hk980
              refine a_st (σ' := ⟨[(0, (.int .i64 a0)), (2, (.int .i64 a2)), (4, (.own 4 [] [])), (6, (.own 6 [] [])), (8, (.own 8 [] [])), (9, (.int .i64 r2)), (10, (.int .i64 x663)), (11, (.int .i64 x962)), (12, (.int .i64 x963)), (32, (.bool x977))], [(4, some ⟨(eA64u8 a1), false⟩), (6, some ⟨(eA64u8 ((vrep 64 (0 : Int)))), false⟩), (8, some ⟨(eA64u8 x664), false⟩)]⟩) rfl ?_
              cases hb982 : x977
              · have h := ite_f hb982 h
                refine a_cond_f rfl ?_
                refine a_exit ?_
                refine t_exit ?_
                cases h
                have h := hX975
                refine t_exit ?_
                refine b_exit ?_
                exact j_leaf x962 (Option.some.inj h) rfl
              · have h := ite_t hb982 h
                refine a_cond_t rfl ?_
                refine a_skip ?_
                refine a_next (σ' := ⟨[(0, (.int .i64 a0)), (2, (.int .i64 a2)), (4, (.own 4 [] [])), (6, (.own 6 [] [])), (8, (.own 8 [] [])), (9, (.int .i64 r2)), (10, (.int .i64 x663)), (11, (.int .i64 x962)), (12, (.int .i64 x963))], [(4, some ⟨(eA64u8 a1), false⟩), (6, some ⟨(eA64u8 ((vrep 64 (0 : Int)))), false⟩), (8, some ⟨(eA64u8 x664), false⟩)]⟩) rfl ?_
                refine a_seq ?_
                refine a_block ?_
                refine a_seq ?_
                refine a_region ?_
                refine a_val (v := (.int .i64 x962)) (u := []) rfl trivial rfl ?_
                refine a_val (v := (.int .i64 a0)) (u := []) rfl trivial rfl ?_
                refine a_val (v := (.int .i64 (IntKind.i64.wrap (x962 * a0)))) (u := []) rfl trivial rfl ?_
                refine a_val (v := (.int .i64 (IntKind.i64.wrap (x962 * a0)))) (u := []) rfl trivial rfl ?_
                refine a_nil ?_
                refine a_next (σ' := ⟨[(0, (.int .i64 a0)), (2, (.int .i64 a2)), (4, (.own 4 [] [])), (6, (.own 6 [] [])), (8, (.own 8 [] [])), (9, (.int .i64 r2)), (10, (.int .i64 x663)), (11, (.int .i64 (IntKind.i64.wrap (x962 * a0)))), (12, (.int .i64 x963))], [(4, some ⟨(eA64u8 a1), false⟩), (6, some ⟨(eA64u8 ((vrep 64 (0 : Int)))), false⟩), (8, some ⟨(eA64u8 x664), false⟩)]⟩) rfl ?_
                refine a_seq ?_
                refine a_region ?_
                refine a_val (v := (.int .i64 (IntKind.i64.wrap (x962 * a0)))) (u := []) rfl trivial rfl ?_
                refine a_val (v := (.bool ((decide ((IntKind.i64.wrap (x962 * a0)) > 63))))) (u := []) rfl trivial rfl ?_
                refine a_nil ?_
                refine a_next (σ' := ⟨[(0, (.int .i64 a0)), (2, (.int .i64 a2)), (4, (.own 4 [] [])), (6, (.own 6 [] [])), (8, (.own 8 [] [])), (9, (.int .i64 r2)), (10, (.int .i64 x663)), (11, (.int .i64 (IntKind.i64.wrap (x962 * a0)))), (12, (.int .i64 x963)), (39, (.bool ((decide ((IntKind.i64.wrap (x962 * a0)) > 63)))))], [(4, some ⟨(eA64u8 a1), false⟩), (6, some ⟨(eA64u8 ((vrep 64 (0 : Int)))), false⟩), (8, some ⟨(eA64u8 x664), false⟩)]⟩) rfl ?_
                cases hb983 : (decide ((IntKind.i64.wrap (x962 * a0)) > 63))
                · have h := ite_f hb983 h
                  refine a_cond_f rfl ?_
                  refine a_skip ?_
                  refine b_norm ?_
                  refine a_next (σ' := ⟨[(0, (.int .i64 a0)), (2, (.int .i64 a2)), (4, (.own 4 [] [])), (6, (.own 6 [] [])), (8, (.own 8 [] [])), (9, (.int .i64 r2)), (10, (.int .i64 x663)), (11, (.int .i64 (IntKind.i64.wrap (x962 * a0)))), (12, (.int .i64 x963))], [(4, some ⟨(eA64u8 a1), false⟩), (6, some ⟨(eA64u8 ((vrep 64 (0 : Int)))), false⟩), (8, some ⟨(eA64u8 x664), false⟩)]⟩) rfl ?_
                  refine a_region ?_
                  refine a_val (v := (.int .i64 x963)) (u := []) rfl trivial rfl ?_
                  refine a_val (v := (.int .i64 (IntKind.i64.wrap (x963 + 1)))) (u := []) rfl trivial rfl ?_
                  refine a_val (v := (.int .i64 (IntKind.i64.wrap (x963 + 1)))) (u := []) rfl trivial rfl ?_
                  refine a_nil ?_
                  cases h
                  exact a_again rfl hX975
                · have h := ite_t hb983 h
                  refine a_cond_t rfl ?_
                  refine a_seq ?_
                  refine a_region ?_
                  refine a_val (v := (eA64u8 ((vrep 64 (0 : Int))))) (u := []) rfl ⟨⟨_, rfl, rfl⟩, all_nil⟩ rfl ?_
                  have hs984 : StOk [] (eA64u8 ((vrep 64 (0 : Int)))) [] 64 (eA64u8 ((vrep 64 (0 : Int)))) (eA64u8 ((vrep 64 (0 : Int)))) := (.nil rfl rfl rfl rfl)
                  refine a_val (v := .top) (u := [(6, some ⟨(eA64u8 ((vrep 64 (0 : Int)))), false⟩)]) (st_own (i := ⟨.arr 64 5, 64, 64, (eA64u8 (vrep 64 (0 : Int)))⟩) rfl rfl (fun _ => rfl) rfl hs984) (hs984.c rfl) rfl ?_
                  refine a_val (v := (.bool false)) (u := []) rfl trivial rfl ?_
                  refine a_nil ?_
                  refine a_next rfl ?_
                  refine a_ret ?_
                  refine b_ret ?_
                  refine t_ret ?_
                  cases h
                  have h := hX975
                  refine t_ret ?_
                  refine b_ret ?_
                  refine t_ret ?_
                  cases h
                  have h := hk952
                  refine b_ret ?_
                  refine t_ret ?_
                  cases h
                  have h := hk912
                  cases h
                  have h := hX829
                  refine t_ret ?_
                  refine b_ret ?_
                  refine t_ret ?_
                  cases h
                  have h := hk500
                  have hl985 : LdOk [] (eA64u8 ((vrep 64 (0 : Int)))) [] 64 true (eA64u8 ((vrep 64 (0 : Int)))) := (.nil rfl rfl rfl)
                  refine ⟨.inr rfl, ?_⟩
                  rw [Try.results133]
                  cases h
                  exact ⟨_, _, _, _, _, ld_own (i := ⟨.arr 64 5, 64, 64, (eA64u8 (vrep 64 (0 : Int)))⟩) rfl rfl rfl hl985, hl985.c, .inl ⟨rfl, .inl rfl⟩, rfl, ⟨_, _, _, _, _, rfl, trivial, .inl ⟨rfl, .inl rfl⟩, rfl, rfl⟩⟩
            · have h := hy979
              refine a_region ?_
              refine a_val (v := (.int .i64 x963)) (u := []) rfl trivial rfl ?_
              refine a_val (v := (.int .i64 a2)) (u := []) rfl trivial rfl ?_
              refine a_val (v := (.bool ((decide (x963 < a2))))) (u := []) rfl trivial rfl ?_
              refine a_val (v := (.bool ((decide (x963 < a2))))) (u := []) rfl trivial rfl ?_
              cases hb981 : (decide (x963 < a2))
              · have h := ite_f hb981 h
                refine a_gskip rfl ?_
                refine a_gskip rfl ?_
                refine a_val (v := (.bool false)) (u := []) rfl trivial rfl ?_
                refine a_nil ?_
                exact j_leaf false (Option.some.inj h) rfl
              · have h := ite_t hb981 h
                refine a_gval rfl (v := (.int .i64 x962)) (u := []) rfl trivial rfl ?_
                refine a_gval rfl (v := (.bool ((decide (x962 > 0))))) (u := []) rfl trivial rfl ?_
                refine a_val (v := (.bool ((decide (x962 > 0))))) (u := []) rfl trivial rfl ?_
                refine a_nil ?_
                exact j_leaf ((decide (x962 > 0))) (Option.some.inj h) rfl
        · have h := ite_t hb915 h
          refine a_cond_t rfl ?_
          refine a_exit ?_
          refine t_exit ?_
          refine b_exit ?_
          exact j_leaf x664 (Option.some.inj h) rfl
def spec_l01Add_c : ACode := (.seq (.region 0 [⟨some 5, .box 23 (.tmp 1), none, []⟩, ⟨some 6, .box 23 (.tmp 2), none, []⟩, ⟨some 8, .alloc 23, none, []⟩] false) (.seq (.seq (.region 1 [⟨some 9, .asg 0 (.const (.int .i64 0)) 3, none, []⟩] false) (.block 0 (.loop (.seq (.seq (.region 2 [⟨some 10, .mov (.tmp 9), none, []⟩, ⟨some 11, .bin .lss 3 (.tmp 10) (.const (.int .i64 64)), none, []⟩] false) (.cond (.tmp 11) .skip (.exit 0))) (.seq (.block 1 (.region 4 [⟨some 14, .mov (.tmp 9), none, []⟩, ⟨some 15, .mov (.tmp 9), none, []⟩, ⟨some 16, .indexAddr 23 (.tmp 5) (.tmp 15), none, [1]⟩, ⟨some 17, .load 5 (.tmp 16), none, [2]⟩, ⟨some 18, .conv 5 2 (.tmp 17), none, [3]⟩, ⟨some 19, .mov (.tmp 3), none, []⟩, ⟨some 20, .mov (.tmp 9), none, []⟩, ⟨some 21, .indexAddr 23 (.tmp 6) (.tmp 20), none, [6]⟩, ⟨some 22, .load 5 (.tmp 21), none, [7]⟩, ⟨some 23, .conv 5 2 (.tmp 22), none, [8]⟩, ⟨some 24, .bin .mul 2 (.tmp 19) (.tmp 23), none, [5, 9]⟩, ⟨some 25, .bin .add 2 (.tmp 18) (.tmp 24), none, [4, 10]⟩, ⟨some 26, .mov (.tmp 0), none, []⟩, ⟨some 27, .bin .rem 2 (.tmp 25) (.tmp 26), none, [11, 12]⟩, ⟨some 28, .mov (.tmp 0), none, []⟩, ⟨some 29, .bin .add 2 (.tmp 27) (.tmp 28), none, [13, 14]⟩, ⟨some 30, .mov (.tmp 0), none, []⟩, ⟨some 31, .bin .rem 2 (.tmp 29) (.tmp 30), none, [15, 16]⟩, ⟨some 32, .conv 2 5 (.tmp 31), none, [17]⟩, ⟨some 33, .indexAddr 23 (.tmp 5) (.tmp 14), none, [0, 0, 1, 2, 3, 4, 5, 6, 7, 8, 9, 10, 11, 12, 13, 14, 15, 16, 17, 18]⟩, ⟨none, .store 5 (.tmp 33) (.tmp 32), none, [19, 18, 0, 1, 2, 3, 4, 5, 6, 7, 8, 9, 10, 11, 12, 13, 14, 15, 16, 17, 18]⟩] true)) (.region 3 [⟨some 12, .mov (.tmp 9), none, []⟩, ⟨some 13, .bin .add 3 (.tmp 12) (.const (.int .i64 1)), none, []⟩, ⟨some 9, .asg 0 (.tmp 13) 3, none, []⟩] false)))))) (.seq (.region 5 [⟨some 34, .load 23 (.tmp 5), none, []⟩, ⟨none, .store 23 (.tmp 8) (.tmp 34), none, []⟩] false) .ret)))
def spec_l01Add_L : Live := [(0, [0, 1, 2, 3]), (1, [0, 3, 5, 6, 8]), (2, [0, 3, 5, 6, 8, 9]), (3, [0, 3, 5, 6, 8, 9]), (4, [0, 3, 5, 6, 8, 9]), (5, [5, 8]), (100011, [0, 3, 5, 6, 8, 9, 11])]
theorem spec_l01Add_body : Try.f51.body = some (Try.f51.body.getD .skip) := by kernel_rfl
theorem spec_l01Add_strip : strip [] (Try.f51.body.getD .skip) = spec_l01Add_c := by kernel_rfl
noncomputable def spec_l01Add_l1 (a3 : Int) (a2 : (Vec Int 64)) (a0 : Int) (x119 : Int) (x120 : (Vec Int 64)) : Option ((Int × (Vec Int 64)) ⊕ (Vec Int 64)) :=
  (if (decide (x119 < 64)) then (ifp (0 ≤ x119 ∧ x119 < ((64 : Nat) : Int)) ((ifp (0 ≤ x119 ∧ x119 < ((64 : Nat) : Int)) ((letp (IntKind.i64.wrap (a3 * (IntKind.i64.wrap (rd a2.1 x119.toNat)))) fun x172 => (letp (IntKind.i64.wrap ((IntKind.i64.wrap (rd x120.1 x119.toNat)) + x172)) fun x174 => (ifp (a0 ≠ 0) ((ifp (a0 ≠ 0) ((letp (IntKind.u8.wrap (Int.tmod (IntKind.i64.wrap ((Int.tmod x174 a0) + a0)) a0)) fun x178 => (ifp (0 ≤ x119 ∧ x119 < ((64 : Nat) : Int)) ((some (.inl ((IntKind.i64.wrap (x119 + 1), (vset x120 x119.toNat x178)))))))))))))))))) else (some (.inr x120)))
noncomputable def spec_l01Add (a0 : Int) (a1 : (Vec Int 64)) (a2 : (Vec Int 64)) (a3 : Int) : Option (Vec Int 64) :=
  (Option.bind (α := (Vec Int 64)) ((loopM (fun s : (Int × (Vec Int 64)) => spec_l01Add_l1 a3 a2 a0 s.1 s.2) (0, a1))) fun x90 => (some x90))
set_option maxHeartbeats 16000000 in
theorem spec_l01Add_ok (a0 : Int) (a1 : (Vec Int 64)) (a2 : (Vec Int 64)) (a3 : Int) (r : (Vec Int 64)) (h : spec_l01Add a0 a1 a2 a3 = some r) : Den Try.prog 51 [(.int .i64 a0), (eA64u8 a1), (eA64u8 a2), (.int .i64 a3)] { r := (eA64u8 r) } := by
  refine den_of (rs := [(eA64u8 r)]) (ac := spec_l01Add_c) (L := spec_l01Add_L) (n := 35) (m := []) good Try.func51 spec_l01Add_body (by kernel_rfl) Try.ntmps51 rfl rfl spec_l01Add_strip rfl rfl ?_
  refine a_st (σ' := ⟨[(0, (.int .i64 a0)), (1, (eA64u8 a1)), (2, (eA64u8 a2)), (3, (.int .i64 a3))], []⟩) rfl ?_
  unfold spec_l01Add_c
  refine a_seq ?_
  refine a_region ?_
  refine a_val (v := (.own 1500 [] [])) (u := [(1500, some ⟨(eA64u8 a1), false⟩)]) rfl trivial rfl ?_
  refine a_val (v := (.own 1600 [] [])) (u := [(1600, some ⟨(eA64u8 a2), false⟩)]) rfl trivial rfl ?_
  refine a_val (v := (.own 1800 [] [])) (u := [(1800, some ⟨(eA64u8 ((vrep 64 (0 : Int)))), false⟩)]) rfl trivial rfl ?_
  refine a_nil ?_
  refine a_next (σ' := ⟨[(0, (.int .i64 a0)), (3, (.int .i64 a3)), (5, (.own 5 [] [])), (6, (.own 6 [] [])), (8, (.own 8 [] []))], [(5, some ⟨(eA64u8 a1), false⟩), (6, some ⟨(eA64u8 a2), false⟩), (8, some ⟨(eA64u8 ((vrep 64 (0 : Int)))), false⟩)]⟩) rfl ?_
  obtain ⟨y91, hy92, hk93⟩ := bind_some h
  clear h
  refine a_join (emb := fun (s : (Vec Int 64)) => ⟨[(5, (.own 5 [] [])), (8, (.own 8 [] []))], [(5, some ⟨(eA64u8 s), false⟩), (8, some ⟨(eA64u8 ((vrep 64 (0 : Int)))), false⟩)]⟩) (pre := fun s => s = y91) ?_ ?_
  · rintro x90 rfl
    have h := hk93
    refine a_st (σ' := ⟨[(5, (.own 5 [] [])), (8, (.own 8 [] []))], [(5, some ⟨(eA64u8 x90), false⟩), (8, some ⟨(eA64u8 ((vrep 64 (0 : Int)))), false⟩)]⟩) rfl ?_
    refine a_seq ?_
    refine a_region ?_
    have hl183 : LdOk [] (eA64u8 x90) [] 64 true (eA64u8 x90) := (.nil rfl rfl rfl)
    refine a_val (v := (eA64u8 x90)) (u := []) (ld_own (i := ⟨.arr 64 5, 64, 64, (eA64u8 (vrep 64 (0 : Int)))⟩) rfl rfl rfl hl183) hl183.c rfl ?_
    have hs184 : StOk [] (eA64u8 ((vrep 64 (0 : Int)))) [] 64 (eA64u8 x90) (eA64u8 x90) := (.nil rfl rfl rfl rfl)
    refine a_val (v := .top) (u := [(8, some ⟨(eA64u8 x90), false⟩)]) (st_own (i := ⟨.arr 64 5, 64, 64, (eA64u8 (vrep 64 (0 : Int)))⟩) rfl rfl (fun _ => rfl) rfl hs184) (hs184.c rfl) rfl ?_
    refine a_nil ?_
    refine a_next rfl ?_
    refine a_ret ?_
    have hl185 : LdOk [] (eA64u8 x90) [] 64 true (eA64u8 x90) := (.nil rfl rfl rfl)
    refine ⟨.inr rfl, ?_⟩
    rw [Try.results51]
    cases h
    exact ⟨_, _, _, _, _, ld_own (i := ⟨.arr 64 5, 64, 64, (eA64u8 (vrep 64 (0 : Int)))⟩) rfl rfl rfl hl185, hl185.c, .inl ⟨rfl, .inl rfl⟩, rfl, rfl⟩
  · have h := hy92
    refine a_seq ?_
    refine a_region ?_
    refine a_val (v := (.int .i64 0)) (u := []) rfl trivial rfl ?_
    refine a_nil ?_
    refine a_next (σ' := ⟨[(0, (.int .i64 a0)), (3, (.int .i64 a3)), (5, (.own 5 [] [])), (6, (.own 6 [] [])), (8, (.own 8 [] [])), (9, (.int .i64 0))], [(5, some ⟨(eA64u8 a1), false⟩), (6, some ⟨(eA64u8 a2), false⟩), (8, some ⟨(eA64u8 ((vrep 64 (0 : Int)))), false⟩)]⟩) rfl ?_
    refine a_block ?_
    refine a_loop (emb := fun (s : (Int × (Vec Int 64))) => ⟨[(0, (.int .i64 a0)), (3, (.int .i64 a3)), (5, (.own 5 [] [])), (6, (.own 6 [] [])), (8, (.own 8 [] [])), (9, (.int .i64 s.1))], [(5, some ⟨(eA64u8 s.2), false⟩), (6, some ⟨(eA64u8 a2), false⟩), (8, some ⟨(eA64u8 ((vrep 64 (0 : Int)))), false⟩)]⟩) (body := (fun s : (Int × (Vec Int 64)) => spec_l01Add_l1 a3 a2 a0 s.1 s.2)) (G := fun q => some q = some y91) h rfl ?_ rfl
    rintro X150 ⟨x119, x120⟩ x151 h hX152
    have h : spec_l01Add_l1 a3 a2 a0 x119 x120 = some x151 := h
    refine a_st (σ' := ⟨[(0, (.int .i64 a0)), (3, (.int .i64 a3)), (5, (.own 5 [] [])), (6, (.own 6 [] [])), (8, (.own 8 [] [])), (9, (.int .i64 x119))], [(5, some ⟨(eA64u8 x120), false⟩), (6, some ⟨(eA64u8 a2), false⟩), (8, some ⟨(eA64u8 ((vrep 64 (0 : Int)))), false⟩)]⟩) rfl ?_
    refine a_seq ?_
    refine a_seq ?_
    refine a_region ?_
    refine a_val (v := (.int .i64 x119)) (u := []) rfl trivial rfl ?_
    refine a_val (v := (.bool ((decide (x119 < 64))))) (u := []) rfl trivial rfl ?_
    refine a_nil ?_
    refine a_next (σ' := ⟨[(0, (.int .i64 a0)), (3, (.int .i64 a3)), (5, (.own 5 [] [])), (6, (.own 6 [] [])), (8, (.own 8 [] [])), (9, (.int .i64 x119)), (11, (.bool ((decide (x119 < 64)))))], [(5, some ⟨(eA64u8 x120), false⟩), (6, some ⟨(eA64u8 a2), false⟩), (8, some ⟨(eA64u8 ((vrep 64 (0 : Int)))), false⟩)]⟩) rfl ?_
    cases hb153 : (decide (x119 < 64))
    · have h := ite_f hb153 h
      refine a_cond_f rfl ?_
      refine a_exit ?_
      refine t_exit ?_
      cases h
      have h := hX152
      refine t_exit ?_
      refine b_exit ?_
      exact j_leaf x120 (Option.some.inj h) rfl
    · have h := ite_t hb153 h
      refine a_cond_t rfl ?_
      refine a_skip ?_
      refine a_next (σ' := ⟨[(0, (.int .i64 a0)), (3, (.int .i64 a3)), (5, (.own 5 [] [])), (6, (.own 6 [] [])), (8, (.own 8 [] [])), (9, (.int .i64 x119))], [(5, some ⟨(eA64u8 x120), false⟩), (6, some ⟨(eA64u8 a2), false⟩), (8, some ⟨(eA64u8 ((vrep 64 (0 : Int)))), false⟩)]⟩) rfl ?_
      refine a_seq ?_
      refine a_block ?_
      refine a_draw [⟨[], [], [], []⟩, ⟨[], [], [], []⟩, ⟨[5], [], [5], [1]⟩, ⟨[5], [], [], [1, 2]⟩, ⟨[], [], [], [1, 2, 3]⟩, ⟨[], [], [], []⟩, ⟨[], [], [], []⟩, ⟨[6], [], [6], [6]⟩, ⟨[6], [], [], [6, 7]⟩, ⟨[], [], [], [6, 7, 8]⟩, ⟨[], [], [], [5, 6, 7, 8, 9]⟩, ⟨[], [], [], [1, 2, 3, 4, 5, 6, 7, 8, 9, 10]⟩, ⟨[], [], [], []⟩, ⟨[], [], [], [1, 2, 3, 4, 5, 6, 7, 8, 9, 10, 11, 12]⟩, ⟨[], [], [], []⟩, ⟨[], [], [], [1, 2, 3, 4, 5, 6, 7, 8, 9, 10, 11, 12, 13, 14]⟩, ⟨[], [], [], []⟩, ⟨[], [], [], [1, 2, 3, 4, 5, 6, 7, 8, 9, 10, 11, 12, 13, 14, 15, 16]⟩, ⟨[], [], [], [1, 2, 3, 4, 5, 6, 7, 8, 9, 10, 11, 12, 13, 14, 15, 16, 17]⟩, ⟨[5], [], [5], [0, 1, 2, 3, 4, 5, 6, 7, 8, 9, 10, 11, 12, 13, 14, 15, 16, 17, 18]⟩, ⟨[5], [5], [], [0, 1, 2, 3, 4, 5, 6, 7, 8, 9, 10, 11, 12, 13, 14, 15, 16, 17, 18, 19]⟩] (by kernel_rfl) ?_
      refine d_cons ?_
      refine a_val (v := (.int .i64 x119)) (u := []) rfl trivial rfl ?_
      refine d_next rfl ?_
      refine d_cons ?_
      refine a_val (v := (.int .i64 x119)) (u := []) rfl trivial rfl ?_
      refine d_next rfl ?_
      refine d_cons ?_
      obtain ⟨hc168, h⟩ := ifp_some h
      refine a_val (v := (.own 5 [x119.toNat] [x119.toNat * 1])) (u := []) rfl hc168 rfl ?_
      refine d_next rfl ?_
      refine d_cons ?_
      have hl169 : LdOk [x119.toNat] (eA64u8 x120) [x119.toNat * 1] 1 false (.int .u8 (rd x120.1 x119.toNat)) := (.arr (vlt x120 hc168) rfl (.nil rfl rfl rfl))
      refine a_val (v := (.int .u8 (rd x120.1 x119.toNat))) (u := []) (ld_own (i := ⟨.int .u8, 1, 1, (.int .u8 0)⟩) rfl rfl rfl hl169) hl169.c rfl ?_
      refine d_next rfl ?_
      refine d_cons ?_
      refine a_val (v := (.int .i64 (IntKind.i64.wrap (rd x120.1 x119.toNat)))) (u := []) rfl trivial rfl ?_
      refine d_next rfl ?_
      refine d_cons ?_
      refine a_val (v := (.int .i64 a3)) (u := []) rfl trivial rfl ?_
      refine d_next rfl ?_
      refine d_cons ?_
      refine a_val (v := (.int .i64 x119)) (u := []) rfl trivial rfl ?_
      refine d_next rfl ?_
      refine d_cons ?_
      obtain ⟨hc170, h⟩ := ifp_some h
      refine a_val (v := (.own 6 [x119.toNat] [x119.toNat * 1])) (u := []) rfl hc170 rfl ?_
      refine d_next rfl ?_
      refine d_cons ?_
      have hl171 : LdOk [x119.toNat] (eA64u8 a2) [x119.toNat * 1] 1 false (.int .u8 (rd a2.1 x119.toNat)) := (.arr (vlt a2 hc170) rfl (.nil rfl rfl rfl))
      refine a_val (v := (.int .u8 (rd a2.1 x119.toNat))) (u := []) (ld_own (i := ⟨.int .u8, 1, 1, (.int .u8 0)⟩) rfl rfl rfl hl171) hl171.c rfl ?_
      refine d_next rfl ?_
      refine d_cons ?_
      refine a_val (v := (.int .i64 (IntKind.i64.wrap (rd a2.1 x119.toNat)))) (u := []) rfl trivial rfl ?_
      refine d_next rfl ?_
      refine d_cons ?_
      obtain ⟨x172, hx173, h⟩ := letp_some h
      refine a_val' (v := (.int .i64 (IntKind.i64.wrap (a3 * (IntKind.i64.wrap (rd a2.1 x119.toNat)))))) (v' := (.int .i64 x172)) (u := []) (u' := []) rfl (congrArg (fun z => ((.int .i64 z) : AV)) hx173) rfl trivial rfl ?_
      refine d_next rfl ?_
      refine d_cons ?_
      obtain ⟨x174, hx175, h⟩ := letp_some h
      refine a_val' (v := (.int .i64 (IntKind.i64.wrap ((IntKind.i64.wrap (rd x120.1 x119.toNat)) + x172)))) (v' := (.int .i64 x174)) (u := []) (u' := []) rfl (congrArg (fun z => ((.int .i64 z) : AV)) hx175) rfl trivial rfl ?_
      refine d_next rfl ?_
      refine d_cons ?_
      refine a_val (v := (.int .i64 a0)) (u := []) rfl trivial rfl ?_
      refine d_next rfl ?_
      refine d_cons ?_
      obtain ⟨hc176, h⟩ := ifp_some h
      refine a_val (v := (.int .i64 (Int.tmod x174 a0))) (u := []) rfl hc176 rfl ?_
      refine d_next rfl ?_
      refine d_cons ?_
      refine a_val (v := (.int .i64 a0)) (u := []) rfl trivial rfl ?_
      refine d_next rfl ?_
      refine d_cons ?_
      refine a_val (v := (.int .i64 (IntKind.i64.wrap ((Int.tmod x174 a0) + a0)))) (u := []) rfl trivial rfl ?_
      refine d_next rfl ?_
      refine d_cons ?_
      refine a_val (v := (.int .i64 a0)) (u := []) rfl trivial rfl ?_
      refine d_next rfl ?_
      refine d_cons ?_
      obtain ⟨hc177, h⟩ := ifp_some h
      refine a_val (v := (.int .i64 (Int.tmod (IntKind.i64.wrap ((Int.tmod x174 a0) + a0)) a0))) (u := []) rfl hc177 rfl ?_
      refine d_next rfl ?_
      refine d_cons ?_
      obtain ⟨x178, hx179, h⟩ := letp_some h
      refine a_val' (v := (.int .u8 (IntKind.u8.wrap (Int.tmod (IntKind.i64.wrap ((Int.tmod x174 a0) + a0)) a0)))) (v' := (.int .u8 x178)) (u := []) (u' := []) rfl (congrArg (fun z => ((.int .u8 z) : AV)) hx179) rfl trivial rfl ?_
      refine d_next rfl ?_
      refine d_cons ?_
      obtain ⟨hc180, h⟩ := ifp_some h
      refine a_val (v := (.own 5 [x119.toNat] [x119.toNat * 1])) (u := []) rfl hc180 rfl ?_
      refine d_next rfl ?_
      refine d_cons ?_
      have hs181 : StOk [x119.toNat] (eA64u8 x120) [x119.toNat * 1] 1 (.int .u8 x178) (eA64u8 (vset x120 x119.toNat x178)) := (.arr (y := x178) (vlt x120 hc180) rfl (.nil rfl rfl rfl rfl))
      refine a_val (v := .top) (u := [(5, some ⟨(eA64u8 (vset x120 x119.toNat x178)), false⟩)]) (st_own (i := ⟨.int .u8, 1, 1, (.int .u8 0)⟩) rfl rfl (fun _ => rfl) rfl hs181) (hs181.c rfl) rfl ?_
      refine d_next rfl ?_
      refine d_nil ?_
      refine b_norm ?_
      refine a_next (σ' := ⟨[(0, (.int .i64 a0)), (3, (.int .i64 a3)), (5, (.own 5 [] [])), (6, (.own 6 [] [])), (8, (.own 8 [] [])), (9, (.int .i64 x119))], [(5, some ⟨(eA64u8 (vset x120 x119.toNat x178)), false⟩), (6, some ⟨(eA64u8 a2), false⟩), (8, some ⟨(eA64u8 ((vrep 64 (0 : Int)))), false⟩)]⟩) rfl ?_
      refine a_region ?_
      refine a_val (v := (.int .i64 x119)) (u := []) rfl trivial rfl ?_
      refine a_val (v := (.int .i64 (IntKind.i64.wrap (x119 + 1)))) (u := []) rfl trivial rfl ?_
      refine a_val (v := (.int .i64 (IntKind.i64.wrap (x119 + 1)))) (u := []) rfl trivial rfl ?_
      refine a_nil ?_
      cases h
      exact a_again rfl hX152
def spec_l04Bracket_c : ACode := (.seq (.region 0 [⟨some 6, .alloc 23, none, []⟩, ⟨some 7, .asg 0 (.const (.bool false)) 4, none, []⟩] false) (.seq (.region 1 [⟨some 13, .mov (.tmp 0), none, []⟩, ⟨some 14, .call 0 (.func 86) [], none, []⟩, ⟨some 15, .mov (.tmp 1), none, []⟩, ⟨some 16, .call 0 (.func 133) [(.tmp 13), (.tmp 14), (.tmp 15)], none, []⟩, ⟨some 12, .mov (.tmp 16), none, []⟩, ⟨some 17, .extract (.tmp 12) 0, none, []⟩, ⟨some 18, .extract (.tmp 12) 1, none, []⟩, ⟨some 8, .alloc 23, none, []⟩, ⟨none, .store 23 (.tmp 8) (.tmp 17), none, []⟩, ⟨some 9, .asg 0 (.tmp 18) 4, none, []⟩] false) (.seq (.region 2 [⟨some 20, .mov (.tmp 0), none, []⟩, ⟨some 21, .call 0 (.func 86) [], none, []⟩, ⟨some 22, .mov (.tmp 2), none, []⟩, ⟨some 23, .call 0 (.func 133) [(.tmp 20), (.tmp 21), (.tmp 22)], none, []⟩, ⟨some 19, .mov (.tmp 23), none, []⟩, ⟨some 24, .extract (.tmp 19) 0, none, []⟩, ⟨some 25, .extract (.tmp 19) 1, none, []⟩, ⟨some 10, .alloc 23, none, []⟩, ⟨none, .store 23 (.tmp 10) (.tmp 24), none, []⟩, ⟨some 11, .asg 0 (.tmp 25) 4, none, []⟩] false) (.seq (.region 3 [⟨some 26, .mov (.tmp 0), none, []⟩, ⟨some 27, .load 23 (.tmp 8), none, []⟩, ⟨some 28, .load 23 (.tmp 10), none, []⟩, ⟨some 29, .call 0 (.func 51) [(.tmp 26), (.tmp 27), (.tmp 28), (.const (.int .i64 (-1)))], none, []⟩, ⟨some 30, .mov (.tmp 9), none, []⟩, ⟨some 31, .mov (.tmp 30), none, []⟩, ⟨some 32, .mov (.tmp 11), some (31, true), []⟩, ⟨some 33, .pick (.tmp 31) (.tmp 32) (.const (.bool false)), none, []⟩, ⟨none, .store 23 (.tmp 6) (.tmp 29), none, []⟩, ⟨some 7, .asg 0 (.tmp 33) 4, none, []⟩] false) .ret))))
def spec_l04Bracket_L : Live := [(0, [0, 1, 2]), (1, [0, 1, 2, 6]), (2, [0, 2, 6, 8, 9]), (3, [0, 6, 8, 9, 10, 11])]
theorem spec_l04Bracket_body : Try.f113.body = some (Try.f113.body.getD .skip) := by kernel_rfl
theorem spec_l04Bracket_strip : strip [] (Try.f113.body.getD .skip) = spec_l04Bracket_c := by kernel_rfl
noncomputable def spec_l04Bracket (a0 : Int) (a1 : Int) (a2 : Int) : Option ((Vec Int 64) × Bool) :=
  (Option.bind (spec_l01T) fun r1 => (Option.bind (spec_l04Raise a0 r1 a1) fun r3 => (Option.bind (spec_l01T) fun r6 => (Option.bind (spec_l04Raise a0 r6 a2) fun r8 => (Option.bind (spec_l01Add a0 r3.1 r8.1 (-1)) fun r13 => (if r3.2 then (some (r13, r8.2)) else (some (r13, false))))))))
set_option maxHeartbeats 16000000 in
theorem spec_l04Bracket_ok (a0 : Int) (a1 : Int) (a2 : Int) (r : ((Vec Int 64) × Bool)) (h : spec_l04Bracket a0 a1 a2 = some r) : Den Try.prog 113 [(.int .i64 a0), (.int .i64 a1), (.int .i64 a2)] { r := (.tuple [(eA64u8 r.1), (.bool r.2)]) } := by
  refine den_of (rs := [(eA64u8 r.1), (.bool r.2)]) (ac := spec_l04Bracket_c) (L := spec_l04Bracket_L) (n := 34) (m := []) good Try.func113 spec_l04Bracket_body (by kernel_rfl) Try.ntmps113 rfl rfl spec_l04Bracket_strip rfl rfl ?_
  refine a_st (σ' := ⟨[(0, (.int .i64 a0)), (1, (.int .i64 a1)), (2, (.int .i64 a2))], []⟩) rfl ?_
  unfold spec_l04Bracket_c
  refine a_seq ?_
  refine a_region ?_
  refine a_val (v := (.own 1600 [] [])) (u := [(1600, some ⟨(eA64u8 ((vrep 64 (0 : Int)))), false⟩)]) rfl trivial rfl ?_
  refine a_val (v := (.bool false)) (u := []) rfl trivial rfl ?_
  refine a_nil ?_
  refine a_next (σ' := ⟨[(0, (.int .i64 a0)), (1, (.int .i64 a1)), (2, (.int .i64 a2)), (6, (.own 6 [] []))], [(6, some ⟨(eA64u8 ((vrep 64 (0 : Int)))), false⟩)]⟩) rfl ?_
  refine a_seq ?_
  refine a_region ?_
  refine a_val (v := (.int .i64 a0)) (u := []) rfl trivial rfl ?_
  obtain ⟨r1, hr2, h⟩ := bind_some h
  refine a_call (args := []) (u := []) (r := (eA64u8 r1)) rfl rfl (spec_l01T_ok r1 hr2) rfl ?_
  refine a_val (v := (.int .i64 a1)) (u := []) rfl trivial rfl ?_
  obtain ⟨r3, hr4, h⟩ := bind_some h
  refine a_call (args := [(.int .i64 a0), (eA64u8 r1), (.int .i64 a1)]) (u := []) (r := (.tuple [(eA64u8 r3.1), (.bool r3.2)])) rfl rfl (spec_l04Raise_ok a0 r1 a1 r3 hr4) rfl ?_
  refine a_val (v := (.tuple [(eA64u8 r3.1), (.bool r3.2)])) (u := []) rfl trivial rfl ?_
  refine a_val (v := (eA64u8 r3.1)) (u := []) rfl (Nat.le_of_ble_eq_true rfl) rfl ?_
  refine a_val (v := (.bool r3.2)) (u := []) rfl (Nat.le_of_ble_eq_true rfl) rfl ?_
  refine a_val (v := (.own 1800 [] [])) (u := [(1800, some ⟨(eA64u8 ((vrep 64 (0 : Int)))), false⟩)]) rfl trivial rfl ?_
  have hs5 : StOk [] (eA64u8 ((vrep 64 (0 : Int)))) [] 64 (eA64u8 r3.1) (eA64u8 r3.1) := (.nil rfl rfl rfl rfl)
  refine a_val (v := .top) (u := [(1800, some ⟨(eA64u8 r3.1), false⟩)]) (st_own (i := ⟨.arr 64 5, 64, 64, (eA64u8 (vrep 64 (0 : Int)))⟩) rfl rfl (fun _ => rfl) rfl hs5) (hs5.c rfl) rfl ?_
  refine a_val (v := (.bool r3.2)) (u := []) rfl trivial rfl ?_
  refine a_nil ?_
  refine a_next (σ' := ⟨[(0, (.int .i64 a0)), (2, (.int .i64 a2)), (6, (.own 6 [] [])), (8, (.own 8 [] [])), (9, (.bool r3.2))], [(6, some ⟨(eA64u8 ((vrep 64 (0 : Int)))), false⟩), (8, some ⟨(eA64u8 r3.1), false⟩)]⟩) rfl ?_
  refine a_seq ?_
  refine a_region ?_
  refine a_val (v := (.int .i64 a0)) (u := []) rfl trivial rfl ?_
  obtain ⟨r6, hr7, h⟩ := bind_some h
  refine a_call (args := []) (u := []) (r := (eA64u8 r6)) rfl rfl (spec_l01T_ok r6 hr7) rfl ?_
  refine a_val (v := (.int .i64 a2)) (u := []) rfl trivial rfl ?_
  obtain ⟨r8, hr9, h⟩ := bind_some h
  refine a_call (args := [(.int .i64 a0), (eA64u8 r6), (.int .i64 a2)]) (u := []) (r := (.tuple [(eA64u8 r8.1), (.bool r8.2)])) rfl rfl (spec_l04Raise_ok a0 r6 a2 r8 hr9) rfl ?_
  refine a_val (v := (.tuple [(eA64u8 r8.1), (.bool r8.2)])) (u := []) rfl trivial rfl ?_
  refine a_val (v := (eA64u8 r8.1)) (u := []) rfl (Nat.le_of_ble_eq_true rfl) rfl ?_
  refine a_val (v := (.bool r8.2)) (u := []) rfl (Nat.le_of_ble_eq_true rfl) rfl ?_
  refine a_val (v := (.own 2000 [] [])) (u := [(2000, some ⟨(eA64u8 ((vrep 64 (0 : Int)))), false⟩)]) rfl trivial rfl ?_
  have hs10 : StOk [] (eA64u8 ((vrep 64 (0 : Int)))) [] 64 (eA64u8 r8.1) (eA64u8 r8.1) := (.nil rfl rfl rfl rfl)
  refine a_val (v := .top) (u := [(2000, some ⟨(eA64u8 r8.1), false⟩)]) (st_own (i := ⟨.arr 64 5, 64, 64, (eA64u8 (vrep 64 (0 : Int)))⟩) rfl rfl (fun _ => rfl) rfl hs10) (hs10.c rfl) rfl ?_
  refine a_val (v := (.bool r8.2)) (u := []) rfl trivial rfl ?_
  refine a_nil ?_
  refine a_next (σ' := ⟨[(0, (.int .i64 a0)), (6, (.own 6 [] [])), (8, (.own 8 [] [])), (9, (.bool r3.2)), (10, (.own 10 [] [])), (11, (.bool r8.2))], [(6, some ⟨(eA64u8 ((vrep 64 (0 : Int)))), false⟩), (8, some ⟨(eA64u8 r3.1), false⟩), (10, some ⟨(eA64u8 r8.1), false⟩)]⟩) rfl ?_
  refine a_seq ?_
  refine a_region ?_
  refine a_val (v := (.int .i64 a0)) (u := []) rfl trivial rfl ?_
  have hl11 : LdOk [] (eA64u8 r3.1) [] 64 true (eA64u8 r3.1) := (.nil rfl rfl rfl)
  refine a_val (v := (eA64u8 r3.1)) (u := []) (ld_own (i := ⟨.arr 64 5, 64, 64, (eA64u8 (vrep 64 (0 : Int)))⟩) rfl rfl rfl hl11) hl11.c rfl ?_
  have hl12 : LdOk [] (eA64u8 r8.1) [] 64 true (eA64u8 r8.1) := (.nil rfl rfl rfl)
  refine a_val (v := (eA64u8 r8.1)) (u := []) (ld_own (i := ⟨.arr 64 5, 64, 64, (eA64u8 (vrep 64 (0 : Int)))⟩) rfl rfl rfl hl12) hl12.c rfl ?_
  obtain ⟨r13, hr14, h⟩ := bind_some h
  refine a_call (args := [(.int .i64 a0), (eA64u8 r3.1), (eA64u8 r8.1), (.int .i64 (-1))]) (u := []) (r := (eA64u8 r13)) rfl rfl (spec_l01Add_ok a0 r3.1 r8.1 (-1) r13 hr14) rfl ?_
  refine a_val (v := (.bool r3.2)) (u := []) rfl trivial rfl ?_
  refine a_val (v := (.bool r3.2)) (u := []) rfl trivial rfl ?_
  cases hb15 : r3.2
  · have h := ite_f hb15 h
    refine a_gskip rfl ?_
    refine a_val (v := (.bool false)) (u := []) rfl trivial rfl ?_
    have hs16 : StOk [] (eA64u8 ((vrep 64 (0 : Int)))) [] 64 (eA64u8 r13) (eA64u8 r13) := (.nil rfl rfl rfl rfl)
    refine a_val (v := .top) (u := [(6, some ⟨(eA64u8 r13), false⟩)]) (st_own (i := ⟨.arr 64 5, 64, 64, (eA64u8 (vrep 64 (0 : Int)))⟩) rfl rfl (fun _ => rfl) rfl hs16) (hs16.c rfl) rfl ?_
    refine a_val (v := (.bool false)) (u := []) rfl trivial rfl ?_
    refine a_nil ?_
    refine a_next rfl ?_
    refine a_ret ?_
    have hl17 : LdOk [] (eA64u8 r13) [] 64 true (eA64u8 r13) := (.nil rfl rfl rfl)
    refine ⟨.inr rfl, ?_⟩
    rw [Try.results113]
    cases h
    exact ⟨_, _, _, _, _, ld_own (i := ⟨.arr 64 5, 64, 64, (eA64u8 (vrep 64 (0 : Int)))⟩) rfl rfl rfl hl17, hl17.c, .inl ⟨rfl, .inl rfl⟩, rfl, ⟨_, _, _, _, _, rfl, trivial, .inl ⟨rfl, .inl rfl⟩, rfl, rfl⟩⟩
  · have h := ite_t hb15 h
    refine a_gval rfl (v := (.bool r8.2)) (u := []) rfl trivial rfl ?_
    refine a_val (v := (.bool r8.2)) (u := []) rfl trivial rfl ?_
    have hs18 : StOk [] (eA64u8 ((vrep 64 (0 : Int)))) [] 64 (eA64u8 r13) (eA64u8 r13) := (.nil rfl rfl rfl rfl)
    refine a_val (v := .top) (u := [(6, some ⟨(eA64u8 r13), false⟩)]) (st_own (i := ⟨.arr 64 5, 64, 64, (eA64u8 (vrep 64 (0 : Int)))⟩) rfl rfl (fun _ => rfl) rfl hs18) (hs18.c rfl) rfl ?_
    refine a_val (v := (.bool r8.2)) (u := []) rfl trivial rfl ?_
    refine a_nil ?_
    refine a_next rfl ?_
    refine a_ret ?_
    have hl19 : LdOk [] (eA64u8 r13) [] 64 true (eA64u8 r13) := (.nil rfl rfl rfl)
    refine ⟨.inr rfl, ?_⟩
    rw [Try.results113]
    cases h
    exact ⟨_, _, _, _, _, ld_own (i := ⟨.arr 64 5, 64, 64, (eA64u8 (vrep 64 (0 : Int)))⟩) rfl rfl rfl hl19, hl19.c, .inl ⟨rfl, .inl rfl⟩, rfl, ⟨_, _, _, _, _, rfl, trivial, .inl ⟨rfl, .inl rfl⟩, rfl, rfl⟩⟩
end Go.Proofs.Ytgodhgbnjlflmaa
