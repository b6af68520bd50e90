/- Functions of the program: plain Lean functions, and that the program computes them. Printed by gen.py. -/
import Derived.Test.YtacebpbhddkelaaFnT
import Derived.Test.YtacebpbhddkelaaFn2
import Derived.Test.YtacebpbhddkelaaFn3
namespace Go.Proofs.Ytacebpbhddkelaa
open Go.Abs Go.Proofs
set_option linter.unusedSimpArgs false
set_option linter.unusedVariables false

def laws_eqPoly_c : ACode := (.seq (.region 0 [⟨some 2, .box 23 (.tmp 0), none, []⟩, ⟨some 3, .box 23 (.tmp 1), none, []⟩, ⟨some 4, .asg 0 (.const (.bool false)) 4, none, []⟩] false) (.seq (.seq (.region 1 [⟨some 5, .asg 0 (.const (.int .i64 0)) 3, none, []⟩] false) (.block 0 (.loop (.seq (.seq (.region 2 [⟨some 6, .mov (.tmp 5), none, []⟩, ⟨some 7, .bin .lss 3 (.tmp 6) (.const (.int .i64 64)), none, []⟩] false) (.cond (.tmp 7) .skip (.exit 0))) (.seq (.block 1 (.seq (.region 4 [⟨some 10, .mov (.tmp 5), none, []⟩, ⟨some 11, .indexAddr 23 (.tmp 2) (.tmp 10), none, [0]⟩, ⟨some 12, .load 5 (.tmp 11), none, [1]⟩, ⟨some 13, .mov (.tmp 5), none, []⟩, ⟨some 14, .indexAddr 23 (.tmp 3) (.tmp 13), none, [3]⟩, ⟨some 15, .load 5 (.tmp 14), none, [4]⟩, ⟨some 16, .bin .neq 5 (.tmp 12) (.tmp 15), none, [2, 5]⟩] true) (.cond (.tmp 16) (.seq (.region 5 [⟨some 4, .asg 0 (.const (.bool false)) 4, none, []⟩] false) .ret) .skip))) (.region 3 [⟨some 8, .mov (.tmp 5), none, []⟩, ⟨some 9, .bin .add 3 (.tmp 8) (.const (.int .i64 1)), none, []⟩, ⟨some 5, .asg 0 (.tmp 9) 3, none, []⟩] false)))))) (.seq (.region 6 [⟨some 4, .asg 0 (.const (.bool true)) 4, none, []⟩] false) .ret)))
def laws_eqPoly_L : Live := [(0, [0, 1]), (1, [2, 3]), (2, [2, 3, 5]), (3, [2, 3, 5]), (4, [2, 3, 5]), (5, []), (6, []), (100007, [2, 3, 5, 7]), (100016, [2, 3, 5, 16])]
theorem laws_eqPoly_body : Try.f22.body = some (Try.f22.body.getD .skip) := by kernel_rfl
theorem laws_eqPoly_strip : strip [] (Try.f22.body.getD .skip) = laws_eqPoly_c := by kernel_rfl
noncomputable def laws_eqPoly_l1 (a0 : (Vec Int 64)) (a1 : (Vec Int 64)) (x49 : Int) : Option (Int ⊕ (Unit ⊕ Bool)) :=
  (if (decide (x49 < 64)) then (ifp (0 ≤ x49 ∧ x49 < ((64 : Nat) : Int)) ((ifp (0 ≤ x49 ∧ x49 < ((64 : Nat) : Int)) ((if ((rd a0.1 x49.toNat) != (rd a1.1 x49.toNat)) then (some (.inr (.inr false))) else (some (.inl (IntKind.i64.wrap (x49 + 1))))))))) else (some (.inr (((.inl ()))))))
noncomputable def laws_eqPoly (a0 : (Vec Int 64)) (a1 : (Vec Int 64)) : Option Bool :=
  (Option.bind (α := (Unit ⊕ Bool)) ((loopM (fun s : Int => laws_eqPoly_l1 a0 a1 s) 0)) fun z => match z with | .inl _ => (some true) | .inr r74 => (some r74))
set_option maxHeartbeats 16000000 in
theorem laws_eqPoly_ok (a0 : (Vec Int 64)) (a1 : (Vec Int 64)) (r : Bool) (h : laws_eqPoly a0 a1 = some r) : Den Try.prog 22 [(eA64u8 a0), (eA64u8 a1)] { r := (.bool r) } := by
  refine den_of (rs := [(.bool r)]) (ac := laws_eqPoly_c) (L := laws_eqPoly_L) (n := 17) (m := []) good Try.func22 laws_eqPoly_body (by kernel_rfl) Try.ntmps22 rfl rfl laws_eqPoly_strip rfl rfl ?_
  refine a_st (σ' := ⟨[(0, (eA64u8 a0)), (1, (eA64u8 a1))], []⟩) rfl ?_
  unfold laws_eqPoly_c
  refine a_seq ?_
  refine a_region ?_
  refine a_val (v := (.own 1200 [] [])) (u := [(1200, some ⟨(eA64u8 a0), false⟩)]) rfl trivial rfl ?_
  refine a_val (v := (.own 1300 [] [])) (u := [(1300, some ⟨(eA64u8 a1), false⟩)]) rfl trivial rfl ?_
  refine a_val (v := (.bool false)) (u := []) rfl trivial rfl ?_
  refine a_nil ?_
  refine a_next (σ' := ⟨[(2, (.own 2 [] [])), (3, (.own 3 [] []))], [(2, some ⟨(eA64u8 a0), false⟩), (3, some ⟨(eA64u8 a1), false⟩)]⟩) rfl ?_
  obtain ⟨y36, hy37, hk38⟩ := bind_some h
  clear h
  refine a_join (emb := fun (s : Unit) => ⟨[], []⟩) (pre := fun s => (.inl s) = y36) ?_ ?_
  · rintro _ rfl
    have h := hk38
    refine a_st (σ' := ⟨[], []⟩) rfl ?_
    refine a_seq ?_
    refine a_region ?_
    refine a_val (v := (.bool true)) (u := []) rfl trivial rfl ?_
    refine a_nil ?_
    refine a_next rfl ?_
    refine a_ret ?_
    refine ⟨.inr rfl, ?_⟩
    rw [Try.results22]
    cases h
    exact ⟨_, _, _, _, _, rfl, trivial, .inl ⟨rfl, .inl rfl⟩, rfl, rfl⟩
  · have h := hy37
    refine a_seq ?_
    refine a_region ?_
    refine a_val (v := (.int .i64 0)) (u := []) rfl trivial rfl ?_
    refine a_nil ?_
    refine a_next (σ' := ⟨[(2, (.own 2 [] [])), (3, (.own 3 [] [])), (5, (.int .i64 0))], [(2, some ⟨(eA64u8 a0), false⟩), (3, some ⟨(eA64u8 a1), false⟩)]⟩) rfl ?_
    refine a_block ?_
    refine a_loop (emb := fun (s : Int) => ⟨[(2, (.own 2 [] [])), (3, (.own 3 [] [])), (5, (.int .i64 s))], [(2, some ⟨(eA64u8 a0), false⟩), (3, some ⟨(eA64u8 a1), false⟩)]⟩) (body := (fun s : Int => laws_eqPoly_l1 a0 a1 s)) (G := fun q => some q = some y36) h rfl ?_ rfl
    rintro X60 x49 x61 h hX62
    have h : laws_eqPoly_l1 a0 a1 x49 = some x61 := h
    refine a_st (σ' := ⟨[(2, (.own 2 [] [])), (3, (.own 3 [] [])), (5, (.int .i64 x49))], [(2, some ⟨(eA64u8 a0), false⟩), (3, some ⟨(eA64u8 a1), false⟩)]⟩) rfl ?_
    refine a_seq ?_
    refine a_seq ?_
    refine a_region ?_
    refine a_val (v := (.int .i64 x49)) (u := []) rfl trivial rfl ?_
    refine a_val (v := (.bool ((decide (x49 < 64))))) (u := []) rfl trivial rfl ?_
    refine a_nil ?_
    refine a_next (σ' := ⟨[(2, (.own 2 [] [])), (3, (.own 3 [] [])), (5, (.int .i64 x49)), (7, (.bool ((decide (x49 < 64)))))], [(2, some ⟨(eA64u8 a0), false⟩), (3, some ⟨(eA64u8 a1), false⟩)]⟩) rfl ?_
    cases hb63 : (decide (x49 < 64))
    · have h := ite_f hb63 h
      refine a_cond_f rfl ?_
      refine a_exit ?_
      refine t_exit ?_
      cases h
      have h := hX62
      refine t_exit ?_
      refine b_exit ?_
      exact j_leaf () (Option.some.inj h) rfl
    · have h := ite_t hb63 h
      refine a_cond_t rfl ?_
      refine a_skip ?_
      refine a_next (σ' := ⟨[(2, (.own 2 [] [])), (3, (.own 3 [] [])), (5, (.int .i64 x49))], [(2, some ⟨(eA64u8 a0), false⟩), (3, some ⟨(eA64u8 a1), false⟩)]⟩) rfl ?_
      refine a_seq ?_
      refine a_block ?_
      refine a_seq ?_
      refine a_draw [⟨[], [], [], []⟩, ⟨[2], [], [2], [0]⟩, ⟨[2], [], [], [0, 1]⟩, ⟨[], [], [], []⟩, ⟨[3], [], [3], [3]⟩, ⟨[3], [], [], [3, 4]⟩, ⟨[], [], [], [0, 1, 2, 3, 4, 5]⟩] (by kernel_rfl) ?_
      refine d_cons ?_
      refine a_val (v := (.int .i64 x49)) (u := []) rfl trivial rfl ?_
      refine d_next rfl ?_
      refine d_cons ?_
      obtain ⟨hc68, h⟩ := ifp_some h
      refine a_val (v := (.own 2 [x49.toNat] [x49.toNat * 1])) (u := []) rfl hc68 rfl ?_
      refine d_next rfl ?_
      refine d_cons ?_
      have hl69 : LdOk [x49.toNat] (eA64u8 a0) [x49.toNat * 1] 1 false (.int .u8 (rd a0.1 x49.toNat)) := (.arr (vlt a0 hc68) rfl (.nil rfl rfl rfl))
      refine a_val (v := (.int .u8 (rd a0.1 x49.toNat))) (u := []) (ld_own (i := ⟨.int .u8, 1, 1, (.int .u8 0)⟩) rfl rfl rfl hl69) hl69.c rfl ?_
      refine d_next rfl ?_
      refine d_cons ?_
      refine a_val (v := (.int .i64 x49)) (u := []) rfl trivial rfl ?_
      refine d_next rfl ?_
      refine d_cons ?_
      obtain ⟨hc70, h⟩ := ifp_some h
      refine a_val (v := (.own 3 [x49.toNat] [x49.toNat * 1])) (u := []) rfl hc70 rfl ?_
      refine d_next rfl ?_
      refine d_cons ?_
      have hl71 : LdOk [x49.toNat] (eA64u8 a1) [x49.toNat * 1] 1 false (.int .u8 (rd a1.1 x49.toNat)) := (.arr (vlt a1 hc70) rfl (.nil rfl rfl rfl))
      refine a_val (v := (.int .u8 (rd a1.1 x49.toNat))) (u := []) (ld_own (i := ⟨.int .u8, 1, 1, (.int .u8 0)⟩) rfl rfl rfl hl71) hl71.c rfl ?_
      refine d_next rfl ?_
      refine d_cons ?_
      refine a_val (v := (.bool (((rd a0.1 x49.toNat) != (rd a1.1 x49.toNat))))) (u := []) rfl trivial rfl ?_
      refine d_next rfl ?_
      refine d_nil ?_
      refine a_next (σ' := ⟨[(2, (.own 2 [] [])), (3, (.own 3 [] [])), (5, (.int .i64 x49)), (16, (.bool (((rd a0.1 x49.toNat) != (rd a1.1 x49.toNat)))))], [(2, some ⟨(eA64u8 a0), false⟩), (3, some ⟨(eA64u8 a1), false⟩)]⟩) rfl ?_
      cases hb72 : ((rd a0.1 x49.toNat) != (rd a1.1 x49.toNat))
      · have h := ite_f hb72 h
        refine a_cond_f rfl ?_
        refine a_skip ?_
        refine b_norm ?_
        refine a_next (σ' := ⟨[(2, (.own 2 [] [])), (3, (.own 3 [] [])), (5, (.int .i64 x49))], [(2, some ⟨(eA64u8 a0), false⟩), (3, some ⟨(eA64u8 a1), false⟩)]⟩) rfl ?_
        refine a_region ?_
        refine a_val (v := (.int .i64 x49)) (u := []) rfl trivial rfl ?_
        refine a_val (v := (.int .i64 (IntKind.i64.wrap (x49 + 1)))) (u := []) rfl trivial rfl ?_
        refine a_val (v := (.int .i64 (IntKind.i64.wrap (x49 + 1)))) (u := []) rfl trivial rfl ?_
        refine a_nil ?_
        cases h
        exact a_again rfl hX62
      · have h := ite_t hb72 h
        refine a_cond_t rfl ?_
        refine a_seq ?_
        refine a_region ?_
        refine a_val (v := (.bool false)) (u := []) rfl trivial rfl ?_
        refine a_nil ?_
        refine a_next rfl ?_
        refine a_ret ?_
        refine b_ret ?_
        refine t_ret ?_
        cases h
        have h := hX62
        refine t_ret ?_
        refine b_ret ?_
        refine t_ret ?_
        cases h
        have h := hk38
        refine ⟨.inr rfl, ?_⟩
        rw [Try.results22]
        cases h
        exact ⟨_, _, _, _, _, rfl, trivial, .inl ⟨rfl, .inl rfl⟩, rfl, rfl⟩
def laws_FnExactPowerSum_c : ACode := (.seq (.region 0 [⟨some 6, .asg 0 (.const (.bool false)) 4, none, []⟩] false) (.seq (.region 1 [⟨some 12, .mov (.tmp 0), none, []⟩, ⟨some 13, .mov (.tmp 1), none, []⟩, ⟨some 14, .mov (.tmp 2), none, []⟩, ⟨some 15, .call 0 (.func 42) [(.tmp 12), (.tmp 13), (.tmp 14)], none, []⟩, ⟨some 11, .mov (.tmp 15), none, []⟩, ⟨some 16, .extract (.tmp 11) 0, none, []⟩, ⟨some 17, .extract (.tmp 11) 1, none, []⟩, ⟨some 7, .alloc 23, none, []⟩, ⟨none, .store 23 (.tmp 7) (.tmp 16), none, []⟩, ⟨some 8, .asg 0 (.tmp 17) 2, none, []⟩] false) (.seq (.region 2 [⟨some 19, .mov (.tmp 0), none, []⟩, ⟨some 20, .mov (.tmp 1), none, []⟩, ⟨some 21, .mov (.tmp 2), none, []⟩, ⟨some 22, .call 0 (.func 43) [(.tmp 19), (.tmp 20), (.tmp 21)], none, []⟩, ⟨some 18, .mov (.tmp 22), none, []⟩, ⟨some 23, .extract (.tmp 18) 0, none, []⟩, ⟨some 24, .extract (.tmp 18) 1, none, []⟩, ⟨some 9, .alloc 23, none, []⟩, ⟨none, .store 23 (.tmp 9) (.tmp 23), none, []⟩, ⟨some 10, .asg 0 (.tmp 24) 2, none, []⟩] false) (.seq (.seq (.region 3 [⟨some 25, .load 23 (.tmp 9), none, []⟩, ⟨some 26, .load 23 (.tmp 7), none, []⟩, ⟨some 27, .call 0 (.func 22) [(.tmp 25), (.tmp 26)], none, []⟩, ⟨some 28, .un .not (.tmp 27), none, []⟩, ⟨some 29, .mov (.tmp 28), none, []⟩, ⟨some 30, .mov (.tmp 10), some (29, false), []⟩, ⟨some 31, .mov (.tmp 8), some (29, false), []⟩, ⟨some 32, .bin .neq 2 (.tmp 30) (.tmp 31), some (29, false), []⟩, ⟨some 33, .pick (.tmp 29) (.const (.bool true)) (.tmp 32), none, []⟩] false) (.cond (.tmp 33) (.seq (.region 4 [⟨some 6, .asg 0 (.const (.bool false)) 4, none, []⟩] false) .ret) .skip)) (.seq (.region 5 [⟨some 6, .asg 0 (.const (.bool true)) 4, none, []⟩] false) .ret)))))
def laws_FnExactPowerSum_L : Live := [(0, [0, 1, 2]), (1, [0, 1, 2]), (2, [0, 1, 2, 7, 8]), (3, [7, 8, 9, 10]), (4, []), (5, []), (100033, [33])]
theorem laws_FnExactPowerSum_body : Try.f11.body = some (Try.f11.body.getD .skip) := by kernel_rfl
theorem laws_FnExactPowerSum_strip : strip [] (Try.f11.body.getD .skip) = laws_FnExactPowerSum_c := by kernel_rfl
noncomputable def laws_FnExactPowerSum (a0 : Int) (a1 : Int) (a2 : Int) : Option Bool :=
  (Option.bind (spec_PowerSum a0 a1 a2) fun r1 => (Option.bind (impl_PowerSum a0 a1 a2) fun r4 => (Option.bind (α := Bool) ((Option.bind (laws_eqPoly r4.1 r1.1) fun r18 => (if (!r18) then (some true) else (some (r4.2 != r1.2))))) fun x12 => (if x12 then (some false) else (some true)))))
set_option maxHeartbeats 16000000 in
theorem laws_FnExactPowerSum_ok (a0 : Int) (a1 : Int) (a2 : Int) (r : Bool) (h : laws_FnExactPowerSum a0 a1 a2 = some r) : Den Try.prog 11 [(.int .i64 a0), (.int .i64 a1), (.int .i64 a2)] { r := (.bool r) } := by
  refine den_of (rs := [(.bool r)]) (ac := laws_FnExactPowerSum_c) (L := laws_FnExactPowerSum_L) (n := 34) (m := []) good Try.func11 laws_FnExactPowerSum_body (by kernel_rfl) Try.ntmps11 rfl rfl laws_FnExactPowerSum_strip rfl rfl ?_
  refine a_st (σ' := ⟨[(0, (.int .i64 a0)), (1, (.int .i64 a1)), (2, (.int .i64 a2))], []⟩) rfl ?_
  unfold laws_FnExactPowerSum_c
  refine a_seq ?_
  refine a_region ?_
  refine a_val (v := (.bool false)) (u := []) rfl trivial rfl ?_
  refine a_nil ?_
  refine a_next (σ' := ⟨[(0, (.int .i64 a0)), (1, (.int .i64 a1)), (2, (.int .i64 a2))], []⟩) rfl ?_
  refine a_seq ?_
  refine a_region ?_
  refine a_val (v := (.int .i64 a0)) (u := []) rfl trivial rfl ?_
  refine a_val (v := (.int .i64 a1)) (u := []) rfl trivial rfl ?_
  refine a_val (v := (.int .i64 a2)) (u := []) rfl trivial rfl ?_
  obtain ⟨r1, hr2, h⟩ := bind_some h
  refine a_call (args := [(.int .i64 a0), (.int .i64 a1), (.int .i64 a2)]) (u := []) (r := (.tuple [(eA64u8 r1.1), (.int .i64 r1.2)])) rfl rfl (spec_PowerSum_ok a0 a1 a2 r1 hr2) rfl ?_
  refine a_val (v := (.tuple [(eA64u8 r1.1), (.int .i64 r1.2)])) (u := []) rfl trivial rfl ?_
  refine a_val (v := (eA64u8 r1.1)) (u := []) rfl (Nat.le_of_ble_eq_true rfl) rfl ?_
  refine a_val (v := (.int .i64 r1.2)) (u := []) rfl (Nat.le_of_ble_eq_true rfl) rfl ?_
  refine a_val (v := (.own 1700 [] [])) (u := [(1700, some ⟨(eA64u8 ((vrep 64 (0 : Int)))), false⟩)]) rfl trivial rfl ?_
  have hs3 : StOk [] (eA64u8 ((vrep 64 (0 : Int)))) [] 64 (eA64u8 r1.1) (eA64u8 r1.1) := (.nil rfl rfl rfl rfl)
  refine a_val (v := .top) (u := [(1700, some ⟨(eA64u8 r1.1), false⟩)]) (st_own (i := ⟨.arr 64 5, 64, 64, (eA64u8 (vrep 64 (0 : Int)))⟩) rfl rfl (fun _ => rfl) rfl hs3) (hs3.c rfl) rfl ?_
  refine a_val (v := (.int .i64 r1.2)) (u := []) rfl trivial rfl ?_
  refine a_nil ?_
  refine a_next (σ' := ⟨[(0, (.int .i64 a0)), (1, (.int .i64 a1)), (2, (.int .i64 a2)), (7, (.own 7 [] [])), (8, (.int .i64 r1.2))], [(7, some ⟨(eA64u8 r1.1), false⟩)]⟩) rfl ?_
  refine a_seq ?_
  refine a_region ?_
  refine a_val (v := (.int .i64 a0)) (u := []) rfl trivial rfl ?_
  refine a_val (v := (.int .i64 a1)) (u := []) rfl trivial rfl ?_
  refine a_val (v := (.int .i64 a2)) (u := []) rfl trivial rfl ?_
  obtain ⟨r4, hr5, h⟩ := bind_some h
  refine a_call (args := [(.int .i64 a0), (.int .i64 a1), (.int .i64 a2)]) (u := []) (r := (.tuple [(eA64u8 r4.1), (.int .i64 r4.2)])) rfl rfl (impl_PowerSum_ok a0 a1 a2 r4 hr5) rfl ?_
  refine a_val (v := (.tuple [(eA64u8 r4.1), (.int .i64 r4.2)])) (u := []) rfl trivial rfl ?_
  refine a_val (v := (eA64u8 r4.1)) (u := []) rfl (Nat.le_of_ble_eq_true rfl) rfl ?_
  refine a_val (v := (.int .i64 r4.2)) (u := []) rfl (Nat.le_of_ble_eq_true rfl) rfl ?_
  refine a_val (v := (.own 1900 [] [])) (u := [(1900, some ⟨(eA64u8 ((vrep 64 (0 : Int)))), false⟩)]) rfl trivial rfl ?_
  have hs6 : StOk [] (eA64u8 ((vrep 64 (0 : Int)))) [] 64 (eA64u8 r4.1) (eA64u8 r4.1) := (.nil rfl rfl rfl rfl)
  refine a_val (v := .top) (u := [(1900, some ⟨(eA64u8 r4.1), false⟩)]) (st_own (i := ⟨.arr 64 5, 64, 64, (eA64u8 (vrep 64 (0 : Int)))⟩) rfl rfl (fun _ => rfl) rfl hs6) (hs6.c rfl) rfl ?_
  refine a_val (v := (.int .i64 r4.2)) (u := []) rfl trivial rfl ?_
  refine a_nil ?_
  refine a_next (σ' := ⟨[(7, (.own 7 [] [])), (8, (.int .i64 r1.2)), (9, (.own 9 [] [])), (10, (.int .i64 r4.2))], [(7, some ⟨(eA64u8 r1.1), false⟩), (9, some ⟨(eA64u8 r4.1), false⟩)]⟩) rfl ?_
  refine a_seq ?_
  obtain ⟨y13, hy14, hk15⟩ := bind_some h
  clear h
  refine a_join (emb := fun (s : Bool) => ⟨[(33, (.bool s))], []⟩) (pre := fun s => s = y13) ?_ ?_
  · rintro x12 rfl
    have h := hk15
    refine a_st (σ' := ⟨[(33, (.bool x12))], []⟩) rfl ?_
    cases hb21 : x12
    · have h := ite_f hb21 h
      refine a_cond_f rfl ?_
      refine a_skip ?_
      refine a_next (σ' := ⟨[], []⟩) rfl ?_
      refine a_seq ?_
      refine a_region ?_
      refine a_val (v := (.bool true)) (u := []) rfl trivial rfl ?_
      refine a_nil ?_
      refine a_next rfl ?_
      refine a_ret ?_
      refine ⟨.inr rfl, ?_⟩
      rw [Try.results11]
      cases h
      exact ⟨_, _, _, _, _, rfl, trivial, .inl ⟨rfl, .inl rfl⟩, rfl, rfl⟩
    · have h := ite_t hb21 h
      refine a_cond_t rfl ?_
      refine a_seq ?_
      refine a_region ?_
      refine a_val (v := (.bool false)) (u := []) rfl trivial rfl ?_
      refine a_nil ?_
      refine a_next rfl ?_
      refine a_ret ?_
      refine t_ret ?_
      refine ⟨.inr rfl, ?_⟩
      rw [Try.results11]
      cases h
      exact ⟨_, _, _, _, _, rfl, trivial, .inl ⟨rfl, .inl rfl⟩, rfl, rfl⟩
  · have h := hy14
    refine a_region ?_
    have hl16 : LdOk [] (eA64u8 r4.1) [] 64 true (eA64u8 r4.1) := (.nil rfl rfl rfl)
    refine a_val (v := (eA64u8 r4.1)) (u := []) (ld_own (i := ⟨.arr 64 5, 64, 64, (eA64u8 (vrep 64 (0 : Int)))⟩) rfl rfl rfl hl16) hl16.c rfl ?_
    have hl17 : LdOk [] (eA64u8 r1.1) [] 64 true (eA64u8 r1.1) := (.nil rfl rfl rfl)
    refine a_val (v := (eA64u8 r1.1)) (u := []) (ld_own (i := ⟨.arr 64 5, 64, 64, (eA64u8 (vrep 64 (0 : Int)))⟩) rfl rfl rfl hl17) hl17.c rfl ?_
    obtain ⟨r18, hr19, h⟩ := bind_some h
    refine a_call (args := [(eA64u8 r4.1), (eA64u8 r1.1)]) (u := []) (r := (.bool r18)) rfl rfl (laws_eqPoly_ok r4.1 r1.1 r18 hr19) rfl ?_
    refine a_val (v := (.bool (!r18))) (u := []) rfl trivial rfl ?_
    refine a_val (v := (.bool (!r18))) (u := []) rfl trivial rfl ?_
    cases hb20 : (!r18)
    · have h := ite_f hb20 h
      refine a_gval rfl (v := (.int .i64 r4.2)) (u := []) rfl trivial rfl ?_
      refine a_gval rfl (v := (.int .i64 r1.2)) (u := []) rfl trivial rfl ?_
      refine a_gval rfl (v := (.bool (r4.2 != r1.2))) (u := []) rfl trivial rfl ?_
      refine a_val (v := (.bool (r4.2 != r1.2))) (u := []) rfl trivial rfl ?_
      refine a_nil ?_
      exact j_leaf (r4.2 != r1.2) (Option.some.inj h) rfl
    · have h := ite_t hb20 h
      refine a_gskip rfl ?_
      refine a_gskip rfl ?_
      refine a_gskip rfl ?_
      refine a_val (v := (.bool true)) (u := []) rfl trivial rfl ?_
      refine a_nil ?_
      exact j_leaf true (Option.some.inj h) rfl
def impl_rowOf_c : ACode := (.seq (.region 0 [⟨some 1, .box 23 (.tmp 0), none, []⟩, ⟨some 2, .asg 1 (.const (.slice none 0 0)) 66, none, []⟩] false) (.seq (.region 1 [⟨some 3, .asg 2 (.const (.slice none 0 0)) 66, none, []⟩] false) (.seq (.seq (.region 2 [⟨some 6, .load 23 (.tmp 1), none, []⟩, ⟨some 7, .mov (.const (.int .i64 0)), none, []⟩] false) (.block 0 (.loop (.seq (.region 3 [⟨some 8, .bin .lss 3 (.tmp 7) (.const (.int .i64 64)), none, []⟩] false) (.seq (.cond (.tmp 8) .skip (.exit 0)) (.seq (.block 1 (.seq (.region 4 [⟨some 9, .index 23 (.tmp 6) (.tmp 7), none, []⟩, ⟨some 5, .asg 0 (.tmp 9) 5, none, []⟩] false) (.region 5 [⟨some 10, .mov (.tmp 3), none, []⟩, ⟨some 11, .mov (.tmp 5), none, []⟩, ⟨some 12, .conv 5 2 (.tmp 11), none, []⟩, ⟨some 13, .bslice 0 66 1 [(0, (.tmp 12))], none, []⟩, ⟨some 14, .blt 0 .append [(.tmp 10), (.tmp 13)] [66, 66], none, []⟩, ⟨some 3, .asg 2 (.tmp 14) 66, none, []⟩] false))) (.region 6 [⟨some 15, .bin .add 3 (.tmp 7) (.const (.int .i64 1)), none, []⟩, ⟨some 7, .mov (.tmp 15), none, []⟩] false))))))) (.seq (.region 7 [⟨some 16, .mov (.tmp 3), none, []⟩, ⟨some 17, .call 0 (.func 111) [(.tmp 16)], none, []⟩, ⟨some 2, .asg 1 (.tmp 17) 66, none, []⟩] false) .ret))))
def impl_rowOf_L : Live := [(0, [0]), (1, [1]), (2, [1, 3]), (3, [3, 6, 7]), (4, [3, 6, 7]), (5, [3, 5, 6, 7]), (6, [3, 6, 7]), (7, [3]), (100008, [3, 6, 7, 8])]
theorem impl_rowOf_body : Try.f76.body = some (Try.f76.body.getD .skip) := by kernel_rfl
theorem impl_rowOf_strip : strip [(2, 1), (3, 2)] (Try.f76.body.getD .skip) = impl_rowOf_c := by kernel_rfl
noncomputable def impl_rowOf_l1 (a0 : (Vec Int 64)) (x25 : Int) (x26 : (List Int)) : Option ((Int × (List Int)) ⊕ (List Int)) :=
  (if (decide (x25 < 64)) then (ifp (0 ≤ x25 ∧ x25 < ((64 : Nat) : Int)) ((ifp ((x26.length + ([IntKind.i64.wrap (rd a0.1 x25.toNat)] : List Int).length) * 8 ≤ 140737488355328) ((some (.inl ((IntKind.i64.wrap (x25 + 1), (x26 ++ ([IntKind.i64.wrap (rd a0.1 x25.toNat)])))))))))) else (some (.inr x26)))
noncomputable def impl_rowOf (a0 : (Vec Int 64)) : Option (List Int) :=
  (Option.bind (α := (List Int)) ((loopM (fun s : (Int × (List Int)) => impl_rowOf_l1 a0 s.1 s.2) (0, []))) fun x17 => (Option.bind (impl_row_trimmed x17) fun r37 => (some r37)))
set_option maxHeartbeats 16000000 in
theorem impl_rowOf_ok (a0 : (Vec Int 64)) (r : (List Int)) (h : impl_rowOf a0 = some r) : Den Try.prog 76 [(eA64u8 a0)] { r := (eSi64 r) } := by
  refine den_of (rs := [(eSi64 r)]) (ac := impl_rowOf_c) (L := impl_rowOf_L) (n := 18) (m := [(2, 1), (3, 2)]) good Try.func76 impl_rowOf_body (by kernel_rfl) Try.ntmps76 rfl rfl impl_rowOf_strip rfl rfl ?_
  refine a_st (σ' := ⟨[(0, (eA64u8 a0))], []⟩) rfl ?_
  unfold impl_rowOf_c
  refine a_seq ?_
  refine a_region ?_
  refine a_val (v := (.own 1100 [] [])) (u := [(1100, some ⟨(eA64u8 a0), false⟩)]) rfl trivial rfl ?_
  refine a_val (v := (eSi64 ([]))) (u := []) rfl trivial rfl ?_
  refine a_nil ?_
  refine a_next (σ' := ⟨[(1, (.own 1 [] []))], [(1, some ⟨(eA64u8 a0), false⟩)]⟩) rfl ?_
  refine a_seq ?_
  refine a_region ?_
  refine a_val (v := (.osl 1300)) (u := [(1300, some ⟨(.row 1 (([]).map (AV.int .i64))), false⟩)]) rfl trivial rfl ?_
  refine a_nil ?_
  refine a_next (σ' := ⟨[(1, (.own 1 [] [])), (3, (.osl 3))], [(1, some ⟨(eA64u8 a0), false⟩), (3, some ⟨(.row 1 (([]).map (AV.int .i64))), false⟩)]⟩) rfl ?_
  obtain ⟨y18, hy19, hk20⟩ := bind_some h
  clear h
  refine a_join (emb := fun (s : (List Int)) => ⟨[(3, (.osl 3))], [(3, some ⟨(.row 1 (s.map (AV.int .i64))), false⟩)]⟩) (pre := fun s => s = y18) ?_ ?_
  · rintro x17 rfl
    have h := hk20
    refine a_st (σ' := ⟨[(3, (.osl 3))], [(3, some ⟨(.row 1 (x17.map (AV.int .i64))), false⟩)]⟩) rfl ?_
    refine a_seq ?_
    refine a_region ?_
    refine a_val (v := (.osl 3)) (u := []) rfl trivial rfl ?_
    obtain ⟨r37, hr38, h⟩ := bind_some h
    refine a_call (args := [(eSi64 x17)]) (u := [(3, some ⟨(.row 1 (x17.map (AV.int .i64))), true⟩)]) (r := (eSi64 r37)) rfl rfl (impl_row_trimmed_ok x17 r37 hr38) rfl ?_
    refine a_val (v := (eSi64 r37)) (u := []) rfl trivial rfl ?_
    refine a_nil ?_
    refine a_next rfl ?_
    refine a_ret ?_
    refine ⟨.inr rfl, ?_⟩
    rw [Try.results76]
    cases h
    exact ⟨_, _, _, _, _, rfl, trivial, .inl ⟨rfl, .inl rfl⟩, rfl, rfl⟩
  · have h := hy19
    refine a_seq ?_
    refine a_region ?_
    have hl21 : LdOk [] (eA64u8 a0) [] 64 true (eA64u8 a0) := (.nil rfl rfl rfl)
    refine a_val (v := (eA64u8 a0)) (u := []) (ld_own (i := ⟨.arr 64 5, 64, 64, (eA64u8 (vrep 64 (0 : Int)))⟩) rfl rfl rfl hl21) hl21.c rfl ?_
    refine a_val (v := (.int .i64 0)) (u := []) rfl trivial rfl ?_
    refine a_nil ?_
    refine a_next (σ' := ⟨[(3, (.osl 3)), (6, (eA64u8 a0)), (7, (.int .i64 0))], [(3, some ⟨(.row 1 (([]).map (AV.int .i64))), false⟩)]⟩) rfl ?_
    refine a_block ?_
    refine a_loop (emb := fun (s : (Int × (List Int))) => ⟨[(3, (.osl 3)), (6, (eA64u8 a0)), (7, (.int .i64 s.1))], [(3, some ⟨(.row 1 (s.2.map (AV.int .i64))), false⟩)]⟩) (body := (fun s : (Int × (List Int)) => impl_rowOf_l1 a0 s.1 s.2)) (G := fun q => some q = some y18) h rfl ?_ rfl
    rintro X30 ⟨x25, x26⟩ x31 h hX32
    have h : impl_rowOf_l1 a0 x25 x26 = some x31 := h
    refine a_st (σ' := ⟨[(3, (.osl 3)), (6, (eA64u8 a0)), (7, (.int .i64 x25))], [(3, some ⟨(.row 1 (x26.map (AV.int .i64))), false⟩)]⟩) rfl ?_
    refine a_seq ?_
    refine a_region ?_
    refine a_val (v := (.bool ((decide (x25 < 64))))) (u := []) rfl trivial rfl ?_
    refine a_nil ?_
    refine a_next (σ' := ⟨[(3, (.osl 3)), (6, (eA64u8 a0)), (7, (.int .i64 x25)), (8, (.bool ((decide (x25 < 64)))))], [(3, some ⟨(.row 1 (x26.map (AV.int .i64))), false⟩)]⟩) rfl ?_
    refine a_seq ?_
    cases hb33 : (decide (x25 < 64))
    · have h := ite_f hb33 h
      refine a_cond_f rfl ?_
      refine a_exit ?_
      refine t_exit ?_
      cases h
      have h := hX32
      refine t_exit ?_
      refine b_exit ?_
      exact j_leaf x26 (Option.some.inj h) rfl
    · have h := ite_t hb33 h
      refine a_cond_t rfl ?_
      refine a_skip ?_
      refine a_next (σ' := ⟨[(3, (.osl 3)), (6, (eA64u8 a0)), (7, (.int .i64 x25))], [(3, some ⟨(.row 1 (x26.map (AV.int .i64))), false⟩)]⟩) rfl ?_
      refine a_seq ?_
      refine a_block ?_
      refine a_seq ?_
      refine a_region ?_
      obtain ⟨hc34, h⟩ := ifp_some h
      refine a_val (v := (.int .u8 (rd a0.1 x25.toNat))) (u := []) (ix_run (i := ⟨.int .u8, 1, 1, (.int .u8 0)⟩) (f := (AV.int .u8)) rfl rfl rfl rfl (vlt a0 hc34)) ⟨hc34.1, hc34.2, rfl, rfl, rfl, rfl⟩ rfl ?_
      refine a_val (v := (.int .u8 (rd a0.1 x25.toNat))) (u := []) rfl trivial rfl ?_
      refine a_nil ?_
      refine a_next (σ' := ⟨[(3, (.osl 3)), (5, (.int .u8 (rd a0.1 x25.toNat))), (6, (eA64u8 a0)), (7, (.int .i64 x25))], [(3, some ⟨(.row 1 (x26.map (AV.int .i64))), false⟩)]⟩) rfl ?_
      refine a_region ?_
      refine a_val (v := (.osl 3)) (u := []) rfl trivial rfl ?_
      refine a_val (v := (.int .u8 (rd a0.1 x25.toNat))) (u := []) rfl trivial rfl ?_
      refine a_val (v := (.int .i64 (IntKind.i64.wrap (rd a0.1 x25.toNat)))) (u := []) rfl trivial rfl ?_
      refine a_val (v := (.sl 1 true (([IntKind.i64.wrap (rd a0.1 x25.toNat)]).map (AV.int .i64)))) (u := []) rfl ⟨(Nat.le_of_ble_eq_true rfl), (Nat.le_of_ble_eq_true rfl), (all_cons ⟨(Nat.le_of_ble_eq_true rfl), rfl⟩ all_nil)⟩ rfl ?_
      obtain ⟨hc35, h⟩ := ifp_some h
      refine a_val (v := (.osl 2400)) (u := [(2400, some ⟨(.row 1 (((x26 ++ ([IntKind.i64.wrap (rd a0.1 x25.toNat)]))).map (AV.int .i64))), false⟩), (3, none)]) (app_run (i := ⟨.int .i64, 1, 8, (.int .i64 0)⟩) (f := (AV.int .i64)) (l := x26) (l2 := [IntKind.i64.wrap (rd a0.1 x25.toNat)]) rfl rfl rfl rfl (fun _ => rfl) rfl rfl) (app_c (f := (AV.int .i64)) (s := 1) (sz := 1) (by' := 8) (u := []) (id := 3) hc35 (.inr rfl) rfl rfl rfl) rfl ?_
      refine a_val (v := (.osl 2400)) (u := []) rfl trivial rfl ?_
      refine a_nil ?_
      refine b_norm ?_
      refine a_next (σ' := ⟨[(3, (.osl 3)), (6, (eA64u8 a0)), (7, (.int .i64 x25))], [(3, some ⟨(.row 1 (((x26 ++ ([IntKind.i64.wrap (rd a0.1 x25.toNat)]))).map (AV.int .i64))), false⟩)]⟩) rfl ?_
      refine a_region ?_
      refine a_val (v := (.int .i64 (IntKind.i64.wrap (x25 + 1)))) (u := []) rfl trivial rfl ?_
      refine a_val (v := (.int .i64 (IntKind.i64.wrap (x25 + 1)))) (u := []) rfl trivial rfl ?_
      refine a_nil ?_
      cases h
      exact a_again rfl hX32
end Go.Proofs.Ytacebpbhddkelaa
