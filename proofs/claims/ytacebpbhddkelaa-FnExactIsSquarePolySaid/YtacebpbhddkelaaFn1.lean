/- Functions of the program: plain Lean functions, and that the program computes them. Printed by gen.py. -/
import Derived.Test.YtacebpbhddkelaaFnT
namespace Go.Proofs.Ytacebpbhddkelaa
open Go.Abs Go.Proofs
set_option linter.unusedSimpArgs false
set_option linter.unusedVariables false

def laws_toPoly_c : ACode := (.seq (.region 0 [⟨some 1, .box 22 (.tmp 0), none, []⟩, ⟨some 2, .alloc 23, none, []⟩] false) (.seq (.region 1 [⟨some 3, .alloc 23, none, []⟩] false) (.seq (.seq (.region 2 [⟨some 4, .asg 0 (.const (.int .i64 0)) 3, none, []⟩] false) (.block 0 (.loop (.seq (.seq (.region 3 [⟨some 5, .mov (.tmp 4), none, []⟩, ⟨some 6, .bin .lss 3 (.tmp 5) (.const (.int .i64 64)), none, []⟩] false) (.cond (.tmp 6) .skip (.exit 0))) (.seq (.block 1 (.region 5 [⟨some 9, .mov (.tmp 4), none, []⟩, ⟨some 10, .mov (.tmp 4), none, []⟩, ⟨some 11, .indexAddr 22 (.tmp 1) (.tmp 10), none, []⟩, ⟨some 12, .load 5 (.tmp 11), none, []⟩, ⟨some 13, .indexAddr 23 (.tmp 3) (.tmp 9), none, []⟩, ⟨none, .store 5 (.tmp 13) (.tmp 12), none, []⟩] false)) (.region 4 [⟨some 7, .mov (.tmp 4), none, []⟩, ⟨some 8, .bin .add 3 (.tmp 7) (.const (.int .i64 1)), none, []⟩, ⟨some 4, .asg 0 (.tmp 8) 3, none, []⟩] false)))))) (.seq (.region 6 [⟨some 14, .load 23 (.tmp 3), none, []⟩, ⟨none, .store 23 (.tmp 2) (.tmp 14), none, []⟩] false) .ret))))
def laws_toPoly_L : Live := [(0, [0]), (1, [1, 2]), (2, [1, 2, 3]), (3, [1, 2, 3, 4]), (4, [1, 2, 3, 4]), (5, [1, 2, 3, 4]), (6, [2, 3]), (100006, [1, 2, 3, 4, 6])]
theorem laws_toPoly_body : Try.f32.body = some (Try.f32.body.getD .skip) := by kernel_rfl
theorem laws_toPoly_strip : strip [] (Try.f32.body.getD .skip) = laws_toPoly_c := by kernel_rfl
noncomputable def laws_toPoly_l1 (a0 : (Vec Int 64)) (x31 : Int) (x32 : (Vec Int 64)) : Option ((Int × (Vec Int 64)) ⊕ (Vec Int 64)) :=
  (if (decide (x31 < 64)) then (ifp (0 ≤ x31 ∧ x31 < ((64 : Nat) : Int)) ((ifp (0 ≤ x31 ∧ x31 < ((64 : Nat) : Int)) ((some (.inl ((IntKind.i64.wrap (x31 + 1), (vset x32 x31.toNat (rd a0.1 x31.toNat)))))))))) else (some (.inr x32)))
noncomputable def laws_toPoly (a0 : (Vec Int 64)) : Option (Vec Int 64) :=
  (Option.bind (α := (Vec Int 64)) ((loopM (fun s : (Int × (Vec Int 64)) => laws_toPoly_l1 a0 s.1 s.2) (0, (vrep 64 (0 : Int))))) fun x22 => (some x22))
set_option maxHeartbeats 16000000 in
theorem laws_toPoly_ok (a0 : (Vec Int 64)) (r : (Vec Int 64)) (h : laws_toPoly a0 = some r) : Den Try.prog 32 [(eA64u8 a0)] { r := (eA64u8 r) } := by
  refine den_of (rs := [(eA64u8 r)]) (ac := laws_toPoly_c) (L := laws_toPoly_L) (n := 15) (m := []) good Try.func32 laws_toPoly_body (by kernel_rfl) Try.ntmps32 rfl rfl laws_toPoly_strip rfl rfl ?_
  refine a_st (σ' := ⟨[(0, (eA64u8 a0))], []⟩) rfl ?_
  unfold laws_toPoly_c
  refine a_seq ?_
  refine a_region ?_
  refine a_val (v := (.own 1100 [] [])) (u := [(1100, some ⟨(eA64u8 a0), false⟩)]) rfl trivial rfl ?_
  refine a_val (v := (.own 1200 [] [])) (u := [(1200, some ⟨(eA64u8 ((vrep 64 (0 : Int)))), false⟩)]) rfl trivial rfl ?_
  refine a_nil ?_
  refine a_next (σ' := ⟨[(1, (.own 1 [] [])), (2, (.own 2 [] []))], [(1, some ⟨(eA64u8 a0), false⟩), (2, some ⟨(eA64u8 ((vrep 64 (0 : Int)))), false⟩)]⟩) rfl ?_
  refine a_seq ?_
  refine a_region ?_
  refine a_val (v := (.own 1300 [] [])) (u := [(1300, some ⟨(eA64u8 ((vrep 64 (0 : Int)))), false⟩)]) rfl trivial rfl ?_
  refine a_nil ?_
  refine a_next (σ' := ⟨[(1, (.own 1 [] [])), (2, (.own 2 [] [])), (3, (.own 3 [] []))], [(1, some ⟨(eA64u8 a0), false⟩), (2, some ⟨(eA64u8 ((vrep 64 (0 : Int)))), false⟩), (3, some ⟨(eA64u8 ((vrep 64 (0 : Int)))), false⟩)]⟩) rfl ?_
  obtain ⟨y23, hy24, hk25⟩ := bind_some h
  clear h
  refine a_join (emb := fun (s : (Vec Int 64)) => ⟨[(2, (.own 2 [] [])), (3, (.own 3 [] []))], [(2, some ⟨(eA64u8 ((vrep 64 (0 : Int)))), false⟩), (3, some ⟨(eA64u8 s), false⟩)]⟩) (pre := fun s => s = y23) ?_ ?_
  · rintro x22 rfl
    have h := hk25
    refine a_st (σ' := ⟨[(2, (.own 2 [] [])), (3, (.own 3 [] []))], [(2, some ⟨(eA64u8 ((vrep 64 (0 : Int)))), false⟩), (3, some ⟨(eA64u8 x22), false⟩)]⟩) rfl ?_
    refine a_seq ?_
    refine a_region ?_
    have hl47 : LdOk [] (eA64u8 x22) [] 64 true (eA64u8 x22) := (.nil rfl rfl rfl)
    refine a_val (v := (eA64u8 x22)) (u := []) (ld_own (i := ⟨.arr 64 5, 64, 64, (eA64u8 (vrep 64 (0 : Int)))⟩) rfl rfl rfl hl47) hl47.c rfl ?_
    have hs48 : StOk [] (eA64u8 ((vrep 64 (0 : Int)))) [] 64 (eA64u8 x22) (eA64u8 x22) := (.nil rfl rfl rfl rfl)
    refine a_val (v := .top) (u := [(2, some ⟨(eA64u8 x22), false⟩)]) (st_own (i := ⟨.arr 64 5, 64, 64, (eA64u8 (vrep 64 (0 : Int)))⟩) rfl rfl (fun _ => rfl) rfl hs48) (hs48.c rfl) rfl ?_
    refine a_nil ?_
    refine a_next rfl ?_
    refine a_ret ?_
    have hl49 : LdOk [] (eA64u8 x22) [] 64 true (eA64u8 x22) := (.nil rfl rfl rfl)
    refine ⟨.inr rfl, ?_⟩
    rw [Try.results32]
    cases h
    exact ⟨_, _, _, _, _, ld_own (i := ⟨.arr 64 5, 64, 64, (eA64u8 (vrep 64 (0 : Int)))⟩) rfl rfl rfl hl49, hl49.c, .inl ⟨rfl, .inl rfl⟩, rfl, rfl⟩
  · have h := hy24
    refine a_seq ?_
    refine a_region ?_
    refine a_val (v := (.int .i64 0)) (u := []) rfl trivial rfl ?_
    refine a_nil ?_
    refine a_next (σ' := ⟨[(1, (.own 1 [] [])), (2, (.own 2 [] [])), (3, (.own 3 [] [])), (4, (.int .i64 0))], [(1, some ⟨(eA64u8 a0), false⟩), (2, some ⟨(eA64u8 ((vrep 64 (0 : Int)))), false⟩), (3, some ⟨(eA64u8 ((vrep 64 (0 : Int)))), false⟩)]⟩) rfl ?_
    refine a_block ?_
    refine a_loop (emb := fun (s : (Int × (Vec Int 64))) => ⟨[(1, (.own 1 [] [])), (2, (.own 2 [] [])), (3, (.own 3 [] [])), (4, (.int .i64 s.1))], [(1, some ⟨(eA64u8 a0), false⟩), (2, some ⟨(eA64u8 ((vrep 64 (0 : Int)))), false⟩), (3, some ⟨(eA64u8 s.2), false⟩)]⟩) (body := (fun s : (Int × (Vec Int 64)) => laws_toPoly_l1 a0 s.1 s.2)) (G := fun q => some q = some y23) h rfl ?_ rfl
    rintro X38 ⟨x31, x32⟩ x39 h hX40
    have h : laws_toPoly_l1 a0 x31 x32 = some x39 := h
    refine a_st (σ' := ⟨[(1, (.own 1 [] [])), (2, (.own 2 [] [])), (3, (.own 3 [] [])), (4, (.int .i64 x31))], [(1, some ⟨(eA64u8 a0), false⟩), (2, some ⟨(eA64u8 ((vrep 64 (0 : Int)))), false⟩), (3, some ⟨(eA64u8 x32), false⟩)]⟩) rfl ?_
    refine a_seq ?_
    refine a_seq ?_
    refine a_region ?_
    refine a_val (v := (.int .i64 x31)) (u := []) rfl trivial rfl ?_
    refine a_val (v := (.bool ((decide (x31 < 64))))) (u := []) rfl trivial rfl ?_
    refine a_nil ?_
    refine a_next (σ' := ⟨[(1, (.own 1 [] [])), (2, (.own 2 [] [])), (3, (.own 3 [] [])), (4, (.int .i64 x31)), (6, (.bool ((decide (x31 < 64)))))], [(1, some ⟨(eA64u8 a0), false⟩), (2, some ⟨(eA64u8 ((vrep 64 (0 : Int)))), false⟩), (3, some ⟨(eA64u8 x32), false⟩)]⟩) rfl ?_
    cases hb41 : (decide (x31 < 64))
    · have h := ite_f hb41 h
      refine a_cond_f rfl ?_
      refine a_exit ?_
      refine t_exit ?_
      cases h
      have h := hX40
      refine t_exit ?_
      refine b_exit ?_
      exact j_leaf x32 (Option.some.inj h) rfl
    · have h := ite_t hb41 h
      refine a_cond_t rfl ?_
      refine a_skip ?_
      refine a_next (σ' := ⟨[(1, (.own 1 [] [])), (2, (.own 2 [] [])), (3, (.own 3 [] [])), (4, (.int .i64 x31))], [(1, some ⟨(eA64u8 a0), false⟩), (2, some ⟨(eA64u8 ((vrep 64 (0 : Int)))), false⟩), (3, some ⟨(eA64u8 x32), false⟩)]⟩) rfl ?_
      refine a_seq ?_
      refine a_block ?_
      refine a_region ?_
      refine a_val (v := (.int .i64 x31)) (u := []) rfl trivial rfl ?_
      refine a_val (v := (.int .i64 x31)) (u := []) rfl trivial rfl ?_
      obtain ⟨hc42, h⟩ := ifp_some h
      refine a_val (v := (.own 1 [x31.toNat] [x31.toNat * 1])) (u := []) rfl hc42 rfl ?_
      have hl43 : LdOk [x31.toNat] (eA64u8 a0) [x31.toNat * 1] 1 false (.int .u8 (rd a0.1 x31.toNat)) := (.arr (vlt a0 hc42) rfl (.nil rfl rfl rfl))
      refine a_val (v := (.int .u8 (rd a0.1 x31.toNat))) (u := []) (ld_own (i := ⟨.int .u8, 1, 1, (.int .u8 0)⟩) rfl rfl rfl hl43) hl43.c rfl ?_
      obtain ⟨hc44, h⟩ := ifp_some h
      refine a_val (v := (.own 3 [x31.toNat] [x31.toNat * 1])) (u := []) rfl hc44 rfl ?_
      have hs45 : StOk [x31.toNat] (eA64u8 x32) [x31.toNat * 1] 1 (.int .u8 (rd a0.1 x31.toNat)) (eA64u8 ((vset x32 x31.toNat (rd a0.1 x31.toNat)))) := (.arr (y := (rd a0.1 x31.toNat)) (vlt x32 hc44) rfl (.nil rfl rfl rfl rfl))
      refine a_val (v := .top) (u := [(3, some ⟨(eA64u8 ((vset x32 x31.toNat (rd a0.1 x31.toNat)))), false⟩)]) (st_own (i := ⟨.int .u8, 1, 1, (.int .u8 0)⟩) rfl rfl (fun _ => rfl) rfl hs45) (hs45.c rfl) rfl ?_
      refine a_nil ?_
      refine b_norm ?_
      refine a_next (σ' := ⟨[(1, (.own 1 [] [])), (2, (.own 2 [] [])), (3, (.own 3 [] [])), (4, (.int .i64 x31))], [(1, some ⟨(eA64u8 a0), false⟩), (2, some ⟨(eA64u8 ((vrep 64 (0 : Int)))), false⟩), (3, some ⟨(eA64u8 ((vset x32 x31.toNat (rd a0.1 x31.toNat)))), false⟩)]⟩) rfl ?_
      refine a_region ?_
      refine a_val (v := (.int .i64 x31)) (u := []) rfl trivial rfl ?_
      refine a_val (v := (.int .i64 (IntKind.i64.wrap (x31 + 1)))) (u := []) rfl trivial rfl ?_
      refine a_val (v := (.int .i64 (IntKind.i64.wrap (x31 + 1)))) (u := []) rfl trivial rfl ?_
      refine a_nil ?_
      cases h
      exact a_again rfl hX40
def spec_l01Prime_c : ACode := (.seq (.region 0 [⟨some 2, .asg 0 (.const (.bool false)) 4, none, []⟩] false) (.seq (.region 1 [⟨some 3, .mov (.tmp 0), none, []⟩, ⟨some 4, .bin .eql 2 (.tmp 3) (.const (.int .i64 2)), none, []⟩, ⟨some 5, .mov (.tmp 4), none, []⟩, ⟨some 6, .mov (.tmp 0), some (5, false), []⟩, ⟨some 7, .bin .eql 2 (.tmp 6) (.const (.int .i64 3)), some (5, false), []⟩, ⟨some 8, .pick (.tmp 5) (.const (.bool true)) (.tmp 7), none, []⟩, ⟨some 9, .mov (.tmp 8), none, []⟩, ⟨some 10, .mov (.tmp 0), some (9, false), []⟩, ⟨some 11, .bin .eql 2 (.tmp 10) (.const (.int .i64 5)), some (9, false), []⟩, ⟨some 12, .pick (.tmp 9) (.const (.bool true)) (.tmp 11), none, []⟩, ⟨some 13, .mov (.tmp 12), none, []⟩, ⟨some 14, .mov (.tmp 0), some (13, false), []⟩, ⟨some 15, .bin .eql 2 (.tmp 14) (.const (.int .i64 7)), some (13, false), []⟩, ⟨some 16, .pick (.tmp 13) (.const (.bool true)) (.tmp 15), none, []⟩, ⟨some 2, .asg 0 (.tmp 16) 4, none, []⟩] false) .ret))
def spec_l01Prime_L : Live := [(0, [0]), (1, [0])]
theorem spec_l01Prime_body : Try.f56.body = some (Try.f56.body.getD .skip) := by kernel_rfl
theorem spec_l01Prime_strip : strip [] (Try.f56.body.getD .skip) = spec_l01Prime_c := by kernel_rfl
noncomputable def spec_l01Prime (a0 : Int) : Option Bool :=
  (if (a0 == 2) then (some true) else (if (a0 == 3) then (some true) else (if (a0 == 5) then (some true) else (some (a0 == 7)))))
set_option maxHeartbeats 16000000 in
theorem spec_l01Prime_ok (a0 : Int) (r : Bool) (h : spec_l01Prime a0 = some r) : Den Try.prog 56 [(.int .i64 a0)] { r := (.bool r) } := by
  refine den_of (rs := [(.bool r)]) (ac := spec_l01Prime_c) (L := spec_l01Prime_L) (n := 17) (m := []) good Try.func56 spec_l01Prime_body (by kernel_rfl) Try.ntmps56 rfl rfl spec_l01Prime_strip rfl rfl ?_
  refine a_st (σ' := ⟨[(0, (.int .i64 a0))], []⟩) rfl ?_
  unfold spec_l01Prime_c
  refine a_seq ?_
  refine a_region ?_
  refine a_val (v := (.bool false)) (u := []) rfl trivial rfl ?_
  refine a_nil ?_
  refine a_next (σ' := ⟨[(0, (.int .i64 a0))], []⟩) rfl ?_
  refine a_seq ?_
  refine a_region ?_
  refine a_val (v := (.int .i64 a0)) (u := []) rfl trivial rfl ?_
  refine a_val (v := (.bool (a0 == 2))) (u := []) rfl trivial rfl ?_
  refine a_val (v := (.bool (a0 == 2))) (u := []) rfl trivial rfl ?_
  cases hb1 : (a0 == 2)
  · have h := ite_f hb1 h
    refine a_gval rfl (v := (.int .i64 a0)) (u := []) rfl trivial rfl ?_
    refine a_gval rfl (v := (.bool (a0 == 3))) (u := []) rfl trivial rfl ?_
    refine a_val (v := (.bool (a0 == 3))) (u := []) rfl trivial rfl ?_
    refine a_val (v := (.bool (a0 == 3))) (u := []) rfl trivial rfl ?_
    cases hb2 : (a0 == 3)
    · have h := ite_f hb2 h
      refine a_gval rfl (v := (.int .i64 a0)) (u := []) rfl trivial rfl ?_
      refine a_gval rfl (v := (.bool (a0 == 5))) (u := []) rfl trivial rfl ?_
      refine a_val (v := (.bool (a0 == 5))) (u := []) rfl trivial rfl ?_
      refine a_val (v := (.bool (a0 == 5))) (u := []) rfl trivial rfl ?_
      cases hb3 : (a0 == 5)
      · have h := ite_f hb3 h
        refine a_gval rfl (v := (.int .i64 a0)) (u := []) rfl trivial rfl ?_
        refine a_gval rfl (v := (.bool (a0 == 7))) (u := []) rfl trivial rfl ?_
        refine a_val (v := (.bool (a0 == 7))) (u := []) rfl trivial rfl ?_
        refine a_val (v := (.bool (a0 == 7))) (u := []) rfl trivial rfl ?_
        refine a_nil ?_
        refine a_next rfl ?_
        refine a_ret ?_
        refine ⟨.inr rfl, ?_⟩
        rw [Try.results56]
        cases h
        exact ⟨_, _, _, _, _, rfl, trivial, .inl ⟨rfl, .inl rfl⟩, rfl, rfl⟩
      · have h := ite_t hb3 h
        refine a_gskip rfl ?_
        refine a_gskip rfl ?_
        refine a_val (v := (.bool true)) (u := []) rfl trivial rfl ?_
        refine a_val (v := (.bool true)) (u := []) rfl trivial rfl ?_
        refine a_nil ?_
        refine a_next rfl ?_
        refine a_ret ?_
        refine ⟨.inr rfl, ?_⟩
        rw [Try.results56]
        cases h
        exact ⟨_, _, _, _, _, rfl, trivial, .inl ⟨rfl, .inl rfl⟩, rfl, rfl⟩
    · have h := ite_t hb2 h
      refine a_gskip rfl ?_
      refine a_gskip rfl ?_
      refine a_val (v := (.bool true)) (u := []) rfl trivial rfl ?_
      refine a_val (v := (.bool true)) (u := []) rfl trivial rfl ?_
      refine a_gskip rfl ?_
      refine a_gskip rfl ?_
      refine a_val (v := (.bool true)) (u := []) rfl trivial rfl ?_
      refine a_val (v := (.bool true)) (u := []) rfl trivial rfl ?_
      refine a_nil ?_
      refine a_next rfl ?_
      refine a_ret ?_
      refine ⟨.inr rfl, ?_⟩
      rw [Try.results56]
      cases h
      exact ⟨_, _, _, _, _, rfl, trivial, .inl ⟨rfl, .inl rfl⟩, rfl, rfl⟩
  · have h := ite_t hb1 h
    refine a_gskip rfl ?_
    refine a_gskip rfl ?_
    refine a_val (v := (.bool true)) (u := []) rfl trivial rfl ?_
    refine a_val (v := (.bool true)) (u := []) rfl trivial rfl ?_
    refine a_gskip rfl ?_
    refine a_gskip rfl ?_
    refine a_val (v := (.bool true)) (u := []) rfl trivial rfl ?_
    refine a_val (v := (.bool true)) (u := []) rfl trivial rfl ?_
    refine a_gskip rfl ?_
    refine a_gskip rfl ?_
    refine a_val (v := (.bool true)) (u := []) rfl trivial rfl ?_
    refine a_val (v := (.bool true)) (u := []) rfl trivial rfl ?_
    refine a_nil ?_
    refine a_next rfl ?_
    refine a_ret ?_
    refine ⟨.inr rfl, ?_⟩
    rw [Try.results56]
    cases h
    exact ⟨_, _, _, _, _, rfl, trivial, .inl ⟨rfl, .inl rfl⟩, rfl, rfl⟩
def spec_l01Is_c : ACode := (.seq (.region 0 [⟨some 3, .box 23 (.tmp 1), none, []⟩, ⟨some 4, .asg 0 (.const (.bool false)) 4, none, []⟩] false) (.seq (.seq (.region 1 [⟨some 5, .asg 0 (.const (.int .i64 0)) 3, none, []⟩] false) (.block 0 (.loop (.seq (.seq (.region 2 [⟨some 6, .mov (.tmp 5), none, []⟩, ⟨some 7, .bin .lss 3 (.tmp 6) (.const (.int .i64 64)), none, []⟩] false) (.cond (.tmp 7) .skip (.exit 0))) (.seq (.block 1 (.seq (.region 4 [⟨some 10, .mov (.tmp 5), none, []⟩, ⟨some 11, .indexAddr 23 (.tmp 3) (.tmp 10), none, []⟩, ⟨some 12, .load 5 (.tmp 11), none, []⟩, ⟨some 13, .conv 5 2 (.tmp 12), none, []⟩, ⟨some 14, .mov (.tmp 0), none, []⟩, ⟨some 15, .bin .geq 2 (.tmp 13) (.tmp 14), none, []⟩] false) (.cond (.tmp 15) (.seq (.region 5 [⟨some 4, .asg 0 (.const (.bool false)) 4, none, []⟩] false) .ret) .skip))) (.region 3 [⟨some 8, .mov (.tmp 5), none, []⟩, ⟨some 9, .bin .add 3 (.tmp 8) (.const (.int .i64 1)), none, []⟩, ⟨some 5, .asg 0 (.tmp 9) 3, none, []⟩] false)))))) (.seq (.region 6 [⟨some 16, .mov (.tmp 0), none, []⟩, ⟨some 17, .call 0 (.func 56) [(.tmp 16)], none, []⟩, ⟨some 4, .asg 0 (.tmp 17) 4, none, []⟩] false) .ret)))
def spec_l01Is_L : Live := [(0, [0, 1]), (1, [0, 3]), (2, [0, 3, 5]), (3, [0, 3, 5]), (4, [0, 3, 5]), (5, []), (6, [0]), (100007, [0, 3, 5, 7]), (100015, [0, 3, 5, 15])]
theorem spec_l01Is_body : Try.f131.body = some (Try.f131.body.getD .skip) := by kernel_rfl
theorem spec_l01Is_strip : strip [] (Try.f131.body.getD .skip) = spec_l01Is_c := by kernel_rfl
noncomputable def spec_l01Is_l1 (a1 : (Vec Int 64)) (a0 : Int) (x25 : Int) : Option (Int ⊕ (Unit ⊕ Bool)) :=
  (if (decide (x25 < 64)) then (ifp (0 ≤ x25 ∧ x25 < ((64 : Nat) : Int)) ((if (decide ((IntKind.i64.wrap (rd a1.1 x25.toNat)) ≥ a0)) then (some (.inr (.inr false))) else (some (.inl (IntKind.i64.wrap (x25 + 1))))))) else (some (.inr (((.inl ()))))))
noncomputable def spec_l01Is (a0 : Int) (a1 : (Vec Int 64)) : Option Bool :=
  (Option.bind (α := (Unit ⊕ Bool)) ((loopM (fun s : Int => spec_l01Is_l1 a1 a0 s) 0)) fun z => match z with | .inl _ => (Option.bind (spec_l01Prime a0) fun r38 => (some r38)) | .inr r40 => (some r40))
set_option maxHeartbeats 16000000 in
theorem spec_l01Is_ok (a0 : Int) (a1 : (Vec Int 64)) (r : Bool) (h : spec_l01Is a0 a1 = some r) : Den Try.prog 131 [(.int .i64 a0), (eA64u8 a1)] { r := (.bool r) } := by
  refine den_of (rs := [(.bool r)]) (ac := spec_l01Is_c) (L := spec_l01Is_L) (n := 18) (m := []) good Try.func131 spec_l01Is_body (by kernel_rfl) Try.ntmps131 rfl rfl spec_l01Is_strip rfl rfl ?_
  refine a_st (σ' := ⟨[(0, (.int .i64 a0)), (1, (eA64u8 a1))], []⟩) rfl ?_
  unfold spec_l01Is_c
  refine a_seq ?_
  refine a_region ?_
  refine a_val (v := (.own 1300 [] [])) (u := [(1300, some ⟨(eA64u8 a1), false⟩)]) rfl trivial rfl ?_
  refine a_val (v := (.bool false)) (u := []) rfl trivial rfl ?_
  refine a_nil ?_
  refine a_next (σ' := ⟨[(0, (.int .i64 a0)), (3, (.own 3 [] []))], [(3, some ⟨(eA64u8 a1), false⟩)]⟩) rfl ?_
  obtain ⟨y18, hy19, hk20⟩ := bind_some h
  clear h
  refine a_join (emb := fun (s : Unit) => ⟨[(0, (.int .i64 a0))], []⟩) (pre := fun s => (.inl s) = y18) ?_ ?_
  · rintro _ rfl
    have h := hk20
    refine a_st (σ' := ⟨[(0, (.int .i64 a0))], []⟩) rfl ?_
    refine a_seq ?_
    refine a_region ?_
    refine a_val (v := (.int .i64 a0)) (u := []) rfl trivial rfl ?_
    obtain ⟨r38, hr39, h⟩ := bind_some h
    refine a_call (args := [(.int .i64 a0)]) (u := []) (r := (.bool r38)) rfl rfl (spec_l01Prime_ok a0 r38 hr39) rfl ?_
    refine a_val (v := (.bool r38)) (u := []) rfl trivial rfl ?_
    refine a_nil ?_
    refine a_next rfl ?_
    refine a_ret ?_
    refine ⟨.inr rfl, ?_⟩
    rw [Try.results131]
    cases h
    exact ⟨_, _, _, _, _, rfl, trivial, .inl ⟨rfl, .inl rfl⟩, rfl, rfl⟩
  · have h := hy19
    refine a_seq ?_
    refine a_region ?_
    refine a_val (v := (.int .i64 0)) (u := []) rfl trivial rfl ?_
    refine a_nil ?_
    refine a_next (σ' := ⟨[(0, (.int .i64 a0)), (3, (.own 3 [] [])), (5, (.int .i64 0))], [(3, some ⟨(eA64u8 a1), false⟩)]⟩) rfl ?_
    refine a_block ?_
    refine a_loop (emb := fun (s : Int) => ⟨[(0, (.int .i64 a0)), (3, (.own 3 [] [])), (5, (.int .i64 s))], [(3, some ⟨(eA64u8 a1), false⟩)]⟩) (body := (fun s : Int => spec_l01Is_l1 a1 a0 s)) (G := fun q => some q = some y18) h rfl ?_ rfl
    rintro X30 x25 x31 h hX32
    have h : spec_l01Is_l1 a1 a0 x25 = some x31 := h
    refine a_st (σ' := ⟨[(0, (.int .i64 a0)), (3, (.own 3 [] [])), (5, (.int .i64 x25))], [(3, some ⟨(eA64u8 a1), false⟩)]⟩) rfl ?_
    refine a_seq ?_
    refine a_seq ?_
    refine a_region ?_
    refine a_val (v := (.int .i64 x25)) (u := []) rfl trivial rfl ?_
    refine a_val (v := (.bool ((decide (x25 < 64))))) (u := []) rfl trivial rfl ?_
    refine a_nil ?_
    refine a_next (σ' := ⟨[(0, (.int .i64 a0)), (3, (.own 3 [] [])), (5, (.int .i64 x25)), (7, (.bool ((decide (x25 < 64)))))], [(3, some ⟨(eA64u8 a1), false⟩)]⟩) rfl ?_
    cases hb33 : (decide (x25 < 64))
    · have h := ite_f hb33 h
      refine a_cond_f rfl ?_
      refine a_exit ?_
      refine t_exit ?_
      cases h
      have h := hX32
      refine t_exit ?_
      refine b_exit ?_
      exact j_leaf () (Option.some.inj h) rfl
    · have h := ite_t hb33 h
      refine a_cond_t rfl ?_
      refine a_skip ?_
      refine a_next (σ' := ⟨[(0, (.int .i64 a0)), (3, (.own 3 [] [])), (5, (.int .i64 x25))], [(3, some ⟨(eA64u8 a1), false⟩)]⟩) rfl ?_
      refine a_seq ?_
      refine a_block ?_
      refine a_seq ?_
      refine a_region ?_
      refine a_val (v := (.int .i64 x25)) (u := []) rfl trivial rfl ?_
      obtain ⟨hc34, h⟩ := ifp_some h
      refine a_val (v := (.own 3 [x25.toNat] [x25.toNat * 1])) (u := []) rfl hc34 rfl ?_
      have hl35 : LdOk [x25.toNat] (eA64u8 a1) [x25.toNat * 1] 1 false (.int .u8 (rd a1.1 x25.toNat)) := (.arr (vlt a1 hc34) rfl (.nil rfl rfl rfl))
      refine a_val (v := (.int .u8 (rd a1.1 x25.toNat))) (u := []) (ld_own (i := ⟨.int .u8, 1, 1, (.int .u8 0)⟩) rfl rfl rfl hl35) hl35.c rfl ?_
      refine a_val (v := (.int .i64 (IntKind.i64.wrap (rd a1.1 x25.toNat)))) (u := []) rfl trivial rfl ?_
      refine a_val (v := (.int .i64 a0)) (u := []) rfl trivial rfl ?_
      refine a_val (v := (.bool ((decide ((IntKind.i64.wrap (rd a1.1 x25.toNat)) ≥ a0))))) (u := []) rfl trivial rfl ?_
      refine a_nil ?_
      refine a_next (σ' := ⟨[(0, (.int .i64 a0)), (3, (.own 3 [] [])), (5, (.int .i64 x25)), (15, (.bool ((decide ((IntKind.i64.wrap (rd a1.1 x25.toNat)) ≥ a0)))))], [(3, some ⟨(eA64u8 a1), false⟩)]⟩) rfl ?_
      cases hb36 : (decide ((IntKind.i64.wrap (rd a1.1 x25.toNat)) ≥ a0))
      · have h := ite_f hb36 h
        refine a_cond_f rfl ?_
        refine a_skip ?_
        refine b_norm ?_
        refine a_next (σ' := ⟨[(0, (.int .i64 a0)), (3, (.own 3 [] [])), (5, (.int .i64 x25))], [(3, some ⟨(eA64u8 a1), false⟩)]⟩) rfl ?_
        refine a_region ?_
        refine a_val (v := (.int .i64 x25)) (u := []) rfl trivial rfl ?_
        refine a_val (v := (.int .i64 (IntKind.i64.wrap (x25 + 1)))) (u := []) rfl trivial rfl ?_
        refine a_val (v := (.int .i64 (IntKind.i64.wrap (x25 + 1)))) (u := []) rfl trivial rfl ?_
        refine a_nil ?_
        cases h
        exact a_again rfl hX32
      · have h := ite_t hb36 h
        refine a_cond_t rfl ?_
        refine a_seq ?_
        refine a_region ?_
        refine a_val (v := (.bool false)) (u := []) rfl trivial rfl ?_
        refine a_nil ?_
        refine a_next rfl ?_
        refine a_ret ?_
        refine b_ret ?_
        refine t_ret ?_
        cases h
        have h := hX32
        refine t_ret ?_
        refine b_ret ?_
        refine t_ret ?_
        cases h
        have h := hk20
        refine ⟨.inr rfl, ?_⟩
        rw [Try.results131]
        cases h
        exact ⟨_, _, _, _, _, rfl, trivial, .inl ⟨rfl, .inl rfl⟩, rfl, rfl⟩
def spec_l01Code_c : ACode := (.seq (.region 0 [⟨some 4, .asg 0 (.const (.int .i64 0)) 2, none, []⟩] false) (.seq (.seq (.region 1 [⟨some 6, .mov (.tmp 0), none, []⟩, ⟨some 7, .call 0 (.func 56) [(.tmp 6)], none, []⟩, ⟨some 8, .un .not (.tmp 7), none, []⟩] false) (.cond (.tmp 8) (.seq (.region 2 [⟨some 4, .asg 0 (.const (.int .i64 1)) 2, none, []⟩] false) .ret) .skip)) (.seq (.seq (.region 3 [⟨some 5, .asg 0 (.const (.int .i64 0)) 3, none, []⟩] false) (.block 0 (.loop (.seq (.seq (.region 4 [⟨some 9, .mov (.tmp 5), none, []⟩, ⟨some 10, .mov (.tmp 1), none, []⟩, ⟨some 11, .blt 0 .len [(.tmp 10)] [40], none, []⟩, ⟨some 12, .bin .lss 3 (.tmp 9) (.tmp 11), none, []⟩] false) (.cond (.tmp 12) .skip (.exit 0))) (.seq (.block 1 (.seq (.region 6 [⟨some 15, .mov (.tmp 0), none, []⟩, ⟨some 16, .mov (.tmp 1), none, []⟩, ⟨some 17, .mov (.tmp 5), none, []⟩, ⟨some 18, .indexAddr 40 (.tmp 16) (.tmp 17), none, []⟩, ⟨some 19, .load 23 (.tmp 18), none, []⟩, ⟨some 20, .call 0 (.func 131) [(.tmp 15), (.tmp 19)], none, []⟩, ⟨some 21, .un .not (.tmp 20), none, []⟩] false) (.cond (.tmp 21) (.seq (.region 7 [⟨some 4, .asg 0 (.const (.int .i64 1)) 2, none, []⟩] false) .ret) .skip))) (.region 5 [⟨some 13, .mov (.tmp 5), none, []⟩, ⟨some 14, .bin .add 3 (.tmp 13) (.const (.int .i64 1)), none, []⟩, ⟨some 5, .asg 0 (.tmp 14) 3, none, []⟩] false)))))) (.seq (.region 8 [⟨some 4, .asg 0 (.const (.int .i64 0)) 2, none, []⟩] false) .ret))))
def spec_l01Code_L : Live := [(0, [0, 1]), (1, [0, 1]), (2, []), (3, [0, 1]), (4, [0, 1, 5]), (5, [0, 1, 5]), (6, [0, 1, 5]), (7, []), (8, []), (100008, [0, 1, 8]), (100012, [0, 1, 5, 12]), (100021, [0, 1, 5, 21])]
theorem spec_l01Code_body : Try.f104.body = some (Try.f104.body.getD .skip) := by kernel_rfl
theorem spec_l01Code_strip : strip [] (Try.f104.body.getD .skip) = spec_l01Code_c := by kernel_rfl
noncomputable def spec_l01Code_l1 (a1 : (List (Vec Int 64))) (a0 : Int) (x36 : Int) : Option (Int ⊕ (Unit ⊕ Int)) :=
  (if (decide (x36 < (a1.length : Int))) then (ifp (0 ≤ x36 ∧ x36 < ((a1.length : Nat) : Int)) ((Option.bind (spec_l01Is a0 (rd a1 x36.toNat)) fun r49 => (if (!r49) then (some (.inr (.inr 1))) else (some (.inl (IntKind.i64.wrap (x36 + 1)))))))) else (some (.inr (((.inl ()))))))
noncomputable def spec_l01Code (a0 : Int) (a1 : (List (Vec Int 64))) : Option Int :=
  (Option.bind (spec_l01Prime a0) fun r1 => (if (!r1) then (some 1) else (Option.bind (α := (Unit ⊕ Int)) ((loopM (fun s : Int => spec_l01Code_l1 a1 a0 s) 0)) fun z => match z with | .inl _ => (some 0) | .inr r53 => (some r53))))
set_option maxHeartbeats 16000000 in
theorem spec_l01Code_ok (a0 : Int) (a1 : (List (Vec Int 64))) (r : Int) (h : spec_l01Code a0 a1 = some r) : Den Try.prog 104 [(.int .i64 a0), (eSA64u8 a1)] { r := (.int .i64 r) } := by
  refine den_of (rs := [(.int .i64 r)]) (ac := spec_l01Code_c) (L := spec_l01Code_L) (n := 22) (m := []) good Try.func104 spec_l01Code_body (by kernel_rfl) Try.ntmps104 rfl rfl spec_l01Code_strip rfl rfl ?_
  refine a_st (σ' := ⟨[(0, (.int .i64 a0)), (1, (eSA64u8 a1))], []⟩) rfl ?_
  unfold spec_l01Code_c
  refine a_seq ?_
  refine a_region ?_
  refine a_val (v := (.int .i64 0)) (u := []) rfl trivial rfl ?_
  refine a_nil ?_
  refine a_next (σ' := ⟨[(0, (.int .i64 a0)), (1, (eSA64u8 a1))], []⟩) rfl ?_
  refine a_seq ?_
  refine a_seq ?_
  refine a_region ?_
  refine a_val (v := (.int .i64 a0)) (u := []) rfl trivial rfl ?_
  obtain ⟨r1, hr2, h⟩ := bind_some h
  refine a_call (args := [(.int .i64 a0)]) (u := []) (r := (.bool r1)) rfl rfl (spec_l01Prime_ok a0 r1 hr2) rfl ?_
  refine a_val (v := (.bool (!r1))) (u := []) rfl trivial rfl ?_
  refine a_nil ?_
  refine a_next (σ' := ⟨[(0, (.int .i64 a0)), (1, (eSA64u8 a1)), (8, (.bool (!r1)))], []⟩) rfl ?_
  cases hb3 : (!r1)
  · have h := ite_f hb3 h
    refine a_cond_f rfl ?_
    refine a_skip ?_
    refine a_next (σ' := ⟨[(0, (.int .i64 a0)), (1, (eSA64u8 a1))], []⟩) rfl ?_
    obtain ⟨y27, hy28, hk29⟩ := bind_some h
    clear h
    refine a_join (emb := fun (s : Unit) => ⟨[], []⟩) (pre := fun s => (.inl s) = y27) ?_ ?_
    · rintro _ rfl
      have h := hk29
      refine a_st (σ' := ⟨[], []⟩) rfl ?_
      refine a_seq ?_
      refine a_region ?_
      refine a_val (v := (.int .i64 0)) (u := []) rfl trivial rfl ?_
      refine a_nil ?_
      refine a_next rfl ?_
      refine a_ret ?_
      refine ⟨.inr rfl, ?_⟩
      rw [Try.results104]
      cases h
      exact ⟨_, _, _, _, _, rfl, trivial, .inl ⟨rfl, .inl rfl⟩, rfl, rfl⟩
    · have h := hy28
      refine a_seq ?_
      refine a_region ?_
      refine a_val (v := (.int .i64 0)) (u := []) rfl trivial rfl ?_
      refine a_nil ?_
      refine a_next (σ' := ⟨[(0, (.int .i64 a0)), (1, (eSA64u8 a1)), (5, (.int .i64 0))], []⟩) rfl ?_
      refine a_block ?_
      refine a_loop (emb := fun (s : Int) => ⟨[(0, (.int .i64 a0)), (1, (eSA64u8 a1)), (5, (.int .i64 s))], []⟩) (body := (fun s : Int => spec_l01Code_l1 a1 a0 s)) (G := fun q => some q = some y27) h rfl ?_ rfl
      rintro X43 x36 x44 h hX45
      have h : spec_l01Code_l1 a1 a0 x36 = some x44 := h
      refine a_st (σ' := ⟨[(0, (.int .i64 a0)), (1, (eSA64u8 a1)), (5, (.int .i64 x36))], []⟩) rfl ?_
      refine a_seq ?_
      refine a_seq ?_
      refine a_region ?_
      refine a_val (v := (.int .i64 x36)) (u := []) rfl trivial rfl ?_
      refine a_val (v := (eSA64u8 a1)) (u := []) rfl trivial rfl ?_
      refine a_val (v := (.int .i64 (a1.length : Int))) (u := []) (len_run rfl rfl) trivial rfl ?_
      refine a_val (v := (.bool ((decide (x36 < (a1.length : Int)))))) (u := []) rfl trivial rfl ?_
      refine a_nil ?_
      refine a_next (σ' := ⟨[(0, (.int .i64 a0)), (1, (eSA64u8 a1)), (5, (.int .i64 x36)), (12, (.bool ((decide (x36 < (a1.length : Int))))))], []⟩) rfl ?_
      cases hb46 : (decide (x36 < (a1.length : Int)))
      · have h := ite_f hb46 h
        refine a_cond_f rfl ?_
        refine a_exit ?_
        refine t_exit ?_
        cases h
        have h := hX45
        refine t_exit ?_
        refine b_exit ?_
        exact j_leaf () (Option.some.inj h) rfl
      · have h := ite_t hb46 h
        refine a_cond_t rfl ?_
        refine a_skip ?_
        refine a_next (σ' := ⟨[(0, (.int .i64 a0)), (1, (eSA64u8 a1)), (5, (.int .i64 x36))], []⟩) rfl ?_
        refine a_seq ?_
        refine a_block ?_
        refine a_seq ?_
        refine a_region ?_
        refine a_val (v := (.int .i64 a0)) (u := []) rfl trivial rfl ?_
        refine a_val (v := (eSA64u8 a1)) (u := []) rfl trivial rfl ?_
        refine a_val (v := (.int .i64 x36)) (u := []) rfl trivial rfl ?_
        obtain ⟨hc47, h⟩ := ifp_some h
        refine a_val (v := (.ref (.row 64 (a1.map eA64u8)) [x36.toNat] [x36.toNat * 64])) (u := []) rfl (lmap hc47) rfl ?_
        have hl48 : LdOk [x36.toNat] (.row 64 (a1.map eA64u8)) [x36.toNat * 64] 64 true (eA64u8 (rd a1 x36.toNat)) := (.row (llt hc47) rfl (.nil rfl rfl rfl))
        refine a_val (v := (eA64u8 (rd a1 x36.toNat))) (u := []) (ld_ref (i := ⟨.arr 64 5, 64, 64, (eA64u8 (vrep 64 (0 : Int)))⟩) rfl rfl hl48) hl48.c rfl ?_
        obtain ⟨r49, hr50, h⟩ := bind_some h
        refine a_call (args := [(.int .i64 a0), (eA64u8 (rd a1 x36.toNat))]) (u := []) (r := (.bool r49)) rfl rfl (spec_l01Is_ok a0 (rd a1 x36.toNat) r49 hr50) rfl ?_
        refine a_val (v := (.bool (!r49))) (u := []) rfl trivial rfl ?_
        refine a_nil ?_
        refine a_next (σ' := ⟨[(0, (.int .i64 a0)), (1, (eSA64u8 a1)), (5, (.int .i64 x36)), (21, (.bool (!r49)))], []⟩) rfl ?_
        cases hb51 : (!r49)
        · have h := ite_f hb51 h
          refine a_cond_f rfl ?_
          refine a_skip ?_
          refine b_norm ?_
          refine a_next (σ' := ⟨[(0, (.int .i64 a0)), (1, (eSA64u8 a1)), (5, (.int .i64 x36))], []⟩) rfl ?_
          refine a_region ?_
          refine a_val (v := (.int .i64 x36)) (u := []) rfl trivial rfl ?_
          refine a_val (v := (.int .i64 (IntKind.i64.wrap (x36 + 1)))) (u := []) rfl trivial rfl ?_
          refine a_val (v := (.int .i64 (IntKind.i64.wrap (x36 + 1)))) (u := []) rfl trivial rfl ?_
          refine a_nil ?_
          cases h
          exact a_again rfl hX45
        · have h := ite_t hb51 h
          refine a_cond_t rfl ?_
          refine a_seq ?_
          refine a_region ?_
          refine a_val (v := (.int .i64 1)) (u := []) rfl trivial rfl ?_
          refine a_nil ?_
          refine a_next rfl ?_
          refine a_ret ?_
          refine b_ret ?_
          refine t_ret ?_
          cases h
          have h := hX45
          refine t_ret ?_
          refine b_ret ?_
          refine t_ret ?_
          cases h
          have h := hk29
          refine ⟨.inr rfl, ?_⟩
          rw [Try.results104]
          cases h
          exact ⟨_, _, _, _, _, rfl, trivial, .inl ⟨rfl, .inl rfl⟩, rfl, rfl⟩
  · have h := ite_t hb3 h
    refine a_cond_t rfl ?_
    refine a_seq ?_
    refine a_region ?_
    refine a_val (v := (.int .i64 1)) (u := []) rfl trivial rfl ?_
    refine a_nil ?_
    refine a_next rfl ?_
    refine a_ret ?_
    refine t_ret ?_
    refine ⟨.inr rfl, ?_⟩
    rw [Try.results104]
    cases h
    exact ⟨_, _, _, _, _, rfl, trivial, .inl ⟨rfl, .inl rfl⟩, rfl, rfl⟩
def spec_l01Deg_c : ACode := (.seq (.region 0 [⟨some 1, .box 23 (.tmp 0), none, []⟩, ⟨some 2, .asg 0 (.const (.int .i64 0)) 2, none, []⟩] false) (.seq (.region 1 [⟨some 3, .asg 0 (.const (.int .i64 63)) 2, none, []⟩] false) (.seq (.block 0 (.loop (.seq (.seq (.region 2 [⟨some 4, .mov (.tmp 3), none, []⟩, ⟨some 5, .bin .geq 2 (.tmp 4) (.const (.int .i64 0)), none, []⟩, ⟨some 6, .mov (.tmp 5), none, []⟩, ⟨some 7, .mov (.tmp 3), some (6, true), []⟩, ⟨some 8, .indexAddr 23 (.tmp 1) (.tmp 7), some (6, true), []⟩, ⟨some 9, .load 5 (.tmp 8), some (6, true), []⟩, ⟨some 10, .bin .eql 5 (.tmp 9) (.const (.int .u8 0)), some (6, true), []⟩, ⟨some 11, .pick (.tmp 6) (.tmp 10) (.const (.bool false)), none, []⟩] false) (.cond (.tmp 11) .skip (.exit 0))) (.block 1 (.region 3 [⟨some 12, .mov (.tmp 3), none, []⟩, ⟨some 13, .bin .sub 2 (.tmp 12) (.const (.int .i64 1)), none, []⟩, ⟨some 3, .asg 0 (.tmp 13) 2, none, []⟩] false))))) (.seq (.region 4 [⟨some 14, .mov (.tmp 3), none, []⟩, ⟨some 2, .asg 0 (.tmp 14) 2, none, []⟩] false) .ret))))
def spec_l01Deg_L : Live := [(0, [0]), (1, [1]), (2, [1, 3]), (3, [1, 3]), (4, [3]), (100011, [1, 3, 11])]
theorem spec_l01Deg_body : Try.f71.body = some (Try.f71.body.getD .skip) := by kernel_rfl
theorem spec_l01Deg_strip : strip [] (Try.f71.body.getD .skip) = spec_l01Deg_c := by kernel_rfl
noncomputable def spec_l01Deg_l1 (a0 : (Vec Int 64)) (x54 : Int) : Option (Int ⊕ Int) :=
  (Option.bind (α := Bool) ((if (decide (x54 ≥ 0)) then (ifp (0 ≤ x54 ∧ x54 < ((64 : Nat) : Int)) ((some (((rd a0.1 x54.toNat) == 0))))) else (some false))) fun x72 => (if x72 then (some (.inl (IntKind.i64.wrap (x54 - 1)))) else (some (.inr x54))))
noncomputable def spec_l01Deg (a0 : (Vec Int 64)) : Option Int :=
  (Option.bind (α := Int) ((loopM (fun s : Int => spec_l01Deg_l1 a0 s) 63)) fun x39 => (some x39))
set_option maxHeartbeats 16000000 in
theorem spec_l01Deg_ok (a0 : (Vec Int 64)) (r : Int) (h : spec_l01Deg a0 = some r) : Den Try.prog 71 [(eA64u8 a0)] { r := (.int .i64 r) } := by
  refine den_of (rs := [(.int .i64 r)]) (ac := spec_l01Deg_c) (L := spec_l01Deg_L) (n := 15) (m := []) good Try.func71 spec_l01Deg_body (by kernel_rfl) Try.ntmps71 rfl rfl spec_l01Deg_strip rfl rfl ?_
  refine a_st (σ' := ⟨[(0, (eA64u8 a0))], []⟩) rfl ?_
  unfold spec_l01Deg_c
  refine a_seq ?_
  refine a_region ?_
  refine a_val (v := (.own 1100 [] [])) (u := [(1100, some ⟨(eA64u8 a0), false⟩)]) rfl trivial rfl ?_
  refine a_val (v := (.int .i64 0)) (u := []) rfl trivial rfl ?_
  refine a_nil ?_
  refine a_next (σ' := ⟨[(1, (.own 1 [] []))], [(1, some ⟨(eA64u8 a0), false⟩)]⟩) rfl ?_
  refine a_seq ?_
  refine a_region ?_
  refine a_val (v := (.int .i64 63)) (u := []) rfl trivial rfl ?_
  refine a_nil ?_
  refine a_next (σ' := ⟨[(1, (.own 1 [] [])), (3, (.int .i64 63))], [(1, some ⟨(eA64u8 a0), false⟩)]⟩) rfl ?_
  obtain ⟨y40, hy41, hk42⟩ := bind_some h
  clear h
  refine a_join (emb := fun (s : Int) => ⟨[(3, (.int .i64 s))], []⟩) (pre := fun s => s = y40) ?_ ?_
  · rintro x39 rfl
    have h := hk42
    refine a_st (σ' := ⟨[(3, (.int .i64 x39))], []⟩) rfl ?_
    refine a_seq ?_
    refine a_region ?_
    refine a_val (v := (.int .i64 x39)) (u := []) rfl trivial rfl ?_
    refine a_val (v := (.int .i64 x39)) (u := []) rfl trivial rfl ?_
    refine a_nil ?_
    refine a_next rfl ?_
    refine a_ret ?_
    refine ⟨.inr rfl, ?_⟩
    rw [Try.results71]
    cases h
    exact ⟨_, _, _, _, _, rfl, trivial, .inl ⟨rfl, .inl rfl⟩, rfl, rfl⟩
  · have h := hy41
    refine a_block ?_
    refine a_loop (emb := fun (s : Int) => ⟨[(1, (.own 1 [] [])), (3, (.int .i64 s))], [(1, some ⟨(eA64u8 a0), false⟩)]⟩) (body := (fun s : Int => spec_l01Deg_l1 a0 s)) (G := fun q => some q = some y40) h rfl ?_ rfl
    rintro X66 x54 x67 h hX68
    have h : spec_l01Deg_l1 a0 x54 = some x67 := h
    refine a_st (σ' := ⟨[(1, (.own 1 [] [])), (3, (.int .i64 x54))], [(1, some ⟨(eA64u8 a0), false⟩)]⟩) rfl ?_
    refine a_seq ?_
    obtain ⟨y73, hy74, hk75⟩ := bind_some h
    clear h
    refine a_join (emb := fun (s : Bool) => ⟨[(1, (.own 1 [] [])), (3, (.int .i64 x54)), (11, (.bool s))], [(1, some ⟨(eA64u8 a0), false⟩)]⟩) (pre := fun s => s = y73) ?_ ?_
    · rintro x72 rfl
      have h := hk75
      refine a_st (σ' := ⟨[(1, (.own 1 [] [])), (3, (.int .i64 x54)), (11, (.bool x72))], [(1, some ⟨(eA64u8 a0), false⟩)]⟩) rfl ?_
      cases hb79 : x72
      · have h := ite_f hb79 h
        refine a_cond_f rfl ?_
        refine a_exit ?_
        refine t_exit ?_
        cases h
        have h := hX68
        refine t_exit ?_
        refine b_exit ?_
        exact j_leaf x54 (Option.some.inj h) rfl
      · have h := ite_t hb79 h
        refine a_cond_t rfl ?_
        refine a_skip ?_
        refine a_next (σ' := ⟨[(1, (.own 1 [] [])), (3, (.int .i64 x54))], [(1, some ⟨(eA64u8 a0), false⟩)]⟩) rfl ?_
        refine a_block ?_
        refine a_region ?_
        refine a_val (v := (.int .i64 x54)) (u := []) rfl trivial rfl ?_
        refine a_val (v := (.int .i64 (IntKind.i64.wrap (x54 - 1)))) (u := []) rfl trivial rfl ?_
        refine a_val (v := (.int .i64 (IntKind.i64.wrap (x54 - 1)))) (u := []) rfl trivial rfl ?_
        refine a_nil ?_
        refine b_norm ?_
        cases h
        exact a_again rfl hX68
    · have h := hy74
      refine a_region ?_
      refine a_val (v := (.int .i64 x54)) (u := []) rfl trivial rfl ?_
      refine a_val (v := (.bool ((decide (x54 ≥ 0))))) (u := []) rfl trivial rfl ?_
      refine a_val (v := (.bool ((decide (x54 ≥ 0))))) (u := []) rfl trivial rfl ?_
      cases hb76 : (decide (x54 ≥ 0))
      · have h := ite_f hb76 h
        refine a_gskip rfl ?_
        refine a_gskip rfl ?_
        refine a_gskip rfl ?_
        refine a_gskip rfl ?_
        refine a_val (v := (.bool false)) (u := []) rfl trivial rfl ?_
        refine a_nil ?_
        exact j_leaf false (Option.some.inj h) rfl
      · have h := ite_t hb76 h
        refine a_gval rfl (v := (.int .i64 x54)) (u := []) rfl trivial rfl ?_
        obtain ⟨hc77, h⟩ := ifp_some h
        refine a_gval rfl (v := (.own 1 [x54.toNat] [x54.toNat * 1])) (u := []) rfl hc77 rfl ?_
        have hl78 : LdOk [x54.toNat] (eA64u8 a0) [x54.toNat * 1] 1 false (.int .u8 (rd a0.1 x54.toNat)) := (.arr (vlt a0 hc77) rfl (.nil rfl rfl rfl))
        refine a_gval rfl (v := (.int .u8 (rd a0.1 x54.toNat))) (u := []) (ld_own (i := ⟨.int .u8, 1, 1, (.int .u8 0)⟩) rfl rfl rfl hl78) hl78.c rfl ?_
        refine a_gval rfl (v := (.bool (((rd a0.1 x54.toNat) == 0)))) (u := []) rfl trivial rfl ?_
        refine a_val (v := (.bool (((rd a0.1 x54.toNat) == 0)))) (u := []) rfl trivial rfl ?_
        refine a_nil ?_
        exact j_leaf (((rd a0.1 x54.toNat) == 0)) (Option.some.inj h) rfl
def spec_l01Monic_c : ACode := (.seq (.region 0 [⟨some 1, .box 23 (.tmp 0), none, []⟩, ⟨some 2, .asg 0 (.const (.bool false)) 4, none, []⟩] false) (.seq (.region 1 [⟨some 4, .load 23 (.tmp 1), none, []⟩, ⟨some 5, .call 0 (.func 71) [(.tmp 4)], none, []⟩, ⟨some 3, .asg 0 (.tmp 5) 2, none, []⟩] false) (.seq (.region 2 [⟨some 6, .mov (.tmp 3), none, []⟩, ⟨some 7, .bin .geq 2 (.tmp 6) (.const (.int .i64 0)), none, []⟩, ⟨some 8, .mov (.tmp 7), none, []⟩, ⟨some 9, .mov (.tmp 3), some (8, true), []⟩, ⟨some 10, .indexAddr 23 (.tmp 1) (.tmp 9), some (8, true), []⟩, ⟨some 11, .load 5 (.tmp 10), some (8, true), []⟩, ⟨some 12, .bin .eql 5 (.tmp 11) (.const (.int .u8 1)), some (8, true), []⟩, ⟨some 13, .pick (.tmp 8) (.tmp 12) (.const (.bool false)), none, []⟩, ⟨some 2, .asg 0 (.tmp 13) 4, none, []⟩] false) .ret)))
def spec_l01Monic_L : Live := [(0, [0]), (1, [1]), (2, [1, 3])]
theorem spec_l01Monic_body : Try.f105.body = some (Try.f105.body.getD .skip) := by kernel_rfl
theorem spec_l01Monic_strip : strip [] (Try.f105.body.getD .skip) = spec_l01Monic_c := by kernel_rfl
noncomputable def spec_l01Monic (a0 : (Vec Int 64)) : Option Bool :=
  (Option.bind (spec_l01Deg a0) fun r2 => (if (decide (r2 ≥ 0)) then (ifp (0 ≤ r2 ∧ r2 < ((64 : Nat) : Int)) ((some (((rd a0.1 r2.toNat) == 1))))) else (some false)))
set_option maxHeartbeats 16000000 in
theorem spec_l01Monic_ok (a0 : (Vec Int 64)) (r : Bool) (h : spec_l01Monic a0 = some r) : Den Try.prog 105 [(eA64u8 a0)] { r := (.bool r) } := by
  refine den_of (rs := [(.bool r)]) (ac := spec_l01Monic_c) (L := spec_l01Monic_L) (n := 14) (m := []) good Try.func105 spec_l01Monic_body (by kernel_rfl) Try.ntmps105 rfl rfl spec_l01Monic_strip rfl rfl ?_
  refine a_st (σ' := ⟨[(0, (eA64u8 a0))], []⟩) rfl ?_
  unfold spec_l01Monic_c
  refine a_seq ?_
  refine a_region ?_
  refine a_val (v := (.own 1100 [] [])) (u := [(1100, some ⟨(eA64u8 a0), false⟩)]) rfl trivial rfl ?_
  refine a_val (v := (.bool false)) (u := []) rfl trivial rfl ?_
  refine a_nil ?_
  refine a_next (σ' := ⟨[(1, (.own 1 [] []))], [(1, some ⟨(eA64u8 a0), false⟩)]⟩) rfl ?_
  refine a_seq ?_
  refine a_region ?_
  have hl1 : LdOk [] (eA64u8 a0) [] 64 true (eA64u8 a0) := (.nil rfl rfl rfl)
  refine a_val (v := (eA64u8 a0)) (u := []) (ld_own (i := ⟨.arr 64 5, 64, 64, (eA64u8 (vrep 64 (0 : Int)))⟩) rfl rfl rfl hl1) hl1.c rfl ?_
  obtain ⟨r2, hr3, h⟩ := bind_some h
  refine a_call (args := [(eA64u8 a0)]) (u := []) (r := (.int .i64 r2)) rfl rfl (spec_l01Deg_ok a0 r2 hr3) rfl ?_
  refine a_val (v := (.int .i64 r2)) (u := []) rfl trivial rfl ?_
  refine a_nil ?_
  refine a_next (σ' := ⟨[(1, (.own 1 [] [])), (3, (.int .i64 r2))], [(1, some ⟨(eA64u8 a0), false⟩)]⟩) rfl ?_
  refine a_seq ?_
  refine a_region ?_
  refine a_val (v := (.int .i64 r2)) (u := []) rfl trivial rfl ?_
  refine a_val (v := (.bool ((decide (r2 ≥ 0))))) (u := []) rfl trivial rfl ?_
  refine a_val (v := (.bool ((decide (r2 ≥ 0))))) (u := []) rfl trivial rfl ?_
  cases hb4 : (decide (r2 ≥ 0))
  · have h := ite_f hb4 h
    refine a_gskip rfl ?_
    refine a_gskip rfl ?_
    refine a_gskip rfl ?_
    refine a_gskip rfl ?_
    refine a_val (v := (.bool false)) (u := []) rfl trivial rfl ?_
    refine a_val (v := (.bool false)) (u := []) rfl trivial rfl ?_
    refine a_nil ?_
    refine a_next rfl ?_
    refine a_ret ?_
    refine ⟨.inr rfl, ?_⟩
    rw [Try.results105]
    cases h
    exact ⟨_, _, _, _, _, rfl, trivial, .inl ⟨rfl, .inl rfl⟩, rfl, rfl⟩
  · have h := ite_t hb4 h
    refine a_gval rfl (v := (.int .i64 r2)) (u := []) rfl trivial rfl ?_
    obtain ⟨hc5, h⟩ := ifp_some h
    refine a_gval rfl (v := (.own 1 [r2.toNat] [r2.toNat * 1])) (u := []) rfl hc5 rfl ?_
    have hl6 : LdOk [r2.toNat] (eA64u8 a0) [r2.toNat * 1] 1 false (.int .u8 (rd a0.1 r2.toNat)) := (.arr (vlt a0 hc5) rfl (.nil rfl rfl rfl))
    refine a_gval rfl (v := (.int .u8 (rd a0.1 r2.toNat))) (u := []) (ld_own (i := ⟨.int .u8, 1, 1, (.int .u8 0)⟩) rfl rfl rfl hl6) hl6.c rfl ?_
    refine a_gval rfl (v := (.bool (((rd a0.1 r2.toNat) == 1)))) (u := []) rfl trivial rfl ?_
    refine a_val (v := (.bool (((rd a0.1 r2.toNat) == 1)))) (u := []) rfl trivial rfl ?_
    refine a_val (v := (.bool (((rd a0.1 r2.toNat) == 1)))) (u := []) rfl trivial rfl ?_
    refine a_nil ?_
    refine a_next rfl ?_
    refine a_ret ?_
    refine ⟨.inr rfl, ?_⟩
    rw [Try.results105]
    cases h
    exact ⟨_, _, _, _, _, rfl, trivial, .inl ⟨rfl, .inl rfl⟩, rfl, rfl⟩
def spec_l10Case_c : ACode := (.seq (.region 0 [⟨some 3, .box 23 (.tmp 1), none, []⟩, ⟨some 4, .asg 0 (.const (.int .i64 0)) 2, none, []⟩] false) (.seq (.block 0 (.seq (.region 1 [⟨some 6, .mov (.tmp 0), none, []⟩, ⟨some 7, .load 23 (.tmp 3), none, []⟩, ⟨some 8, .bslice 0 40 1 [(0, (.tmp 7))], none, []⟩, ⟨some 9, .call 0 (.func 104) [(.tmp 6), (.tmp 8)], none, []⟩, ⟨some 10, .bin .neq 2 (.tmp 9) (.const (.int .i64 0)), none, []⟩, ⟨some 5, .asg 0 (.tmp 10) 4, none, []⟩] false) (.cond (.tmp 5) (.seq (.region 2 [⟨some 4, .asg 0 (.const (.int .i64 1)) 2, none, []⟩] false) .ret) (.seq (.region 3 [⟨some 12, .mov (.tmp 0), none, []⟩, ⟨some 13, .bin .eql 2 (.tmp 12) (.const (.int .i64 2)), none, []⟩, ⟨some 14, .mov (.tmp 13), none, []⟩, ⟨some 15, .load 23 (.tmp 3), some (14, false), []⟩, ⟨some 16, .call 0 (.func 105) [(.tmp 15)], some (14, false), []⟩, ⟨some 17, .un .not (.tmp 16), some (14, false), []⟩, ⟨some 18, .pick (.tmp 14) (.const (.bool true)) (.tmp 17), none, []⟩, ⟨some 19, .mov (.tmp 18), none, []⟩, ⟨some 20, .load 23 (.tmp 3), some (19, false), []⟩, ⟨some 21, .call 0 (.func 71) [(.tmp 20)], some (19, false), []⟩, ⟨some 22, .bin .rem 2 (.tmp 21) (.const (.int .i64 2)), some (19, false), []⟩, ⟨some 23, .bin .neq 2 (.tmp 22) (.const (.int .i64 0)), some (19, false), []⟩, ⟨some 24, .pick (.tmp 19) (.const (.bool true)) (.tmp 23), none, []⟩, ⟨some 11, .asg 0 (.tmp 24) 4, none, []⟩] false) (.cond (.tmp 11) (.seq (.region 4 [⟨some 4, .asg 0 (.const (.int .i64 2)) 2, none, []⟩] false) .ret) .skip))))) (.seq (.region 5 [⟨some 4, .asg 0 (.const (.int .i64 0)) 2, none, []⟩] false) .ret)))
def spec_l10Case_L : Live := [(0, [0, 1]), (1, [0, 3]), (2, []), (3, [0, 3]), (4, []), (5, []), (100005, [0, 3, 5]), (100011, [11])]
theorem spec_l10Case_body : Try.f70.body = some (Try.f70.body.getD .skip) := by kernel_rfl
theorem spec_l10Case_strip : strip [] (Try.f70.body.getD .skip) = spec_l10Case_c := by kernel_rfl
noncomputable def spec_l10Case (a0 : Int) (a1 : (Vec Int 64)) : Option Int :=
  (Option.bind (spec_l01Code a0 ([a1])) fun r2 => (if (r2 != 0) then (some 1) else (Option.bind (α := Bool) ((if (a0 == 2) then (some true) else (Option.bind (spec_l01Monic a1) fun r19 => (if (!r19) then (some true) else (Option.bind (spec_l01Deg a1) fun r23 => (some (((Int.tmod r23 2) != 0)))))))) fun x13 => (if x13 then (some 2) else (some 0)))))
set_option maxHeartbeats 16000000 in
theorem spec_l10Case_ok (a0 : Int) (a1 : (Vec Int 64)) (r : Int) (h : spec_l10Case a0 a1 = some r) : Den Try.prog 70 [(.int .i64 a0), (eA64u8 a1)] { r := (.int .i64 r) } := by
  refine den_of (rs := [(.int .i64 r)]) (ac := spec_l10Case_c) (L := spec_l10Case_L) (n := 25) (m := []) good Try.func70 spec_l10Case_body (by kernel_rfl) Try.ntmps70 rfl rfl spec_l10Case_strip rfl rfl ?_
  refine a_st (σ' := ⟨[(0, (.int .i64 a0)), (1, (eA64u8 a1))], []⟩) rfl ?_
  unfold spec_l10Case_c
  refine a_seq ?_
  refine a_region ?_
  refine a_val (v := (.own 1300 [] [])) (u := [(1300, some ⟨(eA64u8 a1), false⟩)]) rfl trivial rfl ?_
  refine a_val (v := (.int .i64 0)) (u := []) rfl trivial rfl ?_
  refine a_nil ?_
  refine a_next (σ' := ⟨[(0, (.int .i64 a0)), (3, (.own 3 [] []))], [(3, some ⟨(eA64u8 a1), false⟩)]⟩) rfl ?_
  refine a_seq ?_
  refine a_block ?_
  refine a_seq ?_
  refine a_region ?_
  refine a_val (v := (.int .i64 a0)) (u := []) rfl trivial rfl ?_
  have hl1 : LdOk [] (eA64u8 a1) [] 64 true (eA64u8 a1) := (.nil rfl rfl rfl)
  refine a_val (v := (eA64u8 a1)) (u := []) (ld_own (i := ⟨.arr 64 5, 64, 64, (eA64u8 (vrep 64 (0 : Int)))⟩) rfl rfl rfl hl1) hl1.c rfl ?_
  refine a_val (v := (.sl 64 true (([a1]).map eA64u8))) (u := []) rfl ⟨(Nat.le_of_ble_eq_true rfl), (Nat.le_of_ble_eq_true rfl), (all_cons ⟨(Nat.le_of_ble_eq_true rfl), rfl⟩ all_nil)⟩ rfl ?_
  obtain ⟨r2, hr3, h⟩ := bind_some h
  refine a_call (args := [(.int .i64 a0), (.sl 64 true (([a1]).map eA64u8))]) (u := []) (r := (.int .i64 r2)) rfl rfl (Den.args (spec_l01Code_ok a0 ([a1]) r2 hr3) rfl rfl (.cons (.refl _) (.cons (.loose _) .nil))) rfl ?_
  refine a_val (v := (.bool (r2 != 0))) (u := []) rfl trivial rfl ?_
  refine a_val (v := (.bool (r2 != 0))) (u := []) rfl trivial rfl ?_
  refine a_nil ?_
  refine a_next (σ' := ⟨[(0, (.int .i64 a0)), (3, (.own 3 [] [])), (5, (.bool (r2 != 0)))], [(3, some ⟨(eA64u8 a1), false⟩)]⟩) rfl ?_
  cases hb4 : (r2 != 0)
  · have h := ite_f hb4 h
    refine a_cond_f rfl ?_
    obtain ⟨y14, hy15, hk16⟩ := bind_some h
    clear h
    refine a_join (emb := fun (s : Bool) => ⟨[(11, (.bool s))], []⟩) (pre := fun s => s = y14) ?_ ?_
    · rintro x13 rfl
      have h := hk16
      refine a_st (σ' := ⟨[(11, (.bool x13))], []⟩) rfl ?_
      cases hb25 : x13
      · have h := ite_f hb25 h
        refine a_cond_f rfl ?_
        refine a_skip ?_
        refine b_norm ?_
        refine a_next (σ' := ⟨[], []⟩) rfl ?_
        refine a_seq ?_
        refine a_region ?_
        refine a_val (v := (.int .i64 0)) (u := []) rfl trivial rfl ?_
        refine a_nil ?_
        refine a_next rfl ?_
        refine a_ret ?_
        refine ⟨.inr rfl, ?_⟩
        rw [Try.results70]
        cases h
        exact ⟨_, _, _, _, _, rfl, trivial, .inl ⟨rfl, .inl rfl⟩, rfl, rfl⟩
      · have h := ite_t hb25 h
        refine a_cond_t rfl ?_
        refine a_seq ?_
        refine a_region ?_
        refine a_val (v := (.int .i64 2)) (u := []) rfl trivial rfl ?_
        refine a_nil ?_
        refine a_next rfl ?_
        refine a_ret ?_
        refine b_ret ?_
        refine t_ret ?_
        refine ⟨.inr rfl, ?_⟩
        rw [Try.results70]
        cases h
        exact ⟨_, _, _, _, _, rfl, trivial, .inl ⟨rfl, .inl rfl⟩, rfl, rfl⟩
    · have h := hy15
      refine a_region ?_
      refine a_val (v := (.int .i64 a0)) (u := []) rfl trivial rfl ?_
      refine a_val (v := (.bool (a0 == 2))) (u := []) rfl trivial rfl ?_
      refine a_val (v := (.bool (a0 == 2))) (u := []) rfl trivial rfl ?_
      cases hb17 : (a0 == 2)
      · have h := ite_f hb17 h
        have hl18 : LdOk [] (eA64u8 a1) [] 64 true (eA64u8 a1) := (.nil rfl rfl rfl)
        refine a_gval rfl (v := (eA64u8 a1)) (u := []) (ld_own (i := ⟨.arr 64 5, 64, 64, (eA64u8 (vrep 64 (0 : Int)))⟩) rfl rfl rfl hl18) hl18.c rfl ?_
        obtain ⟨r19, hr20, h⟩ := bind_some h
        refine a_gcall rfl (args := [(eA64u8 a1)]) (u := []) (r := (.bool r19)) rfl rfl (spec_l01Monic_ok a1 r19 hr20) rfl ?_
        refine a_gval rfl (v := (.bool (!r19))) (u := []) rfl trivial rfl ?_
        refine a_val (v := (.bool (!r19))) (u := []) rfl trivial rfl ?_
        refine a_val (v := (.bool (!r19))) (u := []) rfl trivial rfl ?_
        cases hb21 : (!r19)
        · have h := ite_f hb21 h
          have hl22 : LdOk [] (eA64u8 a1) [] 64 true (eA64u8 a1) := (.nil rfl rfl rfl)
          refine a_gval rfl (v := (eA64u8 a1)) (u := []) (ld_own (i := ⟨.arr 64 5, 64, 64, (eA64u8 (vrep 64 (0 : Int)))⟩) rfl rfl rfl hl22) hl22.c rfl ?_
          obtain ⟨r23, hr24, h⟩ := bind_some h
          refine a_gcall rfl (args := [(eA64u8 a1)]) (u := []) (r := (.int .i64 r23)) rfl rfl (spec_l01Deg_ok a1 r23 hr24) rfl ?_
          refine a_gval rfl (v := (.int .i64 (Int.tmod r23 2))) (u := []) rfl (by decide) rfl ?_
          refine a_gval rfl (v := (.bool (((Int.tmod r23 2) != 0)))) (u := []) rfl trivial rfl ?_
          refine a_val (v := (.bool (((Int.tmod r23 2) != 0)))) (u := []) rfl trivial rfl ?_
          refine a_val (v := (.bool (((Int.tmod r23 2) != 0)))) (u := []) rfl trivial rfl ?_
          refine a_nil ?_
          exact j_leaf (((Int.tmod r23 2) != 0)) (Option.some.inj h) rfl
        · have h := ite_t hb21 h
          refine a_gskip rfl ?_
          refine a_gskip rfl ?_
          refine a_gskip rfl ?_
          refine a_gskip rfl ?_
          refine a_val (v := (.bool true)) (u := []) rfl trivial rfl ?_
          refine a_val (v := (.bool true)) (u := []) rfl trivial rfl ?_
          refine a_nil ?_
          exact j_leaf true (Option.some.inj h) rfl
      · have h := ite_t hb17 h
        refine a_gskip rfl ?_
        refine a_gskip rfl ?_
        refine a_gskip rfl ?_
        refine a_val (v := (.bool true)) (u := []) rfl trivial rfl ?_
        refine a_val (v := (.bool true)) (u := []) rfl trivial rfl ?_
        refine a_gskip rfl ?_
        refine a_gskip rfl ?_
        refine a_gskip rfl ?_
        refine a_gskip rfl ?_
        refine a_val (v := (.bool true)) (u := []) rfl trivial rfl ?_
        refine a_val (v := (.bool true)) (u := []) rfl trivial rfl ?_
        refine a_nil ?_
        exact j_leaf true (Option.some.inj h) rfl
  · have h := ite_t hb4 h
    refine a_cond_t rfl ?_
    refine a_seq ?_
    refine a_region ?_
    refine a_val (v := (.int .i64 1)) (u := []) rfl trivial rfl ?_
    refine a_nil ?_
    refine a_next rfl ?_
    refine a_ret ?_
    refine b_ret ?_
    refine t_ret ?_
    refine ⟨.inr rfl, ?_⟩
    rw [Try.results70]
    cases h
    exact ⟨_, _, _, _, _, rfl, trivial, .inl ⟨rfl, .inl rfl⟩, rfl, rfl⟩
def spec_l10Root_c : ACode := (.seq (.region 0 [⟨some 4, .box 23 (.tmp 1), none, []⟩, ⟨some 6, .asg 1 (.const (.slice none 0 0)) 45, none, []⟩] false) (.seq (.region 1 [⟨some 13, .bslice 2 45 1 [(0, (.const (.int .i64 1)))], none, []⟩, ⟨some 14, .load 23 (.tmp 4), none, []⟩, ⟨some 15, .call 0 (.func 71) [(.tmp 14)], none, []⟩, ⟨some 7, .asg 2 (.tmp 13) 45, none, []⟩, ⟨some 8, .asg 0 (.tmp 15) 2, none, []⟩] false) (.seq (.region 2 [⟨some 16, .mov (.tmp 0), none, []⟩, ⟨some 17, .bin .add 2 (.tmp 16) (.const (.int .i64 1)), none, []⟩, ⟨some 18, .bin .quo 2 (.tmp 17) (.const (.int .i64 2)), none, []⟩, ⟨some 9, .asg 0 (.tmp 18) 2, none, []⟩] false) (.seq (.seq (.region 3 [⟨some 10, .asg 0 (.const (.int .i64 1)) 2, none, []⟩] false) (.block 0 (.loop (.seq (.seq (.region 4 [⟨some 19, .mov (.tmp 10), none, []⟩, ⟨some 20, .mov (.tmp 2), none, []⟩, ⟨some 21, .bin .lss 2 (.tmp 19) (.tmp 20), none, []⟩] false) (.cond (.tmp 21) .skip (.exit 0))) (.seq (.block 1 (.seq (.region 6 [⟨some 11, .asg 0 (.const (.int .i64 0)) 2, none, []⟩] false) (.seq (.seq (.region 7 [⟨some 24, .mov (.tmp 8), none, []⟩, ⟨some 25, .mov (.tmp 10), none, []⟩, ⟨some 26, .bin .geq 2 (.tmp 24) (.tmp 25), none, []⟩] false) (.cond (.tmp 26) (.region 8 [⟨some 27, .mov (.tmp 8), none, []⟩, ⟨some 28, .mov (.tmp 10), none, []⟩, ⟨some 29, .bin .sub 2 (.tmp 27) (.tmp 28), none, []⟩, ⟨some 30, .indexAddr 23 (.tmp 4) (.tmp 29), none, []⟩, ⟨some 31, .load 5 (.tmp 30), none, []⟩, ⟨some 32, .conv 5 2 (.tmp 31), none, []⟩, ⟨some 11, .asg 0 (.tmp 32) 2, none, []⟩] false) .skip)) (.seq (.seq (.region 9 [⟨some 12, .asg 0 (.const (.int .i64 1)) 2, none, []⟩] false) (.block 2 (.loop (.seq (.seq (.region 10 [⟨some 33, .mov (.tmp 12), none, []⟩, ⟨some 34, .mov (.tmp 10), none, []⟩, ⟨some 35, .bin .lss 2 (.tmp 33) (.tmp 34), none, []⟩] false) (.cond (.tmp 35) .skip (.exit 2))) (.seq (.block 3 (.region 12 [⟨some 38, .mov (.tmp 11), none, []⟩, ⟨some 39, .mov (.tmp 7), none, []⟩, ⟨some 40, .mov (.tmp 12), none, []⟩, ⟨some 41, .indexAddr 45 (.tmp 39) (.tmp 40), none, [1, 2]⟩, ⟨some 42, .load 2 (.tmp 41), none, [3]⟩, ⟨some 43, .mov (.tmp 7), none, []⟩, ⟨some 44, .mov (.tmp 10), none, []⟩, ⟨some 45, .mov (.tmp 12), none, []⟩, ⟨some 46, .bin .sub 2 (.tmp 44) (.tmp 45), none, [6, 7]⟩, ⟨some 47, .indexAddr 45 (.tmp 43) (.tmp 46), none, [5, 8]⟩, ⟨some 48, .load 2 (.tmp 47), none, [9]⟩, ⟨some 49, .bin .mul 2 (.tmp 42) (.tmp 48), none, [4, 10]⟩, ⟨some 50, .bin .sub 2 (.tmp 38) (.tmp 49), none, [0, 11]⟩, ⟨some 11, .asg 0 (.tmp 50) 2, none, [12, 0, 1, 2, 3, 4, 5, 6, 7, 8, 9, 10, 11, 12]⟩] true)) (.region 11 [⟨some 36, .mov (.tmp 12), none, []⟩, ⟨some 37, .bin .add 2 (.tmp 36) (.const (.int .i64 1)), none, []⟩, ⟨some 12, .asg 0 (.tmp 37) 2, none, []⟩] false)))))) (.region 13 [⟨some 51, .mov (.tmp 7), none, []⟩, ⟨some 52, .mov (.tmp 11), none, []⟩, ⟨some 53, .mov (.tmp 0), none, []⟩, ⟨some 54, .bin .rem 2 (.tmp 52) (.tmp 53), none, []⟩, ⟨some 55, .mov (.tmp 0), none, []⟩, ⟨some 56, .bin .add 2 (.tmp 54) (.tmp 55), none, []⟩, ⟨some 57, .mov (.tmp 0), none, []⟩, ⟨some 58, .bin .rem 2 (.tmp 56) (.tmp 57), none, []⟩, ⟨some 59, .mov (.tmp 9), none, []⟩, ⟨some 60, .bin .mul 2 (.tmp 58) (.tmp 59), none, []⟩, ⟨some 61, .mov (.tmp 0), none, []⟩, ⟨some 62, .bin .rem 2 (.tmp 60) (.tmp 61), none, []⟩, ⟨some 63, .bslice 0 45 1 [(0, (.tmp 62))], none, []⟩, ⟨some 64, .blt 0 .append [(.tmp 51), (.tmp 63)] [45, 45], none, []⟩, ⟨some 7, .asg 2 (.tmp 64) 45, none, []⟩] false))))) (.region 5 [⟨some 22, .mov (.tmp 10), none, []⟩, ⟨some 23, .bin .add 2 (.tmp 22) (.const (.int .i64 1)), none, []⟩, ⟨some 10, .asg 0 (.tmp 23) 2, none, []⟩] false)))))) (.seq (.region 14 [⟨some 65, .mov (.tmp 7), none, []⟩, ⟨some 6, .asg 1 (.tmp 65) 45, none, []⟩] false) .ret)))))
def spec_l10Root_L : Live := [(0, [0, 1, 2]), (1, [0, 2, 4]), (2, [0, 2, 4, 7, 8]), (3, [0, 2, 4, 7, 8, 9]), (4, [0, 2, 4, 7, 8, 9, 10]), (5, [0, 2, 4, 7, 8, 9, 10]), (6, [0, 2, 4, 7, 8, 9, 10]), (7, [0, 2, 4, 7, 8, 9, 10, 11]), (8, [0, 2, 4, 7, 8, 9, 10]), (9, [0, 2, 4, 7, 8, 9, 10, 11]), (10, [0, 2, 4, 7, 8, 9, 10, 11, 12]), (11, [0, 2, 4, 7, 8, 9, 10, 11, 12]), (12, [0, 2, 4, 7, 8, 9, 10, 11, 12]), (13, [0, 2, 4, 7, 8, 9, 10, 11]), (14, [7]), (100021, [0, 2, 4, 7, 8, 9, 10, 21]), (100026, [0, 2, 4, 7, 8, 9, 10, 11, 26]), (100035, [0, 2, 4, 7, 8, 9, 10, 11, 12, 35])]
theorem spec_l10Root_body : Try.f72.body = some (Try.f72.body.getD .skip) := by kernel_rfl
theorem spec_l10Root_strip : strip [(6, 1), (7, 2), (13, 2)] (Try.f72.body.getD .skip) = spec_l10Root_c := by kernel_rfl
noncomputable def spec_l10Root_l2 (x474 : Int) (x475 : (List Int)) (x671 : Int) (x672 : Int) : Option ((Int × Int) ⊕ Int) :=
  (if (decide (x672 < x474)) then (ifp (0 ≤ x672 ∧ x672 < ((x475.length : Nat) : Int)) ((ifp (0 ≤ IntKind.i64.wrap (x474 - x672) ∧ IntKind.i64.wrap (x474 - x672) < ((x475.length : Nat) : Int)) ((letp (IntKind.i64.wrap ((rd x475 x672.toNat) * ((rd x475 (IntKind.i64.wrap (x474 - x672)).toNat)))) fun x700 => (some (.inl ((IntKind.i64.wrap (x671 - x700), IntKind.i64.wrap (x672 + 1)))))))))) else (some (.inr x671)))
noncomputable def spec_l10Root_l1 (a2 : Int) (r2 : Int) (a1 : (Vec Int 64)) (a0 : Int) (x474 : Int) (x475 : (List Int)) : Option ((Int × (List Int)) ⊕ (List Int)) :=
  (if (decide (x474 < a2)) then (Option.bind (α := Int) ((if (decide (r2 ≥ x474)) then (ifp (0 ≤ IntKind.i64.wrap (r2 - x474) ∧ IntKind.i64.wrap (r2 - x474) < ((64 : Nat) : Int)) ((letp (IntKind.i64.wrap ((rd a1.1 (IntKind.i64.wrap (r2 - x474)).toNat))) fun x607 => (some x607)))) else (some 0))) fun x600 => (Option.bind (α := Int) ((loopM (fun s : (Int × Int) => spec_l10Root_l2 x474 x475 s.1 s.2) (x600, 1))) fun x654 => (ifp (a0 ≠ 0) ((ifp (a0 ≠ 0) ((letp (IntKind.i64.wrap ((Int.tmod (IntKind.i64.wrap ((Int.tmod x654 a0) + a0)) a0) * (IntKind.i64.wrap (Int.tdiv (IntKind.i64.wrap (a0 + 1)) 2)))) fun x705 => (ifp (a0 ≠ 0) ((ifp ((x475.length + ([Int.tmod x705 a0] : List Int).length) * 8 ≤ 140737488355328) ((some (.inl ((IntKind.i64.wrap (x474 + 1), (x475 ++ ([Int.tmod x705 a0]))))))))))))))))) else (some (.inr x475)))
noncomputable def spec_l10Root (a0 : Int) (a1 : (Vec Int 64)) (a2 : Int) : Option (List Int) :=
  (Option.bind (spec_l01Deg a1) fun r2 => (Option.bind (α := (List Int)) ((loopM (fun s : (Int × (List Int)) => spec_l10Root_l1 a2 r2 a1 a0 s.1 s.2) (1, [1]))) fun x355 => (some x355)))
set_option maxHeartbeats 16000000 in
theorem spec_l10Root_ok (a0 : Int) (a1 : (Vec Int 64)) (a2 : Int) (r : (List Int)) (h : spec_l10Root a0 a1 a2 = some r) : Den Try.prog 72 [(.int .i64 a0), (eA64u8 a1), (.int .i64 a2)] { r := (eSi64 r) } := by
  refine den_of (rs := [(eSi64 r)]) (ac := spec_l10Root_c) (L := spec_l10Root_L) (n := 66) (m := [(6, 1), (7, 2), (13, 2)]) good Try.func72 spec_l10Root_body (by kernel_rfl) Try.ntmps72 rfl rfl spec_l10Root_strip rfl rfl ?_
  refine a_st (σ' := ⟨[(0, (.int .i64 a0)), (1, (eA64u8 a1)), (2, (.int .i64 a2))], []⟩) rfl ?_
  unfold spec_l10Root_c
  refine a_seq ?_
  refine a_region ?_
  refine a_val (v := (.own 1400 [] [])) (u := [(1400, some ⟨(eA64u8 a1), false⟩)]) rfl trivial rfl ?_
  refine a_val (v := (eSi64 ([]))) (u := []) rfl trivial rfl ?_
  refine a_nil ?_
  refine a_next (σ' := ⟨[(0, (.int .i64 a0)), (2, (.int .i64 a2)), (4, (.own 4 [] []))], [(4, some ⟨(eA64u8 a1), false⟩)]⟩) rfl ?_
  refine a_seq ?_
  refine a_region ?_
  refine a_val (v := (.osl 2300)) (u := [(2300, some ⟨(.row 1 (([1]).map (AV.int .i64))), false⟩)]) rfl ⟨(Nat.le_of_ble_eq_true rfl), (Nat.le_of_ble_eq_true rfl), (all_cons ⟨(Nat.le_of_ble_eq_true rfl), rfl⟩ all_nil)⟩ rfl ?_
  have hl1 : LdOk [] (eA64u8 a1) [] 64 true (eA64u8 a1) := (.nil rfl rfl rfl)
  refine a_val (v := (eA64u8 a1)) (u := []) (ld_own (i := ⟨.arr 64 5, 64, 64, (eA64u8 (vrep 64 (0 : Int)))⟩) rfl rfl rfl hl1) hl1.c rfl ?_
  obtain ⟨r2, hr3, h⟩ := bind_some h
  refine a_call (args := [(eA64u8 a1)]) (u := []) (r := (.int .i64 r2)) rfl rfl (spec_l01Deg_ok a1 r2 hr3) rfl ?_
  refine a_val (v := (.osl 2300)) (u := []) rfl trivial rfl ?_
  refine a_val (v := (.int .i64 r2)) (u := []) rfl trivial rfl ?_
  refine a_nil ?_
  refine a_next (σ' := ⟨[(0, (.int .i64 a0)), (2, (.int .i64 a2)), (4, (.own 4 [] [])), (7, (.osl 7)), (8, (.int .i64 r2))], [(4, some ⟨(eA64u8 a1), false⟩), (7, some ⟨(.row 1 (([1]).map (AV.int .i64))), false⟩)]⟩) rfl ?_
  refine a_seq ?_
  refine a_region ?_
  refine a_val (v := (.int .i64 a0)) (u := []) rfl trivial rfl ?_
  refine a_val (v := (.int .i64 (IntKind.i64.wrap (a0 + 1)))) (u := []) rfl trivial rfl ?_
  refine a_val (v := (.int .i64 (IntKind.i64.wrap (Int.tdiv (IntKind.i64.wrap (a0 + 1)) 2)))) (u := []) rfl (by decide) rfl ?_
  refine a_val (v := (.int .i64 (IntKind.i64.wrap (Int.tdiv (IntKind.i64.wrap (a0 + 1)) 2)))) (u := []) rfl trivial rfl ?_
  refine a_nil ?_
  refine a_next (σ' := ⟨[(0, (.int .i64 a0)), (2, (.int .i64 a2)), (4, (.own 4 [] [])), (7, (.osl 7)), (8, (.int .i64 r2)), (9, (.int .i64 (IntKind.i64.wrap (Int.tdiv (IntKind.i64.wrap (a0 + 1)) 2))))], [(4, some ⟨(eA64u8 a1), false⟩), (7, some ⟨(.row 1 (([1]).map (AV.int .i64))), false⟩)]⟩) rfl ?_
  obtain ⟨y356, hy357, hk358⟩ := bind_some h
  clear h
  refine a_join (emb := fun (s : (List Int)) => ⟨[(7, (.osl 7))], [(7, some ⟨(.row 1 (s.map (AV.int .i64))), false⟩)]⟩) (pre := fun s => s = y356) ?_ ?_
  · rintro x355 rfl
    have h := hk358
    refine a_st (σ' := ⟨[(7, (.osl 7))], [(7, some ⟨(.row 1 (x355.map (AV.int .i64))), false⟩)]⟩) rfl ?_
    refine a_seq ?_
    refine a_region ?_
    refine a_val (v := (.osl 7)) (u := []) rfl trivial rfl ?_
    refine a_val (v := (eSi64 x355)) (u := [(7, some ⟨(.row 1 (x355.map (AV.int .i64))), true⟩)]) rfl trivial rfl ?_
    refine a_nil ?_
    refine a_next rfl ?_
    refine a_ret ?_
    refine ⟨.inr rfl, ?_⟩
    rw [Try.results72]
    cases h
    exact ⟨_, _, _, _, _, rfl, trivial, .inl ⟨rfl, .inl rfl⟩, rfl, rfl⟩
  · have h := hy357
    refine a_seq ?_
    refine a_region ?_
    refine a_val (v := (.int .i64 1)) (u := []) rfl trivial rfl ?_
    refine a_nil ?_
    refine a_next (σ' := ⟨[(0, (.int .i64 a0)), (2, (.int .i64 a2)), (4, (.own 4 [] [])), (7, (.osl 7)), (8, (.int .i64 r2)), (9, (.int .i64 (IntKind.i64.wrap (Int.tdiv (IntKind.i64.wrap (a0 + 1)) 2)))), (10, (.int .i64 1))], [(4, some ⟨(eA64u8 a1), false⟩), (7, some ⟨(.row 1 (([1]).map (AV.int .i64))), false⟩)]⟩) rfl ?_
    refine a_block ?_
    refine a_loop (emb := fun (s : (Int × (List Int))) => ⟨[(0, (.int .i64 a0)), (2, (.int .i64 a2)), (4, (.own 4 [] [])), (7, (.osl 7)), (8, (.int .i64 r2)), (9, (.int .i64 (IntKind.i64.wrap (Int.tdiv (IntKind.i64.wrap (a0 + 1)) 2)))), (10, (.int .i64 s.1))], [(4, some ⟨(eA64u8 a1), false⟩), (7, some ⟨(.row 1 (s.2.map (AV.int .i64))), false⟩)]⟩) (body := (fun s : (Int × (List Int)) => spec_l10Root_l1 a2 r2 a1 a0 s.1 s.2)) (G := fun q => some q = some y356) h rfl ?_ rfl
    rintro X591 ⟨x474, x475⟩ x592 h hX593
    have h : spec_l10Root_l1 a2 r2 a1 a0 x474 x475 = some x592 := h
    refine a_st (σ' := ⟨[(0, (.int .i64 a0)), (2, (.int .i64 a2)), (4, (.own 4 [] [])), (7, (.osl 7)), (8, (.int .i64 r2)), (9, (.int .i64 (IntKind.i64.wrap (Int.tdiv (IntKind.i64.wrap (a0 + 1)) 2)))), (10, (.int .i64 x474))], [(4, some ⟨(eA64u8 a1), false⟩), (7, some ⟨(.row 1 (x475.map (AV.int .i64))), false⟩)]⟩) rfl ?_
    refine a_seq ?_
    refine a_seq ?_
    refine a_region ?_
    refine a_val (v := (.int .i64 x474)) (u := []) rfl trivial rfl ?_
    refine a_val (v := (.int .i64 a2)) (u := []) rfl trivial rfl ?_
    refine a_val (v := (.bool ((decide (x474 < a2))))) (u := []) rfl trivial rfl ?_
    refine a_nil ?_
    refine a_next (σ' := ⟨[(0, (.int .i64 a0)), (2, (.int .i64 a2)), (4, (.own 4 [] [])), (7, (.osl 7)), (8, (.int .i64 r2)), (9, (.int .i64 (IntKind.i64.wrap (Int.tdiv (IntKind.i64.wrap (a0 + 1)) 2)))), (10, (.int .i64 x474)), (21, (.bool ((decide (x474 < a2)))))], [(4, some ⟨(eA64u8 a1), false⟩), (7, some ⟨(.row 1 (x475.map (AV.int .i64))), false⟩)]⟩) rfl ?_
    cases hb594 : (decide (x474 < a2))
    · have h := ite_f hb594 h
      refine a_cond_f rfl ?_
      refine a_exit ?_
      refine t_exit ?_
      cases h
      have h := hX593
      refine t_exit ?_
      refine b_exit ?_
      exact j_leaf x475 (Option.some.inj h) rfl
    · have h := ite_t hb594 h
      refine a_cond_t rfl ?_
      refine a_skip ?_
      refine a_next (σ' := ⟨[(0, (.int .i64 a0)), (2, (.int .i64 a2)), (4, (.own 4 [] [])), (7, (.osl 7)), (8, (.int .i64 r2)), (9, (.int .i64 (IntKind.i64.wrap (Int.tdiv (IntKind.i64.wrap (a0 + 1)) 2)))), (10, (.int .i64 x474))], [(4, some ⟨(eA64u8 a1), false⟩), (7, some ⟨(.row 1 (x475.map (AV.int .i64))), false⟩)]⟩) rfl ?_
      refine a_seq ?_
      refine a_block ?_
      refine a_seq ?_
      refine a_region ?_
      refine a_val (v := (.int .i64 0)) (u := []) rfl trivial rfl ?_
      refine a_nil ?_
      refine a_next (σ' := ⟨[(0, (.int .i64 a0)), (2, (.int .i64 a2)), (4, (.own 4 [] [])), (7, (.osl 7)), (8, (.int .i64 r2)), (9, (.int .i64 (IntKind.i64.wrap (Int.tdiv (IntKind.i64.wrap (a0 + 1)) 2)))), (10, (.int .i64 x474)), (11, (.int .i64 0))], [(4, some ⟨(eA64u8 a1), false⟩), (7, some ⟨(.row 1 (x475.map (AV.int .i64))), false⟩)]⟩) rfl ?_
      obtain ⟨y601, hy602, hk603⟩ := bind_some h
      clear h
      refine a_join (emb := fun (s : Int) => ⟨[(0, (.int .i64 a0)), (2, (.int .i64 a2)), (4, (.own 4 [] [])), (7, (.osl 7)), (8, (.int .i64 r2)), (9, (.int .i64 (IntKind.i64.wrap (Int.tdiv (IntKind.i64.wrap (a0 + 1)) 2)))), (10, (.int .i64 x474)), (11, (.int .i64 s))], [(4, some ⟨(eA64u8 a1), false⟩), (7, some ⟨(.row 1 (x475.map (AV.int .i64))), false⟩)]⟩) (pre := fun s => s = y601) ?_ ?_
      · rintro x600 rfl
        have h := hk603
        refine a_st (σ' := ⟨[(0, (.int .i64 a0)), (2, (.int .i64 a2)), (4, (.own 4 [] [])), (7, (.osl 7)), (8, (.int .i64 r2)), (9, (.int .i64 (IntKind.i64.wrap (Int.tdiv (IntKind.i64.wrap (a0 + 1)) 2)))), (10, (.int .i64 x474)), (11, (.int .i64 x600))], [(4, some ⟨(eA64u8 a1), false⟩), (7, some ⟨(.row 1 (x475.map (AV.int .i64))), false⟩)]⟩) rfl ?_
        obtain ⟨y655, hy656, hk657⟩ := bind_some h
        clear h
        refine a_join (emb := fun (s : Int) => ⟨[(0, (.int .i64 a0)), (2, (.int .i64 a2)), (4, (.own 4 [] [])), (7, (.osl 7)), (8, (.int .i64 r2)), (9, (.int .i64 (IntKind.i64.wrap (Int.tdiv (IntKind.i64.wrap (a0 + 1)) 2)))), (10, (.int .i64 x474)), (11, (.int .i64 s))], [(4, some ⟨(eA64u8 a1), false⟩), (7, some ⟨(.row 1 (x475.map (AV.int .i64))), false⟩)]⟩) (pre := fun s => s = y655) ?_ ?_
        · rintro x654 rfl
          have h := hk657
          refine a_st (σ' := ⟨[(0, (.int .i64 a0)), (2, (.int .i64 a2)), (4, (.own 4 [] [])), (7, (.osl 7)), (8, (.int .i64 r2)), (9, (.int .i64 (IntKind.i64.wrap (Int.tdiv (IntKind.i64.wrap (a0 + 1)) 2)))), (10, (.int .i64 x474)), (11, (.int .i64 x654))], [(4, some ⟨(eA64u8 a1), false⟩), (7, some ⟨(.row 1 (x475.map (AV.int .i64))), false⟩)]⟩) rfl ?_
          refine a_region ?_
          refine a_val (v := (.osl 7)) (u := []) rfl trivial rfl ?_
          refine a_val (v := (.int .i64 x654)) (u := []) rfl trivial rfl ?_
          refine a_val (v := (.int .i64 a0)) (u := []) rfl trivial rfl ?_
          obtain ⟨hc703, h⟩ := ifp_some h
          refine a_val (v := (.int .i64 (Int.tmod x654 a0))) (u := []) rfl hc703 rfl ?_
          refine a_val (v := (.int .i64 a0)) (u := []) rfl trivial rfl ?_
          refine a_val (v := (.int .i64 (IntKind.i64.wrap ((Int.tmod x654 a0) + a0)))) (u := []) rfl trivial rfl ?_
          refine a_val (v := (.int .i64 a0)) (u := []) rfl trivial rfl ?_
          obtain ⟨hc704, h⟩ := ifp_some h
          refine a_val (v := (.int .i64 (Int.tmod (IntKind.i64.wrap ((Int.tmod x654 a0) + a0)) a0))) (u := []) rfl hc704 rfl ?_
          refine a_val (v := (.int .i64 (IntKind.i64.wrap (Int.tdiv (IntKind.i64.wrap (a0 + 1)) 2)))) (u := []) rfl trivial rfl ?_
          obtain ⟨x705, hx706, h⟩ := letp_some h
          refine a_val' (v := (.int .i64 (IntKind.i64.wrap ((Int.tmod (IntKind.i64.wrap ((Int.tmod x654 a0) + a0)) a0) * (IntKind.i64.wrap (Int.tdiv (IntKind.i64.wrap (a0 + 1)) 2)))))) (v' := (.int .i64 x705)) (u := []) (u' := []) rfl (congrArg (fun z => ((.int .i64 z) : AV)) hx706) rfl trivial rfl ?_
          refine a_val (v := (.int .i64 a0)) (u := []) rfl trivial rfl ?_
          obtain ⟨hc707, h⟩ := ifp_some h
          refine a_val (v := (.int .i64 (Int.tmod x705 a0))) (u := []) rfl hc707 rfl ?_
          refine a_val (v := (.sl 1 true (([Int.tmod x705 a0]).map (AV.int .i64)))) (u := []) rfl ⟨(Nat.le_of_ble_eq_true rfl), (Nat.le_of_ble_eq_true rfl), (all_cons ⟨(Nat.le_of_ble_eq_true rfl), rfl⟩ all_nil)⟩ rfl ?_
          obtain ⟨hc708, h⟩ := ifp_some h
          refine a_val (v := (.osl 7400)) (u := [(7400, some ⟨(.row 1 (((x475 ++ ([Int.tmod x705 a0]))).map (AV.int .i64))), false⟩), (7, none)]) (app_run (i := ⟨.int .i64, 1, 8, (.int .i64 0)⟩) (f := (AV.int .i64)) (l := x475) (l2 := [Int.tmod x705 a0]) rfl rfl rfl rfl (fun _ => rfl) rfl rfl) (app_c (f := (AV.int .i64)) (s := 1) (sz := 1) (by' := 8) (u := []) (id := 7) hc708 (.inr rfl) rfl rfl rfl) rfl ?_
          refine a_val (v := (.osl 7400)) (u := []) rfl trivial rfl ?_
          refine a_nil ?_
          refine b_norm ?_
          refine a_next (σ' := ⟨[(0, (.int .i64 a0)), (2, (.int .i64 a2)), (4, (.own 4 [] [])), (7, (.osl 7)), (8, (.int .i64 r2)), (9, (.int .i64 (IntKind.i64.wrap (Int.tdiv (IntKind.i64.wrap (a0 + 1)) 2)))), (10, (.int .i64 x474))], [(4, some ⟨(eA64u8 a1), false⟩), (7, some ⟨(.row 1 (((x475 ++ ([Int.tmod x705 a0]))).map (AV.int .i64))), false⟩)]⟩) rfl ?_
          refine a_region ?_
          refine a_val (v := (.int .i64 x474)) (u := []) rfl trivial rfl ?_
          refine a_val (v := (.int .i64 (IntKind.i64.wrap (x474 + 1)))) (u := []) rfl trivial rfl ?_
          refine a_val (v := (.int .i64 (IntKind.i64.wrap (x474 + 1)))) (u := []) rfl trivial rfl ?_
          refine a_nil ?_
          cases h
          exact a_again rfl hX593
        · have h := hy656
          refine a_seq ?_
          refine a_region ?_
          refine a_val (v := (.int .i64 1)) (u := []) rfl trivial rfl ?_
          refine a_nil ?_
          refine a_next (σ' := ⟨[(0, (.int .i64 a0)), (2, (.int .i64 a2)), (4, (.own 4 [] [])), (7, (.osl 7)), (8, (.int .i64 r2)), (9, (.int .i64 (IntKind.i64.wrap (Int.tdiv (IntKind.i64.wrap (a0 + 1)) 2)))), (10, (.int .i64 x474)), (11, (.int .i64 x600)), (12, (.int .i64 1))], [(4, some ⟨(eA64u8 a1), false⟩), (7, some ⟨(.row 1 (x475.map (AV.int .i64))), false⟩)]⟩) rfl ?_
          refine a_block ?_
          refine a_loop (emb := fun (s : (Int × Int)) => ⟨[(0, (.int .i64 a0)), (2, (.int .i64 a2)), (4, (.own 4 [] [])), (7, (.osl 7)), (8, (.int .i64 r2)), (9, (.int .i64 (IntKind.i64.wrap (Int.tdiv (IntKind.i64.wrap (a0 + 1)) 2)))), (10, (.int .i64 x474)), (11, (.int .i64 s.1)), (12, (.int .i64 s.2))], [(4, some ⟨(eA64u8 a1), false⟩), (7, some ⟨(.row 1 (x475.map (AV.int .i64))), false⟩)]⟩) (body := (fun s : (Int × Int) => spec_l10Root_l2 x474 x475 s.1 s.2)) (G := fun q => some q = some y655) h rfl ?_ rfl
          rintro X686 ⟨x671, x672⟩ x687 h hX688
          have h : spec_l10Root_l2 x474 x475 x671 x672 = some x687 := h
          refine a_st (σ' := ⟨[(0, (.int .i64 a0)), (2, (.int .i64 a2)), (4, (.own 4 [] [])), (7, (.osl 7)), (8, (.int .i64 r2)), (9, (.int .i64 (IntKind.i64.wrap (Int.tdiv (IntKind.i64.wrap (a0 + 1)) 2)))), (10, (.int .i64 x474)), (11, (.int .i64 x671)), (12, (.int .i64 x672))], [(4, some ⟨(eA64u8 a1), false⟩), (7, some ⟨(.row 1 (x475.map (AV.int .i64))), false⟩)]⟩) rfl ?_
          refine a_seq ?_
          refine a_seq ?_
          refine a_region ?_
          refine a_val (v := (.int .i64 x672)) (u := []) rfl trivial rfl ?_
          refine a_val (v := (.int .i64 x474)) (u := []) rfl trivial rfl ?_
          refine a_val (v := (.bool ((decide (x672 < x474))))) (u := []) rfl trivial rfl ?_
          refine a_nil ?_
          refine a_next (σ' := ⟨[(0, (.int .i64 a0)), (2, (.int .i64 a2)), (4, (.own 4 [] [])), (7, (.osl 7)), (8, (.int .i64 r2)), (9, (.int .i64 (IntKind.i64.wrap (Int.tdiv (IntKind.i64.wrap (a0 + 1)) 2)))), (10, (.int .i64 x474)), (11, (.int .i64 x671)), (12, (.int .i64 x672)), (35, (.bool ((decide (x672 < x474)))))], [(4, some ⟨(eA64u8 a1), false⟩), (7, some ⟨(.row 1 (x475.map (AV.int .i64))), false⟩)]⟩) rfl ?_
          cases hb689 : (decide (x672 < x474))
          · have h := ite_f hb689 h
            refine a_cond_f rfl ?_
            refine a_exit ?_
            refine t_exit ?_
            cases h
            have h := hX688
            refine t_exit ?_
            refine b_exit ?_
            exact j_leaf x671 (Option.some.inj h) rfl
          · have h := ite_t hb689 h
            refine a_cond_t rfl ?_
            refine a_skip ?_
            refine a_next (σ' := ⟨[(0, (.int .i64 a0)), (2, (.int .i64 a2)), (4, (.own 4 [] [])), (7, (.osl 7)), (8, (.int .i64 r2)), (9, (.int .i64 (IntKind.i64.wrap (Int.tdiv (IntKind.i64.wrap (a0 + 1)) 2)))), (10, (.int .i64 x474)), (11, (.int .i64 x671)), (12, (.int .i64 x672))], [(4, some ⟨(eA64u8 a1), false⟩), (7, some ⟨(.row 1 (x475.map (AV.int .i64))), false⟩)]⟩) rfl ?_
            refine a_seq ?_
            refine a_block ?_
            refine a_draw [⟨[], [], [], []⟩, ⟨[7], [], [7], []⟩, ⟨[], [], [], []⟩, ⟨[7], [], [7], [1, 2]⟩, ⟨[7], [], [], [1, 2, 3]⟩, ⟨[7], [], [7], []⟩, ⟨[], [], [], []⟩, ⟨[], [], [], []⟩, ⟨[], [], [], [6, 7]⟩, ⟨[7], [], [7], [5, 6, 7, 8]⟩, ⟨[7], [], [], [5, 6, 7, 8, 9]⟩, ⟨[], [], [], [1, 2, 3, 4, 5, 6, 7, 8, 9, 10]⟩, ⟨[], [], [], [0, 1, 2, 3, 4, 5, 6, 7, 8, 9, 10, 11]⟩, ⟨[], [], [], [0, 1, 2, 3, 4, 5, 6, 7, 8, 9, 10, 11, 12]⟩] (by kernel_rfl) ?_
            refine d_cons ?_
            refine a_val (v := (.int .i64 x671)) (u := []) rfl trivial rfl ?_
            refine d_next rfl ?_
            refine d_cons ?_
            refine a_val (v := (.osl 7)) (u := []) rfl trivial rfl ?_
            refine d_next rfl ?_
            refine d_cons ?_
            refine a_val (v := (.int .i64 x672)) (u := []) rfl trivial rfl ?_
            refine d_next rfl ?_
            refine d_cons ?_
            obtain ⟨hc696, h⟩ := ifp_some h
            refine a_val (v := (.own 7 [x672.toNat] [x672.toNat * 1])) (u := []) rfl (lmap hc696) rfl ?_
            refine d_next rfl ?_
            refine d_cons ?_
            have hl697 : LdOk [x672.toNat] (.row 1 (x475.map (AV.int .i64))) [x672.toNat * 1] 1 false (.int .i64 (rd x475 x672.toNat)) := (.row (llt hc696) rfl (.nil rfl rfl rfl))
            refine a_val (v := (.int .i64 (rd x475 x672.toNat))) (u := []) (ld_own (i := ⟨.int .i64, 1, 8, (.int .i64 0)⟩) rfl rfl rfl hl697) hl697.c rfl ?_
            refine d_next rfl ?_
            refine d_cons ?_
            refine a_val (v := (.osl 7)) (u := []) rfl trivial rfl ?_
            refine d_next rfl ?_
            refine d_cons ?_
            refine a_val (v := (.int .i64 x474)) (u := []) rfl trivial rfl ?_
            refine d_next rfl ?_
            refine d_cons ?_
            refine a_val (v := (.int .i64 x672)) (u := []) rfl trivial rfl ?_
            refine d_next rfl ?_
            refine d_cons ?_
            refine a_val (v := (.int .i64 (IntKind.i64.wrap (x474 - x672)))) (u := []) rfl trivial rfl ?_
            refine d_next rfl ?_
            refine d_cons ?_
            obtain ⟨hc698, h⟩ := ifp_some h
            refine a_val (v := (.own 7 [(IntKind.i64.wrap (x474 - x672)).toNat] [(IntKind.i64.wrap (x474 - x672)).toNat * 1])) (u := []) rfl (lmap hc698) rfl ?_
            refine d_next rfl ?_
            refine d_cons ?_
            have hl699 : LdOk [(IntKind.i64.wrap (x474 - x672)).toNat] (.row 1 (x475.map (AV.int .i64))) [(IntKind.i64.wrap (x474 - x672)).toNat * 1] 1 false (.int .i64 ((rd x475 (IntKind.i64.wrap (x474 - x672)).toNat))) := (.row (llt hc698) rfl (.nil rfl rfl rfl))
            refine a_val (v := (.int .i64 ((rd x475 (IntKind.i64.wrap (x474 - x672)).toNat)))) (u := []) (ld_own (i := ⟨.int .i64, 1, 8, (.int .i64 0)⟩) rfl rfl rfl hl699) hl699.c rfl ?_
            refine d_next rfl ?_
            refine d_cons ?_
            obtain ⟨x700, hx701, h⟩ := letp_some h
            refine a_val' (v := (.int .i64 (IntKind.i64.wrap ((rd x475 x672.toNat) * ((rd x475 (IntKind.i64.wrap (x474 - x672)).toNat)))))) (v' := (.int .i64 x700)) (u := []) (u' := []) rfl (congrArg (fun z => ((.int .i64 z) : AV)) hx701) rfl trivial rfl ?_
            refine d_next rfl ?_
            refine d_cons ?_
            refine a_val (v := (.int .i64 (IntKind.i64.wrap (x671 - x700)))) (u := []) rfl trivial rfl ?_
            refine d_next rfl ?_
            refine d_cons ?_
            refine a_val (v := (.int .i64 (IntKind.i64.wrap (x671 - x700)))) (u := []) rfl trivial rfl ?_
            refine d_next rfl ?_
            refine d_nil ?_
            refine b_norm ?_
            refine a_next (σ' := ⟨[(0, (.int .i64 a0)), (2, (.int .i64 a2)), (4, (.own 4 [] [])), (7, (.osl 7)), (8, (.int .i64 r2)), (9, (.int .i64 (IntKind.i64.wrap (Int.tdiv (IntKind.i64.wrap (a0 + 1)) 2)))), (10, (.int .i64 x474)), (11, (.int .i64 (IntKind.i64.wrap (x671 - x700)))), (12, (.int .i64 x672))], [(4, some ⟨(eA64u8 a1), false⟩), (7, some ⟨(.row 1 (x475.map (AV.int .i64))), false⟩)]⟩) rfl ?_
            refine a_region ?_
            refine a_val (v := (.int .i64 x672)) (u := []) rfl trivial rfl ?_
            refine a_val (v := (.int .i64 (IntKind.i64.wrap (x672 + 1)))) (u := []) rfl trivial rfl ?_
            refine a_val (v := (.int .i64 (IntKind.i64.wrap (x672 + 1)))) (u := []) rfl trivial rfl ?_
            refine a_nil ?_
            cases h
            exact a_again rfl hX688
      · have h := hy602
        refine a_seq ?_
        refine a_region ?_
        refine a_val (v := (.int .i64 r2)) (u := []) rfl trivial rfl ?_
        refine a_val (v := (.int .i64 x474)) (u := []) rfl trivial rfl ?_
        refine a_val (v := (.bool ((decide (r2 ≥ x474))))) (u := []) rfl trivial rfl ?_
        refine a_nil ?_
        refine a_next (σ' := ⟨[(0, (.int .i64 a0)), (2, (.int .i64 a2)), (4, (.own 4 [] [])), (7, (.osl 7)), (8, (.int .i64 r2)), (9, (.int .i64 (IntKind.i64.wrap (Int.tdiv (IntKind.i64.wrap (a0 + 1)) 2)))), (10, (.int .i64 x474)), (11, (.int .i64 0)), (26, (.bool ((decide (r2 ≥ x474)))))], [(4, some ⟨(eA64u8 a1), false⟩), (7, some ⟨(.row 1 (x475.map (AV.int .i64))), false⟩)]⟩) rfl ?_
        cases hb604 : (decide (r2 ≥ x474))
        · have h := ite_f hb604 h
          refine a_cond_f rfl ?_
          refine a_skip ?_
          exact j_leaf 0 (Option.some.inj h) rfl
        · have h := ite_t hb604 h
          refine a_cond_t rfl ?_
          refine a_region ?_
          refine a_val (v := (.int .i64 r2)) (u := []) rfl trivial rfl ?_
          refine a_val (v := (.int .i64 x474)) (u := []) rfl trivial rfl ?_
          refine a_val (v := (.int .i64 (IntKind.i64.wrap (r2 - x474)))) (u := []) rfl trivial rfl ?_
          obtain ⟨hc605, h⟩ := ifp_some h
          refine a_val (v := (.own 4 [(IntKind.i64.wrap (r2 - x474)).toNat] [(IntKind.i64.wrap (r2 - x474)).toNat * 1])) (u := []) rfl hc605 rfl ?_
          have hl606 : LdOk [(IntKind.i64.wrap (r2 - x474)).toNat] (eA64u8 a1) [(IntKind.i64.wrap (r2 - x474)).toNat * 1] 1 false (.int .u8 ((rd a1.1 (IntKind.i64.wrap (r2 - x474)).toNat))) := (.arr (vlt a1 hc605) rfl (.nil rfl rfl rfl))
          refine a_val (v := (.int .u8 ((rd a1.1 (IntKind.i64.wrap (r2 - x474)).toNat)))) (u := []) (ld_own (i := ⟨.int .u8, 1, 1, (.int .u8 0)⟩) rfl rfl rfl hl606) hl606.c rfl ?_
          obtain ⟨x607, hx608, h⟩ := letp_some h
          refine a_val' (v := (.int .i64 (IntKind.i64.wrap ((rd a1.1 (IntKind.i64.wrap (r2 - x474)).toNat))))) (v' := (.int .i64 x607)) (u := []) (u' := []) rfl (congrArg (fun z => ((.int .i64 z) : AV)) hx608) rfl trivial rfl ?_
          refine a_val (v := (.int .i64 x607)) (u := []) rfl trivial rfl ?_
          refine a_nil ?_
          exact j_leaf x607 (Option.some.inj h) rfl
def spec_l10Part_c : ACode := (.seq (.region 0 [⟨some 3, .box 23 (.tmp 1), none, []⟩, ⟨some 4, .alloc 23, none, []⟩] false) (.seq (.region 1 [⟨some 9, .load 23 (.tmp 3), none, []⟩, ⟨some 10, .call 0 (.func 71) [(.tmp 9)], none, []⟩, ⟨some 11, .bin .quo 2 (.tmp 10) (.const (.int .i64 2)), none, []⟩, ⟨some 5, .asg 0 (.tmp 11) 2, none, []⟩] false) (.seq (.region 2 [⟨some 12, .mov (.tmp 0), none, []⟩, ⟨some 13, .load 23 (.tmp 3), none, []⟩, ⟨some 14, .mov (.tmp 5), none, []⟩, ⟨some 15, .bin .add 2 (.tmp 14) (.const (.int .i64 1)), none, []⟩, ⟨some 16, .call 0 (.func 72) [(.tmp 12), (.tmp 13), (.tmp 15)], none, []⟩, ⟨some 17, .build 23 [], none, []⟩, ⟨some 7, .alloc 23, none, []⟩, ⟨some 6, .asg 1 (.tmp 16) 45, none, []⟩, ⟨none, .store 23 (.tmp 7) (.tmp 17), none, []⟩] false) (.seq (.seq (.region 3 [⟨some 8, .asg 0 (.const (.int .i64 0)) 2, none, []⟩] false) (.block 0 (.loop (.seq (.seq (.region 4 [⟨some 18, .mov (.tmp 8), none, []⟩, ⟨some 19, .mov (.tmp 5), none, []⟩, ⟨some 20, .bin .leq 2 (.tmp 18) (.tmp 19), none, []⟩] false) (.cond (.tmp 20) .skip (.exit 0))) (.seq (.block 1 (.region 6 [⟨some 23, .mov (.tmp 5), none, []⟩, ⟨some 24, .mov (.tmp 8), none, []⟩, ⟨some 25, .bin .sub 2 (.tmp 23) (.tmp 24), none, []⟩, ⟨some 26, .mov (.tmp 6), none, []⟩, ⟨some 27, .mov (.tmp 8), none, []⟩, ⟨some 28, .indexAddr 45 (.tmp 26) (.tmp 27), none, []⟩, ⟨some 29, .load 2 (.tmp 28), none, []⟩, ⟨some 30, .conv 2 5 (.tmp 29), none, []⟩, ⟨some 31, .indexAddr 23 (.tmp 7) (.tmp 25), none, []⟩, ⟨none, .store 5 (.tmp 31) (.tmp 30), none, []⟩] false)) (.region 5 [⟨some 21, .mov (.tmp 8), none, []⟩, ⟨some 22, .bin .add 2 (.tmp 21) (.const (.int .i64 1)), none, []⟩, ⟨some 8, .asg 0 (.tmp 22) 2, none, []⟩] false)))))) (.seq (.region 7 [⟨some 32, .load 23 (.tmp 7), none, []⟩, ⟨none, .store 23 (.tmp 4) (.tmp 32), none, []⟩] false) .ret)))))
def spec_l10Part_L : Live := [(0, [0, 1]), (1, [0, 3, 4]), (2, [0, 3, 4, 5]), (3, [4, 5, 6, 7]), (4, [4, 5, 6, 7, 8]), (5, [4, 5, 6, 7, 8]), (6, [4, 5, 6, 7, 8]), (7, [4, 7]), (100020, [4, 5, 6, 7, 8, 20])]
theorem spec_l10Part_body : Try.f83.body = some (Try.f83.body.getD .skip) := by kernel_rfl
theorem spec_l10Part_strip : strip [(6, 1)] (Try.f83.body.getD .skip) = spec_l10Part_c := by kernel_rfl
noncomputable def spec_l10Part_l1 (r2 : Int) (r5 : (List Int)) (x38 : Int) (x39 : (Vec Int 64)) : Option ((Int × (Vec Int 64)) ⊕ (Vec Int 64)) :=
  (if (decide (x38 ≤ (IntKind.i64.wrap (Int.tdiv r2 2)))) then (ifp (0 ≤ x38 ∧ x38 < ((r5.length : Nat) : Int)) ((ifp (0 ≤ IntKind.i64.wrap ((IntKind.i64.wrap (Int.tdiv r2 2)) - x38) ∧ IntKind.i64.wrap ((IntKind.i64.wrap (Int.tdiv r2 2)) - x38) < ((64 : Nat) : Int)) ((some (.inl ((IntKind.i64.wrap (x38 + 1), (vset x39 (IntKind.i64.wrap ((IntKind.i64.wrap (Int.tdiv r2 2)) - x38)).toNat (IntKind.u8.wrap (rd r5 x38.toNat))))))))))) else (some (.inr x39)))
noncomputable def spec_l10Part (a0 : Int) (a1 : (Vec Int 64)) : Option (Vec Int 64) :=
  (Option.bind (spec_l01Deg a1) fun r2 => (Option.bind (spec_l10Root a0 a1 (IntKind.i64.wrap ((IntKind.i64.wrap (Int.tdiv r2 2)) + 1))) fun r5 => (Option.bind (α := (Vec Int 64)) ((loopM (fun s : (Int × (Vec Int 64)) => spec_l10Part_l1 r2 r5 s.1 s.2) (0, (vrep 64 (0 : Int))))) fun x29 => (some x29))))
set_option maxHeartbeats 16000000 in
theorem spec_l10Part_ok (a0 : Int) (a1 : (Vec Int 64)) (r : (Vec Int 64)) (h : spec_l10Part a0 a1 = some r) : Den Try.prog 83 [(.int .i64 a0), (eA64u8 a1)] { r := (eA64u8 r) } := by
  refine den_of (rs := [(eA64u8 r)]) (ac := spec_l10Part_c) (L := spec_l10Part_L) (n := 33) (m := [(6, 1)]) good Try.func83 spec_l10Part_body (by kernel_rfl) Try.ntmps83 rfl rfl spec_l10Part_strip rfl rfl ?_
  refine a_st (σ' := ⟨[(0, (.int .i64 a0)), (1, (eA64u8 a1))], []⟩) rfl ?_
  unfold spec_l10Part_c
  refine a_seq ?_
  refine a_region ?_
  refine a_val (v := (.own 1300 [] [])) (u := [(1300, some ⟨(eA64u8 a1), false⟩)]) rfl trivial rfl ?_
  refine a_val (v := (.own 1400 [] [])) (u := [(1400, some ⟨(eA64u8 ((vrep 64 (0 : Int)))), false⟩)]) rfl trivial rfl ?_
  refine a_nil ?_
  refine a_next (σ' := ⟨[(0, (.int .i64 a0)), (3, (.own 3 [] [])), (4, (.own 4 [] []))], [(3, some ⟨(eA64u8 a1), false⟩), (4, some ⟨(eA64u8 ((vrep 64 (0 : Int)))), false⟩)]⟩) rfl ?_
  refine a_seq ?_
  refine a_region ?_
  have hl1 : LdOk [] (eA64u8 a1) [] 64 true (eA64u8 a1) := (.nil rfl rfl rfl)
  refine a_val (v := (eA64u8 a1)) (u := []) (ld_own (i := ⟨.arr 64 5, 64, 64, (eA64u8 (vrep 64 (0 : Int)))⟩) rfl rfl rfl hl1) hl1.c rfl ?_
  obtain ⟨r2, hr3, h⟩ := bind_some h
  refine a_call (args := [(eA64u8 a1)]) (u := []) (r := (.int .i64 r2)) rfl rfl (spec_l01Deg_ok a1 r2 hr3) rfl ?_
  refine a_val (v := (.int .i64 (IntKind.i64.wrap (Int.tdiv r2 2)))) (u := []) rfl (by decide) rfl ?_
  refine a_val (v := (.int .i64 (IntKind.i64.wrap (Int.tdiv r2 2)))) (u := []) rfl trivial rfl ?_
  refine a_nil ?_
  refine a_next (σ' := ⟨[(0, (.int .i64 a0)), (3, (.own 3 [] [])), (4, (.own 4 [] [])), (5, (.int .i64 (IntKind.i64.wrap (Int.tdiv r2 2))))], [(3, some ⟨(eA64u8 a1), false⟩), (4, some ⟨(eA64u8 ((vrep 64 (0 : Int)))), false⟩)]⟩) rfl ?_
  refine a_seq ?_
  refine a_region ?_
  refine a_val (v := (.int .i64 a0)) (u := []) rfl trivial rfl ?_
  have hl4 : LdOk [] (eA64u8 a1) [] 64 true (eA64u8 a1) := (.nil rfl rfl rfl)
  refine a_val (v := (eA64u8 a1)) (u := []) (ld_own (i := ⟨.arr 64 5, 64, 64, (eA64u8 (vrep 64 (0 : Int)))⟩) rfl rfl rfl hl4) hl4.c rfl ?_
  refine a_val (v := (.int .i64 (IntKind.i64.wrap (Int.tdiv r2 2)))) (u := []) rfl trivial rfl ?_
  refine a_val (v := (.int .i64 (IntKind.i64.wrap ((IntKind.i64.wrap (Int.tdiv r2 2)) + 1)))) (u := []) rfl trivial rfl ?_
  obtain ⟨r5, hr6, h⟩ := bind_some h
  refine a_call (args := [(.int .i64 a0), (eA64u8 a1), (.int .i64 (IntKind.i64.wrap ((IntKind.i64.wrap (Int.tdiv r2 2)) + 1)))]) (u := []) (r := (eSi64 r5)) rfl rfl (spec_l10Root_ok a0 a1 (IntKind.i64.wrap ((IntKind.i64.wrap (Int.tdiv r2 2)) + 1)) r5 hr6) rfl ?_
  refine a_val (v := (eA64u8 ((vrep 64 (0 : Int))))) (u := []) rfl ⟨⟨_, rfl, rfl⟩, all_nil⟩ rfl ?_
  refine a_val (v := (.own 1700 [] [])) (u := [(1700, some ⟨(eA64u8 ((vrep 64 (0 : Int)))), false⟩)]) rfl trivial rfl ?_
  refine a_val (v := (eSi64 r5)) (u := []) rfl trivial rfl ?_
  have hs7 : StOk [] (eA64u8 ((vrep 64 (0 : Int)))) [] 64 (eA64u8 ((vrep 64 (0 : Int)))) (eA64u8 ((vrep 64 (0 : Int)))) := (.nil rfl rfl rfl rfl)
  refine a_val (v := .top) (u := [(1700, some ⟨(eA64u8 ((vrep 64 (0 : Int)))), false⟩)]) (st_own (i := ⟨.arr 64 5, 64, 64, (eA64u8 (vrep 64 (0 : Int)))⟩) rfl rfl (fun _ => rfl) rfl hs7) (hs7.c rfl) rfl ?_
  refine a_nil ?_
  refine a_next (σ' := ⟨[(4, (.own 4 [] [])), (5, (.int .i64 (IntKind.i64.wrap (Int.tdiv r2 2)))), (6, (eSi64 r5)), (7, (.own 7 [] []))], [(4, some ⟨(eA64u8 ((vrep 64 (0 : Int)))), false⟩), (7, some ⟨(eA64u8 ((vrep 64 (0 : Int)))), false⟩)]⟩) rfl ?_
  obtain ⟨y30, hy31, hk32⟩ := bind_some h
  clear h
  refine a_join (emb := fun (s : (Vec Int 64)) => ⟨[(4, (.own 4 [] [])), (7, (.own 7 [] []))], [(4, some ⟨(eA64u8 ((vrep 64 (0 : Int)))), false⟩), (7, some ⟨(eA64u8 s), false⟩)]⟩) (pre := fun s => s = y30) ?_ ?_
  · rintro x29 rfl
    have h := hk32
    refine a_st (σ' := ⟨[(4, (.own 4 [] [])), (7, (.own 7 [] []))], [(4, some ⟨(eA64u8 ((vrep 64 (0 : Int)))), false⟩), (7, some ⟨(eA64u8 x29), false⟩)]⟩) rfl ?_
    refine a_seq ?_
    refine a_region ?_
    have hl54 : LdOk [] (eA64u8 x29) [] 64 true (eA64u8 x29) := (.nil rfl rfl rfl)
    refine a_val (v := (eA64u8 x29)) (u := []) (ld_own (i := ⟨.arr 64 5, 64, 64, (eA64u8 (vrep 64 (0 : Int)))⟩) rfl rfl rfl hl54) hl54.c rfl ?_
    have hs55 : StOk [] (eA64u8 ((vrep 64 (0 : Int)))) [] 64 (eA64u8 x29) (eA64u8 x29) := (.nil rfl rfl rfl rfl)
    refine a_val (v := .top) (u := [(4, some ⟨(eA64u8 x29), false⟩)]) (st_own (i := ⟨.arr 64 5, 64, 64, (eA64u8 (vrep 64 (0 : Int)))⟩) rfl rfl (fun _ => rfl) rfl hs55) (hs55.c rfl) rfl ?_
    refine a_nil ?_
    refine a_next rfl ?_
    refine a_ret ?_
    have hl56 : LdOk [] (eA64u8 x29) [] 64 true (eA64u8 x29) := (.nil rfl rfl rfl)
    refine ⟨.inr rfl, ?_⟩
    rw [Try.results83]
    cases h
    exact ⟨_, _, _, _, _, ld_own (i := ⟨.arr 64 5, 64, 64, (eA64u8 (vrep 64 (0 : Int)))⟩) rfl rfl rfl hl56, hl56.c, .inl ⟨rfl, .inl rfl⟩, rfl, rfl⟩
  · have h := hy31
    refine a_seq ?_
    refine a_region ?_
    refine a_val (v := (.int .i64 0)) (u := []) rfl trivial rfl ?_
    refine a_nil ?_
    refine a_next (σ' := ⟨[(4, (.own 4 [] [])), (5, (.int .i64 (IntKind.i64.wrap (Int.tdiv r2 2)))), (6, (eSi64 r5)), (7, (.own 7 [] [])), (8, (.int .i64 0))], [(4, some ⟨(eA64u8 ((vrep 64 (0 : Int)))), false⟩), (7, some ⟨(eA64u8 ((vrep 64 (0 : Int)))), false⟩)]⟩) rfl ?_
    refine a_block ?_
    refine a_loop (emb := fun (s : (Int × (Vec Int 64))) => ⟨[(4, (.own 4 [] [])), (5, (.int .i64 (IntKind.i64.wrap (Int.tdiv r2 2)))), (6, (eSi64 r5)), (7, (.own 7 [] [])), (8, (.int .i64 s.1))], [(4, some ⟨(eA64u8 ((vrep 64 (0 : Int)))), false⟩), (7, some ⟨(eA64u8 s.2), false⟩)]⟩) (body := (fun s : (Int × (Vec Int 64)) => spec_l10Part_l1 r2 r5 s.1 s.2)) (G := fun q => some q = some y30) h rfl ?_ rfl
    rintro X45 ⟨x38, x39⟩ x46 h hX47
    have h : spec_l10Part_l1 r2 r5 x38 x39 = some x46 := h
    refine a_st (σ' := ⟨[(4, (.own 4 [] [])), (5, (.int .i64 (IntKind.i64.wrap (Int.tdiv r2 2)))), (6, (eSi64 r5)), (7, (.own 7 [] [])), (8, (.int .i64 x38))], [(4, some ⟨(eA64u8 ((vrep 64 (0 : Int)))), false⟩), (7, some ⟨(eA64u8 x39), false⟩)]⟩) rfl ?_
    refine a_seq ?_
    refine a_seq ?_
    refine a_region ?_
    refine a_val (v := (.int .i64 x38)) (u := []) rfl trivial rfl ?_
    refine a_val (v := (.int .i64 (IntKind.i64.wrap (Int.tdiv r2 2)))) (u := []) rfl trivial rfl ?_
    refine a_val (v := (.bool ((decide (x38 ≤ (IntKind.i64.wrap (Int.tdiv r2 2))))))) (u := []) rfl trivial rfl ?_
    refine a_nil ?_
    refine a_next (σ' := ⟨[(4, (.own 4 [] [])), (5, (.int .i64 (IntKind.i64.wrap (Int.tdiv r2 2)))), (6, (eSi64 r5)), (7, (.own 7 [] [])), (8, (.int .i64 x38)), (20, (.bool ((decide (x38 ≤ (IntKind.i64.wrap (Int.tdiv r2 2)))))))], [(4, some ⟨(eA64u8 ((vrep 64 (0 : Int)))), false⟩), (7, some ⟨(eA64u8 x39), false⟩)]⟩) rfl ?_
    cases hb48 : (decide (x38 ≤ (IntKind.i64.wrap (Int.tdiv r2 2))))
    · have h := ite_f hb48 h
      refine a_cond_f rfl ?_
      refine a_exit ?_
      refine t_exit ?_
      cases h
      have h := hX47
      refine t_exit ?_
      refine b_exit ?_
      exact j_leaf x39 (Option.some.inj h) rfl
    · have h := ite_t hb48 h
      refine a_cond_t rfl ?_
      refine a_skip ?_
      refine a_next (σ' := ⟨[(4, (.own 4 [] [])), (5, (.int .i64 (IntKind.i64.wrap (Int.tdiv r2 2)))), (6, (eSi64 r5)), (7, (.own 7 [] [])), (8, (.int .i64 x38))], [(4, some ⟨(eA64u8 ((vrep 64 (0 : Int)))), false⟩), (7, some ⟨(eA64u8 x39), false⟩)]⟩) rfl ?_
      refine a_seq ?_
      refine a_block ?_
      refine a_region ?_
      refine a_val (v := (.int .i64 (IntKind.i64.wrap (Int.tdiv r2 2)))) (u := []) rfl trivial rfl ?_
      refine a_val (v := (.int .i64 x38)) (u := []) rfl trivial rfl ?_
      refine a_val (v := (.int .i64 (IntKind.i64.wrap ((IntKind.i64.wrap (Int.tdiv r2 2)) - x38)))) (u := []) rfl trivial rfl ?_
      refine a_val (v := (eSi64 r5)) (u := []) rfl trivial rfl ?_
      refine a_val (v := (.int .i64 x38)) (u := []) rfl trivial rfl ?_
      obtain ⟨hc49, h⟩ := ifp_some h
      refine a_val (v := (.ref (.row 1 (r5.map (AV.int .i64))) [x38.toNat] [x38.toNat * 1])) (u := []) rfl (lmap hc49) rfl ?_
      have hl50 : LdOk [x38.toNat] (.row 1 (r5.map (AV.int .i64))) [x38.toNat * 1] 1 false (.int .i64 (rd r5 x38.toNat)) := (.row (llt hc49) rfl (.nil rfl rfl rfl))
      refine a_val (v := (.int .i64 (rd r5 x38.toNat))) (u := []) (ld_ref (i := ⟨.int .i64, 1, 8, (.int .i64 0)⟩) rfl rfl hl50) hl50.c rfl ?_
      refine a_val (v := (.int .u8 (IntKind.u8.wrap (rd r5 x38.toNat)))) (u := []) rfl trivial rfl ?_
      obtain ⟨hc51, h⟩ := ifp_some h
      refine a_val (v := (.own 7 [(IntKind.i64.wrap ((IntKind.i64.wrap (Int.tdiv r2 2)) - x38)).toNat] [(IntKind.i64.wrap ((IntKind.i64.wrap (Int.tdiv r2 2)) - x38)).toNat * 1])) (u := []) rfl hc51 rfl ?_
      have hs52 : StOk [(IntKind.i64.wrap ((IntKind.i64.wrap (Int.tdiv r2 2)) - x38)).toNat] (eA64u8 x39) [(IntKind.i64.wrap ((IntKind.i64.wrap (Int.tdiv r2 2)) - x38)).toNat * 1] 1 (.int .u8 (IntKind.u8.wrap (rd r5 x38.toNat))) (eA64u8 ((vset x39 (IntKind.i64.wrap ((IntKind.i64.wrap (Int.tdiv r2 2)) - x38)).toNat (IntKind.u8.wrap (rd r5 x38.toNat))))) := (.arr (y := IntKind.u8.wrap (rd r5 x38.toNat)) (vlt x39 hc51) rfl (.nil rfl rfl rfl rfl))
      refine a_val (v := .top) (u := [(7, some ⟨(eA64u8 ((vset x39 (IntKind.i64.wrap ((IntKind.i64.wrap (Int.tdiv r2 2)) - x38)).toNat (IntKind.u8.wrap (rd r5 x38.toNat))))), false⟩)]) (st_own (i := ⟨.int .u8, 1, 1, (.int .u8 0)⟩) rfl rfl (fun _ => rfl) rfl hs52) (hs52.c rfl) rfl ?_
      refine a_nil ?_
      refine b_norm ?_
      refine a_next (σ' := ⟨[(4, (.own 4 [] [])), (5, (.int .i64 (IntKind.i64.wrap (Int.tdiv r2 2)))), (6, (eSi64 r5)), (7, (.own 7 [] [])), (8, (.int .i64 x38))], [(4, some ⟨(eA64u8 ((vrep 64 (0 : Int)))), false⟩), (7, some ⟨(eA64u8 ((vset x39 (IntKind.i64.wrap ((IntKind.i64.wrap (Int.tdiv r2 2)) - x38)).toNat (IntKind.u8.wrap (rd r5 x38.toNat))))), false⟩)]⟩) rfl ?_
      refine a_region ?_
      refine a_val (v := (.int .i64 x38)) (u := []) rfl trivial rfl ?_
      refine a_val (v := (.int .i64 (IntKind.i64.wrap (x38 + 1)))) (u := []) rfl trivial rfl ?_
      refine a_val (v := (.int .i64 (IntKind.i64.wrap (x38 + 1)))) (u := []) rfl trivial rfl ?_
      refine a_nil ?_
      cases h
      exact a_again rfl hX47
end Go.Proofs.Ytacebpbhddkelaa
