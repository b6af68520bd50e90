/- Functions of the program: plain Lean functions, and that the program computes them. Printed by gen.py. -/
import Derived.Test.YtgodhgbnjlflmaaFnT
namespace Go.Proofs.Ytgodhgbnjlflmaa
open Go.Abs Go.Proofs
set_option linter.unusedSimpArgs false
set_option linter.unusedVariables false
attribute [local irreducible] Abs.acode Abs.aops Abs.aopsT Abs.thenK Abs.blockK

def laws_toPoly_c : ACode := (.seq (.region 0 [⟨some 1, .box 22 (.tmp 0), none, []⟩, ⟨some 2, .alloc 23, none, []⟩] false) (.seq (.region 1 [⟨some 3, .alloc 23, none, []⟩] false) (.seq (.seq (.region 2 [⟨some 4, .asg 0 (.const (.int .i64 0)) 3, none, []⟩] false) (.block 0 (.loop (.seq (.seq (.region 3 [⟨some 5, .mov (.tmp 4), none, []⟩, ⟨some 6, .bin .lss 3 (.tmp 5) (.const (.int .i64 64)), none, []⟩] false) (.cond (.tmp 6) .skip (.exit 0))) (.seq (.block 1 (.region 5 [⟨some 9, .mov (.tmp 4), none, []⟩, ⟨some 10, .mov (.tmp 4), none, []⟩, ⟨some 11, .indexAddr 22 (.tmp 1) (.tmp 10), none, []⟩, ⟨some 12, .load 5 (.tmp 11), none, []⟩, ⟨some 13, .indexAddr 23 (.tmp 3) (.tmp 9), none, []⟩, ⟨none, .store 5 (.tmp 13) (.tmp 12), none, []⟩] false)) (.region 4 [⟨some 7, .mov (.tmp 4), none, []⟩, ⟨some 8, .bin .add 3 (.tmp 7) (.const (.int .i64 1)), none, []⟩, ⟨some 4, .asg 0 (.tmp 8) 3, none, []⟩] false)))))) (.seq (.region 6 [⟨some 14, .load 23 (.tmp 3), none, []⟩, ⟨none, .store 23 (.tmp 2) (.tmp 14), none, []⟩] false) .ret))))
def laws_toPoly_L : Live := [(0, [0]), (1, [1, 2]), (2, [1, 2, 3]), (3, [1, 2, 3, 4]), (4, [1, 2, 3, 4]), (5, [1, 2, 3, 4]), (6, [2, 3]), (100006, [1, 2, 3, 4, 6])]
theorem laws_toPoly_body : Try.f21.body = some (Try.f21.body.getD .skip) := by kernel_rfl
theorem laws_toPoly_strip : strip [] (Try.f21.body.getD .skip) = laws_toPoly_c := by kernel_rfl
noncomputable def laws_toPoly_l1 (a0 : (Vec Int 64)) (x31 : Int) (x32 : (Vec Int 64)) : Option ((Int × (Vec Int 64)) ⊕ (Vec Int 64)) :=
  (if (decide (x31 < 64)) then (ifp (0 ≤ x31 ∧ x31 < ((64 : Nat) : Int)) ((ifp (0 ≤ x31 ∧ x31 < ((64 : Nat) : Int)) ((some (.inl ((IntKind.i64.wrap (x31 + 1), (vset x32 x31.toNat (rd a0.1 x31.toNat)))))))))) else (some (.inr x32)))
noncomputable def laws_toPoly (a0 : (Vec Int 64)) : Option (Vec Int 64) :=
  (Option.bind (α := (Vec Int 64)) ((loopM (fun s : (Int × (Vec Int 64)) => laws_toPoly_l1 a0 s.1 s.2) (0, (vrep 64 (0 : Int))))) fun x22 => (some x22))
set_option maxHeartbeats 16000000 in
theorem laws_toPoly_ok (a0 : (Vec Int 64)) (r : (Vec Int 64)) (h : laws_toPoly a0 = some r) : Den Try.prog 21 [(eA64u8 a0)] { r := (eA64u8 r) } := by
  refine den_of (rs := [(eA64u8 r)]) (ac := laws_toPoly_c) (L := laws_toPoly_L) (n := 15) (m := []) good Try.func21 laws_toPoly_body (by kernel_rfl) Try.ntmps21 rfl rfl laws_toPoly_strip rfl rfl ?_
  refine a_st (σ' := ⟨[(0, (eA64u8 a0))], []⟩) (by kernel_rfl) ?_
  unfold laws_toPoly_c
  refine a_seq ?_
  refine a_region ?_
  refine a_val (v := (.own 1100 [] [])) (u := [(1100, some ⟨(eA64u8 a0), false⟩)]) rfl trivial rfl ?_
  refine a_val (v := (.own 1200 [] [])) (u := [(1200, some ⟨(eA64u8 ((vrep 64 (0 : Int)))), false⟩)]) rfl trivial rfl ?_
  refine a_nil ?_
  refine a_next (σ' := ⟨[(1, (.own 1 [] [])), (2, (.own 2 [] []))], [(1, some ⟨(eA64u8 a0), false⟩), (2, some ⟨(eA64u8 ((vrep 64 (0 : Int)))), false⟩)]⟩) (by kernel_rfl) ?_
  refine a_seq ?_
  refine a_region ?_
  refine a_val (v := (.own 1300 [] [])) (u := [(1300, some ⟨(eA64u8 ((vrep 64 (0 : Int)))), false⟩)]) rfl trivial rfl ?_
  refine a_nil ?_
  refine a_next (σ' := ⟨[(1, (.own 1 [] [])), (2, (.own 2 [] [])), (3, (.own 3 [] []))], [(1, some ⟨(eA64u8 a0), false⟩), (2, some ⟨(eA64u8 ((vrep 64 (0 : Int)))), false⟩), (3, some ⟨(eA64u8 ((vrep 64 (0 : Int)))), false⟩)]⟩) (by kernel_rfl) ?_
  obtain ⟨y23, hy24, hk25⟩ := bind_some h
  clear h
  refine a_join (emb := fun (s : (Vec Int 64)) => ⟨[(2, (.own 2 [] [])), (3, (.own 3 [] []))], [(2, some ⟨(eA64u8 ((vrep 64 (0 : Int)))), false⟩), (3, some ⟨(eA64u8 s), false⟩)]⟩) (pre := fun s => s = y23) ?_ ?_
  · rintro x22 rfl
    have h := hk25
    refine a_st (σ' := ⟨[(2, (.own 2 [] [])), (3, (.own 3 [] []))], [(2, some ⟨(eA64u8 ((vrep 64 (0 : Int)))), false⟩), (3, some ⟨(eA64u8 x22), false⟩)]⟩) (by kernel_rfl) ?_
    refine a_seq ?_
    refine a_region ?_
    have hl47 : LdOk [] (eA64u8 x22) [] 64 true (eA64u8 x22) := (.nil rfl rfl rfl)
    refine a_val (v := (eA64u8 x22)) (u := []) (ld_own (i := ⟨.arr 64 5, 64, 64, (eA64u8 (vrep 64 (0 : Int)))⟩) rfl rfl rfl hl47) hl47.c rfl ?_
    have hs48 : StOk [] (eA64u8 ((vrep 64 (0 : Int)))) [] 64 (eA64u8 x22) (eA64u8 x22) := (.nil rfl rfl rfl rfl)
    refine a_val (v := .top) (u := [(2, some ⟨(eA64u8 x22), false⟩)]) (st_own (i := ⟨.arr 64 5, 64, 64, (eA64u8 (vrep 64 (0 : Int)))⟩) rfl rfl (fun _ => rfl) rfl hs48) (hs48.c rfl) rfl ?_
    refine a_nil ?_
    refine a_next rfl ?_
    refine a_ret ?_
    have hl49 : LdOk [] (eA64u8 x22) [] 64 true (eA64u8 x22) := (.nil rfl rfl rfl)
    refine ⟨.inr rfl, ?_⟩
    rw [Try.results21]
    cases h
    exact ⟨_, _, _, _, _, ld_own (i := ⟨.arr 64 5, 64, 64, (eA64u8 (vrep 64 (0 : Int)))⟩) rfl rfl rfl hl49, hl49.c, .inl ⟨rfl, .inl rfl⟩, rfl, rfl⟩
  · have h := hy24
    refine a_seq ?_
    refine a_region ?_
    refine a_val (v := (.int .i64 0)) (u := []) rfl trivial rfl ?_
    refine a_nil ?_
    refine a_next (σ' := ⟨[(1, (.own 1 [] [])), (2, (.own 2 [] [])), (3, (.own 3 [] [])), (4, (.int .i64 0))], [(1, some ⟨(eA64u8 a0), false⟩), (2, some ⟨(eA64u8 ((vrep 64 (0 : Int)))), false⟩), (3, some ⟨(eA64u8 ((vrep 64 (0 : Int)))), false⟩)]⟩) (by kernel_rfl) ?_
    refine a_block ?_
    refine a_loop (emb := fun (s : (Int × (Vec Int 64))) => ⟨[(1, (.own 1 [] [])), (2, (.own 2 [] [])), (3, (.own 3 [] [])), (4, (.int .i64 s.1))], [(1, some ⟨(eA64u8 a0), false⟩), (2, some ⟨(eA64u8 ((vrep 64 (0 : Int)))), false⟩), (3, some ⟨(eA64u8 s.2), false⟩)]⟩) (body := (fun s : (Int × (Vec Int 64)) => laws_toPoly_l1 a0 s.1 s.2)) (G := fun q => some q = some y23) h rfl ?_ (by kernel_rfl)
    rintro X38 ⟨x31, x32⟩ x39 h hX40
    have h : laws_toPoly_l1 a0 x31 x32 = some x39 := h
    refine a_st (σ' := ⟨[(1, (.own 1 [] [])), (2, (.own 2 [] [])), (3, (.own 3 [] [])), (4, (.int .i64 x31))], [(1, some ⟨(eA64u8 a0), false⟩), (2, some ⟨(eA64u8 ((vrep 64 (0 : Int)))), false⟩), (3, some ⟨(eA64u8 x32), false⟩)]⟩) (by kernel_rfl) ?_
    refine a_seq ?_
    refine a_seq ?_
    refine a_region ?_
    refine a_val (v := (.int .i64 x31)) (u := []) rfl trivial rfl ?_
    refine a_val (v := (.bool ((decide (x31 < 64))))) (u := []) rfl trivial rfl ?_
    refine a_nil ?_
    refine a_next (σ' := ⟨[(1, (.own 1 [] [])), (2, (.own 2 [] [])), (3, (.own 3 [] [])), (4, (.int .i64 x31)), (6, (.bool ((decide (x31 < 64)))))], [(1, some ⟨(eA64u8 a0), false⟩), (2, some ⟨(eA64u8 ((vrep 64 (0 : Int)))), false⟩), (3, some ⟨(eA64u8 x32), false⟩)]⟩) (by kernel_rfl) ?_
    cases hb41 : (decide (x31 < 64))
    · have h := ite_f hb41 h
      refine a_cond_f rfl ?_
      refine a_exit ?_
      refine t_exit ?_
      cases h
      have h := hX40
      refine t_exit ?_
      refine b_exit ?_
      exact j_leaf x32 (Option.some.inj h) (by kernel_rfl)
    · have h := ite_t hb41 h
      refine a_cond_t rfl ?_
      refine a_skip ?_
      refine a_next (σ' := ⟨[(1, (.own 1 [] [])), (2, (.own 2 [] [])), (3, (.own 3 [] [])), (4, (.int .i64 x31))], [(1, some ⟨(eA64u8 a0), false⟩), (2, some ⟨(eA64u8 ((vrep 64 (0 : Int)))), false⟩), (3, some ⟨(eA64u8 x32), false⟩)]⟩) (by kernel_rfl) ?_
      refine a_seq ?_
      refine a_block ?_
      refine a_region ?_
      refine a_val (v := (.int .i64 x31)) (u := []) rfl trivial rfl ?_
      refine a_val (v := (.int .i64 x31)) (u := []) rfl trivial rfl ?_
      obtain ⟨hc42, h⟩ := ifp_some h
      refine a_val (v := (.own 1 [x31.toNat] [x31.toNat * 1])) (u := []) rfl hc42 rfl ?_
      have hl43 : LdOk [x31.toNat] (eA64u8 a0) [x31.toNat * 1] 1 false (.int .u8 (rd a0.1 x31.toNat)) := (.arr (vlt a0 hc42) rfl (.nil rfl rfl rfl))
      refine a_val (v := (.int .u8 (rd a0.1 x31.toNat))) (u := []) (ld_own (i := ⟨.int .u8, 1, 1, (.int .u8 0)⟩) rfl rfl rfl hl43) hl43.c rfl ?_
      obtain ⟨hc44, h⟩ := ifp_some h
      refine a_val (v := (.own 3 [x31.toNat] [x31.toNat * 1])) (u := []) rfl hc44 rfl ?_
      have hs45 : StOk [x31.toNat] (eA64u8 x32) [x31.toNat * 1] 1 (.int .u8 (rd a0.1 x31.toNat)) (eA64u8 ((vset x32 x31.toNat (rd a0.1 x31.toNat)))) := (.arr (y := (rd a0.1 x31.toNat)) (vlt x32 hc44) rfl (.nil rfl rfl rfl rfl))
      refine a_val (v := .top) (u := [(3, some ⟨(eA64u8 ((vset x32 x31.toNat (rd a0.1 x31.toNat)))), false⟩)]) (st_own (i := ⟨.int .u8, 1, 1, (.int .u8 0)⟩) rfl rfl (fun _ => rfl) rfl hs45) (hs45.c rfl) rfl ?_
      refine a_nil ?_
      refine b_norm ?_
      refine a_next (σ' := ⟨[(1, (.own 1 [] [])), (2, (.own 2 [] [])), (3, (.own 3 [] [])), (4, (.int .i64 x31))], [(1, some ⟨(eA64u8 a0), false⟩), (2, some ⟨(eA64u8 ((vrep 64 (0 : Int)))), false⟩), (3, some ⟨(eA64u8 ((vset x32 x31.toNat (rd a0.1 x31.toNat)))), false⟩)]⟩) (by kernel_rfl) ?_
      refine a_region ?_
      refine a_val (v := (.int .i64 x31)) (u := []) rfl trivial rfl ?_
      refine a_val (v := (.int .i64 (IntKind.i64.wrap (x31 + 1)))) (u := []) rfl trivial rfl ?_
      refine a_val (v := (.int .i64 (IntKind.i64.wrap (x31 + 1)))) (u := []) rfl trivial rfl ?_
      refine a_nil ?_
      cases h
      exact a_again (by kernel_rfl) hX40
def spec_l01Prime_c : ACode := (.seq (.region 0 [⟨some 2, .asg 0 (.const (.bool false)) 4, none, []⟩] false) (.seq (.region 1 [⟨some 3, .mov (.tmp 0), none, []⟩, ⟨some 4, .bin .eql 2 (.tmp 3) (.const (.int .i64 2)), none, []⟩, ⟨some 5, .mov (.tmp 4), none, []⟩, ⟨some 6, .mov (.tmp 0), some (5, false), []⟩, ⟨some 7, .bin .eql 2 (.tmp 6) (.const (.int .i64 3)), some (5, false), []⟩, ⟨some 8, .pick (.tmp 5) (.const (.bool true)) (.tmp 7), none, []⟩, ⟨some 9, .mov (.tmp 8), none, []⟩, ⟨some 10, .mov (.tmp 0), some (9, false), []⟩, ⟨some 11, .bin .eql 2 (.tmp 10) (.const (.int .i64 5)), some (9, false), []⟩, ⟨some 12, .pick (.tmp 9) (.const (.bool true)) (.tmp 11), none, []⟩, ⟨some 13, .mov (.tmp 12), none, []⟩, ⟨some 14, .mov (.tmp 0), some (13, false), []⟩, ⟨some 15, .bin .eql 2 (.tmp 14) (.const (.int .i64 7)), some (13, false), []⟩, ⟨some 16, .pick (.tmp 13) (.const (.bool true)) (.tmp 15), none, []⟩, ⟨some 2, .asg 0 (.tmp 16) 4, none, []⟩] false) .ret))
def spec_l01Prime_L : Live := [(0, [0]), (1, [0])]
theorem spec_l01Prime_body : Try.f109.body = some (Try.f109.body.getD .skip) := by kernel_rfl
theorem spec_l01Prime_strip : strip [] (Try.f109.body.getD .skip) = spec_l01Prime_c := by kernel_rfl
noncomputable def spec_l01Prime (a0 : Int) : Option Bool :=
  (if (a0 == 2) then (some true) else (if (a0 == 3) then (some true) else (if (a0 == 5) then (some true) else (some (a0 == 7)))))
set_option maxHeartbeats 16000000 in
theorem spec_l01Prime_ok (a0 : Int) (r : Bool) (h : spec_l01Prime a0 = some r) : Den Try.prog 109 [(.int .i64 a0)] { r := (.bool r) } := by
  refine den_of (rs := [(.bool r)]) (ac := spec_l01Prime_c) (L := spec_l01Prime_L) (n := 17) (m := []) good Try.func109 spec_l01Prime_body (by kernel_rfl) Try.ntmps109 rfl rfl spec_l01Prime_strip rfl rfl ?_
  refine a_st (σ' := ⟨[(0, (.int .i64 a0))], []⟩) (by kernel_rfl) ?_
  unfold spec_l01Prime_c
  refine a_seq ?_
  refine a_region ?_
  refine a_val (v := (.bool false)) (u := []) rfl trivial rfl ?_
  refine a_nil ?_
  refine a_next (σ' := ⟨[(0, (.int .i64 a0))], []⟩) (by kernel_rfl) ?_
  refine a_seq ?_
  refine a_region ?_
  refine a_val (v := (.int .i64 a0)) (u := []) rfl trivial rfl ?_
  refine a_val (v := (.bool (a0 == 2))) (u := []) rfl trivial rfl ?_
  refine a_val (v := (.bool (a0 == 2))) (u := []) rfl trivial rfl ?_
  cases hb1 : (a0 == 2)
  · have h := ite_f hb1 h
    refine a_gval rfl (v := (.int .i64 a0)) (u := []) rfl trivial rfl ?_
    refine a_gval rfl (v := (.bool (a0 == 3))) (u := []) rfl trivial rfl ?_
    refine a_val (v := (.bool (a0 == 3))) (u := []) rfl trivial rfl ?_
    refine a_val (v := (.bool (a0 == 3))) (u := []) rfl trivial rfl ?_
    cases hb2 : (a0 == 3)
    · have h := ite_f hb2 h
      refine a_gval rfl (v := (.int .i64 a0)) (u := []) rfl trivial rfl ?_
      refine a_gval rfl (v := (.bool (a0 == 5))) (u := []) rfl trivial rfl ?_
      refine a_val (v := (.bool (a0 == 5))) (u := []) rfl trivial rfl ?_
      refine a_val (v := (.bool (a0 == 5))) (u := []) rfl trivial rfl ?_
      cases hb3 : (a0 == 5)
      · have h := ite_f hb3 h
        refine a_gval rfl (v := (.int .i64 a0)) (u := []) rfl trivial rfl ?_
        refine a_gval rfl (v := (.bool (a0 == 7))) (u := []) rfl trivial rfl ?_
        refine a_val (v := (.bool (a0 == 7))) (u := []) rfl trivial rfl ?_
        refine a_val (v := (.bool (a0 == 7))) (u := []) rfl trivial rfl ?_
        refine a_nil ?_
        refine a_next rfl ?_
        refine a_ret ?_
        refine ⟨.inr rfl, ?_⟩
        rw [Try.results109]
        cases h
        exact ⟨_, _, _, _, _, rfl, trivial, .inl ⟨rfl, .inl rfl⟩, rfl, rfl⟩
      · have h := ite_t hb3 h
        refine a_gskip rfl ?_
        refine a_gskip rfl ?_
        refine a_val (v := (.bool true)) (u := []) rfl trivial rfl ?_
        refine a_val (v := (.bool true)) (u := []) rfl trivial rfl ?_
        refine a_nil ?_
        refine a_next rfl ?_
        refine a_ret ?_
        refine ⟨.inr rfl, ?_⟩
        rw [Try.results109]
        cases h
        exact ⟨_, _, _, _, _, rfl, trivial, .inl ⟨rfl, .inl rfl⟩, rfl, rfl⟩
    · have h := ite_t hb2 h
      refine a_gskip rfl ?_
      refine a_gskip rfl ?_
      refine a_val (v := (.bool true)) (u := []) rfl trivial rfl ?_
      refine a_val (v := (.bool true)) (u := []) rfl trivial rfl ?_
      refine a_gskip rfl ?_
      refine a_gskip rfl ?_
      refine a_val (v := (.bool true)) (u := []) rfl trivial rfl ?_
      refine a_val (v := (.bool true)) (u := []) rfl trivial rfl ?_
      refine a_nil ?_
      refine a_next rfl ?_
      refine a_ret ?_
      refine ⟨.inr rfl, ?_⟩
      rw [Try.results109]
      cases h
      exact ⟨_, _, _, _, _, rfl, trivial, .inl ⟨rfl, .inl rfl⟩, rfl, rfl⟩
  · have h := ite_t hb1 h
    refine a_gskip rfl ?_
    refine a_gskip rfl ?_
    refine a_val (v := (.bool true)) (u := []) rfl trivial rfl ?_
    refine a_val (v := (.bool true)) (u := []) rfl trivial rfl ?_
    refine a_gskip rfl ?_
    refine a_gskip rfl ?_
    refine a_val (v := (.bool true)) (u := []) rfl trivial rfl ?_
    refine a_val (v := (.bool true)) (u := []) rfl trivial rfl ?_
    refine a_gskip rfl ?_
    refine a_gskip rfl ?_
    refine a_val (v := (.bool true)) (u := []) rfl trivial rfl ?_
    refine a_val (v := (.bool true)) (u := []) rfl trivial rfl ?_
    refine a_nil ?_
    refine a_next rfl ?_
    refine a_ret ?_
    refine ⟨.inr rfl, ?_⟩
    rw [Try.results109]
    cases h
    exact ⟨_, _, _, _, _, rfl, trivial, .inl ⟨rfl, .inl rfl⟩, rfl, rfl⟩
def spec_l01Is_c : ACode := (.seq (.region 0 [⟨some 3, .box 23 (.tmp 1), none, []⟩, ⟨some 4, .asg 0 (.const (.bool false)) 4, none, []⟩] false) (.seq (.seq (.region 1 [⟨some 5, .asg 0 (.const (.int .i64 0)) 3, none, []⟩] false) (.block 0 (.loop (.seq (.seq (.region 2 [⟨some 6, .mov (.tmp 5), none, []⟩, ⟨some 7, .bin .lss 3 (.tmp 6) (.const (.int .i64 64)), none, []⟩] false) (.cond (.tmp 7) .skip (.exit 0))) (.seq (.block 1 (.seq (.region 4 [⟨some 10, .mov (.tmp 5), none, []⟩, ⟨some 11, .indexAddr 23 (.tmp 3) (.tmp 10), none, []⟩, ⟨some 12, .load 5 (.tmp 11), none, []⟩, ⟨some 13, .conv 5 2 (.tmp 12), none, []⟩, ⟨some 14, .mov (.tmp 0), none, []⟩, ⟨some 15, .bin .geq 2 (.tmp 13) (.tmp 14), none, []⟩] false) (.cond (.tmp 15) (.seq (.region 5 [⟨some 4, .asg 0 (.const (.bool false)) 4, none, []⟩] false) .ret) .skip))) (.region 3 [⟨some 8, .mov (.tmp 5), none, []⟩, ⟨some 9, .bin .add 3 (.tmp 8) (.const (.int .i64 1)), none, []⟩, ⟨some 5, .asg 0 (.tmp 9) 3, none, []⟩] false)))))) (.seq (.region 6 [⟨some 16, .mov (.tmp 0), none, []⟩, ⟨some 17, .call 0 (.func 109) [(.tmp 16)], none, []⟩, ⟨some 4, .asg 0 (.tmp 17) 4, none, []⟩] false) .ret)))
def spec_l01Is_L : Live := [(0, [0, 1]), (1, [0, 3]), (2, [0, 3, 5]), (3, [0, 3, 5]), (4, [0, 3, 5]), (5, []), (6, [0]), (100007, [0, 3, 5, 7]), (100015, [0, 3, 5, 15])]
theorem spec_l01Is_body : Try.f116.body = some (Try.f116.body.getD .skip) := by kernel_rfl
theorem spec_l01Is_strip : strip [] (Try.f116.body.getD .skip) = spec_l01Is_c := by kernel_rfl
noncomputable def spec_l01Is_l1 (a1 : (Vec Int 64)) (a0 : Int) (x29 : Int) : Option (Int ⊕ (Unit ⊕ Bool)) :=
  (if (decide (x29 < 64)) then (ifp (0 ≤ x29 ∧ x29 < ((64 : Nat) : Int)) ((if (decide ((IntKind.i64.wrap (rd a1.1 x29.toNat)) ≥ a0)) then (some (.inr (.inr false))) else (some (.inl (IntKind.i64.wrap (x29 + 1))))))) else (some (.inr (((.inl ()))))))
noncomputable def spec_l01Is (a0 : Int) (a1 : (Vec Int 64)) : Option Bool :=
  (Option.bind (α := (Unit ⊕ Bool)) ((loopM (fun s : Int => spec_l01Is_l1 a1 a0 s) 0)) fun z => match z with | .inl _ => (Option.bind (spec_l01Prime a0) fun r42 => (some r42)) | .inr r44 => (some r44))
set_option maxHeartbeats 16000000 in
theorem spec_l01Is_ok (a0 : Int) (a1 : (Vec Int 64)) (r : Bool) (h : spec_l01Is a0 a1 = some r) : Den Try.prog 116 [(.int .i64 a0), (eA64u8 a1)] { r := (.bool r) } := by
  refine den_of (rs := [(.bool r)]) (ac := spec_l01Is_c) (L := spec_l01Is_L) (n := 18) (m := []) good Try.func116 spec_l01Is_body (by kernel_rfl) Try.ntmps116 rfl rfl spec_l01Is_strip rfl rfl ?_
  refine a_st (σ' := ⟨[(0, (.int .i64 a0)), (1, (eA64u8 a1))], []⟩) (by kernel_rfl) ?_
  unfold spec_l01Is_c
  refine a_seq ?_
  refine a_region ?_
  refine a_val (v := (.own 1300 [] [])) (u := [(1300, some ⟨(eA64u8 a1), false⟩)]) rfl trivial rfl ?_
  refine a_val (v := (.bool false)) (u := []) rfl trivial rfl ?_
  refine a_nil ?_
  refine a_next (σ' := ⟨[(0, (.int .i64 a0)), (3, (.own 3 [] []))], [(3, some ⟨(eA64u8 a1), false⟩)]⟩) (by kernel_rfl) ?_
  obtain ⟨y20, hy21, hk22⟩ := bind_some h
  clear h
  refine a_join (emb := fun (s : Unit) => ⟨[(0, (.int .i64 a0))], []⟩) (pre := fun s => (.inl s) = y20) ?_ ?_
  · rintro _ rfl
    have h := hk22
    refine a_st (σ' := ⟨[(0, (.int .i64 a0))], []⟩) (by kernel_rfl) ?_
    refine a_seq ?_
    refine a_region ?_
    refine a_val (v := (.int .i64 a0)) (u := []) rfl trivial rfl ?_
    obtain ⟨r42, hr43, h⟩ := bind_some h
    refine a_call (args := [(.int .i64 a0)]) (u := []) (r := (.bool r42)) rfl rfl (spec_l01Prime_ok a0 r42 hr43) rfl ?_
    refine a_val (v := (.bool r42)) (u := []) rfl trivial rfl ?_
    refine a_nil ?_
    refine a_next rfl ?_
    refine a_ret ?_
    refine ⟨.inr rfl, ?_⟩
    rw [Try.results116]
    cases h
    exact ⟨_, _, _, _, _, rfl, trivial, .inl ⟨rfl, .inl rfl⟩, rfl, rfl⟩
  · have h := hy21
    refine a_seq ?_
    refine a_region ?_
    refine a_val (v := (.int .i64 0)) (u := []) rfl trivial rfl ?_
    refine a_nil ?_
    refine a_next (σ' := ⟨[(0, (.int .i64 a0)), (3, (.own 3 [] [])), (5, (.int .i64 0))], [(3, some ⟨(eA64u8 a1), false⟩)]⟩) (by kernel_rfl) ?_
    refine a_block ?_
    refine a_loop (emb := fun (s : Int) => ⟨[(0, (.int .i64 a0)), (3, (.own 3 [] [])), (5, (.int .i64 s))], [(3, some ⟨(eA64u8 a1), false⟩)]⟩) (body := (fun s : Int => spec_l01Is_l1 a1 a0 s)) (G := fun q => some q = some y20) h rfl ?_ (by kernel_rfl)
    rintro X34 x29 x35 h hX36
    have h : spec_l01Is_l1 a1 a0 x29 = some x35 := h
    refine a_st (σ' := ⟨[(0, (.int .i64 a0)), (3, (.own 3 [] [])), (5, (.int .i64 x29))], [(3, some ⟨(eA64u8 a1), false⟩)]⟩) (by kernel_rfl) ?_
    refine a_seq ?_
    refine a_seq ?_
    refine a_region ?_
    refine a_val (v := (.int .i64 x29)) (u := []) rfl trivial rfl ?_
    refine a_val (v := (.bool ((decide (x29 < 64))))) (u := []) rfl trivial rfl ?_
    refine a_nil ?_
    refine a_next (σ' := ⟨[(0, (.int .i64 a0)), (3, (.own 3 [] [])), (5, (.int .i64 x29)), (7, (.bool ((decide (x29 < 64)))))], [(3, some ⟨(eA64u8 a1), false⟩)]⟩) (by kernel_rfl) ?_
    cases hb37 : (decide (x29 < 64))
    · have h := ite_f hb37 h
      refine a_cond_f rfl ?_
      refine a_exit ?_
      refine t_exit ?_
      cases h
      have h := hX36
      refine t_exit ?_
      refine b_exit ?_
      exact j_leaf () (Option.some.inj h) (by kernel_rfl)
    · have h := ite_t hb37 h
      refine a_cond_t rfl ?_
      refine a_skip ?_
      refine a_next (σ' := ⟨[(0, (.int .i64 a0)), (3, (.own 3 [] [])), (5, (.int .i64 x29))], [(3, some ⟨(eA64u8 a1), false⟩)]⟩) (by kernel_rfl) ?_
      refine a_seq ?_
      refine a_block ?_
      refine a_seq ?_
      refine a_region ?_
      refine a_val (v := (.int .i64 x29)) (u := []) rfl trivial rfl ?_
      obtain ⟨hc38, h⟩ := ifp_some h
      refine a_val (v := (.own 3 [x29.toNat] [x29.toNat * 1])) (u := []) rfl hc38 rfl ?_
      have hl39 : LdOk [x29.toNat] (eA64u8 a1) [x29.toNat * 1] 1 false (.int .u8 (rd a1.1 x29.toNat)) := (.arr (vlt a1 hc38) rfl (.nil rfl rfl rfl))
      refine a_val (v := (.int .u8 (rd a1.1 x29.toNat))) (u := []) (ld_own (i := ⟨.int .u8, 1, 1, (.int .u8 0)⟩) rfl rfl rfl hl39) hl39.c rfl ?_
      refine a_val (v := (.int .i64 (IntKind.i64.wrap (rd a1.1 x29.toNat)))) (u := []) rfl trivial rfl ?_
      refine a_val (v := (.int .i64 a0)) (u := []) rfl trivial rfl ?_
      refine a_val (v := (.bool ((decide ((IntKind.i64.wrap (rd a1.1 x29.toNat)) ≥ a0))))) (u := []) rfl trivial rfl ?_
      refine a_nil ?_
      refine a_next (σ' := ⟨[(0, (.int .i64 a0)), (3, (.own 3 [] [])), (5, (.int .i64 x29)), (15, (.bool ((decide ((IntKind.i64.wrap (rd a1.1 x29.toNat)) ≥ a0)))))], [(3, some ⟨(eA64u8 a1), false⟩)]⟩) (by kernel_rfl) ?_
      cases hb40 : (decide ((IntKind.i64.wrap (rd a1.1 x29.toNat)) ≥ a0))
      · have h := ite_f hb40 h
        refine a_cond_f rfl ?_
        refine a_skip ?_
        refine b_norm ?_
        refine a_next (σ' := ⟨[(0, (.int .i64 a0)), (3, (.own 3 [] [])), (5, (.int .i64 x29))], [(3, some ⟨(eA64u8 a1), false⟩)]⟩) (by kernel_rfl) ?_
        refine a_region ?_
        refine a_val (v := (.int .i64 x29)) (u := []) rfl trivial rfl ?_
        refine a_val (v := (.int .i64 (IntKind.i64.wrap (x29 + 1)))) (u := []) rfl trivial rfl ?_
        refine a_val (v := (.int .i64 (IntKind.i64.wrap (x29 + 1)))) (u := []) rfl trivial rfl ?_
        refine a_nil ?_
        cases h
        exact a_again (by kernel_rfl) hX36
      · have h := ite_t hb40 h
        refine a_cond_t rfl ?_
        refine a_seq ?_
        refine a_region ?_
        refine a_val (v := (.bool false)) (u := []) rfl trivial rfl ?_
        refine a_nil ?_
        refine a_next rfl ?_
        refine a_ret ?_
        refine b_ret ?_
        refine t_ret ?_
        cases h
        have h := hX36
        refine t_ret ?_
        refine b_ret ?_
        refine t_ret ?_
        cases h
        have h := hk22
        refine ⟨.inr rfl, ?_⟩
        rw [Try.results116]
        cases h
        exact ⟨_, _, _, _, _, rfl, trivial, .inl ⟨rfl, .inl rfl⟩, rfl, rfl⟩
def spec_l01Deg_c : ACode := (.seq (.region 0 [⟨some 1, .box 23 (.tmp 0), none, []⟩, ⟨some 2, .asg 0 (.const (.int .i64 0)) 2, none, []⟩] false) (.seq (.region 1 [⟨some 3, .asg 0 (.const (.int .i64 63)) 2, none, []⟩] false) (.seq (.block 0 (.loop (.seq (.seq (.region 2 [⟨some 4, .mov (.tmp 3), none, []⟩, ⟨some 5, .bin .geq 2 (.tmp 4) (.const (.int .i64 0)), none, []⟩, ⟨some 6, .mov (.tmp 5), none, []⟩, ⟨some 7, .mov (.tmp 3), some (6, true), []⟩, ⟨some 8, .indexAddr 23 (.tmp 1) (.tmp 7), some (6, true), []⟩, ⟨some 9, .load 5 (.tmp 8), some (6, true), []⟩, ⟨some 10, .bin .eql 5 (.tmp 9) (.const (.int .u8 0)), some (6, true), []⟩, ⟨some 11, .pick (.tmp 6) (.tmp 10) (.const (.bool false)), none, []⟩] false) (.cond (.tmp 11) .skip (.exit 0))) (.block 1 (.region 3 [⟨some 12, .mov (.tmp 3), none, []⟩, ⟨some 13, .bin .sub 2 (.tmp 12) (.const (.int .i64 1)), none, []⟩, ⟨some 3, .asg 0 (.tmp 13) 2, none, []⟩] false))))) (.seq (.region 4 [⟨some 14, .mov (.tmp 3), none, []⟩, ⟨some 2, .asg 0 (.tmp 14) 2, none, []⟩] false) .ret))))
def spec_l01Deg_L : Live := [(0, [0]), (1, [1]), (2, [1, 3]), (3, [1, 3]), (4, [3]), (100011, [1, 3, 11])]
theorem spec_l01Deg_body : Try.f83.body = some (Try.f83.body.getD .skip) := by kernel_rfl
theorem spec_l01Deg_strip : strip [] (Try.f83.body.getD .skip) = spec_l01Deg_c := by kernel_rfl
noncomputable def spec_l01Deg_l1 (a0 : (Vec Int 64)) (x54 : Int) : Option (Int ⊕ Int) :=
  (Option.bind (α := Bool) ((if (decide (x54 ≥ 0)) then (ifp (0 ≤ x54 ∧ x54 < ((64 : Nat) : Int)) ((some (((rd a0.1 x54.toNat) == 0))))) else (some false))) fun x72 => (if x72 then (some (.inl (IntKind.i64.wrap (x54 - 1)))) else (some (.inr x54))))
noncomputable def spec_l01Deg (a0 : (Vec Int 64)) : Option Int :=
  (Option.bind (α := Int) ((loopM (fun s : Int => spec_l01Deg_l1 a0 s) 63)) fun x39 => (some x39))
set_option maxHeartbeats 16000000 in
theorem spec_l01Deg_ok (a0 : (Vec Int 64)) (r : Int) (h : spec_l01Deg a0 = some r) : Den Try.prog 83 [(eA64u8 a0)] { r := (.int .i64 r) } := by
  refine den_of (rs := [(.int .i64 r)]) (ac := spec_l01Deg_c) (L := spec_l01Deg_L) (n := 15) (m := []) good Try.func83 spec_l01Deg_body (by kernel_rfl) Try.ntmps83 rfl rfl spec_l01Deg_strip rfl rfl ?_
  refine a_st (σ' := ⟨[(0, (eA64u8 a0))], []⟩) (by kernel_rfl) ?_
  unfold spec_l01Deg_c
  refine a_seq ?_
  refine a_region ?_
  refine a_val (v := (.own 1100 [] [])) (u := [(1100, some ⟨(eA64u8 a0), false⟩)]) rfl trivial rfl ?_
  refine a_val (v := (.int .i64 0)) (u := []) rfl trivial rfl ?_
  refine a_nil ?_
  refine a_next (σ' := ⟨[(1, (.own 1 [] []))], [(1, some ⟨(eA64u8 a0), false⟩)]⟩) (by kernel_rfl) ?_
  refine a_seq ?_
  refine a_region ?_
  refine a_val (v := (.int .i64 63)) (u := []) rfl trivial rfl ?_
  refine a_nil ?_
  refine a_next (σ' := ⟨[(1, (.own 1 [] [])), (3, (.int .i64 63))], [(1, some ⟨(eA64u8 a0), false⟩)]⟩) (by kernel_rfl) ?_
  obtain ⟨y40, hy41, hk42⟩ := bind_some h
  clear h
  refine a_join (emb := fun (s : Int) => ⟨[(3, (.int .i64 s))], []⟩) (pre := fun s => s = y40) ?_ ?_
  · rintro x39 rfl
    have h := hk42
    refine a_st (σ' := ⟨[(3, (.int .i64 x39))], []⟩) (by kernel_rfl) ?_
    refine a_seq ?_
    refine a_region ?_
    refine a_val (v := (.int .i64 x39)) (u := []) rfl trivial rfl ?_
    refine a_val (v := (.int .i64 x39)) (u := []) rfl trivial rfl ?_
    refine a_nil ?_
    refine a_next rfl ?_
    refine a_ret ?_
    refine ⟨.inr rfl, ?_⟩
    rw [Try.results83]
    cases h
    exact ⟨_, _, _, _, _, rfl, trivial, .inl ⟨rfl, .inl rfl⟩, rfl, rfl⟩
  · have h := hy41
    refine a_block ?_
    refine a_loop (emb := fun (s : Int) => ⟨[(1, (.own 1 [] [])), (3, (.int .i64 s))], [(1, some ⟨(eA64u8 a0), false⟩)]⟩) (body := (fun s : Int => spec_l01Deg_l1 a0 s)) (G := fun q => some q = some y40) h rfl ?_ (by kernel_rfl)
    rintro X66 x54 x67 h hX68
    have h : spec_l01Deg_l1 a0 x54 = some x67 := h
    refine a_st (σ' := ⟨[(1, (.own 1 [] [])), (3, (.int .i64 x54))], [(1, some ⟨(eA64u8 a0), false⟩)]⟩) (by kernel_rfl) ?_
    refine a_seq ?_
    obtain ⟨y73, hy74, hk75⟩ := bind_some h
    clear h
    refine a_join (emb := fun (s : Bool) => ⟨[(1, (.own 1 [] [])), (3, (.int .i64 x54)), (11, (.bool s))], [(1, some ⟨(eA64u8 a0), false⟩)]⟩) (pre := fun s => s = y73) ?_ ?_
    · rintro x72 rfl
      have h := hk75
      refine a_st (σ' := ⟨[(1, (.own 1 [] [])), (3, (.int .i64 x54)), (11, (.bool x72))], [(1, some ⟨(eA64u8 a0), false⟩)]⟩) (by kernel_rfl) ?_
      cases hb79 : x72
      · have h := ite_f hb79 h
        refine a_cond_f rfl ?_
        refine a_exit ?_
        refine t_exit ?_
        cases h
        have h := hX68
        refine t_exit ?_
        refine b_exit ?_
        exact j_leaf x54 (Option.some.inj h) (by kernel_rfl)
      · have h := ite_t hb79 h
        refine a_cond_t rfl ?_
        refine a_skip ?_
        refine a_next (σ' := ⟨[(1, (.own 1 [] [])), (3, (.int .i64 x54))], [(1, some ⟨(eA64u8 a0), false⟩)]⟩) (by kernel_rfl) ?_
        refine a_block ?_
        refine a_region ?_
        refine a_val (v := (.int .i64 x54)) (u := []) rfl trivial rfl ?_
        refine a_val (v := (.int .i64 (IntKind.i64.wrap (x54 - 1)))) (u := []) rfl trivial rfl ?_
        refine a_val (v := (.int .i64 (IntKind.i64.wrap (x54 - 1)))) (u := []) rfl trivial rfl ?_
        refine a_nil ?_
        refine b_norm ?_
        cases h
        exact a_again (by kernel_rfl) hX68
    · have h := hy74
      refine a_region ?_
      refine a_val (v := (.int .i64 x54)) (u := []) rfl trivial rfl ?_
      refine a_val (v := (.bool ((decide (x54 ≥ 0))))) (u := []) rfl trivial rfl ?_
      refine a_val (v := (.bool ((decide (x54 ≥ 0))))) (u := []) rfl trivial rfl ?_
      cases hb76 : (decide (x54 ≥ 0))
      · have h := ite_f hb76 h
        refine a_gskip rfl ?_
        refine a_gskip rfl ?_
        refine a_gskip rfl ?_
        refine a_gskip rfl ?_
        refine a_val (v := (.bool false)) (u := []) rfl trivial rfl ?_
        refine a_nil ?_
        exact j_leaf false (Option.some.inj h) (by kernel_rfl)
      · have h := ite_t hb76 h
        refine a_gval rfl (v := (.int .i64 x54)) (u := []) rfl trivial rfl ?_
        obtain ⟨hc77, h⟩ := ifp_some h
        refine a_gval rfl (v := (.own 1 [x54.toNat] [x54.toNat * 1])) (u := []) rfl hc77 rfl ?_
        have hl78 : LdOk [x54.toNat] (eA64u8 a0) [x54.toNat * 1] 1 false (.int .u8 (rd a0.1 x54.toNat)) := (.arr (vlt a0 hc77) rfl (.nil rfl rfl rfl))
        refine a_gval rfl (v := (.int .u8 (rd a0.1 x54.toNat))) (u := []) (ld_own (i := ⟨.int .u8, 1, 1, (.int .u8 0)⟩) rfl rfl rfl hl78) hl78.c rfl ?_
        refine a_gval rfl (v := (.bool (((rd a0.1 x54.toNat) == 0)))) (u := []) rfl trivial rfl ?_
        refine a_val (v := (.bool (((rd a0.1 x54.toNat) == 0)))) (u := []) rfl trivial rfl ?_
        refine a_nil ?_
        exact j_leaf (((rd a0.1 x54.toNat) == 0)) (Option.some.inj h) (by kernel_rfl)
def spec_l01Code_c : ACode := (.seq (.region 0 [⟨some 4, .asg 0 (.const (.int .i64 0)) 2, none, []⟩] false) (.seq (.seq (.region 1 [⟨some 6, .mov (.tmp 0), none, []⟩, ⟨some 7, .call 0 (.func 109) [(.tmp 6)], none, []⟩, ⟨some 8, .un .not (.tmp 7), none, []⟩] false) (.cond (.tmp 8) (.seq (.region 2 [⟨some 4, .asg 0 (.const (.int .i64 1)) 2, none, []⟩] false) .ret) .skip)) (.seq (.seq (.region 3 [⟨some 5, .asg 0 (.const (.int .i64 0)) 3, none, []⟩] false) (.block 0 (.loop (.seq (.seq (.region 4 [⟨some 9, .mov (.tmp 5), none, []⟩, ⟨some 10, .mov (.tmp 1), none, []⟩, ⟨some 11, .blt 0 .len [(.tmp 10)] [30], none, []⟩, ⟨some 12, .bin .lss 3 (.tmp 9) (.tmp 11), none, []⟩] false) (.cond (.tmp 12) .skip (.exit 0))) (.seq (.block 1 (.seq (.region 6 [⟨some 15, .mov (.tmp 0), none, []⟩, ⟨some 16, .mov (.tmp 1), none, []⟩, ⟨some 17, .mov (.tmp 5), none, []⟩, ⟨some 18, .indexAddr 30 (.tmp 16) (.tmp 17), none, []⟩, ⟨some 19, .load 23 (.tmp 18), none, []⟩, ⟨some 20, .call 0 (.func 116) [(.tmp 15), (.tmp 19)], none, []⟩, ⟨some 21, .un .not (.tmp 20), none, []⟩] false) (.cond (.tmp 21) (.seq (.region 7 [⟨some 4, .asg 0 (.const (.int .i64 1)) 2, none, []⟩] false) .ret) .skip))) (.region 5 [⟨some 13, .mov (.tmp 5), none, []⟩, ⟨some 14, .bin .add 3 (.tmp 13) (.const (.int .i64 1)), none, []⟩, ⟨some 5, .asg 0 (.tmp 14) 3, none, []⟩] false)))))) (.seq (.region 8 [⟨some 4, .asg 0 (.const (.int .i64 0)) 2, none, []⟩] false) .ret))))
def spec_l01Code_L : Live := [(0, [0, 1]), (1, [0, 1]), (2, []), (3, [0, 1]), (4, [0, 1, 5]), (5, [0, 1, 5]), (6, [0, 1, 5]), (7, []), (8, []), (100008, [0, 1, 8]), (100012, [0, 1, 5, 12]), (100021, [0, 1, 5, 21])]
theorem spec_l01Code_body : Try.f78.body = some (Try.f78.body.getD .skip) := by kernel_rfl
theorem spec_l01Code_strip : strip [] (Try.f78.body.getD .skip) = spec_l01Code_c := by kernel_rfl
noncomputable def spec_l01Code_l1 (a1 : (List (Vec Int 64))) (a0 : Int) (x36 : Int) : Option (Int ⊕ (Unit ⊕ Int)) :=
  (if (decide (x36 < (a1.length : Int))) then (ifp (0 ≤ x36 ∧ x36 < ((a1.length : Nat) : Int)) ((Option.bind (spec_l01Is a0 (rd a1 x36.toNat)) fun r49 => (if (!r49) then (some (.inr (.inr 1))) else (some (.inl (IntKind.i64.wrap (x36 + 1)))))))) else (some (.inr (((.inl ()))))))
noncomputable def spec_l01Code (a0 : Int) (a1 : (List (Vec Int 64))) : Option Int :=
  (Option.bind (spec_l01Prime a0) fun r1 => (if (!r1) then (some 1) else (Option.bind (α := (Unit ⊕ Int)) ((loopM (fun s : Int => spec_l01Code_l1 a1 a0 s) 0)) fun z => match z with | .inl _ => (some 0) | .inr r53 => (some r53))))
set_option maxHeartbeats 16000000 in
theorem spec_l01Code_ok (a0 : Int) (a1 : (List (Vec Int 64))) (r : Int) (h : spec_l01Code a0 a1 = some r) : Den Try.prog 78 [(.int .i64 a0), (eSA64u8 a1)] { r := (.int .i64 r) } := by
  refine den_of (rs := [(.int .i64 r)]) (ac := spec_l01Code_c) (L := spec_l01Code_L) (n := 22) (m := []) good Try.func78 spec_l01Code_body (by kernel_rfl) Try.ntmps78 rfl rfl spec_l01Code_strip rfl rfl ?_
  refine a_st (σ' := ⟨[(0, (.int .i64 a0)), (1, (eSA64u8 a1))], []⟩) (by kernel_rfl) ?_
  unfold spec_l01Code_c
  refine a_seq ?_
  refine a_region ?_
  refine a_val (v := (.int .i64 0)) (u := []) rfl trivial rfl ?_
  refine a_nil ?_
  refine a_next (σ' := ⟨[(0, (.int .i64 a0)), (1, (eSA64u8 a1))], []⟩) (by kernel_rfl) ?_
  refine a_seq ?_
  refine a_seq ?_
  refine a_region ?_
  refine a_val (v := (.int .i64 a0)) (u := []) rfl trivial rfl ?_
  obtain ⟨r1, hr2, h⟩ := bind_some h
  refine a_call (args := [(.int .i64 a0)]) (u := []) (r := (.bool r1)) rfl rfl (spec_l01Prime_ok a0 r1 hr2) rfl ?_
  refine a_val (v := (.bool (!r1))) (u := []) rfl trivial rfl ?_
  refine a_nil ?_
  refine a_next (σ' := ⟨[(0, (.int .i64 a0)), (1, (eSA64u8 a1)), (8, (.bool (!r1)))], []⟩) (by kernel_rfl) ?_
  cases hb3 : (!r1)
  · have h := ite_f hb3 h
    refine a_cond_f rfl ?_
    refine a_skip ?_
    refine a_next (σ' := ⟨[(0, (.int .i64 a0)), (1, (eSA64u8 a1))], []⟩) (by kernel_rfl) ?_
    obtain ⟨y27, hy28, hk29⟩ := bind_some h
    clear h
    refine a_join (emb := fun (s : Unit) => ⟨[], []⟩) (pre := fun s => (.inl s) = y27) ?_ ?_
    · rintro _ rfl
      have h := hk29
      refine a_st (σ' := ⟨[], []⟩) (by kernel_rfl) ?_
      refine a_seq ?_
      refine a_region ?_
      refine a_val (v := (.int .i64 0)) (u := []) rfl trivial rfl ?_
      refine a_nil ?_
      refine a_next rfl ?_
      refine a_ret ?_
      refine ⟨.inr rfl, ?_⟩
      rw [Try.results78]
      cases h
      exact ⟨_, _, _, _, _, rfl, trivial, .inl ⟨rfl, .inl rfl⟩, rfl, rfl⟩
    · have h := hy28
      refine a_seq ?_
      refine a_region ?_
      refine a_val (v := (.int .i64 0)) (u := []) rfl trivial rfl ?_
      refine a_nil ?_
      refine a_next (σ' := ⟨[(0, (.int .i64 a0)), (1, (eSA64u8 a1)), (5, (.int .i64 0))], []⟩) (by kernel_rfl) ?_
      refine a_block ?_
      refine a_loop (emb := fun (s : Int) => ⟨[(0, (.int .i64 a0)), (1, (eSA64u8 a1)), (5, (.int .i64 s))], []⟩) (body := (fun s : Int => spec_l01Code_l1 a1 a0 s)) (G := fun q => some q = some y27) h rfl ?_ (by kernel_rfl)
      rintro X43 x36 x44 h hX45
      have h : spec_l01Code_l1 a1 a0 x36 = some x44 := h
      refine a_st (σ' := ⟨[(0, (.int .i64 a0)), (1, (eSA64u8 a1)), (5, (.int .i64 x36))], []⟩) (by kernel_rfl) ?_
      refine a_seq ?_
      refine a_seq ?_
      refine a_region ?_
      refine a_val (v := (.int .i64 x36)) (u := []) rfl trivial rfl ?_
      refine a_val (v := (eSA64u8 a1)) (u := []) rfl trivial rfl ?_
      refine a_val (v := (.int .i64 (a1.length : Int))) (u := []) (len_run rfl rfl) trivial rfl ?_
      refine a_val (v := (.bool ((decide (x36 < (a1.length : Int)))))) (u := []) rfl trivial rfl ?_
      refine a_nil ?_
      refine a_next (σ' := ⟨[(0, (.int .i64 a0)), (1, (eSA64u8 a1)), (5, (.int .i64 x36)), (12, (.bool ((decide (x36 < (a1.length : Int))))))], []⟩) (by kernel_rfl) ?_
      cases hb46 : (decide (x36 < (a1.length : Int)))
      · have h := ite_f hb46 h
        refine a_cond_f rfl ?_
        refine a_exit ?_
        refine t_exit ?_
        cases h
        have h := hX45
        refine t_exit ?_
        refine b_exit ?_
        exact j_leaf () (Option.some.inj h) (by kernel_rfl)
      · have h := ite_t hb46 h
        refine a_cond_t rfl ?_
        refine a_skip ?_
        refine a_next (σ' := ⟨[(0, (.int .i64 a0)), (1, (eSA64u8 a1)), (5, (.int .i64 x36))], []⟩) (by kernel_rfl) ?_
        refine a_seq ?_
        refine a_block ?_
        refine a_seq ?_
        refine a_region ?_
        refine a_val (v := (.int .i64 a0)) (u := []) rfl trivial rfl ?_
        refine a_val (v := (eSA64u8 a1)) (u := []) rfl trivial rfl ?_
        refine a_val (v := (.int .i64 x36)) (u := []) rfl trivial rfl ?_
        obtain ⟨hc47, h⟩ := ifp_some h
        refine a_val (v := (.ref (.row 64 (a1.map eA64u8)) [x36.toNat] [x36.toNat * 64])) (u := []) rfl (lmap hc47) rfl ?_
        have hl48 : LdOk [x36.toNat] (.row 64 (a1.map eA64u8)) [x36.toNat * 64] 64 true (eA64u8 (rd a1 x36.toNat)) := (.row (llt hc47) rfl (.nil rfl rfl rfl))
        refine a_val (v := (eA64u8 (rd a1 x36.toNat))) (u := []) (ld_ref (i := ⟨.arr 64 5, 64, 64, (eA64u8 (vrep 64 (0 : Int)))⟩) rfl rfl hl48) hl48.c rfl ?_
        obtain ⟨r49, hr50, h⟩ := bind_some h
        refine a_call (args := [(.int .i64 a0), (eA64u8 (rd a1 x36.toNat))]) (u := []) (r := (.bool r49)) rfl rfl (spec_l01Is_ok a0 (rd a1 x36.toNat) r49 hr50) rfl ?_
        refine a_val (v := (.bool (!r49))) (u := []) rfl trivial rfl ?_
        refine a_nil ?_
        refine a_next (σ' := ⟨[(0, (.int .i64 a0)), (1, (eSA64u8 a1)), (5, (.int .i64 x36)), (21, (.bool (!r49)))], []⟩) (by kernel_rfl) ?_
        cases hb51 : (!r49)
        · have h := ite_f hb51 h
          refine a_cond_f rfl ?_
          refine a_skip ?_
          refine b_norm ?_
          refine a_next (σ' := ⟨[(0, (.int .i64 a0)), (1, (eSA64u8 a1)), (5, (.int .i64 x36))], []⟩) (by kernel_rfl) ?_
          refine a_region ?_
          refine a_val (v := (.int .i64 x36)) (u := []) rfl trivial rfl ?_
          refine a_val (v := (.int .i64 (IntKind.i64.wrap (x36 + 1)))) (u := []) rfl trivial rfl ?_
          refine a_val (v := (.int .i64 (IntKind.i64.wrap (x36 + 1)))) (u := []) rfl trivial rfl ?_
          refine a_nil ?_
          cases h
          exact a_again (by kernel_rfl) hX45
        · have h := ite_t hb51 h
          refine a_cond_t rfl ?_
          refine a_seq ?_
          refine a_region ?_
          refine a_val (v := (.int .i64 1)) (u := []) rfl trivial rfl ?_
          refine a_nil ?_
          refine a_next rfl ?_
          refine a_ret ?_
          refine b_ret ?_
          refine t_ret ?_
          cases h
          have h := hX45
          refine t_ret ?_
          refine b_ret ?_
          refine t_ret ?_
          cases h
          have h := hk29
          refine ⟨.inr rfl, ?_⟩
          rw [Try.results78]
          cases h
          exact ⟨_, _, _, _, _, rfl, trivial, .inl ⟨rfl, .inl rfl⟩, rfl, rfl⟩
  · have h := ite_t hb3 h
    refine a_cond_t rfl ?_
    refine a_seq ?_
    refine a_region ?_
    refine a_val (v := (.int .i64 1)) (u := []) rfl trivial rfl ?_
    refine a_nil ?_
    refine a_next rfl ?_
    refine a_ret ?_
    refine t_ret ?_
    refine ⟨.inr rfl, ?_⟩
    rw [Try.results78]
    cases h
    exact ⟨_, _, _, _, _, rfl, trivial, .inl ⟨rfl, .inl rfl⟩, rfl, rfl⟩
def spec_DerivativeOf_c : ACode := (.seq (.region 0 [⟨some 3, .box 23 (.tmp 1), none, []⟩, ⟨some 4, .alloc 23, none, []⟩, ⟨some 5, .asg 0 (.const (.int .i64 0)) 2, none, []⟩] false) (.seq (.seq (.region 1 [⟨some 9, .mov (.tmp 0), none, []⟩, ⟨some 10, .load 23 (.tmp 3), none, []⟩, ⟨some 11, .bslice 0 30 1 [(0, (.tmp 10))], none, []⟩, ⟨some 12, .call 0 (.func 78) [(.tmp 9), (.tmp 11)], none, []⟩, ⟨some 6, .asg 0 (.tmp 12) 2, none, []⟩] false) (.seq (.region 2 [⟨some 13, .mov (.tmp 6), none, []⟩, ⟨some 14, .bin .neq 2 (.tmp 13) (.const (.int .i64 0)), none, []⟩] false) (.cond (.tmp 14) (.seq (.region 3 [⟨some 15, .build 23 [], none, []⟩, ⟨some 16, .mov (.tmp 6), none, []⟩, ⟨none, .store 23 (.tmp 4) (.tmp 15), none, []⟩, ⟨some 5, .asg 0 (.tmp 16) 2, none, []⟩] false) .ret) .skip))) (.seq (.region 4 [⟨some 17, .build 23 [], none, []⟩, ⟨some 7, .alloc 23, none, []⟩, ⟨none, .store 23 (.tmp 7) (.tmp 17), none, []⟩] false) (.seq (.seq (.region 5 [⟨some 8, .asg 0 (.const (.int .i64 1)) 2, none, []⟩] false) (.block 0 (.loop (.seq (.seq (.region 6 [⟨some 18, .mov (.tmp 8), none, []⟩, ⟨some 19, .bin .lss 2 (.tmp 18) (.const (.int .i64 64)), none, []⟩] false) (.cond (.tmp 19) .skip (.exit 0))) (.seq (.block 1 (.region 8 [⟨some 22, .mov (.tmp 8), none, []⟩, ⟨some 23, .bin .sub 2 (.tmp 22) (.const (.int .i64 1)), none, [0]⟩, ⟨some 24, .mov (.tmp 8), none, []⟩, ⟨some 25, .mov (.tmp 0), none, []⟩, ⟨some 26, .bin .rem 2 (.tmp 24) (.tmp 25), none, [2, 3]⟩, ⟨some 27, .mov (.tmp 8), none, []⟩, ⟨some 28, .indexAddr 23 (.tmp 3) (.tmp 27), none, [5]⟩, ⟨some 29, .load 5 (.tmp 28), none, [6]⟩, ⟨some 30, .conv 5 2 (.tmp 29), none, [7]⟩, ⟨some 31, .bin .mul 2 (.tmp 26) (.tmp 30), none, [4, 8]⟩, ⟨some 32, .mov (.tmp 0), none, []⟩, ⟨some 33, .bin .rem 2 (.tmp 31) (.tmp 32), none, [9, 10]⟩, ⟨some 34, .conv 2 5 (.tmp 33), none, [11]⟩, ⟨some 35, .indexAddr 23 (.tmp 7) (.tmp 23), none, [1, 0, 1, 2, 3, 4, 5, 6, 7, 8, 9, 10, 11, 12]⟩, ⟨none, .store 5 (.tmp 35) (.tmp 34), none, [13, 12, 0, 1, 2, 3, 4, 5, 6, 7, 8, 9, 10, 11, 12]⟩] true)) (.region 7 [⟨some 20, .mov (.tmp 8), none, []⟩, ⟨some 21, .bin .add 2 (.tmp 20) (.const (.int .i64 1)), none, []⟩, ⟨some 8, .asg 0 (.tmp 21) 2, none, []⟩] false)))))) (.seq (.region 9 [⟨some 36, .load 23 (.tmp 7), none, []⟩, ⟨none, .store 23 (.tmp 4) (.tmp 36), none, []⟩, ⟨some 5, .asg 0 (.const (.int .i64 0)) 2, none, []⟩] false) .ret)))))
def spec_DerivativeOf_L : Live := [(0, [0, 1]), (1, [0, 3, 4]), (2, [0, 3, 4, 6]), (3, [4, 6]), (4, [0, 3, 4]), (5, [0, 3, 4, 7]), (6, [0, 3, 4, 7, 8]), (7, [0, 3, 4, 7, 8]), (8, [0, 3, 4, 7, 8]), (9, [4, 7]), (100014, [0, 3, 4, 6, 14]), (100019, [0, 3, 4, 7, 8, 19])]
theorem spec_DerivativeOf_body : Try.f125.body = some (Try.f125.body.getD .skip) := by kernel_rfl
theorem spec_DerivativeOf_strip : strip [] (Try.f125.body.getD .skip) = spec_DerivativeOf_c := by kernel_rfl
noncomputable def spec_DerivativeOf_l1 (a0 : Int) (a1 : (Vec Int 64)) (x84 : Int) (x85 : (Vec Int 64)) : Option ((Int × (Vec Int 64)) ⊕ (Vec Int 64)) :=
  (if (decide (x84 < 64)) then (ifp (a0 ≠ 0) ((ifp (0 ≤ x84 ∧ x84 < ((64 : Nat) : Int)) ((letp (IntKind.i64.wrap ((Int.tmod x84 a0) * (IntKind.i64.wrap (rd a1.1 x84.toNat)))) fun x118 => (ifp (a0 ≠ 0) ((ifp (0 ≤ IntKind.i64.wrap (x84 - 1) ∧ IntKind.i64.wrap (x84 - 1) < ((64 : Nat) : Int)) ((some (.inl ((IntKind.i64.wrap (x84 + 1), (vset x85 (IntKind.i64.wrap (x84 - 1)).toNat (IntKind.u8.wrap (Int.tmod x118 a0)))))))))))))))) else (some (.inr x85)))
noncomputable def spec_DerivativeOf (a0 : Int) (a1 : (Vec Int 64)) : Option ((Vec Int 64) × Int) :=
  (Option.bind (spec_l01Code a0 ([a1])) fun r2 => (if (r2 != 0) then (some (((vrep 64 (0 : Int)), r2))) else (Option.bind (α := (Vec Int 64)) ((loopM (fun s : (Int × (Vec Int 64)) => spec_DerivativeOf_l1 a0 a1 s.1 s.2) (1, (vrep 64 (0 : Int))))) fun x63 => (some (x63, 0)))))
set_option maxHeartbeats 16000000 in
theorem spec_DerivativeOf_ok (a0 : Int) (a1 : (Vec Int 64)) (r : ((Vec Int 64) × Int)) (h : spec_DerivativeOf a0 a1 = some r) : Den Try.prog 125 [(.int .i64 a0), (eA64u8 a1)] { r := (.tuple [(eA64u8 r.1), (.int .i64 r.2)]) } := by
  refine den_of (rs := [(eA64u8 r.1), (.int .i64 r.2)]) (ac := spec_DerivativeOf_c) (L := spec_DerivativeOf_L) (n := 37) (m := []) good Try.func125 spec_DerivativeOf_body (by kernel_rfl) Try.ntmps125 rfl rfl spec_DerivativeOf_strip rfl rfl ?_
  refine a_st (σ' := ⟨[(0, (.int .i64 a0)), (1, (eA64u8 a1))], []⟩) (by kernel_rfl) ?_
  unfold spec_DerivativeOf_c
  refine a_seq ?_
  refine a_region ?_
  refine a_val (v := (.own 1300 [] [])) (u := [(1300, some ⟨(eA64u8 a1), false⟩)]) rfl trivial rfl ?_
  refine a_val (v := (.own 1400 [] [])) (u := [(1400, some ⟨(eA64u8 ((vrep 64 (0 : Int)))), false⟩)]) rfl trivial rfl ?_
  refine a_val (v := (.int .i64 0)) (u := []) rfl trivial rfl ?_
  refine a_nil ?_
  refine a_next (σ' := ⟨[(0, (.int .i64 a0)), (3, (.own 3 [] [])), (4, (.own 4 [] []))], [(3, some ⟨(eA64u8 a1), false⟩), (4, some ⟨(eA64u8 ((vrep 64 (0 : Int)))), false⟩)]⟩) (by kernel_rfl) ?_
  refine a_seq ?_
  refine a_seq ?_
  refine a_region ?_
  refine a_val (v := (.int .i64 a0)) (u := []) rfl trivial rfl ?_
  have hl1 : LdOk [] (eA64u8 a1) [] 64 true (eA64u8 a1) := (.nil rfl rfl rfl)
  refine a_val (v := (eA64u8 a1)) (u := []) (ld_own (i := ⟨.arr 64 5, 64, 64, (eA64u8 (vrep 64 (0 : Int)))⟩) rfl rfl rfl hl1) hl1.c rfl ?_
  refine a_val (v := (.sl 64 true (([a1]).map eA64u8))) (u := []) rfl ⟨(Nat.le_of_ble_eq_true rfl), (Nat.le_of_ble_eq_true rfl), (all_cons ⟨(Nat.le_of_ble_eq_true rfl), rfl⟩ all_nil)⟩ rfl ?_
  obtain ⟨r2, hr3, h⟩ := bind_some h
  refine a_call (args := [(.int .i64 a0), (.sl 64 true (([a1]).map eA64u8))]) (u := []) (r := (.int .i64 r2)) rfl rfl (Den.args (spec_l01Code_ok a0 ([a1]) r2 hr3) rfl rfl (.cons (.refl _) (.cons (.loose _) .nil))) rfl ?_
  refine a_val (v := (.int .i64 r2)) (u := []) rfl trivial rfl ?_
  refine a_nil ?_
  refine a_next (σ' := ⟨[(0, (.int .i64 a0)), (3, (.own 3 [] [])), (4, (.own 4 [] [])), (6, (.int .i64 r2))], [(3, some ⟨(eA64u8 a1), false⟩), (4, some ⟨(eA64u8 ((vrep 64 (0 : Int)))), false⟩)]⟩) (by kernel_rfl) ?_
  refine a_seq ?_
  refine a_region ?_
  refine a_val (v := (.int .i64 r2)) (u := []) rfl trivial rfl ?_
  refine a_val (v := (.bool (r2 != 0))) (u := []) rfl trivial rfl ?_
  refine a_nil ?_
  refine a_next (σ' := ⟨[(0, (.int .i64 a0)), (3, (.own 3 [] [])), (4, (.own 4 [] [])), (6, (.int .i64 r2)), (14, (.bool (r2 != 0)))], [(3, some ⟨(eA64u8 a1), false⟩), (4, some ⟨(eA64u8 ((vrep 64 (0 : Int)))), false⟩)]⟩) (by kernel_rfl) ?_
  cases hb4 : (r2 != 0)
  · have h := ite_f hb4 h
    refine a_cond_f rfl ?_
    refine a_skip ?_
    refine a_next (σ' := ⟨[(0, (.int .i64 a0)), (3, (.own 3 [] [])), (4, (.own 4 [] []))], [(3, some ⟨(eA64u8 a1), false⟩), (4, some ⟨(eA64u8 ((vrep 64 (0 : Int)))), false⟩)]⟩) (by kernel_rfl) ?_
    refine a_seq ?_
    refine a_region ?_
    refine a_val (v := (eA64u8 ((vrep 64 (0 : Int))))) (u := []) rfl ⟨⟨_, rfl, rfl⟩, all_nil⟩ rfl ?_
    refine a_val (v := (.own 1700 [] [])) (u := [(1700, some ⟨(eA64u8 ((vrep 64 (0 : Int)))), false⟩)]) rfl trivial rfl ?_
    have hs5 : StOk [] (eA64u8 ((vrep 64 (0 : Int)))) [] 64 (eA64u8 ((vrep 64 (0 : Int)))) (eA64u8 ((vrep 64 (0 : Int)))) := (.nil rfl rfl rfl rfl)
    refine a_val (v := .top) (u := [(1700, some ⟨(eA64u8 ((vrep 64 (0 : Int)))), false⟩)]) (st_own (i := ⟨.arr 64 5, 64, 64, (eA64u8 (vrep 64 (0 : Int)))⟩) rfl rfl (fun _ => rfl) rfl hs5) (hs5.c rfl) rfl ?_
    refine a_nil ?_
    refine a_next (σ' := ⟨[(0, (.int .i64 a0)), (3, (.own 3 [] [])), (4, (.own 4 [] [])), (7, (.own 7 [] []))], [(3, some ⟨(eA64u8 a1), false⟩), (4, some ⟨(eA64u8 ((vrep 64 (0 : Int)))), false⟩), (7, some ⟨(eA64u8 ((vrep 64 (0 : Int)))), false⟩)]⟩) (by kernel_rfl) ?_
    obtain ⟨y64, hy65, hk66⟩ := bind_some h
    clear h
    refine a_join (emb := fun (s : (Vec Int 64)) => ⟨[(4, (.own 4 [] [])), (7, (.own 7 [] []))], [(4, some ⟨(eA64u8 ((vrep 64 (0 : Int)))), false⟩), (7, some ⟨(eA64u8 s), false⟩)]⟩) (pre := fun s => s = y64) ?_ ?_
    · rintro x63 rfl
      have h := hk66
      refine a_st (σ' := ⟨[(4, (.own 4 [] [])), (7, (.own 7 [] []))], [(4, some ⟨(eA64u8 ((vrep 64 (0 : Int)))), false⟩), (7, some ⟨(eA64u8 x63), false⟩)]⟩) (by kernel_rfl) ?_
      refine a_seq ?_
      refine a_region ?_
      have hl124 : LdOk [] (eA64u8 x63) [] 64 true (eA64u8 x63) := (.nil rfl rfl rfl)
      refine a_val (v := (eA64u8 x63)) (u := []) (ld_own (i := ⟨.arr 64 5, 64, 64, (eA64u8 (vrep 64 (0 : Int)))⟩) rfl rfl rfl hl124) hl124.c rfl ?_
      have hs125 : StOk [] (eA64u8 ((vrep 64 (0 : Int)))) [] 64 (eA64u8 x63) (eA64u8 x63) := (.nil rfl rfl rfl rfl)
      refine a_val (v := .top) (u := [(4, some ⟨(eA64u8 x63), false⟩)]) (st_own (i := ⟨.arr 64 5, 64, 64, (eA64u8 (vrep 64 (0 : Int)))⟩) rfl rfl (fun _ => rfl) rfl hs125) (hs125.c rfl) rfl ?_
      refine a_val (v := (.int .i64 0)) (u := []) rfl trivial rfl ?_
      refine a_nil ?_
      refine a_next rfl ?_
      refine a_ret ?_
      have hl126 : LdOk [] (eA64u8 x63) [] 64 true (eA64u8 x63) := (.nil rfl rfl rfl)
      refine ⟨.inr rfl, ?_⟩
      rw [Try.results125]
      cases h
      exact ⟨_, _, _, _, _, ld_own (i := ⟨.arr 64 5, 64, 64, (eA64u8 (vrep 64 (0 : Int)))⟩) rfl rfl rfl hl126, hl126.c, .inl ⟨rfl, .inl rfl⟩, rfl, ⟨_, _, _, _, _, rfl, trivial, .inl ⟨rfl, .inl rfl⟩, rfl, rfl⟩⟩
    · have h := hy65
      refine a_seq ?_
      refine a_region ?_
      refine a_val (v := (.int .i64 1)) (u := []) rfl trivial rfl ?_
      refine a_nil ?_
      refine a_next (σ' := ⟨[(0, (.int .i64 a0)), (3, (.own 3 [] [])), (4, (.own 4 [] [])), (7, (.own 7 [] [])), (8, (.int .i64 1))], [(3, some ⟨(eA64u8 a1), false⟩), (4, some ⟨(eA64u8 ((vrep 64 (0 : Int)))), false⟩), (7, some ⟨(eA64u8 ((vrep 64 (0 : Int)))), false⟩)]⟩) (by kernel_rfl) ?_
      refine a_block ?_
      refine a_loop (emb := fun (s : (Int × (Vec Int 64))) => ⟨[(0, (.int .i64 a0)), (3, (.own 3 [] [])), (4, (.own 4 [] [])), (7, (.own 7 [] [])), (8, (.int .i64 s.1))], [(3, some ⟨(eA64u8 a1), false⟩), (4, some ⟨(eA64u8 ((vrep 64 (0 : Int)))), false⟩), (7, some ⟨(eA64u8 s.2), false⟩)]⟩) (body := (fun s : (Int × (Vec Int 64)) => spec_DerivativeOf_l1 a0 a1 s.1 s.2)) (G := fun q => some q = some y64) h rfl ?_ (by kernel_rfl)
      rintro X103 ⟨x84, x85⟩ x104 h hX105
      have h : spec_DerivativeOf_l1 a0 a1 x84 x85 = some x104 := h
      refine a_st (σ' := ⟨[(0, (.int .i64 a0)), (3, (.own 3 [] [])), (4, (.own 4 [] [])), (7, (.own 7 [] [])), (8, (.int .i64 x84))], [(3, some ⟨(eA64u8 a1), false⟩), (4, some ⟨(eA64u8 ((vrep 64 (0 : Int)))), false⟩), (7, some ⟨(eA64u8 x85), false⟩)]⟩) (by kernel_rfl) ?_
      refine a_seq ?_
      refine a_seq ?_
      refine a_region ?_
      refine a_val (v := (.int .i64 x84)) (u := []) rfl trivial rfl ?_
      refine a_val (v := (.bool ((decide (x84 < 64))))) (u := []) rfl trivial rfl ?_
      refine a_nil ?_
      refine a_next (σ' := ⟨[(0, (.int .i64 a0)), (3, (.own 3 [] [])), (4, (.own 4 [] [])), (7, (.own 7 [] [])), (8, (.int .i64 x84)), (19, (.bool ((decide (x84 < 64)))))], [(3, some ⟨(eA64u8 a1), false⟩), (4, some ⟨(eA64u8 ((vrep 64 (0 : Int)))), false⟩), (7, some ⟨(eA64u8 x85), false⟩)]⟩) (by kernel_rfl) ?_
      cases hb106 : (decide (x84 < 64))
      · have h := ite_f hb106 h
        refine a_cond_f rfl ?_
        refine a_exit ?_
        refine t_exit ?_
        cases h
        have h := hX105
        refine t_exit ?_
        refine b_exit ?_
        exact j_leaf x85 (Option.some.inj h) (by kernel_rfl)
      · have h := ite_t hb106 h
        refine a_cond_t rfl ?_
        refine a_skip ?_
        refine a_next (σ' := ⟨[(0, (.int .i64 a0)), (3, (.own 3 [] [])), (4, (.own 4 [] [])), (7, (.own 7 [] [])), (8, (.int .i64 x84))], [(3, some ⟨(eA64u8 a1), false⟩), (4, some ⟨(eA64u8 ((vrep 64 (0 : Int)))), false⟩), (7, some ⟨(eA64u8 x85), false⟩)]⟩) (by kernel_rfl) ?_
        refine a_seq ?_
        refine a_block ?_
        refine a_draw [⟨[], [], [], []⟩, ⟨[], [], [], [0]⟩, ⟨[], [], [], []⟩, ⟨[], [], [], []⟩, ⟨[], [], [], [2, 3]⟩, ⟨[], [], [], []⟩, ⟨[3], [], [3], [5]⟩, ⟨[3], [], [], [5, 6]⟩, ⟨[], [], [], [5, 6, 7]⟩, ⟨[], [], [], [2, 3, 4, 5, 6, 7, 8]⟩, ⟨[], [], [], []⟩, ⟨[], [], [], [2, 3, 4, 5, 6, 7, 8, 9, 10]⟩, ⟨[], [], [], [2, 3, 4, 5, 6, 7, 8, 9, 10, 11]⟩, ⟨[7], [], [7], [0, 1, 2, 3, 4, 5, 6, 7, 8, 9, 10, 11, 12]⟩, ⟨[7], [7], [], [0, 1, 2, 3, 4, 5, 6, 7, 8, 9, 10, 11, 12, 13]⟩] (by kernel_rfl) ?_
        refine d_cons ?_
        refine a_val (v := (.int .i64 x84)) (u := []) rfl trivial rfl ?_
        refine d_next (by kernel_rfl) ?_
        refine d_cons ?_
        refine a_val (v := (.int .i64 (IntKind.i64.wrap (x84 - 1)))) (u := []) rfl trivial rfl ?_
        refine d_next (by kernel_rfl) ?_
        refine d_cons ?_
        refine a_val (v := (.int .i64 x84)) (u := []) rfl trivial rfl ?_
        refine d_next (by kernel_rfl) ?_
        refine d_cons ?_
        refine a_val (v := (.int .i64 a0)) (u := []) rfl trivial rfl ?_
        refine d_next (by kernel_rfl) ?_
        refine d_cons ?_
        obtain ⟨hc115, h⟩ := ifp_some h
        refine a_val (v := (.int .i64 (Int.tmod x84 a0))) (u := []) rfl hc115 rfl ?_
        refine d_next (by kernel_rfl) ?_
        refine d_cons ?_
        refine a_val (v := (.int .i64 x84)) (u := []) rfl trivial rfl ?_
        refine d_next (by kernel_rfl) ?_
        refine d_cons ?_
        obtain ⟨hc116, h⟩ := ifp_some h
        refine a_val (v := (.own 3 [x84.toNat] [x84.toNat * 1])) (u := []) rfl hc116 rfl ?_
        refine d_next (by kernel_rfl) ?_
        refine d_cons ?_
        have hl117 : LdOk [x84.toNat] (eA64u8 a1) [x84.toNat * 1] 1 false (.int .u8 (rd a1.1 x84.toNat)) := (.arr (vlt a1 hc116) rfl (.nil rfl rfl rfl))
        refine a_val (v := (.int .u8 (rd a1.1 x84.toNat))) (u := []) (ld_own (i := ⟨.int .u8, 1, 1, (.int .u8 0)⟩) rfl rfl rfl hl117) hl117.c rfl ?_
        refine d_next (by kernel_rfl) ?_
        refine d_cons ?_
        refine a_val (v := (.int .i64 (IntKind.i64.wrap (rd a1.1 x84.toNat)))) (u := []) rfl trivial rfl ?_
        refine d_next (by kernel_rfl) ?_
        refine d_cons ?_
        obtain ⟨x118, hx119, h⟩ := letp_some h
        refine a_val' (v := (.int .i64 (IntKind.i64.wrap ((Int.tmod x84 a0) * (IntKind.i64.wrap (rd a1.1 x84.toNat)))))) (v' := (.int .i64 x118)) (u := []) (u' := []) rfl (congrArg (fun z => ((.int .i64 z) : AV)) hx119) rfl trivial rfl ?_
        refine d_next (by kernel_rfl) ?_
        refine d_cons ?_
        refine a_val (v := (.int .i64 a0)) (u := []) rfl trivial rfl ?_
        refine d_next (by kernel_rfl) ?_
        refine d_cons ?_
        obtain ⟨hc120, h⟩ := ifp_some h
        refine a_val (v := (.int .i64 (Int.tmod x118 a0))) (u := []) rfl hc120 rfl ?_
        refine d_next (by kernel_rfl) ?_
        refine d_cons ?_
        refine a_val (v := (.int .u8 (IntKind.u8.wrap (Int.tmod x118 a0)))) (u := []) rfl trivial rfl ?_
        refine d_next (by kernel_rfl) ?_
        refine d_cons ?_
        obtain ⟨hc121, h⟩ := ifp_some h
        refine a_val (v := (.own 7 [(IntKind.i64.wrap (x84 - 1)).toNat] [(IntKind.i64.wrap (x84 - 1)).toNat * 1])) (u := []) rfl hc121 rfl ?_
        refine d_next (by kernel_rfl) ?_
        refine d_cons ?_
        have hs122 : StOk [(IntKind.i64.wrap (x84 - 1)).toNat] (eA64u8 x85) [(IntKind.i64.wrap (x84 - 1)).toNat * 1] 1 (.int .u8 (IntKind.u8.wrap (Int.tmod x118 a0))) (eA64u8 ((vset x85 (IntKind.i64.wrap (x84 - 1)).toNat (IntKind.u8.wrap (Int.tmod x118 a0))))) := (.arr (y := IntKind.u8.wrap (Int.tmod x118 a0)) (vlt x85 hc121) rfl (.nil rfl rfl rfl rfl))
        refine a_val (v := .top) (u := [(7, some ⟨(eA64u8 ((vset x85 (IntKind.i64.wrap (x84 - 1)).toNat (IntKind.u8.wrap (Int.tmod x118 a0))))), false⟩)]) (st_own (i := ⟨.int .u8, 1, 1, (.int .u8 0)⟩) rfl rfl (fun _ => rfl) rfl hs122) (hs122.c rfl) rfl ?_
        refine d_next (by kernel_rfl) ?_
        refine d_nil ?_
        refine b_norm ?_
        refine a_next (σ' := ⟨[(0, (.int .i64 a0)), (3, (.own 3 [] [])), (4, (.own 4 [] [])), (7, (.own 7 [] [])), (8, (.int .i64 x84))], [(3, some ⟨(eA64u8 a1), false⟩), (4, some ⟨(eA64u8 ((vrep 64 (0 : Int)))), false⟩), (7, some ⟨(eA64u8 ((vset x85 (IntKind.i64.wrap (x84 - 1)).toNat (IntKind.u8.wrap (Int.tmod x118 a0))))), false⟩)]⟩) (by kernel_rfl) ?_
        refine a_region ?_
        refine a_val (v := (.int .i64 x84)) (u := []) rfl trivial rfl ?_
        refine a_val (v := (.int .i64 (IntKind.i64.wrap (x84 + 1)))) (u := []) rfl trivial rfl ?_
        refine a_val (v := (.int .i64 (IntKind.i64.wrap (x84 + 1)))) (u := []) rfl trivial rfl ?_
        refine a_nil ?_
        cases h
        exact a_again (by kernel_rfl) hX105
  · have h := ite_t hb4 h
    refine a_cond_t rfl ?_
    refine a_seq ?_
    refine a_region ?_
    refine a_val (v := (eA64u8 ((vrep 64 (0 : Int))))) (u := []) rfl ⟨⟨_, rfl, rfl⟩, all_nil⟩ rfl ?_
    refine a_val (v := (.int .i64 r2)) (u := []) rfl trivial rfl ?_
    have hs127 : StOk [] (eA64u8 ((vrep 64 (0 : Int)))) [] 64 (eA64u8 ((vrep 64 (0 : Int)))) (eA64u8 ((vrep 64 (0 : Int)))) := (.nil rfl rfl rfl rfl)
    refine a_val (v := .top) (u := [(4, some ⟨(eA64u8 ((vrep 64 (0 : Int)))), false⟩)]) (st_own (i := ⟨.arr 64 5, 64, 64, (eA64u8 (vrep 64 (0 : Int)))⟩) rfl rfl (fun _ => rfl) rfl hs127) (hs127.c rfl) rfl ?_
    refine a_val (v := (.int .i64 r2)) (u := []) rfl trivial rfl ?_
    refine a_nil ?_
    refine a_next rfl ?_
    refine a_ret ?_
    refine t_ret ?_
    have hl128 : LdOk [] (eA64u8 ((vrep 64 (0 : Int)))) [] 64 true (eA64u8 ((vrep 64 (0 : Int)))) := (.nil rfl rfl rfl)
    refine ⟨.inr rfl, ?_⟩
    rw [Try.results125]
    cases h
    exact ⟨_, _, _, _, _, ld_own (i := ⟨.arr 64 5, 64, 64, (eA64u8 (vrep 64 (0 : Int)))⟩) rfl rfl rfl hl128, hl128.c, .inl ⟨rfl, .inl rfl⟩, rfl, ⟨_, _, _, _, _, rfl, trivial, .inl ⟨rfl, .inl rfl⟩, rfl, rfl⟩⟩
def spec_l01One_c : ACode := (.seq (.region 0 [⟨some 0, .alloc 23, none, []⟩] false) (.seq (.region 1 [⟨some 1, .build 23 [(0, (.const (.int .u8 1)))], none, []⟩, ⟨none, .store 23 (.tmp 0) (.tmp 1), none, []⟩] false) .ret))
def spec_l01One_L : Live := [(0, []), (1, [0])]
theorem spec_l01One_body : Try.f61.body = some (Try.f61.body.getD .skip) := by kernel_rfl
theorem spec_l01One_strip : strip [] (Try.f61.body.getD .skip) = spec_l01One_c := by kernel_rfl
noncomputable def spec_l01One  : Option (Vec Int 64) :=
  (some ((vset (vrep 64 (0 : Int)) 0 1)))
set_option maxHeartbeats 16000000 in
theorem spec_l01One_ok  (r : (Vec Int 64)) (h : spec_l01One = some r) : Den Try.prog 61 [] { r := (eA64u8 r) } := by
  refine den_of (rs := [(eA64u8 r)]) (ac := spec_l01One_c) (L := spec_l01One_L) (n := 2) (m := []) good Try.func61 spec_l01One_body (by kernel_rfl) Try.ntmps61 rfl rfl spec_l01One_strip rfl rfl ?_
  refine a_st (σ' := ⟨[], []⟩) (by kernel_rfl) ?_
  unfold spec_l01One_c
  refine a_seq ?_
  refine a_region ?_
  refine a_val (v := (.own 1000 [] [])) (u := [(1000, some ⟨(eA64u8 ((vrep 64 (0 : Int)))), false⟩)]) rfl trivial rfl ?_
  refine a_nil ?_
  refine a_next (σ' := ⟨[(0, (.own 0 [] []))], [(0, some ⟨(eA64u8 ((vrep 64 (0 : Int)))), false⟩)]⟩) (by kernel_rfl) ?_
  refine a_seq ?_
  refine a_region ?_
  refine a_val (v := (eA64u8 ((vset (vrep 64 (0 : Int)) 0 1)))) (u := []) rfl ⟨⟨_, rfl, rfl⟩, (all_cons ⟨(Nat.le_of_ble_eq_true rfl), rfl⟩ all_nil)⟩ rfl ?_
  have hs1 : StOk [] (eA64u8 ((vrep 64 (0 : Int)))) [] 64 (eA64u8 ((vset (vrep 64 (0 : Int)) 0 1))) (eA64u8 ((vset (vrep 64 (0 : Int)) 0 1))) := (.nil rfl rfl rfl rfl)
  refine a_val (v := .top) (u := [(0, some ⟨(eA64u8 ((vset (vrep 64 (0 : Int)) 0 1))), false⟩)]) (st_own (i := ⟨.arr 64 5, 64, 64, (eA64u8 (vrep 64 (0 : Int)))⟩) rfl rfl (fun _ => rfl) rfl hs1) (hs1.c rfl) rfl ?_
  refine a_nil ?_
  refine a_next rfl ?_
  refine a_ret ?_
  have hl2 : LdOk [] (eA64u8 ((vset (vrep 64 (0 : Int)) 0 1))) [] 64 true (eA64u8 ((vset (vrep 64 (0 : Int)) 0 1))) := (.nil rfl rfl rfl)
  refine ⟨.inr rfl, ?_⟩
  rw [Try.results61]
  cases h
  exact ⟨_, _, _, _, _, ld_own (i := ⟨.arr 64 5, 64, 64, (eA64u8 (vrep 64 (0 : Int)))⟩) rfl rfl rfl hl2, hl2.c, .inl ⟨rfl, .inl rfl⟩, rfl, rfl⟩
def spec_l01Inverse_c : ACode := (.seq (.region 0 [⟨some 4, .asg 0 (.const (.int .u8 0)) 5, none, []⟩] false) (.seq (.seq (.region 1 [⟨some 5, .asg 0 (.const (.int .i64 1)) 2, none, []⟩] false) (.block 0 (.loop (.seq (.seq (.region 2 [⟨some 6, .mov (.tmp 5), none, []⟩, ⟨some 7, .mov (.tmp 0), none, []⟩, ⟨some 8, .bin .lss 2 (.tmp 6) (.tmp 7), none, []⟩] false) (.cond (.tmp 8) .skip (.exit 0))) (.seq (.block 1 (.seq (.region 4 [⟨some 11, .mov (.tmp 5), none, []⟩, ⟨some 12, .mov (.tmp 1), none, []⟩, ⟨some 13, .conv 5 2 (.tmp 12), none, []⟩, ⟨some 14, .bin .mul 2 (.tmp 11) (.tmp 13), none, []⟩, ⟨some 15, .mov (.tmp 0), none, []⟩, ⟨some 16, .bin .rem 2 (.tmp 14) (.tmp 15), none, []⟩, ⟨some 17, .bin .eql 2 (.tmp 16) (.const (.int .i64 1)), none, []⟩] false) (.cond (.tmp 17) (.seq (.region 5 [⟨some 18, .mov (.tmp 5), none, []⟩, ⟨some 19, .conv 2 5 (.tmp 18), none, []⟩, ⟨some 4, .asg 0 (.tmp 19) 5, none, []⟩] false) .ret) .skip))) (.region 3 [⟨some 9, .mov (.tmp 5), none, []⟩, ⟨some 10, .bin .add 2 (.tmp 9) (.const (.int .i64 1)), none, []⟩, ⟨some 5, .asg 0 (.tmp 10) 2, none, []⟩] false)))))) (.seq (.region 6 [⟨some 4, .asg 0 (.const (.int .u8 0)) 5, none, []⟩] false) .ret)))
def spec_l01Inverse_L : Live := [(0, [0, 1]), (1, [0, 1]), (2, [0, 1, 5]), (3, [0, 1, 5]), (4, [0, 1, 5]), (5, [5]), (6, []), (100008, [0, 1, 5, 8]), (100017, [0, 1, 5, 17])]
theorem spec_l01Inverse_body : Try.f120.body = some (Try.f120.body.getD .skip) := by kernel_rfl
theorem spec_l01Inverse_strip : strip [] (Try.f120.body.getD .skip) = spec_l01Inverse_c := by kernel_rfl
noncomputable def spec_l01Inverse_l1 (a0 : Int) (a1 : Int) (x29 : Int) : Option (Int ⊕ (Unit ⊕ Int)) :=
  (if (decide (x29 < a0)) then (ifp (a0 ≠ 0) ((letp (((Int.tmod (IntKind.i64.wrap (x29 * (IntKind.i64.wrap a1))) a0) == 1)) fun x40 => (if x40 then (some (.inr ((.inr (IntKind.u8.wrap x29))))) else (some (.inl (IntKind.i64.wrap (x29 + 1)))))))) else (some (.inr (((.inl ()))))))
noncomputable def spec_l01Inverse (a0 : Int) (a1 : Int) : Option Int :=
  (Option.bind (α := (Unit ⊕ Int)) ((loopM (fun s : Int => spec_l01Inverse_l1 a0 a1 s) 1)) fun z => match z with | .inl _ => (some 0) | .inr r44 => (some r44))
set_option maxHeartbeats 16000000 in
theorem spec_l01Inverse_ok (a0 : Int) (a1 : Int) (r : Int) (h : spec_l01Inverse a0 a1 = some r) : Den Try.prog 120 [(.int .i64 a0), (.int .u8 a1)] { r := (.int .u8 r) } := by
  refine den_of (rs := [(.int .u8 r)]) (ac := spec_l01Inverse_c) (L := spec_l01Inverse_L) (n := 20) (m := []) good Try.func120 spec_l01Inverse_body (by kernel_rfl) Try.ntmps120 rfl rfl spec_l01Inverse_strip rfl rfl ?_
  refine a_st (σ' := ⟨[(0, (.int .i64 a0)), (1, (.int .u8 a1))], []⟩) (by kernel_rfl) ?_
  unfold spec_l01Inverse_c
  refine a_seq ?_
  refine a_region ?_
  refine a_val (v := (.int .u8 0)) (u := []) rfl trivial rfl ?_
  refine a_nil ?_
  refine a_next (σ' := ⟨[(0, (.int .i64 a0)), (1, (.int .u8 a1))], []⟩) (by kernel_rfl) ?_
  obtain ⟨y21, hy22, hk23⟩ := bind_some h
  clear h
  refine a_join (emb := fun (s : Unit) => ⟨[], []⟩) (pre := fun s => (.inl s) = y21) ?_ ?_
  · rintro _ rfl
    have h := hk23
    refine a_st (σ' := ⟨[], []⟩) (by kernel_rfl) ?_
    refine a_seq ?_
    refine a_region ?_
    refine a_val (v := (.int .u8 0)) (u := []) rfl trivial rfl ?_
    refine a_nil ?_
    refine a_next rfl ?_
    refine a_ret ?_
    refine ⟨.inr rfl, ?_⟩
    rw [Try.results120]
    cases h
    exact ⟨_, _, _, _, _, rfl, trivial, .inl ⟨rfl, .inl rfl⟩, rfl, rfl⟩
  · have h := hy22
    refine a_seq ?_
    refine a_region ?_
    refine a_val (v := (.int .i64 1)) (u := []) rfl trivial rfl ?_
    refine a_nil ?_
    refine a_next (σ' := ⟨[(0, (.int .i64 a0)), (1, (.int .u8 a1)), (5, (.int .i64 1))], []⟩) (by kernel_rfl) ?_
    refine a_block ?_
    refine a_loop (emb := fun (s : Int) => ⟨[(0, (.int .i64 a0)), (1, (.int .u8 a1)), (5, (.int .i64 s))], []⟩) (body := (fun s : Int => spec_l01Inverse_l1 a0 a1 s)) (G := fun q => some q = some y21) h rfl ?_ (by kernel_rfl)
    rintro X35 x29 x36 h hX37
    have h : spec_l01Inverse_l1 a0 a1 x29 = some x36 := h
    refine a_st (σ' := ⟨[(0, (.int .i64 a0)), (1, (.int .u8 a1)), (5, (.int .i64 x29))], []⟩) (by kernel_rfl) ?_
    refine a_seq ?_
    refine a_seq ?_
    refine a_region ?_
    refine a_val (v := (.int .i64 x29)) (u := []) rfl trivial rfl ?_
    refine a_val (v := (.int .i64 a0)) (u := []) rfl trivial rfl ?_
    refine a_val (v := (.bool ((decide (x29 < a0))))) (u := []) rfl trivial rfl ?_
    refine a_nil ?_
    refine a_next (σ' := ⟨[(0, (.int .i64 a0)), (1, (.int .u8 a1)), (5, (.int .i64 x29)), (8, (.bool ((decide (x29 < a0)))))], []⟩) (by kernel_rfl) ?_
    cases hb38 : (decide (x29 < a0))
    · have h := ite_f hb38 h
      refine a_cond_f rfl ?_
      refine a_exit ?_
      refine t_exit ?_
      cases h
      have h := hX37
      refine t_exit ?_
      refine b_exit ?_
      exact j_leaf () (Option.some.inj h) (by kernel_rfl)
    · have h := ite_t hb38 h
      refine a_cond_t rfl ?_
      refine a_skip ?_
      refine a_next (σ' := ⟨[(0, (.int .i64 a0)), (1, (.int .u8 a1)), (5, (.int .i64 x29))], []⟩) (by kernel_rfl) ?_
      refine a_seq ?_
      refine a_block ?_
      refine a_seq ?_
      refine a_region ?_
      refine a_val (v := (.int .i64 x29)) (u := []) rfl trivial rfl ?_
      refine a_val (v := (.int .u8 a1)) (u := []) rfl trivial rfl ?_
      refine a_val (v := (.int .i64 (IntKind.i64.wrap a1))) (u := []) rfl trivial rfl ?_
      refine a_val (v := (.int .i64 (IntKind.i64.wrap (x29 * (IntKind.i64.wrap a1))))) (u := []) rfl trivial rfl ?_
      refine a_val (v := (.int .i64 a0)) (u := []) rfl trivial rfl ?_
      obtain ⟨hc39, h⟩ := ifp_some h
      refine a_val (v := (.int .i64 (Int.tmod (IntKind.i64.wrap (x29 * (IntKind.i64.wrap a1))) a0))) (u := []) rfl hc39 rfl ?_
      obtain ⟨x40, hx41, h⟩ := letp_some h
      refine a_val' (v := (.bool (((Int.tmod (IntKind.i64.wrap (x29 * (IntKind.i64.wrap a1))) a0) == 1)))) (v' := (.bool x40)) (u := []) (u' := []) rfl (congrArg (fun z => ((.bool z) : AV)) hx41) rfl trivial rfl ?_
      refine a_nil ?_
      refine a_next (σ' := ⟨[(0, (.int .i64 a0)), (1, (.int .u8 a1)), (5, (.int .i64 x29)), (17, (.bool x40))], []⟩) (by kernel_rfl) ?_
      cases hb42 : x40
      · have h := ite_f hb42 h
        refine a_cond_f rfl ?_
        refine a_skip ?_
        refine b_norm ?_
        refine a_next (σ' := ⟨[(0, (.int .i64 a0)), (1, (.int .u8 a1)), (5, (.int .i64 x29))], []⟩) (by kernel_rfl) ?_
        refine a_region ?_
        refine a_val (v := (.int .i64 x29)) (u := []) rfl trivial rfl ?_
        refine a_val (v := (.int .i64 (IntKind.i64.wrap (x29 + 1)))) (u := []) rfl trivial rfl ?_
        refine a_val (v := (.int .i64 (IntKind.i64.wrap (x29 + 1)))) (u := []) rfl trivial rfl ?_
        refine a_nil ?_
        cases h
        exact a_again (by kernel_rfl) hX37
      · have h := ite_t hb42 h
        refine a_cond_t rfl ?_
        refine a_seq ?_
        refine a_region ?_
        refine a_val (v := (.int .i64 x29)) (u := []) rfl trivial rfl ?_
        refine a_val (v := (.int .u8 (IntKind.u8.wrap x29))) (u := []) rfl trivial rfl ?_
        refine a_val (v := (.int .u8 (IntKind.u8.wrap x29))) (u := []) rfl trivial rfl ?_
        refine a_nil ?_
        refine a_next rfl ?_
        refine a_ret ?_
        refine b_ret ?_
        refine t_ret ?_
        cases h
        have h := hX37
        refine t_ret ?_
        refine b_ret ?_
        refine t_ret ?_
        cases h
        have h := hk23
        refine ⟨.inr rfl, ?_⟩
        rw [Try.results120]
        cases h
        exact ⟨_, _, _, _, _, rfl, trivial, .inl ⟨rfl, .inl rfl⟩, rfl, rfl⟩
def spec_l01Divide_c : ACode := (.seq (.region 0 [⟨some 4, .box 23 (.tmp 1), none, []⟩, ⟨some 5, .box 23 (.tmp 2), none, []⟩, ⟨some 6, .alloc 23, none, []⟩, ⟨some 7, .alloc 23, none, []⟩] false) (.seq (.region 1 [⟨some 14, .build 23 [], none, []⟩, ⟨some 15, .load 23 (.tmp 5), none, []⟩, ⟨some 16, .call 0 (.func 83) [(.tmp 15)], none, []⟩, ⟨some 8, .alloc 23, none, []⟩, ⟨none, .store 23 (.tmp 8) (.tmp 14), none, []⟩, ⟨some 9, .asg 0 (.tmp 16) 2, none, []⟩] false) (.seq (.region 2 [⟨some 17, .mov (.tmp 0), none, []⟩, ⟨some 18, .mov (.tmp 9), none, []⟩, ⟨some 19, .indexAddr 23 (.tmp 5) (.tmp 18), none, []⟩, ⟨some 20, .load 5 (.tmp 19), none, []⟩, ⟨some 21, .call 0 (.func 120) [(.tmp 17), (.tmp 20)], none, []⟩, ⟨some 22, .conv 5 2 (.tmp 21), none, []⟩, ⟨some 10, .asg 0 (.tmp 22) 2, none, []⟩] false) (.seq (.seq (.region 3 [⟨some 23, .load 23 (.tmp 4), none, []⟩, ⟨some 24, .call 0 (.func 83) [(.tmp 23)], none, []⟩, ⟨some 11, .asg 0 (.tmp 24) 2, none, []⟩] false) (.block 0 (.loop (.seq (.seq (.region 4 [⟨some 25, .mov (.tmp 11), none, []⟩, ⟨some 26, .mov (.tmp 9), none, []⟩, ⟨some 27, .bin .geq 2 (.tmp 25) (.tmp 26), none, []⟩] false) (.cond (.tmp 27) .skip (.exit 0))) (.seq (.block 1 (.seq (.region 6 [⟨some 30, .mov (.tmp 11), none, []⟩, ⟨some 31, .indexAddr 23 (.tmp 4) (.tmp 30), none, []⟩, ⟨some 32, .load 5 (.tmp 31), none, []⟩, ⟨some 33, .conv 5 2 (.tmp 32), none, []⟩, ⟨some 34, .mov (.tmp 10), none, []⟩, ⟨some 35, .bin .mul 2 (.tmp 33) (.tmp 34), none, []⟩, ⟨some 36, .mov (.tmp 0), none, []⟩, ⟨some 37, .bin .rem 2 (.tmp 35) (.tmp 36), none, []⟩, ⟨some 12, .asg 0 (.tmp 37) 2, none, []⟩] false) (.seq (.region 7 [⟨some 38, .mov (.tmp 11), none, []⟩, ⟨some 39, .mov (.tmp 9), none, []⟩, ⟨some 40, .bin .sub 2 (.tmp 38) (.tmp 39), none, []⟩, ⟨some 41, .mov (.tmp 12), none, []⟩, ⟨some 42, .conv 2 5 (.tmp 41), none, []⟩, ⟨some 43, .indexAddr 23 (.tmp 8) (.tmp 40), none, []⟩, ⟨none, .store 5 (.tmp 43) (.tmp 42), none, []⟩] false) (.seq (.region 8 [⟨some 13, .asg 0 (.const (.int .i64 0)) 2, none, []⟩] false) (.block 2 (.loop (.seq (.seq (.region 9 [⟨some 44, .mov (.tmp 13), none, []⟩, ⟨some 45, .mov (.tmp 9), none, []⟩, ⟨some 46, .bin .leq 2 (.tmp 44) (.tmp 45), none, []⟩, ⟨some 47, .mov (.tmp 46), none, []⟩, ⟨some 48, .mov (.tmp 12), some (47, true), []⟩, ⟨some 49, .bin .neq 2 (.tmp 48) (.const (.int .i64 0)), some (47, true), []⟩, ⟨some 50, .pick (.tmp 47) (.tmp 49) (.const (.bool false)), none, []⟩] false) (.cond (.tmp 50) .skip (.exit 2))) (.seq (.block 3 (.region 11 [⟨some 53, .mov (.tmp 11), none, []⟩, ⟨some 54, .mov (.tmp 9), none, []⟩, ⟨some 55, .bin .sub 2 (.tmp 53) (.tmp 54), none, [0, 1]⟩, ⟨some 56, .mov (.tmp 13), none, []⟩, ⟨some 57, .bin .add 2 (.tmp 55) (.tmp 56), none, [2, 3]⟩, ⟨some 58, .mov (.tmp 11), none, []⟩, ⟨some 59, .mov (.tmp 9), none, []⟩, ⟨some 60, .bin .sub 2 (.tmp 58) (.tmp 59), none, [5, 6]⟩, ⟨some 61, .mov (.tmp 13), none, []⟩, ⟨some 62, .bin .add 2 (.tmp 60) (.tmp 61), none, [7, 8]⟩, ⟨some 63, .indexAddr 23 (.tmp 4) (.tmp 62), none, [9]⟩, ⟨some 64, .load 5 (.tmp 63), none, [10]⟩, ⟨some 65, .conv 5 2 (.tmp 64), none, [11]⟩, ⟨some 66, .mov (.tmp 12), none, []⟩, ⟨some 67, .mov (.tmp 13), none, []⟩, ⟨some 68, .indexAddr 23 (.tmp 5) (.tmp 67), none, [14]⟩, ⟨some 69, .load 5 (.tmp 68), none, [15]⟩, ⟨some 70, .conv 5 2 (.tmp 69), none, [16]⟩, ⟨some 71, .bin .mul 2 (.tmp 66) (.tmp 70), none, [13, 17]⟩, ⟨some 72, .bin .sub 2 (.tmp 65) (.tmp 71), none, [12, 18]⟩, ⟨some 73, .mov (.tmp 0), none, []⟩, ⟨some 74, .bin .rem 2 (.tmp 72) (.tmp 73), none, [19, 20]⟩, ⟨some 75, .mov (.tmp 0), none, []⟩, ⟨some 76, .bin .add 2 (.tmp 74) (.tmp 75), none, [21, 22]⟩, ⟨some 77, .mov (.tmp 0), none, []⟩, ⟨some 78, .bin .rem 2 (.tmp 76) (.tmp 77), none, [23, 24]⟩, ⟨some 79, .conv 2 5 (.tmp 78), none, [25]⟩, ⟨some 80, .indexAddr 23 (.tmp 4) (.tmp 57), none, [4, 0, 1, 2, 3, 4, 5, 6, 7, 8, 9, 10, 11, 12, 13, 14, 15, 16, 17, 18, 19, 20, 21, 22, 23, 24, 25, 26]⟩, ⟨none, .store 5 (.tmp 80) (.tmp 79), none, [27, 26, 0, 1, 2, 3, 4, 5, 6, 7, 8, 9, 10, 11, 12, 13, 14, 15, 16, 17, 18, 19, 20, 21, 22, 23, 24, 25, 26]⟩] true)) (.region 10 [⟨some 51, .mov (.tmp 13), none, []⟩, ⟨some 52, .bin .add 2 (.tmp 51) (.const (.int .i64 1)), none, []⟩, ⟨some 13, .asg 0 (.tmp 52) 2, none, []⟩] false))))))))) (.region 5 [⟨some 28, .mov (.tmp 11), none, []⟩, ⟨some 29, .bin .sub 2 (.tmp 28) (.const (.int .i64 1)), none, []⟩, ⟨some 11, .asg 0 (.tmp 29) 2, none, []⟩] false)))))) (.seq (.region 12 [⟨some 81, .load 23 (.tmp 8), none, []⟩, ⟨some 82, .load 23 (.tmp 4), none, []⟩, ⟨none, .store 23 (.tmp 6) (.tmp 81), none, [0, 0]⟩, ⟨none, .store 23 (.tmp 7) (.tmp 82), none, [1, 2, 0, 1, 2]⟩] true) .ret)))))
def spec_l01Divide_L : Live := [(0, [0, 1, 2]), (1, [0, 4, 5, 6, 7]), (2, [0, 4, 5, 6, 7, 8, 9]), (3, [0, 4, 5, 6, 7, 8, 9, 10]), (4, [0, 4, 5, 6, 7, 8, 9, 10, 11]), (5, [0, 4, 5, 6, 7, 8, 9, 10, 11]), (6, [0, 4, 5, 6, 7, 8, 9, 10, 11]), (7, [0, 4, 5, 6, 7, 8, 9, 10, 11, 12]), (8, [0, 4, 5, 6, 7, 8, 9, 10, 11, 12]), (9, [0, 4, 5, 6, 7, 8, 9, 10, 11, 12, 13]), (10, [0, 4, 5, 6, 7, 8, 9, 10, 11, 12, 13]), (11, [0, 4, 5, 6, 7, 8, 9, 10, 11, 12, 13]), (12, [4, 6, 7, 8]), (100027, [0, 4, 5, 6, 7, 8, 9, 10, 11, 27]), (100050, [0, 4, 5, 6, 7, 8, 9, 10, 11, 12, 13, 50])]
theorem spec_l01Divide_body : Try.f87.body = some (Try.f87.body.getD .skip) := by kernel_rfl
theorem spec_l01Divide_strip : strip [] (Try.f87.body.getD .skip) = spec_l01Divide_c := by kernel_rfl
noncomputable def spec_l01Divide_l2 (r2 : Int) (x1405 : Int) (a0 : Int) (x995 : Int) (a2 : (Vec Int 64)) (x997 : (Vec Int 64)) (x1449 : Int) (x1450 : (Vec Int 64)) : Option ((Int × (Vec Int 64)) ⊕ ((Vec Int 64) × (Vec Int 64))) :=
  (Option.bind (α := Bool) ((if (decide (x1449 ≤ r2)) then (some (((Int.tmod x1405 a0) != 0))) else (some false))) fun x1494 => (if x1494 then (ifp (0 ≤ IntKind.i64.wrap ((IntKind.i64.wrap (x995 - r2)) + x1449) ∧ IntKind.i64.wrap ((IntKind.i64.wrap (x995 - r2)) + x1449) < ((64 : Nat) : Int)) ((letp ((rd x1450.1 (IntKind.i64.wrap ((IntKind.i64.wrap (x995 - r2)) + x1449)).toNat)) fun x1518 => (ifp (0 ≤ x1449 ∧ x1449 < ((64 : Nat) : Int)) ((letp (IntKind.i64.wrap ((Int.tmod x1405 a0) * (IntKind.i64.wrap (rd a2.1 x1449.toNat)))) fun x1522 => (ifp (a0 ≠ 0) ((letp (Int.tmod (IntKind.i64.wrap ((IntKind.i64.wrap x1518) - x1522)) a0) fun x1525 => (ifp (a0 ≠ 0) ((letp (IntKind.u8.wrap (Int.tmod (IntKind.i64.wrap (x1525 + a0)) a0)) fun x1528 => (ifp (0 ≤ IntKind.i64.wrap ((IntKind.i64.wrap (x995 - r2)) + x1449) ∧ IntKind.i64.wrap ((IntKind.i64.wrap (x995 - r2)) + x1449) < ((64 : Nat) : Int)) ((some (.inl ((IntKind.i64.wrap (x1449 + 1), (vset x1450 (IntKind.i64.wrap ((IntKind.i64.wrap (x995 - r2)) + x1449)).toNat x1528))))))))))))))))))) else (some (.inr (((x1450, (vset x997 (IntKind.i64.wrap (x995 - r2)).toNat (IntKind.u8.wrap (Int.tmod x1405 a0))))))))))
noncomputable def spec_l01Divide_l1 (r2 : Int) (r7 : Int) (a0 : Int) (a2 : (Vec Int 64)) (x995 : Int) (x996 : (Vec Int 64)) (x997 : (Vec Int 64)) : Option ((Int × (Vec Int 64) × (Vec Int 64)) ⊕ ((Vec Int 64) × (Vec Int 64))) :=
  (if (decide (x995 ≥ r2)) then (Option.bind (α := ((Vec Int 64) × (Vec Int 64))) ((ifp (0 ≤ x995 ∧ x995 < ((64 : Nat) : Int)) ((letp (IntKind.i64.wrap ((IntKind.i64.wrap (rd x996.1 x995.toNat)) * (IntKind.i64.wrap r7))) fun x1405 => (ifp (a0 ≠ 0) ((ifp (0 ≤ IntKind.i64.wrap (x995 - r2) ∧ IntKind.i64.wrap (x995 - r2) < ((64 : Nat) : Int)) ((loopM (fun s : (Int × (Vec Int 64)) => spec_l01Divide_l2 r2 x1405 a0 x995 a2 x997 s.1 s.2) (0, x996)))))))))) fun ⟨x1398, x1399⟩ => (some (.inl ((IntKind.i64.wrap (x995 - 1), x1398, x1399))))) else (some (.inr (x996, x997))))
noncomputable def spec_l01Divide (a0 : Int) (a1 : (Vec Int 64)) (a2 : (Vec Int 64)) : Option ((Vec Int 64) × (Vec Int 64)) :=
  (Option.bind (spec_l01Deg a2) fun r2 => (ifp (0 ≤ r2 ∧ r2 < ((64 : Nat) : Int)) ((Option.bind (spec_l01Inverse a0 (rd a2.1 r2.toNat)) fun r7 => (Option.bind (α := ((Vec Int 64) × (Vec Int 64))) ((Option.bind (spec_l01Deg a1) fun r751 => (loopM (fun s : (Int × (Vec Int 64) × (Vec Int 64)) => spec_l01Divide_l1 r2 r7 a0 a2 s.1 s.2.1 s.2.2) (r751, a1, (vrep 64 (0 : Int)))))) fun ⟨x745, x746⟩ => (some (x746, x745)))))))
set_option maxHeartbeats 16000000 in
theorem spec_l01Divide_ok (a0 : Int) (a1 : (Vec Int 64)) (a2 : (Vec Int 64)) (r : ((Vec Int 64) × (Vec Int 64))) (h : spec_l01Divide a0 a1 a2 = some r) : Den Try.prog 87 [(.int .i64 a0), (eA64u8 a1), (eA64u8 a2)] { r := (.tuple [(eA64u8 r.1), (eA64u8 r.2)]) } := by
  refine den_of (rs := [(eA64u8 r.1), (eA64u8 r.2)]) (ac := spec_l01Divide_c) (L := spec_l01Divide_L) (n := 83) (m := []) good Try.func87 spec_l01Divide_body (by kernel_rfl) Try.ntmps87 rfl rfl spec_l01Divide_strip rfl rfl ?_
  refine a_st (σ' := ⟨[(0, (.int .i64 a0)), (1, (eA64u8 a1)), (2, (eA64u8 a2))], []⟩) (by kernel_rfl) ?_
  unfold spec_l01Divide_c
  refine a_seq ?_
  refine a_region ?_
  refine a_val (v := (.own 1400 [] [])) (u := [(1400, some ⟨(eA64u8 a1), false⟩)]) rfl trivial rfl ?_
  refine a_val (v := (.own 1500 [] [])) (u := [(1500, some ⟨(eA64u8 a2), false⟩)]) rfl trivial rfl ?_
  refine a_val (v := (.own 1600 [] [])) (u := [(1600, some ⟨(eA64u8 ((vrep 64 (0 : Int)))), false⟩)]) rfl trivial rfl ?_
  refine a_val (v := (.own 1700 [] [])) (u := [(1700, some ⟨(eA64u8 ((vrep 64 (0 : Int)))), false⟩)]) rfl trivial rfl ?_
  refine a_nil ?_
  refine a_next (σ' := ⟨[(0, (.int .i64 a0)), (4, (.own 4 [] [])), (5, (.own 5 [] [])), (6, (.own 6 [] [])), (7, (.own 7 [] []))], [(4, some ⟨(eA64u8 a1), false⟩), (5, some ⟨(eA64u8 a2), false⟩), (6, some ⟨(eA64u8 ((vrep 64 (0 : Int)))), false⟩), (7, some ⟨(eA64u8 ((vrep 64 (0 : Int)))), false⟩)]⟩) (by kernel_rfl) ?_
  refine a_seq ?_
  refine a_region ?_
  refine a_val (v := (eA64u8 ((vrep 64 (0 : Int))))) (u := []) rfl ⟨⟨_, rfl, rfl⟩, all_nil⟩ rfl ?_
  have hl1 : LdOk [] (eA64u8 a2) [] 64 true (eA64u8 a2) := (.nil rfl rfl rfl)
  refine a_val (v := (eA64u8 a2)) (u := []) (ld_own (i := ⟨.arr 64 5, 64, 64, (eA64u8 (vrep 64 (0 : Int)))⟩) rfl rfl rfl hl1) hl1.c rfl ?_
  obtain ⟨r2, hr3, h⟩ := bind_some h
  refine a_call (args := [(eA64u8 a2)]) (u := []) (r := (.int .i64 r2)) rfl rfl (spec_l01Deg_ok a2 r2 hr3) rfl ?_
  refine a_val (v := (.own 1800 [] [])) (u := [(1800, some ⟨(eA64u8 ((vrep 64 (0 : Int)))), false⟩)]) rfl trivial rfl ?_
  have hs4 : StOk [] (eA64u8 ((vrep 64 (0 : Int)))) [] 64 (eA64u8 ((vrep 64 (0 : Int)))) (eA64u8 ((vrep 64 (0 : Int)))) := (.nil rfl rfl rfl rfl)
  refine a_val (v := .top) (u := [(1800, some ⟨(eA64u8 ((vrep 64 (0 : Int)))), false⟩)]) (st_own (i := ⟨.arr 64 5, 64, 64, (eA64u8 (vrep 64 (0 : Int)))⟩) rfl rfl (fun _ => rfl) rfl hs4) (hs4.c rfl) rfl ?_
  refine a_val (v := (.int .i64 r2)) (u := []) rfl trivial rfl ?_
  refine a_nil ?_
  refine a_next (σ' := ⟨[(0, (.int .i64 a0)), (4, (.own 4 [] [])), (5, (.own 5 [] [])), (6, (.own 6 [] [])), (7, (.own 7 [] [])), (8, (.own 8 [] [])), (9, (.int .i64 r2))], [(4, some ⟨(eA64u8 a1), false⟩), (5, some ⟨(eA64u8 a2), false⟩), (6, some ⟨(eA64u8 ((vrep 64 (0 : Int)))), false⟩), (7, some ⟨(eA64u8 ((vrep 64 (0 : Int)))), false⟩), (8, some ⟨(eA64u8 ((vrep 64 (0 : Int)))), false⟩)]⟩) (by kernel_rfl) ?_
  refine a_seq ?_
  refine a_region ?_
  refine a_val (v := (.int .i64 a0)) (u := []) rfl trivial rfl ?_
  refine a_val (v := (.int .i64 r2)) (u := []) rfl trivial rfl ?_
  obtain ⟨hc5, h⟩ := ifp_some h
  refine a_val (v := (.own 5 [r2.toNat] [r2.toNat * 1])) (u := []) rfl hc5 rfl ?_
  have hl6 : LdOk [r2.toNat] (eA64u8 a2) [r2.toNat * 1] 1 false (.int .u8 (rd a2.1 r2.toNat)) := (.arr (vlt a2 hc5) rfl (.nil rfl rfl rfl))
  refine a_val (v := (.int .u8 (rd a2.1 r2.toNat))) (u := []) (ld_own (i := ⟨.int .u8, 1, 1, (.int .u8 0)⟩) rfl rfl rfl hl6) hl6.c rfl ?_
  obtain ⟨r7, hr8, h⟩ := bind_some h
  refine a_call (args := [(.int .i64 a0), (.int .u8 (rd a2.1 r2.toNat))]) (u := []) (r := (.int .u8 r7)) rfl rfl (spec_l01Inverse_ok a0 (rd a2.1 r2.toNat) r7 hr8) rfl ?_
  refine a_val (v := (.int .i64 (IntKind.i64.wrap r7))) (u := []) rfl trivial rfl ?_
  refine a_val (v := (.int .i64 (IntKind.i64.wrap r7))) (u := []) rfl trivial rfl ?_
  refine a_nil ?_
  refine a_next (σ' := ⟨[(0, (.int .i64 a0)), (4, (.own 4 [] [])), (5, (.own 5 [] [])), (6, (.own 6 [] [])), (7, (.own 7 [] [])), (8, (.own 8 [] [])), (9, (.int .i64 r2)), (10, (.int .i64 (IntKind.i64.wrap r7)))], [(4, some ⟨(eA64u8 a1), false⟩), (5, some ⟨(eA64u8 a2), false⟩), (6, some ⟨(eA64u8 ((vrep 64 (0 : Int)))), false⟩), (7, some ⟨(eA64u8 ((vrep 64 (0 : Int)))), false⟩), (8, some ⟨(eA64u8 ((vrep 64 (0 : Int)))), false⟩)]⟩) (by kernel_rfl) ?_
  obtain ⟨y747, hy748, hk749⟩ := bind_some h
  clear h
  refine a_join (emb := fun (s : ((Vec Int 64) × (Vec Int 64))) => ⟨[(4, (.own 4 [] [])), (6, (.own 6 [] [])), (7, (.own 7 [] [])), (8, (.own 8 [] []))], [(4, some ⟨(eA64u8 s.1), false⟩), (6, some ⟨(eA64u8 ((vrep 64 (0 : Int)))), false⟩), (7, some ⟨(eA64u8 ((vrep 64 (0 : Int)))), false⟩), (8, some ⟨(eA64u8 s.2), false⟩)]⟩) (pre := fun s => s = y747) ?_ ?_
  · rintro ⟨x745, x746⟩ rfl
    have h := hk749
    refine a_st (σ' := ⟨[(4, (.own 4 [] [])), (6, (.own 6 [] [])), (7, (.own 7 [] [])), (8, (.own 8 [] []))], [(4, some ⟨(eA64u8 x745), false⟩), (6, some ⟨(eA64u8 ((vrep 64 (0 : Int)))), false⟩), (7, some ⟨(eA64u8 ((vrep 64 (0 : Int)))), false⟩), (8, some ⟨(eA64u8 x746), false⟩)]⟩) (by kernel_rfl) ?_
    refine a_seq ?_
    refine a_draw [⟨[8], [], [], []⟩, ⟨[4], [], [], []⟩, ⟨[6], [6], [], [0]⟩, ⟨[7], [7], [], [0, 1, 2]⟩] (by kernel_rfl) ?_
    refine d_cons ?_
    have hl1538 : LdOk [] (eA64u8 x746) [] 64 true (eA64u8 x746) := (.nil rfl rfl rfl)
    refine a_val (v := (eA64u8 x746)) (u := []) (ld_own (i := ⟨.arr 64 5, 64, 64, (eA64u8 (vrep 64 (0 : Int)))⟩) rfl rfl rfl hl1538) hl1538.c rfl ?_
    refine d_next (by kernel_rfl) ?_
    refine d_cons ?_
    have hl1539 : LdOk [] (eA64u8 x745) [] 64 true (eA64u8 x745) := (.nil rfl rfl rfl)
    refine a_val (v := (eA64u8 x745)) (u := []) (ld_own (i := ⟨.arr 64 5, 64, 64, (eA64u8 (vrep 64 (0 : Int)))⟩) rfl rfl rfl hl1539) hl1539.c rfl ?_
    refine d_next (by kernel_rfl) ?_
    refine d_cons ?_
    have hs1540 : StOk [] (eA64u8 ((vrep 64 (0 : Int)))) [] 64 (eA64u8 x746) (eA64u8 x746) := (.nil rfl rfl rfl rfl)
    refine a_val (v := .top) (u := [(6, some ⟨(eA64u8 x746), false⟩)]) (st_own (i := ⟨.arr 64 5, 64, 64, (eA64u8 (vrep 64 (0 : Int)))⟩) rfl rfl (fun _ => rfl) rfl hs1540) (hs1540.c rfl) rfl ?_
    refine d_next (by kernel_rfl) ?_
    refine d_cons ?_
    have hs1541 : StOk [] (eA64u8 ((vrep 64 (0 : Int)))) [] 64 (eA64u8 x745) (eA64u8 x745) := (.nil rfl rfl rfl rfl)
    refine a_val (v := .top) (u := [(7, some ⟨(eA64u8 x745), false⟩)]) (st_own (i := ⟨.arr 64 5, 64, 64, (eA64u8 (vrep 64 (0 : Int)))⟩) rfl rfl (fun _ => rfl) rfl hs1541) (hs1541.c rfl) rfl ?_
    refine d_next (by kernel_rfl) ?_
    refine d_nil ?_
    refine a_next rfl ?_
    refine a_ret ?_
    have hl1542 : LdOk [] (eA64u8 x746) [] 64 true (eA64u8 x746) := (.nil rfl rfl rfl)
    have hl1543 : LdOk [] (eA64u8 x745) [] 64 true (eA64u8 x745) := (.nil rfl rfl rfl)
    refine ⟨.inr rfl, ?_⟩
    rw [Try.results87]
    cases h
    exact ⟨_, _, _, _, _, ld_own (i := ⟨.arr 64 5, 64, 64, (eA64u8 (vrep 64 (0 : Int)))⟩) rfl rfl rfl hl1542, hl1542.c, .inl ⟨rfl, .inl rfl⟩, rfl, ⟨_, _, _, _, _, ld_own (i := ⟨.arr 64 5, 64, 64, (eA64u8 (vrep 64 (0 : Int)))⟩) rfl rfl rfl hl1543, hl1543.c, .inl ⟨rfl, .inl rfl⟩, rfl, rfl⟩⟩
  · have h := hy748
    refine a_seq ?_
    refine a_region ?_
    have hl750 : LdOk [] (eA64u8 a1) [] 64 true (eA64u8 a1) := (.nil rfl rfl rfl)
    refine a_val (v := (eA64u8 a1)) (u := []) (ld_own (i := ⟨.arr 64 5, 64, 64, (eA64u8 (vrep 64 (0 : Int)))⟩) rfl rfl rfl hl750) hl750.c rfl ?_
    obtain ⟨r751, hr752, h⟩ := bind_some h
    refine a_call (args := [(eA64u8 a1)]) (u := []) (r := (.int .i64 r751)) rfl rfl (spec_l01Deg_ok a1 r751 hr752) rfl ?_
    refine a_val (v := (.int .i64 r751)) (u := []) rfl trivial rfl ?_
    refine a_nil ?_
    refine a_next (σ' := ⟨[(0, (.int .i64 a0)), (4, (.own 4 [] [])), (5, (.own 5 [] [])), (6, (.own 6 [] [])), (7, (.own 7 [] [])), (8, (.own 8 [] [])), (9, (.int .i64 r2)), (10, (.int .i64 (IntKind.i64.wrap r7))), (11, (.int .i64 r751))], [(4, some ⟨(eA64u8 a1), false⟩), (5, some ⟨(eA64u8 a2), false⟩), (6, some ⟨(eA64u8 ((vrep 64 (0 : Int)))), false⟩), (7, some ⟨(eA64u8 ((vrep 64 (0 : Int)))), false⟩), (8, some ⟨(eA64u8 ((vrep 64 (0 : Int)))), false⟩)]⟩) (by kernel_rfl) ?_
    refine a_block ?_
    refine a_loop (emb := fun (s : (Int × (Vec Int 64) × (Vec Int 64))) => ⟨[(0, (.int .i64 a0)), (4, (.own 4 [] [])), (5, (.own 5 [] [])), (6, (.own 6 [] [])), (7, (.own 7 [] [])), (8, (.own 8 [] [])), (9, (.int .i64 r2)), (10, (.int .i64 (IntKind.i64.wrap r7))), (11, (.int .i64 s.1))], [(4, some ⟨(eA64u8 s.2.1), false⟩), (5, some ⟨(eA64u8 a2), false⟩), (6, some ⟨(eA64u8 ((vrep 64 (0 : Int)))), false⟩), (7, some ⟨(eA64u8 ((vrep 64 (0 : Int)))), false⟩), (8, some ⟨(eA64u8 s.2.2), false⟩)]⟩) (body := (fun s : (Int × (Vec Int 64) × (Vec Int 64)) => spec_l01Divide_l1 r2 r7 a0 a2 s.1 s.2.1 s.2.2)) (G := fun q => some q = some y747) h rfl ?_ (by kernel_rfl)
    rintro X1264 ⟨x995, x996, x997⟩ x1265 h hX1266
    have h : spec_l01Divide_l1 r2 r7 a0 a2 x995 x996 x997 = some x1265 := h
    refine a_st (σ' := ⟨[(0, (.int .i64 a0)), (4, (.own 4 [] [])), (5, (.own 5 [] [])), (6, (.own 6 [] [])), (7, (.own 7 [] [])), (8, (.own 8 [] [])), (9, (.int .i64 r2)), (10, (.int .i64 (IntKind.i64.wrap r7))), (11, (.int .i64 x995))], [(4, some ⟨(eA64u8 x996), false⟩), (5, some ⟨(eA64u8 a2), false⟩), (6, some ⟨(eA64u8 ((vrep 64 (0 : Int)))), false⟩), (7, some ⟨(eA64u8 ((vrep 64 (0 : Int)))), false⟩), (8, some ⟨(eA64u8 x997), false⟩)]⟩) (by kernel_rfl) ?_
    refine a_seq ?_
    refine a_seq ?_
    refine a_region ?_
    refine a_val (v := (.int .i64 x995)) (u := []) rfl trivial rfl ?_
    refine a_val (v := (.int .i64 r2)) (u := []) rfl trivial rfl ?_
    refine a_val (v := (.bool ((decide (x995 ≥ r2))))) (u := []) rfl trivial rfl ?_
    refine a_nil ?_
    refine a_next (σ' := ⟨[(0, (.int .i64 a0)), (4, (.own 4 [] [])), (5, (.own 5 [] [])), (6, (.own 6 [] [])), (7, (.own 7 [] [])), (8, (.own 8 [] [])), (9, (.int .i64 r2)), (10, (.int .i64 (IntKind.i64.wrap r7))), (11, (.int .i64 x995)), (27, (.bool ((decide (x995 ≥ r2)))))], [(4, some ⟨(eA64u8 x996), false⟩), (5, some ⟨(eA64u8 a2), false⟩), (6, some ⟨(eA64u8 ((vrep 64 (0 : Int)))), false⟩), (7, some ⟨(eA64u8 ((vrep 64 (0 : Int)))), false⟩), (8, some ⟨(eA64u8 x997), false⟩)]⟩) (by kernel_rfl) ?_
    cases hb1267 : (decide (x995 ≥ r2))
    · have h := ite_f hb1267 h
      refine a_cond_f rfl ?_
      refine a_exit ?_
      refine t_exit ?_
      cases h
      have h := hX1266
      refine t_exit ?_
      refine b_exit ?_
      exact j_leaf (x996, x997) (Option.some.inj h) (by kernel_rfl)
    · have h := ite_t hb1267 h
      refine a_cond_t rfl ?_
      refine a_skip ?_
      refine a_next (σ' := ⟨[(0, (.int .i64 a0)), (4, (.own 4 [] [])), (5, (.own 5 [] [])), (6, (.own 6 [] [])), (7, (.own 7 [] [])), (8, (.own 8 [] [])), (9, (.int .i64 r2)), (10, (.int .i64 (IntKind.i64.wrap r7))), (11, (.int .i64 x995))], [(4, some ⟨(eA64u8 x996), false⟩), (5, some ⟨(eA64u8 a2), false⟩), (6, some ⟨(eA64u8 ((vrep 64 (0 : Int)))), false⟩), (7, some ⟨(eA64u8 ((vrep 64 (0 : Int)))), false⟩), (8, some ⟨(eA64u8 x997), false⟩)]⟩) (by kernel_rfl) ?_
      obtain ⟨y1400, hy1401, hk1402⟩ := bind_some h
      clear h
      refine a_join (emb := fun (s : ((Vec Int 64) × (Vec Int 64))) => ⟨[(0, (.int .i64 a0)), (4, (.own 4 [] [])), (5, (.own 5 [] [])), (6, (.own 6 [] [])), (7, (.own 7 [] [])), (8, (.own 8 [] [])), (9, (.int .i64 r2)), (10, (.int .i64 (IntKind.i64.wrap r7))), (11, (.int .i64 x995))], [(4, some ⟨(eA64u8 s.1), false⟩), (5, some ⟨(eA64u8 a2), false⟩), (6, some ⟨(eA64u8 ((vrep 64 (0 : Int)))), false⟩), (7, some ⟨(eA64u8 ((vrep 64 (0 : Int)))), false⟩), (8, some ⟨(eA64u8 s.2), false⟩)]⟩) (pre := fun s => s = y1400) ?_ ?_
      · rintro ⟨x1398, x1399⟩ rfl
        have h := hk1402
        refine a_st (σ' := ⟨[(0, (.int .i64 a0)), (4, (.own 4 [] [])), (5, (.own 5 [] [])), (6, (.own 6 [] [])), (7, (.own 7 [] [])), (8, (.own 8 [] [])), (9, (.int .i64 r2)), (10, (.int .i64 (IntKind.i64.wrap r7))), (11, (.int .i64 x995))], [(4, some ⟨(eA64u8 x1398), false⟩), (5, some ⟨(eA64u8 a2), false⟩), (6, some ⟨(eA64u8 ((vrep 64 (0 : Int)))), false⟩), (7, some ⟨(eA64u8 ((vrep 64 (0 : Int)))), false⟩), (8, some ⟨(eA64u8 x1399), false⟩)]⟩) (by kernel_rfl) ?_
        refine a_region ?_
        refine a_val (v := (.int .i64 x995)) (u := []) rfl trivial rfl ?_
        refine a_val (v := (.int .i64 (IntKind.i64.wrap (x995 - 1)))) (u := []) rfl trivial rfl ?_
        refine a_val (v := (.int .i64 (IntKind.i64.wrap (x995 - 1)))) (u := []) rfl trivial rfl ?_
        refine a_nil ?_
        cases h
        exact a_again (by kernel_rfl) hX1266
      · have h := hy1401
        refine a_block ?_
        refine a_seq ?_
        refine a_region ?_
        refine a_val (v := (.int .i64 x995)) (u := []) rfl trivial rfl ?_
        obtain ⟨hc1403, h⟩ := ifp_some h
        refine a_val (v := (.own 4 [x995.toNat] [x995.toNat * 1])) (u := []) rfl hc1403 rfl ?_
        have hl1404 : LdOk [x995.toNat] (eA64u8 x996) [x995.toNat * 1] 1 false (.int .u8 (rd x996.1 x995.toNat)) := (.arr (vlt x996 hc1403) rfl (.nil rfl rfl rfl))
        refine a_val (v := (.int .u8 (rd x996.1 x995.toNat))) (u := []) (ld_own (i := ⟨.int .u8, 1, 1, (.int .u8 0)⟩) rfl rfl rfl hl1404) hl1404.c rfl ?_
        refine a_val (v := (.int .i64 (IntKind.i64.wrap (rd x996.1 x995.toNat)))) (u := []) rfl trivial rfl ?_
        refine a_val (v := (.int .i64 (IntKind.i64.wrap r7))) (u := []) rfl trivial rfl ?_
        obtain ⟨x1405, hx1406, h⟩ := letp_some h
        refine a_val' (v := (.int .i64 (IntKind.i64.wrap ((IntKind.i64.wrap (rd x996.1 x995.toNat)) * (IntKind.i64.wrap r7))))) (v' := (.int .i64 x1405)) (u := []) (u' := []) rfl (congrArg (fun z => ((.int .i64 z) : AV)) hx1406) rfl trivial rfl ?_
        refine a_val (v := (.int .i64 a0)) (u := []) rfl trivial rfl ?_
        obtain ⟨hc1407, h⟩ := ifp_some h
        refine a_val (v := (.int .i64 (Int.tmod x1405 a0))) (u := []) rfl hc1407 rfl ?_
        refine a_val (v := (.int .i64 (Int.tmod x1405 a0))) (u := []) rfl trivial rfl ?_
        refine a_nil ?_
        refine a_next (σ' := ⟨[(0, (.int .i64 a0)), (4, (.own 4 [] [])), (5, (.own 5 [] [])), (6, (.own 6 [] [])), (7, (.own 7 [] [])), (8, (.own 8 [] [])), (9, (.int .i64 r2)), (10, (.int .i64 (IntKind.i64.wrap r7))), (11, (.int .i64 x995)), (12, (.int .i64 (Int.tmod x1405 a0)))], [(4, some ⟨(eA64u8 x996), false⟩), (5, some ⟨(eA64u8 a2), false⟩), (6, some ⟨(eA64u8 ((vrep 64 (0 : Int)))), false⟩), (7, some ⟨(eA64u8 ((vrep 64 (0 : Int)))), false⟩), (8, some ⟨(eA64u8 x997), false⟩)]⟩) (by kernel_rfl) ?_
        refine a_seq ?_
        refine a_region ?_
        refine a_val (v := (.int .i64 x995)) (u := []) rfl trivial rfl ?_
        refine a_val (v := (.int .i64 r2)) (u := []) rfl trivial rfl ?_
        refine a_val (v := (.int .i64 (IntKind.i64.wrap (x995 - r2)))) (u := []) rfl trivial rfl ?_
        refine a_val (v := (.int .i64 (Int.tmod x1405 a0))) (u := []) rfl trivial rfl ?_
        refine a_val (v := (.int .u8 (IntKind.u8.wrap (Int.tmod x1405 a0)))) (u := []) rfl trivial rfl ?_
        obtain ⟨hc1408, h⟩ := ifp_some h
        refine a_val (v := (.own 8 [(IntKind.i64.wrap (x995 - r2)).toNat] [(IntKind.i64.wrap (x995 - r2)).toNat * 1])) (u := []) rfl hc1408 rfl ?_
        have hs1409 : StOk [(IntKind.i64.wrap (x995 - r2)).toNat] (eA64u8 x997) [(IntKind.i64.wrap (x995 - r2)).toNat * 1] 1 (.int .u8 (IntKind.u8.wrap (Int.tmod x1405 a0))) (eA64u8 ((vset x997 (IntKind.i64.wrap (x995 - r2)).toNat (IntKind.u8.wrap (Int.tmod x1405 a0))))) := (.arr (y := IntKind.u8.wrap (Int.tmod x1405 a0)) (vlt x997 hc1408) rfl (.nil rfl rfl rfl rfl))
        refine a_val (v := .top) (u := [(8, some ⟨(eA64u8 ((vset x997 (IntKind.i64.wrap (x995 - r2)).toNat (IntKind.u8.wrap (Int.tmod x1405 a0))))), false⟩)]) (st_own (i := ⟨.int .u8, 1, 1, (.int .u8 0)⟩) rfl rfl (fun _ => rfl) rfl hs1409) (hs1409.c rfl) rfl ?_
        refine a_nil ?_
        refine a_next (σ' := ⟨[(0, (.int .i64 a0)), (4, (.own 4 [] [])), (5, (.own 5 [] [])), (6, (.own 6 [] [])), (7, (.own 7 [] [])), (8, (.own 8 [] [])), (9, (.int .i64 r2)), (10, (.int .i64 (IntKind.i64.wrap r7))), (11, (.int .i64 x995)), (12, (.int .i64 (Int.tmod x1405 a0)))], [(4, some ⟨(eA64u8 x996), false⟩), (5, some ⟨(eA64u8 a2), false⟩), (6, some ⟨(eA64u8 ((vrep 64 (0 : Int)))), false⟩), (7, some ⟨(eA64u8 ((vrep 64 (0 : Int)))), false⟩), (8, some ⟨(eA64u8 ((vset x997 (IntKind.i64.wrap (x995 - r2)).toNat (IntKind.u8.wrap (Int.tmod x1405 a0))))), false⟩)]⟩) (by kernel_rfl) ?_
        refine a_seq ?_
        refine a_region ?_
        refine a_val (v := (.int .i64 0)) (u := []) rfl trivial rfl ?_
        refine a_nil ?_
        refine a_next (σ' := ⟨[(0, (.int .i64 a0)), (4, (.own 4 [] [])), (5, (.own 5 [] [])), (6, (.own 6 [] [])), (7, (.own 7 [] [])), (8, (.own 8 [] [])), (9, (.int .i64 r2)), (10, (.int .i64 (IntKind.i64.wrap r7))), (11, (.int .i64 x995)), (12, (.int .i64 (Int.tmod x1405 a0))), (13, (.int .i64 0))], [(4, some ⟨(eA64u8 x996), false⟩), (5, some ⟨(eA64u8 a2), false⟩), (6, some ⟨(eA64u8 ((vrep 64 (0 : Int)))), false⟩), (7, some ⟨(eA64u8 ((vrep 64 (0 : Int)))), false⟩), (8, some ⟨(eA64u8 ((vset x997 (IntKind.i64.wrap (x995 - r2)).toNat (IntKind.u8.wrap (Int.tmod x1405 a0))))), false⟩)]⟩) (by kernel_rfl) ?_
        refine a_block ?_
        refine a_loop (emb := fun (s : (Int × (Vec Int 64))) => ⟨[(0, (.int .i64 a0)), (4, (.own 4 [] [])), (5, (.own 5 [] [])), (6, (.own 6 [] [])), (7, (.own 7 [] [])), (8, (.own 8 [] [])), (9, (.int .i64 r2)), (10, (.int .i64 (IntKind.i64.wrap r7))), (11, (.int .i64 x995)), (12, (.int .i64 (Int.tmod x1405 a0))), (13, (.int .i64 s.1))], [(4, some ⟨(eA64u8 s.2), false⟩), (5, some ⟨(eA64u8 a2), false⟩), (6, some ⟨(eA64u8 ((vrep 64 (0 : Int)))), false⟩), (7, some ⟨(eA64u8 ((vrep 64 (0 : Int)))), false⟩), (8, some ⟨(eA64u8 ((vset x997 (IntKind.i64.wrap (x995 - r2)).toNat (IntKind.u8.wrap (Int.tmod x1405 a0))))), false⟩)]⟩) (body := (fun s : (Int × (Vec Int 64)) => spec_l01Divide_l2 r2 x1405 a0 x995 a2 x997 s.1 s.2)) (G := fun q => some q = some y1400) h rfl ?_ (by kernel_rfl)
        rintro X1490 ⟨x1449, x1450⟩ x1491 h hX1492
        have h : spec_l01Divide_l2 r2 x1405 a0 x995 a2 x997 x1449 x1450 = some x1491 := h
        refine a_st (σ' := ⟨[(0, (.int .i64 a0)), (4, (.own 4 [] [])), (5, (.own 5 [] [])), (6, (.own 6 [] [])), (7, (.own 7 [] [])), (8, (.own 8 [] [])), (9, (.int .i64 r2)), (10, (.int .i64 (IntKind.i64.wrap r7))), (11, (.int .i64 x995)), (12, (.int .i64 (Int.tmod x1405 a0))), (13, (.int .i64 x1449))], [(4, some ⟨(eA64u8 x1450), false⟩), (5, some ⟨(eA64u8 a2), false⟩), (6, some ⟨(eA64u8 ((vrep 64 (0 : Int)))), false⟩), (7, some ⟨(eA64u8 ((vrep 64 (0 : Int)))), false⟩), (8, some ⟨(eA64u8 ((vset x997 (IntKind.i64.wrap (x995 - r2)).toNat (IntKind.u8.wrap (Int.tmod x1405 a0))))), false⟩)]⟩) (by kernel_rfl) ?_
        refine a_seq ?_
        obtain ⟨y1495, hy1496, hk1497⟩ := bind_some h
        clear h
        refine a_join (emb := fun (s : Bool) => ⟨[(0, (.int .i64 a0)), (4, (.own 4 [] [])), (5, (.own 5 [] [])), (6, (.own 6 [] [])), (7, (.own 7 [] [])), (8, (.own 8 [] [])), (9, (.int .i64 r2)), (10, (.int .i64 (IntKind.i64.wrap r7))), (11, (.int .i64 x995)), (12, (.int .i64 (Int.tmod x1405 a0))), (13, (.int .i64 x1449)), (50, (.bool s))], [(4, some ⟨(eA64u8 x1450), false⟩), (5, some ⟨(eA64u8 a2), false⟩), (6, some ⟨(eA64u8 ((vrep 64 (0 : Int)))), false⟩), (7, some ⟨(eA64u8 ((vrep 64 (0 : Int)))), false⟩), (8, some ⟨(eA64u8 ((vset x997 (IntKind.i64.wrap (x995 - r2)).toNat (IntKind.u8.wrap (Int.tmod x1405 a0))))), false⟩)]⟩) (pre := fun s => s = y1495) ?_ ?_
        · rintro x1494 rfl
          have h := hk1497
          refine a_st (σ' := ⟨[(0, (.int .i64 a0)), (4, (.own 4 [] [])), (5, (.own 5 [] [])), (6, (.own 6 [] [])), (7, (.own 7 [] [])), (8, (.own 8 [] [])), (9, (.int .i64 r2)), (10, (.int .i64 (IntKind.i64.wrap r7))), (11, (.int .i64 x995)), (12, (.int .i64 (Int.tmod x1405 a0))), (13, (.int .i64 x1449)), (50, (.bool x1494))], [(4, some ⟨(eA64u8 x1450), false⟩), (5, some ⟨(eA64u8 a2), false⟩), (6, some ⟨(eA64u8 ((vrep 64 (0 : Int)))), false⟩), (7, some ⟨(eA64u8 ((vrep 64 (0 : Int)))), false⟩), (8, some ⟨(eA64u8 ((vset x997 (IntKind.i64.wrap (x995 - r2)).toNat (IntKind.u8.wrap (Int.tmod x1405 a0))))), false⟩)]⟩) (by kernel_rfl) ?_
          cases hb1499 : x1494
          · have h := ite_f hb1499 h
            refine a_cond_f rfl ?_
            refine a_exit ?_
            refine t_exit ?_
            cases h
            have h := hX1492
            refine t_exit ?_
            refine b_exit ?_
            refine b_norm ?_
            exact j_leaf ((x1450, (vset x997 (IntKind.i64.wrap (x995 - r2)).toNat (IntKind.u8.wrap (Int.tmod x1405 a0))))) (Option.some.inj h) (by kernel_rfl)
          · have h := ite_t hb1499 h
            refine a_cond_t rfl ?_
            refine a_skip ?_
            refine a_next (σ' := ⟨[(0, (.int .i64 a0)), (4, (.own 4 [] [])), (5, (.own 5 [] [])), (6, (.own 6 [] [])), (7, (.own 7 [] [])), (8, (.own 8 [] [])), (9, (.int .i64 r2)), (10, (.int .i64 (IntKind.i64.wrap r7))), (11, (.int .i64 x995)), (12, (.int .i64 (Int.tmod x1405 a0))), (13, (.int .i64 x1449))], [(4, some ⟨(eA64u8 x1450), false⟩), (5, some ⟨(eA64u8 a2), false⟩), (6, some ⟨(eA64u8 ((vrep 64 (0 : Int)))), false⟩), (7, some ⟨(eA64u8 ((vrep 64 (0 : Int)))), false⟩), (8, some ⟨(eA64u8 ((vset x997 (IntKind.i64.wrap (x995 - r2)).toNat (IntKind.u8.wrap (Int.tmod x1405 a0))))), false⟩)]⟩) (by kernel_rfl) ?_
            refine a_seq ?_
            refine a_block ?_
            refine a_draw [⟨[], [], [], []⟩, ⟨[], [], [], []⟩, ⟨[], [], [], [0, 1]⟩, ⟨[], [], [], []⟩, ⟨[], [], [], [0, 1, 2, 3]⟩, ⟨[], [], [], []⟩, ⟨[], [], [], []⟩, ⟨[], [], [], [5, 6]⟩, ⟨[], [], [], []⟩, ⟨[], [], [], [5, 6, 7, 8]⟩, ⟨[4], [], [4], [5, 6, 7, 8, 9]⟩, ⟨[4], [], [], [5, 6, 7, 8, 9, 10]⟩, ⟨[], [], [], [5, 6, 7, 8, 9, 10, 11]⟩, ⟨[], [], [], []⟩, ⟨[], [], [], []⟩, ⟨[5], [], [5], [14]⟩, ⟨[5], [], [], [14, 15]⟩, ⟨[], [], [], [14, 15, 16]⟩, ⟨[], [], [], [13, 14, 15, 16, 17]⟩, ⟨[], [], [], [5, 6, 7, 8, 9, 10, 11, 12, 13, 14, 15, 16, 17, 18]⟩, ⟨[], [], [], []⟩, ⟨[], [], [], [5, 6, 7, 8, 9, 10, 11, 12, 13, 14, 15, 16, 17, 18, 19, 20]⟩, ⟨[], [], [], []⟩, ⟨[], [], [], [5, 6, 7, 8, 9, 10, 11, 12, 13, 14, 15, 16, 17, 18, 19, 20, 21, 22]⟩, ⟨[], [], [], []⟩, ⟨[], [], [], [5, 6, 7, 8, 9, 10, 11, 12, 13, 14, 15, 16, 17, 18, 19, 20, 21, 22, 23, 24]⟩, ⟨[], [], [], [5, 6, 7, 8, 9, 10, 11, 12, 13, 14, 15, 16, 17, 18, 19, 20, 21, 22, 23, 24, 25]⟩, ⟨[4], [], [4], [0, 1, 2, 3, 4, 5, 6, 7, 8, 9, 10, 11, 12, 13, 14, 15, 16, 17, 18, 19, 20, 21, 22, 23, 24, 25, 26]⟩, ⟨[4], [4], [], [0, 1, 2, 3, 4, 5, 6, 7, 8, 9, 10, 11, 12, 13, 14, 15, 16, 17, 18, 19, 20, 21, 22, 23, 24, 25, 26, 27]⟩] (by kernel_rfl) ?_
            refine d_cons ?_
            refine a_val (v := (.int .i64 x995)) (u := []) rfl trivial rfl ?_
            refine d_next (by kernel_rfl) ?_
            refine d_cons ?_
            refine a_val (v := (.int .i64 r2)) (u := []) rfl trivial rfl ?_
            refine d_next (by kernel_rfl) ?_
            refine d_cons ?_
            refine a_val (v := (.int .i64 (IntKind.i64.wrap (x995 - r2)))) (u := []) rfl trivial rfl ?_
            refine d_next (by kernel_rfl) ?_
            refine d_cons ?_
            refine a_val (v := (.int .i64 x1449)) (u := []) rfl trivial rfl ?_
            refine d_next (by kernel_rfl) ?_
            refine d_cons ?_
            refine a_val (v := (.int .i64 (IntKind.i64.wrap ((IntKind.i64.wrap (x995 - r2)) + x1449)))) (u := []) rfl trivial rfl ?_
            refine d_next (by kernel_rfl) ?_
            refine d_cons ?_
            refine a_val (v := (.int .i64 x995)) (u := []) rfl trivial rfl ?_
            refine d_next (by kernel_rfl) ?_
            refine d_cons ?_
            refine a_val (v := (.int .i64 r2)) (u := []) rfl trivial rfl ?_
            refine d_next (by kernel_rfl) ?_
            refine d_cons ?_
            refine a_val (v := (.int .i64 (IntKind.i64.wrap (x995 - r2)))) (u := []) rfl trivial rfl ?_
            refine d_next (by kernel_rfl) ?_
            refine d_cons ?_
            refine a_val (v := (.int .i64 x1449)) (u := []) rfl trivial rfl ?_
            refine d_next (by kernel_rfl) ?_
            refine d_cons ?_
            refine a_val (v := (.int .i64 (IntKind.i64.wrap ((IntKind.i64.wrap (x995 - r2)) + x1449)))) (u := []) rfl trivial rfl ?_
            refine d_next (by kernel_rfl) ?_
            refine d_cons ?_
            obtain ⟨hc1516, h⟩ := ifp_some h
            refine a_val (v := (.own 4 [(IntKind.i64.wrap ((IntKind.i64.wrap (x995 - r2)) + x1449)).toNat] [(IntKind.i64.wrap ((IntKind.i64.wrap (x995 - r2)) + x1449)).toNat * 1])) (u := []) rfl hc1516 rfl ?_
            refine d_next (by kernel_rfl) ?_
            refine d_cons ?_
            have hl1517 : LdOk [(IntKind.i64.wrap ((IntKind.i64.wrap (x995 - r2)) + x1449)).toNat] (eA64u8 x1450) [(IntKind.i64.wrap ((IntKind.i64.wrap (x995 - r2)) + x1449)).toNat * 1] 1 false (.int .u8 ((rd x1450.1 (IntKind.i64.wrap ((IntKind.i64.wrap (x995 - r2)) + x1449)).toNat))) := (.arr (vlt x1450 hc1516) rfl (.nil rfl rfl rfl))
            obtain ⟨x1518, hx1519, h⟩ := letp_some h
            refine a_val' (v := (.int .u8 ((rd x1450.1 (IntKind.i64.wrap ((IntKind.i64.wrap (x995 - r2)) + x1449)).toNat)))) (v' := (.int .u8 x1518)) (u := []) (u' := []) (ld_own (i := ⟨.int .u8, 1, 1, (.int .u8 0)⟩) rfl rfl rfl hl1517) (congrArg (fun z => ((.int .u8 z) : AV)) hx1519) rfl hl1517.c rfl ?_
            refine d_next (by kernel_rfl) ?_
            refine d_cons ?_
            refine a_val (v := (.int .i64 (IntKind.i64.wrap x1518))) (u := []) rfl trivial rfl ?_
            refine d_next (by kernel_rfl) ?_
            refine d_cons ?_
            refine a_val (v := (.int .i64 (Int.tmod x1405 a0))) (u := []) rfl trivial rfl ?_
            refine d_next (by kernel_rfl) ?_
            refine d_cons ?_
            refine a_val (v := (.int .i64 x1449)) (u := []) rfl trivial rfl ?_
            refine d_next (by kernel_rfl) ?_
            refine d_cons ?_
            obtain ⟨hc1520, h⟩ := ifp_some h
            refine a_val (v := (.own 5 [x1449.toNat] [x1449.toNat * 1])) (u := []) rfl hc1520 rfl ?_
            refine d_next (by kernel_rfl) ?_
            refine d_cons ?_
            have hl1521 : LdOk [x1449.toNat] (eA64u8 a2) [x1449.toNat * 1] 1 false (.int .u8 (rd a2.1 x1449.toNat)) := (.arr (vlt a2 hc1520) rfl (.nil rfl rfl rfl))
            refine a_val (v := (.int .u8 (rd a2.1 x1449.toNat))) (u := []) (ld_own (i := ⟨.int .u8, 1, 1, (.int .u8 0)⟩) rfl rfl rfl hl1521) hl1521.c rfl ?_
            refine d_next (by kernel_rfl) ?_
            refine d_cons ?_
            refine a_val (v := (.int .i64 (IntKind.i64.wrap (rd a2.1 x1449.toNat)))) (u := []) rfl trivial rfl ?_
            refine d_next (by kernel_rfl) ?_
            refine d_cons ?_
            obtain ⟨x1522, hx1523, h⟩ := letp_some h
            refine a_val' (v := (.int .i64 (IntKind.i64.wrap ((Int.tmod x1405 a0) * (IntKind.i64.wrap (rd a2.1 x1449.toNat)))))) (v' := (.int .i64 x1522)) (u := []) (u' := []) rfl (congrArg (fun z => ((.int .i64 z) : AV)) hx1523) rfl trivial rfl ?_
            refine d_next (by kernel_rfl) ?_
            refine d_cons ?_
            refine a_val (v := (.int .i64 (IntKind.i64.wrap ((IntKind.i64.wrap x1518) - x1522)))) (u := []) rfl trivial rfl ?_
            refine d_next (by kernel_rfl) ?_
            refine d_cons ?_
            refine a_val (v := (.int .i64 a0)) (u := []) rfl trivial rfl ?_
            refine d_next (by kernel_rfl) ?_
            refine d_cons ?_
            obtain ⟨hc1524, h⟩ := ifp_some h
            obtain ⟨x1525, hx1526, h⟩ := letp_some h
            refine a_val' (v := (.int .i64 (Int.tmod (IntKind.i64.wrap ((IntKind.i64.wrap x1518) - x1522)) a0))) (v' := (.int .i64 x1525)) (u := []) (u' := []) rfl (congrArg (fun z => ((.int .i64 z) : AV)) hx1526) rfl hc1524 rfl ?_
            refine d_next (by kernel_rfl) ?_
            refine d_cons ?_
            refine a_val (v := (.int .i64 a0)) (u := []) rfl trivial rfl ?_
            refine d_next (by kernel_rfl) ?_
            refine d_cons ?_
            refine a_val (v := (.int .i64 (IntKind.i64.wrap (x1525 + a0)))) (u := []) rfl trivial rfl ?_
            refine d_next (by kernel_rfl) ?_
            refine d_cons ?_
            refine a_val (v := (.int .i64 a0)) (u := []) rfl trivial rfl ?_
            refine d_next (by kernel_rfl) ?_
            refine d_cons ?_
            obtain ⟨hc1527, h⟩ := ifp_some h
            refine a_val (v := (.int .i64 (Int.tmod (IntKind.i64.wrap (x1525 + a0)) a0))) (u := []) rfl hc1527 rfl ?_
            refine d_next (by kernel_rfl) ?_
            refine d_cons ?_
            obtain ⟨x1528, hx1529, h⟩ := letp_some h
            refine a_val' (v := (.int .u8 (IntKind.u8.wrap (Int.tmod (IntKind.i64.wrap (x1525 + a0)) a0)))) (v' := (.int .u8 x1528)) (u := []) (u' := []) rfl (congrArg (fun z => ((.int .u8 z) : AV)) hx1529) rfl trivial rfl ?_
            refine d_next (by kernel_rfl) ?_
            refine d_cons ?_
            obtain ⟨hc1530, h⟩ := ifp_some h
            refine a_val (v := (.own 4 [(IntKind.i64.wrap ((IntKind.i64.wrap (x995 - r2)) + x1449)).toNat] [(IntKind.i64.wrap ((IntKind.i64.wrap (x995 - r2)) + x1449)).toNat * 1])) (u := []) rfl hc1530 rfl ?_
            refine d_next (by kernel_rfl) ?_
            refine d_cons ?_
            have hs1531 : StOk [(IntKind.i64.wrap ((IntKind.i64.wrap (x995 - r2)) + x1449)).toNat] (eA64u8 x1450) [(IntKind.i64.wrap ((IntKind.i64.wrap (x995 - r2)) + x1449)).toNat * 1] 1 (.int .u8 x1528) (eA64u8 ((vset x1450 (IntKind.i64.wrap ((IntKind.i64.wrap (x995 - r2)) + x1449)).toNat x1528))) := (.arr (y := x1528) (vlt x1450 hc1530) rfl (.nil rfl rfl rfl rfl))
            refine a_val (v := .top) (u := [(4, some ⟨(eA64u8 ((vset x1450 (IntKind.i64.wrap ((IntKind.i64.wrap (x995 - r2)) + x1449)).toNat x1528))), false⟩)]) (st_own (i := ⟨.int .u8, 1, 1, (.int .u8 0)⟩) rfl rfl (fun _ => rfl) rfl hs1531) (hs1531.c rfl) rfl ?_
            refine d_next (by kernel_rfl) ?_
            refine d_nil ?_
            refine b_norm ?_
            refine a_next (σ' := ⟨[(0, (.int .i64 a0)), (4, (.own 4 [] [])), (5, (.own 5 [] [])), (6, (.own 6 [] [])), (7, (.own 7 [] [])), (8, (.own 8 [] [])), (9, (.int .i64 r2)), (10, (.int .i64 (IntKind.i64.wrap r7))), (11, (.int .i64 x995)), (12, (.int .i64 (Int.tmod x1405 a0))), (13, (.int .i64 x1449))], [(4, some ⟨(eA64u8 ((vset x1450 (IntKind.i64.wrap ((IntKind.i64.wrap (x995 - r2)) + x1449)).toNat x1528))), false⟩), (5, some ⟨(eA64u8 a2), false⟩), (6, some ⟨(eA64u8 ((vrep 64 (0 : Int)))), false⟩), (7, some ⟨(eA64u8 ((vrep 64 (0 : Int)))), false⟩), (8, some ⟨(eA64u8 ((vset x997 (IntKind.i64.wrap (x995 - r2)).toNat (IntKind.u8.wrap (Int.tmod x1405 a0))))), false⟩)]⟩) (by kernel_rfl) ?_
            refine a_region ?_
            refine a_val (v := (.int .i64 x1449)) (u := []) rfl trivial rfl ?_
            refine a_val (v := (.int .i64 (IntKind.i64.wrap (x1449 + 1)))) (u := []) rfl trivial rfl ?_
            refine a_val (v := (.int .i64 (IntKind.i64.wrap (x1449 + 1)))) (u := []) rfl trivial rfl ?_
            refine a_nil ?_
            cases h
            exact a_again (by kernel_rfl) hX1492
        · have h := hy1496
          refine a_region ?_
          refine a_val (v := (.int .i64 x1449)) (u := []) rfl trivial rfl ?_
          refine a_val (v := (.int .i64 r2)) (u := []) rfl trivial rfl ?_
          refine a_val (v := (.bool ((decide (x1449 ≤ r2))))) (u := []) rfl trivial rfl ?_
          refine a_val (v := (.bool ((decide (x1449 ≤ r2))))) (u := []) rfl trivial rfl ?_
          cases hb1498 : (decide (x1449 ≤ r2))
          · have h := ite_f hb1498 h
            refine a_gskip rfl ?_
            refine a_gskip rfl ?_
            refine a_val (v := (.bool false)) (u := []) rfl trivial rfl ?_
            refine a_nil ?_
            exact j_leaf false (Option.some.inj h) (by kernel_rfl)
          · have h := ite_t hb1498 h
            refine a_gval rfl (v := (.int .i64 (Int.tmod x1405 a0))) (u := []) rfl trivial rfl ?_
            refine a_gval rfl (v := (.bool (((Int.tmod x1405 a0) != 0)))) (u := []) rfl trivial rfl ?_
            refine a_val (v := (.bool (((Int.tmod x1405 a0) != 0)))) (u := []) rfl trivial rfl ?_
            refine a_nil ?_
            exact j_leaf (((Int.tmod x1405 a0) != 0)) (Option.some.inj h) (by kernel_rfl)
end Go.Proofs.Ytgodhgbnjlflmaa
