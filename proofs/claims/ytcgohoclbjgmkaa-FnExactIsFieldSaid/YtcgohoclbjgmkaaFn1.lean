/- Functions of the program: plain Lean functions, and that the program computes them. Printed by gen.py. -/
import Derived.Test.YtcgohoclbjgmkaaFnT
namespace Go.Proofs.Ytcgohoclbjgmkaa
open Go.Abs Go.Proofs
set_option linter.unusedSimpArgs false
set_option linter.unusedVariables false
attribute [local irreducible] Abs.acode Abs.aops Abs.aopsT Abs.thenK Abs.blockK

def laws_toPoly_c : ACode := (.seq (.region 0 [⟨some 1, .box 22 (.tmp 0), none, []⟩, ⟨some 2, .alloc 24, none, []⟩] false) (.seq (.region 1 [⟨some 3, .alloc 24, none, []⟩] false) (.seq (.seq (.region 2 [⟨some 4, .asg 0 (.const (.int .i64 0)) 3, none, []⟩] false) (.block 0 (.loop (.seq (.seq (.region 3 [⟨some 5, .mov (.tmp 4), none, []⟩, ⟨some 6, .bin .lss 3 (.tmp 5) (.const (.int .i64 64)), none, []⟩] false) (.cond (.tmp 6) .skip (.exit 0))) (.seq (.block 1 (.region 5 [⟨some 9, .mov (.tmp 4), none, []⟩, ⟨some 10, .mov (.tmp 4), none, []⟩, ⟨some 11, .indexAddr 22 (.tmp 1) (.tmp 10), none, []⟩, ⟨some 12, .load 5 (.tmp 11), none, []⟩, ⟨some 13, .indexAddr 24 (.tmp 3) (.tmp 9), none, []⟩, ⟨none, .store 5 (.tmp 13) (.tmp 12), none, []⟩] false)) (.region 4 [⟨some 7, .mov (.tmp 4), none, []⟩, ⟨some 8, .bin .add 3 (.tmp 7) (.const (.int .i64 1)), none, []⟩, ⟨some 4, .asg 0 (.tmp 8) 3, none, []⟩] false)))))) (.seq (.region 6 [⟨some 14, .load 24 (.tmp 3), none, []⟩, ⟨none, .store 24 (.tmp 2) (.tmp 14), none, []⟩] false) .ret))))
def laws_toPoly_L : Live := [(0, [0]), (1, [1, 2]), (2, [1, 2, 3]), (3, [1, 2, 3, 4]), (4, [1, 2, 3, 4]), (5, [1, 2, 3, 4]), (6, [2, 3]), (100006, [1, 2, 3, 4, 6])]
theorem laws_toPoly_body : Try.f15.body = some (Try.f15.body.getD .skip) := by kernel_rfl
theorem laws_toPoly_strip : strip [] (Try.f15.body.getD .skip) = laws_toPoly_c := by kernel_rfl
noncomputable def laws_toPoly_l1 (a0 : (Vec Int 64)) (x31 : Int) (x32 : (Vec Int 64)) : Option ((Int × (Vec Int 64)) ⊕ (Vec Int 64)) :=
  (if (decide (x31 < 64)) then (ifp (0 ≤ x31 ∧ x31 < ((64 : Nat) : Int)) ((ifp (0 ≤ x31 ∧ x31 < ((64 : Nat) : Int)) ((some (.inl ((IntKind.i64.wrap (x31 + 1), (vset x32 x31.toNat (rd a0.1 x31.toNat)))))))))) else (some (.inr x32)))
noncomputable def laws_toPoly (a0 : (Vec Int 64)) : Option (Vec Int 64) :=
  (Option.bind (α := (Vec Int 64)) ((loopM (fun s : (Int × (Vec Int 64)) => laws_toPoly_l1 a0 s.1 s.2) (0, (vrep 64 (0 : Int))))) fun x22 => (some x22))
set_option maxHeartbeats 16000000 in
theorem laws_toPoly_ok (a0 : (Vec Int 64)) (r : (Vec Int 64)) (h : laws_toPoly a0 = some r) : Den Try.prog 15 [(eA64u8 a0)] { r := (eA64u8 r) } := by
  refine den_of (rs := [(eA64u8 r)]) (ac := laws_toPoly_c) (L := laws_toPoly_L) (n := 15) (m := []) good Try.func15 laws_toPoly_body (by kernel_rfl) Try.ntmps15 rfl rfl laws_toPoly_strip rfl rfl ?_
  refine a_st (σ' := ⟨[(0, (eA64u8 a0))], []⟩) (by kernel_rfl) ?_
  unfold laws_toPoly_c
  refine a_seq ?_
  refine a_region ?_
  refine a_val (v := (.own 1100 [] [])) (u := [(1100, some ⟨(eA64u8 a0), false⟩)]) rfl trivial rfl ?_
  refine a_val (v := (.own 1200 [] [])) (u := [(1200, some ⟨(eA64u8 ((vrep 64 (0 : Int)))), false⟩)]) rfl trivial rfl ?_
  refine a_nil ?_
  refine a_next (σ' := ⟨[(1, (.own 1 [] [])), (2, (.own 2 [] []))], [(1, some ⟨(eA64u8 a0), false⟩), (2, some ⟨(eA64u8 ((vrep 64 (0 : Int)))), false⟩)]⟩) (by kernel_rfl) ?_
  refine a_seq ?_
  refine a_region ?_
  refine a_val (v := (.own 1300 [] [])) (u := [(1300, some ⟨(eA64u8 ((vrep 64 (0 : Int)))), false⟩)]) rfl trivial rfl ?_
  refine a_nil ?_
  refine a_next (σ' := ⟨[(1, (.own 1 [] [])), (2, (.own 2 [] [])), (3, (.own 3 [] []))], [(1, some ⟨(eA64u8 a0), false⟩), (2, some ⟨(eA64u8 ((vrep 64 (0 : Int)))), false⟩), (3, some ⟨(eA64u8 ((vrep 64 (0 : Int)))), false⟩)]⟩) (by kernel_rfl) ?_
  obtain ⟨y23, hy24, hk25⟩ := bind_some h
  clear h
  refine a_join (emb := fun (s : (Vec Int 64)) => ⟨[(2, (.own 2 [] [])), (3, (.own 3 [] []))], [(2, some ⟨(eA64u8 ((vrep 64 (0 : Int)))), false⟩), (3, some ⟨(eA64u8 s), false⟩)]⟩) (pre := fun s => s = y23) ?_ ?_
  · rintro x22 rfl
    have h := hk25
    refine a_st (σ' := ⟨[(2, (.own 2 [] [])), (3, (.own 3 [] []))], [(2, some ⟨(eA64u8 ((vrep 64 (0 : Int)))), false⟩), (3, some ⟨(eA64u8 x22), false⟩)]⟩) (by kernel_rfl) ?_
    refine a_seq ?_
    refine a_region ?_
    have hl47 : LdOk [] (eA64u8 x22) [] 64 true (eA64u8 x22) := (.nil rfl rfl rfl)
    refine a_val (v := (eA64u8 x22)) (u := []) (ld_own (i := ⟨.arr 64 5, 64, 64, (eA64u8 (vrep 64 (0 : Int)))⟩) rfl rfl rfl hl47) hl47.c rfl ?_
    have hs48 : StOk [] (eA64u8 ((vrep 64 (0 : Int)))) [] 64 (eA64u8 x22) (eA64u8 x22) := (.nil rfl rfl rfl rfl)
    refine a_val (v := .top) (u := [(2, some ⟨(eA64u8 x22), false⟩)]) (st_own (i := ⟨.arr 64 5, 64, 64, (eA64u8 (vrep 64 (0 : Int)))⟩) rfl rfl (fun _ => rfl) rfl hs48) (hs48.c rfl) rfl ?_
    refine a_nil ?_
    refine a_next rfl ?_
    refine a_ret ?_
    have hl49 : LdOk [] (eA64u8 x22) [] 64 true (eA64u8 x22) := (.nil rfl rfl rfl)
    refine ⟨.inr rfl, ?_⟩
    rw [Try.results15]
    cases h
    exact ⟨_, _, _, _, _, ld_own (i := ⟨.arr 64 5, 64, 64, (eA64u8 (vrep 64 (0 : Int)))⟩) rfl rfl rfl hl49, hl49.c, .inl ⟨rfl, .inl rfl⟩, rfl, rfl⟩
  · have h := hy24
    refine a_seq ?_
    refine a_region ?_
    refine a_val (v := (.int .i64 0)) (u := []) rfl trivial rfl ?_
    refine a_nil ?_
    refine a_next (σ' := ⟨[(1, (.own 1 [] [])), (2, (.own 2 [] [])), (3, (.own 3 [] [])), (4, (.int .i64 0))], [(1, some ⟨(eA64u8 a0), false⟩), (2, some ⟨(eA64u8 ((vrep 64 (0 : Int)))), false⟩), (3, some ⟨(eA64u8 ((vrep 64 (0 : Int)))), false⟩)]⟩) (by kernel_rfl) ?_
    refine a_block ?_
    refine a_loop (emb := fun (s : (Int × (Vec Int 64))) => ⟨[(1, (.own 1 [] [])), (2, (.own 2 [] [])), (3, (.own 3 [] [])), (4, (.int .i64 s.1))], [(1, some ⟨(eA64u8 a0), false⟩), (2, some ⟨(eA64u8 ((vrep 64 (0 : Int)))), false⟩), (3, some ⟨(eA64u8 s.2), false⟩)]⟩) (body := (fun s : (Int × (Vec Int 64)) => laws_toPoly_l1 a0 s.1 s.2)) (G := fun q => some q = some y23) h rfl ?_ (by kernel_rfl)
    rintro X38 ⟨x31, x32⟩ x39 h hX40
    have h : laws_toPoly_l1 a0 x31 x32 = some x39 := h
    refine a_st (σ' := ⟨[(1, (.own 1 [] [])), (2, (.own 2 [] [])), (3, (.own 3 [] [])), (4, (.int .i64 x31))], [(1, some ⟨(eA64u8 a0), false⟩), (2, some ⟨(eA64u8 ((vrep 64 (0 : Int)))), false⟩), (3, some ⟨(eA64u8 x32), false⟩)]⟩) (by kernel_rfl) ?_
    refine a_seq ?_
    refine a_seq ?_
    refine a_region ?_
    refine a_val (v := (.int .i64 x31)) (u := []) rfl trivial rfl ?_
    refine a_val (v := (.bool ((decide (x31 < 64))))) (u := []) rfl trivial rfl ?_
    refine a_nil ?_
    refine a_next (σ' := ⟨[(1, (.own 1 [] [])), (2, (.own 2 [] [])), (3, (.own 3 [] [])), (4, (.int .i64 x31)), (6, (.bool ((decide (x31 < 64)))))], [(1, some ⟨(eA64u8 a0), false⟩), (2, some ⟨(eA64u8 ((vrep 64 (0 : Int)))), false⟩), (3, some ⟨(eA64u8 x32), false⟩)]⟩) (by kernel_rfl) ?_
    cases hb41 : (decide (x31 < 64))
    · have h := ite_f hb41 h
      refine a_cond_f rfl ?_
      refine a_exit ?_
      refine t_exit ?_
      cases h
      have h := hX40
      refine t_exit ?_
      refine b_exit ?_
      exact j_leaf x32 (Option.some.inj h) (by kernel_rfl)
    · have h := ite_t hb41 h
      refine a_cond_t rfl ?_
      refine a_skip ?_
      refine a_next (σ' := ⟨[(1, (.own 1 [] [])), (2, (.own 2 [] [])), (3, (.own 3 [] [])), (4, (.int .i64 x31))], [(1, some ⟨(eA64u8 a0), false⟩), (2, some ⟨(eA64u8 ((vrep 64 (0 : Int)))), false⟩), (3, some ⟨(eA64u8 x32), false⟩)]⟩) (by kernel_rfl) ?_
      refine a_seq ?_
      refine a_block ?_
      refine a_region ?_
      refine a_val (v := (.int .i64 x31)) (u := []) rfl trivial rfl ?_
      refine a_val (v := (.int .i64 x31)) (u := []) rfl trivial rfl ?_
      obtain ⟨hc42, h⟩ := ifp_some h
      refine a_val (v := (.own 1 [x31.toNat] [x31.toNat * 1])) (u := []) rfl hc42 rfl ?_
      have hl43 : LdOk [x31.toNat] (eA64u8 a0) [x31.toNat * 1] 1 false (.int .u8 (rd a0.1 x31.toNat)) := (.arr (vlt a0 hc42) rfl (.nil rfl rfl rfl))
      refine a_val (v := (.int .u8 (rd a0.1 x31.toNat))) (u := []) (ld_own (i := ⟨.int .u8, 1, 1, (.int .u8 0)⟩) rfl rfl rfl hl43) hl43.c rfl ?_
      obtain ⟨hc44, h⟩ := ifp_some h
      refine a_val (v := (.own 3 [x31.toNat] [x31.toNat * 1])) (u := []) rfl hc44 rfl ?_
      have hs45 : StOk [x31.toNat] (eA64u8 x32) [x31.toNat * 1] 1 (.int .u8 (rd a0.1 x31.toNat)) (eA64u8 ((vset x32 x31.toNat (rd a0.1 x31.toNat)))) := (.arr (y := (rd a0.1 x31.toNat)) (vlt x32 hc44) rfl (.nil rfl rfl rfl rfl))
      refine a_val (v := .top) (u := [(3, some ⟨(eA64u8 ((vset x32 x31.toNat (rd a0.1 x31.toNat)))), false⟩)]) (st_own (i := ⟨.int .u8, 1, 1, (.int .u8 0)⟩) rfl rfl (fun _ => rfl) rfl hs45) (hs45.c rfl) rfl ?_
      refine a_nil ?_
      refine b_norm ?_
      refine a_next (σ' := ⟨[(1, (.own 1 [] [])), (2, (.own 2 [] [])), (3, (.own 3 [] [])), (4, (.int .i64 x31))], [(1, some ⟨(eA64u8 a0), false⟩), (2, some ⟨(eA64u8 ((vrep 64 (0 : Int)))), false⟩), (3, some ⟨(eA64u8 ((vset x32 x31.toNat (rd a0.1 x31.toNat)))), false⟩)]⟩) (by kernel_rfl) ?_
      refine a_region ?_
      refine a_val (v := (.int .i64 x31)) (u := []) rfl trivial rfl ?_
      refine a_val (v := (.int .i64 (IntKind.i64.wrap (x31 + 1)))) (u := []) rfl trivial rfl ?_
      refine a_val (v := (.int .i64 (IntKind.i64.wrap (x31 + 1)))) (u := []) rfl trivial rfl ?_
      refine a_nil ?_
      cases h
      exact a_again (by kernel_rfl) hX40
def spec_l01Prime_c : ACode := (.seq (.region 0 [⟨some 2, .asg 0 (.const (.bool false)) 4, none, []⟩] false) (.seq (.region 1 [⟨some 3, .mov (.tmp 0), none, []⟩, ⟨some 4, .bin .eql 2 (.tmp 3) (.const (.int .i64 2)), none, []⟩, ⟨some 5, .mov (.tmp 4), none, []⟩, ⟨some 6, .mov (.tmp 0), some (5, false), []⟩, ⟨some 7, .bin .eql 2 (.tmp 6) (.const (.int .i64 3)), some (5, false), []⟩, ⟨some 8, .pick (.tmp 5) (.const (.bool true)) (.tmp 7), none, []⟩, ⟨some 9, .mov (.tmp 8), none, []⟩, ⟨some 10, .mov (.tmp 0), some (9, false), []⟩, ⟨some 11, .bin .eql 2 (.tmp 10) (.const (.int .i64 5)), some (9, false), []⟩, ⟨some 12, .pick (.tmp 9) (.const (.bool true)) (.tmp 11), none, []⟩, ⟨some 13, .mov (.tmp 12), none, []⟩, ⟨some 14, .mov (.tmp 0), some (13, false), []⟩, ⟨some 15, .bin .eql 2 (.tmp 14) (.const (.int .i64 7)), some (13, false), []⟩, ⟨some 16, .pick (.tmp 13) (.const (.bool true)) (.tmp 15), none, []⟩, ⟨some 2, .asg 0 (.tmp 16) 4, none, []⟩] false) .ret))
def spec_l01Prime_L : Live := [(0, [0]), (1, [0])]
theorem spec_l01Prime_body : Try.f60.body = some (Try.f60.body.getD .skip) := by kernel_rfl
theorem spec_l01Prime_strip : strip [] (Try.f60.body.getD .skip) = spec_l01Prime_c := by kernel_rfl
noncomputable def spec_l01Prime (a0 : Int) : Option Bool :=
  (if (a0 == 2) then (some true) else (if (a0 == 3) then (some true) else (if (a0 == 5) then (some true) else (some (a0 == 7)))))
set_option maxHeartbeats 16000000 in
theorem spec_l01Prime_ok (a0 : Int) (r : Bool) (h : spec_l01Prime a0 = some r) : Den Try.prog 60 [(.int .i64 a0)] { r := (.bool r) } := by
  refine den_of (rs := [(.bool r)]) (ac := spec_l01Prime_c) (L := spec_l01Prime_L) (n := 17) (m := []) good Try.func60 spec_l01Prime_body (by kernel_rfl) Try.ntmps60 rfl rfl spec_l01Prime_strip rfl rfl ?_
  refine a_st (σ' := ⟨[(0, (.int .i64 a0))], []⟩) (by kernel_rfl) ?_
  unfold spec_l01Prime_c
  refine a_seq ?_
  refine a_region ?_
  refine a_val (v := (.bool false)) (u := []) rfl trivial rfl ?_
  refine a_nil ?_
  refine a_next (σ' := ⟨[(0, (.int .i64 a0))], []⟩) (by kernel_rfl) ?_
  refine a_seq ?_
  refine a_region ?_
  refine a_val (v := (.int .i64 a0)) (u := []) rfl trivial rfl ?_
  refine a_val (v := (.bool (a0 == 2))) (u := []) rfl trivial rfl ?_
  refine a_val (v := (.bool (a0 == 2))) (u := []) rfl trivial rfl ?_
  cases hb1 : (a0 == 2)
  · have h := ite_f hb1 h
    refine a_gval rfl (v := (.int .i64 a0)) (u := []) rfl trivial rfl ?_
    refine a_gval rfl (v := (.bool (a0 == 3))) (u := []) rfl trivial rfl ?_
    refine a_val (v := (.bool (a0 == 3))) (u := []) rfl trivial rfl ?_
    refine a_val (v := (.bool (a0 == 3))) (u := []) rfl trivial rfl ?_
    cases hb2 : (a0 == 3)
    · have h := ite_f hb2 h
      refine a_gval rfl (v := (.int .i64 a0)) (u := []) rfl trivial rfl ?_
      refine a_gval rfl (v := (.bool (a0 == 5))) (u := []) rfl trivial rfl ?_
      refine a_val (v := (.bool (a0 == 5))) (u := []) rfl trivial rfl ?_
      refine a_val (v := (.bool (a0 == 5))) (u := []) rfl trivial rfl ?_
      cases hb3 : (a0 == 5)
      · have h := ite_f hb3 h
        refine a_gval rfl (v := (.int .i64 a0)) (u := []) rfl trivial rfl ?_
        refine a_gval rfl (v := (.bool (a0 == 7))) (u := []) rfl trivial rfl ?_
        refine a_val (v := (.bool (a0 == 7))) (u := []) rfl trivial rfl ?_
        refine a_val (v := (.bool (a0 == 7))) (u := []) rfl trivial rfl ?_
        refine a_nil ?_
        refine a_next rfl ?_
        refine a_ret ?_
        refine ⟨.inr rfl, ?_⟩
        rw [Try.results60]
        cases h
        exact ⟨_, _, _, _, _, rfl, trivial, .inl ⟨rfl, .inl rfl⟩, rfl, rfl⟩
      · have h := ite_t hb3 h
        refine a_gskip rfl ?_
        refine a_gskip rfl ?_
        refine a_val (v := (.bool true)) (u := []) rfl trivial rfl ?_
        refine a_val (v := (.bool true)) (u := []) rfl trivial rfl ?_
        refine a_nil ?_
        refine a_next rfl ?_
        refine a_ret ?_
        refine ⟨.inr rfl, ?_⟩
        rw [Try.results60]
        cases h
        exact ⟨_, _, _, _, _, rfl, trivial, .inl ⟨rfl, .inl rfl⟩, rfl, rfl⟩
    · have h := ite_t hb2 h
      refine a_gskip rfl ?_
      refine a_gskip rfl ?_
      refine a_val (v := (.bool true)) (u := []) rfl trivial rfl ?_
      refine a_val (v := (.bool true)) (u := []) rfl trivial rfl ?_
      refine a_gskip rfl ?_
      refine a_gskip rfl ?_
      refine a_val (v := (.bool true)) (u := []) rfl trivial rfl ?_
      refine a_val (v := (.bool true)) (u := []) rfl trivial rfl ?_
      refine a_nil ?_
      refine a_next rfl ?_
      refine a_ret ?_
      refine ⟨.inr rfl, ?_⟩
      rw [Try.results60]
      cases h
      exact ⟨_, _, _, _, _, rfl, trivial, .inl ⟨rfl, .inl rfl⟩, rfl, rfl⟩
  · have h := ite_t hb1 h
    refine a_gskip rfl ?_
    refine a_gskip rfl ?_
    refine a_val (v := (.bool true)) (u := []) rfl trivial rfl ?_
    refine a_val (v := (.bool true)) (u := []) rfl trivial rfl ?_
    refine a_gskip rfl ?_
    refine a_gskip rfl ?_
    refine a_val (v := (.bool true)) (u := []) rfl trivial rfl ?_
    refine a_val (v := (.bool true)) (u := []) rfl trivial rfl ?_
    refine a_gskip rfl ?_
    refine a_gskip rfl ?_
    refine a_val (v := (.bool true)) (u := []) rfl trivial rfl ?_
    refine a_val (v := (.bool true)) (u := []) rfl trivial rfl ?_
    refine a_nil ?_
    refine a_next rfl ?_
    refine a_ret ?_
    refine ⟨.inr rfl, ?_⟩
    rw [Try.results60]
    cases h
    exact ⟨_, _, _, _, _, rfl, trivial, .inl ⟨rfl, .inl rfl⟩, rfl, rfl⟩
def spec_l01Is_c : ACode := (.seq (.region 0 [⟨some 3, .box 24 (.tmp 1), none, []⟩, ⟨some 4, .asg 0 (.const (.bool false)) 4, none, []⟩] false) (.seq (.seq (.region 1 [⟨some 5, .asg 0 (.const (.int .i64 0)) 3, none, []⟩] false) (.block 0 (.loop (.seq (.seq (.region 2 [⟨some 6, .mov (.tmp 5), none, []⟩, ⟨some 7, .bin .lss 3 (.tmp 6) (.const (.int .i64 64)), none, []⟩] false) (.cond (.tmp 7) .skip (.exit 0))) (.seq (.block 1 (.seq (.region 4 [⟨some 10, .mov (.tmp 5), none, []⟩, ⟨some 11, .indexAddr 24 (.tmp 3) (.tmp 10), none, []⟩, ⟨some 12, .load 5 (.tmp 11), none, []⟩, ⟨some 13, .conv 5 2 (.tmp 12), none, []⟩, ⟨some 14, .mov (.tmp 0), none, []⟩, ⟨some 15, .bin .geq 2 (.tmp 13) (.tmp 14), none, []⟩] false) (.cond (.tmp 15) (.seq (.region 5 [⟨some 4, .asg 0 (.const (.bool false)) 4, none, []⟩] false) .ret) .skip))) (.region 3 [⟨some 8, .mov (.tmp 5), none, []⟩, ⟨some 9, .bin .add 3 (.tmp 8) (.const (.int .i64 1)), none, []⟩, ⟨some 5, .asg 0 (.tmp 9) 3, none, []⟩] false)))))) (.seq (.region 6 [⟨some 16, .mov (.tmp 0), none, []⟩, ⟨some 17, .call 0 (.func 60) [(.tmp 16)], none, []⟩, ⟨some 4, .asg 0 (.tmp 17) 4, none, []⟩] false) .ret)))
def spec_l01Is_L : Live := [(0, [0, 1]), (1, [0, 3]), (2, [0, 3, 5]), (3, [0, 3, 5]), (4, [0, 3, 5]), (5, []), (6, [0]), (100007, [0, 3, 5, 7]), (100015, [0, 3, 5, 15])]
theorem spec_l01Is_body : Try.f91.body = some (Try.f91.body.getD .skip) := by kernel_rfl
theorem spec_l01Is_strip : strip [] (Try.f91.body.getD .skip) = spec_l01Is_c := by kernel_rfl
noncomputable def spec_l01Is_l1 (a1 : (Vec Int 64)) (a0 : Int) (x29 : Int) : Option (Int ⊕ (Unit ⊕ Bool)) :=
  (if (decide (x29 < 64)) then (ifp (0 ≤ x29 ∧ x29 < ((64 : Nat) : Int)) ((if (decide ((IntKind.i64.wrap (rd a1.1 x29.toNat)) ≥ a0)) then (some (.inr (.inr false))) else (some (.inl (IntKind.i64.wrap (x29 + 1))))))) else (some (.inr (((.inl ()))))))
noncomputable def spec_l01Is (a0 : Int) (a1 : (Vec Int 64)) : Option Bool :=
  (Option.bind (α := (Unit ⊕ Bool)) ((loopM (fun s : Int => spec_l01Is_l1 a1 a0 s) 0)) fun z => match z with | .inl _ => (Option.bind (spec_l01Prime a0) fun r42 => (some r42)) | .inr r44 => (some r44))
set_option maxHeartbeats 16000000 in
theorem spec_l01Is_ok (a0 : Int) (a1 : (Vec Int 64)) (r : Bool) (h : spec_l01Is a0 a1 = some r) : Den Try.prog 91 [(.int .i64 a0), (eA64u8 a1)] { r := (.bool r) } := by
  refine den_of (rs := [(.bool r)]) (ac := spec_l01Is_c) (L := spec_l01Is_L) (n := 18) (m := []) good Try.func91 spec_l01Is_body (by kernel_rfl) Try.ntmps91 rfl rfl spec_l01Is_strip rfl rfl ?_
  refine a_st (σ' := ⟨[(0, (.int .i64 a0)), (1, (eA64u8 a1))], []⟩) (by kernel_rfl) ?_
  unfold spec_l01Is_c
  refine a_seq ?_
  refine a_region ?_
  refine a_val (v := (.own 1300 [] [])) (u := [(1300, some ⟨(eA64u8 a1), false⟩)]) rfl trivial rfl ?_
  refine a_val (v := (.bool false)) (u := []) rfl trivial rfl ?_
  refine a_nil ?_
  refine a_next (σ' := ⟨[(0, (.int .i64 a0)), (3, (.own 3 [] []))], [(3, some ⟨(eA64u8 a1), false⟩)]⟩) (by kernel_rfl) ?_
  obtain ⟨y20, hy21, hk22⟩ := bind_some h
  clear h
  refine a_join (emb := fun (s : Unit) => ⟨[(0, (.int .i64 a0))], []⟩) (pre := fun s => (.inl s) = y20) ?_ ?_
  · rintro _ rfl
    have h := hk22
    refine a_st (σ' := ⟨[(0, (.int .i64 a0))], []⟩) (by kernel_rfl) ?_
    refine a_seq ?_
    refine a_region ?_
    refine a_val (v := (.int .i64 a0)) (u := []) rfl trivial rfl ?_
    obtain ⟨r42, hr43, h⟩ := bind_some h
    refine a_call (args := [(.int .i64 a0)]) (u := []) (r := (.bool r42)) rfl rfl (spec_l01Prime_ok a0 r42 hr43) rfl ?_
    refine a_val (v := (.bool r42)) (u := []) rfl trivial rfl ?_
    refine a_nil ?_
    refine a_next rfl ?_
    refine a_ret ?_
    refine ⟨.inr rfl, ?_⟩
    rw [Try.results91]
    cases h
    exact ⟨_, _, _, _, _, rfl, trivial, .inl ⟨rfl, .inl rfl⟩, rfl, rfl⟩
  · have h := hy21
    refine a_seq ?_
    refine a_region ?_
    refine a_val (v := (.int .i64 0)) (u := []) rfl trivial rfl ?_
    refine a_nil ?_
    refine a_next (σ' := ⟨[(0, (.int .i64 a0)), (3, (.own 3 [] [])), (5, (.int .i64 0))], [(3, some ⟨(eA64u8 a1), false⟩)]⟩) (by kernel_rfl) ?_
    refine a_block ?_
    refine a_loop (emb := fun (s : Int) => ⟨[(0, (.int .i64 a0)), (3, (.own 3 [] [])), (5, (.int .i64 s))], [(3, some ⟨(eA64u8 a1), false⟩)]⟩) (body := (fun s : Int => spec_l01Is_l1 a1 a0 s)) (G := fun q => some q = some y20) h rfl ?_ (by kernel_rfl)
    rintro X34 x29 x35 h hX36
    have h : spec_l01Is_l1 a1 a0 x29 = some x35 := h
    refine a_st (σ' := ⟨[(0, (.int .i64 a0)), (3, (.own 3 [] [])), (5, (.int .i64 x29))], [(3, some ⟨(eA64u8 a1), false⟩)]⟩) (by kernel_rfl) ?_
    refine a_seq ?_
    refine a_seq ?_
    refine a_region ?_
    refine a_val (v := (.int .i64 x29)) (u := []) rfl trivial rfl ?_
    refine a_val (v := (.bool ((decide (x29 < 64))))) (u := []) rfl trivial rfl ?_
    refine a_nil ?_
    refine a_next (σ' := ⟨[(0, (.int .i64 a0)), (3, (.own 3 [] [])), (5, (.int .i64 x29)), (7, (.bool ((decide (x29 < 64)))))], [(3, some ⟨(eA64u8 a1), false⟩)]⟩) (by kernel_rfl) ?_
    cases hb37 : (decide (x29 < 64))
    · have h := ite_f hb37 h
      refine a_cond_f rfl ?_
      refine a_exit ?_
      refine t_exit ?_
      cases h
      have h := hX36
      refine t_exit ?_
      refine b_exit ?_
      exact j_leaf () (Option.some.inj h) (by kernel_rfl)
    · have h := ite_t hb37 h
      refine a_cond_t rfl ?_
      refine a_skip ?_
      refine a_next (σ' := ⟨[(0, (.int .i64 a0)), (3, (.own 3 [] [])), (5, (.int .i64 x29))], [(3, some ⟨(eA64u8 a1), false⟩)]⟩) (by kernel_rfl) ?_
      refine a_seq ?_
      refine a_block ?_
      refine a_seq ?_
      refine a_region ?_
      refine a_val (v := (.int .i64 x29)) (u := []) rfl trivial rfl ?_
      obtain ⟨hc38, h⟩ := ifp_some h
      refine a_val (v := (.own 3 [x29.toNat] [x29.toNat * 1])) (u := []) rfl hc38 rfl ?_
      have hl39 : LdOk [x29.toNat] (eA64u8 a1) [x29.toNat * 1] 1 false (.int .u8 (rd a1.1 x29.toNat)) := (.arr (vlt a1 hc38) rfl (.nil rfl rfl rfl))
      refine a_val (v := (.int .u8 (rd a1.1 x29.toNat))) (u := []) (ld_own (i := ⟨.int .u8, 1, 1, (.int .u8 0)⟩) rfl rfl rfl hl39) hl39.c rfl ?_
      refine a_val (v := (.int .i64 (IntKind.i64.wrap (rd a1.1 x29.toNat)))) (u := []) rfl trivial rfl ?_
      refine a_val (v := (.int .i64 a0)) (u := []) rfl trivial rfl ?_
      refine a_val (v := (.bool ((decide ((IntKind.i64.wrap (rd a1.1 x29.toNat)) ≥ a0))))) (u := []) rfl trivial rfl ?_
      refine a_nil ?_
      refine a_next (σ' := ⟨[(0, (.int .i64 a0)), (3, (.own 3 [] [])), (5, (.int .i64 x29)), (15, (.bool ((decide ((IntKind.i64.wrap (rd a1.1 x29.toNat)) ≥ a0)))))], [(3, some ⟨(eA64u8 a1), false⟩)]⟩) (by kernel_rfl) ?_
      cases hb40 : (decide ((IntKind.i64.wrap (rd a1.1 x29.toNat)) ≥ a0))
      · have h := ite_f hb40 h
        refine a_cond_f rfl ?_
        refine a_skip ?_
        refine b_norm ?_
        refine a_next (σ' := ⟨[(0, (.int .i64 a0)), (3, (.own 3 [] [])), (5, (.int .i64 x29))], [(3, some ⟨(eA64u8 a1), false⟩)]⟩) (by kernel_rfl) ?_
        refine a_region ?_
        refine a_val (v := (.int .i64 x29)) (u := []) rfl trivial rfl ?_
        refine a_val (v := (.int .i64 (IntKind.i64.wrap (x29 + 1)))) (u := []) rfl trivial rfl ?_
        refine a_val (v := (.int .i64 (IntKind.i64.wrap (x29 + 1)))) (u := []) rfl trivial rfl ?_
        refine a_nil ?_
        cases h
        exact a_again (by kernel_rfl) hX36
      · have h := ite_t hb40 h
        refine a_cond_t rfl ?_
        refine a_seq ?_
        refine a_region ?_
        refine a_val (v := (.bool false)) (u := []) rfl trivial rfl ?_
        refine a_nil ?_
        refine a_next rfl ?_
        refine a_ret ?_
        refine b_ret ?_
        refine t_ret ?_
        cases h
        have h := hX36
        refine t_ret ?_
        refine b_ret ?_
        refine t_ret ?_
        cases h
        have h := hk22
        refine ⟨.inr rfl, ?_⟩
        rw [Try.results91]
        cases h
        exact ⟨_, _, _, _, _, rfl, trivial, .inl ⟨rfl, .inl rfl⟩, rfl, rfl⟩
def spec_l01Deg_c : ACode := (.seq (.region 0 [⟨some 1, .box 24 (.tmp 0), none, []⟩, ⟨some 2, .asg 0 (.const (.int .i64 0)) 2, none, []⟩] false) (.seq (.region 1 [⟨some 3, .asg 0 (.const (.int .i64 63)) 2, none, []⟩] false) (.seq (.block 0 (.loop (.seq (.seq (.region 2 [⟨some 4, .mov (.tmp 3), none, []⟩, ⟨some 5, .bin .geq 2 (.tmp 4) (.const (.int .i64 0)), none, []⟩, ⟨some 6, .mov (.tmp 5), none, []⟩, ⟨some 7, .mov (.tmp 3), some (6, true), []⟩, ⟨some 8, .indexAddr 24 (.tmp 1) (.tmp 7), some (6, true), []⟩, ⟨some 9, .load 5 (.tmp 8), some (6, true), []⟩, ⟨some 10, .bin .eql 5 (.tmp 9) (.const (.int .u8 0)), some (6, true), []⟩, ⟨some 11, .pick (.tmp 6) (.tmp 10) (.const (.bool false)), none, []⟩] false) (.cond (.tmp 11) .skip (.exit 0))) (.block 1 (.region 3 [⟨some 12, .mov (.tmp 3), none, []⟩, ⟨some 13, .bin .sub 2 (.tmp 12) (.const (.int .i64 1)), none, []⟩, ⟨some 3, .asg 0 (.tmp 13) 2, none, []⟩] false))))) (.seq (.region 4 [⟨some 14, .mov (.tmp 3), none, []⟩, ⟨some 2, .asg 0 (.tmp 14) 2, none, []⟩] false) .ret))))
def spec_l01Deg_L : Live := [(0, [0]), (1, [1]), (2, [1, 3]), (3, [1, 3]), (4, [3]), (100011, [1, 3, 11])]
theorem spec_l01Deg_body : Try.f81.body = some (Try.f81.body.getD .skip) := by kernel_rfl
theorem spec_l01Deg_strip : strip [] (Try.f81.body.getD .skip) = spec_l01Deg_c := by kernel_rfl
noncomputable def spec_l01Deg_l1 (a0 : (Vec Int 64)) (x54 : Int) : Option (Int ⊕ Int) :=
  (Option.bind (α := Bool) ((if (decide (x54 ≥ 0)) then (ifp (0 ≤ x54 ∧ x54 < ((64 : Nat) : Int)) ((some (((rd a0.1 x54.toNat) == 0))))) else (some false))) fun x72 => (if x72 then (some (.inl (IntKind.i64.wrap (x54 - 1)))) else (some (.inr x54))))
noncomputable def spec_l01Deg (a0 : (Vec Int 64)) : Option Int :=
  (Option.bind (α := Int) ((loopM (fun s : Int => spec_l01Deg_l1 a0 s) 63)) fun x39 => (some x39))
set_option maxHeartbeats 16000000 in
theorem spec_l01Deg_ok (a0 : (Vec Int 64)) (r : Int) (h : spec_l01Deg a0 = some r) : Den Try.prog 81 [(eA64u8 a0)] { r := (.int .i64 r) } := by
  refine den_of (rs := [(.int .i64 r)]) (ac := spec_l01Deg_c) (L := spec_l01Deg_L) (n := 15) (m := []) good Try.func81 spec_l01Deg_body (by kernel_rfl) Try.ntmps81 rfl rfl spec_l01Deg_strip rfl rfl ?_
  refine a_st (σ' := ⟨[(0, (eA64u8 a0))], []⟩) (by kernel_rfl) ?_
  unfold spec_l01Deg_c
  refine a_seq ?_
  refine a_region ?_
  refine a_val (v := (.own 1100 [] [])) (u := [(1100, some ⟨(eA64u8 a0), false⟩)]) rfl trivial rfl ?_
  refine a_val (v := (.int .i64 0)) (u := []) rfl trivial rfl ?_
  refine a_nil ?_
  refine a_next (σ' := ⟨[(1, (.own 1 [] []))], [(1, some ⟨(eA64u8 a0), false⟩)]⟩) (by kernel_rfl) ?_
  refine a_seq ?_
  refine a_region ?_
  refine a_val (v := (.int .i64 63)) (u := []) rfl trivial rfl ?_
  refine a_nil ?_
  refine a_next (σ' := ⟨[(1, (.own 1 [] [])), (3, (.int .i64 63))], [(1, some ⟨(eA64u8 a0), false⟩)]⟩) (by kernel_rfl) ?_
  obtain ⟨y40, hy41, hk42⟩ := bind_some h
  clear h
  refine a_join (emb := fun (s : Int) => ⟨[(3, (.int .i64 s))], []⟩) (pre := fun s => s = y40) ?_ ?_
  · rintro x39 rfl
    have h := hk42
    refine a_st (σ' := ⟨[(3, (.int .i64 x39))], []⟩) (by kernel_rfl) ?_
    refine a_seq ?_
    refine a_region ?_
    refine a_val (v := (.int .i64 x39)) (u := []) rfl trivial rfl ?_
    refine a_val (v := (.int .i64 x39)) (u := []) rfl trivial rfl ?_
    refine a_nil ?_
    refine a_next rfl ?_
    refine a_ret ?_
    refine ⟨.inr rfl, ?_⟩
    rw [Try.results81]
    cases h
    exact ⟨_, _, _, _, _, rfl, trivial, .inl ⟨rfl, .inl rfl⟩, rfl, rfl⟩
  · have h := hy41
    refine a_block ?_
    refine a_loop (emb := fun (s : Int) => ⟨[(1, (.own 1 [] [])), (3, (.int .i64 s))], [(1, some ⟨(eA64u8 a0), false⟩)]⟩) (body := (fun s : Int => spec_l01Deg_l1 a0 s)) (G := fun q => some q = some y40) h rfl ?_ (by kernel_rfl)
    rintro X66 x54 x67 h hX68
    have h : spec_l01Deg_l1 a0 x54 = some x67 := h
    refine a_st (σ' := ⟨[(1, (.own 1 [] [])), (3, (.int .i64 x54))], [(1, some ⟨(eA64u8 a0), false⟩)]⟩) (by kernel_rfl) ?_
    refine a_seq ?_
    obtain ⟨y73, hy74, hk75⟩ := bind_some h
    clear h
    refine a_join (emb := fun (s : Bool) => ⟨[(1, (.own 1 [] [])), (3, (.int .i64 x54)), (11, (.bool s))], [(1, some ⟨(eA64u8 a0), false⟩)]⟩) (pre := fun s => s = y73) ?_ ?_
    · rintro x72 rfl
      have h := hk75
      refine a_st (σ' := ⟨[(1, (.own 1 [] [])), (3, (.int .i64 x54)), (11, (.bool x72))], [(1, some ⟨(eA64u8 a0), false⟩)]⟩) (by kernel_rfl) ?_
      cases hb79 : x72
      · have h := ite_f hb79 h
        refine a_cond_f rfl ?_
        refine a_exit ?_
        refine t_exit ?_
        cases h
        have h := hX68
        refine t_exit ?_
        refine b_exit ?_
        exact j_leaf x54 (Option.some.inj h) (by kernel_rfl)
      · have h := ite_t hb79 h
        refine a_cond_t rfl ?_
        refine a_skip ?_
        refine a_next (σ' := ⟨[(1, (.own 1 [] [])), (3, (.int .i64 x54))], [(1, some ⟨(eA64u8 a0), false⟩)]⟩) (by kernel_rfl) ?_
        refine a_block ?_
        refine a_region ?_
        refine a_val (v := (.int .i64 x54)) (u := []) rfl trivial rfl ?_
        refine a_val (v := (.int .i64 (IntKind.i64.wrap (x54 - 1)))) (u := []) rfl trivial rfl ?_
        refine a_val (v := (.int .i64 (IntKind.i64.wrap (x54 - 1)))) (u := []) rfl trivial rfl ?_
        refine a_nil ?_
        refine b_norm ?_
        cases h
        exact a_again (by kernel_rfl) hX68
    · have h := hy74
      refine a_region ?_
      refine a_val (v := (.int .i64 x54)) (u := []) rfl trivial rfl ?_
      refine a_val (v := (.bool ((decide (x54 ≥ 0))))) (u := []) rfl trivial rfl ?_
      refine a_val (v := (.bool ((decide (x54 ≥ 0))))) (u := []) rfl trivial rfl ?_
      cases hb76 : (decide (x54 ≥ 0))
      · have h := ite_f hb76 h
        refine a_gskip rfl ?_
        refine a_gskip rfl ?_
        refine a_gskip rfl ?_
        refine a_gskip rfl ?_
        refine a_val (v := (.bool false)) (u := []) rfl trivial rfl ?_
        refine a_nil ?_
        exact j_leaf false (Option.some.inj h) (by kernel_rfl)
      · have h := ite_t hb76 h
        refine a_gval rfl (v := (.int .i64 x54)) (u := []) rfl trivial rfl ?_
        obtain ⟨hc77, h⟩ := ifp_some h
        refine a_gval rfl (v := (.own 1 [x54.toNat] [x54.toNat * 1])) (u := []) rfl hc77 rfl ?_
        have hl78 : LdOk [x54.toNat] (eA64u8 a0) [x54.toNat * 1] 1 false (.int .u8 (rd a0.1 x54.toNat)) := (.arr (vlt a0 hc77) rfl (.nil rfl rfl rfl))
        refine a_gval rfl (v := (.int .u8 (rd a0.1 x54.toNat))) (u := []) (ld_own (i := ⟨.int .u8, 1, 1, (.int .u8 0)⟩) rfl rfl rfl hl78) hl78.c rfl ?_
        refine a_gval rfl (v := (.bool (((rd a0.1 x54.toNat) == 0)))) (u := []) rfl trivial rfl ?_
        refine a_val (v := (.bool (((rd a0.1 x54.toNat) == 0)))) (u := []) rfl trivial rfl ?_
        refine a_nil ?_
        exact j_leaf (((rd a0.1 x54.toNat) == 0)) (Option.some.inj h) (by kernel_rfl)
def spec_l01Monic_c : ACode := (.seq (.region 0 [⟨some 1, .box 24 (.tmp 0), none, []⟩, ⟨some 2, .asg 0 (.const (.bool false)) 4, none, []⟩] false) (.seq (.region 1 [⟨some 4, .load 24 (.tmp 1), none, []⟩, ⟨some 5, .call 0 (.func 81) [(.tmp 4)], none, []⟩, ⟨some 3, .asg 0 (.tmp 5) 2, none, []⟩] false) (.seq (.region 2 [⟨some 6, .mov (.tmp 3), none, []⟩, ⟨some 7, .bin .geq 2 (.tmp 6) (.const (.int .i64 0)), none, []⟩, ⟨some 8, .mov (.tmp 7), none, []⟩, ⟨some 9, .mov (.tmp 3), some (8, true), []⟩, ⟨some 10, .indexAddr 24 (.tmp 1) (.tmp 9), some (8, true), []⟩, ⟨some 11, .load 5 (.tmp 10), some (8, true), []⟩, ⟨some 12, .bin .eql 5 (.tmp 11) (.const (.int .u8 1)), some (8, true), []⟩, ⟨some 13, .pick (.tmp 8) (.tmp 12) (.const (.bool false)), none, []⟩, ⟨some 2, .asg 0 (.tmp 13) 4, none, []⟩] false) .ret)))
def spec_l01Monic_L : Live := [(0, [0]), (1, [1]), (2, [1, 3])]
theorem spec_l01Monic_body : Try.f48.body = some (Try.f48.body.getD .skip) := by kernel_rfl
theorem spec_l01Monic_strip : strip [] (Try.f48.body.getD .skip) = spec_l01Monic_c := by kernel_rfl
noncomputable def spec_l01Monic (a0 : (Vec Int 64)) : Option Bool :=
  (Option.bind (spec_l01Deg a0) fun r2 => (if (decide (r2 ≥ 0)) then (ifp (0 ≤ r2 ∧ r2 < ((64 : Nat) : Int)) ((some (((rd a0.1 r2.toNat) == 1))))) else (some false)))
set_option maxHeartbeats 16000000 in
theorem spec_l01Monic_ok (a0 : (Vec Int 64)) (r : Bool) (h : spec_l01Monic a0 = some r) : Den Try.prog 48 [(eA64u8 a0)] { r := (.bool r) } := by
  refine den_of (rs := [(.bool r)]) (ac := spec_l01Monic_c) (L := spec_l01Monic_L) (n := 14) (m := []) good Try.func48 spec_l01Monic_body (by kernel_rfl) Try.ntmps48 rfl rfl spec_l01Monic_strip rfl rfl ?_
  refine a_st (σ' := ⟨[(0, (eA64u8 a0))], []⟩) (by kernel_rfl) ?_
  unfold spec_l01Monic_c
  refine a_seq ?_
  refine a_region ?_
  refine a_val (v := (.own 1100 [] [])) (u := [(1100, some ⟨(eA64u8 a0), false⟩)]) rfl trivial rfl ?_
  refine a_val (v := (.bool false)) (u := []) rfl trivial rfl ?_
  refine a_nil ?_
  refine a_next (σ' := ⟨[(1, (.own 1 [] []))], [(1, some ⟨(eA64u8 a0), false⟩)]⟩) (by kernel_rfl) ?_
  refine a_seq ?_
  refine a_region ?_
  have hl1 : LdOk [] (eA64u8 a0) [] 64 true (eA64u8 a0) := (.nil rfl rfl rfl)
  refine a_val (v := (eA64u8 a0)) (u := []) (ld_own (i := ⟨.arr 64 5, 64, 64, (eA64u8 (vrep 64 (0 : Int)))⟩) rfl rfl rfl hl1) hl1.c rfl ?_
  obtain ⟨r2, hr3, h⟩ := bind_some h
  refine a_call (args := [(eA64u8 a0)]) (u := []) (r := (.int .i64 r2)) rfl rfl (spec_l01Deg_ok a0 r2 hr3) rfl ?_
  refine a_val (v := (.int .i64 r2)) (u := []) rfl trivial rfl ?_
  refine a_nil ?_
  refine a_next (σ' := ⟨[(1, (.own 1 [] [])), (3, (.int .i64 r2))], [(1, some ⟨(eA64u8 a0), false⟩)]⟩) (by kernel_rfl) ?_
  refine a_seq ?_
  refine a_region ?_
  refine a_val (v := (.int .i64 r2)) (u := []) rfl trivial rfl ?_
  refine a_val (v := (.bool ((decide (r2 ≥ 0))))) (u := []) rfl trivial rfl ?_
  refine a_val (v := (.bool ((decide (r2 ≥ 0))))) (u := []) rfl trivial rfl ?_
  cases hb4 : (decide (r2 ≥ 0))
  · have h := ite_f hb4 h
    refine a_gskip rfl ?_
    refine a_gskip rfl ?_
    refine a_gskip rfl ?_
    refine a_gskip rfl ?_
    refine a_val (v := (.bool false)) (u := []) rfl trivial rfl ?_
    refine a_val (v := (.bool false)) (u := []) rfl trivial rfl ?_
    refine a_nil ?_
    refine a_next rfl ?_
    refine a_ret ?_
    refine ⟨.inr rfl, ?_⟩
    rw [Try.results48]
    cases h
    exact ⟨_, _, _, _, _, rfl, trivial, .inl ⟨rfl, .inl rfl⟩, rfl, rfl⟩
  · have h := ite_t hb4 h
    refine a_gval rfl (v := (.int .i64 r2)) (u := []) rfl trivial rfl ?_
    obtain ⟨hc5, h⟩ := ifp_some h
    refine a_gval rfl (v := (.own 1 [r2.toNat] [r2.toNat * 1])) (u := []) rfl hc5 rfl ?_
    have hl6 : LdOk [r2.toNat] (eA64u8 a0) [r2.toNat * 1] 1 false (.int .u8 (rd a0.1 r2.toNat)) := (.arr (vlt a0 hc5) rfl (.nil rfl rfl rfl))
    refine a_gval rfl (v := (.int .u8 (rd a0.1 r2.toNat))) (u := []) (ld_own (i := ⟨.int .u8, 1, 1, (.int .u8 0)⟩) rfl rfl rfl hl6) hl6.c rfl ?_
    refine a_gval rfl (v := (.bool (((rd a0.1 r2.toNat) == 1)))) (u := []) rfl trivial rfl ?_
    refine a_val (v := (.bool (((rd a0.1 r2.toNat) == 1)))) (u := []) rfl trivial rfl ?_
    refine a_val (v := (.bool (((rd a0.1 r2.toNat) == 1)))) (u := []) rfl trivial rfl ?_
    refine a_nil ?_
    refine a_next rfl ?_
    refine a_ret ?_
    refine ⟨.inr rfl, ?_⟩
    rw [Try.results48]
    cases h
    exact ⟨_, _, _, _, _, rfl, trivial, .inl ⟨rfl, .inl rfl⟩, rfl, rfl⟩
def spec_l01In_c : ACode := (.seq (.region 0 [⟨some 6, .asg 0 (.const (.bool false)) 4, none, []⟩] false) (.seq (.region 1 [⟨some 7, .mov (.tmp 0), none, []⟩, ⟨some 8, .mov (.tmp 1), none, []⟩, ⟨some 9, .bin .geq 2 (.tmp 7) (.tmp 8), none, []⟩, ⟨some 10, .mov (.tmp 9), none, []⟩, ⟨some 11, .mov (.tmp 0), some (10, true), []⟩, ⟨some 12, .mov (.tmp 2), some (10, true), []⟩, ⟨some 13, .bin .leq 2 (.tmp 11) (.tmp 12), some (10, true), []⟩, ⟨some 14, .pick (.tmp 10) (.tmp 13) (.const (.bool false)), none, []⟩, ⟨some 6, .asg 0 (.tmp 14) 4, none, []⟩] false) .ret))
def spec_l01In_L : Live := [(0, [0, 1, 2]), (1, [0, 1, 2])]
theorem spec_l01In_body : Try.f61.body = some (Try.f61.body.getD .skip) := by kernel_rfl
theorem spec_l01In_strip : strip [] (Try.f61.body.getD .skip) = spec_l01In_c := by kernel_rfl
noncomputable def spec_l01In (a0 : Int) (a1 : Int) (a2 : Int) : Option Bool :=
  (if (decide (a0 ≥ a1)) then (some ((decide (a0 ≤ a2)))) else (some false))
set_option maxHeartbeats 16000000 in
theorem spec_l01In_ok (a0 : Int) (a1 : Int) (a2 : Int) (r : Bool) (h : spec_l01In a0 a1 a2 = some r) : Den Try.prog 61 [(.int .i64 a0), (.int .i64 a1), (.int .i64 a2)] { r := (.bool r) } := by
  refine den_of (rs := [(.bool r)]) (ac := spec_l01In_c) (L := spec_l01In_L) (n := 15) (m := []) good Try.func61 spec_l01In_body (by kernel_rfl) Try.ntmps61 rfl rfl spec_l01In_strip rfl rfl ?_
  refine a_st (σ' := ⟨[(0, (.int .i64 a0)), (1, (.int .i64 a1)), (2, (.int .i64 a2))], []⟩) (by kernel_rfl) ?_
  unfold spec_l01In_c
  refine a_seq ?_
  refine a_region ?_
  refine a_val (v := (.bool false)) (u := []) rfl trivial rfl ?_
  refine a_nil ?_
  refine a_next (σ' := ⟨[(0, (.int .i64 a0)), (1, (.int .i64 a1)), (2, (.int .i64 a2))], []⟩) (by kernel_rfl) ?_
  refine a_seq ?_
  refine a_region ?_
  refine a_val (v := (.int .i64 a0)) (u := []) rfl trivial rfl ?_
  refine a_val (v := (.int .i64 a1)) (u := []) rfl trivial rfl ?_
  refine a_val (v := (.bool ((decide (a0 ≥ a1))))) (u := []) rfl trivial rfl ?_
  refine a_val (v := (.bool ((decide (a0 ≥ a1))))) (u := []) rfl trivial rfl ?_
  cases hb1 : (decide (a0 ≥ a1))
  · have h := ite_f hb1 h
    refine a_gskip rfl ?_
    refine a_gskip rfl ?_
    refine a_gskip rfl ?_
    refine a_val (v := (.bool false)) (u := []) rfl trivial rfl ?_
    refine a_val (v := (.bool false)) (u := []) rfl trivial rfl ?_
    refine a_nil ?_
    refine a_next rfl ?_
    refine a_ret ?_
    refine ⟨.inr rfl, ?_⟩
    rw [Try.results61]
    cases h
    exact ⟨_, _, _, _, _, rfl, trivial, .inl ⟨rfl, .inl rfl⟩, rfl, rfl⟩
  · have h := ite_t hb1 h
    refine a_gval rfl (v := (.int .i64 a0)) (u := []) rfl trivial rfl ?_
    refine a_gval rfl (v := (.int .i64 a2)) (u := []) rfl trivial rfl ?_
    refine a_gval rfl (v := (.bool ((decide (a0 ≤ a2))))) (u := []) rfl trivial rfl ?_
    refine a_val (v := (.bool ((decide (a0 ≤ a2))))) (u := []) rfl trivial rfl ?_
    refine a_val (v := (.bool ((decide (a0 ≤ a2))))) (u := []) rfl trivial rfl ?_
    refine a_nil ?_
    refine a_next rfl ?_
    refine a_ret ?_
    refine ⟨.inr rfl, ?_⟩
    rw [Try.results61]
    cases h
    exact ⟨_, _, _, _, _, rfl, trivial, .inl ⟨rfl, .inl rfl⟩, rfl, rfl⟩
def spec_l01T_c : ACode := (.seq (.region 0 [⟨some 0, .alloc 24, none, []⟩] false) (.seq (.region 1 [⟨some 1, .build 24 [(0, (.const (.int .u8 0))), (1, (.const (.int .u8 1)))], none, []⟩, ⟨none, .store 24 (.tmp 0) (.tmp 1), none, []⟩] false) .ret))
def spec_l01T_L : Live := [(0, []), (1, [0])]
theorem spec_l01T_body : Try.f96.body = some (Try.f96.body.getD .skip) := by kernel_rfl
theorem spec_l01T_strip : strip [] (Try.f96.body.getD .skip) = spec_l01T_c := by kernel_rfl
noncomputable def spec_l01T  : Option (Vec Int 64) :=
  (some ((vset (vset (vrep 64 (0 : Int)) 0 0) 1 1)))
set_option maxHeartbeats 16000000 in
theorem spec_l01T_ok  (r : (Vec Int 64)) (h : spec_l01T = some r) : Den Try.prog 96 [] { r := (eA64u8 r) } := by
  refine den_of (rs := [(eA64u8 r)]) (ac := spec_l01T_c) (L := spec_l01T_L) (n := 2) (m := []) good Try.func96 spec_l01T_body (by kernel_rfl) Try.ntmps96 rfl rfl spec_l01T_strip rfl rfl ?_
  refine a_st (σ' := ⟨[], []⟩) (by kernel_rfl) ?_
  unfold spec_l01T_c
  refine a_seq ?_
  refine a_region ?_
  refine a_val (v := (.own 1000 [] [])) (u := [(1000, some ⟨(eA64u8 ((vrep 64 (0 : Int)))), false⟩)]) rfl trivial rfl ?_
  refine a_nil ?_
  refine a_next (σ' := ⟨[(0, (.own 0 [] []))], [(0, some ⟨(eA64u8 ((vrep 64 (0 : Int)))), false⟩)]⟩) (by kernel_rfl) ?_
  refine a_seq ?_
  refine a_region ?_
  refine a_val (v := (eA64u8 ((vset (vset (vrep 64 (0 : Int)) 0 0) 1 1)))) (u := []) rfl ⟨⟨_, rfl, rfl⟩, (all_cons ⟨(Nat.le_of_ble_eq_true rfl), rfl⟩ (all_cons ⟨(Nat.le_of_ble_eq_true rfl), rfl⟩ all_nil))⟩ rfl ?_
  have hs1 : StOk [] (eA64u8 ((vrep 64 (0 : Int)))) [] 64 (eA64u8 ((vset (vset (vrep 64 (0 : Int)) 0 0) 1 1))) (eA64u8 ((vset (vset (vrep 64 (0 : Int)) 0 0) 1 1))) := (.nil rfl rfl rfl rfl)
  refine a_val (v := .top) (u := [(0, some ⟨(eA64u8 ((vset (vset (vrep 64 (0 : Int)) 0 0) 1 1))), false⟩)]) (st_own (i := ⟨.arr 64 5, 64, 64, (eA64u8 (vrep 64 (0 : Int)))⟩) rfl rfl (fun _ => rfl) rfl hs1) (hs1.c rfl) rfl ?_
  refine a_nil ?_
  refine a_next rfl ?_
  refine a_ret ?_
  have hl2 : LdOk [] (eA64u8 ((vset (vset (vrep 64 (0 : Int)) 0 0) 1 1))) [] 64 true (eA64u8 ((vset (vset (vrep 64 (0 : Int)) 0 0) 1 1))) := (.nil rfl rfl rfl)
  refine ⟨.inr rfl, ?_⟩
  rw [Try.results96]
  cases h
  exact ⟨_, _, _, _, _, ld_own (i := ⟨.arr 64 5, 64, 64, (eA64u8 (vrep 64 (0 : Int)))⟩) rfl rfl rfl hl2, hl2.c, .inl ⟨rfl, .inl rfl⟩, rfl, rfl⟩
def spec_l01Inverse_c : ACode := (.seq (.region 0 [⟨some 4, .asg 0 (.const (.int .u8 0)) 5, none, []⟩] false) (.seq (.seq (.region 1 [⟨some 5, .asg 0 (.const (.int .i64 1)) 2, none, []⟩] false) (.block 0 (.loop (.seq (.seq (.region 2 [⟨some 6, .mov (.tmp 5), none, []⟩, ⟨some 7, .mov (.tmp 0), none, []⟩, ⟨some 8, .bin .lss 2 (.tmp 6) (.tmp 7), none, []⟩] false) (.cond (.tmp 8) .skip (.exit 0))) (.seq (.block 1 (.seq (.region 4 [⟨some 11, .mov (.tmp 5), none, []⟩, ⟨some 12, .mov (.tmp 1), none, []⟩, ⟨some 13, .conv 5 2 (.tmp 12), none, []⟩, ⟨some 14, .bin .mul 2 (.tmp 11) (.tmp 13), none, []⟩, ⟨some 15, .mov (.tmp 0), none, []⟩, ⟨some 16, .bin .rem 2 (.tmp 14) (.tmp 15), none, []⟩, ⟨some 17, .bin .eql 2 (.tmp 16) (.const (.int .i64 1)), none, []⟩] false) (.cond (.tmp 17) (.seq (.region 5 [⟨some 18, .mov (.tmp 5), none, []⟩, ⟨some 19, .conv 2 5 (.tmp 18), none, []⟩, ⟨some 4, .asg 0 (.tmp 19) 5, none, []⟩] false) .ret) .skip))) (.region 3 [⟨some 9, .mov (.tmp 5), none, []⟩, ⟨some 10, .bin .add 2 (.tmp 9) (.const (.int .i64 1)), none, []⟩, ⟨some 5, .asg 0 (.tmp 10) 2, none, []⟩] false)))))) (.seq (.region 6 [⟨some 4, .asg 0 (.const (.int .u8 0)) 5, none, []⟩] false) .ret)))
def spec_l01Inverse_L : Live := [(0, [0, 1]), (1, [0, 1]), (2, [0, 1, 5]), (3, [0, 1, 5]), (4, [0, 1, 5]), (5, [5]), (6, []), (100008, [0, 1, 5, 8]), (100017, [0, 1, 5, 17])]
theorem spec_l01Inverse_body : Try.f104.body = some (Try.f104.body.getD .skip) := by kernel_rfl
theorem spec_l01Inverse_strip : strip [] (Try.f104.body.getD .skip) = spec_l01Inverse_c := by kernel_rfl
noncomputable def spec_l01Inverse_l1 (a0 : Int) (a1 : Int) (x29 : Int) : Option (Int ⊕ (Unit ⊕ Int)) :=
  (if (decide (x29 < a0)) then (ifp (a0 ≠ 0) ((letp (((Int.tmod (IntKind.i64.wrap (x29 * (IntKind.i64.wrap a1))) a0) == 1)) fun x40 => (if x40 then (some (.inr ((.inr (IntKind.u8.wrap x29))))) else (some (.inl (IntKind.i64.wrap (x29 + 1)))))))) else (some (.inr (((.inl ()))))))
noncomputable def spec_l01Inverse (a0 : Int) (a1 : Int) : Option Int :=
  (Option.bind (α := (Unit ⊕ Int)) ((loopM (fun s : Int => spec_l01Inverse_l1 a0 a1 s) 1)) fun z => match z with | .inl _ => (some 0) | .inr r44 => (some r44))
set_option maxHeartbeats 16000000 in
theorem spec_l01Inverse_ok (a0 : Int) (a1 : Int) (r : Int) (h : spec_l01Inverse a0 a1 = some r) : Den Try.prog 104 [(.int .i64 a0), (.int .u8 a1)] { r := (.int .u8 r) } := by
  refine den_of (rs := [(.int .u8 r)]) (ac := spec_l01Inverse_c) (L := spec_l01Inverse_L) (n := 20) (m := []) good Try.func104 spec_l01Inverse_body (by kernel_rfl) Try.ntmps104 rfl rfl spec_l01Inverse_strip rfl rfl ?_
  refine a_st (σ' := ⟨[(0, (.int .i64 a0)), (1, (.int .u8 a1))], []⟩) (by kernel_rfl) ?_
  unfold spec_l01Inverse_c
  refine a_seq ?_
  refine a_region ?_
  refine a_val (v := (.int .u8 0)) (u := []) rfl trivial rfl ?_
  refine a_nil ?_
  refine a_next (σ' := ⟨[(0, (.int .i64 a0)), (1, (.int .u8 a1))], []⟩) (by kernel_rfl) ?_
  obtain ⟨y21, hy22, hk23⟩ := bind_some h
  clear h
  refine a_join (emb := fun (s : Unit) => ⟨[], []⟩) (pre := fun s => (.inl s) = y21) ?_ ?_
  · rintro _ rfl
    have h := hk23
    refine a_st (σ' := ⟨[], []⟩) (by kernel_rfl) ?_
    refine a_seq ?_
    refine a_region ?_
    refine a_val (v := (.int .u8 0)) (u := []) rfl trivial rfl ?_
    refine a_nil ?_
    refine a_next rfl ?_
    refine a_ret ?_
    refine ⟨.inr rfl, ?_⟩
    rw [Try.results104]
    cases h
    exact ⟨_, _, _, _, _, rfl, trivial, .inl ⟨rfl, .inl rfl⟩, rfl, rfl⟩
  · have h := hy22
    refine a_seq ?_
    refine a_region ?_
    refine a_val (v := (.int .i64 1)) (u := []) rfl trivial rfl ?_
    refine a_nil ?_
    refine a_next (σ' := ⟨[(0, (.int .i64 a0)), (1, (.int .u8 a1)), (5, (.int .i64 1))], []⟩) (by kernel_rfl) ?_
    refine a_block ?_
    refine a_loop (emb := fun (s : Int) => ⟨[(0, (.int .i64 a0)), (1, (.int .u8 a1)), (5, (.int .i64 s))], []⟩) (body := (fun s : Int => spec_l01Inverse_l1 a0 a1 s)) (G := fun q => some q = some y21) h rfl ?_ (by kernel_rfl)
    rintro X35 x29 x36 h hX37
    have h : spec_l01Inverse_l1 a0 a1 x29 = some x36 := h
    refine a_st (σ' := ⟨[(0, (.int .i64 a0)), (1, (.int .u8 a1)), (5, (.int .i64 x29))], []⟩) (by kernel_rfl) ?_
    refine a_seq ?_
    refine a_seq ?_
    refine a_region ?_
    refine a_val (v := (.int .i64 x29)) (u := []) rfl trivial rfl ?_
    refine a_val (v := (.int .i64 a0)) (u := []) rfl trivial rfl ?_
    refine a_val (v := (.bool ((decide (x29 < a0))))) (u := []) rfl trivial rfl ?_
    refine a_nil ?_
    refine a_next (σ' := ⟨[(0, (.int .i64 a0)), (1, (.int .u8 a1)), (5, (.int .i64 x29)), (8, (.bool ((decide (x29 < a0)))))], []⟩) (by kernel_rfl) ?_
    cases hb38 : (decide (x29 < a0))
    · have h := ite_f hb38 h
      refine a_cond_f rfl ?_
      refine a_exit ?_
      refine t_exit ?_
      cases h
      have h := hX37
      refine t_exit ?_
      refine b_exit ?_
      exact j_leaf () (Option.some.inj h) (by kernel_rfl)
    · have h := ite_t hb38 h
      refine a_cond_t rfl ?_
      refine a_skip ?_
      refine a_next (σ' := ⟨[(0, (.int .i64 a0)), (1, (.int .u8 a1)), (5, (.int .i64 x29))], []⟩) (by kernel_rfl) ?_
      refine a_seq ?_
      refine a_block ?_
      refine a_seq ?_
      refine a_region ?_
      refine a_val (v := (.int .i64 x29)) (u := []) rfl trivial rfl ?_
      refine a_val (v := (.int .u8 a1)) (u := []) rfl trivial rfl ?_
      refine a_val (v := (.int .i64 (IntKind.i64.wrap a1))) (u := []) rfl trivial rfl ?_
      refine a_val (v := (.int .i64 (IntKind.i64.wrap (x29 * (IntKind.i64.wrap a1))))) (u := []) rfl trivial rfl ?_
      refine a_val (v := (.int .i64 a0)) (u := []) rfl trivial rfl ?_
      obtain ⟨hc39, h⟩ := ifp_some h
      refine a_val (v := (.int .i64 (Int.tmod (IntKind.i64.wrap (x29 * (IntKind.i64.wrap a1))) a0))) (u := []) rfl hc39 rfl ?_
      obtain ⟨x40, hx41, h⟩ := letp_some h
      refine a_val' (v := (.bool (((Int.tmod (IntKind.i64.wrap (x29 * (IntKind.i64.wrap a1))) a0) == 1)))) (v' := (.bool x40)) (u := []) (u' := []) rfl (congrArg (fun z => ((.bool z) : AV)) hx41) rfl trivial rfl ?_
      refine a_nil ?_
      refine a_next (σ' := ⟨[(0, (.int .i64 a0)), (1, (.int .u8 a1)), (5, (.int .i64 x29)), (17, (.bool x40))], []⟩) (by kernel_rfl) ?_
      cases hb42 : x40
      · have h := ite_f hb42 h
        refine a_cond_f rfl ?_
        refine a_skip ?_
        refine b_norm ?_
        refine a_next (σ' := ⟨[(0, (.int .i64 a0)), (1, (.int .u8 a1)), (5, (.int .i64 x29))], []⟩) (by kernel_rfl) ?_
        refine a_region ?_
        refine a_val (v := (.int .i64 x29)) (u := []) rfl trivial rfl ?_
        refine a_val (v := (.int .i64 (IntKind.i64.wrap (x29 + 1)))) (u := []) rfl trivial rfl ?_
        refine a_val (v := (.int .i64 (IntKind.i64.wrap (x29 + 1)))) (u := []) rfl trivial rfl ?_
        refine a_nil ?_
        cases h
        exact a_again (by kernel_rfl) hX37
      · have h := ite_t hb42 h
        refine a_cond_t rfl ?_
        refine a_seq ?_
        refine a_region ?_
        refine a_val (v := (.int .i64 x29)) (u := []) rfl trivial rfl ?_
        refine a_val (v := (.int .u8 (IntKind.u8.wrap x29))) (u := []) rfl trivial rfl ?_
        refine a_val (v := (.int .u8 (IntKind.u8.wrap x29))) (u := []) rfl trivial rfl ?_
        refine a_nil ?_
        refine a_next rfl ?_
        refine a_ret ?_
        refine b_ret ?_
        refine t_ret ?_
        cases h
        have h := hX37
        refine t_ret ?_
        refine b_ret ?_
        refine t_ret ?_
        cases h
        have h := hk23
        refine ⟨.inr rfl, ?_⟩
        rw [Try.results104]
        cases h
        exact ⟨_, _, _, _, _, rfl, trivial, .inl ⟨rfl, .inl rfl⟩, rfl, rfl⟩
def spec_l01Divide_c : ACode := (.seq (.region 0 [⟨some 4, .box 24 (.tmp 1), none, []⟩, ⟨some 5, .box 24 (.tmp 2), none, []⟩, ⟨some 6, .alloc 24, none, []⟩, ⟨some 7, .alloc 24, none, []⟩] false) (.seq (.region 1 [⟨some 14, .build 24 [], none, []⟩, ⟨some 15, .load 24 (.tmp 5), none, []⟩, ⟨some 16, .call 0 (.func 81) [(.tmp 15)], none, []⟩, ⟨some 8, .alloc 24, none, []⟩, ⟨none, .store 24 (.tmp 8) (.tmp 14), none, []⟩, ⟨some 9, .asg 0 (.tmp 16) 2, none, []⟩] false) (.seq (.region 2 [⟨some 17, .mov (.tmp 0), none, []⟩, ⟨some 18, .mov (.tmp 9), none, []⟩, ⟨some 19, .indexAddr 24 (.tmp 5) (.tmp 18), none, []⟩, ⟨some 20, .load 5 (.tmp 19), none, []⟩, ⟨some 21, .call 0 (.func 104) [(.tmp 17), (.tmp 20)], none, []⟩, ⟨some 22, .conv 5 2 (.tmp 21), none, []⟩, ⟨some 10, .asg 0 (.tmp 22) 2, none, []⟩] false) (.seq (.seq (.region 3 [⟨some 23, .load 24 (.tmp 4), none, []⟩, ⟨some 24, .call 0 (.func 81) [(.tmp 23)], none, []⟩, ⟨some 11, .asg 0 (.tmp 24) 2, none, []⟩] false) (.block 0 (.loop (.seq (.seq (.region 4 [⟨some 25, .mov (.tmp 11), none, []⟩, ⟨some 26, .mov (.tmp 9), none, []⟩, ⟨some 27, .bin .geq 2 (.tmp 25) (.tmp 26), none, []⟩] false) (.cond (.tmp 27) .skip (.exit 0))) (.seq (.block 1 (.seq (.region 6 [⟨some 30, .mov (.tmp 11), none, []⟩, ⟨some 31, .indexAddr 24 (.tmp 4) (.tmp 30), none, []⟩, ⟨some 32, .load 5 (.tmp 31), none, []⟩, ⟨some 33, .conv 5 2 (.tmp 32), none, []⟩, ⟨some 34, .mov (.tmp 10), none, []⟩, ⟨some 35, .bin .mul 2 (.tmp 33) (.tmp 34), none, []⟩, ⟨some 36, .mov (.tmp 0), none, []⟩, ⟨some 37, .bin .rem 2 (.tmp 35) (.tmp 36), none, []⟩, ⟨some 12, .asg 0 (.tmp 37) 2, none, []⟩] false) (.seq (.region 7 [⟨some 38, .mov (.tmp 11), none, []⟩, ⟨some 39, .mov (.tmp 9), none, []⟩, ⟨some 40, .bin .sub 2 (.tmp 38) (.tmp 39), none, []⟩, ⟨some 41, .mov (.tmp 12), none, []⟩, ⟨some 42, .conv 2 5 (.tmp 41), none, []⟩, ⟨some 43, .indexAddr 24 (.tmp 8) (.tmp 40), none, []⟩, ⟨none, .store 5 (.tmp 43) (.tmp 42), none, []⟩] false) (.seq (.region 8 [⟨some 13, .asg 0 (.const (.int .i64 0)) 2, none, []⟩] false) (.block 2 (.loop (.seq (.seq (.region 9 [⟨some 44, .mov (.tmp 13), none, []⟩, ⟨some 45, .mov (.tmp 9), none, []⟩, ⟨some 46, .bin .leq 2 (.tmp 44) (.tmp 45), none, []⟩, ⟨some 47, .mov (.tmp 46), none, []⟩, ⟨some 48, .mov (.tmp 12), some (47, true), []⟩, ⟨some 49, .bin .neq 2 (.tmp 48) (.const (.int .i64 0)), some (47, true), []⟩, ⟨some 50, .pick (.tmp 47) (.tmp 49) (.const (.bool false)), none, []⟩] false) (.cond (.tmp 50) .skip (.exit 2))) (.seq (.block 3 (.region 11 [⟨some 53, .mov (.tmp 11), none, []⟩, ⟨some 54, .mov (.tmp 9), none, []⟩, ⟨some 55, .bin .sub 2 (.tmp 53) (.tmp 54), none, [0, 1]⟩, ⟨some 56, .mov (.tmp 13), none, []⟩, ⟨some 57, .bin .add 2 (.tmp 55) (.tmp 56), none, [2, 3]⟩, ⟨some 58, .mov (.tmp 11), none, []⟩, ⟨some 59, .mov (.tmp 9), none, []⟩, ⟨some 60, .bin .sub 2 (.tmp 58) (.tmp 59), none, [5, 6]⟩, ⟨some 61, .mov (.tmp 13), none, []⟩, ⟨some 62, .bin .add 2 (.tmp 60) (.tmp 61), none, [7, 8]⟩, ⟨some 63, .indexAddr 24 (.tmp 4) (.tmp 62), none, [9]⟩, ⟨some 64, .load 5 (.tmp 63), none, [10]⟩, ⟨some 65, .conv 5 2 (.tmp 64), none, [11]⟩, ⟨some 66, .mov (.tmp 12), none, []⟩, ⟨some 67, .mov (.tmp 13), none, []⟩, ⟨some 68, .indexAddr 24 (.tmp 5) (.tmp 67), none, [14]⟩, ⟨some 69, .load 5 (.tmp 68), none, [15]⟩, ⟨some 70, .conv 5 2 (.tmp 69), none, [16]⟩, ⟨some 71, .bin .mul 2 (.tmp 66) (.tmp 70), none, [13, 17]⟩, ⟨some 72, .bin .sub 2 (.tmp 65) (.tmp 71), none, [12, 18]⟩, ⟨some 73, .mov (.tmp 0), none, []⟩, ⟨some 74, .bin .rem 2 (.tmp 72) (.tmp 73), none, [19, 20]⟩, ⟨some 75, .mov (.tmp 0), none, []⟩, ⟨some 76, .bin .add 2 (.tmp 74) (.tmp 75), none, [21, 22]⟩, ⟨some 77, .mov (.tmp 0), none, []⟩, ⟨some 78, .bin .rem 2 (.tmp 76) (.tmp 77), none, [23, 24]⟩, ⟨some 79, .conv 2 5 (.tmp 78), none, [25]⟩, ⟨some 80, .indexAddr 24 (.tmp 4) (.tmp 57), none, [4, 0, 1, 2, 3, 4, 5, 6, 7, 8, 9, 10, 11, 12, 13, 14, 15, 16, 17, 18, 19, 20, 21, 22, 23, 24, 25, 26]⟩, ⟨none, .store 5 (.tmp 80) (.tmp 79), none, [27, 26, 0, 1, 2, 3, 4, 5, 6, 7, 8, 9, 10, 11, 12, 13, 14, 15, 16, 17, 18, 19, 20, 21, 22, 23, 24, 25, 26]⟩] true)) (.region 10 [⟨some 51, .mov (.tmp 13), none, []⟩, ⟨some 52, .bin .add 2 (.tmp 51) (.const (.int .i64 1)), none, []⟩, ⟨some 13, .asg 0 (.tmp 52) 2, none, []⟩] false))))))))) (.region 5 [⟨some 28, .mov (.tmp 11), none, []⟩, ⟨some 29, .bin .sub 2 (.tmp 28) (.const (.int .i64 1)), none, []⟩, ⟨some 11, .asg 0 (.tmp 29) 2, none, []⟩] false)))))) (.seq (.region 12 [⟨some 81, .load 24 (.tmp 8), none, []⟩, ⟨some 82, .load 24 (.tmp 4), none, []⟩, ⟨none, .store 24 (.tmp 6) (.tmp 81), none, [0, 0]⟩, ⟨none, .store 24 (.tmp 7) (.tmp 82), none, [1, 2, 0, 1, 2]⟩] true) .ret)))))
def spec_l01Divide_L : Live := [(0, [0, 1, 2]), (1, [0, 4, 5, 6, 7]), (2, [0, 4, 5, 6, 7, 8, 9]), (3, [0, 4, 5, 6, 7, 8, 9, 10]), (4, [0, 4, 5, 6, 7, 8, 9, 10, 11]), (5, [0, 4, 5, 6, 7, 8, 9, 10, 11]), (6, [0, 4, 5, 6, 7, 8, 9, 10, 11]), (7, [0, 4, 5, 6, 7, 8, 9, 10, 11, 12]), (8, [0, 4, 5, 6, 7, 8, 9, 10, 11, 12]), (9, [0, 4, 5, 6, 7, 8, 9, 10, 11, 12, 13]), (10, [0, 4, 5, 6, 7, 8, 9, 10, 11, 12, 13]), (11, [0, 4, 5, 6, 7, 8, 9, 10, 11, 12, 13]), (12, [4, 6, 7, 8]), (100027, [0, 4, 5, 6, 7, 8, 9, 10, 11, 27]), (100050, [0, 4, 5, 6, 7, 8, 9, 10, 11, 12, 13, 50])]
theorem spec_l01Divide_body : Try.f103.body = some (Try.f103.body.getD .skip) := by kernel_rfl
theorem spec_l01Divide_strip : strip [] (Try.f103.body.getD .skip) = spec_l01Divide_c := by kernel_rfl
noncomputable def spec_l01Divide_l2 (r2 : Int) (x1405 : Int) (a0 : Int) (x995 : Int) (a2 : (Vec Int 64)) (x997 : (Vec Int 64)) (x1449 : Int) (x1450 : (Vec Int 64)) : Option ((Int × (Vec Int 64)) ⊕ ((Vec Int 64) × (Vec Int 64))) :=
  (Option.bind (α := Bool) ((if (decide (x1449 ≤ r2)) then (some (((Int.tmod x1405 a0) != 0))) else (some false))) fun x1494 => (if x1494 then (ifp (0 ≤ IntKind.i64.wrap ((IntKind.i64.wrap (x995 - r2)) + x1449) ∧ IntKind.i64.wrap ((IntKind.i64.wrap (x995 - r2)) + x1449) < ((64 : Nat) : Int)) ((letp ((rd x1450.1 (IntKind.i64.wrap ((IntKind.i64.wrap (x995 - r2)) + x1449)).toNat)) fun x1518 => (ifp (0 ≤ x1449 ∧ x1449 < ((64 : Nat) : Int)) ((letp (IntKind.i64.wrap ((Int.tmod x1405 a0) * (IntKind.i64.wrap (rd a2.1 x1449.toNat)))) fun x1522 => (ifp (a0 ≠ 0) ((letp (Int.tmod (IntKind.i64.wrap ((IntKind.i64.wrap x1518) - x1522)) a0) fun x1525 => (ifp (a0 ≠ 0) ((letp (IntKind.u8.wrap (Int.tmod (IntKind.i64.wrap (x1525 + a0)) a0)) fun x1528 => (ifp (0 ≤ IntKind.i64.wrap ((IntKind.i64.wrap (x995 - r2)) + x1449) ∧ IntKind.i64.wrap ((IntKind.i64.wrap (x995 - r2)) + x1449) < ((64 : Nat) : Int)) ((some (.inl ((IntKind.i64.wrap (x1449 + 1), (vset x1450 (IntKind.i64.wrap ((IntKind.i64.wrap (x995 - r2)) + x1449)).toNat x1528))))))))))))))))))) else (some (.inr (((x1450, (vset x997 (IntKind.i64.wrap (x995 - r2)).toNat (IntKind.u8.wrap (Int.tmod x1405 a0))))))))))
noncomputable def spec_l01Divide_l1 (r2 : Int) (r7 : Int) (a0 : Int) (a2 : (Vec Int 64)) (x995 : Int) (x996 : (Vec Int 64)) (x997 : (Vec Int 64)) : Option ((Int × (Vec Int 64) × (Vec Int 64)) ⊕ ((Vec Int 64) × (Vec Int 64))) :=
  (if (decide (x995 ≥ r2)) then (Option.bind (α := ((Vec Int 64) × (Vec Int 64))) ((ifp (0 ≤ x995 ∧ x995 < ((64 : Nat) : Int)) ((letp (IntKind.i64.wrap ((IntKind.i64.wrap (rd x996.1 x995.toNat)) * (IntKind.i64.wrap r7))) fun x1405 => (ifp (a0 ≠ 0) ((ifp (0 ≤ IntKind.i64.wrap (x995 - r2) ∧ IntKind.i64.wrap (x995 - r2) < ((64 : Nat) : Int)) ((loopM (fun s : (Int × (Vec Int 64)) => spec_l01Divide_l2 r2 x1405 a0 x995 a2 x997 s.1 s.2) (0, x996)))))))))) fun ⟨x1398, x1399⟩ => (some (.inl ((IntKind.i64.wrap (x995 - 1), x1398, x1399))))) else (some (.inr (x996, x997))))
noncomputable def spec_l01Divide (a0 : Int) (a1 : (Vec Int 64)) (a2 : (Vec Int 64)) : Option ((Vec Int 64) × (Vec Int 64)) :=
  (Option.bind (spec_l01Deg a2) fun r2 => (ifp (0 ≤ r2 ∧ r2 < ((64 : Nat) : Int)) ((Option.bind (spec_l01Inverse a0 (rd a2.1 r2.toNat)) fun r7 => (Option.bind (α := ((Vec Int 64) × (Vec Int 64))) ((Option.bind (spec_l01Deg a1) fun r751 => (loopM (fun s : (Int × (Vec Int 64) × (Vec Int 64)) => spec_l01Divide_l1 r2 r7 a0 a2 s.1 s.2.1 s.2.2) (r751, a1, (vrep 64 (0 : Int)))))) fun ⟨x745, x746⟩ => (some (x746, x745)))))))
set_option maxHeartbeats 16000000 in
theorem spec_l01Divide_ok (a0 : Int) (a1 : (Vec Int 64)) (a2 : (Vec Int 64)) (r : ((Vec Int 64) × (Vec Int 64))) (h : spec_l01Divide a0 a1 a2 = some r) : Den Try.prog 103 [(.int .i64 a0), (eA64u8 a1), (eA64u8 a2)] { r := (.tuple [(eA64u8 r.1), (eA64u8 r.2)]) } := by
  refine den_of (rs := [(eA64u8 r.1), (eA64u8 r.2)]) (ac := spec_l01Divide_c) (L := spec_l01Divide_L) (n := 83) (m := []) good Try.func103 spec_l01Divide_body (by kernel_rfl) Try.ntmps103 rfl rfl spec_l01Divide_strip rfl rfl ?_
  refine a_st (σ' := ⟨[(0, (.int .i64 a0)), (1, (eA64u8 a1)), (2, (eA64u8 a2))], []⟩) (by kernel_rfl) ?_
  unfold spec_l01Divide_c
  refine a_seq ?_
  refine a_region ?_
  refine a_val (v := (.own 1400 [] [])) (u := [(1400, some ⟨(eA64u8 a1), false⟩)]) rfl trivial rfl ?_
  refine a_val (v := (.own 1500 [] [])) (u := [(1500, some ⟨(eA64u8 a2), false⟩)]) rfl trivial rfl ?_
  refine a_val (v := (.own 1600 [] [])) (u := [(1600, some ⟨(eA64u8 ((vrep 64 (0 : Int)))), false⟩)]) rfl trivial rfl ?_
  refine a_val (v := (.own 1700 [] [])) (u := [(1700, some ⟨(eA64u8 ((vrep 64 (0 : Int)))), false⟩)]) rfl trivial rfl ?_
  refine a_nil ?_
  refine a_next (σ' := ⟨[(0, (.int .i64 a0)), (4, (.own 4 [] [])), (5, (.own 5 [] [])), (6, (.own 6 [] [])), (7, (.own 7 [] []))], [(4, some ⟨(eA64u8 a1), false⟩), (5, some ⟨(eA64u8 a2), false⟩), (6, some ⟨(eA64u8 ((vrep 64 (0 : Int)))), false⟩), (7, some ⟨(eA64u8 ((vrep 64 (0 : Int)))), false⟩)]⟩) (by kernel_rfl) ?_
  refine a_seq ?_
  refine a_region ?_
  refine a_val (v := (eA64u8 ((vrep 64 (0 : Int))))) (u := []) rfl ⟨⟨_, rfl, rfl⟩, all_nil⟩ rfl ?_
  have hl1 : LdOk [] (eA64u8 a2) [] 64 true (eA64u8 a2) := (.nil rfl rfl rfl)
  refine a_val (v := (eA64u8 a2)) (u := []) (ld_own (i := ⟨.arr 64 5, 64, 64, (eA64u8 (vrep 64 (0 : Int)))⟩) rfl rfl rfl hl1) hl1.c rfl ?_
  obtain ⟨r2, hr3, h⟩ := bind_some h
  refine a_call (args := [(eA64u8 a2)]) (u := []) (r := (.int .i64 r2)) rfl rfl (spec_l01Deg_ok a2 r2 hr3) rfl ?_
  refine a_val (v := (.own 1800 [] [])) (u := [(1800, some ⟨(eA64u8 ((vrep 64 (0 : Int)))), false⟩)]) rfl trivial rfl ?_
  have hs4 : StOk [] (eA64u8 ((vrep 64 (0 : Int)))) [] 64 (eA64u8 ((vrep 64 (0 : Int)))) (eA64u8 ((vrep 64 (0 : Int)))) := (.nil rfl rfl rfl rfl)
  refine a_val (v := .top) (u := [(1800, some ⟨(eA64u8 ((vrep 64 (0 : Int)))), false⟩)]) (st_own (i := ⟨.arr 64 5, 64, 64, (eA64u8 (vrep 64 (0 : Int)))⟩) rfl rfl (fun _ => rfl) rfl hs4) (hs4.c rfl) rfl ?_
  refine a_val (v := (.int .i64 r2)) (u := []) rfl trivial rfl ?_
  refine a_nil ?_
  refine a_next (σ' := ⟨[(0, (.int .i64 a0)), (4, (.own 4 [] [])), (5, (.own 5 [] [])), (6, (.own 6 [] [])), (7, (.own 7 [] [])), (8, (.own 8 [] [])), (9, (.int .i64 r2))], [(4, some ⟨(eA64u8 a1), false⟩), (5, some ⟨(eA64u8 a2), false⟩), (6, some ⟨(eA64u8 ((vrep 64 (0 : Int)))), false⟩), (7, some ⟨(eA64u8 ((vrep 64 (0 : Int)))), false⟩), (8, some ⟨(eA64u8 ((vrep 64 (0 : Int)))), false⟩)]⟩) (by kernel_rfl) ?_
  refine a_seq ?_
  refine a_region ?_
  refine a_val (v := (.int .i64 a0)) (u := []) rfl trivial rfl ?_
  refine a_val (v := (.int .i64 r2)) (u := []) rfl trivial rfl ?_
  obtain ⟨hc5, h⟩ := ifp_some h
  refine a_val (v := (.own 5 [r2.toNat] [r2.toNat * 1])) (u := []) rfl hc5 rfl ?_
  have hl6 : LdOk [r2.toNat] (eA64u8 a2) [r2.toNat * 1] 1 false (.int .u8 (rd a2.1 r2.toNat)) := (.arr (vlt a2 hc5) rfl (.nil rfl rfl rfl))
  refine a_val (v := (.int .u8 (rd a2.1 r2.toNat))) (u := []) (ld_own (i := ⟨.int .u8, 1, 1, (.int .u8 0)⟩) rfl rfl rfl hl6) hl6.c rfl ?_
  obtain ⟨r7, hr8, h⟩ := bind_some h
  refine a_call (args := [(.int .i64 a0), (.int .u8 (rd a2.1 r2.toNat))]) (u := []) (r := (.int .u8 r7)) rfl rfl (spec_l01Inverse_ok a0 (rd a2.1 r2.toNat) r7 hr8) rfl ?_
  refine a_val (v := (.int .i64 (IntKind.i64.wrap r7))) (u := []) rfl trivial rfl ?_
  refine a_val (v := (.int .i64 (IntKind.i64.wrap r7))) (u := []) rfl trivial rfl ?_
  refine a_nil ?_
  refine a_next (σ' := ⟨[(0, (.int .i64 a0)), (4, (.own 4 [] [])), (5, (.own 5 [] [])), (6, (.own 6 [] [])), (7, (.own 7 [] [])), (8, (.own 8 [] [])), (9, (.int .i64 r2)), (10, (.int .i64 (IntKind.i64.wrap r7)))], [(4, some ⟨(eA64u8 a1), false⟩), (5, some ⟨(eA64u8 a2), false⟩), (6, some ⟨(eA64u8 ((vrep 64 (0 : Int)))), false⟩), (7, some ⟨(eA64u8 ((vrep 64 (0 : Int)))), false⟩), (8, some ⟨(eA64u8 ((vrep 64 (0 : Int)))), false⟩)]⟩) (by kernel_rfl) ?_
  obtain ⟨y747, hy748, hk749⟩ := bind_some h
  clear h
  refine a_join (emb := fun (s : ((Vec Int 64) × (Vec Int 64))) => ⟨[(4, (.own 4 [] [])), (6, (.own 6 [] [])), (7, (.own 7 [] [])), (8, (.own 8 [] []))], [(4, some ⟨(eA64u8 s.1), false⟩), (6, some ⟨(eA64u8 ((vrep 64 (0 : Int)))), false⟩), (7, some ⟨(eA64u8 ((vrep 64 (0 : Int)))), false⟩), (8, some ⟨(eA64u8 s.2), false⟩)]⟩) (pre := fun s => s = y747) ?_ ?_
  · rintro ⟨x745, x746⟩ rfl
    have h := hk749
    refine a_st (σ' := ⟨[(4, (.own 4 [] [])), (6, (.own 6 [] [])), (7, (.own 7 [] [])), (8, (.own 8 [] []))], [(4, some ⟨(eA64u8 x745), false⟩), (6, some ⟨(eA64u8 ((vrep 64 (0 : Int)))), false⟩), (7, some ⟨(eA64u8 ((vrep 64 (0 : Int)))), false⟩), (8, some ⟨(eA64u8 x746), false⟩)]⟩) (by kernel_rfl) ?_
    refine a_seq ?_
    refine a_draw [⟨[8], [], [], []⟩, ⟨[4], [], [], []⟩, ⟨[6], [6], [], [0]⟩, ⟨[7], [7], [], [0, 1, 2]⟩] (by kernel_rfl) ?_
    refine d_cons ?_
    have hl1538 : LdOk [] (eA64u8 x746) [] 64 true (eA64u8 x746) := (.nil rfl rfl rfl)
    refine a_val (v := (eA64u8 x746)) (u := []) (ld_own (i := ⟨.arr 64 5, 64, 64, (eA64u8 (vrep 64 (0 : Int)))⟩) rfl rfl rfl hl1538) hl1538.c rfl ?_
    refine d_next (by kernel_rfl) ?_
    refine d_cons ?_
    have hl1539 : LdOk [] (eA64u8 x745) [] 64 true (eA64u8 x745) := (.nil rfl rfl rfl)
    refine a_val (v := (eA64u8 x745)) (u := []) (ld_own (i := ⟨.arr 64 5, 64, 64, (eA64u8 (vrep 64 (0 : Int)))⟩) rfl rfl rfl hl1539) hl1539.c rfl ?_
    refine d_next (by kernel_rfl) ?_
    refine d_cons ?_
    have hs1540 : StOk [] (eA64u8 ((vrep 64 (0 : Int)))) [] 64 (eA64u8 x746) (eA64u8 x746) := (.nil rfl rfl rfl rfl)
    refine a_val (v := .top) (u := [(6, some ⟨(eA64u8 x746), false⟩)]) (st_own (i := ⟨.arr 64 5, 64, 64, (eA64u8 (vrep 64 (0 : Int)))⟩) rfl rfl (fun _ => rfl) rfl hs1540) (hs1540.c rfl) rfl ?_
    refine d_next (by kernel_rfl) ?_
    refine d_cons ?_
    have hs1541 : StOk [] (eA64u8 ((vrep 64 (0 : Int)))) [] 64 (eA64u8 x745) (eA64u8 x745) := (.nil rfl rfl rfl rfl)
    refine a_val (v := .top) (u := [(7, some ⟨(eA64u8 x745), false⟩)]) (st_own (i := ⟨.arr 64 5, 64, 64, (eA64u8 (vrep 64 (0 : Int)))⟩) rfl rfl (fun _ => rfl) rfl hs1541) (hs1541.c rfl) rfl ?_
    refine d_next (by kernel_rfl) ?_
    refine d_nil ?_
    refine a_next rfl ?_
    refine a_ret ?_
    have hl1542 : LdOk [] (eA64u8 x746) [] 64 true (eA64u8 x746) := (.nil rfl rfl rfl)
    have hl1543 : LdOk [] (eA64u8 x745) [] 64 true (eA64u8 x745) := (.nil rfl rfl rfl)
    refine ⟨.inr rfl, ?_⟩
    rw [Try.results103]
    cases h
    exact ⟨_, _, _, _, _, ld_own (i := ⟨.arr 64 5, 64, 64, (eA64u8 (vrep 64 (0 : Int)))⟩) rfl rfl rfl hl1542, hl1542.c, .inl ⟨rfl, .inl rfl⟩, rfl, ⟨_, _, _, _, _, ld_own (i := ⟨.arr 64 5, 64, 64, (eA64u8 (vrep 64 (0 : Int)))⟩) rfl rfl rfl hl1543, hl1543.c, .inl ⟨rfl, .inl rfl⟩, rfl, rfl⟩⟩
  · have h := hy748
    refine a_seq ?_
    refine a_region ?_
    have hl750 : LdOk [] (eA64u8 a1) [] 64 true (eA64u8 a1) := (.nil rfl rfl rfl)
    refine a_val (v := (eA64u8 a1)) (u := []) (ld_own (i := ⟨.arr 64 5, 64, 64, (eA64u8 (vrep 64 (0 : Int)))⟩) rfl rfl rfl hl750) hl750.c rfl ?_
    obtain ⟨r751, hr752, h⟩ := bind_some h
    refine a_call (args := [(eA64u8 a1)]) (u := []) (r := (.int .i64 r751)) rfl rfl (spec_l01Deg_ok a1 r751 hr752) rfl ?_
    refine a_val (v := (.int .i64 r751)) (u := []) rfl trivial rfl ?_
    refine a_nil ?_
    refine a_next (σ' := ⟨[(0, (.int .i64 a0)), (4, (.own 4 [] [])), (5, (.own 5 [] [])), (6, (.own 6 [] [])), (7, (.own 7 [] [])), (8, (.own 8 [] [])), (9, (.int .i64 r2)), (10, (.int .i64 (IntKind.i64.wrap r7))), (11, (.int .i64 r751))], [(4, some ⟨(eA64u8 a1), false⟩), (5, some ⟨(eA64u8 a2), false⟩), (6, some ⟨(eA64u8 ((vrep 64 (0 : Int)))), false⟩), (7, some ⟨(eA64u8 ((vrep 64 (0 : Int)))), false⟩), (8, some ⟨(eA64u8 ((vrep 64 (0 : Int)))), false⟩)]⟩) (by kernel_rfl) ?_
    refine a_block ?_
    refine a_loop (emb := fun (s : (Int × (Vec Int 64) × (Vec Int 64))) => ⟨[(0, (.int .i64 a0)), (4, (.own 4 [] [])), (5, (.own 5 [] [])), (6, (.own 6 [] [])), (7, (.own 7 [] [])), (8, (.own 8 [] [])), (9, (.int .i64 r2)), (10, (.int .i64 (IntKind.i64.wrap r7))), (11, (.int .i64 s.1))], [(4, some ⟨(eA64u8 s.2.1), false⟩), (5, some ⟨(eA64u8 a2), false⟩), (6, some ⟨(eA64u8 ((vrep 64 (0 : Int)))), false⟩), (7, some ⟨(eA64u8 ((vrep 64 (0 : Int)))), false⟩), (8, some ⟨(eA64u8 s.2.2), false⟩)]⟩) (body := (fun s : (Int × (Vec Int 64) × (Vec Int 64)) => spec_l01Divide_l1 r2 r7 a0 a2 s.1 s.2.1 s.2.2)) (G := fun q => some q = some y747) h rfl ?_ (by kernel_rfl)
    rintro X1264 ⟨x995, x996, x997⟩ x1265 h hX1266
    have h : spec_l01Divide_l1 r2 r7 a0 a2 x995 x996 x997 = some x1265 := h
    refine a_st (σ' := ⟨[(0, (.int .i64 a0)), (4, (.own 4 [] [])), (5, (.own 5 [] [])), (6, (.own 6 [] [])), (7, (.own 7 [] [])), (8, (.own 8 [] [])), (9, (.int .i64 r2)), (10, (.int .i64 (IntKind.i64.wrap r7))), (11, (.int .i64 x995))], [(4, some ⟨(eA64u8 x996), false⟩), (5, some ⟨(eA64u8 a2), false⟩), (6, some ⟨(eA64u8 ((vrep 64 (0 : Int)))), false⟩), (7, some ⟨(eA64u8 ((vrep 64 (0 : Int)))), false⟩), (8, some ⟨(eA64u8 x997), false⟩)]⟩) (by kernel_rfl) ?_
    refine a_seq ?_
    refine a_seq ?_
    refine a_region ?_
    refine a_val (v := (.int .i64 x995)) (u := []) rfl trivial rfl ?_
    refine a_val (v := (.int .i64 r2)) (u := []) rfl trivial rfl ?_
    refine a_val (v := (.bool ((decide (x995 ≥ r2))))) (u := []) rfl trivial rfl ?_
    refine a_nil ?_
    refine a_next (σ' := ⟨[(0, (.int .i64 a0)), (4, (.own 4 [] [])), (5, (.own 5 [] [])), (6, (.own 6 [] [])), (7, (.own 7 [] [])), (8, (.own 8 [] [])), (9, (.int .i64 r2)), (10, (.int .i64 (IntKind.i64.wrap r7))), (11, (.int .i64 x995)), (27, (.bool ((decide (x995 ≥ r2)))))], [(4, some ⟨(eA64u8 x996), false⟩), (5, some ⟨(eA64u8 a2), false⟩), (6, some ⟨(eA64u8 ((vrep 64 (0 : Int)))), false⟩), (7, some ⟨(eA64u8 ((vrep 64 (0 : Int)))), false⟩), (8, some ⟨(eA64u8 x997), false⟩)]⟩) (by kernel_rfl) ?_
    cases hb1267 : (decide (x995 ≥ r2))
    · have h := ite_f hb1267 h
      refine a_cond_f rfl ?_
      refine a_exit ?_
      refine t_exit ?_
      cases h
      have h := hX1266
      refine t_exit ?_
      refine b_exit ?_
      exact j_leaf (x996, x997) (Option.some.inj h) (by kernel_rfl)
    · have h := ite_t hb1267 h
      refine a_cond_t rfl ?_
      refine a_skip ?_
      refine a_next (σ' := ⟨[(0, (.int .i64 a0)), (4, (.own 4 [] [])), (5, (.own 5 [] [])), (6, (.own 6 [] [])), (7, (.own 7 [] [])), (8, (.own 8 [] [])), (9, (.int .i64 r2)), (10, (.int .i64 (IntKind.i64.wrap r7))), (11, (.int .i64 x995))], [(4, some ⟨(eA64u8 x996), false⟩), (5, some ⟨(eA64u8 a2), false⟩), (6, some ⟨(eA64u8 ((vrep 64 (0 : Int)))), false⟩), (7, some ⟨(eA64u8 ((vrep 64 (0 : Int)))), false⟩), (8, some ⟨(eA64u8 x997), false⟩)]⟩) (by kernel_rfl) ?_
      obtain ⟨y1400, hy1401, hk1402⟩ := bind_some h
      clear h
      refine a_join (emb := fun (s : ((Vec Int 64) × (Vec Int 64))) => ⟨[(0, (.int .i64 a0)), (4, (.own 4 [] [])), (5, (.own 5 [] [])), (6, (.own 6 [] [])), (7, (.own 7 [] [])), (8, (.own 8 [] [])), (9, (.int .i64 r2)), (10, (.int .i64 (IntKind.i64.wrap r7))), (11, (.int .i64 x995))], [(4, some ⟨(eA64u8 s.1), false⟩), (5, some ⟨(eA64u8 a2), false⟩), (6, some ⟨(eA64u8 ((vrep 64 (0 : Int)))), false⟩), (7, some ⟨(eA64u8 ((vrep 64 (0 : Int)))), false⟩), (8, some ⟨(eA64u8 s.2), false⟩)]⟩) (pre := fun s => s = y1400) ?_ ?_
      · rintro ⟨x1398, x1399⟩ rfl
        have h := hk1402
        refine a_st (σ' := ⟨[(0, (.int .i64 a0)), (4, (.own 4 [] [])), (5, (.own 5 [] [])), (6, (.own 6 [] [])), (7, (.own 7 [] [])), (8, (.own 8 [] [])), (9, (.int .i64 r2)), (10, (.int .i64 (IntKind.i64.wrap r7))), (11, (.int .i64 x995))], [(4, some ⟨(eA64u8 x1398), false⟩), (5, some ⟨(eA64u8 a2), false⟩), (6, some ⟨(eA64u8 ((vrep 64 (0 : Int)))), false⟩), (7, some ⟨(eA64u8 ((vrep 64 (0 : Int)))), false⟩), (8, some ⟨(eA64u8 x1399), false⟩)]⟩) (by kernel_rfl) ?_
        refine a_region ?_
        refine a_val (v := (.int .i64 x995)) (u := []) rfl trivial rfl ?_
        refine a_val (v := (.int .i64 (IntKind.i64.wrap (x995 - 1)))) (u := []) rfl trivial rfl ?_
        refine a_val (v := (.int .i64 (IntKind.i64.wrap (x995 - 1)))) (u := []) rfl trivial rfl ?_
        refine a_nil ?_
        cases h
        exact a_again (by kernel_rfl) hX1266
      · have h := hy1401
        refine a_block ?_
        refine a_seq ?_
        refine a_region ?_
        refine a_val (v := (.int .i64 x995)) (u := []) rfl trivial rfl ?_
        obtain ⟨hc1403, h⟩ := ifp_some h
        refine a_val (v := (.own 4 [x995.toNat] [x995.toNat * 1])) (u := []) rfl hc1403 rfl ?_
        have hl1404 : LdOk [x995.toNat] (eA64u8 x996) [x995.toNat * 1] 1 false (.int .u8 (rd x996.1 x995.toNat)) := (.arr (vlt x996 hc1403) rfl (.nil rfl rfl rfl))
        refine a_val (v := (.int .u8 (rd x996.1 x995.toNat))) (u := []) (ld_own (i := ⟨.int .u8, 1, 1, (.int .u8 0)⟩) rfl rfl rfl hl1404) hl1404.c rfl ?_
        refine a_val (v := (.int .i64 (IntKind.i64.wrap (rd x996.1 x995.toNat)))) (u := []) rfl trivial rfl ?_
        refine a_val (v := (.int .i64 (IntKind.i64.wrap r7))) (u := []) rfl trivial rfl ?_
        obtain ⟨x1405, hx1406, h⟩ := letp_some h
        refine a_val' (v := (.int .i64 (IntKind.i64.wrap ((IntKind.i64.wrap (rd x996.1 x995.toNat)) * (IntKind.i64.wrap r7))))) (v' := (.int .i64 x1405)) (u := []) (u' := []) rfl (congrArg (fun z => ((.int .i64 z) : AV)) hx1406) rfl trivial rfl ?_
        refine a_val (v := (.int .i64 a0)) (u := []) rfl trivial rfl ?_
        obtain ⟨hc1407, h⟩ := ifp_some h
        refine a_val (v := (.int .i64 (Int.tmod x1405 a0))) (u := []) rfl hc1407 rfl ?_
        refine a_val (v := (.int .i64 (Int.tmod x1405 a0))) (u := []) rfl trivial rfl ?_
        refine a_nil ?_
        refine a_next (σ' := ⟨[(0, (.int .i64 a0)), (4, (.own 4 [] [])), (5, (.own 5 [] [])), (6, (.own 6 [] [])), (7, (.own 7 [] [])), (8, (.own 8 [] [])), (9, (.int .i64 r2)), (10, (.int .i64 (IntKind.i64.wrap r7))), (11, (.int .i64 x995)), (12, (.int .i64 (Int.tmod x1405 a0)))], [(4, some ⟨(eA64u8 x996), false⟩), (5, some ⟨(eA64u8 a2), false⟩), (6, some ⟨(eA64u8 ((vrep 64 (0 : Int)))), false⟩), (7, some ⟨(eA64u8 ((vrep 64 (0 : Int)))), false⟩), (8, some ⟨(eA64u8 x997), false⟩)]⟩) (by kernel_rfl) ?_
        refine a_seq ?_
        refine a_region ?_
        refine a_val (v := (.int .i64 x995)) (u := []) rfl trivial rfl ?_
        refine a_val (v := (.int .i64 r2)) (u := []) rfl trivial rfl ?_
        refine a_val (v := (.int .i64 (IntKind.i64.wrap (x995 - r2)))) (u := []) rfl trivial rfl ?_
        refine a_val (v := (.int .i64 (Int.tmod x1405 a0))) (u := []) rfl trivial rfl ?_
        refine a_val (v := (.int .u8 (IntKind.u8.wrap (Int.tmod x1405 a0)))) (u := []) rfl trivial rfl ?_
        obtain ⟨hc1408, h⟩ := ifp_some h
        refine a_val (v := (.own 8 [(IntKind.i64.wrap (x995 - r2)).toNat] [(IntKind.i64.wrap (x995 - r2)).toNat * 1])) (u := []) rfl hc1408 rfl ?_
        have hs1409 : StOk [(IntKind.i64.wrap (x995 - r2)).toNat] (eA64u8 x997) [(IntKind.i64.wrap (x995 - r2)).toNat * 1] 1 (.int .u8 (IntKind.u8.wrap (Int.tmod x1405 a0))) (eA64u8 ((vset x997 (IntKind.i64.wrap (x995 - r2)).toNat (IntKind.u8.wrap (Int.tmod x1405 a0))))) := (.arr (y := IntKind.u8.wrap (Int.tmod x1405 a0)) (vlt x997 hc1408) rfl (.nil rfl rfl rfl rfl))
        refine a_val (v := .top) (u := [(8, some ⟨(eA64u8 ((vset x997 (IntKind.i64.wrap (x995 - r2)).toNat (IntKind.u8.wrap (Int.tmod x1405 a0))))), false⟩)]) (st_own (i := ⟨.int .u8, 1, 1, (.int .u8 0)⟩) rfl rfl (fun _ => rfl) rfl hs1409) (hs1409.c rfl) rfl ?_
        refine a_nil ?_
        refine a_next (σ' := ⟨[(0, (.int .i64 a0)), (4, (.own 4 [] [])), (5, (.own 5 [] [])), (6, (.own 6 [] [])), (7, (.own 7 [] [])), (8, (.own 8 [] [])), (9, (.int .i64 r2)), (10, (.int .i64 (IntKind.i64.wrap r7))), (11, (.int .i64 x995)), (12, (.int .i64 (Int.tmod x1405 a0)))], [(4, some ⟨(eA64u8 x996), false⟩), (5, some ⟨(eA64u8 a2), false⟩), (6, some ⟨(eA64u8 ((vrep 64 (0 : Int)))), false⟩), (7, some ⟨(eA64u8 ((vrep 64 (0 : Int)))), false⟩), (8, some ⟨(eA64u8 ((vset x997 (IntKind.i64.wrap (x995 - r2)).toNat (IntKind.u8.wrap (Int.tmod x1405 a0))))), false⟩)]⟩) (by kernel_rfl) ?_
        refine a_seq ?_
        refine a_region ?_
        refine a_val (v := (.int .i64 0)) (u := []) rfl trivial rfl ?_
        refine a_nil ?_
        refine a_next (σ' := ⟨[(0, (.int .i64 a0)), (4, (.own 4 [] [])), (5, (.own 5 [] [])), (6, (.own 6 [] [])), (7, (.own 7 [] [])), (8, (.own 8 [] [])), (9, (.int .i64 r2)), (10, (.int .i64 (IntKind.i64.wrap r7))), (11, (.int .i64 x995)), (12, (.int .i64 (Int.tmod x1405 a0))), (13, (.int .i64 0))], [(4, some ⟨(eA64u8 x996), false⟩), (5, some ⟨(eA64u8 a2), false⟩), (6, some ⟨(eA64u8 ((vrep 64 (0 : Int)))), false⟩), (7, some ⟨(eA64u8 ((vrep 64 (0 : Int)))), false⟩), (8, some ⟨(eA64u8 ((vset x997 (IntKind.i64.wrap (x995 - r2)).toNat (IntKind.u8.wrap (Int.tmod x1405 a0))))), false⟩)]⟩) (by kernel_rfl) ?_
        refine a_block ?_
        refine a_loop (emb := fun (s : (Int × (Vec Int 64))) => ⟨[(0, (.int .i64 a0)), (4, (.own 4 [] [])), (5, (.own 5 [] [])), (6, (.own 6 [] [])), (7, (.own 7 [] [])), (8, (.own 8 [] [])), (9, (.int .i64 r2)), (10, (.int .i64 (IntKind.i64.wrap r7))), (11, (.int .i64 x995)), (12, (.int .i64 (Int.tmod x1405 a0))), (13, (.int .i64 s.1))], [(4, some ⟨(eA64u8 s.2), false⟩), (5, some ⟨(eA64u8 a2), false⟩), (6, some ⟨(eA64u8 ((vrep 64 (0 : Int)))), false⟩), (7, some ⟨(eA64u8 ((vrep 64 (0 : Int)))), false⟩), (8, some ⟨(eA64u8 ((vset x997 (IntKind.i64.wrap (x995 - r2)).toNat (IntKind.u8.wrap (Int.tmod x1405 a0))))), false⟩)]⟩) (body := (fun s : (Int × (Vec Int 64)) => spec_l01Divide_l2 r2 x1405 a0 x995 a2 x997 s.1 s.2)) (G := fun q => some q = some y1400) h rfl ?_ (by kernel_rfl)
        rintro X1490 ⟨x1449, x1450⟩ x1491 h hX1492
        have h : spec_l01Divide_l2 r2 x1405 a0 x995 a2 x997 x1449 x1450 = some x1491 := h
        refine a_st (σ' := ⟨[(0, (.int .i64 a0)), (4, (.own 4 [] [])), (5, (.own 5 [] [])), (6, (.own 6 [] [])), (7, (.own 7 [] [])), (8, (.own 8 [] [])), (9, (.int .i64 r2)), (10, (.int .i64 (IntKind.i64.wrap r7))), (11, (.int .i64 x995)), (12, (.int .i64 (Int.tmod x1405 a0))), (13, (.int .i64 x1449))], [(4, some ⟨(eA64u8 x1450), false⟩), (5, some ⟨(eA64u8 a2), false⟩), (6, some ⟨(eA64u8 ((vrep 64 (0 : Int)))), false⟩), (7, some ⟨(eA64u8 ((vrep 64 (0 : Int)))), false⟩), (8, some ⟨(eA64u8 ((vset x997 (IntKind.i64.wrap (x995 - r2)).toNat (IntKind.u8.wrap (Int.tmod x1405 a0))))), false⟩)]⟩) (by kernel_rfl) ?_
        refine a_seq ?_
        obtain ⟨y1495, hy1496, hk1497⟩ := bind_some h
        clear h
        refine a_join (emb := fun (s : Bool) => ⟨[(0, (.int .i64 a0)), (4, (.own 4 [] [])), (5, (.own 5 [] [])), (6, (.own 6 [] [])), (7, (.own 7 [] [])), (8, (.own 8 [] [])), (9, (.int .i64 r2)), (10, (.int .i64 (IntKind.i64.wrap r7))), (11, (.int .i64 x995)), (12, (.int .i64 (Int.tmod x1405 a0))), (13, (.int .i64 x1449)), (50, (.bool s))], [(4, some ⟨(eA64u8 x1450), false⟩), (5, some ⟨(eA64u8 a2), false⟩), (6, some ⟨(eA64u8 ((vrep 64 (0 : Int)))), false⟩), (7, some ⟨(eA64u8 ((vrep 64 (0 : Int)))), false⟩), (8, some ⟨(eA64u8 ((vset x997 (IntKind.i64.wrap (x995 - r2)).toNat (IntKind.u8.wrap (Int.tmod x1405 a0))))), false⟩)]⟩) (pre := fun s => s = y1495) ?_ ?_
        · rintro x1494 rfl
          have h := hk1497
          refine a_st (σ' := ⟨[(0, (.int .i64 a0)), (4, (.own 4 [] [])), (5, (.own 5 [] [])), (6, (.own 6 [] [])), (7, (.own 7 [] [])), (8, (.own 8 [] [])), (9, (.int .i64 r2)), (10, (.int .i64 (IntKind.i64.wrap r7))), (11, (.int .i64 x995)), (12, (.int .i64 (Int.tmod x1405 a0))), (13, (.int .i64 x1449)), (50, (.bool x1494))], [(4, some ⟨(eA64u8 x1450), false⟩), (5, some ⟨(eA64u8 a2), false⟩), (6, some ⟨(eA64u8 ((vrep 64 (0 : Int)))), false⟩), (7, some ⟨(eA64u8 ((vrep 64 (0 : Int)))), false⟩), (8, some ⟨(eA64u8 ((vset x997 (IntKind.i64.wrap (x995 - r2)).toNat (IntKind.u8.wrap (Int.tmod x1405 a0))))), false⟩)]⟩) (by kernel_rfl) ?_
          cases hb1499 : x1494
          · have h := ite_f hb1499 h
            refine a_cond_f rfl ?_
            refine a_exit ?_
            refine t_exit ?_
            cases h
            have h := hX1492
            refine t_exit ?_
            refine b_exit ?_
            refine b_norm ?_
            exact j_leaf ((x1450, (vset x997 (IntKind.i64.wrap (x995 - r2)).toNat (IntKind.u8.wrap (Int.tmod x1405 a0))))) (Option.some.inj h) (by kernel_rfl)
          · have h := ite_t hb1499 h
            refine a_cond_t rfl ?_
            refine a_skip ?_
            refine a_next (σ' := ⟨[(0, (.int .i64 a0)), (4, (.own 4 [] [])), (5, (.own 5 [] [])), (6, (.own 6 [] [])), (7, (.own 7 [] [])), (8, (.own 8 [] [])), (9, (.int .i64 r2)), (10, (.int .i64 (IntKind.i64.wrap r7))), (11, (.int .i64 x995)), (12, (.int .i64 (Int.tmod x1405 a0))), (13, (.int .i64 x1449))], [(4, some ⟨(eA64u8 x1450), false⟩), (5, some ⟨(eA64u8 a2), false⟩), (6, some ⟨(eA64u8 ((vrep 64 (0 : Int)))), false⟩), (7, some ⟨(eA64u8 ((vrep 64 (0 : Int)))), false⟩), (8, some ⟨(eA64u8 ((vset x997 (IntKind.i64.wrap (x995 - r2)).toNat (IntKind.u8.wrap (Int.tmod x1405 a0))))), false⟩)]⟩) (by kernel_rfl) ?_
            refine a_seq ?_
            refine a_block ?_
            refine a_draw [⟨[], [], [], []⟩, ⟨[], [], [], []⟩, ⟨[], [], [], [0, 1]⟩, ⟨[], [], [], []⟩, ⟨[], [], [], [0, 1, 2, 3]⟩, ⟨[], [], [], []⟩, ⟨[], [], [], []⟩, ⟨[], [], [], [5, 6]⟩, ⟨[], [], [], []⟩, ⟨[], [], [], [5, 6, 7, 8]⟩, ⟨[4], [], [4], [5, 6, 7, 8, 9]⟩, ⟨[4], [], [], [5, 6, 7, 8, 9, 10]⟩, ⟨[], [], [], [5, 6, 7, 8, 9, 10, 11]⟩, ⟨[], [], [], []⟩, ⟨[], [], [], []⟩, ⟨[5], [], [5], [14]⟩, ⟨[5], [], [], [14, 15]⟩, ⟨[], [], [], [14, 15, 16]⟩, ⟨[], [], [], [13, 14, 15, 16, 17]⟩, ⟨[], [], [], [5, 6, 7, 8, 9, 10, 11, 12, 13, 14, 15, 16, 17, 18]⟩, ⟨[], [], [], []⟩, ⟨[], [], [], [5, 6, 7, 8, 9, 10, 11, 12, 13, 14, 15, 16, 17, 18, 19, 20]⟩, ⟨[], [], [], []⟩, ⟨[], [], [], [5, 6, 7, 8, 9, 10, 11, 12, 13, 14, 15, 16, 17, 18, 19, 20, 21, 22]⟩, ⟨[], [], [], []⟩, ⟨[], [], [], [5, 6, 7, 8, 9, 10, 11, 12, 13, 14, 15, 16, 17, 18, 19, 20, 21, 22, 23, 24]⟩, ⟨[], [], [], [5, 6, 7, 8, 9, 10, 11, 12, 13, 14, 15, 16, 17, 18, 19, 20, 21, 22, 23, 24, 25]⟩, ⟨[4], [], [4], [0, 1, 2, 3, 4, 5, 6, 7, 8, 9, 10, 11, 12, 13, 14, 15, 16, 17, 18, 19, 20, 21, 22, 23, 24, 25, 26]⟩, ⟨[4], [4], [], [0, 1, 2, 3, 4, 5, 6, 7, 8, 9, 10, 11, 12, 13, 14, 15, 16, 17, 18, 19, 20, 21, 22, 23, 24, 25, 26, 27]⟩] (by kernel_rfl) ?_
            refine d_cons ?_
            refine a_val (v := (.int .i64 x995)) (u := []) rfl trivial rfl ?_
            refine d_next (by kernel_rfl) ?_
            refine d_cons ?_
            refine a_val (v := (.int .i64 r2)) (u := []) rfl trivial rfl ?_
            refine d_next (by kernel_rfl) ?_
            refine d_cons ?_
            refine a_val (v := (.int .i64 (IntKind.i64.wrap (x995 - r2)))) (u := []) rfl trivial rfl ?_
            refine d_next (by kernel_rfl) ?_
            refine d_cons ?_
            refine a_val (v := (.int .i64 x1449)) (u := []) rfl trivial rfl ?_
            refine d_next (by kernel_rfl) ?_
            refine d_cons ?_
            refine a_val (v := (.int .i64 (IntKind.i64.wrap ((IntKind.i64.wrap (x995 - r2)) + x1449)))) (u := []) rfl trivial rfl ?_
            refine d_next (by kernel_rfl) ?_
            refine d_cons ?_
            refine a_val (v := (.int .i64 x995)) (u := []) rfl trivial rfl ?_
            refine d_next (by kernel_rfl) ?_
            refine d_cons ?_
            refine a_val (v := (.int .i64 r2)) (u := []) rfl trivial rfl ?_
            refine d_next (by kernel_rfl) ?_
            refine d_cons ?_
            refine a_val (v := (.int .i64 (IntKind.i64.wrap (x995 - r2)))) (u := []) rfl trivial rfl ?_
            refine d_next (by kernel_rfl) ?_
            refine d_cons ?_
            refine a_val (v := (.int .i64 x1449)) (u := []) rfl trivial rfl ?_
            refine d_next (by kernel_rfl) ?_
            refine d_cons ?_
            refine a_val (v := (.int .i64 (IntKind.i64.wrap ((IntKind.i64.wrap (x995 - r2)) + x1449)))) (u := []) rfl trivial rfl ?_
            refine d_next (by kernel_rfl) ?_
            refine d_cons ?_
            obtain ⟨hc1516, h⟩ := ifp_some h
            refine a_val (v := (.own 4 [(IntKind.i64.wrap ((IntKind.i64.wrap (x995 - r2)) + x1449)).toNat] [(IntKind.i64.wrap ((IntKind.i64.wrap (x995 - r2)) + x1449)).toNat * 1])) (u := []) rfl hc1516 rfl ?_
            refine d_next (by kernel_rfl) ?_
            refine d_cons ?_
            have hl1517 : LdOk [(IntKind.i64.wrap ((IntKind.i64.wrap (x995 - r2)) + x1449)).toNat] (eA64u8 x1450) [(IntKind.i64.wrap ((IntKind.i64.wrap (x995 - r2)) + x1449)).toNat * 1] 1 false (.int .u8 ((rd x1450.1 (IntKind.i64.wrap ((IntKind.i64.wrap (x995 - r2)) + x1449)).toNat))) := (.arr (vlt x1450 hc1516) rfl (.nil rfl rfl rfl))
            obtain ⟨x1518, hx1519, h⟩ := letp_some h
            refine a_val' (v := (.int .u8 ((rd x1450.1 (IntKind.i64.wrap ((IntKind.i64.wrap (x995 - r2)) + x1449)).toNat)))) (v' := (.int .u8 x1518)) (u := []) (u' := []) (ld_own (i := ⟨.int .u8, 1, 1, (.int .u8 0)⟩) rfl rfl rfl hl1517) (congrArg (fun z => ((.int .u8 z) : AV)) hx1519) rfl hl1517.c rfl ?_
            refine d_next (by kernel_rfl) ?_
            refine d_cons ?_
            refine a_val (v := (.int .i64 (IntKind.i64.wrap x1518))) (u := []) rfl trivial rfl ?_
            refine d_next (by kernel_rfl) ?_
            refine d_cons ?_
            refine a_val (v := (.int .i64 (Int.tmod x1405 a0))) (u := []) rfl trivial rfl ?_
            refine d_next (by kernel_rfl) ?_
            refine d_cons ?_
            refine a_val (v := (.int .i64 x1449)) (u := []) rfl trivial rfl ?_
            refine d_next (by kernel_rfl) ?_
            refine d_cons ?_
            obtain ⟨hc1520, h⟩ := ifp_some h
            refine a_val (v := (.own 5 [x1449.toNat] [x1449.toNat * 1])) (u := []) rfl hc1520 rfl ?_
            refine d_next (by kernel_rfl) ?_
            refine d_cons ?_
            have hl1521 : LdOk [x1449.toNat] (eA64u8 a2) [x1449.toNat * 1] 1 false (.int .u8 (rd a2.1 x1449.toNat)) := (.arr (vlt a2 hc1520) rfl (.nil rfl rfl rfl))
            refine a_val (v := (.int .u8 (rd a2.1 x1449.toNat))) (u := []) (ld_own (i := ⟨.int .u8, 1, 1, (.int .u8 0)⟩) rfl rfl rfl hl1521) hl1521.c rfl ?_
            refine d_next (by kernel_rfl) ?_
            refine d_cons ?_
            refine a_val (v := (.int .i64 (IntKind.i64.wrap (rd a2.1 x1449.toNat)))) (u := []) rfl trivial rfl ?_
            refine d_next (by kernel_rfl) ?_
            refine d_cons ?_
            obtain ⟨x1522, hx1523, h⟩ := letp_some h
            refine a_val' (v := (.int .i64 (IntKind.i64.wrap ((Int.tmod x1405 a0) * (IntKind.i64.wrap (rd a2.1 x1449.toNat)))))) (v' := (.int .i64 x1522)) (u := []) (u' := []) rfl (congrArg (fun z => ((.int .i64 z) : AV)) hx1523) rfl trivial rfl ?_
            refine d_next (by kernel_rfl) ?_
            refine d_cons ?_
            refine a_val (v := (.int .i64 (IntKind.i64.wrap ((IntKind.i64.wrap x1518) - x1522)))) (u := []) rfl trivial rfl ?_
            refine d_next (by kernel_rfl) ?_
            refine d_cons ?_
            refine a_val (v := (.int .i64 a0)) (u := []) rfl trivial rfl ?_
            refine d_next (by kernel_rfl) ?_
            refine d_cons ?_
            obtain ⟨hc1524, h⟩ := ifp_some h
            obtain ⟨x1525, hx1526, h⟩ := letp_some h
            refine a_val' (v := (.int .i64 (Int.tmod (IntKind.i64.wrap ((IntKind.i64.wrap x1518) - x1522)) a0))) (v' := (.int .i64 x1525)) (u := []) (u' := []) rfl (congrArg (fun z => ((.int .i64 z) : AV)) hx1526) rfl hc1524 rfl ?_
            refine d_next (by kernel_rfl) ?_
            refine d_cons ?_
            refine a_val (v := (.int .i64 a0)) (u := []) rfl trivial rfl ?_
            refine d_next (by kernel_rfl) ?_
            refine d_cons ?_
            refine a_val (v := (.int .i64 (IntKind.i64.wrap (x1525 + a0)))) (u := []) rfl trivial rfl ?_
            refine d_next (by kernel_rfl) ?_
            refine d_cons ?_
            refine a_val (v := (.int .i64 a0)) (u := []) rfl trivial rfl ?_
            refine d_next (by kernel_rfl) ?_
            refine d_cons ?_
            obtain ⟨hc1527, h⟩ := ifp_some h
            refine a_val (v := (.int .i64 (Int.tmod (IntKind.i64.wrap (x1525 + a0)) a0))) (u := []) rfl hc1527 rfl ?_
            refine d_next (by kernel_rfl) ?_
            refine d_cons ?_
            obtain ⟨x1528, hx1529, h⟩ := letp_some h
            refine a_val' (v := (.int .u8 (IntKind.u8.wrap (Int.tmod (IntKind.i64.wrap (x1525 + a0)) a0)))) (v' := (.int .u8 x1528)) (u := []) (u' := []) rfl (congrArg (fun z => ((.int .u8 z) : AV)) hx1529) rfl trivial rfl ?_
            refine d_next (by kernel_rfl) ?_
            refine d_cons ?_
            obtain ⟨hc1530, h⟩ := ifp_some h
            refine a_val (v := (.own 4 [(IntKind.i64.wrap ((IntKind.i64.wrap (x995 - r2)) + x1449)).toNat] [(IntKind.i64.wrap ((IntKind.i64.wrap (x995 - r2)) + x1449)).toNat * 1])) (u := []) rfl hc1530 rfl ?_
            refine d_next (by kernel_rfl) ?_
            refine d_cons ?_
            have hs1531 : StOk [(IntKind.i64.wrap ((IntKind.i64.wrap (x995 - r2)) + x1449)).toNat] (eA64u8 x1450) [(IntKind.i64.wrap ((IntKind.i64.wrap (x995 - r2)) + x1449)).toNat * 1] 1 (.int .u8 x1528) (eA64u8 ((vset x1450 (IntKind.i64.wrap ((IntKind.i64.wrap (x995 - r2)) + x1449)).toNat x1528))) := (.arr (y := x1528) (vlt x1450 hc1530) rfl (.nil rfl rfl rfl rfl))
            refine a_val (v := .top) (u := [(4, some ⟨(eA64u8 ((vset x1450 (IntKind.i64.wrap ((IntKind.i64.wrap (x995 - r2)) + x1449)).toNat x1528))), false⟩)]) (st_own (i := ⟨.int .u8, 1, 1, (.int .u8 0)⟩) rfl rfl (fun _ => rfl) rfl hs1531) (hs1531.c rfl) rfl ?_
            refine d_next (by kernel_rfl) ?_
            refine d_nil ?_
            refine b_norm ?_
            refine a_next (σ' := ⟨[(0, (.int .i64 a0)), (4, (.own 4 [] [])), (5, (.own 5 [] [])), (6, (.own 6 [] [])), (7, (.own 7 [] [])), (8, (.own 8 [] [])), (9, (.int .i64 r2)), (10, (.int .i64 (IntKind.i64.wrap r7))), (11, (.int .i64 x995)), (12, (.int .i64 (Int.tmod x1405 a0))), (13, (.int .i64 x1449))], [(4, some ⟨(eA64u8 ((vset x1450 (IntKind.i64.wrap ((IntKind.i64.wrap (x995 - r2)) + x1449)).toNat x1528))), false⟩), (5, some ⟨(eA64u8 a2), false⟩), (6, some ⟨(eA64u8 ((vrep 64 (0 : Int)))), false⟩), (7, some ⟨(eA64u8 ((vrep 64 (0 : Int)))), false⟩), (8, some ⟨(eA64u8 ((vset x997 (IntKind.i64.wrap (x995 - r2)).toNat (IntKind.u8.wrap (Int.tmod x1405 a0))))), false⟩)]⟩) (by kernel_rfl) ?_
            refine a_region ?_
            refine a_val (v := (.int .i64 x1449)) (u := []) rfl trivial rfl ?_
            refine a_val (v := (.int .i64 (IntKind.i64.wrap (x1449 + 1)))) (u := []) rfl trivial rfl ?_
            refine a_val (v := (.int .i64 (IntKind.i64.wrap (x1449 + 1)))) (u := []) rfl trivial rfl ?_
            refine a_nil ?_
            cases h
            exact a_again (by kernel_rfl) hX1492
        · have h := hy1496
          refine a_region ?_
          refine a_val (v := (.int .i64 x1449)) (u := []) rfl trivial rfl ?_
          refine a_val (v := (.int .i64 r2)) (u := []) rfl trivial rfl ?_
          refine a_val (v := (.bool ((decide (x1449 ≤ r2))))) (u := []) rfl trivial rfl ?_
          refine a_val (v := (.bool ((decide (x1449 ≤ r2))))) (u := []) rfl trivial rfl ?_
          cases hb1498 : (decide (x1449 ≤ r2))
          · have h := ite_f hb1498 h
            refine a_gskip rfl ?_
            refine a_gskip rfl ?_
            refine a_val (v := (.bool false)) (u := []) rfl trivial rfl ?_
            refine a_nil ?_
            exact j_leaf false (Option.some.inj h) (by kernel_rfl)
          · have h := ite_t hb1498 h
            refine a_gval rfl (v := (.int .i64 (Int.tmod x1405 a0))) (u := []) rfl trivial rfl ?_
            refine a_gval rfl (v := (.bool (((Int.tmod x1405 a0) != 0)))) (u := []) rfl trivial rfl ?_
            refine a_val (v := (.bool (((Int.tmod x1405 a0) != 0)))) (u := []) rfl trivial rfl ?_
            refine a_nil ?_
            exact j_leaf (((Int.tmod x1405 a0) != 0)) (Option.some.inj h) (by kernel_rfl)
def spec_l01Mod_c : ACode := (.seq (.region 0 [⟨some 4, .box 24 (.tmp 1), none, []⟩, ⟨some 5, .box 24 (.tmp 2), none, []⟩, ⟨some 6, .alloc 24, none, []⟩] false) (.seq (.region 1 [⟨some 10, .mov (.tmp 0), none, []⟩, ⟨some 11, .load 24 (.tmp 4), none, []⟩, ⟨some 12, .load 24 (.tmp 5), none, []⟩, ⟨some 13, .call 0 (.func 103) [(.tmp 10), (.tmp 11), (.tmp 12)], none, []⟩, ⟨some 9, .mov (.tmp 13), none, []⟩, ⟨some 14, .extract (.tmp 9) 0, none, []⟩, ⟨some 15, .extract (.tmp 9) 1, none, []⟩, ⟨some 7, .alloc 24, none, []⟩, ⟨some 8, .alloc 24, none, []⟩, ⟨none, .store 24 (.tmp 7) (.tmp 14), none, []⟩, ⟨none, .store 24 (.tmp 8) (.tmp 15), none, []⟩] false) (.seq (.region 2 [⟨some 16, .load 24 (.tmp 8), none, []⟩, ⟨none, .store 24 (.tmp 6) (.tmp 16), none, []⟩] false) .ret)))
def spec_l01Mod_L : Live := [(0, [0, 1, 2]), (1, [0, 4, 5, 6]), (2, [6, 8])]
theorem spec_l01Mod_body : Try.f95.body = some (Try.f95.body.getD .skip) := by kernel_rfl
theorem spec_l01Mod_strip : strip [] (Try.f95.body.getD .skip) = spec_l01Mod_c := by kernel_rfl
noncomputable def spec_l01Mod (a0 : Int) (a1 : (Vec Int 64)) (a2 : (Vec Int 64)) : Option (Vec Int 64) :=
  (Option.bind (spec_l01Divide a0 a1 a2) fun r3 => (some r3.2))
set_option maxHeartbeats 16000000 in
theorem spec_l01Mod_ok (a0 : Int) (a1 : (Vec Int 64)) (a2 : (Vec Int 64)) (r : (Vec Int 64)) (h : spec_l01Mod a0 a1 a2 = some r) : Den Try.prog 95 [(.int .i64 a0), (eA64u8 a1), (eA64u8 a2)] { r := (eA64u8 r) } := by
  refine den_of (rs := [(eA64u8 r)]) (ac := spec_l01Mod_c) (L := spec_l01Mod_L) (n := 17) (m := []) good Try.func95 spec_l01Mod_body (by kernel_rfl) Try.ntmps95 rfl rfl spec_l01Mod_strip rfl rfl ?_
  refine a_st (σ' := ⟨[(0, (.int .i64 a0)), (1, (eA64u8 a1)), (2, (eA64u8 a2))], []⟩) (by kernel_rfl) ?_
  unfold spec_l01Mod_c
  refine a_seq ?_
  refine a_region ?_
  refine a_val (v := (.own 1400 [] [])) (u := [(1400, some ⟨(eA64u8 a1), false⟩)]) rfl trivial rfl ?_
  refine a_val (v := (.own 1500 [] [])) (u := [(1500, some ⟨(eA64u8 a2), false⟩)]) rfl trivial rfl ?_
  refine a_val (v := (.own 1600 [] [])) (u := [(1600, some ⟨(eA64u8 ((vrep 64 (0 : Int)))), false⟩)]) rfl trivial rfl ?_
  refine a_nil ?_
  refine a_next (σ' := ⟨[(0, (.int .i64 a0)), (4, (.own 4 [] [])), (5, (.own 5 [] [])), (6, (.own 6 [] []))], [(4, some ⟨(eA64u8 a1), false⟩), (5, some ⟨(eA64u8 a2), false⟩), (6, some ⟨(eA64u8 ((vrep 64 (0 : Int)))), false⟩)]⟩) (by kernel_rfl) ?_
  refine a_seq ?_
  refine a_region ?_
  refine a_val (v := (.int .i64 a0)) (u := []) rfl trivial rfl ?_
  have hl1 : LdOk [] (eA64u8 a1) [] 64 true (eA64u8 a1) := (.nil rfl rfl rfl)
  refine a_val (v := (eA64u8 a1)) (u := []) (ld_own (i := ⟨.arr 64 5, 64, 64, (eA64u8 (vrep 64 (0 : Int)))⟩) rfl rfl rfl hl1) hl1.c rfl ?_
  have hl2 : LdOk [] (eA64u8 a2) [] 64 true (eA64u8 a2) := (.nil rfl rfl rfl)
  refine a_val (v := (eA64u8 a2)) (u := []) (ld_own (i := ⟨.arr 64 5, 64, 64, (eA64u8 (vrep 64 (0 : Int)))⟩) rfl rfl rfl hl2) hl2.c rfl ?_
  obtain ⟨r3, hr4, h⟩ := bind_some h
  refine a_call (args := [(.int .i64 a0), (eA64u8 a1), (eA64u8 a2)]) (u := []) (r := (.tuple [(eA64u8 r3.1), (eA64u8 r3.2)])) rfl rfl (spec_l01Divide_ok a0 a1 a2 r3 hr4) rfl ?_
  refine a_val (v := (.tuple [(eA64u8 r3.1), (eA64u8 r3.2)])) (u := []) rfl trivial rfl ?_
  refine a_val (v := (eA64u8 r3.1)) (u := []) rfl (Nat.le_of_ble_eq_true rfl) rfl ?_
  refine a_val (v := (eA64u8 r3.2)) (u := []) rfl (Nat.le_of_ble_eq_true rfl) rfl ?_
  refine a_val (v := (.own 1700 [] [])) (u := [(1700, some ⟨(eA64u8 ((vrep 64 (0 : Int)))), false⟩)]) rfl trivial rfl ?_
  refine a_val (v := (.own 1800 [] [])) (u := [(1800, some ⟨(eA64u8 ((vrep 64 (0 : Int)))), false⟩)]) rfl trivial rfl ?_
  have hs5 : StOk [] (eA64u8 ((vrep 64 (0 : Int)))) [] 64 (eA64u8 r3.1) (eA64u8 r3.1) := (.nil rfl rfl rfl rfl)
  refine a_val (v := .top) (u := [(1700, some ⟨(eA64u8 r3.1), false⟩)]) (st_own (i := ⟨.arr 64 5, 64, 64, (eA64u8 (vrep 64 (0 : Int)))⟩) rfl rfl (fun _ => rfl) rfl hs5) (hs5.c rfl) rfl ?_
  have hs6 : StOk [] (eA64u8 ((vrep 64 (0 : Int)))) [] 64 (eA64u8 r3.2) (eA64u8 r3.2) := (.nil rfl rfl rfl rfl)
  refine a_val (v := .top) (u := [(1800, some ⟨(eA64u8 r3.2), false⟩)]) (st_own (i := ⟨.arr 64 5, 64, 64, (eA64u8 (vrep 64 (0 : Int)))⟩) rfl rfl (fun _ => rfl) rfl hs6) (hs6.c rfl) rfl ?_
  refine a_nil ?_
  refine a_next (σ' := ⟨[(6, (.own 6 [] [])), (8, (.own 8 [] []))], [(6, some ⟨(eA64u8 ((vrep 64 (0 : Int)))), false⟩), (8, some ⟨(eA64u8 r3.2), false⟩)]⟩) (by kernel_rfl) ?_
  refine a_seq ?_
  refine a_region ?_
  have hl7 : LdOk [] (eA64u8 r3.2) [] 64 true (eA64u8 r3.2) := (.nil rfl rfl rfl)
  refine a_val (v := (eA64u8 r3.2)) (u := []) (ld_own (i := ⟨.arr 64 5, 64, 64, (eA64u8 (vrep 64 (0 : Int)))⟩) rfl rfl rfl hl7) hl7.c rfl ?_
  have hs8 : StOk [] (eA64u8 ((vrep 64 (0 : Int)))) [] 64 (eA64u8 r3.2) (eA64u8 r3.2) := (.nil rfl rfl rfl rfl)
  refine a_val (v := .top) (u := [(6, some ⟨(eA64u8 r3.2), false⟩)]) (st_own (i := ⟨.arr 64 5, 64, 64, (eA64u8 (vrep 64 (0 : Int)))⟩) rfl rfl (fun _ => rfl) rfl hs8) (hs8.c rfl) rfl ?_
  refine a_nil ?_
  refine a_next rfl ?_
  refine a_ret ?_
  have hl9 : LdOk [] (eA64u8 r3.2) [] 64 true (eA64u8 r3.2) := (.nil rfl rfl rfl)
  refine ⟨.inr rfl, ?_⟩
  rw [Try.results95]
  cases h
  exact ⟨_, _, _, _, _, ld_own (i := ⟨.arr 64 5, 64, 64, (eA64u8 (vrep 64 (0 : Int)))⟩) rfl rfl rfl hl9, hl9.c, .inl ⟨rfl, .inl rfl⟩, rfl, rfl⟩
def spec_l01One_c : ACode := (.seq (.region 0 [⟨some 0, .alloc 24, none, []⟩] false) (.seq (.region 1 [⟨some 1, .build 24 [(0, (.const (.int .u8 1)))], none, []⟩, ⟨none, .store 24 (.tmp 0) (.tmp 1), none, []⟩] false) .ret))
def spec_l01One_L : Live := [(0, []), (1, [0])]
theorem spec_l01One_body : Try.f123.body = some (Try.f123.body.getD .skip) := by kernel_rfl
theorem spec_l01One_strip : strip [] (Try.f123.body.getD .skip) = spec_l01One_c := by kernel_rfl
noncomputable def spec_l01One  : Option (Vec Int 64) :=
  (some ((vset (vrep 64 (0 : Int)) 0 1)))
set_option maxHeartbeats 16000000 in
theorem spec_l01One_ok  (r : (Vec Int 64)) (h : spec_l01One = some r) : Den Try.prog 123 [] { r := (eA64u8 r) } := by
  refine den_of (rs := [(eA64u8 r)]) (ac := spec_l01One_c) (L := spec_l01One_L) (n := 2) (m := []) good Try.func123 spec_l01One_body (by kernel_rfl) Try.ntmps123 rfl rfl spec_l01One_strip rfl rfl ?_
  refine a_st (σ' := ⟨[], []⟩) (by kernel_rfl) ?_
  unfold spec_l01One_c
  refine a_seq ?_
  refine a_region ?_
  refine a_val (v := (.own 1000 [] [])) (u := [(1000, some ⟨(eA64u8 ((vrep 64 (0 : Int)))), false⟩)]) rfl trivial rfl ?_
  refine a_nil ?_
  refine a_next (σ' := ⟨[(0, (.own 0 [] []))], [(0, some ⟨(eA64u8 ((vrep 64 (0 : Int)))), false⟩)]⟩) (by kernel_rfl) ?_
  refine a_seq ?_
  refine a_region ?_
  refine a_val (v := (eA64u8 ((vset (vrep 64 (0 : Int)) 0 1)))) (u := []) rfl ⟨⟨_, rfl, rfl⟩, (all_cons ⟨(Nat.le_of_ble_eq_true rfl), rfl⟩ all_nil)⟩ rfl ?_
  have hs1 : StOk [] (eA64u8 ((vrep 64 (0 : Int)))) [] 64 (eA64u8 ((vset (vrep 64 (0 : Int)) 0 1))) (eA64u8 ((vset (vrep 64 (0 : Int)) 0 1))) := (.nil rfl rfl rfl rfl)
  refine a_val (v := .top) (u := [(0, some ⟨(eA64u8 ((vset (vrep 64 (0 : Int)) 0 1))), false⟩)]) (st_own (i := ⟨.arr 64 5, 64, 64, (eA64u8 (vrep 64 (0 : Int)))⟩) rfl rfl (fun _ => rfl) rfl hs1) (hs1.c rfl) rfl ?_
  refine a_nil ?_
  refine a_next rfl ?_
  refine a_ret ?_
  have hl2 : LdOk [] (eA64u8 ((vset (vrep 64 (0 : Int)) 0 1))) [] 64 true (eA64u8 ((vset (vrep 64 (0 : Int)) 0 1))) := (.nil rfl rfl rfl)
  refine ⟨.inr rfl, ?_⟩
  rw [Try.results123]
  cases h
  exact ⟨_, _, _, _, _, ld_own (i := ⟨.arr 64 5, 64, 64, (eA64u8 (vrep 64 (0 : Int)))⟩) rfl rfl rfl hl2, hl2.c, .inl ⟨rfl, .inl rfl⟩, rfl, rfl⟩
end Go.Proofs.Ytcgohoclbjgmkaa
