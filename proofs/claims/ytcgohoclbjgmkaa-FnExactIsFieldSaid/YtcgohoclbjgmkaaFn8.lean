/- Functions of the program: plain Lean functions, and that the program computes them. Printed by gen.py. -/
import Derived.Test.YtcgohoclbjgmkaaFnT
import Derived.Test.YtcgohoclbjgmkaaFn1
namespace Go.Proofs.Ytcgohoclbjgmkaa
open Go.Abs Go.Proofs
set_option linter.unusedSimpArgs false
set_option linter.unusedVariables false
attribute [local irreducible] Abs.acode Abs.aops Abs.aopsT Abs.thenK Abs.blockK

def spec_l01Count_c : ACode := (.seq (.region 0 [⟨some 4, .asg 0 (.const (.int .i64 0)) 2, none, []⟩] false) (.seq (.region 1 [⟨some 5, .asg 0 (.const (.int .i64 1)) 2, none, []⟩] false) (.seq (.block 0 (.loop (.seq (.seq (.region 2 [⟨some 6, .mov (.tmp 1), none, []⟩, ⟨some 7, .bin .gtr 2 (.tmp 6) (.const (.int .i64 0)), none, []⟩, ⟨some 8, .mov (.tmp 7), none, []⟩, ⟨some 9, .mov (.tmp 5), some (8, true), []⟩, ⟨some 10, .bin .leq 2 (.tmp 9) (.const (.int .i64 1000000000000)), some (8, true), []⟩, ⟨some 11, .pick (.tmp 8) (.tmp 10) (.const (.bool false)), none, []⟩] false) (.cond (.tmp 11) .skip (.exit 0))) (.seq (.block 1 (.region 4 [⟨some 14, .mov (.tmp 5), none, []⟩, ⟨some 15, .mov (.tmp 0), none, []⟩, ⟨some 16, .bin .mul 2 (.tmp 14) (.tmp 15), none, []⟩, ⟨some 5, .asg 0 (.tmp 16) 2, none, []⟩] false)) (.region 3 [⟨some 12, .mov (.tmp 1), none, []⟩, ⟨some 13, .bin .sub 2 (.tmp 12) (.const (.int .i64 1)), none, []⟩, ⟨some 1, .asg 0 (.tmp 13) 2, none, []⟩] false))))) (.seq (.region 5 [⟨some 17, .mov (.tmp 5), none, []⟩, ⟨some 18, .blt 0 .min [(.tmp 17), (.const (.int .i64 1000000000001))] [2, 2], none, []⟩, ⟨some 4, .asg 0 (.tmp 18) 2, none, []⟩] false) .ret))))
def spec_l01Count_L : Live := [(0, [0, 1]), (1, [0, 1]), (2, [0, 1, 5]), (3, [0, 1, 5]), (4, [0, 1, 5]), (5, [5]), (100011, [0, 1, 5, 11])]
theorem spec_l01Count_body : Try.f62.body = some (Try.f62.body.getD .skip) := by kernel_rfl
theorem spec_l01Count_strip : strip [] (Try.f62.body.getD .skip) = spec_l01Count_c := by kernel_rfl
noncomputable def spec_l01Count_l1 (a0 : Int) (x39 : Int) (x40 : Int) : Option ((Int × Int) ⊕ Int) :=
  (Option.bind (α := Bool) ((if (decide (x39 > 0)) then (some ((decide (x40 ≤ 1000000000000)))) else (some false))) fun x52 => (if x52 then (some (.inl ((IntKind.i64.wrap (x39 - 1), IntKind.i64.wrap (x40 * a0))))) else (some (.inr x40))))
noncomputable def spec_l01Count (a0 : Int) (a1 : Int) : Option Int :=
  (Option.bind (α := Int) ((loopM (fun s : (Int × Int) => spec_l01Count_l1 a0 s.1 s.2) (a1, 1))) fun x28 => (some (if 1000000000001 < x28 then 1000000000001 else x28)))
set_option maxHeartbeats 16000000 in
theorem spec_l01Count_ok (a0 : Int) (a1 : Int) (r : Int) (h : spec_l01Count a0 a1 = some r) : Den Try.prog 62 [(.int .i64 a0), (.int .i64 a1)] { r := (.int .i64 r) } := by
  refine den_of (rs := [(.int .i64 r)]) (ac := spec_l01Count_c) (L := spec_l01Count_L) (n := 19) (m := []) good Try.func62 spec_l01Count_body (by kernel_rfl) Try.ntmps62 rfl rfl spec_l01Count_strip rfl rfl ?_
  refine a_st (σ' := ⟨[(0, (.int .i64 a0)), (1, (.int .i64 a1))], []⟩) (by kernel_rfl) ?_
  unfold spec_l01Count_c
  refine a_seq ?_
  refine a_region ?_
  refine a_val (v := (.int .i64 0)) (u := []) rfl trivial rfl ?_
  refine a_nil ?_
  refine a_next (σ' := ⟨[(0, (.int .i64 a0)), (1, (.int .i64 a1))], []⟩) (by kernel_rfl) ?_
  refine a_seq ?_
  refine a_region ?_
  refine a_val (v := (.int .i64 1)) (u := []) rfl trivial rfl ?_
  refine a_nil ?_
  refine a_next (σ' := ⟨[(0, (.int .i64 a0)), (1, (.int .i64 a1)), (5, (.int .i64 1))], []⟩) (by kernel_rfl) ?_
  obtain ⟨y29, hy30, hk31⟩ := bind_some h
  clear h
  refine a_join (emb := fun (s : Int) => ⟨[(5, (.int .i64 s))], []⟩) (pre := fun s => s = y29) ?_ ?_
  · rintro x28 rfl
    have h := hk31
    refine a_st (σ' := ⟨[(5, (.int .i64 x28))], []⟩) (by kernel_rfl) ?_
    refine a_seq ?_
    refine a_region ?_
    refine a_val (v := (.int .i64 x28)) (u := []) rfl trivial rfl ?_
    refine a_val (v := (.int .i64 (if 1000000000001 < x28 then 1000000000001 else x28))) (u := []) rfl trivial rfl ?_
    refine a_val (v := (.int .i64 (if 1000000000001 < x28 then 1000000000001 else x28))) (u := []) rfl trivial rfl ?_
    refine a_nil ?_
    refine a_next rfl ?_
    refine a_ret ?_
    refine ⟨.inr rfl, ?_⟩
    rw [Try.results62]
    cases h
    exact ⟨_, _, _, _, _, rfl, trivial, .inl ⟨rfl, .inl rfl⟩, rfl, rfl⟩
  · have h := hy30
    refine a_block ?_
    refine a_loop (emb := fun (s : (Int × Int)) => ⟨[(0, (.int .i64 a0)), (1, (.int .i64 s.1)), (5, (.int .i64 s.2))], []⟩) (body := (fun s : (Int × Int) => spec_l01Count_l1 a0 s.1 s.2)) (G := fun q => some q = some y29) h rfl ?_ (by kernel_rfl)
    rintro X48 ⟨x39, x40⟩ x49 h hX50
    have h : spec_l01Count_l1 a0 x39 x40 = some x49 := h
    refine a_st (σ' := ⟨[(0, (.int .i64 a0)), (1, (.int .i64 x39)), (5, (.int .i64 x40))], []⟩) (by kernel_rfl) ?_
    refine a_seq ?_
    obtain ⟨y53, hy54, hk55⟩ := bind_some h
    clear h
    refine a_join (emb := fun (s : Bool) => ⟨[(0, (.int .i64 a0)), (1, (.int .i64 x39)), (5, (.int .i64 x40)), (11, (.bool s))], []⟩) (pre := fun s => s = y53) ?_ ?_
    · rintro x52 rfl
      have h := hk55
      refine a_st (σ' := ⟨[(0, (.int .i64 a0)), (1, (.int .i64 x39)), (5, (.int .i64 x40)), (11, (.bool x52))], []⟩) (by kernel_rfl) ?_
      cases hb57 : x52
      · have h := ite_f hb57 h
        refine a_cond_f rfl ?_
        refine a_exit ?_
        refine t_exit ?_
        cases h
        have h := hX50
        refine t_exit ?_
        refine b_exit ?_
        exact j_leaf x40 (Option.some.inj h) (by kernel_rfl)
      · have h := ite_t hb57 h
        refine a_cond_t rfl ?_
        refine a_skip ?_
        refine a_next (σ' := ⟨[(0, (.int .i64 a0)), (1, (.int .i64 x39)), (5, (.int .i64 x40))], []⟩) (by kernel_rfl) ?_
        refine a_seq ?_
        refine a_block ?_
        refine a_region ?_
        refine a_val (v := (.int .i64 x40)) (u := []) rfl trivial rfl ?_
        refine a_val (v := (.int .i64 a0)) (u := []) rfl trivial rfl ?_
        refine a_val (v := (.int .i64 (IntKind.i64.wrap (x40 * a0)))) (u := []) rfl trivial rfl ?_
        refine a_val (v := (.int .i64 (IntKind.i64.wrap (x40 * a0)))) (u := []) rfl trivial rfl ?_
        refine a_nil ?_
        refine b_norm ?_
        refine a_next (σ' := ⟨[(0, (.int .i64 a0)), (1, (.int .i64 x39)), (5, (.int .i64 (IntKind.i64.wrap (x40 * a0))))], []⟩) (by kernel_rfl) ?_
        refine a_region ?_
        refine a_val (v := (.int .i64 x39)) (u := []) rfl trivial rfl ?_
        refine a_val (v := (.int .i64 (IntKind.i64.wrap (x39 - 1)))) (u := []) rfl trivial rfl ?_
        refine a_val (v := (.int .i64 (IntKind.i64.wrap (x39 - 1)))) (u := []) rfl trivial rfl ?_
        refine a_nil ?_
        cases h
        exact a_again (by kernel_rfl) hX50
    · have h := hy54
      refine a_region ?_
      refine a_val (v := (.int .i64 x39)) (u := []) rfl trivial rfl ?_
      refine a_val (v := (.bool ((decide (x39 > 0))))) (u := []) rfl trivial rfl ?_
      refine a_val (v := (.bool ((decide (x39 > 0))))) (u := []) rfl trivial rfl ?_
      cases hb56 : (decide (x39 > 0))
      · have h := ite_f hb56 h
        refine a_gskip rfl ?_
        refine a_gskip rfl ?_
        refine a_val (v := (.bool false)) (u := []) rfl trivial rfl ?_
        refine a_nil ?_
        exact j_leaf false (Option.some.inj h) (by kernel_rfl)
      · have h := ite_t hb56 h
        refine a_gval rfl (v := (.int .i64 x40)) (u := []) rfl trivial rfl ?_
        refine a_gval rfl (v := (.bool ((decide (x40 ≤ 1000000000000))))) (u := []) rfl trivial rfl ?_
        refine a_val (v := (.bool ((decide (x40 ≤ 1000000000000))))) (u := []) rfl trivial rfl ?_
        refine a_nil ?_
        exact j_leaf ((decide (x40 ≤ 1000000000000))) (Option.some.inj h) (by kernel_rfl)
def spec_l01Of_c : ACode := (.seq (.region 0 [⟨some 4, .alloc 24, none, []⟩] false) (.seq (.region 1 [⟨some 7, .build 24 [], none, []⟩, ⟨some 5, .alloc 24, none, []⟩, ⟨none, .store 24 (.tmp 5) (.tmp 7), none, []⟩] false) (.seq (.seq (.region 2 [⟨some 6, .asg 0 (.const (.int .i64 0)) 3, none, []⟩] false) (.block 0 (.loop (.seq (.seq (.region 3 [⟨some 8, .mov (.tmp 1), none, []⟩, ⟨some 9, .bin .gtr 2 (.tmp 8) (.const (.int .i64 0)), none, []⟩] false) (.cond (.tmp 9) .skip (.exit 0))) (.seq (.block 1 (.seq (.region 5 [⟨some 12, .mov (.tmp 6), none, []⟩, ⟨some 13, .mov (.tmp 1), none, []⟩, ⟨some 14, .mov (.tmp 0), none, []⟩, ⟨some 15, .bin .rem 2 (.tmp 13) (.tmp 14), none, []⟩, ⟨some 16, .conv 2 5 (.tmp 15), none, []⟩, ⟨some 17, .indexAddr 24 (.tmp 5) (.tmp 12), none, []⟩, ⟨none, .store 5 (.tmp 17) (.tmp 16), none, []⟩] false) (.region 6 [⟨some 18, .mov (.tmp 1), none, []⟩, ⟨some 19, .mov (.tmp 0), none, []⟩, ⟨some 20, .bin .quo 2 (.tmp 18) (.tmp 19), none, []⟩, ⟨some 1, .asg 0 (.tmp 20) 2, none, []⟩] false))) (.region 4 [⟨some 10, .mov (.tmp 6), none, []⟩, ⟨some 11, .bin .add 3 (.tmp 10) (.const (.int .i64 1)), none, []⟩, ⟨some 6, .asg 0 (.tmp 11) 3, none, []⟩] false)))))) (.seq (.region 7 [⟨some 21, .load 24 (.tmp 5), none, []⟩, ⟨none, .store 24 (.tmp 4) (.tmp 21), none, []⟩] false) .ret))))
def spec_l01Of_L : Live := [(0, [0, 1]), (1, [0, 1, 4]), (2, [0, 1, 4, 5]), (3, [0, 1, 4, 5, 6]), (4, [0, 1, 4, 5, 6]), (5, [0, 1, 4, 5, 6]), (6, [0, 1, 4, 5, 6]), (7, [4, 5]), (100009, [0, 1, 4, 5, 6, 9])]
theorem spec_l01Of_body : Try.f63.body = some (Try.f63.body.getD .skip) := by kernel_rfl
theorem spec_l01Of_strip : strip [] (Try.f63.body.getD .skip) = spec_l01Of_c := by kernel_rfl
noncomputable def spec_l01Of_l1 (a0 : Int) (x33 : Int) (x34 : Int) (x35 : (Vec Int 64)) : Option ((Int × Int × (Vec Int 64)) ⊕ (Vec Int 64)) :=
  (if (decide (x33 > 0)) then (ifp (a0 ≠ 0) ((ifp (0 ≤ x34 ∧ x34 < ((64 : Nat) : Int)) ((ifp (a0 ≠ 0) ((some (.inl ((IntKind.i64.wrap (Int.tdiv x33 a0), IntKind.i64.wrap (x34 + 1), (vset x35 x34.toNat (IntKind.u8.wrap (Int.tmod x33 a0))))))))))))) else (some (.inr x35)))
noncomputable def spec_l01Of (a0 : Int) (a1 : Int) : Option (Vec Int 64) :=
  (Option.bind (α := (Vec Int 64)) ((loopM (fun s : (Int × Int × (Vec Int 64)) => spec_l01Of_l1 a0 s.1 s.2.1 s.2.2) (a1, 0, (vrep 64 (0 : Int))))) fun x24 => (some x24))
set_option maxHeartbeats 16000000 in
theorem spec_l01Of_ok (a0 : Int) (a1 : Int) (r : (Vec Int 64)) (h : spec_l01Of a0 a1 = some r) : Den Try.prog 63 [(.int .i64 a0), (.int .i64 a1)] { r := (eA64u8 r) } := by
  refine den_of (rs := [(eA64u8 r)]) (ac := spec_l01Of_c) (L := spec_l01Of_L) (n := 22) (m := []) good Try.func63 spec_l01Of_body (by kernel_rfl) Try.ntmps63 rfl rfl spec_l01Of_strip rfl rfl ?_
  refine a_st (σ' := ⟨[(0, (.int .i64 a0)), (1, (.int .i64 a1))], []⟩) (by kernel_rfl) ?_
  unfold spec_l01Of_c
  refine a_seq ?_
  refine a_region ?_
  refine a_val (v := (.own 1400 [] [])) (u := [(1400, some ⟨(eA64u8 ((vrep 64 (0 : Int)))), false⟩)]) rfl trivial rfl ?_
  refine a_nil ?_
  refine a_next (σ' := ⟨[(0, (.int .i64 a0)), (1, (.int .i64 a1)), (4, (.own 4 [] []))], [(4, some ⟨(eA64u8 ((vrep 64 (0 : Int)))), false⟩)]⟩) (by kernel_rfl) ?_
  refine a_seq ?_
  refine a_region ?_
  refine a_val (v := (eA64u8 ((vrep 64 (0 : Int))))) (u := []) rfl ⟨⟨_, rfl, rfl⟩, all_nil⟩ rfl ?_
  refine a_val (v := (.own 1500 [] [])) (u := [(1500, some ⟨(eA64u8 ((vrep 64 (0 : Int)))), false⟩)]) rfl trivial rfl ?_
  have hs1 : StOk [] (eA64u8 ((vrep 64 (0 : Int)))) [] 64 (eA64u8 ((vrep 64 (0 : Int)))) (eA64u8 ((vrep 64 (0 : Int)))) := (.nil rfl rfl rfl rfl)
  refine a_val (v := .top) (u := [(1500, some ⟨(eA64u8 ((vrep 64 (0 : Int)))), false⟩)]) (st_own (i := ⟨.arr 64 5, 64, 64, (eA64u8 (vrep 64 (0 : Int)))⟩) rfl rfl (fun _ => rfl) rfl hs1) (hs1.c rfl) rfl ?_
  refine a_nil ?_
  refine a_next (σ' := ⟨[(0, (.int .i64 a0)), (1, (.int .i64 a1)), (4, (.own 4 [] [])), (5, (.own 5 [] []))], [(4, some ⟨(eA64u8 ((vrep 64 (0 : Int)))), false⟩), (5, some ⟨(eA64u8 ((vrep 64 (0 : Int)))), false⟩)]⟩) (by kernel_rfl) ?_
  obtain ⟨y25, hy26, hk27⟩ := bind_some h
  clear h
  refine a_join (emb := fun (s : (Vec Int 64)) => ⟨[(4, (.own 4 [] [])), (5, (.own 5 [] []))], [(4, some ⟨(eA64u8 ((vrep 64 (0 : Int)))), false⟩), (5, some ⟨(eA64u8 s), false⟩)]⟩) (pre := fun s => s = y25) ?_ ?_
  · rintro x24 rfl
    have h := hk27
    refine a_st (σ' := ⟨[(4, (.own 4 [] [])), (5, (.own 5 [] []))], [(4, some ⟨(eA64u8 ((vrep 64 (0 : Int)))), false⟩), (5, some ⟨(eA64u8 x24), false⟩)]⟩) (by kernel_rfl) ?_
    refine a_seq ?_
    refine a_region ?_
    have hl50 : LdOk [] (eA64u8 x24) [] 64 true (eA64u8 x24) := (.nil rfl rfl rfl)
    refine a_val (v := (eA64u8 x24)) (u := []) (ld_own (i := ⟨.arr 64 5, 64, 64, (eA64u8 (vrep 64 (0 : Int)))⟩) rfl rfl rfl hl50) hl50.c rfl ?_
    have hs51 : StOk [] (eA64u8 ((vrep 64 (0 : Int)))) [] 64 (eA64u8 x24) (eA64u8 x24) := (.nil rfl rfl rfl rfl)
    refine a_val (v := .top) (u := [(4, some ⟨(eA64u8 x24), false⟩)]) (st_own (i := ⟨.arr 64 5, 64, 64, (eA64u8 (vrep 64 (0 : Int)))⟩) rfl rfl (fun _ => rfl) rfl hs51) (hs51.c rfl) rfl ?_
    refine a_nil ?_
    refine a_next rfl ?_
    refine a_ret ?_
    have hl52 : LdOk [] (eA64u8 x24) [] 64 true (eA64u8 x24) := (.nil rfl rfl rfl)
    refine ⟨.inr rfl, ?_⟩
    rw [Try.results63]
    cases h
    exact ⟨_, _, _, _, _, ld_own (i := ⟨.arr 64 5, 64, 64, (eA64u8 (vrep 64 (0 : Int)))⟩) rfl rfl rfl hl52, hl52.c, .inl ⟨rfl, .inl rfl⟩, rfl, rfl⟩
  · have h := hy26
    refine a_seq ?_
    refine a_region ?_
    refine a_val (v := (.int .i64 0)) (u := []) rfl trivial rfl ?_
    refine a_nil ?_
    refine a_next (σ' := ⟨[(0, (.int .i64 a0)), (1, (.int .i64 a1)), (4, (.own 4 [] [])), (5, (.own 5 [] [])), (6, (.int .i64 0))], [(4, some ⟨(eA64u8 ((vrep 64 (0 : Int)))), false⟩), (5, some ⟨(eA64u8 ((vrep 64 (0 : Int)))), false⟩)]⟩) (by kernel_rfl) ?_
    refine a_block ?_
    refine a_loop (emb := fun (s : (Int × Int × (Vec Int 64))) => ⟨[(0, (.int .i64 a0)), (1, (.int .i64 s.1)), (4, (.own 4 [] [])), (5, (.own 5 [] [])), (6, (.int .i64 s.2.1))], [(4, some ⟨(eA64u8 ((vrep 64 (0 : Int)))), false⟩), (5, some ⟨(eA64u8 s.2.2), false⟩)]⟩) (body := (fun s : (Int × Int × (Vec Int 64)) => spec_l01Of_l1 a0 s.1 s.2.1 s.2.2)) (G := fun q => some q = some y25) h rfl ?_ (by kernel_rfl)
    rintro X41 ⟨x33, x34, x35⟩ x42 h hX43
    have h : spec_l01Of_l1 a0 x33 x34 x35 = some x42 := h
    refine a_st (σ' := ⟨[(0, (.int .i64 a0)), (1, (.int .i64 x33)), (4, (.own 4 [] [])), (5, (.own 5 [] [])), (6, (.int .i64 x34))], [(4, some ⟨(eA64u8 ((vrep 64 (0 : Int)))), false⟩), (5, some ⟨(eA64u8 x35), false⟩)]⟩) (by kernel_rfl) ?_
    refine a_seq ?_
    refine a_seq ?_
    refine a_region ?_
    refine a_val (v := (.int .i64 x33)) (u := []) rfl trivial rfl ?_
    refine a_val (v := (.bool ((decide (x33 > 0))))) (u := []) rfl trivial rfl ?_
    refine a_nil ?_
    refine a_next (σ' := ⟨[(0, (.int .i64 a0)), (1, (.int .i64 x33)), (4, (.own 4 [] [])), (5, (.own 5 [] [])), (6, (.int .i64 x34)), (9, (.bool ((decide (x33 > 0)))))], [(4, some ⟨(eA64u8 ((vrep 64 (0 : Int)))), false⟩), (5, some ⟨(eA64u8 x35), false⟩)]⟩) (by kernel_rfl) ?_
    cases hb44 : (decide (x33 > 0))
    · have h := ite_f hb44 h
      refine a_cond_f rfl ?_
      refine a_exit ?_
      refine t_exit ?_
      cases h
      have h := hX43
      refine t_exit ?_
      refine b_exit ?_
      exact j_leaf x35 (Option.some.inj h) (by kernel_rfl)
    · have h := ite_t hb44 h
      refine a_cond_t rfl ?_
      refine a_skip ?_
      refine a_next (σ' := ⟨[(0, (.int .i64 a0)), (1, (.int .i64 x33)), (4, (.own 4 [] [])), (5, (.own 5 [] [])), (6, (.int .i64 x34))], [(4, some ⟨(eA64u8 ((vrep 64 (0 : Int)))), false⟩), (5, some ⟨(eA64u8 x35), false⟩)]⟩) (by kernel_rfl) ?_
      refine a_seq ?_
      refine a_block ?_
      refine a_seq ?_
      refine a_region ?_
      refine a_val (v := (.int .i64 x34)) (u := []) rfl trivial rfl ?_
      refine a_val (v := (.int .i64 x33)) (u := []) rfl trivial rfl ?_
      refine a_val (v := (.int .i64 a0)) (u := []) rfl trivial rfl ?_
      obtain ⟨hc45, h⟩ := ifp_some h
      refine a_val (v := (.int .i64 (Int.tmod x33 a0))) (u := []) rfl hc45 rfl ?_
      refine a_val (v := (.int .u8 (IntKind.u8.wrap (Int.tmod x33 a0)))) (u := []) rfl trivial rfl ?_
      obtain ⟨hc46, h⟩ := ifp_some h
      refine a_val (v := (.own 5 [x34.toNat] [x34.toNat * 1])) (u := []) rfl hc46 rfl ?_
      have hs47 : StOk [x34.toNat] (eA64u8 x35) [x34.toNat * 1] 1 (.int .u8 (IntKind.u8.wrap (Int.tmod x33 a0))) (eA64u8 ((vset x35 x34.toNat (IntKind.u8.wrap (Int.tmod x33 a0))))) := (.arr (y := IntKind.u8.wrap (Int.tmod x33 a0)) (vlt x35 hc46) rfl (.nil rfl rfl rfl rfl))
      refine a_val (v := .top) (u := [(5, some ⟨(eA64u8 ((vset x35 x34.toNat (IntKind.u8.wrap (Int.tmod x33 a0))))), false⟩)]) (st_own (i := ⟨.int .u8, 1, 1, (.int .u8 0)⟩) rfl rfl (fun _ => rfl) rfl hs47) (hs47.c rfl) rfl ?_
      refine a_nil ?_
      refine a_next (σ' := ⟨[(0, (.int .i64 a0)), (1, (.int .i64 x33)), (4, (.own 4 [] [])), (5, (.own 5 [] [])), (6, (.int .i64 x34))], [(4, some ⟨(eA64u8 ((vrep 64 (0 : Int)))), false⟩), (5, some ⟨(eA64u8 ((vset x35 x34.toNat (IntKind.u8.wrap (Int.tmod x33 a0))))), false⟩)]⟩) (by kernel_rfl) ?_
      refine a_region ?_
      refine a_val (v := (.int .i64 x33)) (u := []) rfl trivial rfl ?_
      refine a_val (v := (.int .i64 a0)) (u := []) rfl trivial rfl ?_
      obtain ⟨hc48, h⟩ := ifp_some h
      refine a_val (v := (.int .i64 (IntKind.i64.wrap (Int.tdiv x33 a0)))) (u := []) rfl hc48 rfl ?_
      refine a_val (v := (.int .i64 (IntKind.i64.wrap (Int.tdiv x33 a0)))) (u := []) rfl trivial rfl ?_
      refine a_nil ?_
      refine b_norm ?_
      refine a_next (σ' := ⟨[(0, (.int .i64 a0)), (1, (.int .i64 (IntKind.i64.wrap (Int.tdiv x33 a0)))), (4, (.own 4 [] [])), (5, (.own 5 [] [])), (6, (.int .i64 x34))], [(4, some ⟨(eA64u8 ((vrep 64 (0 : Int)))), false⟩), (5, some ⟨(eA64u8 ((vset x35 x34.toNat (IntKind.u8.wrap (Int.tmod x33 a0))))), false⟩)]⟩) (by kernel_rfl) ?_
      refine a_region ?_
      refine a_val (v := (.int .i64 x34)) (u := []) rfl trivial rfl ?_
      refine a_val (v := (.int .i64 (IntKind.i64.wrap (x34 + 1)))) (u := []) rfl trivial rfl ?_
      refine a_val (v := (.int .i64 (IntKind.i64.wrap (x34 + 1)))) (u := []) rfl trivial rfl ?_
      refine a_nil ?_
      cases h
      exact a_again (by kernel_rfl) hX43
def spec_l01Code_c : ACode := (.seq (.region 0 [⟨some 4, .asg 0 (.const (.int .i64 0)) 2, none, []⟩] false) (.seq (.seq (.region 1 [⟨some 6, .mov (.tmp 0), none, []⟩, ⟨some 7, .call 0 (.func 60) [(.tmp 6)], none, []⟩, ⟨some 8, .un .not (.tmp 7), none, []⟩] false) (.cond (.tmp 8) (.seq (.region 2 [⟨some 4, .asg 0 (.const (.int .i64 1)) 2, none, []⟩] false) .ret) .skip)) (.seq (.seq (.region 3 [⟨some 5, .asg 0 (.const (.int .i64 0)) 3, none, []⟩] false) (.block 0 (.loop (.seq (.seq (.region 4 [⟨some 9, .mov (.tmp 5), none, []⟩, ⟨some 10, .mov (.tmp 1), none, []⟩, ⟨some 11, .blt 0 .len [(.tmp 10)] [36], none, []⟩, ⟨some 12, .bin .lss 3 (.tmp 9) (.tmp 11), none, []⟩] false) (.cond (.tmp 12) .skip (.exit 0))) (.seq (.block 1 (.seq (.region 6 [⟨some 15, .mov (.tmp 0), none, []⟩, ⟨some 16, .mov (.tmp 1), none, []⟩, ⟨some 17, .mov (.tmp 5), none, []⟩, ⟨some 18, .indexAddr 36 (.tmp 16) (.tmp 17), none, []⟩, ⟨some 19, .load 24 (.tmp 18), none, []⟩, ⟨some 20, .call 0 (.func 91) [(.tmp 15), (.tmp 19)], none, []⟩, ⟨some 21, .un .not (.tmp 20), none, []⟩] false) (.cond (.tmp 21) (.seq (.region 7 [⟨some 4, .asg 0 (.const (.int .i64 1)) 2, none, []⟩] false) .ret) .skip))) (.region 5 [⟨some 13, .mov (.tmp 5), none, []⟩, ⟨some 14, .bin .add 3 (.tmp 13) (.const (.int .i64 1)), none, []⟩, ⟨some 5, .asg 0 (.tmp 14) 3, none, []⟩] false)))))) (.seq (.region 8 [⟨some 4, .asg 0 (.const (.int .i64 0)) 2, none, []⟩] false) .ret))))
def spec_l01Code_L : Live := [(0, [0, 1]), (1, [0, 1]), (2, []), (3, [0, 1]), (4, [0, 1, 5]), (5, [0, 1, 5]), (6, [0, 1, 5]), (7, []), (8, []), (100008, [0, 1, 8]), (100012, [0, 1, 5, 12]), (100021, [0, 1, 5, 21])]
theorem spec_l01Code_body : Try.f94.body = some (Try.f94.body.getD .skip) := by kernel_rfl
theorem spec_l01Code_strip : strip [] (Try.f94.body.getD .skip) = spec_l01Code_c := by kernel_rfl
noncomputable def spec_l01Code_l1 (a1 : (List (Vec Int 64))) (a0 : Int) (x36 : Int) : Option (Int ⊕ (Unit ⊕ Int)) :=
  (if (decide (x36 < (a1.length : Int))) then (ifp (0 ≤ x36 ∧ x36 < ((a1.length : Nat) : Int)) ((Option.bind (spec_l01Is a0 (rd a1 x36.toNat)) fun r49 => (if (!r49) then (some (.inr (.inr 1))) else (some (.inl (IntKind.i64.wrap (x36 + 1)))))))) else (some (.inr (((.inl ()))))))
noncomputable def spec_l01Code (a0 : Int) (a1 : (List (Vec Int 64))) : Option Int :=
  (Option.bind (spec_l01Prime a0) fun r1 => (if (!r1) then (some 1) else (Option.bind (α := (Unit ⊕ Int)) ((loopM (fun s : Int => spec_l01Code_l1 a1 a0 s) 0)) fun z => match z with | .inl _ => (some 0) | .inr r53 => (some r53))))
set_option maxHeartbeats 16000000 in
theorem spec_l01Code_ok (a0 : Int) (a1 : (List (Vec Int 64))) (r : Int) (h : spec_l01Code a0 a1 = some r) : Den Try.prog 94 [(.int .i64 a0), (eSA64u8 a1)] { r := (.int .i64 r) } := by
  refine den_of (rs := [(.int .i64 r)]) (ac := spec_l01Code_c) (L := spec_l01Code_L) (n := 22) (m := []) good Try.func94 spec_l01Code_body (by kernel_rfl) Try.ntmps94 rfl rfl spec_l01Code_strip rfl rfl ?_
  refine a_st (σ' := ⟨[(0, (.int .i64 a0)), (1, (eSA64u8 a1))], []⟩) (by kernel_rfl) ?_
  unfold spec_l01Code_c
  refine a_seq ?_
  refine a_region ?_
  refine a_val (v := (.int .i64 0)) (u := []) rfl trivial rfl ?_
  refine a_nil ?_
  refine a_next (σ' := ⟨[(0, (.int .i64 a0)), (1, (eSA64u8 a1))], []⟩) (by kernel_rfl) ?_
  refine a_seq ?_
  refine a_seq ?_
  refine a_region ?_
  refine a_val (v := (.int .i64 a0)) (u := []) rfl trivial rfl ?_
  obtain ⟨r1, hr2, h⟩ := bind_some h
  refine a_call (args := [(.int .i64 a0)]) (u := []) (r := (.bool r1)) rfl rfl (spec_l01Prime_ok a0 r1 hr2) rfl ?_
  refine a_val (v := (.bool (!r1))) (u := []) rfl trivial rfl ?_
  refine a_nil ?_
  refine a_next (σ' := ⟨[(0, (.int .i64 a0)), (1, (eSA64u8 a1)), (8, (.bool (!r1)))], []⟩) (by kernel_rfl) ?_
  cases hb3 : (!r1)
  · have h := ite_f hb3 h
    refine a_cond_f rfl ?_
    refine a_skip ?_
    refine a_next (σ' := ⟨[(0, (.int .i64 a0)), (1, (eSA64u8 a1))], []⟩) (by kernel_rfl) ?_
    obtain ⟨y27, hy28, hk29⟩ := bind_some h
    clear h
    refine a_join (emb := fun (s : Unit) => ⟨[], []⟩) (pre := fun s => (.inl s) = y27) ?_ ?_
    · rintro _ rfl
      have h := hk29
      refine a_st (σ' := ⟨[], []⟩) (by kernel_rfl) ?_
      refine a_seq ?_
      refine a_region ?_
      refine a_val (v := (.int .i64 0)) (u := []) rfl trivial rfl ?_
      refine a_nil ?_
      refine a_next rfl ?_
      refine a_ret ?_
      refine ⟨.inr rfl, ?_⟩
      rw [Try.results94]
      cases h
      exact ⟨_, _, _, _, _, rfl, trivial, .inl ⟨rfl, .inl rfl⟩, rfl, rfl⟩
    · have h := hy28
      refine a_seq ?_
      refine a_region ?_
      refine a_val (v := (.int .i64 0)) (u := []) rfl trivial rfl ?_
      refine a_nil ?_
      refine a_next (σ' := ⟨[(0, (.int .i64 a0)), (1, (eSA64u8 a1)), (5, (.int .i64 0))], []⟩) (by kernel_rfl) ?_
      refine a_block ?_
      refine a_loop (emb := fun (s : Int) => ⟨[(0, (.int .i64 a0)), (1, (eSA64u8 a1)), (5, (.int .i64 s))], []⟩) (body := (fun s : Int => spec_l01Code_l1 a1 a0 s)) (G := fun q => some q = some y27) h rfl ?_ (by kernel_rfl)
      rintro X43 x36 x44 h hX45
      have h : spec_l01Code_l1 a1 a0 x36 = some x44 := h
      refine a_st (σ' := ⟨[(0, (.int .i64 a0)), (1, (eSA64u8 a1)), (5, (.int .i64 x36))], []⟩) (by kernel_rfl) ?_
      refine a_seq ?_
      refine a_seq ?_
      refine a_region ?_
      refine a_val (v := (.int .i64 x36)) (u := []) rfl trivial rfl ?_
      refine a_val (v := (eSA64u8 a1)) (u := []) rfl trivial rfl ?_
      refine a_val (v := (.int .i64 (a1.length : Int))) (u := []) (len_run rfl rfl) trivial rfl ?_
      refine a_val (v := (.bool ((decide (x36 < (a1.length : Int)))))) (u := []) rfl trivial rfl ?_
      refine a_nil ?_
      refine a_next (σ' := ⟨[(0, (.int .i64 a0)), (1, (eSA64u8 a1)), (5, (.int .i64 x36)), (12, (.bool ((decide (x36 < (a1.length : Int))))))], []⟩) (by kernel_rfl) ?_
      cases hb46 : (decide (x36 < (a1.length : Int)))
      · have h := ite_f hb46 h
        refine a_cond_f rfl ?_
        refine a_exit ?_
        refine t_exit ?_
        cases h
        have h := hX45
        refine t_exit ?_
        refine b_exit ?_
        exact j_leaf () (Option.some.inj h) (by kernel_rfl)
      · have h := ite_t hb46 h
        refine a_cond_t rfl ?_
        refine a_skip ?_
        refine a_next (σ' := ⟨[(0, (.int .i64 a0)), (1, (eSA64u8 a1)), (5, (.int .i64 x36))], []⟩) (by kernel_rfl) ?_
        refine a_seq ?_
        refine a_block ?_
        refine a_seq ?_
        refine a_region ?_
        refine a_val (v := (.int .i64 a0)) (u := []) rfl trivial rfl ?_
        refine a_val (v := (eSA64u8 a1)) (u := []) rfl trivial rfl ?_
        refine a_val (v := (.int .i64 x36)) (u := []) rfl trivial rfl ?_
        obtain ⟨hc47, h⟩ := ifp_some h
        refine a_val (v := (.ref (.row 64 (a1.map eA64u8)) [x36.toNat] [x36.toNat * 64])) (u := []) rfl (lmap hc47) rfl ?_
        have hl48 : LdOk [x36.toNat] (.row 64 (a1.map eA64u8)) [x36.toNat * 64] 64 true (eA64u8 (rd a1 x36.toNat)) := (.row (llt hc47) rfl (.nil rfl rfl rfl))
        refine a_val (v := (eA64u8 (rd a1 x36.toNat))) (u := []) (ld_ref (i := ⟨.arr 64 5, 64, 64, (eA64u8 (vrep 64 (0 : Int)))⟩) rfl rfl hl48) hl48.c rfl ?_
        obtain ⟨r49, hr50, h⟩ := bind_some h
        refine a_call (args := [(.int .i64 a0), (eA64u8 (rd a1 x36.toNat))]) (u := []) (r := (.bool r49)) rfl rfl (spec_l01Is_ok a0 (rd a1 x36.toNat) r49 hr50) rfl ?_
        refine a_val (v := (.bool (!r49))) (u := []) rfl trivial rfl ?_
        refine a_nil ?_
        refine a_next (σ' := ⟨[(0, (.int .i64 a0)), (1, (eSA64u8 a1)), (5, (.int .i64 x36)), (21, (.bool (!r49)))], []⟩) (by kernel_rfl) ?_
        cases hb51 : (!r49)
        · have h := ite_f hb51 h
          refine a_cond_f rfl ?_
          refine a_skip ?_
          refine b_norm ?_
          refine a_next (σ' := ⟨[(0, (.int .i64 a0)), (1, (eSA64u8 a1)), (5, (.int .i64 x36))], []⟩) (by kernel_rfl) ?_
          refine a_region ?_
          refine a_val (v := (.int .i64 x36)) (u := []) rfl trivial rfl ?_
          refine a_val (v := (.int .i64 (IntKind.i64.wrap (x36 + 1)))) (u := []) rfl trivial rfl ?_
          refine a_val (v := (.int .i64 (IntKind.i64.wrap (x36 + 1)))) (u := []) rfl trivial rfl ?_
          refine a_nil ?_
          cases h
          exact a_again (by kernel_rfl) hX45
        · have h := ite_t hb51 h
          refine a_cond_t rfl ?_
          refine a_seq ?_
          refine a_region ?_
          refine a_val (v := (.int .i64 1)) (u := []) rfl trivial rfl ?_
          refine a_nil ?_
          refine a_next rfl ?_
          refine a_ret ?_
          refine b_ret ?_
          refine t_ret ?_
          cases h
          have h := hX45
          refine t_ret ?_
          refine b_ret ?_
          refine t_ret ?_
          cases h
          have h := hk29
          refine ⟨.inr rfl, ?_⟩
          rw [Try.results94]
          cases h
          exact ⟨_, _, _, _, _, rfl, trivial, .inl ⟨rfl, .inl rfl⟩, rfl, rfl⟩
  · have h := ite_t hb3 h
    refine a_cond_t rfl ?_
    refine a_seq ?_
    refine a_region ?_
    refine a_val (v := (.int .i64 1)) (u := []) rfl trivial rfl ?_
    refine a_nil ?_
    refine a_next rfl ?_
    refine a_ret ?_
    refine t_ret ?_
    refine ⟨.inr rfl, ?_⟩
    rw [Try.results94]
    cases h
    exact ⟨_, _, _, _, _, rfl, trivial, .inl ⟨rfl, .inl rfl⟩, rfl, rfl⟩
end Go.Proofs.Ytcgohoclbjgmkaa
