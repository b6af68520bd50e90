/- Functions of the program: plain Lean functions, and that the program computes them. Printed by gen.py. -/
import Derived.Test.YtgodhgbnjlflmaaFnT
namespace Go.Proofs.Ytgodhgbnjlflmaa
open Go.Abs Go.Proofs
set_option linter.unusedSimpArgs false
set_option linter.unusedVariables false

def spec_l01Of_c : ACode := (.seq (.region 0 [⟨some 4, .alloc 23, none, []⟩] false) (.seq (.region 1 [⟨some 7, .build 23 [], none, []⟩, ⟨some 5, .alloc 23, none, []⟩, ⟨none, .store 23 (.tmp 5) (.tmp 7), none, []⟩] false) (.seq (.seq (.region 2 [⟨some 6, .asg 0 (.const (.int .i64 0)) 3, none, []⟩] false) (.block 0 (.loop (.seq (.seq (.region 3 [⟨some 8, .mov (.tmp 1), none, []⟩, ⟨some 9, .bin .gtr 2 (.tmp 8) (.const (.int .i64 0)), none, []⟩] false) (.cond (.tmp 9) .skip (.exit 0))) (.seq (.block 1 (.seq (.region 5 [⟨some 12, .mov (.tmp 6), none, []⟩, ⟨some 13, .mov (.tmp 1), none, []⟩, ⟨some 14, .mov (.tmp 0), none, []⟩, ⟨some 15, .bin .rem 2 (.tmp 13) (.tmp 14), none, []⟩, ⟨some 16, .conv 2 5 (.tmp 15), none, []⟩, ⟨some 17, .indexAddr 23 (.tmp 5) (.tmp 12), none, []⟩, ⟨none, .store 5 (.tmp 17) (.tmp 16), none, []⟩] false) (.region 6 [⟨some 18, .mov (.tmp 1), none, []⟩, ⟨some 19, .mov (.tmp 0), none, []⟩, ⟨some 20, .bin .quo 2 (.tmp 18) (.tmp 19), none, []⟩, ⟨some 1, .asg 0 (.tmp 20) 2, none, []⟩] false))) (.region 4 [⟨some 10, .mov (.tmp 6), none, []⟩, ⟨some 11, .bin .add 3 (.tmp 10) (.const (.int .i64 1)), none, []⟩, ⟨some 6, .asg 0 (.tmp 11) 3, none, []⟩] false)))))) (.seq (.region 7 [⟨some 21, .load 23 (.tmp 5), none, []⟩, ⟨none, .store 23 (.tmp 4) (.tmp 21), none, []⟩] false) .ret))))
def spec_l01Of_L : Live := [(0, [0, 1]), (1, [0, 1, 4]), (2, [0, 1, 4, 5]), (3, [0, 1, 4, 5, 6]), (4, [0, 1, 4, 5, 6]), (5, [0, 1, 4, 5, 6]), (6, [0, 1, 4, 5, 6]), (7, [4, 5]), (100009, [0, 1, 4, 5, 6, 9])]
theorem spec_l01Of_body : Try.f95.body = some (Try.f95.body.getD .skip) := by kernel_rfl
theorem spec_l01Of_strip : strip [] (Try.f95.body.getD .skip) = spec_l01Of_c := by kernel_rfl
noncomputable def spec_l01Of_l1 (a0 : Int) (x33 : Int) (x34 : Int) (x35 : (Vec Int 64)) : Option ((Int × Int × (Vec Int 64)) ⊕ (Vec Int 64)) :=
  (if (decide (x33 > 0)) then (ifp (a0 ≠ 0) ((ifp (0 ≤ x34 ∧ x34 < ((64 : Nat) : Int)) ((ifp (a0 ≠ 0) ((some (.inl ((IntKind.i64.wrap (Int.tdiv x33 a0), IntKind.i64.wrap (x34 + 1), (vset x35 x34.toNat (IntKind.u8.wrap (Int.tmod x33 a0))))))))))))) else (some (.inr x35)))
noncomputable def spec_l01Of (a0 : Int) (a1 : Int) : Option (Vec Int 64) :=
  (Option.bind (α := (Vec Int 64)) ((loopM (fun s : (Int × Int × (Vec Int 64)) => spec_l01Of_l1 a0 s.1 s.2.1 s.2.2) (a1, 0, (vrep 64 (0 : Int))))) fun x24 => (some x24))
set_option maxHeartbeats 16000000 in
theorem spec_l01Of_ok (a0 : Int) (a1 : Int) (r : (Vec Int 64)) (h : spec_l01Of a0 a1 = some r) : Den Try.prog 95 [(.int .i64 a0), (.int .i64 a1)] { r := (eA64u8 r) } := by
  refine den_of (rs := [(eA64u8 r)]) (ac := spec_l01Of_c) (L := spec_l01Of_L) (n := 22) (m := []) good Try.func95 spec_l01Of_body (by kernel_rfl) Try.ntmps95 rfl rfl spec_l01Of_strip rfl rfl ?_
  refine a_st (σ' := ⟨[(0, (.int .i64 a0)), (1, (.int .i64 a1))], []⟩) rfl ?_
  unfold spec_l01Of_c
  refine a_seq ?_
  refine a_region ?_
  refine a_val (v := (.own 1400 [] [])) (u := [(1400, some ⟨(eA64u8 ((vrep 64 (0 : Int)))), false⟩)]) rfl trivial rfl ?_
  refine a_nil ?_
  refine a_next (σ' := ⟨[(0, (.int .i64 a0)), (1, (.int .i64 a1)), (4, (.own 4 [] []))], [(4, some ⟨(eA64u8 ((vrep 64 (0 : Int)))), false⟩)]⟩) rfl ?_
  refine a_seq ?_
  refine a_region ?_
  refine a_val (v := (eA64u8 ((vrep 64 (0 : Int))))) (u := []) rfl ⟨⟨_, rfl, rfl⟩, all_nil⟩ rfl ?_
  refine a_val (v := (.own 1500 [] [])) (u := [(1500, some ⟨(eA64u8 ((vrep 64 (0 : Int)))), false⟩)]) rfl trivial rfl ?_
  have hs1 : StOk [] (eA64u8 ((vrep 64 (0 : Int)))) [] 64 (eA64u8 ((vrep 64 (0 : Int)))) (eA64u8 ((vrep 64 (0 : Int)))) := (.nil rfl rfl rfl rfl)
  refine a_val (v := .top) (u := [(1500, some ⟨(eA64u8 ((vrep 64 (0 : Int)))), false⟩)]) (st_own (i := ⟨.arr 64 5, 64, 64, (eA64u8 (vrep 64 (0 : Int)))⟩) rfl rfl (fun _ => rfl) rfl hs1) (hs1.c rfl) rfl ?_
  refine a_nil ?_
  refine a_next (σ' := ⟨[(0, (.int .i64 a0)), (1, (.int .i64 a1)), (4, (.own 4 [] [])), (5, (.own 5 [] []))], [(4, some ⟨(eA64u8 ((vrep 64 (0 : Int)))), false⟩), (5, some ⟨(eA64u8 ((vrep 64 (0 : Int)))), false⟩)]⟩) rfl ?_
  obtain ⟨y25, hy26, hk27⟩ := bind_some h
  clear h
  refine a_join (emb := fun (s : (Vec Int 64)) => ⟨[(4, (.own 4 [] [])), (5, (.own 5 [] []))], [(4, some ⟨(eA64u8 ((vrep 64 (0 : Int)))), false⟩), (5, some ⟨(eA64u8 s), false⟩)]⟩) (pre := fun s => s = y25) ?_ ?_
  · rintro x24 rfl
    have h := hk27
    refine a_st (σ' := ⟨[(4, (.own 4 [] [])), (5, (.own 5 [] []))], [(4, some ⟨(eA64u8 ((vrep 64 (0 : Int)))), false⟩), (5, some ⟨(eA64u8 x24), false⟩)]⟩) rfl ?_
    refine a_seq ?_
    refine a_region ?_
    have hl50 : LdOk [] (eA64u8 x24) [] 64 true (eA64u8 x24) := (.nil rfl rfl rfl)
    refine a_val (v := (eA64u8 x24)) (u := []) (ld_own (i := ⟨.arr 64 5, 64, 64, (eA64u8 (vrep 64 (0 : Int)))⟩) rfl rfl rfl hl50) hl50.c rfl ?_
    have hs51 : StOk [] (eA64u8 ((vrep 64 (0 : Int)))) [] 64 (eA64u8 x24) (eA64u8 x24) := (.nil rfl rfl rfl rfl)
    refine a_val (v := .top) (u := [(4, some ⟨(eA64u8 x24), false⟩)]) (st_own (i := ⟨.arr 64 5, 64, 64, (eA64u8 (vrep 64 (0 : Int)))⟩) rfl rfl (fun _ => rfl) rfl hs51) (hs51.c rfl) rfl ?_
    refine a_nil ?_
    refine a_next rfl ?_
    refine a_ret ?_
    have hl52 : LdOk [] (eA64u8 x24) [] 64 true (eA64u8 x24) := (.nil rfl rfl rfl)
    refine ⟨.inr rfl, ?_⟩
    rw [Try.results95]
    cases h
    exact ⟨_, _, _, _, _, ld_own (i := ⟨.arr 64 5, 64, 64, (eA64u8 (vrep 64 (0 : Int)))⟩) rfl rfl rfl hl52, hl52.c, .inl ⟨rfl, .inl rfl⟩, rfl, rfl⟩
  · have h := hy26
    refine a_seq ?_
    refine a_region ?_
    refine a_val (v := (.int .i64 0)) (u := []) rfl trivial rfl ?_
    refine a_nil ?_
    refine a_next (σ' := ⟨[(0, (.int .i64 a0)), (1, (.int .i64 a1)), (4, (.own 4 [] [])), (5, (.own 5 [] [])), (6, (.int .i64 0))], [(4, some ⟨(eA64u8 ((vrep 64 (0 : Int)))), false⟩), (5, some ⟨(eA64u8 ((vrep 64 (0 : Int)))), false⟩)]⟩) rfl ?_
    refine a_block ?_
    refine a_loop (emb := fun (s : (Int × Int × (Vec Int 64))) => ⟨[(0, (.int .i64 a0)), (1, (.int .i64 s.1)), (4, (.own 4 [] [])), (5, (.own 5 [] [])), (6, (.int .i64 s.2.1))], [(4, some ⟨(eA64u8 ((vrep 64 (0 : Int)))), false⟩), (5, some ⟨(eA64u8 s.2.2), false⟩)]⟩) (body := (fun s : (Int × Int × (Vec Int 64)) => spec_l01Of_l1 a0 s.1 s.2.1 s.2.2)) (G := fun q => some q = some y25) h rfl ?_ rfl
    rintro X41 ⟨x33, x34, x35⟩ x42 h hX43
    have h : spec_l01Of_l1 a0 x33 x34 x35 = some x42 := h
    refine a_st (σ' := ⟨[(0, (.int .i64 a0)), (1, (.int .i64 x33)), (4, (.own 4 [] [])), (5, (.own 5 [] [])), (6, (.int .i64 x34))], [(4, some ⟨(eA64u8 ((vrep 64 (0 : Int)))), false⟩), (5, some ⟨(eA64u8 x35), false⟩)]⟩) rfl ?_
    refine a_seq ?_
    refine a_seq ?_
    refine a_region ?_
    refine a_val (v := (.int .i64 x33)) (u := []) rfl trivial rfl ?_
    refine a_val (v := (.bool ((decide (x33 > 0))))) (u := []) rfl trivial rfl ?_
    refine a_nil ?_
    refine a_next (σ' := ⟨[(0, (.int .i64 a0)), (1, (.int .i64 x33)), (4, (.own 4 [] [])), (5, (.own 5 [] [])), (6, (.int .i64 x34)), (9, (.bool ((decide (x33 > 0)))))], [(4, some ⟨(eA64u8 ((vrep 64 (0 : Int)))), false⟩), (5, some ⟨(eA64u8 x35), false⟩)]⟩) rfl ?_
    cases hb44 : (decide (x33 > 0))
    · have h := ite_f hb44 h
      refine a_cond_f rfl ?_
      refine a_exit ?_
      refine t_exit ?_
      cases h
      have h := hX43
      refine t_exit ?_
      refine b_exit ?_
      exact j_leaf x35 (Option.some.inj h) rfl
    · have h := ite_t hb44 h
      refine a_cond_t rfl ?_
      refine a_skip ?_
      refine a_next (σ' := ⟨[(0, (.int .i64 a0)), (1, (.int .i64 x33)), (4, (.own 4 [] [])), (5, (.own 5 [] [])), (6, (.int .i64 x34))], [(4, some ⟨(eA64u8 ((vrep 64 (0 : Int)))), false⟩), (5, some ⟨(eA64u8 x35), false⟩)]⟩) rfl ?_
      refine a_seq ?_
      refine a_block ?_
      refine a_seq ?_
      refine a_region ?_
      refine a_val (v := (.int .i64 x34)) (u := []) rfl trivial rfl ?_
      refine a_val (v := (.int .i64 x33)) (u := []) rfl trivial rfl ?_
      refine a_val (v := (.int .i64 a0)) (u := []) rfl trivial rfl ?_
      obtain ⟨hc45, h⟩ := ifp_some h
      refine a_val (v := (.int .i64 (Int.tmod x33 a0))) (u := []) rfl hc45 rfl ?_
      refine a_val (v := (.int .u8 (IntKind.u8.wrap (Int.tmod x33 a0)))) (u := []) rfl trivial rfl ?_
      obtain ⟨hc46, h⟩ := ifp_some h
      refine a_val (v := (.own 5 [x34.toNat] [x34.toNat * 1])) (u := []) rfl hc46 rfl ?_
      have hs47 : StOk [x34.toNat] (eA64u8 x35) [x34.toNat * 1] 1 (.int .u8 (IntKind.u8.wrap (Int.tmod x33 a0))) (eA64u8 ((vset x35 x34.toNat (IntKind.u8.wrap (Int.tmod x33 a0))))) := (.arr (y := IntKind.u8.wrap (Int.tmod x33 a0)) (vlt x35 hc46) rfl (.nil rfl rfl rfl rfl))
      refine a_val (v := .top) (u := [(5, some ⟨(eA64u8 ((vset x35 x34.toNat (IntKind.u8.wrap (Int.tmod x33 a0))))), false⟩)]) (st_own (i := ⟨.int .u8, 1, 1, (.int .u8 0)⟩) rfl rfl (fun _ => rfl) rfl hs47) (hs47.c rfl) rfl ?_
      refine a_nil ?_
      refine a_next (σ' := ⟨[(0, (.int .i64 a0)), (1, (.int .i64 x33)), (4, (.own 4 [] [])), (5, (.own 5 [] [])), (6, (.int .i64 x34))], [(4, some ⟨(eA64u8 ((vrep 64 (0 : Int)))), false⟩), (5, some ⟨(eA64u8 ((vset x35 x34.toNat (IntKind.u8.wrap (Int.tmod x33 a0))))), false⟩)]⟩) rfl ?_
      refine a_region ?_
      refine a_val (v := (.int .i64 x33)) (u := []) rfl trivial rfl ?_
      refine a_val (v := (.int .i64 a0)) (u := []) rfl trivial rfl ?_
      obtain ⟨hc48, h⟩ := ifp_some h
      refine a_val (v := (.int .i64 (IntKind.i64.wrap (Int.tdiv x33 a0)))) (u := []) rfl hc48 rfl ?_
      refine a_val (v := (.int .i64 (IntKind.i64.wrap (Int.tdiv x33 a0)))) (u := []) rfl trivial rfl ?_
      refine a_nil ?_
      refine b_norm ?_
      refine a_next (σ' := ⟨[(0, (.int .i64 a0)), (1, (.int .i64 (IntKind.i64.wrap (Int.tdiv x33 a0)))), (4, (.own 4 [] [])), (5, (.own 5 [] [])), (6, (.int .i64 x34))], [(4, some ⟨(eA64u8 ((vrep 64 (0 : Int)))), false⟩), (5, some ⟨(eA64u8 ((vset x35 x34.toNat (IntKind.u8.wrap (Int.tmod x33 a0))))), false⟩)]⟩) rfl ?_
      refine a_region ?_
      refine a_val (v := (.int .i64 x34)) (u := []) rfl trivial rfl ?_
      refine a_val (v := (.int .i64 (IntKind.i64.wrap (x34 + 1)))) (u := []) rfl trivial rfl ?_
      refine a_val (v := (.int .i64 (IntKind.i64.wrap (x34 + 1)))) (u := []) rfl trivial rfl ?_
      refine a_nil ?_
      cases h
      exact a_again rfl hX43
end Go.Proofs.Ytgodhgbnjlflmaa
