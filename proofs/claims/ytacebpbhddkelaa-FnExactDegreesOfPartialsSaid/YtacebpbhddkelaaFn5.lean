/- Functions of the program: plain Lean functions, and that the program computes them. Printed by gen.py. -/
import Derived.Test.YtacebpbhddkelaaFnT
import Derived.Test.YtacebpbhddkelaaFn1
import Derived.Test.YtacebpbhddkelaaFn2
import Derived.Test.YtacebpbhddkelaaFn3
namespace Go.Proofs.Ytacebpbhddkelaa
open Go.Abs Go.Proofs
set_option linter.unusedSimpArgs false
set_option linter.unusedVariables false

def spec_l10Root_c : ACode := (.seq (.region 0 [⟨some 4, .box 23 (.tmp 1), none, []⟩, ⟨some 6, .asg 1 (.const (.slice none 0 0)) 45, none, []⟩] false) (.seq (.region 1 [⟨some 13, .bslice 2 45 1 [(0, (.const (.int .i64 1)))], none, []⟩, ⟨some 14, .load 23 (.tmp 4), none, []⟩, ⟨some 15, .call 0 (.func 71) [(.tmp 14)], none, []⟩, ⟨some 7, .asg 2 (.tmp 13) 45, none, []⟩, ⟨some 8, .asg 0 (.tmp 15) 2, none, []⟩] false) (.seq (.region 2 [⟨some 16, .mov (.tmp 0), none, []⟩, ⟨some 17, .bin .add 2 (.tmp 16) (.const (.int .i64 1)), none, []⟩, ⟨some 18, .bin .quo 2 (.tmp 17) (.const (.int .i64 2)), none, []⟩, ⟨some 9, .asg 0 (.tmp 18) 2, none, []⟩] false) (.seq (.seq (.region 3 [⟨some 10, .asg 0 (.const (.int .i64 1)) 2, none, []⟩] false) (.block 0 (.loop (.seq (.seq (.region 4 [⟨some 19, .mov (.tmp 10), none, []⟩, ⟨some 20, .mov (.tmp 2), none, []⟩, ⟨some 21, .bin .lss 2 (.tmp 19) (.tmp 20), none, []⟩] false) (.cond (.tmp 21) .skip (.exit 0))) (.seq (.block 1 (.seq (.region 6 [⟨some 11, .asg 0 (.const (.int .i64 0)) 2, none, []⟩] false) (.seq (.seq (.region 7 [⟨some 24, .mov (.tmp 8), none, []⟩, ⟨some 25, .mov (.tmp 10), none, []⟩, ⟨some 26, .bin .geq 2 (.tmp 24) (.tmp 25), none, []⟩] false) (.cond (.tmp 26) (.region 8 [⟨some 27, .mov (.tmp 8), none, []⟩, ⟨some 28, .mov (.tmp 10), none, []⟩, ⟨some 29, .bin .sub 2 (.tmp 27) (.tmp 28), none, []⟩, ⟨some 30, .indexAddr 23 (.tmp 4) (.tmp 29), none, []⟩, ⟨some 31, .load 5 (.tmp 30), none, []⟩, ⟨some 32, .conv 5 2 (.tmp 31), none, []⟩, ⟨some 11, .asg 0 (.tmp 32) 2, none, []⟩] false) .skip)) (.seq (.seq (.region 9 [⟨some 12, .asg 0 (.const (.int .i64 1)) 2, none, []⟩] false) (.block 2 (.loop (.seq (.seq (.region 10 [⟨some 33, .mov (.tmp 12), none, []⟩, ⟨some 34, .mov (.tmp 10), none, []⟩, ⟨some 35, .bin .lss 2 (.tmp 33) (.tmp 34), none, []⟩] false) (.cond (.tmp 35) .skip (.exit 2))) (.seq (.block 3 (.region 12 [⟨some 38, .mov (.tmp 11), none, []⟩, ⟨some 39, .mov (.tmp 7), none, []⟩, ⟨some 40, .mov (.tmp 12), none, []⟩, ⟨some 41, .indexAddr 45 (.tmp 39) (.tmp 40), none, [1, 2]⟩, ⟨some 42, .load 2 (.tmp 41), none, [3]⟩, ⟨some 43, .mov (.tmp 7), none, []⟩, ⟨some 44, .mov (.tmp 10), none, []⟩, ⟨some 45, .mov (.tmp 12), none, []⟩, ⟨some 46, .bin .sub 2 (.tmp 44) (.tmp 45), none, [6, 7]⟩, ⟨some 47, .indexAddr 45 (.tmp 43) (.tmp 46), none, [5, 8]⟩, ⟨some 48, .load 2 (.tmp 47), none, [9]⟩, ⟨some 49, .bin .mul 2 (.tmp 42) (.tmp 48), none, [4, 10]⟩, ⟨some 50, .bin .sub 2 (.tmp 38) (.tmp 49), none, [0, 11]⟩, ⟨some 11, .asg 0 (.tmp 50) 2, none, [12, 0, 1, 2, 3, 4, 5, 6, 7, 8, 9, 10, 11, 12]⟩] true)) (.region 11 [⟨some 36, .mov (.tmp 12), none, []⟩, ⟨some 37, .bin .add 2 (.tmp 36) (.const (.int .i64 1)), none, []⟩, ⟨some 12, .asg 0 (.tmp 37) 2, none, []⟩] false)))))) (.region 13 [⟨some 51, .mov (.tmp 7), none, []⟩, ⟨some 52, .mov (.tmp 11), none, []⟩, ⟨some 53, .mov (.tmp 0), none, []⟩, ⟨some 54, .bin .rem 2 (.tmp 52) (.tmp 53), none, []⟩, ⟨some 55, .mov (.tmp 0), none, []⟩, ⟨some 56, .bin .add 2 (.tmp 54) (.tmp 55), none, []⟩, ⟨some 57, .mov (.tmp 0), none, []⟩, ⟨some 58, .bin .rem 2 (.tmp 56) (.tmp 57), none, []⟩, ⟨some 59, .mov (.tmp 9), none, []⟩, ⟨some 60, .bin .mul 2 (.tmp 58) (.tmp 59), none, []⟩, ⟨some 61, .mov (.tmp 0), none, []⟩, ⟨some 62, .bin .rem 2 (.tmp 60) (.tmp 61), none, []⟩, ⟨some 63, .bslice 0 45 1 [(0, (.tmp 62))], none, []⟩, ⟨some 64, .blt 0 .append [(.tmp 51), (.tmp 63)] [45, 45], none, []⟩, ⟨some 7, .asg 2 (.tmp 64) 45, none, []⟩] false))))) (.region 5 [⟨some 22, .mov (.tmp 10), none, []⟩, ⟨some 23, .bin .add 2 (.tmp 22) (.const (.int .i64 1)), none, []⟩, ⟨some 10, .asg 0 (.tmp 23) 2, none, []⟩] false)))))) (.seq (.region 14 [⟨some 65, .mov (.tmp 7), none, []⟩, ⟨some 6, .asg 1 (.tmp 65) 45, none, []⟩] false) .ret)))))
def spec_l10Root_L : Live := [(0, [0, 1, 2]), (1, [0, 2, 4]), (2, [0, 2, 4, 7, 8]), (3, [0, 2, 4, 7, 8, 9]), (4, [0, 2, 4, 7, 8, 9, 10]), (5, [0, 2, 4, 7, 8, 9, 10]), (6, [0, 2, 4, 7, 8, 9, 10]), (7, [0, 2, 4, 7, 8, 9, 10, 11]), (8, [0, 2, 4, 7, 8, 9, 10]), (9, [0, 2, 4, 7, 8, 9, 10, 11]), (10, [0, 2, 4, 7, 8, 9, 10, 11, 12]), (11, [0, 2, 4, 7, 8, 9, 10, 11, 12]), (12, [0, 2, 4, 7, 8, 9, 10, 11, 12]), (13, [0, 2, 4, 7, 8, 9, 10, 11]), (14, [7]), (100021, [0, 2, 4, 7, 8, 9, 10, 21]), (100026, [0, 2, 4, 7, 8, 9, 10, 11, 26]), (100035, [0, 2, 4, 7, 8, 9, 10, 11, 12, 35])]
theorem spec_l10Root_body : Try.f72.body = some (Try.f72.body.getD .skip) := by kernel_rfl
theorem spec_l10Root_strip : strip [(6, 1), (7, 2), (13, 2)] (Try.f72.body.getD .skip) = spec_l10Root_c := by kernel_rfl
noncomputable def spec_l10Root_l2 (x474 : Int) (x475 : (List Int)) (x671 : Int) (x672 : Int) : Option ((Int × Int) ⊕ Int) :=
  (if (decide (x672 < x474)) then (ifp (0 ≤ x672 ∧ x672 < ((x475.length : Nat) : Int)) ((ifp (0 ≤ IntKind.i64.wrap (x474 - x672) ∧ IntKind.i64.wrap (x474 - x672) < ((x475.length : Nat) : Int)) ((letp (IntKind.i64.wrap ((rd x475 x672.toNat) * ((rd x475 (IntKind.i64.wrap (x474 - x672)).toNat)))) fun x700 => (some (.inl ((IntKind.i64.wrap (x671 - x700), IntKind.i64.wrap (x672 + 1)))))))))) else (some (.inr x671)))
noncomputable def spec_l10Root_l1 (a2 : Int) (r2 : Int) (a1 : (Vec Int 64)) (a0 : Int) (x474 : Int) (x475 : (List Int)) : Option ((Int × (List Int)) ⊕ (List Int)) :=
  (if (decide (x474 < a2)) then (Option.bind (α := Int) ((if (decide (r2 ≥ x474)) then (ifp (0 ≤ IntKind.i64.wrap (r2 - x474) ∧ IntKind.i64.wrap (r2 - x474) < ((64 : Nat) : Int)) ((letp (IntKind.i64.wrap ((rd a1.1 (IntKind.i64.wrap (r2 - x474)).toNat))) fun x607 => (some x607)))) else (some 0))) fun x600 => (Option.bind (α := Int) ((loopM (fun s : (Int × Int) => spec_l10Root_l2 x474 x475 s.1 s.2) (x600, 1))) fun x654 => (ifp (a0 ≠ 0) ((ifp (a0 ≠ 0) ((letp (IntKind.i64.wrap ((Int.tmod (IntKind.i64.wrap ((Int.tmod x654 a0) + a0)) a0) * (IntKind.i64.wrap (Int.tdiv (IntKind.i64.wrap (a0 + 1)) 2)))) fun x705 => (ifp (a0 ≠ 0) ((ifp ((x475.length + ([Int.tmod x705 a0] : List Int).length) * 8 ≤ 140737488355328) ((some (.inl ((IntKind.i64.wrap (x474 + 1), (x475 ++ ([Int.tmod x705 a0]))))))))))))))))) else (some (.inr x475)))
noncomputable def spec_l10Root (a0 : Int) (a1 : (Vec Int 64)) (a2 : Int) : Option (List Int) :=
  (Option.bind (spec_l01Deg a1) fun r2 => (Option.bind (α := (List Int)) ((loopM (fun s : (Int × (List Int)) => spec_l10Root_l1 a2 r2 a1 a0 s.1 s.2) (1, [1]))) fun x355 => (some x355)))
set_option maxHeartbeats 16000000 in
theorem spec_l10Root_ok (a0 : Int) (a1 : (Vec Int 64)) (a2 : Int) (r : (List Int)) (h : spec_l10Root a0 a1 a2 = some r) : Den Try.prog 72 [(.int .i64 a0), (eA64u8 a1), (.int .i64 a2)] { r := (eSi64 r) } := by
  refine den_of (rs := [(eSi64 r)]) (ac := spec_l10Root_c) (L := spec_l10Root_L) (n := 66) (m := [(6, 1), (7, 2), (13, 2)]) good Try.func72 spec_l10Root_body (by kernel_rfl) Try.ntmps72 rfl rfl spec_l10Root_strip rfl rfl ?_
  refine a_st (σ' := ⟨[(0, (.int .i64 a0)), (1, (eA64u8 a1)), (2, (.int .i64 a2))], []⟩) rfl ?_
  unfold spec_l10Root_c
  refine a_seq ?_
  refine a_region ?_
  refine a_val (v := (.own 1400 [] [])) (u := [(1400, some ⟨(eA64u8 a1), false⟩)]) rfl trivial rfl ?_
  refine a_val (v := (eSi64 ([]))) (u := []) rfl trivial rfl ?_
  refine a_nil ?_
  refine a_next (σ' := ⟨[(0, (.int .i64 a0)), (2, (.int .i64 a2)), (4, (.own 4 [] []))], [(4, some ⟨(eA64u8 a1), false⟩)]⟩) rfl ?_
  refine a_seq ?_
  refine a_region ?_
  refine a_val (v := (.osl 2300)) (u := [(2300, some ⟨(.row 1 (([1]).map (AV.int .i64))), false⟩)]) rfl ⟨(Nat.le_of_ble_eq_true rfl), (Nat.le_of_ble_eq_true rfl), (all_cons ⟨(Nat.le_of_ble_eq_true rfl), rfl⟩ all_nil)⟩ rfl ?_
  have hl1 : LdOk [] (eA64u8 a1) [] 64 true (eA64u8 a1) := (.nil rfl rfl rfl)
  refine a_val (v := (eA64u8 a1)) (u := []) (ld_own (i := ⟨.arr 64 5, 64, 64, (eA64u8 (vrep 64 (0 : Int)))⟩) rfl rfl rfl hl1) hl1.c rfl ?_
  obtain ⟨r2, hr3, h⟩ := bind_some h
  refine a_call (args := [(eA64u8 a1)]) (u := []) (r := (.int .i64 r2)) rfl rfl (spec_l01Deg_ok a1 r2 hr3) rfl ?_
  refine a_val (v := (.osl 2300)) (u := []) rfl trivial rfl ?_
  refine a_val (v := (.int .i64 r2)) (u := []) rfl trivial rfl ?_
  refine a_nil ?_
  refine a_next (σ' := ⟨[(0, (.int .i64 a0)), (2, (.int .i64 a2)), (4, (.own 4 [] [])), (7, (.osl 7)), (8, (.int .i64 r2))], [(4, some ⟨(eA64u8 a1), false⟩), (7, some ⟨(.row 1 (([1]).map (AV.int .i64))), false⟩)]⟩) rfl ?_
  refine a_seq ?_
  refine a_region ?_
  refine a_val (v := (.int .i64 a0)) (u := []) rfl trivial rfl ?_
  refine a_val (v := (.int .i64 (IntKind.i64.wrap (a0 + 1)))) (u := []) rfl trivial rfl ?_
  refine a_val (v := (.int .i64 (IntKind.i64.wrap (Int.tdiv (IntKind.i64.wrap (a0 + 1)) 2)))) (u := []) rfl (by decide) rfl ?_
  refine a_val (v := (.int .i64 (IntKind.i64.wrap (Int.tdiv (IntKind.i64.wrap (a0 + 1)) 2)))) (u := []) rfl trivial rfl ?_
  refine a_nil ?_
  refine a_next (σ' := ⟨[(0, (.int .i64 a0)), (2, (.int .i64 a2)), (4, (.own 4 [] [])), (7, (.osl 7)), (8, (.int .i64 r2)), (9, (.int .i64 (IntKind.i64.wrap (Int.tdiv (IntKind.i64.wrap (a0 + 1)) 2))))], [(4, some ⟨(eA64u8 a1), false⟩), (7, some ⟨(.row 1 (([1]).map (AV.int .i64))), false⟩)]⟩) rfl ?_
  obtain ⟨y356, hy357, hk358⟩ := bind_some h
  clear h
  refine a_join (emb := fun (s : (List Int)) => ⟨[(7, (.osl 7))], [(7, some ⟨(.row 1 (s.map (AV.int .i64))), false⟩)]⟩) (pre := fun s => s = y356) ?_ ?_
  · rintro x355 rfl
    have h := hk358
    refine a_st (σ' := ⟨[(7, (.osl 7))], [(7, some ⟨(.row 1 (x355.map (AV.int .i64))), false⟩)]⟩) rfl ?_
    refine a_seq ?_
    refine a_region ?_
    refine a_val (v := (.osl 7)) (u := []) rfl trivial rfl ?_
    refine a_val (v := (eSi64 x355)) (u := [(7, some ⟨(.row 1 (x355.map (AV.int .i64))), true⟩)]) rfl trivial rfl ?_
    refine a_nil ?_
    refine a_next rfl ?_
    refine a_ret ?_
    refine ⟨.inr rfl, ?_⟩
    rw [Try.results72]
    cases h
    exact ⟨_, _, _, _, _, rfl, trivial, .inl ⟨rfl, .inl rfl⟩, rfl, rfl⟩
  · have h := hy357
    refine a_seq ?_
    refine a_region ?_
    refine a_val (v := (.int .i64 1)) (u := []) rfl trivial rfl ?_
    refine a_nil ?_
    refine a_next (σ' := ⟨[(0, (.int .i64 a0)), (2, (.int .i64 a2)), (4, (.own 4 [] [])), (7, (.osl 7)), (8, (.int .i64 r2)), (9, (.int .i64 (IntKind.i64.wrap (Int.tdiv (IntKind.i64.wrap (a0 + 1)) 2)))), (10, (.int .i64 1))], [(4, some ⟨(eA64u8 a1), false⟩), (7, some ⟨(.row 1 (([1]).map (AV.int .i64))), false⟩)]⟩) rfl ?_
    refine a_block ?_
    refine a_loop (emb := fun (s : (Int × (List Int))) => ⟨[(0, (.int .i64 a0)), (2, (.int .i64 a2)), (4, (.own 4 [] [])), (7, (.osl 7)), (8, (.int .i64 r2)), (9, (.int .i64 (IntKind.i64.wrap (Int.tdiv (IntKind.i64.wrap (a0 + 1)) 2)))), (10, (.int .i64 s.1))], [(4, some ⟨(eA64u8 a1), false⟩), (7, some ⟨(.row 1 (s.2.map (AV.int .i64))), false⟩)]⟩) (body := (fun s : (Int × (List Int)) => spec_l10Root_l1 a2 r2 a1 a0 s.1 s.2)) (G := fun q => some q = some y356) h rfl ?_ rfl
    rintro X591 ⟨x474, x475⟩ x592 h hX593
    have h : spec_l10Root_l1 a2 r2 a1 a0 x474 x475 = some x592 := h
    refine a_st (σ' := ⟨[(0, (.int .i64 a0)), (2, (.int .i64 a2)), (4, (.own 4 [] [])), (7, (.osl 7)), (8, (.int .i64 r2)), (9, (.int .i64 (IntKind.i64.wrap (Int.tdiv (IntKind.i64.wrap (a0 + 1)) 2)))), (10, (.int .i64 x474))], [(4, some ⟨(eA64u8 a1), false⟩), (7, some ⟨(.row 1 (x475.map (AV.int .i64))), false⟩)]⟩) rfl ?_
    refine a_seq ?_
    refine a_seq ?_
    refine a_region ?_
    refine a_val (v := (.int .i64 x474)) (u := []) rfl trivial rfl ?_
    refine a_val (v := (.int .i64 a2)) (u := []) rfl trivial rfl ?_
    refine a_val (v := (.bool ((decide (x474 < a2))))) (u := []) rfl trivial rfl ?_
    refine a_nil ?_
    refine a_next (σ' := ⟨[(0, (.int .i64 a0)), (2, (.int .i64 a2)), (4, (.own 4 [] [])), (7, (.osl 7)), (8, (.int .i64 r2)), (9, (.int .i64 (IntKind.i64.wrap (Int.tdiv (IntKind.i64.wrap (a0 + 1)) 2)))), (10, (.int .i64 x474)), (21, (.bool ((decide (x474 < a2)))))], [(4, some ⟨(eA64u8 a1), false⟩), (7, some ⟨(.row 1 (x475.map (AV.int .i64))), false⟩)]⟩) rfl ?_
    cases hb594 : (decide (x474 < a2))
    · have h := ite_f hb594 h
      refine a_cond_f rfl ?_
      refine a_exit ?_
      refine t_exit ?_
      cases h
      have h := hX593
      refine t_exit ?_
      refine b_exit ?_
      exact j_leaf x475 (Option.some.inj h) rfl
    · have h := ite_t hb594 h
      refine a_cond_t rfl ?_
      refine a_skip ?_
      refine a_next (σ' := ⟨[(0, (.int .i64 a0)), (2, (.int .i64 a2)), (4, (.own 4 [] [])), (7, (.osl 7)), (8, (.int .i64 r2)), (9, (.int .i64 (IntKind.i64.wrap (Int.tdiv (IntKind.i64.wrap (a0 + 1)) 2)))), (10, (.int .i64 x474))], [(4, some ⟨(eA64u8 a1), false⟩), (7, some ⟨(.row 1 (x475.map (AV.int .i64))), false⟩)]⟩) rfl ?_
      refine a_seq ?_
      refine a_block ?_
      refine a_seq ?_
      refine a_region ?_
      refine a_val (v := (.int .i64 0)) (u := []) rfl trivial rfl ?_
      refine a_nil ?_
      refine a_next (σ' := ⟨[(0, (.int .i64 a0)), (2, (.int .i64 a2)), (4, (.own 4 [] [])), (7, (.osl 7)), (8, (.int .i64 r2)), (9, (.int .i64 (IntKind.i64.wrap (Int.tdiv (IntKind.i64.wrap (a0 + 1)) 2)))), (10, (.int .i64 x474)), (11, (.int .i64 0))], [(4, some ⟨(eA64u8 a1), false⟩), (7, some ⟨(.row 1 (x475.map (AV.int .i64))), false⟩)]⟩) rfl ?_
      obtain ⟨y601, hy602, hk603⟩ := bind_some h
      clear h
      refine a_join (emb := fun (s : Int) => ⟨[(0, (.int .i64 a0)), (2, (.int .i64 a2)), (4, (.own 4 [] [])), (7, (.osl 7)), (8, (.int .i64 r2)), (9, (.int .i64 (IntKind.i64.wrap (Int.tdiv (IntKind.i64.wrap (a0 + 1)) 2)))), (10, (.int .i64 x474)), (11, (.int .i64 s))], [(4, some ⟨(eA64u8 a1), false⟩), (7, some ⟨(.row 1 (x475.map (AV.int .i64))), false⟩)]⟩) (pre := fun s => s = y601) ?_ ?_
      · rintro x600 rfl
        have h := hk603
        refine a_st (σ' := ⟨[(0, (.int .i64 a0)), (2, (.int .i64 a2)), (4, (.own 4 [] [])), (7, (.osl 7)), (8, (.int .i64 r2)), (9, (.int .i64 (IntKind.i64.wrap (Int.tdiv (IntKind.i64.wrap (a0 + 1)) 2)))), (10, (.int .i64 x474)), (11, (.int .i64 x600))], [(4, some ⟨(eA64u8 a1), false⟩), (7, some ⟨(.row 1 (x475.map (AV.int .i64))), false⟩)]⟩) rfl ?_
        obtain ⟨y655, hy656, hk657⟩ := bind_some h
        clear h
        refine a_join (emb := fun (s : Int) => ⟨[(0, (.int .i64 a0)), (2, (.int .i64 a2)), (4, (.own 4 [] [])), (7, (.osl 7)), (8, (.int .i64 r2)), (9, (.int .i64 (IntKind.i64.wrap (Int.tdiv (IntKind.i64.wrap (a0 + 1)) 2)))), (10, (.int .i64 x474)), (11, (.int .i64 s))], [(4, some ⟨(eA64u8 a1), false⟩), (7, some ⟨(.row 1 (x475.map (AV.int .i64))), false⟩)]⟩) (pre := fun s => s = y655) ?_ ?_
        · rintro x654 rfl
          have h := hk657
          refine a_st (σ' := ⟨[(0, (.int .i64 a0)), (2, (.int .i64 a2)), (4, (.own 4 [] [])), (7, (.osl 7)), (8, (.int .i64 r2)), (9, (.int .i64 (IntKind.i64.wrap (Int.tdiv (IntKind.i64.wrap (a0 + 1)) 2)))), (10, (.int .i64 x474)), (11, (.int .i64 x654))], [(4, some ⟨(eA64u8 a1), false⟩), (7, some ⟨(.row 1 (x475.map (AV.int .i64))), false⟩)]⟩) rfl ?_
          refine a_region ?_
          refine a_val (v := (.osl 7)) (u := []) rfl trivial rfl ?_
          refine a_val (v := (.int .i64 x654)) (u := []) rfl trivial rfl ?_
          refine a_val (v := (.int .i64 a0)) (u := []) rfl trivial rfl ?_
          obtain ⟨hc703, h⟩ := ifp_some h
          refine a_val (v := (.int .i64 (Int.tmod x654 a0))) (u := []) rfl hc703 rfl ?_
          refine a_val (v := (.int .i64 a0)) (u := []) rfl trivial rfl ?_
          refine a_val (v := (.int .i64 (IntKind.i64.wrap ((Int.tmod x654 a0) + a0)))) (u := []) rfl trivial rfl ?_
          refine a_val (v := (.int .i64 a0)) (u := []) rfl trivial rfl ?_
          obtain ⟨hc704, h⟩ := ifp_some h
          refine a_val (v := (.int .i64 (Int.tmod (IntKind.i64.wrap ((Int.tmod x654 a0) + a0)) a0))) (u := []) rfl hc704 rfl ?_
          refine a_val (v := (.int .i64 (IntKind.i64.wrap (Int.tdiv (IntKind.i64.wrap (a0 + 1)) 2)))) (u := []) rfl trivial rfl ?_
          obtain ⟨x705, hx706, h⟩ := letp_some h
          refine a_val' (v := (.int .i64 (IntKind.i64.wrap ((Int.tmod (IntKind.i64.wrap ((Int.tmod x654 a0) + a0)) a0) * (IntKind.i64.wrap (Int.tdiv (IntKind.i64.wrap (a0 + 1)) 2)))))) (v' := (.int .i64 x705)) (u := []) (u' := []) rfl (congrArg (fun z => ((.int .i64 z) : AV)) hx706) rfl trivial rfl ?_
          refine a_val (v := (.int .i64 a0)) (u := []) rfl trivial rfl ?_
          obtain ⟨hc707, h⟩ := ifp_some h
          refine a_val (v := (.int .i64 (Int.tmod x705 a0))) (u := []) rfl hc707 rfl ?_
          refine a_val (v := (.sl 1 true (([Int.tmod x705 a0]).map (AV.int .i64)))) (u := []) rfl ⟨(Nat.le_of_ble_eq_true rfl), (Nat.le_of_ble_eq_true rfl), (all_cons ⟨(Nat.le_of_ble_eq_true rfl), rfl⟩ all_nil)⟩ rfl ?_
          obtain ⟨hc708, h⟩ := ifp_some h
          refine a_val (v := (.osl 7400)) (u := [(7400, some ⟨(.row 1 (((x475 ++ ([Int.tmod x705 a0]))).map (AV.int .i64))), false⟩), (7, none)]) (app_run (i := ⟨.int .i64, 1, 8, (.int .i64 0)⟩) (f := (AV.int .i64)) (l := x475) (l2 := [Int.tmod x705 a0]) rfl rfl rfl rfl (fun _ => rfl) rfl rfl) (app_c (f := (AV.int .i64)) (s := 1) (sz := 1) (by' := 8) (u := []) (id := 7) hc708 (.inr rfl) rfl rfl rfl) rfl ?_
          refine a_val (v := (.osl 7400)) (u := []) rfl trivial rfl ?_
          refine a_nil ?_
          refine b_norm ?_
          refine a_next (σ' := ⟨[(0, (.int .i64 a0)), (2, (.int .i64 a2)), (4, (.own 4 [] [])), (7, (.osl 7)), (8, (.int .i64 r2)), (9, (.int .i64 (IntKind.i64.wrap (Int.tdiv (IntKind.i64.wrap (a0 + 1)) 2)))), (10, (.int .i64 x474))], [(4, some ⟨(eA64u8 a1), false⟩), (7, some ⟨(.row 1 (((x475 ++ ([Int.tmod x705 a0]))).map (AV.int .i64))), false⟩)]⟩) rfl ?_
          refine a_region ?_
          refine a_val (v := (.int .i64 x474)) (u := []) rfl trivial rfl ?_
          refine a_val (v := (.int .i64 (IntKind.i64.wrap (x474 + 1)))) (u := []) rfl trivial rfl ?_
          refine a_val (v := (.int .i64 (IntKind.i64.wrap (x474 + 1)))) (u := []) rfl trivial rfl ?_
          refine a_nil ?_
          cases h
          exact a_again rfl hX593
        · have h := hy656
          refine a_seq ?_
          refine a_region ?_
          refine a_val (v := (.int .i64 1)) (u := []) rfl trivial rfl ?_
          refine a_nil ?_
          refine a_next (σ' := ⟨[(0, (.int .i64 a0)), (2, (.int .i64 a2)), (4, (.own 4 [] [])), (7, (.osl 7)), (8, (.int .i64 r2)), (9, (.int .i64 (IntKind.i64.wrap (Int.tdiv (IntKind.i64.wrap (a0 + 1)) 2)))), (10, (.int .i64 x474)), (11, (.int .i64 x600)), (12, (.int .i64 1))], [(4, some ⟨(eA64u8 a1), false⟩), (7, some ⟨(.row 1 (x475.map (AV.int .i64))), false⟩)]⟩) rfl ?_
          refine a_block ?_
          refine a_loop (emb := fun (s : (Int × Int)) => ⟨[(0, (.int .i64 a0)), (2, (.int .i64 a2)), (4, (.own 4 [] [])), (7, (.osl 7)), (8, (.int .i64 r2)), (9, (.int .i64 (IntKind.i64.wrap (Int.tdiv (IntKind.i64.wrap (a0 + 1)) 2)))), (10, (.int .i64 x474)), (11, (.int .i64 s.1)), (12, (.int .i64 s.2))], [(4, some ⟨(eA64u8 a1), false⟩), (7, some ⟨(.row 1 (x475.map (AV.int .i64))), false⟩)]⟩) (body := (fun s : (Int × Int) => spec_l10Root_l2 x474 x475 s.1 s.2)) (G := fun q => some q = some y655) h rfl ?_ rfl
          rintro X686 ⟨x671, x672⟩ x687 h hX688
          have h : spec_l10Root_l2 x474 x475 x671 x672 = some x687 := h
          refine a_st (σ' := ⟨[(0, (.int .i64 a0)), (2, (.int .i64 a2)), (4, (.own 4 [] [])), (7, (.osl 7)), (8, (.int .i64 r2)), (9, (.int .i64 (IntKind.i64.wrap (Int.tdiv (IntKind.i64.wrap (a0 + 1)) 2)))), (10, (.int .i64 x474)), (11, (.int .i64 x671)), (12, (.int .i64 x672))], [(4, some ⟨(eA64u8 a1), false⟩), (7, some ⟨(.row 1 (x475.map (AV.int .i64))), false⟩)]⟩) rfl ?_
          refine a_seq ?_
          refine a_seq ?_
          refine a_region ?_
          refine a_val (v := (.int .i64 x672)) (u := []) rfl trivial rfl ?_
          refine a_val (v := (.int .i64 x474)) (u := []) rfl trivial rfl ?_
          refine a_val (v := (.bool ((decide (x672 < x474))))) (u := []) rfl trivial rfl ?_
          refine a_nil ?_
          refine a_next (σ' := ⟨[(0, (.int .i64 a0)), (2, (.int .i64 a2)), (4, (.own 4 [] [])), (7, (.osl 7)), (8, (.int .i64 r2)), (9, (.int .i64 (IntKind.i64.wrap (Int.tdiv (IntKind.i64.wrap (a0 + 1)) 2)))), (10, (.int .i64 x474)), (11, (.int .i64 x671)), (12, (.int .i64 x672)), (35, (.bool ((decide (x672 < x474)))))], [(4, some ⟨(eA64u8 a1), false⟩), (7, some ⟨(.row 1 (x475.map (AV.int .i64))), false⟩)]⟩) rfl ?_
          cases hb689 : (decide (x672 < x474))
          · have h := ite_f hb689 h
            refine a_cond_f rfl ?_
            refine a_exit ?_
            refine t_exit ?_
            cases h
            have h := hX688
            refine t_exit ?_
            refine b_exit ?_
            exact j_leaf x671 (Option.some.inj h) rfl
          · have h := ite_t hb689 h
            refine a_cond_t rfl ?_
            refine a_skip ?_
            refine a_next (σ' := ⟨[(0, (.int .i64 a0)), (2, (.int .i64 a2)), (4, (.own 4 [] [])), (7, (.osl 7)), (8, (.int .i64 r2)), (9, (.int .i64 (IntKind.i64.wrap (Int.tdiv (IntKind.i64.wrap (a0 + 1)) 2)))), (10, (.int .i64 x474)), (11, (.int .i64 x671)), (12, (.int .i64 x672))], [(4, some ⟨(eA64u8 a1), false⟩), (7, some ⟨(.row 1 (x475.map (AV.int .i64))), false⟩)]⟩) rfl ?_
            refine a_seq ?_
            refine a_block ?_
            refine a_draw [⟨[], [], [], []⟩, ⟨[7], [], [7], []⟩, ⟨[], [], [], []⟩, ⟨[7], [], [7], [1, 2]⟩, ⟨[7], [], [], [1, 2, 3]⟩, ⟨[7], [], [7], []⟩, ⟨[], [], [], []⟩, ⟨[], [], [], []⟩, ⟨[], [], [], [6, 7]⟩, ⟨[7], [], [7], [5, 6, 7, 8]⟩, ⟨[7], [], [], [5, 6, 7, 8, 9]⟩, ⟨[], [], [], [1, 2, 3, 4, 5, 6, 7, 8, 9, 10]⟩, ⟨[], [], [], [0, 1, 2, 3, 4, 5, 6, 7, 8, 9, 10, 11]⟩, ⟨[], [], [], [0, 1, 2, 3, 4, 5, 6, 7, 8, 9, 10, 11, 12]⟩] (by kernel_rfl) ?_
            refine d_cons ?_
            refine a_val (v := (.int .i64 x671)) (u := []) rfl trivial rfl ?_
            refine d_next rfl ?_
            refine d_cons ?_
            refine a_val (v := (.osl 7)) (u := []) rfl trivial rfl ?_
            refine d_next rfl ?_
            refine d_cons ?_
            refine a_val (v := (.int .i64 x672)) (u := []) rfl trivial rfl ?_
            refine d_next rfl ?_
            refine d_cons ?_
            obtain ⟨hc696, h⟩ := ifp_some h
            refine a_val (v := (.own 7 [x672.toNat] [x672.toNat * 1])) (u := []) rfl (lmap hc696) rfl ?_
            refine d_next rfl ?_
            refine d_cons ?_
            have hl697 : LdOk [x672.toNat] (.row 1 (x475.map (AV.int .i64))) [x672.toNat * 1] 1 false (.int .i64 (rd x475 x672.toNat)) := (.row (llt hc696) rfl (.nil rfl rfl rfl))
            refine a_val (v := (.int .i64 (rd x475 x672.toNat))) (u := []) (ld_own (i := ⟨.int .i64, 1, 8, (.int .i64 0)⟩) rfl rfl rfl hl697) hl697.c rfl ?_
            refine d_next rfl ?_
            refine d_cons ?_
            refine a_val (v := (.osl 7)) (u := []) rfl trivial rfl ?_
            refine d_next rfl ?_
            refine d_cons ?_
            refine a_val (v := (.int .i64 x474)) (u := []) rfl trivial rfl ?_
            refine d_next rfl ?_
            refine d_cons ?_
            refine a_val (v := (.int .i64 x672)) (u := []) rfl trivial rfl ?_
            refine d_next rfl ?_
            refine d_cons ?_
            refine a_val (v := (.int .i64 (IntKind.i64.wrap (x474 - x672)))) (u := []) rfl trivial rfl ?_
            refine d_next rfl ?_
            refine d_cons ?_
            obtain ⟨hc698, h⟩ := ifp_some h
            refine a_val (v := (.own 7 [(IntKind.i64.wrap (x474 - x672)).toNat] [(IntKind.i64.wrap (x474 - x672)).toNat * 1])) (u := []) rfl (lmap hc698) rfl ?_
            refine d_next rfl ?_
            refine d_cons ?_
            have hl699 : LdOk [(IntKind.i64.wrap (x474 - x672)).toNat] (.row 1 (x475.map (AV.int .i64))) [(IntKind.i64.wrap (x474 - x672)).toNat * 1] 1 false (.int .i64 ((rd x475 (IntKind.i64.wrap (x474 - x672)).toNat))) := (.row (llt hc698) rfl (.nil rfl rfl rfl))
            refine a_val (v := (.int .i64 ((rd x475 (IntKind.i64.wrap (x474 - x672)).toNat)))) (u := []) (ld_own (i := ⟨.int .i64, 1, 8, (.int .i64 0)⟩) rfl rfl rfl hl699) hl699.c rfl ?_
            refine d_next rfl ?_
            refine d_cons ?_
            obtain ⟨x700, hx701, h⟩ := letp_some h
            refine a_val' (v := (.int .i64 (IntKind.i64.wrap ((rd x475 x672.toNat) * ((rd x475 (IntKind.i64.wrap (x474 - x672)).toNat)))))) (v' := (.int .i64 x700)) (u := []) (u' := []) rfl (congrArg (fun z => ((.int .i64 z) : AV)) hx701) rfl trivial rfl ?_
            refine d_next rfl ?_
            refine d_cons ?_
            refine a_val (v := (.int .i64 (IntKind.i64.wrap (x671 - x700)))) (u := []) rfl trivial rfl ?_
            refine d_next rfl ?_
            refine d_cons ?_
            refine a_val (v := (.int .i64 (IntKind.i64.wrap (x671 - x700)))) (u := []) rfl trivial rfl ?_
            refine d_next rfl ?_
            refine d_nil ?_
            refine b_norm ?_
            refine a_next (σ' := ⟨[(0, (.int .i64 a0)), (2, (.int .i64 a2)), (4, (.own 4 [] [])), (7, (.osl 7)), (8, (.int .i64 r2)), (9, (.int .i64 (IntKind.i64.wrap (Int.tdiv (IntKind.i64.wrap (a0 + 1)) 2)))), (10, (.int .i64 x474)), (11, (.int .i64 (IntKind.i64.wrap (x671 - x700)))), (12, (.int .i64 x672))], [(4, some ⟨(eA64u8 a1), false⟩), (7, some ⟨(.row 1 (x475.map (AV.int .i64))), false⟩)]⟩) rfl ?_
            refine a_region ?_
            refine a_val (v := (.int .i64 x672)) (u := []) rfl trivial rfl ?_
            refine a_val (v := (.int .i64 (IntKind.i64.wrap (x672 + 1)))) (u := []) rfl trivial rfl ?_
            refine a_val (v := (.int .i64 (IntKind.i64.wrap (x672 + 1)))) (u := []) rfl trivial rfl ?_
            refine a_nil ?_
            cases h
            exact a_again rfl hX688
      · have h := hy602
        refine a_seq ?_
        refine a_region ?_
        refine a_val (v := (.int .i64 r2)) (u := []) rfl trivial rfl ?_
        refine a_val (v := (.int .i64 x474)) (u := []) rfl trivial rfl ?_
        refine a_val (v := (.bool ((decide (r2 ≥ x474))))) (u := []) rfl trivial rfl ?_
        refine a_nil ?_
        refine a_next (σ' := ⟨[(0, (.int .i64 a0)), (2, (.int .i64 a2)), (4, (.own 4 [] [])), (7, (.osl 7)), (8, (.int .i64 r2)), (9, (.int .i64 (IntKind.i64.wrap (Int.tdiv (IntKind.i64.wrap (a0 + 1)) 2)))), (10, (.int .i64 x474)), (11, (.int .i64 0)), (26, (.bool ((decide (r2 ≥ x474)))))], [(4, some ⟨(eA64u8 a1), false⟩), (7, some ⟨(.row 1 (x475.map (AV.int .i64))), false⟩)]⟩) rfl ?_
        cases hb604 : (decide (r2 ≥ x474))
        · have h := ite_f hb604 h
          refine a_cond_f rfl ?_
          refine a_skip ?_
          exact j_leaf 0 (Option.some.inj h) rfl
        · have h := ite_t hb604 h
          refine a_cond_t rfl ?_
          refine a_region ?_
          refine a_val (v := (.int .i64 r2)) (u := []) rfl trivial rfl ?_
          refine a_val (v := (.int .i64 x474)) (u := []) rfl trivial rfl ?_
          refine a_val (v := (.int .i64 (IntKind.i64.wrap (r2 - x474)))) (u := []) rfl trivial rfl ?_
          obtain ⟨hc605, h⟩ := ifp_some h
          refine a_val (v := (.own 4 [(IntKind.i64.wrap (r2 - x474)).toNat] [(IntKind.i64.wrap (r2 - x474)).toNat * 1])) (u := []) rfl hc605 rfl ?_
          have hl606 : LdOk [(IntKind.i64.wrap (r2 - x474)).toNat] (eA64u8 a1) [(IntKind.i64.wrap (r2 - x474)).toNat * 1] 1 false (.int .u8 ((rd a1.1 (IntKind.i64.wrap (r2 - x474)).toNat))) := (.arr (vlt a1 hc605) rfl (.nil rfl rfl rfl))
          refine a_val (v := (.int .u8 ((rd a1.1 (IntKind.i64.wrap (r2 - x474)).toNat)))) (u := []) (ld_own (i := ⟨.int .u8, 1, 1, (.int .u8 0)⟩) rfl rfl rfl hl606) hl606.c rfl ?_
          obtain ⟨x607, hx608, h⟩ := letp_some h
          refine a_val' (v := (.int .i64 (IntKind.i64.wrap ((rd a1.1 (IntKind.i64.wrap (r2 - x474)).toNat))))) (v' := (.int .i64 x607)) (u := []) (u' := []) rfl (congrArg (fun z => ((.int .i64 z) : AV)) hx608) rfl trivial rfl ?_
          refine a_val (v := (.int .i64 x607)) (u := []) rfl trivial rfl ?_
          refine a_nil ?_
          exact j_leaf x607 (Option.some.inj h) rfl
def impl_prime_root_c : ACode := (.seq (.region 0 [⟨some 4, .asg 1 (.const (.slice none 0 0)) 66, none, []⟩] false) (.seq (.region 1 [⟨some 11, .mov (.tmp 1), none, []⟩, ⟨some 12, .call 0 (.func 100) [(.tmp 11)], none, []⟩, ⟨some 13, .bin .quo 2 (.tmp 12) (.const (.int .i64 2)), none, []⟩, ⟨some 5, .asg 0 (.tmp 13) 3, none, []⟩] false) (.seq (.region 2 [⟨some 14, .mov (.tmp 0), none, []⟩, ⟨some 15, .mov (.tmp 0), none, []⟩, ⟨some 16, .bin .rem 2 (.const (.int .i64 2)) (.tmp 15), none, []⟩, ⟨some 17, .call 0 (.func 109) [(.tmp 14), (.tmp 16)], none, []⟩, ⟨some 6, .asg 0 (.tmp 17) 2, none, []⟩] false) (.seq (.region 3 [⟨some 18, .mov (.tmp 5), none, []⟩, ⟨some 19, .bin .add 3 (.tmp 18) (.const (.int .i64 1)), none, []⟩, ⟨some 20, .mkslice 66 (.tmp 19) (.tmp 19), none, []⟩, ⟨some 7, .asg 2 (.tmp 20) 66, none, []⟩] false) (.seq (.region 4 [⟨some 21, .mov (.tmp 7), none, []⟩, ⟨some 22, .mov (.tmp 5), none, []⟩, ⟨some 23, .indexAddr 66 (.tmp 21) (.tmp 22), none, []⟩, ⟨none, .store 2 (.tmp 23) (.const (.int .i64 1)), none, []⟩] false) (.seq (.seq (.region 5 [⟨some 8, .asg 0 (.const (.int .i64 1)) 3, none, []⟩] false) (.block 0 (.loop (.seq (.seq (.region 6 [⟨some 24, .mov (.tmp 8), none, []⟩, ⟨some 25, .mov (.tmp 5), none, []⟩, ⟨some 26, .bin .leq 3 (.tmp 24) (.tmp 25), none, []⟩] false) (.cond (.tmp 26) .skip (.exit 0))) (.seq (.block 1 (.seq (.region 8 [⟨some 29, .mov (.tmp 1), none, []⟩, ⟨some 30, .mov (.tmp 5), none, []⟩, ⟨some 31, .bin .mul 3 (.const (.int .i64 2)) (.tmp 30), none, []⟩, ⟨some 32, .mov (.tmp 8), none, []⟩, ⟨some 33, .bin .sub 3 (.tmp 31) (.tmp 32), none, []⟩, ⟨some 34, .indexAddr 66 (.tmp 29) (.tmp 33), none, []⟩, ⟨some 35, .load 2 (.tmp 34), none, []⟩, ⟨some 9, .asg 0 (.tmp 35) 2, none, []⟩] false) (.seq (.seq (.region 9 [⟨some 10, .asg 0 (.const (.int .i64 1)) 3, none, []⟩] false) (.block 2 (.loop (.seq (.seq (.region 10 [⟨some 36, .mov (.tmp 10), none, []⟩, ⟨some 37, .mov (.tmp 8), none, []⟩, ⟨some 38, .bin .lss 3 (.tmp 36) (.tmp 37), none, []⟩] false) (.cond (.tmp 38) .skip (.exit 2))) (.seq (.block 3 (.region 12 [⟨some 41, .mov (.tmp 9), none, []⟩, ⟨some 42, .mov (.tmp 7), none, []⟩, ⟨some 43, .mov (.tmp 5), none, []⟩, ⟨some 44, .mov (.tmp 10), none, []⟩, ⟨some 45, .bin .sub 3 (.tmp 43) (.tmp 44), none, [2, 3]⟩, ⟨some 46, .indexAddr 66 (.tmp 42) (.tmp 45), none, [1, 4]⟩, ⟨some 47, .load 2 (.tmp 46), none, [5]⟩, ⟨some 48, .mov (.tmp 7), none, []⟩, ⟨some 49, .mov (.tmp 5), none, []⟩, ⟨some 50, .mov (.tmp 8), none, []⟩, ⟨some 51, .bin .sub 3 (.tmp 49) (.tmp 50), none, [8, 9]⟩, ⟨some 52, .mov (.tmp 10), none, []⟩, ⟨some 53, .bin .add 3 (.tmp 51) (.tmp 52), none, [10, 11]⟩, ⟨some 54, .indexAddr 66 (.tmp 48) (.tmp 53), none, [7, 12]⟩, ⟨some 55, .load 2 (.tmp 54), none, [13]⟩, ⟨some 56, .bin .mul 2 (.tmp 47) (.tmp 55), none, [6, 14]⟩, ⟨some 57, .bin .sub 2 (.tmp 41) (.tmp 56), none, [0, 15]⟩, ⟨some 9, .asg 0 (.tmp 57) 2, none, [16, 0, 1, 2, 3, 4, 5, 6, 7, 8, 9, 10, 11, 12, 13, 14, 15, 16]⟩] true)) (.region 11 [⟨some 39, .mov (.tmp 10), none, []⟩, ⟨some 40, .bin .add 3 (.tmp 39) (.const (.int .i64 1)), none, []⟩, ⟨some 10, .asg 0 (.tmp 40) 3, none, []⟩] false)))))) (.region 13 [⟨some 58, .mov (.tmp 7), none, []⟩, ⟨some 59, .mov (.tmp 5), none, []⟩, ⟨some 60, .mov (.tmp 8), none, []⟩, ⟨some 61, .bin .sub 3 (.tmp 59) (.tmp 60), none, []⟩, ⟨some 62, .mov (.tmp 0), none, []⟩, ⟨some 63, .mov (.tmp 9), none, []⟩, ⟨some 64, .call 0 (.func 110) [(.tmp 62), (.tmp 63)], none, []⟩, ⟨some 65, .mov (.tmp 6), none, []⟩, ⟨some 66, .bin .mul 2 (.tmp 64) (.tmp 65), none, []⟩, ⟨some 67, .mov (.tmp 0), none, []⟩, ⟨some 68, .bin .rem 2 (.tmp 66) (.tmp 67), none, []⟩, ⟨some 69, .indexAddr 66 (.tmp 58) (.tmp 61), none, []⟩, ⟨none, .store 2 (.tmp 69) (.tmp 68), none, []⟩] false)))) (.region 7 [⟨some 27, .mov (.tmp 8), none, []⟩, ⟨some 28, .bin .add 3 (.tmp 27) (.const (.int .i64 1)), none, []⟩, ⟨some 8, .asg 0 (.tmp 28) 3, none, []⟩] false)))))) (.seq (.region 14 [⟨some 70, .mov (.tmp 7), none, []⟩, ⟨some 4, .asg 1 (.tmp 70) 66, none, []⟩] false) .ret)))))))
def impl_prime_root_L : Live := [(0, [0, 1]), (1, [0, 1]), (2, [0, 1, 5]), (3, [0, 1, 5, 6]), (4, [0, 1, 5, 6, 7]), (5, [0, 1, 5, 6, 7]), (6, [0, 1, 5, 6, 7, 8]), (7, [0, 1, 5, 6, 7, 8]), (8, [0, 1, 5, 6, 7, 8]), (9, [0, 1, 5, 6, 7, 8, 9]), (10, [0, 1, 5, 6, 7, 8, 9, 10]), (11, [0, 1, 5, 6, 7, 8, 9, 10]), (12, [0, 1, 5, 6, 7, 8, 9, 10]), (13, [0, 1, 5, 6, 7, 8, 9]), (14, [7]), (100026, [0, 1, 5, 6, 7, 8, 26]), (100038, [0, 1, 5, 6, 7, 8, 9, 10, 38])]
theorem impl_prime_root_body : Try.f75.body = some (Try.f75.body.getD .skip) := by kernel_rfl
theorem impl_prime_root_strip : strip [(4, 1), (7, 2)] (Try.f75.body.getD .skip) = impl_prime_root_c := by kernel_rfl
noncomputable def impl_prime_root_l2 (x643 : Int) (r1 : Int) (x644 : (List Int)) (x899 : Int) (x900 : Int) : Option ((Int × Int) ⊕ Int) :=
  (if (decide (x900 < x643)) then (ifp (0 ≤ IntKind.i64.wrap ((IntKind.i64.wrap (Int.tdiv r1 2)) - x900) ∧ IntKind.i64.wrap ((IntKind.i64.wrap (Int.tdiv r1 2)) - x900) < ((x644.length : Nat) : Int)) ((letp ((rd x644 (IntKind.i64.wrap ((IntKind.i64.wrap (Int.tdiv r1 2)) - x900)).toNat)) fun x938 => (letp (IntKind.i64.wrap ((IntKind.i64.wrap ((IntKind.i64.wrap (Int.tdiv r1 2)) - x643)) + x900)) fun x940 => (ifp (0 ≤ x940 ∧ x940 < ((x644.length : Nat) : Int)) ((letp (IntKind.i64.wrap (x899 - (IntKind.i64.wrap (x938 * (rd x644 x940.toNat))))) fun x944 => (some (.inl ((x944, IntKind.i64.wrap (x900 + 1)))))))))))) else (some (.inr x899)))
noncomputable def impl_prime_root_l1 (r1 : Int) (a1 : (List Int)) (a0 : Int) (r4 : Int) (x643 : Int) (x644 : (List Int)) : Option ((Int × (List Int)) ⊕ (List Int)) :=
  (if (decide (x643 ≤ (IntKind.i64.wrap (Int.tdiv r1 2)))) then (letp (IntKind.i64.wrap ((IntKind.i64.wrap (2 * (IntKind.i64.wrap (Int.tdiv r1 2)))) - x643)) fun x801 => (ifp (0 ≤ x801 ∧ x801 < ((a1.length : Nat) : Int)) ((Option.bind (α := Int) ((loopM (fun s : (Int × Int) => impl_prime_root_l2 x643 r1 x644 s.1 s.2) ((rd a1 x801.toNat), 1))) fun x874 => (Option.bind (impl_prime_reduce a0 x874) fun r947 => (ifp (a0 ≠ 0) ((ifp (0 ≤ IntKind.i64.wrap ((IntKind.i64.wrap (Int.tdiv r1 2)) - x643) ∧ IntKind.i64.wrap ((IntKind.i64.wrap (Int.tdiv r1 2)) - x643) < ((x644.length : Nat) : Int)) ((some (.inl ((IntKind.i64.wrap (x643 + 1), (x644.set (IntKind.i64.wrap ((IntKind.i64.wrap (Int.tdiv r1 2)) - x643)).toNat (Int.tmod (IntKind.i64.wrap (r947 * r4)) a0))))))))))))))) else (some (.inr x644)))
noncomputable def impl_prime_root (a0 : Int) (a1 : (List Int)) : Option (List Int) :=
  (Option.bind (impl_row_degree a1) fun r1 => (ifp (a0 ≠ 0) ((Option.bind (impl_prime_inverse a0 (Int.tmod 2 a0)) fun r4 => (ifp (0 ≤ IntKind.i64.wrap ((IntKind.i64.wrap (Int.tdiv r1 2)) + 1) ∧ IntKind.i64.wrap ((IntKind.i64.wrap (Int.tdiv r1 2)) + 1) ≤ 140737488355328 ∧ 8 * IntKind.i64.wrap ((IntKind.i64.wrap (Int.tdiv r1 2)) + 1) ≤ 140737488355328) ((ifp (0 ≤ IntKind.i64.wrap (Int.tdiv r1 2) ∧ IntKind.i64.wrap (Int.tdiv r1 2) < (((List.replicate (IntKind.i64.wrap ((IntKind.i64.wrap (Int.tdiv r1 2)) + 1)).toNat (0 : Int)).length : Nat) : Int)) ((Option.bind (α := (List Int)) ((loopM (fun s : (Int × (List Int)) => impl_prime_root_l1 r1 a1 a0 r4 s.1 s.2) (1, ((List.replicate (IntKind.i64.wrap ((IntKind.i64.wrap (Int.tdiv r1 2)) + 1)).toNat (0 : Int)).set (IntKind.i64.wrap (Int.tdiv r1 2)).toNat 1)))) fun x479 => (some x479))))))))))
set_option maxHeartbeats 16000000 in
theorem impl_prime_root_ok (a0 : Int) (a1 : (List Int)) (r : (List Int)) (h : impl_prime_root a0 a1 = some r) : Den Try.prog 75 [(.int .i64 a0), (eSi64 a1)] { r := (eSi64 r) } := by
  refine den_of (rs := [(eSi64 r)]) (ac := impl_prime_root_c) (L := impl_prime_root_L) (n := 71) (m := [(4, 1), (7, 2)]) good Try.func75 impl_prime_root_body (by kernel_rfl) Try.ntmps75 rfl rfl impl_prime_root_strip rfl rfl ?_
  refine a_st (σ' := ⟨[(0, (.int .i64 a0)), (1, (eSi64 a1))], []⟩) rfl ?_
  unfold impl_prime_root_c
  refine a_seq ?_
  refine a_region ?_
  refine a_val (v := (eSi64 ([]))) (u := []) rfl trivial rfl ?_
  refine a_nil ?_
  refine a_next (σ' := ⟨[(0, (.int .i64 a0)), (1, (eSi64 a1))], []⟩) rfl ?_
  refine a_seq ?_
  refine a_region ?_
  refine a_val (v := (eSi64 a1)) (u := []) rfl trivial rfl ?_
  obtain ⟨r1, hr2, h⟩ := bind_some h
  refine a_call (args := [(eSi64 a1)]) (u := []) (r := (.int .i64 r1)) rfl rfl (impl_row_degree_ok a1 r1 hr2) rfl ?_
  refine a_val (v := (.int .i64 (IntKind.i64.wrap (Int.tdiv r1 2)))) (u := []) rfl (by decide) rfl ?_
  refine a_val (v := (.int .i64 (IntKind.i64.wrap (Int.tdiv r1 2)))) (u := []) rfl trivial rfl ?_
  refine a_nil ?_
  refine a_next (σ' := ⟨[(0, (.int .i64 a0)), (1, (eSi64 a1)), (5, (.int .i64 (IntKind.i64.wrap (Int.tdiv r1 2))))], []⟩) rfl ?_
  refine a_seq ?_
  refine a_region ?_
  refine a_val (v := (.int .i64 a0)) (u := []) rfl trivial rfl ?_
  refine a_val (v := (.int .i64 a0)) (u := []) rfl trivial rfl ?_
  obtain ⟨hc3, h⟩ := ifp_some h
  refine a_val (v := (.int .i64 (Int.tmod 2 a0))) (u := []) rfl hc3 rfl ?_
  obtain ⟨r4, hr5, h⟩ := bind_some h
  refine a_call (args := [(.int .i64 a0), (.int .i64 (Int.tmod 2 a0))]) (u := []) (r := (.int .i64 r4)) rfl rfl (impl_prime_inverse_ok a0 (Int.tmod 2 a0) r4 hr5) rfl ?_
  refine a_val (v := (.int .i64 r4)) (u := []) rfl trivial rfl ?_
  refine a_nil ?_
  refine a_next (σ' := ⟨[(0, (.int .i64 a0)), (1, (eSi64 a1)), (5, (.int .i64 (IntKind.i64.wrap (Int.tdiv r1 2)))), (6, (.int .i64 r4))], []⟩) rfl ?_
  refine a_seq ?_
  refine a_region ?_
  refine a_val (v := (.int .i64 (IntKind.i64.wrap (Int.tdiv r1 2)))) (u := []) rfl trivial rfl ?_
  refine a_val (v := (.int .i64 (IntKind.i64.wrap ((IntKind.i64.wrap (Int.tdiv r1 2)) + 1)))) (u := []) rfl trivial rfl ?_
  obtain ⟨hc6, h⟩ := ifp_some h
  refine a_val (v := (.osl 3000)) (u := [(3000, some ⟨(.row 1 ((List.replicate (IntKind.i64.wrap ((IntKind.i64.wrap (Int.tdiv r1 2)) + 1)).toNat (0 : Int)).map (AV.int .i64))), false⟩)]) (mk_run (i := ⟨.int .i64, 1, 8, (.int .i64 0)⟩) (f := (AV.int .i64)) (y := (0 : Int)) rfl rfl rfl rfl rfl rfl) ⟨rfl, hc6.1, hc6.2.1, hc6.2.2, (Nat.le_of_ble_eq_true rfl)⟩ rfl ?_
  refine a_val (v := (.osl 3000)) (u := []) rfl trivial rfl ?_
  refine a_nil ?_
  refine a_next (σ' := ⟨[(0, (.int .i64 a0)), (1, (eSi64 a1)), (5, (.int .i64 (IntKind.i64.wrap (Int.tdiv r1 2)))), (6, (.int .i64 r4)), (7, (.osl 7))], [(7, some ⟨(.row 1 ((List.replicate (IntKind.i64.wrap ((IntKind.i64.wrap (Int.tdiv r1 2)) + 1)).toNat (0 : Int)).map (AV.int .i64))), false⟩)]⟩) rfl ?_
  refine a_seq ?_
  refine a_region ?_
  refine a_val (v := (.osl 7)) (u := []) rfl trivial rfl ?_
  refine a_val (v := (.int .i64 (IntKind.i64.wrap (Int.tdiv r1 2)))) (u := []) rfl trivial rfl ?_
  obtain ⟨hc7, h⟩ := ifp_some h
  refine a_val (v := (.own 7 [(IntKind.i64.wrap (Int.tdiv r1 2)).toNat] [(IntKind.i64.wrap (Int.tdiv r1 2)).toNat * 1])) (u := []) rfl (lmap hc7) rfl ?_
  have hs8 : StOk [(IntKind.i64.wrap (Int.tdiv r1 2)).toNat] (.row 1 ((List.replicate (IntKind.i64.wrap ((IntKind.i64.wrap (Int.tdiv r1 2)) + 1)).toNat (0 : Int)).map (AV.int .i64))) [(IntKind.i64.wrap (Int.tdiv r1 2)).toNat * 1] 1 (.int .i64 1) (.row 1 ((((List.replicate (IntKind.i64.wrap ((IntKind.i64.wrap (Int.tdiv r1 2)) + 1)).toNat (0 : Int)).set (IntKind.i64.wrap (Int.tdiv r1 2)).toNat 1)).map (AV.int .i64))) := (.row (y := 1) (llt hc7) rfl (.nil rfl rfl rfl rfl))
  refine a_val (v := .top) (u := [(7, some ⟨(.row 1 ((((List.replicate (IntKind.i64.wrap ((IntKind.i64.wrap (Int.tdiv r1 2)) + 1)).toNat (0 : Int)).set (IntKind.i64.wrap (Int.tdiv r1 2)).toNat 1)).map (AV.int .i64))), false⟩)]) (st_own (i := ⟨.int .i64, 1, 8, (.int .i64 0)⟩) rfl rfl (fun _ => rfl) rfl hs8) (hs8.c rfl) rfl ?_
  refine a_nil ?_
  refine a_next (σ' := ⟨[(0, (.int .i64 a0)), (1, (eSi64 a1)), (5, (.int .i64 (IntKind.i64.wrap (Int.tdiv r1 2)))), (6, (.int .i64 r4)), (7, (.osl 7))], [(7, some ⟨(.row 1 ((((List.replicate (IntKind.i64.wrap ((IntKind.i64.wrap (Int.tdiv r1 2)) + 1)).toNat (0 : Int)).set (IntKind.i64.wrap (Int.tdiv r1 2)).toNat 1)).map (AV.int .i64))), false⟩)]⟩) rfl ?_
  obtain ⟨y480, hy481, hk482⟩ := bind_some h
  clear h
  refine a_join (emb := fun (s : (List Int)) => ⟨[(7, (.osl 7))], [(7, some ⟨(.row 1 (s.map (AV.int .i64))), false⟩)]⟩) (pre := fun s => s = y480) ?_ ?_
  · rintro x479 rfl
    have h := hk482
    refine a_st (σ' := ⟨[(7, (.osl 7))], [(7, some ⟨(.row 1 (x479.map (AV.int .i64))), false⟩)]⟩) rfl ?_
    refine a_seq ?_
    refine a_region ?_
    refine a_val (v := (.osl 7)) (u := []) rfl trivial rfl ?_
    refine a_val (v := (eSi64 x479)) (u := [(7, some ⟨(.row 1 (x479.map (AV.int .i64))), true⟩)]) rfl trivial rfl ?_
    refine a_nil ?_
    refine a_next rfl ?_
    refine a_ret ?_
    refine ⟨.inr rfl, ?_⟩
    rw [Try.results75]
    cases h
    exact ⟨_, _, _, _, _, rfl, trivial, .inl ⟨rfl, .inl rfl⟩, rfl, rfl⟩
  · have h := hy481
    refine a_seq ?_
    refine a_region ?_
    refine a_val (v := (.int .i64 1)) (u := []) rfl trivial rfl ?_
    refine a_nil ?_
    refine a_next (σ' := ⟨[(0, (.int .i64 a0)), (1, (eSi64 a1)), (5, (.int .i64 (IntKind.i64.wrap (Int.tdiv r1 2)))), (6, (.int .i64 r4)), (7, (.osl 7)), (8, (.int .i64 1))], [(7, some ⟨(.row 1 ((((List.replicate (IntKind.i64.wrap ((IntKind.i64.wrap (Int.tdiv r1 2)) + 1)).toNat (0 : Int)).set (IntKind.i64.wrap (Int.tdiv r1 2)).toNat 1)).map (AV.int .i64))), false⟩)]⟩) rfl ?_
    refine a_block ?_
    refine a_loop (emb := fun (s : (Int × (List Int))) => ⟨[(0, (.int .i64 a0)), (1, (eSi64 a1)), (5, (.int .i64 (IntKind.i64.wrap (Int.tdiv r1 2)))), (6, (.int .i64 r4)), (7, (.osl 7)), (8, (.int .i64 s.1))], [(7, some ⟨(.row 1 (s.2.map (AV.int .i64))), false⟩)]⟩) (body := (fun s : (Int × (List Int)) => impl_prime_root_l1 r1 a1 a0 r4 s.1 s.2)) (G := fun q => some q = some y480) h rfl ?_ rfl
    rintro X797 ⟨x643, x644⟩ x798 h hX799
    have h : impl_prime_root_l1 r1 a1 a0 r4 x643 x644 = some x798 := h
    refine a_st (σ' := ⟨[(0, (.int .i64 a0)), (1, (eSi64 a1)), (5, (.int .i64 (IntKind.i64.wrap (Int.tdiv r1 2)))), (6, (.int .i64 r4)), (7, (.osl 7)), (8, (.int .i64 x643))], [(7, some ⟨(.row 1 (x644.map (AV.int .i64))), false⟩)]⟩) rfl ?_
    refine a_seq ?_
    refine a_seq ?_
    refine a_region ?_
    refine a_val (v := (.int .i64 x643)) (u := []) rfl trivial rfl ?_
    refine a_val (v := (.int .i64 (IntKind.i64.wrap (Int.tdiv r1 2)))) (u := []) rfl trivial rfl ?_
    refine a_val (v := (.bool ((decide (x643 ≤ (IntKind.i64.wrap (Int.tdiv r1 2))))))) (u := []) rfl trivial rfl ?_
    refine a_nil ?_
    refine a_next (σ' := ⟨[(0, (.int .i64 a0)), (1, (eSi64 a1)), (5, (.int .i64 (IntKind.i64.wrap (Int.tdiv r1 2)))), (6, (.int .i64 r4)), (7, (.osl 7)), (8, (.int .i64 x643)), (26, (.bool ((decide (x643 ≤ (IntKind.i64.wrap (Int.tdiv r1 2)))))))], [(7, some ⟨(.row 1 (x644.map (AV.int .i64))), false⟩)]⟩) rfl ?_
    cases hb800 : (decide (x643 ≤ (IntKind.i64.wrap (Int.tdiv r1 2))))
    · have h := ite_f hb800 h
      refine a_cond_f rfl ?_
      refine a_exit ?_
      refine t_exit ?_
      cases h
      have h := hX799
      refine t_exit ?_
      refine b_exit ?_
      exact j_leaf x644 (Option.some.inj h) rfl
    · have h := ite_t hb800 h
      refine a_cond_t rfl ?_
      refine a_skip ?_
      refine a_next (σ' := ⟨[(0, (.int .i64 a0)), (1, (eSi64 a1)), (5, (.int .i64 (IntKind.i64.wrap (Int.tdiv r1 2)))), (6, (.int .i64 r4)), (7, (.osl 7)), (8, (.int .i64 x643))], [(7, some ⟨(.row 1 (x644.map (AV.int .i64))), false⟩)]⟩) rfl ?_
      refine a_seq ?_
      refine a_block ?_
      refine a_seq ?_
      refine a_region ?_
      refine a_val (v := (eSi64 a1)) (u := []) rfl trivial rfl ?_
      refine a_val (v := (.int .i64 (IntKind.i64.wrap (Int.tdiv r1 2)))) (u := []) rfl trivial rfl ?_
      refine a_val (v := (.int .i64 (IntKind.i64.wrap (2 * (IntKind.i64.wrap (Int.tdiv r1 2)))))) (u := []) rfl trivial rfl ?_
      refine a_val (v := (.int .i64 x643)) (u := []) rfl trivial rfl ?_
      obtain ⟨x801, hx802, h⟩ := letp_some h
      refine a_val' (v := (.int .i64 (IntKind.i64.wrap ((IntKind.i64.wrap (2 * (IntKind.i64.wrap (Int.tdiv r1 2)))) - x643)))) (v' := (.int .i64 x801)) (u := []) (u' := []) rfl (congrArg (fun z => ((.int .i64 z) : AV)) hx802) rfl trivial rfl ?_
      obtain ⟨hc803, h⟩ := ifp_some h
      refine a_val (v := (.ref (.row 1 (a1.map (AV.int .i64))) [x801.toNat] [x801.toNat * 1])) (u := []) rfl (lmap hc803) rfl ?_
      have hl804 : LdOk [x801.toNat] (.row 1 (a1.map (AV.int .i64))) [x801.toNat * 1] 1 false (.int .i64 (rd a1 x801.toNat)) := (.row (llt hc803) rfl (.nil rfl rfl rfl))
      refine a_val (v := (.int .i64 (rd a1 x801.toNat))) (u := []) (ld_ref (i := ⟨.int .i64, 1, 8, (.int .i64 0)⟩) rfl rfl hl804) hl804.c rfl ?_
      refine a_val (v := (.int .i64 (rd a1 x801.toNat))) (u := []) rfl trivial rfl ?_
      refine a_nil ?_
      refine a_next (σ' := ⟨[(0, (.int .i64 a0)), (1, (eSi64 a1)), (5, (.int .i64 (IntKind.i64.wrap (Int.tdiv r1 2)))), (6, (.int .i64 r4)), (7, (.osl 7)), (8, (.int .i64 x643)), (9, (.int .i64 (rd a1 x801.toNat)))], [(7, some ⟨(.row 1 (x644.map (AV.int .i64))), false⟩)]⟩) rfl ?_
      obtain ⟨y875, hy876, hk877⟩ := bind_some h
      clear h
      refine a_join (emb := fun (s : Int) => ⟨[(0, (.int .i64 a0)), (1, (eSi64 a1)), (5, (.int .i64 (IntKind.i64.wrap (Int.tdiv r1 2)))), (6, (.int .i64 r4)), (7, (.osl 7)), (8, (.int .i64 x643)), (9, (.int .i64 s))], [(7, some ⟨(.row 1 (x644.map (AV.int .i64))), false⟩)]⟩) (pre := fun s => s = y875) ?_ ?_
      · rintro x874 rfl
        have h := hk877
        refine a_st (σ' := ⟨[(0, (.int .i64 a0)), (1, (eSi64 a1)), (5, (.int .i64 (IntKind.i64.wrap (Int.tdiv r1 2)))), (6, (.int .i64 r4)), (7, (.osl 7)), (8, (.int .i64 x643)), (9, (.int .i64 x874))], [(7, some ⟨(.row 1 (x644.map (AV.int .i64))), false⟩)]⟩) rfl ?_
        refine a_region ?_
        refine a_val (v := (.osl 7)) (u := []) rfl trivial rfl ?_
        refine a_val (v := (.int .i64 (IntKind.i64.wrap (Int.tdiv r1 2)))) (u := []) rfl trivial rfl ?_
        refine a_val (v := (.int .i64 x643)) (u := []) rfl trivial rfl ?_
        refine a_val (v := (.int .i64 (IntKind.i64.wrap ((IntKind.i64.wrap (Int.tdiv r1 2)) - x643)))) (u := []) rfl trivial rfl ?_
        refine a_val (v := (.int .i64 a0)) (u := []) rfl trivial rfl ?_
        refine a_val (v := (.int .i64 x874)) (u := []) rfl trivial rfl ?_
        obtain ⟨r947, hr948, h⟩ := bind_some h
        refine a_call (args := [(.int .i64 a0), (.int .i64 x874)]) (u := []) (r := (.int .i64 r947)) rfl rfl (impl_prime_reduce_ok a0 x874 r947 hr948) rfl ?_
        refine a_val (v := (.int .i64 r4)) (u := []) rfl trivial rfl ?_
        refine a_val (v := (.int .i64 (IntKind.i64.wrap (r947 * r4)))) (u := []) rfl trivial rfl ?_
        refine a_val (v := (.int .i64 a0)) (u := []) rfl trivial rfl ?_
        obtain ⟨hc949, h⟩ := ifp_some h
        refine a_val (v := (.int .i64 (Int.tmod (IntKind.i64.wrap (r947 * r4)) a0))) (u := []) rfl hc949 rfl ?_
        obtain ⟨hc950, h⟩ := ifp_some h
        refine a_val (v := (.own 7 [(IntKind.i64.wrap ((IntKind.i64.wrap (Int.tdiv r1 2)) - x643)).toNat] [(IntKind.i64.wrap ((IntKind.i64.wrap (Int.tdiv r1 2)) - x643)).toNat * 1])) (u := []) rfl (lmap hc950) rfl ?_
        have hs951 : StOk [(IntKind.i64.wrap ((IntKind.i64.wrap (Int.tdiv r1 2)) - x643)).toNat] (.row 1 (x644.map (AV.int .i64))) [(IntKind.i64.wrap ((IntKind.i64.wrap (Int.tdiv r1 2)) - x643)).toNat * 1] 1 (.int .i64 (Int.tmod (IntKind.i64.wrap (r947 * r4)) a0)) (.row 1 (((x644.set (IntKind.i64.wrap ((IntKind.i64.wrap (Int.tdiv r1 2)) - x643)).toNat (Int.tmod (IntKind.i64.wrap (r947 * r4)) a0))).map (AV.int .i64))) := (.row (y := Int.tmod (IntKind.i64.wrap (r947 * r4)) a0) (llt hc950) rfl (.nil rfl rfl rfl rfl))
        refine a_val (v := .top) (u := [(7, some ⟨(.row 1 (((x644.set (IntKind.i64.wrap ((IntKind.i64.wrap (Int.tdiv r1 2)) - x643)).toNat (Int.tmod (IntKind.i64.wrap (r947 * r4)) a0))).map (AV.int .i64))), false⟩)]) (st_own (i := ⟨.int .i64, 1, 8, (.int .i64 0)⟩) rfl rfl (fun _ => rfl) rfl hs951) (hs951.c rfl) rfl ?_
        refine a_nil ?_
        refine b_norm ?_
        refine a_next (σ' := ⟨[(0, (.int .i64 a0)), (1, (eSi64 a1)), (5, (.int .i64 (IntKind.i64.wrap (Int.tdiv r1 2)))), (6, (.int .i64 r4)), (7, (.osl 7)), (8, (.int .i64 x643))], [(7, some ⟨(.row 1 (((x644.set (IntKind.i64.wrap ((IntKind.i64.wrap (Int.tdiv r1 2)) - x643)).toNat (Int.tmod (IntKind.i64.wrap (r947 * r4)) a0))).map (AV.int .i64))), false⟩)]⟩) rfl ?_
        refine a_region ?_
        refine a_val (v := (.int .i64 x643)) (u := []) rfl trivial rfl ?_
        refine a_val (v := (.int .i64 (IntKind.i64.wrap (x643 + 1)))) (u := []) rfl trivial rfl ?_
        refine a_val (v := (.int .i64 (IntKind.i64.wrap (x643 + 1)))) (u := []) rfl trivial rfl ?_
        refine a_nil ?_
        cases h
        exact a_again rfl hX799
      · have h := hy876
        refine a_seq ?_
        refine a_region ?_
        refine a_val (v := (.int .i64 1)) (u := []) rfl trivial rfl ?_
        refine a_nil ?_
        refine a_next (σ' := ⟨[(0, (.int .i64 a0)), (1, (eSi64 a1)), (5, (.int .i64 (IntKind.i64.wrap (Int.tdiv r1 2)))), (6, (.int .i64 r4)), (7, (.osl 7)), (8, (.int .i64 x643)), (9, (.int .i64 (rd a1 x801.toNat))), (10, (.int .i64 1))], [(7, some ⟨(.row 1 (x644.map (AV.int .i64))), false⟩)]⟩) rfl ?_
        refine a_block ?_
        refine a_loop (emb := fun (s : (Int × Int)) => ⟨[(0, (.int .i64 a0)), (1, (eSi64 a1)), (5, (.int .i64 (IntKind.i64.wrap (Int.tdiv r1 2)))), (6, (.int .i64 r4)), (7, (.osl 7)), (8, (.int .i64 x643)), (9, (.int .i64 s.1)), (10, (.int .i64 s.2))], [(7, some ⟨(.row 1 (x644.map (AV.int .i64))), false⟩)]⟩) (body := (fun s : (Int × Int) => impl_prime_root_l2 x643 r1 x644 s.1 s.2)) (G := fun q => some q = some y875) h rfl ?_ rfl
        rintro X922 ⟨x899, x900⟩ x923 h hX924
        have h : impl_prime_root_l2 x643 r1 x644 x899 x900 = some x923 := h
        refine a_st (σ' := ⟨[(0, (.int .i64 a0)), (1, (eSi64 a1)), (5, (.int .i64 (IntKind.i64.wrap (Int.tdiv r1 2)))), (6, (.int .i64 r4)), (7, (.osl 7)), (8, (.int .i64 x643)), (9, (.int .i64 x899)), (10, (.int .i64 x900))], [(7, some ⟨(.row 1 (x644.map (AV.int .i64))), false⟩)]⟩) rfl ?_
        refine a_seq ?_
        refine a_seq ?_
        refine a_region ?_
        refine a_val (v := (.int .i64 x900)) (u := []) rfl trivial rfl ?_
        refine a_val (v := (.int .i64 x643)) (u := []) rfl trivial rfl ?_
        refine a_val (v := (.bool ((decide (x900 < x643))))) (u := []) rfl trivial rfl ?_
        refine a_nil ?_
        refine a_next (σ' := ⟨[(0, (.int .i64 a0)), (1, (eSi64 a1)), (5, (.int .i64 (IntKind.i64.wrap (Int.tdiv r1 2)))), (6, (.int .i64 r4)), (7, (.osl 7)), (8, (.int .i64 x643)), (9, (.int .i64 x899)), (10, (.int .i64 x900)), (38, (.bool ((decide (x900 < x643)))))], [(7, some ⟨(.row 1 (x644.map (AV.int .i64))), false⟩)]⟩) rfl ?_
        cases hb925 : (decide (x900 < x643))
        · have h := ite_f hb925 h
          refine a_cond_f rfl ?_
          refine a_exit ?_
          refine t_exit ?_
          cases h
          have h := hX924
          refine t_exit ?_
          refine b_exit ?_
          exact j_leaf x899 (Option.some.inj h) rfl
        · have h := ite_t hb925 h
          refine a_cond_t rfl ?_
          refine a_skip ?_
          refine a_next (σ' := ⟨[(0, (.int .i64 a0)), (1, (eSi64 a1)), (5, (.int .i64 (IntKind.i64.wrap (Int.tdiv r1 2)))), (6, (.int .i64 r4)), (7, (.osl 7)), (8, (.int .i64 x643)), (9, (.int .i64 x899)), (10, (.int .i64 x900))], [(7, some ⟨(.row 1 (x644.map (AV.int .i64))), false⟩)]⟩) rfl ?_
          refine a_seq ?_
          refine a_block ?_
          refine a_draw [⟨[], [], [], []⟩, ⟨[7], [], [7], []⟩, ⟨[], [], [], []⟩, ⟨[], [], [], []⟩, ⟨[], [], [], [2, 3]⟩, ⟨[7], [], [7], [1, 2, 3, 4]⟩, ⟨[7], [], [], [1, 2, 3, 4, 5]⟩, ⟨[7], [], [7], []⟩, ⟨[], [], [], []⟩, ⟨[], [], [], []⟩, ⟨[], [], [], [8, 9]⟩, ⟨[], [], [], []⟩, ⟨[], [], [], [8, 9, 10, 11]⟩, ⟨[7], [], [7], [7, 8, 9, 10, 11, 12]⟩, ⟨[7], [], [], [7, 8, 9, 10, 11, 12, 13]⟩, ⟨[], [], [], [1, 2, 3, 4, 5, 6, 7, 8, 9, 10, 11, 12, 13, 14]⟩, ⟨[], [], [], [0, 1, 2, 3, 4, 5, 6, 7, 8, 9, 10, 11, 12, 13, 14, 15]⟩, ⟨[], [], [], [0, 1, 2, 3, 4, 5, 6, 7, 8, 9, 10, 11, 12, 13, 14, 15, 16]⟩] (by kernel_rfl) ?_
          refine d_cons ?_
          refine a_val (v := (.int .i64 x899)) (u := []) rfl trivial rfl ?_
          refine d_next rfl ?_
          refine d_cons ?_
          refine a_val (v := (.osl 7)) (u := []) rfl trivial rfl ?_
          refine d_next rfl ?_
          refine d_cons ?_
          refine a_val (v := (.int .i64 (IntKind.i64.wrap (Int.tdiv r1 2)))) (u := []) rfl trivial rfl ?_
          refine d_next rfl ?_
          refine d_cons ?_
          refine a_val (v := (.int .i64 x900)) (u := []) rfl trivial rfl ?_
          refine d_next rfl ?_
          refine d_cons ?_
          refine a_val (v := (.int .i64 (IntKind.i64.wrap ((IntKind.i64.wrap (Int.tdiv r1 2)) - x900)))) (u := []) rfl trivial rfl ?_
          refine d_next rfl ?_
          refine d_cons ?_
          obtain ⟨hc936, h⟩ := ifp_some h
          refine a_val (v := (.own 7 [(IntKind.i64.wrap ((IntKind.i64.wrap (Int.tdiv r1 2)) - x900)).toNat] [(IntKind.i64.wrap ((IntKind.i64.wrap (Int.tdiv r1 2)) - x900)).toNat * 1])) (u := []) rfl (lmap hc936) rfl ?_
          refine d_next rfl ?_
          refine d_cons ?_
          have hl937 : LdOk [(IntKind.i64.wrap ((IntKind.i64.wrap (Int.tdiv r1 2)) - x900)).toNat] (.row 1 (x644.map (AV.int .i64))) [(IntKind.i64.wrap ((IntKind.i64.wrap (Int.tdiv r1 2)) - x900)).toNat * 1] 1 false (.int .i64 ((rd x644 (IntKind.i64.wrap ((IntKind.i64.wrap (Int.tdiv r1 2)) - x900)).toNat))) := (.row (llt hc936) rfl (.nil rfl rfl rfl))
          obtain ⟨x938, hx939, h⟩ := letp_some h
          refine a_val' (v := (.int .i64 ((rd x644 (IntKind.i64.wrap ((IntKind.i64.wrap (Int.tdiv r1 2)) - x900)).toNat)))) (v' := (.int .i64 x938)) (u := []) (u' := []) (ld_own (i := ⟨.int .i64, 1, 8, (.int .i64 0)⟩) rfl rfl rfl hl937) (congrArg (fun z => ((.int .i64 z) : AV)) hx939) rfl hl937.c rfl ?_
          refine d_next rfl ?_
          refine d_cons ?_
          refine a_val (v := (.osl 7)) (u := []) rfl trivial rfl ?_
          refine d_next rfl ?_
          refine d_cons ?_
          refine a_val (v := (.int .i64 (IntKind.i64.wrap (Int.tdiv r1 2)))) (u := []) rfl trivial rfl ?_
          refine d_next rfl ?_
          refine d_cons ?_
          refine a_val (v := (.int .i64 x643)) (u := []) rfl trivial rfl ?_
          refine d_next rfl ?_
          refine d_cons ?_
          refine a_val (v := (.int .i64 (IntKind.i64.wrap ((IntKind.i64.wrap (Int.tdiv r1 2)) - x643)))) (u := []) rfl trivial rfl ?_
          refine d_next rfl ?_
          refine d_cons ?_
          refine a_val (v := (.int .i64 x900)) (u := []) rfl trivial rfl ?_
          refine d_next rfl ?_
          refine d_cons ?_
          obtain ⟨x940, hx941, h⟩ := letp_some h
          refine a_val' (v := (.int .i64 (IntKind.i64.wrap ((IntKind.i64.wrap ((IntKind.i64.wrap (Int.tdiv r1 2)) - x643)) + x900)))) (v' := (.int .i64 x940)) (u := []) (u' := []) rfl (congrArg (fun z => ((.int .i64 z) : AV)) hx941) rfl trivial rfl ?_
          refine d_next rfl ?_
          refine d_cons ?_
          obtain ⟨hc942, h⟩ := ifp_some h
          refine a_val (v := (.own 7 [x940.toNat] [x940.toNat * 1])) (u := []) rfl (lmap hc942) rfl ?_
          refine d_next rfl ?_
          refine d_cons ?_
          have hl943 : LdOk [x940.toNat] (.row 1 (x644.map (AV.int .i64))) [x940.toNat * 1] 1 false (.int .i64 (rd x644 x940.toNat)) := (.row (llt hc942) rfl (.nil rfl rfl rfl))
          refine a_val (v := (.int .i64 (rd x644 x940.toNat))) (u := []) (ld_own (i := ⟨.int .i64, 1, 8, (.int .i64 0)⟩) rfl rfl rfl hl943) hl943.c rfl ?_
          refine d_next rfl ?_
          refine d_cons ?_
          refine a_val (v := (.int .i64 (IntKind.i64.wrap (x938 * (rd x644 x940.toNat))))) (u := []) rfl trivial rfl ?_
          refine d_next rfl ?_
          refine d_cons ?_
          obtain ⟨x944, hx945, h⟩ := letp_some h
          refine a_val' (v := (.int .i64 (IntKind.i64.wrap (x899 - (IntKind.i64.wrap (x938 * (rd x644 x940.toNat))))))) (v' := (.int .i64 x944)) (u := []) (u' := []) rfl (congrArg (fun z => ((.int .i64 z) : AV)) hx945) rfl trivial rfl ?_
          refine d_next rfl ?_
          refine d_cons ?_
          refine a_val (v := (.int .i64 x944)) (u := []) rfl trivial rfl ?_
          refine d_next rfl ?_
          refine d_nil ?_
          refine b_norm ?_
          refine a_next (σ' := ⟨[(0, (.int .i64 a0)), (1, (eSi64 a1)), (5, (.int .i64 (IntKind.i64.wrap (Int.tdiv r1 2)))), (6, (.int .i64 r4)), (7, (.osl 7)), (8, (.int .i64 x643)), (9, (.int .i64 x944)), (10, (.int .i64 x900))], [(7, some ⟨(.row 1 (x644.map (AV.int .i64))), false⟩)]⟩) rfl ?_
          refine a_region ?_
          refine a_val (v := (.int .i64 x900)) (u := []) rfl trivial rfl ?_
          refine a_val (v := (.int .i64 (IntKind.i64.wrap (x900 + 1)))) (u := []) rfl trivial rfl ?_
          refine a_val (v := (.int .i64 (IntKind.i64.wrap (x900 + 1)))) (u := []) rfl trivial rfl ?_
          refine a_nil ?_
          cases h
          exact a_again rfl hX924
def impl_prime_times_c : ACode := (.seq (.region 0 [⟨some 6, .asg 1 (.const (.slice none 0 0)) 66, none, []⟩] false) (.seq (.seq (.region 1 [⟨some 14, .mov (.tmp 1), none, []⟩, ⟨some 15, .blt 0 .len [(.tmp 14)] [66], none, []⟩, ⟨some 16, .bin .eql 3 (.tmp 15) (.const (.int .i64 0)), none, []⟩, ⟨some 17, .mov (.tmp 16), none, []⟩, ⟨some 18, .mov (.tmp 2), some (17, false), []⟩, ⟨some 19, .blt 0 .len [(.tmp 18)] [66], some (17, false), []⟩, ⟨some 20, .bin .eql 3 (.tmp 19) (.const (.int .i64 0)), some (17, false), []⟩, ⟨some 21, .pick (.tmp 17) (.const (.bool true)) (.tmp 20), none, []⟩] false) (.cond (.tmp 21) (.seq (.region 2 [⟨some 6, .asg 1 (.const (.slice none 0 0)) 66, none, []⟩] false) .ret) .skip)) (.seq (.region 3 [⟨some 22, .mov (.tmp 1), none, []⟩, ⟨some 23, .blt 0 .len [(.tmp 22)] [66], none, []⟩, ⟨some 24, .mov (.tmp 2), none, []⟩, ⟨some 25, .blt 0 .len [(.tmp 24)] [66], none, []⟩, ⟨some 26, .bin .add 3 (.tmp 23) (.tmp 25), none, []⟩, ⟨some 27, .bin .sub 3 (.tmp 26) (.const (.int .i64 1)), none, []⟩, ⟨some 28, .mkslice 66 (.tmp 27) (.tmp 27), none, []⟩, ⟨some 7, .asg 2 (.tmp 28) 66, none, []⟩] false) (.seq (.seq (.region 4 [⟨some 29, .mov (.tmp 1), none, []⟩, ⟨some 30, .blt 0 .len [(.tmp 29)] [66], none, []⟩, ⟨some 31, .mov (.const (.int .i64 0)), none, []⟩] false) (.block 0 (.loop (.seq (.region 5 [⟨some 32, .bin .lss 3 (.tmp 31) (.tmp 30), none, []⟩] false) (.seq (.cond (.tmp 32) .skip (.exit 0)) (.seq (.block 1 (.seq (.region 6 [⟨some 33, .mov (.tmp 31), none, []⟩, ⟨some 34, .indexAddr 66 (.tmp 29) (.tmp 31), none, []⟩, ⟨some 35, .load 2 (.tmp 34), none, []⟩, ⟨some 8, .asg 0 (.tmp 33) 3, none, []⟩, ⟨some 9, .asg 0 (.tmp 35) 2, none, []⟩] false) (.seq (.region 7 [⟨some 36, .mov (.tmp 2), none, []⟩, ⟨some 37, .blt 0 .len [(.tmp 36)] [66], none, []⟩, ⟨some 38, .mov (.const (.int .i64 0)), none, []⟩] false) (.block 2 (.loop (.seq (.region 8 [⟨some 39, .bin .lss 3 (.tmp 38) (.tmp 37), none, []⟩] false) (.seq (.cond (.tmp 39) .skip (.exit 2)) (.seq (.block 3 (.seq (.region 9 [⟨some 40, .mov (.tmp 38), none, []⟩, ⟨some 41, .indexAddr 66 (.tmp 36) (.tmp 38), none, []⟩, ⟨some 42, .load 2 (.tmp 41), none, []⟩, ⟨some 10, .asg 0 (.tmp 40) 3, none, []⟩, ⟨some 11, .asg 0 (.tmp 42) 2, none, []⟩] false) (.region 10 [⟨some 43, .mov (.tmp 7), none, []⟩, ⟨some 44, .mov (.tmp 8), none, []⟩, ⟨some 45, .mov (.tmp 10), none, []⟩, ⟨some 46, .bin .add 3 (.tmp 44) (.tmp 45), none, []⟩, ⟨some 47, .indexAddr 66 (.tmp 43) (.tmp 46), none, []⟩, ⟨some 48, .load 2 (.tmp 47), none, []⟩, ⟨some 49, .mov (.tmp 9), none, []⟩, ⟨some 50, .mov (.tmp 11), none, []⟩, ⟨some 51, .bin .mul 2 (.tmp 49) (.tmp 50), none, []⟩, ⟨some 52, .bin .add 2 (.tmp 48) (.tmp 51), none, []⟩, ⟨some 53, .indexAddr 66 (.tmp 43) (.tmp 46), none, []⟩, ⟨none, .store 2 (.tmp 53) (.tmp 52), none, []⟩] false))) (.region 11 [⟨some 54, .bin .add 3 (.tmp 38) (.const (.int .i64 1)), none, []⟩, ⟨some 38, .mov (.tmp 54), none, []⟩] false))))))))) (.region 12 [⟨some 55, .bin .add 3 (.tmp 31) (.const (.int .i64 1)), none, []⟩, ⟨some 31, .mov (.tmp 55), none, []⟩] false))))))) (.seq (.seq (.region 13 [⟨some 56, .mov (.tmp 7), none, []⟩, ⟨some 57, .blt 0 .len [(.tmp 56)] [66], none, []⟩, ⟨some 58, .mov (.const (.int .i64 0)), none, []⟩] false) (.block 4 (.loop (.seq (.region 14 [⟨some 59, .bin .lss 3 (.tmp 58) (.tmp 57), none, []⟩] false) (.seq (.cond (.tmp 59) .skip (.exit 4)) (.seq (.block 5 (.seq (.region 15 [⟨some 60, .mov (.tmp 58), none, []⟩, ⟨some 61, .indexAddr 66 (.tmp 56) (.tmp 58), none, []⟩, ⟨some 62, .load 2 (.tmp 61), none, []⟩, ⟨some 12, .asg 0 (.tmp 60) 3, none, []⟩, ⟨some 13, .asg 0 (.tmp 62) 2, none, []⟩] false) (.region 16 [⟨some 63, .mov (.tmp 7), none, []⟩, ⟨some 64, .mov (.tmp 12), none, []⟩, ⟨some 65, .mov (.tmp 13), none, []⟩, ⟨some 66, .mov (.tmp 0), none, []⟩, ⟨some 67, .bin .rem 2 (.tmp 65) (.tmp 66), none, []⟩, ⟨some 68, .indexAddr 66 (.tmp 63) (.tmp 64), none, []⟩, ⟨none, .store 2 (.tmp 68) (.tmp 67), none, []⟩] false))) (.region 17 [⟨some 69, .bin .add 3 (.tmp 58) (.const (.int .i64 1)), none, []⟩, ⟨some 58, .mov (.tmp 69), none, []⟩] false))))))) (.seq (.region 18 [⟨some 70, .mov (.tmp 7), none, []⟩, ⟨some 71, .call 0 (.func 111) [(.tmp 70)], none, []⟩, ⟨some 6, .asg 1 (.tmp 71) 66, none, []⟩] false) .ret))))))
def impl_prime_times_L : Live := [(0, [0, 1, 2]), (1, [0, 1, 2]), (2, []), (3, [0, 1, 2]), (4, [0, 1, 2, 7]), (5, [0, 2, 7, 29, 30, 31]), (6, [0, 2, 7, 29, 30, 31]), (7, [0, 2, 7, 8, 9, 29, 30, 31]), (8, [0, 2, 7, 8, 9, 29, 30, 31, 36, 37, 38]), (9, [0, 2, 7, 8, 9, 29, 30, 31, 36, 37, 38]), (10, [0, 2, 7, 8, 9, 10, 11, 29, 30, 31, 36, 37, 38]), (11, [0, 2, 7, 8, 9, 29, 30, 31, 36, 37, 38]), (12, [0, 2, 7, 29, 30, 31]), (13, [0, 7]), (14, [0, 7, 56, 57, 58]), (15, [0, 7, 56, 57, 58]), (16, [0, 7, 12, 13, 56, 57, 58]), (17, [0, 7, 56, 57, 58]), (18, [7]), (100021, [0, 1, 2, 21]), (100032, [0, 2, 7, 29, 30, 31, 32]), (100039, [0, 2, 7, 8, 9, 29, 30, 31, 36, 37, 38, 39]), (100059, [0, 7, 56, 57, 58, 59])]
theorem impl_prime_times_body : Try.f86.body = some (Try.f86.body.getD .skip) := by kernel_rfl
theorem impl_prime_times_strip : strip [(6, 1), (7, 2)] (Try.f86.body.getD .skip) = impl_prime_times_c := by kernel_rfl
noncomputable def impl_prime_times_l2 (a2 : (List Int)) (x329 : Int) (a1 : (List Int)) (x460 : Int) (x461 : (List Int)) : Option ((Int × (List Int)) ⊕ (List Int)) :=
  (if (decide (x460 < (a2.length : Int))) then (ifp (0 ≤ x460 ∧ x460 < ((a2.length : Nat) : Int)) ((ifp (0 ≤ IntKind.i64.wrap (x329 + x460) ∧ IntKind.i64.wrap (x329 + x460) < ((x461.length : Nat) : Int)) ((letp (IntKind.i64.wrap (((rd x461 (IntKind.i64.wrap (x329 + x460)).toNat)) + (IntKind.i64.wrap ((rd a1 x329.toNat) * (rd a2 x460.toNat))))) fun x479 => (ifp (0 ≤ IntKind.i64.wrap (x329 + x460) ∧ IntKind.i64.wrap (x329 + x460) < ((x461.length : Nat) : Int)) ((some (.inl ((IntKind.i64.wrap (x460 + 1), (x461.set (IntKind.i64.wrap (x329 + x460)).toNat x479)))))))))))) else (some (.inr x461)))
noncomputable def impl_prime_times_l1 (a1 : (List Int)) (a2 : (List Int)) (x329 : Int) (x330 : (List Int)) : Option ((Int × (List Int)) ⊕ (List Int)) :=
  (if (decide (x329 < (a1.length : Int))) then (Option.bind (α := (List Int)) ((ifp (0 ≤ x329 ∧ x329 < ((a1.length : Nat) : Int)) ((loopM (fun s : (Int × (List Int)) => impl_prime_times_l2 a2 x329 a1 s.1 s.2) (0, x330))))) fun x445 => (some (.inl ((IntKind.i64.wrap (x329 + 1), x445))))) else (some (.inr x330)))
noncomputable def impl_prime_times_l3 (x246 : (List Int)) (a0 : Int) (x519 : Int) (x520 : (List Int)) : Option ((Int × (List Int)) ⊕ (List Int)) :=
  (if (decide (x519 < (x246.length : Int))) then (ifp (0 ≤ x519 ∧ x519 < ((x520.length : Nat) : Int)) ((ifp (a0 ≠ 0) ((ifp (0 ≤ x519 ∧ x519 < ((x520.length : Nat) : Int)) ((some (.inl ((IntKind.i64.wrap (x519 + 1), (x520.set x519.toNat (Int.tmod (rd x520 x519.toNat) a0)))))))))))) else (some (.inr x520)))
noncomputable def impl_prime_times (a0 : Int) (a1 : (List Int)) (a2 : (List Int)) : Option (List Int) :=
  (Option.bind (α := Bool) ((if ((a1.length : Int) == 0) then (some true) else (some (((a2.length : Int) == 0))))) fun x2 => (if x2 then (some ([])) else (letp (IntKind.i64.wrap ((IntKind.i64.wrap ((a1.length : Int) + (a2.length : Int))) - 1)) fun x8 => (ifp (0 ≤ x8 ∧ x8 ≤ 140737488355328 ∧ 8 * x8 ≤ 140737488355328) ((Option.bind (α := (List Int)) ((loopM (fun s : (Int × (List Int)) => impl_prime_times_l1 a1 a2 s.1 s.2) (0, List.replicate x8.toNat (0 : Int)))) fun x246 => (Option.bind (α := (List Int)) ((loopM (fun s : (Int × (List Int)) => impl_prime_times_l3 x246 a0 s.1 s.2) (0, x246))) fun x509 => (Option.bind (impl_row_trimmed x509) fun r537 => (some r537)))))))))
set_option maxHeartbeats 16000000 in
theorem impl_prime_times_ok (a0 : Int) (a1 : (List Int)) (a2 : (List Int)) (r : (List Int)) (h : impl_prime_times a0 a1 a2 = some r) : Den Try.prog 86 [(.int .i64 a0), (eSi64 a1), (eSi64 a2)] { r := (eSi64 r) } := by
  refine den_of (rs := [(eSi64 r)]) (ac := impl_prime_times_c) (L := impl_prime_times_L) (n := 72) (m := [(6, 1), (7, 2)]) good Try.func86 impl_prime_times_body (by kernel_rfl) Try.ntmps86 rfl rfl impl_prime_times_strip rfl rfl ?_
  refine a_st (σ' := ⟨[(0, (.int .i64 a0)), (1, (eSi64 a1)), (2, (eSi64 a2))], []⟩) rfl ?_
  unfold impl_prime_times_c
  refine a_seq ?_
  refine a_region ?_
  refine a_val (v := (eSi64 ([]))) (u := []) rfl trivial rfl ?_
  refine a_nil ?_
  refine a_next (σ' := ⟨[(0, (.int .i64 a0)), (1, (eSi64 a1)), (2, (eSi64 a2))], []⟩) rfl ?_
  refine a_seq ?_
  obtain ⟨y3, hy4, hk5⟩ := bind_some h
  clear h
  refine a_join (emb := fun (s : Bool) => ⟨[(0, (.int .i64 a0)), (1, (eSi64 a1)), (2, (eSi64 a2)), (21, (.bool s))], []⟩) (pre := fun s => s = y3) ?_ ?_
  · rintro x2 rfl
    have h := hk5
    refine a_st (σ' := ⟨[(0, (.int .i64 a0)), (1, (eSi64 a1)), (2, (eSi64 a2)), (21, (.bool x2))], []⟩) rfl ?_
    cases hb7 : x2
    · have h := ite_f hb7 h
      refine a_cond_f rfl ?_
      refine a_skip ?_
      refine a_next (σ' := ⟨[(0, (.int .i64 a0)), (1, (eSi64 a1)), (2, (eSi64 a2))], []⟩) rfl ?_
      refine a_seq ?_
      refine a_region ?_
      refine a_val (v := (eSi64 a1)) (u := []) rfl trivial rfl ?_
      refine a_val (v := (.int .i64 (a1.length : Int))) (u := []) (len_run rfl rfl) trivial rfl ?_
      refine a_val (v := (eSi64 a2)) (u := []) rfl trivial rfl ?_
      refine a_val (v := (.int .i64 (a2.length : Int))) (u := []) (len_run rfl rfl) trivial rfl ?_
      refine a_val (v := (.int .i64 (IntKind.i64.wrap ((a1.length : Int) + (a2.length : Int))))) (u := []) rfl trivial rfl ?_
      obtain ⟨x8, hx9, h⟩ := letp_some h
      refine a_val' (v := (.int .i64 (IntKind.i64.wrap ((IntKind.i64.wrap ((a1.length : Int) + (a2.length : Int))) - 1)))) (v' := (.int .i64 x8)) (u := []) (u' := []) rfl (congrArg (fun z => ((.int .i64 z) : AV)) hx9) rfl trivial rfl ?_
      obtain ⟨hc10, h⟩ := ifp_some h
      refine a_val (v := (.osl 3800)) (u := [(3800, some ⟨(.row 1 ((List.replicate x8.toNat (0 : Int)).map (AV.int .i64))), false⟩)]) (mk_run (i := ⟨.int .i64, 1, 8, (.int .i64 0)⟩) (f := (AV.int .i64)) (y := (0 : Int)) rfl rfl rfl rfl rfl rfl) ⟨rfl, hc10.1, hc10.2.1, hc10.2.2, (Nat.le_of_ble_eq_true rfl)⟩ rfl ?_
      refine a_val (v := (.osl 3800)) (u := []) rfl trivial rfl ?_
      refine a_nil ?_
      refine a_next (σ' := ⟨[(0, (.int .i64 a0)), (1, (eSi64 a1)), (2, (eSi64 a2)), (7, (.osl 7))], [(7, some ⟨(.row 1 ((List.replicate x8.toNat (0 : Int)).map (AV.int .i64))), false⟩)]⟩) rfl ?_
      obtain ⟨y247, hy248, hk249⟩ := bind_some h
      clear h
      refine a_join (emb := fun (s : (List Int)) => ⟨[(0, (.int .i64 a0)), (7, (.osl 7))], [(7, some ⟨(.row 1 (s.map (AV.int .i64))), false⟩)]⟩) (pre := fun s => s = y247) ?_ ?_
      · rintro x246 rfl
        have h := hk249
        refine a_st (σ' := ⟨[(0, (.int .i64 a0)), (7, (.osl 7))], [(7, some ⟨(.row 1 (x246.map (AV.int .i64))), false⟩)]⟩) rfl ?_
        obtain ⟨y510, hy511, hk512⟩ := bind_some h
        clear h
        refine a_join (emb := fun (s : (List Int)) => ⟨[(7, (.osl 7))], [(7, some ⟨(.row 1 (s.map (AV.int .i64))), false⟩)]⟩) (pre := fun s => s = y510) ?_ ?_
        · rintro x509 rfl
          have h := hk512
          refine a_st (σ' := ⟨[(7, (.osl 7))], [(7, some ⟨(.row 1 (x509.map (AV.int .i64))), false⟩)]⟩) rfl ?_
          refine a_seq ?_
          refine a_region ?_
          refine a_val (v := (.osl 7)) (u := []) rfl trivial rfl ?_
          obtain ⟨r537, hr538, h⟩ := bind_some h
          refine a_call (args := [(eSi64 x509)]) (u := [(7, some ⟨(.row 1 (x509.map (AV.int .i64))), true⟩)]) (r := (eSi64 r537)) rfl rfl (impl_row_trimmed_ok x509 r537 hr538) rfl ?_
          refine a_val (v := (eSi64 r537)) (u := []) rfl trivial rfl ?_
          refine a_nil ?_
          refine a_next rfl ?_
          refine a_ret ?_
          refine ⟨.inr rfl, ?_⟩
          rw [Try.results86]
          cases h
          exact ⟨_, _, _, _, _, rfl, trivial, .inl ⟨rfl, .inl rfl⟩, rfl, rfl⟩
        · have h := hy511
          refine a_seq ?_
          refine a_region ?_
          refine a_val (v := (.osl 7)) (u := []) rfl trivial rfl ?_
          refine a_val (v := (.int .i64 (x246.length : Int))) (u := []) (leno_run rfl rfl rfl) trivial rfl ?_
          refine a_val (v := (.int .i64 0)) (u := []) rfl trivial rfl ?_
          refine a_nil ?_
          refine a_next (σ' := ⟨[(0, (.int .i64 a0)), (7, (.osl 7)), (56, (.osl 7)), (57, (.int .i64 (x246.length : Int))), (58, (.int .i64 0))], [(7, some ⟨(.row 1 (x246.map (AV.int .i64))), false⟩)]⟩) rfl ?_
          refine a_block ?_
          refine a_loop (emb := fun (s : (Int × (List Int))) => ⟨[(0, (.int .i64 a0)), (7, (.osl 7)), (56, (.osl 7)), (57, (.int .i64 (x246.length : Int))), (58, (.int .i64 s.1))], [(7, some ⟨(.row 1 (s.2.map (AV.int .i64))), false⟩)]⟩) (body := (fun s : (Int × (List Int)) => impl_prime_times_l3 x246 a0 s.1 s.2)) (G := fun q => some q = some y510) h rfl ?_ rfl
          rintro X527 ⟨x519, x520⟩ x528 h hX529
          have h : impl_prime_times_l3 x246 a0 x519 x520 = some x528 := h
          refine a_st (σ' := ⟨[(0, (.int .i64 a0)), (7, (.osl 7)), (56, (.osl 7)), (57, (.int .i64 (x246.length : Int))), (58, (.int .i64 x519))], [(7, some ⟨(.row 1 (x520.map (AV.int .i64))), false⟩)]⟩) rfl ?_
          refine a_seq ?_
          refine a_region ?_
          refine a_val (v := (.bool ((decide (x519 < (x246.length : Int)))))) (u := []) rfl trivial rfl ?_
          refine a_nil ?_
          refine a_next (σ' := ⟨[(0, (.int .i64 a0)), (7, (.osl 7)), (56, (.osl 7)), (57, (.int .i64 (x246.length : Int))), (58, (.int .i64 x519)), (59, (.bool ((decide (x519 < (x246.length : Int))))))], [(7, some ⟨(.row 1 (x520.map (AV.int .i64))), false⟩)]⟩) rfl ?_
          refine a_seq ?_
          cases hb530 : (decide (x519 < (x246.length : Int)))
          · have h := ite_f hb530 h
            refine a_cond_f rfl ?_
            refine a_exit ?_
            refine t_exit ?_
            cases h
            have h := hX529
            refine t_exit ?_
            refine b_exit ?_
            exact j_leaf x520 (Option.some.inj h) rfl
          · have h := ite_t hb530 h
            refine a_cond_t rfl ?_
            refine a_skip ?_
            refine a_next (σ' := ⟨[(0, (.int .i64 a0)), (7, (.osl 7)), (56, (.osl 7)), (57, (.int .i64 (x246.length : Int))), (58, (.int .i64 x519))], [(7, some ⟨(.row 1 (x520.map (AV.int .i64))), false⟩)]⟩) rfl ?_
            refine a_seq ?_
            refine a_block ?_
            refine a_seq ?_
            refine a_region ?_
            refine a_val (v := (.int .i64 x519)) (u := []) rfl trivial rfl ?_
            obtain ⟨hc531, h⟩ := ifp_some h
            refine a_val (v := (.own 7 [x519.toNat] [x519.toNat * 1])) (u := []) rfl (lmap hc531) rfl ?_
            have hl532 : LdOk [x519.toNat] (.row 1 (x520.map (AV.int .i64))) [x519.toNat * 1] 1 false (.int .i64 (rd x520 x519.toNat)) := (.row (llt hc531) rfl (.nil rfl rfl rfl))
            refine a_val (v := (.int .i64 (rd x520 x519.toNat))) (u := []) (ld_own (i := ⟨.int .i64, 1, 8, (.int .i64 0)⟩) rfl rfl rfl hl532) hl532.c rfl ?_
            refine a_val (v := (.int .i64 x519)) (u := []) rfl trivial rfl ?_
            refine a_val (v := (.int .i64 (rd x520 x519.toNat))) (u := []) rfl trivial rfl ?_
            refine a_nil ?_
            refine a_next (σ' := ⟨[(0, (.int .i64 a0)), (7, (.osl 7)), (12, (.int .i64 x519)), (13, (.int .i64 (rd x520 x519.toNat))), (56, (.osl 7)), (57, (.int .i64 (x246.length : Int))), (58, (.int .i64 x519))], [(7, some ⟨(.row 1 (x520.map (AV.int .i64))), false⟩)]⟩) rfl ?_
            refine a_region ?_
            refine a_val (v := (.osl 7)) (u := []) rfl trivial rfl ?_
            refine a_val (v := (.int .i64 x519)) (u := []) rfl trivial rfl ?_
            refine a_val (v := (.int .i64 (rd x520 x519.toNat))) (u := []) rfl trivial rfl ?_
            refine a_val (v := (.int .i64 a0)) (u := []) rfl trivial rfl ?_
            obtain ⟨hc533, h⟩ := ifp_some h
            refine a_val (v := (.int .i64 (Int.tmod (rd x520 x519.toNat) a0))) (u := []) rfl hc533 rfl ?_
            obtain ⟨hc534, h⟩ := ifp_some h
            refine a_val (v := (.own 7 [x519.toNat] [x519.toNat * 1])) (u := []) rfl (lmap hc534) rfl ?_
            have hs535 : StOk [x519.toNat] (.row 1 (x520.map (AV.int .i64))) [x519.toNat * 1] 1 (.int .i64 (Int.tmod (rd x520 x519.toNat) a0)) (.row 1 (((x520.set x519.toNat (Int.tmod (rd x520 x519.toNat) a0))).map (AV.int .i64))) := (.row (y := Int.tmod (rd x520 x519.toNat) a0) (llt hc534) rfl (.nil rfl rfl rfl rfl))
            refine a_val (v := .top) (u := [(7, some ⟨(.row 1 (((x520.set x519.toNat (Int.tmod (rd x520 x519.toNat) a0))).map (AV.int .i64))), false⟩)]) (st_own (i := ⟨.int .i64, 1, 8, (.int .i64 0)⟩) rfl rfl (fun _ => rfl) rfl hs535) (hs535.c rfl) rfl ?_
            refine a_nil ?_
            refine b_norm ?_
            refine a_next (σ' := ⟨[(0, (.int .i64 a0)), (7, (.osl 7)), (56, (.osl 7)), (57, (.int .i64 (x246.length : Int))), (58, (.int .i64 x519))], [(7, some ⟨(.row 1 (((x520.set x519.toNat (Int.tmod (rd x520 x519.toNat) a0))).map (AV.int .i64))), false⟩)]⟩) rfl ?_
            refine a_region ?_
            refine a_val (v := (.int .i64 (IntKind.i64.wrap (x519 + 1)))) (u := []) rfl trivial rfl ?_
            refine a_val (v := (.int .i64 (IntKind.i64.wrap (x519 + 1)))) (u := []) rfl trivial rfl ?_
            refine a_nil ?_
            cases h
            exact a_again rfl hX529
      · have h := hy248
        refine a_seq ?_
        refine a_region ?_
        refine a_val (v := (eSi64 a1)) (u := []) rfl trivial rfl ?_
        refine a_val (v := (.int .i64 (a1.length : Int))) (u := []) (len_run rfl rfl) trivial rfl ?_
        refine a_val (v := (.int .i64 0)) (u := []) rfl trivial rfl ?_
        refine a_nil ?_
        refine a_next (σ' := ⟨[(0, (.int .i64 a0)), (2, (eSi64 a2)), (7, (.osl 7)), (29, (eSi64 a1)), (30, (.int .i64 (a1.length : Int))), (31, (.int .i64 0))], [(7, some ⟨(.row 1 ((List.replicate x8.toNat (0 : Int)).map (AV.int .i64))), false⟩)]⟩) rfl ?_
        refine a_block ?_
        refine a_loop (emb := fun (s : (Int × (List Int))) => ⟨[(0, (.int .i64 a0)), (2, (eSi64 a2)), (7, (.osl 7)), (29, (eSi64 a1)), (30, (.int .i64 (a1.length : Int))), (31, (.int .i64 s.1))], [(7, some ⟨(.row 1 (s.2.map (AV.int .i64))), false⟩)]⟩) (body := (fun s : (Int × (List Int)) => impl_prime_times_l1 a1 a2 s.1 s.2)) (G := fun q => some q = some y247) h rfl ?_ rfl
        rintro X406 ⟨x329, x330⟩ x407 h hX408
        have h : impl_prime_times_l1 a1 a2 x329 x330 = some x407 := h
        refine a_st (σ' := ⟨[(0, (.int .i64 a0)), (2, (eSi64 a2)), (7, (.osl 7)), (29, (eSi64 a1)), (30, (.int .i64 (a1.length : Int))), (31, (.int .i64 x329))], [(7, some ⟨(.row 1 (x330.map (AV.int .i64))), false⟩)]⟩) rfl ?_
        refine a_seq ?_
        refine a_region ?_
        refine a_val (v := (.bool ((decide (x329 < (a1.length : Int)))))) (u := []) rfl trivial rfl ?_
        refine a_nil ?_
        refine a_next (σ' := ⟨[(0, (.int .i64 a0)), (2, (eSi64 a2)), (7, (.osl 7)), (29, (eSi64 a1)), (30, (.int .i64 (a1.length : Int))), (31, (.int .i64 x329)), (32, (.bool ((decide (x329 < (a1.length : Int))))))], [(7, some ⟨(.row 1 (x330.map (AV.int .i64))), false⟩)]⟩) rfl ?_
        refine a_seq ?_
        cases hb409 : (decide (x329 < (a1.length : Int)))
        · have h := ite_f hb409 h
          refine a_cond_f rfl ?_
          refine a_exit ?_
          refine t_exit ?_
          cases h
          have h := hX408
          refine t_exit ?_
          refine b_exit ?_
          exact j_leaf x330 (Option.some.inj h) rfl
        · have h := ite_t hb409 h
          refine a_cond_t rfl ?_
          refine a_skip ?_
          refine a_next (σ' := ⟨[(0, (.int .i64 a0)), (2, (eSi64 a2)), (7, (.osl 7)), (29, (eSi64 a1)), (30, (.int .i64 (a1.length : Int))), (31, (.int .i64 x329))], [(7, some ⟨(.row 1 (x330.map (AV.int .i64))), false⟩)]⟩) rfl ?_
          obtain ⟨y446, hy447, hk448⟩ := bind_some h
          clear h
          refine a_join (emb := fun (s : (List Int)) => ⟨[(0, (.int .i64 a0)), (2, (eSi64 a2)), (7, (.osl 7)), (29, (eSi64 a1)), (30, (.int .i64 (a1.length : Int))), (31, (.int .i64 x329))], [(7, some ⟨(.row 1 (s.map (AV.int .i64))), false⟩)]⟩) (pre := fun s => s = y446) ?_ ?_
          · rintro x445 rfl
            have h := hk448
            refine a_st (σ' := ⟨[(0, (.int .i64 a0)), (2, (eSi64 a2)), (7, (.osl 7)), (29, (eSi64 a1)), (30, (.int .i64 (a1.length : Int))), (31, (.int .i64 x329))], [(7, some ⟨(.row 1 (x445.map (AV.int .i64))), false⟩)]⟩) rfl ?_
            refine a_region ?_
            refine a_val (v := (.int .i64 (IntKind.i64.wrap (x329 + 1)))) (u := []) rfl trivial rfl ?_
            refine a_val (v := (.int .i64 (IntKind.i64.wrap (x329 + 1)))) (u := []) rfl trivial rfl ?_
            refine a_nil ?_
            cases h
            exact a_again rfl hX408
          · have h := hy447
            refine a_block ?_
            refine a_seq ?_
            refine a_region ?_
            refine a_val (v := (.int .i64 x329)) (u := []) rfl trivial rfl ?_
            obtain ⟨hc449, h⟩ := ifp_some h
            refine a_val (v := (.ref (.row 1 (a1.map (AV.int .i64))) [x329.toNat] [x329.toNat * 1])) (u := []) rfl (lmap hc449) rfl ?_
            have hl450 : LdOk [x329.toNat] (.row 1 (a1.map (AV.int .i64))) [x329.toNat * 1] 1 false (.int .i64 (rd a1 x329.toNat)) := (.row (llt hc449) rfl (.nil rfl rfl rfl))
            refine a_val (v := (.int .i64 (rd a1 x329.toNat))) (u := []) (ld_ref (i := ⟨.int .i64, 1, 8, (.int .i64 0)⟩) rfl rfl hl450) hl450.c rfl ?_
            refine a_val (v := (.int .i64 x329)) (u := []) rfl trivial rfl ?_
            refine a_val (v := (.int .i64 (rd a1 x329.toNat))) (u := []) rfl trivial rfl ?_
            refine a_nil ?_
            refine a_next (σ' := ⟨[(0, (.int .i64 a0)), (2, (eSi64 a2)), (7, (.osl 7)), (8, (.int .i64 x329)), (9, (.int .i64 (rd a1 x329.toNat))), (29, (eSi64 a1)), (30, (.int .i64 (a1.length : Int))), (31, (.int .i64 x329))], [(7, some ⟨(.row 1 (x330.map (AV.int .i64))), false⟩)]⟩) rfl ?_
            refine a_seq ?_
            refine a_region ?_
            refine a_val (v := (eSi64 a2)) (u := []) rfl trivial rfl ?_
            refine a_val (v := (.int .i64 (a2.length : Int))) (u := []) (len_run rfl rfl) trivial rfl ?_
            refine a_val (v := (.int .i64 0)) (u := []) rfl trivial rfl ?_
            refine a_nil ?_
            refine a_next (σ' := ⟨[(0, (.int .i64 a0)), (2, (eSi64 a2)), (7, (.osl 7)), (8, (.int .i64 x329)), (9, (.int .i64 (rd a1 x329.toNat))), (29, (eSi64 a1)), (30, (.int .i64 (a1.length : Int))), (31, (.int .i64 x329)), (36, (eSi64 a2)), (37, (.int .i64 (a2.length : Int))), (38, (.int .i64 0))], [(7, some ⟨(.row 1 (x330.map (AV.int .i64))), false⟩)]⟩) rfl ?_
            refine a_block ?_
            refine a_loop (emb := fun (s : (Int × (List Int))) => ⟨[(0, (.int .i64 a0)), (2, (eSi64 a2)), (7, (.osl 7)), (8, (.int .i64 x329)), (9, (.int .i64 (rd a1 x329.toNat))), (29, (eSi64 a1)), (30, (.int .i64 (a1.length : Int))), (31, (.int .i64 x329)), (36, (eSi64 a2)), (37, (.int .i64 (a2.length : Int))), (38, (.int .i64 s.1))], [(7, some ⟨(.row 1 (s.2.map (AV.int .i64))), false⟩)]⟩) (body := (fun s : (Int × (List Int)) => impl_prime_times_l2 a2 x329 a1 s.1 s.2)) (G := fun q => some q = some y446) h rfl ?_ rfl
            rintro X471 ⟨x460, x461⟩ x472 h hX473
            have h : impl_prime_times_l2 a2 x329 a1 x460 x461 = some x472 := h
            refine a_st (σ' := ⟨[(0, (.int .i64 a0)), (2, (eSi64 a2)), (7, (.osl 7)), (8, (.int .i64 x329)), (9, (.int .i64 (rd a1 x329.toNat))), (29, (eSi64 a1)), (30, (.int .i64 (a1.length : Int))), (31, (.int .i64 x329)), (36, (eSi64 a2)), (37, (.int .i64 (a2.length : Int))), (38, (.int .i64 x460))], [(7, some ⟨(.row 1 (x461.map (AV.int .i64))), false⟩)]⟩) rfl ?_
            refine a_seq ?_
            refine a_region ?_
            refine a_val (v := (.bool ((decide (x460 < (a2.length : Int)))))) (u := []) rfl trivial rfl ?_
            refine a_nil ?_
            refine a_next (σ' := ⟨[(0, (.int .i64 a0)), (2, (eSi64 a2)), (7, (.osl 7)), (8, (.int .i64 x329)), (9, (.int .i64 (rd a1 x329.toNat))), (29, (eSi64 a1)), (30, (.int .i64 (a1.length : Int))), (31, (.int .i64 x329)), (36, (eSi64 a2)), (37, (.int .i64 (a2.length : Int))), (38, (.int .i64 x460)), (39, (.bool ((decide (x460 < (a2.length : Int))))))], [(7, some ⟨(.row 1 (x461.map (AV.int .i64))), false⟩)]⟩) rfl ?_
            refine a_seq ?_
            cases hb474 : (decide (x460 < (a2.length : Int)))
            · have h := ite_f hb474 h
              refine a_cond_f rfl ?_
              refine a_exit ?_
              refine t_exit ?_
              cases h
              have h := hX473
              refine t_exit ?_
              refine b_exit ?_
              refine b_norm ?_
              exact j_leaf x461 (Option.some.inj h) rfl
            · have h := ite_t hb474 h
              refine a_cond_t rfl ?_
              refine a_skip ?_
              refine a_next (σ' := ⟨[(0, (.int .i64 a0)), (2, (eSi64 a2)), (7, (.osl 7)), (8, (.int .i64 x329)), (9, (.int .i64 (rd a1 x329.toNat))), (29, (eSi64 a1)), (30, (.int .i64 (a1.length : Int))), (31, (.int .i64 x329)), (36, (eSi64 a2)), (37, (.int .i64 (a2.length : Int))), (38, (.int .i64 x460))], [(7, some ⟨(.row 1 (x461.map (AV.int .i64))), false⟩)]⟩) rfl ?_
              refine a_seq ?_
              refine a_block ?_
              refine a_seq ?_
              refine a_region ?_
              refine a_val (v := (.int .i64 x460)) (u := []) rfl trivial rfl ?_
              obtain ⟨hc475, h⟩ := ifp_some h
              refine a_val (v := (.ref (.row 1 (a2.map (AV.int .i64))) [x460.toNat] [x460.toNat * 1])) (u := []) rfl (lmap hc475) rfl ?_
              have hl476 : LdOk [x460.toNat] (.row 1 (a2.map (AV.int .i64))) [x460.toNat * 1] 1 false (.int .i64 (rd a2 x460.toNat)) := (.row (llt hc475) rfl (.nil rfl rfl rfl))
              refine a_val (v := (.int .i64 (rd a2 x460.toNat))) (u := []) (ld_ref (i := ⟨.int .i64, 1, 8, (.int .i64 0)⟩) rfl rfl hl476) hl476.c rfl ?_
              refine a_val (v := (.int .i64 x460)) (u := []) rfl trivial rfl ?_
              refine a_val (v := (.int .i64 (rd a2 x460.toNat))) (u := []) rfl trivial rfl ?_
              refine a_nil ?_
              refine a_next (σ' := ⟨[(0, (.int .i64 a0)), (2, (eSi64 a2)), (7, (.osl 7)), (8, (.int .i64 x329)), (9, (.int .i64 (rd a1 x329.toNat))), (10, (.int .i64 x460)), (11, (.int .i64 (rd a2 x460.toNat))), (29, (eSi64 a1)), (30, (.int .i64 (a1.length : Int))), (31, (.int .i64 x329)), (36, (eSi64 a2)), (37, (.int .i64 (a2.length : Int))), (38, (.int .i64 x460))], [(7, some ⟨(.row 1 (x461.map (AV.int .i64))), false⟩)]⟩) rfl ?_
              refine a_region ?_
              refine a_val (v := (.osl 7)) (u := []) rfl trivial rfl ?_
              refine a_val (v := (.int .i64 x329)) (u := []) rfl trivial rfl ?_
              refine a_val (v := (.int .i64 x460)) (u := []) rfl trivial rfl ?_
              refine a_val (v := (.int .i64 (IntKind.i64.wrap (x329 + x460)))) (u := []) rfl trivial rfl ?_
              obtain ⟨hc477, h⟩ := ifp_some h
              refine a_val (v := (.own 7 [(IntKind.i64.wrap (x329 + x460)).toNat] [(IntKind.i64.wrap (x329 + x460)).toNat * 1])) (u := []) rfl (lmap hc477) rfl ?_
              have hl478 : LdOk [(IntKind.i64.wrap (x329 + x460)).toNat] (.row 1 (x461.map (AV.int .i64))) [(IntKind.i64.wrap (x329 + x460)).toNat * 1] 1 false (.int .i64 ((rd x461 (IntKind.i64.wrap (x329 + x460)).toNat))) := (.row (llt hc477) rfl (.nil rfl rfl rfl))
              refine a_val (v := (.int .i64 ((rd x461 (IntKind.i64.wrap (x329 + x460)).toNat)))) (u := []) (ld_own (i := ⟨.int .i64, 1, 8, (.int .i64 0)⟩) rfl rfl rfl hl478) hl478.c rfl ?_
              refine a_val (v := (.int .i64 (rd a1 x329.toNat))) (u := []) rfl trivial rfl ?_
              refine a_val (v := (.int .i64 (rd a2 x460.toNat))) (u := []) rfl trivial rfl ?_
              refine a_val (v := (.int .i64 (IntKind.i64.wrap ((rd a1 x329.toNat) * (rd a2 x460.toNat))))) (u := []) rfl trivial rfl ?_
              obtain ⟨x479, hx480, h⟩ := letp_some h
              refine a_val' (v := (.int .i64 (IntKind.i64.wrap (((rd x461 (IntKind.i64.wrap (x329 + x460)).toNat)) + (IntKind.i64.wrap ((rd a1 x329.toNat) * (rd a2 x460.toNat))))))) (v' := (.int .i64 x479)) (u := []) (u' := []) rfl (congrArg (fun z => ((.int .i64 z) : AV)) hx480) rfl trivial rfl ?_
              obtain ⟨hc481, h⟩ := ifp_some h
              refine a_val (v := (.own 7 [(IntKind.i64.wrap (x329 + x460)).toNat] [(IntKind.i64.wrap (x329 + x460)).toNat * 1])) (u := []) rfl (lmap hc481) rfl ?_
              have hs482 : StOk [(IntKind.i64.wrap (x329 + x460)).toNat] (.row 1 (x461.map (AV.int .i64))) [(IntKind.i64.wrap (x329 + x460)).toNat * 1] 1 (.int .i64 x479) (.row 1 (((x461.set (IntKind.i64.wrap (x329 + x460)).toNat x479)).map (AV.int .i64))) := (.row (y := x479) (llt hc481) rfl (.nil rfl rfl rfl rfl))
              refine a_val (v := .top) (u := [(7, some ⟨(.row 1 (((x461.set (IntKind.i64.wrap (x329 + x460)).toNat x479)).map (AV.int .i64))), false⟩)]) (st_own (i := ⟨.int .i64, 1, 8, (.int .i64 0)⟩) rfl rfl (fun _ => rfl) rfl hs482) (hs482.c rfl) rfl ?_
              refine a_nil ?_
              refine b_norm ?_
              refine a_next (σ' := ⟨[(0, (.int .i64 a0)), (2, (eSi64 a2)), (7, (.osl 7)), (8, (.int .i64 x329)), (9, (.int .i64 (rd a1 x329.toNat))), (29, (eSi64 a1)), (30, (.int .i64 (a1.length : Int))), (31, (.int .i64 x329)), (36, (eSi64 a2)), (37, (.int .i64 (a2.length : Int))), (38, (.int .i64 x460))], [(7, some ⟨(.row 1 (((x461.set (IntKind.i64.wrap (x329 + x460)).toNat x479)).map (AV.int .i64))), false⟩)]⟩) rfl ?_
              refine a_region ?_
              refine a_val (v := (.int .i64 (IntKind.i64.wrap (x460 + 1)))) (u := []) rfl trivial rfl ?_
              refine a_val (v := (.int .i64 (IntKind.i64.wrap (x460 + 1)))) (u := []) rfl trivial rfl ?_
              refine a_nil ?_
              cases h
              exact a_again rfl hX473
    · have h := ite_t hb7 h
      refine a_cond_t rfl ?_
      refine a_seq ?_
      refine a_region ?_
      refine a_val (v := (eSi64 ([]))) (u := []) rfl trivial rfl ?_
      refine a_nil ?_
      refine a_next rfl ?_
      refine a_ret ?_
      refine t_ret ?_
      refine ⟨.inr rfl, ?_⟩
      rw [Try.results86]
      cases h
      exact ⟨_, _, _, _, _, rfl, trivial, .inl ⟨rfl, .inl rfl⟩, rfl, rfl⟩
  · have h := hy4
    refine a_region ?_
    refine a_val (v := (eSi64 a1)) (u := []) rfl trivial rfl ?_
    refine a_val (v := (.int .i64 (a1.length : Int))) (u := []) (len_run rfl rfl) trivial rfl ?_
    refine a_val (v := (.bool (((a1.length : Int) == 0)))) (u := []) rfl trivial rfl ?_
    refine a_val (v := (.bool (((a1.length : Int) == 0)))) (u := []) rfl trivial rfl ?_
    cases hb6 : ((a1.length : Int) == 0)
    · have h := ite_f hb6 h
      refine a_gval rfl (v := (eSi64 a2)) (u := []) rfl trivial rfl ?_
      refine a_gval rfl (v := (.int .i64 (a2.length : Int))) (u := []) (len_run rfl rfl) trivial rfl ?_
      refine a_gval rfl (v := (.bool (((a2.length : Int) == 0)))) (u := []) rfl trivial rfl ?_
      refine a_val (v := (.bool (((a2.length : Int) == 0)))) (u := []) rfl trivial rfl ?_
      refine a_nil ?_
      exact j_leaf (((a2.length : Int) == 0)) (Option.some.inj h) rfl
    · have h := ite_t hb6 h
      refine a_gskip rfl ?_
      refine a_gskip rfl ?_
      refine a_gskip rfl ?_
      refine a_val (v := (.bool true)) (u := []) rfl trivial rfl ?_
      refine a_nil ?_
      exact j_leaf true (Option.some.inj h) rfl
end Go.Proofs.Ytacebpbhddkelaa
