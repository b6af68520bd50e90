/- Functions of the program: plain Lean functions, and that the program computes them. Printed by gen.py. -/
import Derived.Test.YtcgohoclbjgmkaaFnT
import Derived.Test.YtcgohoclbjgmkaaFn1
namespace Go.Proofs.Ytcgohoclbjgmkaa
open Go.Abs Go.Proofs
set_option linter.unusedSimpArgs false
set_option linter.unusedVariables false
attribute [local irreducible] Abs.acode Abs.aops Abs.aopsT Abs.thenK Abs.blockK

def spec_l01Up_c : ACode := (.seq (.region 0 [⟨some 4, .box 24 (.tmp 1), none, []⟩, ⟨some 5, .box 24 (.tmp 2), none, []⟩, ⟨some 6, .alloc 24, none, []⟩] false) (.seq (.region 1 [⟨some 13, .load 24 (.tmp 5), none, []⟩, ⟨some 14, .call 0 (.func 81) [(.tmp 13)], none, []⟩, ⟨some 7, .asg 0 (.tmp 14) 2, none, []⟩] false) (.seq (.seq (.region 2 [⟨some 15, .mov (.tmp 7), none, []⟩, ⟨some 16, .bin .eql 2 (.tmp 15) (.const (.int .i64 0)), none, []⟩] false) (.cond (.tmp 16) (.seq (.region 3 [⟨some 17, .build 24 [], none, []⟩, ⟨none, .store 24 (.tmp 6) (.tmp 17), none, []⟩] false) .ret) .skip)) (.seq (.region 4 [⟨some 18, .mov (.tmp 7), none, []⟩, ⟨some 19, .bin .sub 2 (.tmp 18) (.const (.int .i64 1)), none, []⟩, ⟨some 20, .indexAddr 24 (.tmp 4) (.tmp 19), none, []⟩, ⟨some 21, .load 5 (.tmp 20), none, []⟩, ⟨some 22, .conv 5 2 (.tmp 21), none, []⟩, ⟨some 23, .build 24 [], none, []⟩, ⟨some 9, .alloc 24, none, []⟩, ⟨some 8, .asg 0 (.tmp 22) 2, none, []⟩, ⟨none, .store 24 (.tmp 9) (.tmp 23), none, []⟩] false) (.seq (.seq (.region 5 [⟨some 10, .asg 0 (.const (.int .i64 1)) 2, none, []⟩] false) (.block 0 (.loop (.seq (.seq (.region 6 [⟨some 24, .mov (.tmp 10), none, []⟩, ⟨some 25, .mov (.tmp 7), none, []⟩, ⟨some 26, .bin .lss 2 (.tmp 24) (.tmp 25), none, []⟩] false) (.cond (.tmp 26) .skip (.exit 0))) (.seq (.block 1 (.region 8 [⟨some 29, .mov (.tmp 10), none, []⟩, ⟨some 30, .mov (.tmp 10), none, []⟩, ⟨some 31, .bin .sub 2 (.tmp 30) (.const (.int .i64 1)), none, []⟩, ⟨some 32, .indexAddr 24 (.tmp 4) (.tmp 31), none, []⟩, ⟨some 33, .load 5 (.tmp 32), none, []⟩, ⟨some 34, .indexAddr 24 (.tmp 9) (.tmp 29), none, []⟩, ⟨none, .store 5 (.tmp 34) (.tmp 33), none, []⟩] false)) (.region 7 [⟨some 27, .mov (.tmp 10), none, []⟩, ⟨some 28, .bin .add 2 (.tmp 27) (.const (.int .i64 1)), none, []⟩, ⟨some 10, .asg 0 (.tmp 28) 2, none, []⟩] false)))))) (.seq (.region 9 [⟨some 35, .mov (.tmp 8), none, []⟩, ⟨some 36, .mov (.tmp 0), none, []⟩, ⟨some 37, .mov (.tmp 7), none, []⟩, ⟨some 38, .indexAddr 24 (.tmp 5) (.tmp 37), none, []⟩, ⟨some 39, .load 5 (.tmp 38), none, []⟩, ⟨some 40, .call 0 (.func 104) [(.tmp 36), (.tmp 39)], none, []⟩, ⟨some 41, .conv 5 2 (.tmp 40), none, []⟩, ⟨some 42, .bin .mul 2 (.tmp 35) (.tmp 41), none, []⟩, ⟨some 43, .mov (.tmp 0), none, []⟩, ⟨some 44, .bin .rem 2 (.tmp 42) (.tmp 43), none, []⟩, ⟨some 11, .asg 0 (.tmp 44) 2, none, []⟩] false) (.seq (.seq (.region 10 [⟨some 12, .asg 0 (.const (.int .i64 0)) 2, none, []⟩] false) (.block 2 (.loop (.seq (.seq (.region 11 [⟨some 45, .mov (.tmp 12), none, []⟩, ⟨some 46, .mov (.tmp 7), none, []⟩, ⟨some 47, .bin .lss 2 (.tmp 45) (.tmp 46), none, []⟩] false) (.cond (.tmp 47) .skip (.exit 2))) (.seq (.block 3 (.region 13 [⟨some 50, .mov (.tmp 12), none, []⟩, ⟨some 51, .mov (.tmp 12), none, []⟩, ⟨some 52, .indexAddr 24 (.tmp 9) (.tmp 51), none, [1]⟩, ⟨some 53, .load 5 (.tmp 52), none, [2]⟩, ⟨some 54, .conv 5 2 (.tmp 53), none, [3]⟩, ⟨some 55, .mov (.tmp 11), none, []⟩, ⟨some 56, .mov (.tmp 12), none, []⟩, ⟨some 57, .indexAddr 24 (.tmp 5) (.tmp 56), none, [6]⟩, ⟨some 58, .load 5 (.tmp 57), none, [7]⟩, ⟨some 59, .conv 5 2 (.tmp 58), none, [8]⟩, ⟨some 60, .bin .mul 2 (.tmp 55) (.tmp 59), none, [5, 9]⟩, ⟨some 61, .bin .sub 2 (.tmp 54) (.tmp 60), none, [4, 10]⟩, ⟨some 62, .mov (.tmp 0), none, []⟩, ⟨some 63, .bin .rem 2 (.tmp 61) (.tmp 62), none, [11, 12]⟩, ⟨some 64, .mov (.tmp 0), none, []⟩, ⟨some 65, .bin .add 2 (.tmp 63) (.tmp 64), none, [13, 14]⟩, ⟨some 66, .mov (.tmp 0), none, []⟩, ⟨some 67, .bin .rem 2 (.tmp 65) (.tmp 66), none, [15, 16]⟩, ⟨some 68, .conv 2 5 (.tmp 67), none, [17]⟩, ⟨some 69, .indexAddr 24 (.tmp 9) (.tmp 50), none, [0, 0, 1, 2, 3, 4, 5, 6, 7, 8, 9, 10, 11, 12, 13, 14, 15, 16, 17, 18]⟩, ⟨none, .store 5 (.tmp 69) (.tmp 68), none, [19, 18, 0, 1, 2, 3, 4, 5, 6, 7, 8, 9, 10, 11, 12, 13, 14, 15, 16, 17, 18]⟩] true)) (.region 12 [⟨some 48, .mov (.tmp 12), none, []⟩, ⟨some 49, .bin .add 2 (.tmp 48) (.const (.int .i64 1)), none, []⟩, ⟨some 12, .asg 0 (.tmp 49) 2, none, []⟩] false)))))) (.seq (.region 14 [⟨some 70, .load 24 (.tmp 9), none, []⟩, ⟨none, .store 24 (.tmp 6) (.tmp 70), none, []⟩] false) .ret))))))))
def spec_l01Up_L : Live := [(0, [0, 1, 2]), (1, [0, 4, 5, 6]), (2, [0, 4, 5, 6, 7]), (3, [6]), (4, [0, 4, 5, 6, 7]), (5, [0, 4, 5, 6, 7, 8, 9]), (6, [0, 4, 5, 6, 7, 8, 9, 10]), (7, [0, 4, 5, 6, 7, 8, 9, 10]), (8, [0, 4, 5, 6, 7, 8, 9, 10]), (9, [0, 5, 6, 7, 8, 9]), (10, [0, 5, 6, 7, 9, 11]), (11, [0, 5, 6, 7, 9, 11, 12]), (12, [0, 5, 6, 7, 9, 11, 12]), (13, [0, 5, 6, 7, 9, 11, 12]), (14, [6, 9]), (100016, [0, 4, 5, 6, 7, 16]), (100026, [0, 4, 5, 6, 7, 8, 9, 10, 26]), (100047, [0, 5, 6, 7, 9, 11, 12, 47])]
theorem spec_l01Up_body : Try.f150.body = some (Try.f150.body.getD .skip) := by kernel_rfl
theorem spec_l01Up_strip : strip [] (Try.f150.body.getD .skip) = spec_l01Up_c := by kernel_rfl
noncomputable def spec_l01Up_l1 (r2 : Int) (a1 : (Vec Int 64)) (x40 : Int) (x41 : (Vec Int 64)) : Option ((Int × (Vec Int 64)) ⊕ (Vec Int 64)) :=
  (if (decide (x40 < r2)) then (ifp (0 ≤ IntKind.i64.wrap (x40 - 1) ∧ IntKind.i64.wrap (x40 - 1) < ((64 : Nat) : Int)) ((ifp (0 ≤ x40 ∧ x40 < ((64 : Nat) : Int)) ((some (.inl ((IntKind.i64.wrap (x40 + 1), (vset x41 x40.toNat ((rd a1.1 (IntKind.i64.wrap (x40 - 1)).toNat))))))))))) else (some (.inr x41)))
noncomputable def spec_l01Up_l2 (r2 : Int) (x7 : Int) (r58 : Int) (a0 : Int) (a2 : (Vec Int 64)) (x187 : Int) (x188 : (Vec Int 64)) : Option ((Int × (Vec Int 64)) ⊕ (Vec Int 64)) :=
  (if (decide (x187 < r2)) then (ifp (0 ≤ x187 ∧ x187 < ((64 : Nat) : Int)) ((ifp (0 ≤ x187 ∧ x187 < ((64 : Nat) : Int)) ((letp (IntKind.i64.wrap ((Int.tmod (IntKind.i64.wrap (x7 * (IntKind.i64.wrap r58))) a0) * (IntKind.i64.wrap (rd a2.1 x187.toNat)))) fun x240 => (letp (IntKind.i64.wrap ((IntKind.i64.wrap (rd x188.1 x187.toNat)) - x240)) fun x242 => (ifp (a0 ≠ 0) ((ifp (a0 ≠ 0) ((letp (IntKind.u8.wrap (Int.tmod (IntKind.i64.wrap ((Int.tmod x242 a0) + a0)) a0)) fun x246 => (ifp (0 ≤ x187 ∧ x187 < ((64 : Nat) : Int)) ((some (.inl ((IntKind.i64.wrap (x187 + 1), (vset x188 x187.toNat x246)))))))))))))))))) else (some (.inr x188)))
noncomputable def spec_l01Up (a0 : Int) (a1 : (Vec Int 64)) (a2 : (Vec Int 64)) : Option (Vec Int 64) :=
  (Option.bind (spec_l01Deg a2) fun r2 => (if (r2 == 0) then (some ((vrep 64 (0 : Int)))) else (ifp (0 ≤ IntKind.i64.wrap (r2 - 1) ∧ IntKind.i64.wrap (r2 - 1) < ((64 : Nat) : Int)) ((letp (IntKind.i64.wrap ((rd a1.1 (IntKind.i64.wrap (r2 - 1)).toNat))) fun x7 => (Option.bind (α := (Vec Int 64)) ((loopM (fun s : (Int × (Vec Int 64)) => spec_l01Up_l1 r2 a1 s.1 s.2) (1, (vrep 64 (0 : Int))))) fun x31 => (ifp (0 ≤ r2 ∧ r2 < ((64 : Nat) : Int)) ((Option.bind (spec_l01Inverse a0 (rd a2.1 r2.toNat)) fun r58 => (ifp (a0 ≠ 0) ((Option.bind (α := (Vec Int 64)) ((loopM (fun s : (Int × (Vec Int 64)) => spec_l01Up_l2 r2 x7 r58 a0 a2 s.1 s.2) (0, x31))) fun x154 => (some x154)))))))))))))
set_option maxHeartbeats 16000000 in
theorem spec_l01Up_ok (a0 : Int) (a1 : (Vec Int 64)) (a2 : (Vec Int 64)) (r : (Vec Int 64)) (h : spec_l01Up a0 a1 a2 = some r) : Den Try.prog 150 [(.int .i64 a0), (eA64u8 a1), (eA64u8 a2)] { r := (eA64u8 r) } := by
  refine den_of (rs := [(eA64u8 r)]) (ac := spec_l01Up_c) (L := spec_l01Up_L) (n := 71) (m := []) good Try.func150 spec_l01Up_body (by kernel_rfl) Try.ntmps150 rfl rfl spec_l01Up_strip rfl rfl ?_
  refine a_st (σ' := ⟨[(0, (.int .i64 a0)), (1, (eA64u8 a1)), (2, (eA64u8 a2))], []⟩) (by kernel_rfl) ?_
  unfold spec_l01Up_c
  refine a_seq ?_
  refine a_region ?_
  refine a_val (v := (.own 1400 [] [])) (u := [(1400, some ⟨(eA64u8 a1), false⟩)]) rfl trivial rfl ?_
  refine a_val (v := (.own 1500 [] [])) (u := [(1500, some ⟨(eA64u8 a2), false⟩)]) rfl trivial rfl ?_
  refine a_val (v := (.own 1600 [] [])) (u := [(1600, some ⟨(eA64u8 ((vrep 64 (0 : Int)))), false⟩)]) rfl trivial rfl ?_
  refine a_nil ?_
  refine a_next (σ' := ⟨[(0, (.int .i64 a0)), (4, (.own 4 [] [])), (5, (.own 5 [] [])), (6, (.own 6 [] []))], [(4, some ⟨(eA64u8 a1), false⟩), (5, some ⟨(eA64u8 a2), false⟩), (6, some ⟨(eA64u8 ((vrep 64 (0 : Int)))), false⟩)]⟩) (by kernel_rfl) ?_
  refine a_seq ?_
  refine a_region ?_
  have hl1 : LdOk [] (eA64u8 a2) [] 64 true (eA64u8 a2) := (.nil rfl rfl rfl)
  refine a_val (v := (eA64u8 a2)) (u := []) (ld_own (i := ⟨.arr 64 5, 64, 64, (eA64u8 (vrep 64 (0 : Int)))⟩) rfl rfl rfl hl1) hl1.c rfl ?_
  obtain ⟨r2, hr3, h⟩ := bind_some h
  refine a_call (args := [(eA64u8 a2)]) (u := []) (r := (.int .i64 r2)) rfl rfl (spec_l01Deg_ok a2 r2 hr3) rfl ?_
  refine a_val (v := (.int .i64 r2)) (u := []) rfl trivial rfl ?_
  refine a_nil ?_
  refine a_next (σ' := ⟨[(0, (.int .i64 a0)), (4, (.own 4 [] [])), (5, (.own 5 [] [])), (6, (.own 6 [] [])), (7, (.int .i64 r2))], [(4, some ⟨(eA64u8 a1), false⟩), (5, some ⟨(eA64u8 a2), false⟩), (6, some ⟨(eA64u8 ((vrep 64 (0 : Int)))), false⟩)]⟩) (by kernel_rfl) ?_
  refine a_seq ?_
  refine a_seq ?_
  refine a_region ?_
  refine a_val (v := (.int .i64 r2)) (u := []) rfl trivial rfl ?_
  refine a_val (v := (.bool (r2 == 0))) (u := []) rfl trivial rfl ?_
  refine a_nil ?_
  refine a_next (σ' := ⟨[(0, (.int .i64 a0)), (4, (.own 4 [] [])), (5, (.own 5 [] [])), (6, (.own 6 [] [])), (7, (.int .i64 r2)), (16, (.bool (r2 == 0)))], [(4, some ⟨(eA64u8 a1), false⟩), (5, some ⟨(eA64u8 a2), false⟩), (6, some ⟨(eA64u8 ((vrep 64 (0 : Int)))), false⟩)]⟩) (by kernel_rfl) ?_
  cases hb4 : (r2 == 0)
  · have h := ite_f hb4 h
    refine a_cond_f rfl ?_
    refine a_skip ?_
    refine a_next (σ' := ⟨[(0, (.int .i64 a0)), (4, (.own 4 [] [])), (5, (.own 5 [] [])), (6, (.own 6 [] [])), (7, (.int .i64 r2))], [(4, some ⟨(eA64u8 a1), false⟩), (5, some ⟨(eA64u8 a2), false⟩), (6, some ⟨(eA64u8 ((vrep 64 (0 : Int)))), false⟩)]⟩) (by kernel_rfl) ?_
    refine a_seq ?_
    refine a_region ?_
    refine a_val (v := (.int .i64 r2)) (u := []) rfl trivial rfl ?_
    refine a_val (v := (.int .i64 (IntKind.i64.wrap (r2 - 1)))) (u := []) rfl trivial rfl ?_
    obtain ⟨hc5, h⟩ := ifp_some h
    refine a_val (v := (.own 4 [(IntKind.i64.wrap (r2 - 1)).toNat] [(IntKind.i64.wrap (r2 - 1)).toNat * 1])) (u := []) rfl hc5 rfl ?_
    have hl6 : LdOk [(IntKind.i64.wrap (r2 - 1)).toNat] (eA64u8 a1) [(IntKind.i64.wrap (r2 - 1)).toNat * 1] 1 false (.int .u8 ((rd a1.1 (IntKind.i64.wrap (r2 - 1)).toNat))) := (.arr (vlt a1 hc5) rfl (.nil rfl rfl rfl))
    refine a_val (v := (.int .u8 ((rd a1.1 (IntKind.i64.wrap (r2 - 1)).toNat)))) (u := []) (ld_own (i := ⟨.int .u8, 1, 1, (.int .u8 0)⟩) rfl rfl rfl hl6) hl6.c rfl ?_
    obtain ⟨x7, hx8, h⟩ := letp_some h
    refine a_val' (v := (.int .i64 (IntKind.i64.wrap ((rd a1.1 (IntKind.i64.wrap (r2 - 1)).toNat))))) (v' := (.int .i64 x7)) (u := []) (u' := []) rfl (congrArg (fun z => ((.int .i64 z) : AV)) hx8) rfl trivial rfl ?_
    refine a_val (v := (eA64u8 ((vrep 64 (0 : Int))))) (u := []) rfl ⟨⟨_, rfl, rfl⟩, all_nil⟩ rfl ?_
    refine a_val (v := (.own 1900 [] [])) (u := [(1900, some ⟨(eA64u8 ((vrep 64 (0 : Int)))), false⟩)]) rfl trivial rfl ?_
    refine a_val (v := (.int .i64 x7)) (u := []) rfl trivial rfl ?_
    have hs9 : StOk [] (eA64u8 ((vrep 64 (0 : Int)))) [] 64 (eA64u8 ((vrep 64 (0 : Int)))) (eA64u8 ((vrep 64 (0 : Int)))) := (.nil rfl rfl rfl rfl)
    refine a_val (v := .top) (u := [(1900, some ⟨(eA64u8 ((vrep 64 (0 : Int)))), false⟩)]) (st_own (i := ⟨.arr 64 5, 64, 64, (eA64u8 (vrep 64 (0 : Int)))⟩) rfl rfl (fun _ => rfl) rfl hs9) (hs9.c rfl) rfl ?_
    refine a_nil ?_
    refine a_next (σ' := ⟨[(0, (.int .i64 a0)), (4, (.own 4 [] [])), (5, (.own 5 [] [])), (6, (.own 6 [] [])), (7, (.int .i64 r2)), (8, (.int .i64 x7)), (9, (.own 9 [] []))], [(4, some ⟨(eA64u8 a1), false⟩), (5, some ⟨(eA64u8 a2), false⟩), (6, some ⟨(eA64u8 ((vrep 64 (0 : Int)))), false⟩), (9, some ⟨(eA64u8 ((vrep 64 (0 : Int)))), false⟩)]⟩) (by kernel_rfl) ?_
    obtain ⟨y32, hy33, hk34⟩ := bind_some h
    clear h
    refine a_join (emb := fun (s : (Vec Int 64)) => ⟨[(0, (.int .i64 a0)), (5, (.own 5 [] [])), (6, (.own 6 [] [])), (7, (.int .i64 r2)), (8, (.int .i64 x7)), (9, (.own 9 [] []))], [(5, some ⟨(eA64u8 a2), false⟩), (6, some ⟨(eA64u8 ((vrep 64 (0 : Int)))), false⟩), (9, some ⟨(eA64u8 s), false⟩)]⟩) (pre := fun s => s = y32) ?_ ?_
    · rintro x31 rfl
      have h := hk34
      refine a_st (σ' := ⟨[(0, (.int .i64 a0)), (5, (.own 5 [] [])), (6, (.own 6 [] [])), (7, (.int .i64 r2)), (8, (.int .i64 x7)), (9, (.own 9 [] []))], [(5, some ⟨(eA64u8 a2), false⟩), (6, some ⟨(eA64u8 ((vrep 64 (0 : Int)))), false⟩), (9, some ⟨(eA64u8 x31), false⟩)]⟩) (by kernel_rfl) ?_
      refine a_seq ?_
      refine a_region ?_
      refine a_val (v := (.int .i64 x7)) (u := []) rfl trivial rfl ?_
      refine a_val (v := (.int .i64 a0)) (u := []) rfl trivial rfl ?_
      refine a_val (v := (.int .i64 r2)) (u := []) rfl trivial rfl ?_
      obtain ⟨hc56, h⟩ := ifp_some h
      refine a_val (v := (.own 5 [r2.toNat] [r2.toNat * 1])) (u := []) rfl hc56 rfl ?_
      have hl57 : LdOk [r2.toNat] (eA64u8 a2) [r2.toNat * 1] 1 false (.int .u8 (rd a2.1 r2.toNat)) := (.arr (vlt a2 hc56) rfl (.nil rfl rfl rfl))
      refine a_val (v := (.int .u8 (rd a2.1 r2.toNat))) (u := []) (ld_own (i := ⟨.int .u8, 1, 1, (.int .u8 0)⟩) rfl rfl rfl hl57) hl57.c rfl ?_
      obtain ⟨r58, hr59, h⟩ := bind_some h
      refine a_call (args := [(.int .i64 a0), (.int .u8 (rd a2.1 r2.toNat))]) (u := []) (r := (.int .u8 r58)) rfl rfl (spec_l01Inverse_ok a0 (rd a2.1 r2.toNat) r58 hr59) rfl ?_
      refine a_val (v := (.int .i64 (IntKind.i64.wrap r58))) (u := []) rfl trivial rfl ?_
      refine a_val (v := (.int .i64 (IntKind.i64.wrap (x7 * (IntKind.i64.wrap r58))))) (u := []) rfl trivial rfl ?_
      refine a_val (v := (.int .i64 a0)) (u := []) rfl trivial rfl ?_
      obtain ⟨hc60, h⟩ := ifp_some h
      refine a_val (v := (.int .i64 (Int.tmod (IntKind.i64.wrap (x7 * (IntKind.i64.wrap r58))) a0))) (u := []) rfl hc60 rfl ?_
      refine a_val (v := (.int .i64 (Int.tmod (IntKind.i64.wrap (x7 * (IntKind.i64.wrap r58))) a0))) (u := []) rfl trivial rfl ?_
      refine a_nil ?_
      refine a_next (σ' := ⟨[(0, (.int .i64 a0)), (5, (.own 5 [] [])), (6, (.own 6 [] [])), (7, (.int .i64 r2)), (9, (.own 9 [] [])), (11, (.int .i64 (Int.tmod (IntKind.i64.wrap (x7 * (IntKind.i64.wrap r58))) a0)))], [(5, some ⟨(eA64u8 a2), false⟩), (6, some ⟨(eA64u8 ((vrep 64 (0 : Int)))), false⟩), (9, some ⟨(eA64u8 x31), false⟩)]⟩) (by kernel_rfl) ?_
      obtain ⟨y155, hy156, hk157⟩ := bind_some h
      clear h
      refine a_join (emb := fun (s : (Vec Int 64)) => ⟨[(6, (.own 6 [] [])), (9, (.own 9 [] []))], [(6, some ⟨(eA64u8 ((vrep 64 (0 : Int)))), false⟩), (9, some ⟨(eA64u8 s), false⟩)]⟩) (pre := fun s => s = y155) ?_ ?_
      · rintro x154 rfl
        have h := hk157
        refine a_st (σ' := ⟨[(6, (.own 6 [] [])), (9, (.own 9 [] []))], [(6, some ⟨(eA64u8 ((vrep 64 (0 : Int)))), false⟩), (9, some ⟨(eA64u8 x154), false⟩)]⟩) (by kernel_rfl) ?_
        refine a_seq ?_
        refine a_region ?_
        have hl251 : LdOk [] (eA64u8 x154) [] 64 true (eA64u8 x154) := (.nil rfl rfl rfl)
        refine a_val (v := (eA64u8 x154)) (u := []) (ld_own (i := ⟨.arr 64 5, 64, 64, (eA64u8 (vrep 64 (0 : Int)))⟩) rfl rfl rfl hl251) hl251.c rfl ?_
        have hs252 : StOk [] (eA64u8 ((vrep 64 (0 : Int)))) [] 64 (eA64u8 x154) (eA64u8 x154) := (.nil rfl rfl rfl rfl)
        refine a_val (v := .top) (u := [(6, some ⟨(eA64u8 x154), false⟩)]) (st_own (i := ⟨.arr 64 5, 64, 64, (eA64u8 (vrep 64 (0 : Int)))⟩) rfl rfl (fun _ => rfl) rfl hs252) (hs252.c rfl) rfl ?_
        refine a_nil ?_
        refine a_next rfl ?_
        refine a_ret ?_
        have hl253 : LdOk [] (eA64u8 x154) [] 64 true (eA64u8 x154) := (.nil rfl rfl rfl)
        refine ⟨.inr rfl, ?_⟩
        rw [Try.results150]
        cases h
        exact ⟨_, _, _, _, _, ld_own (i := ⟨.arr 64 5, 64, 64, (eA64u8 (vrep 64 (0 : Int)))⟩) rfl rfl rfl hl253, hl253.c, .inl ⟨rfl, .inl rfl⟩, rfl, rfl⟩
      · have h := hy156
        refine a_seq ?_
        refine a_region ?_
        refine a_val (v := (.int .i64 0)) (u := []) rfl trivial rfl ?_
        refine a_nil ?_
        refine a_next (σ' := ⟨[(0, (.int .i64 a0)), (5, (.own 5 [] [])), (6, (.own 6 [] [])), (7, (.int .i64 r2)), (9, (.own 9 [] [])), (11, (.int .i64 (Int.tmod (IntKind.i64.wrap (x7 * (IntKind.i64.wrap r58))) a0))), (12, (.int .i64 0))], [(5, some ⟨(eA64u8 a2), false⟩), (6, some ⟨(eA64u8 ((vrep 64 (0 : Int)))), false⟩), (9, some ⟨(eA64u8 x31), false⟩)]⟩) (by kernel_rfl) ?_
        refine a_block ?_
        refine a_loop (emb := fun (s : (Int × (Vec Int 64))) => ⟨[(0, (.int .i64 a0)), (5, (.own 5 [] [])), (6, (.own 6 [] [])), (7, (.int .i64 r2)), (9, (.own 9 [] [])), (11, (.int .i64 (Int.tmod (IntKind.i64.wrap (x7 * (IntKind.i64.wrap r58))) a0))), (12, (.int .i64 s.1))], [(5, some ⟨(eA64u8 a2), false⟩), (6, some ⟨(eA64u8 ((vrep 64 (0 : Int)))), false⟩), (9, some ⟨(eA64u8 s.2), false⟩)]⟩) (body := (fun s : (Int × (Vec Int 64)) => spec_l01Up_l2 r2 x7 r58 a0 a2 s.1 s.2)) (G := fun q => some q = some y155) h rfl ?_ (by kernel_rfl)
        rintro X218 ⟨x187, x188⟩ x219 h hX220
        have h : spec_l01Up_l2 r2 x7 r58 a0 a2 x187 x188 = some x219 := h
        refine a_st (σ' := ⟨[(0, (.int .i64 a0)), (5, (.own 5 [] [])), (6, (.own 6 [] [])), (7, (.int .i64 r2)), (9, (.own 9 [] [])), (11, (.int .i64 (Int.tmod (IntKind.i64.wrap (x7 * (IntKind.i64.wrap r58))) a0))), (12, (.int .i64 x187))], [(5, some ⟨(eA64u8 a2), false⟩), (6, some ⟨(eA64u8 ((vrep 64 (0 : Int)))), false⟩), (9, some ⟨(eA64u8 x188), false⟩)]⟩) (by kernel_rfl) ?_
        refine a_seq ?_
        refine a_seq ?_
        refine a_region ?_
        refine a_val (v := (.int .i64 x187)) (u := []) rfl trivial rfl ?_
        refine a_val (v := (.int .i64 r2)) (u := []) rfl trivial rfl ?_
        refine a_val (v := (.bool ((decide (x187 < r2))))) (u := []) rfl trivial rfl ?_
        refine a_nil ?_
        refine a_next (σ' := ⟨[(0, (.int .i64 a0)), (5, (.own 5 [] [])), (6, (.own 6 [] [])), (7, (.int .i64 r2)), (9, (.own 9 [] [])), (11, (.int .i64 (Int.tmod (IntKind.i64.wrap (x7 * (IntKind.i64.wrap r58))) a0))), (12, (.int .i64 x187)), (47, (.bool ((decide (x187 < r2)))))], [(5, some ⟨(eA64u8 a2), false⟩), (6, some ⟨(eA64u8 ((vrep 64 (0 : Int)))), false⟩), (9, some ⟨(eA64u8 x188), false⟩)]⟩) (by kernel_rfl) ?_
        cases hb221 : (decide (x187 < r2))
        · have h := ite_f hb221 h
          refine a_cond_f rfl ?_
          refine a_exit ?_
          refine t_exit ?_
          cases h
          have h := hX220
          refine t_exit ?_
          refine b_exit ?_
          exact j_leaf x188 (Option.some.inj h) (by kernel_rfl)
        · have h := ite_t hb221 h
          refine a_cond_t rfl ?_
          refine a_skip ?_
          refine a_next (σ' := ⟨[(0, (.int .i64 a0)), (5, (.own 5 [] [])), (6, (.own 6 [] [])), (7, (.int .i64 r2)), (9, (.own 9 [] [])), (11, (.int .i64 (Int.tmod (IntKind.i64.wrap (x7 * (IntKind.i64.wrap r58))) a0))), (12, (.int .i64 x187))], [(5, some ⟨(eA64u8 a2), false⟩), (6, some ⟨(eA64u8 ((vrep 64 (0 : Int)))), false⟩), (9, some ⟨(eA64u8 x188), false⟩)]⟩) (by kernel_rfl) ?_
          refine a_seq ?_
          refine a_block ?_
          refine a_draw [⟨[], [], [], []⟩, ⟨[], [], [], []⟩, ⟨[9], [], [9], [1]⟩, ⟨[9], [], [], [1, 2]⟩, ⟨[], [], [], [1, 2, 3]⟩, ⟨[], [], [], []⟩, ⟨[], [], [], []⟩, ⟨[5], [], [5], [6]⟩, ⟨[5], [], [], [6, 7]⟩, ⟨[], [], [], [6, 7, 8]⟩, ⟨[], [], [], [5, 6, 7, 8, 9]⟩, ⟨[], [], [], [1, 2, 3, 4, 5, 6, 7, 8, 9, 10]⟩, ⟨[], [], [], []⟩, ⟨[], [], [], [1, 2, 3, 4, 5, 6, 7, 8, 9, 10, 11, 12]⟩, ⟨[], [], [], []⟩, ⟨[], [], [], [1, 2, 3, 4, 5, 6, 7, 8, 9, 10, 11, 12, 13, 14]⟩, ⟨[], [], [], []⟩, ⟨[], [], [], [1, 2, 3, 4, 5, 6, 7, 8, 9, 10, 11, 12, 13, 14, 15, 16]⟩, ⟨[], [], [], [1, 2, 3, 4, 5, 6, 7, 8, 9, 10, 11, 12, 13, 14, 15, 16, 17]⟩, ⟨[9], [], [9], [0, 1, 2, 3, 4, 5, 6, 7, 8, 9, 10, 11, 12, 13, 14, 15, 16, 17, 18]⟩, ⟨[9], [9], [], [0, 1, 2, 3, 4, 5, 6, 7, 8, 9, 10, 11, 12, 13, 14, 15, 16, 17, 18, 19]⟩] (by kernel_rfl) ?_
          refine d_cons ?_
          refine a_val (v := (.int .i64 x187)) (u := []) rfl trivial rfl ?_
          refine d_next (by kernel_rfl) ?_
          refine d_cons ?_
          refine a_val (v := (.int .i64 x187)) (u := []) rfl trivial rfl ?_
          refine d_next (by kernel_rfl) ?_
          refine d_cons ?_
          obtain ⟨hc236, h⟩ := ifp_some h
          refine a_val (v := (.own 9 [x187.toNat] [x187.toNat * 1])) (u := []) rfl hc236 rfl ?_
          refine d_next (by kernel_rfl) ?_
          refine d_cons ?_
          have hl237 : LdOk [x187.toNat] (eA64u8 x188) [x187.toNat * 1] 1 false (.int .u8 (rd x188.1 x187.toNat)) := (.arr (vlt x188 hc236) rfl (.nil rfl rfl rfl))
          refine a_val (v := (.int .u8 (rd x188.1 x187.toNat))) (u := []) (ld_own (i := ⟨.int .u8, 1, 1, (.int .u8 0)⟩) rfl rfl rfl hl237) hl237.c rfl ?_
          refine d_next (by kernel_rfl) ?_
          refine d_cons ?_
          refine a_val (v := (.int .i64 (IntKind.i64.wrap (rd x188.1 x187.toNat)))) (u := []) rfl trivial rfl ?_
          refine d_next (by kernel_rfl) ?_
          refine d_cons ?_
          refine a_val (v := (.int .i64 (Int.tmod (IntKind.i64.wrap (x7 * (IntKind.i64.wrap r58))) a0))) (u := []) rfl trivial rfl ?_
          refine d_next (by kernel_rfl) ?_
          refine d_cons ?_
          refine a_val (v := (.int .i64 x187)) (u := []) rfl trivial rfl ?_
          refine d_next (by kernel_rfl) ?_
          refine d_cons ?_
          obtain ⟨hc238, h⟩ := ifp_some h
          refine a_val (v := (.own 5 [x187.toNat] [x187.toNat * 1])) (u := []) rfl hc238 rfl ?_
          refine d_next (by kernel_rfl) ?_
          refine d_cons ?_
          have hl239 : LdOk [x187.toNat] (eA64u8 a2) [x187.toNat * 1] 1 false (.int .u8 (rd a2.1 x187.toNat)) := (.arr (vlt a2 hc238) rfl (.nil rfl rfl rfl))
          refine a_val (v := (.int .u8 (rd a2.1 x187.toNat))) (u := []) (ld_own (i := ⟨.int .u8, 1, 1, (.int .u8 0)⟩) rfl rfl rfl hl239) hl239.c rfl ?_
          refine d_next (by kernel_rfl) ?_
          refine d_cons ?_
          refine a_val (v := (.int .i64 (IntKind.i64.wrap (rd a2.1 x187.toNat)))) (u := []) rfl trivial rfl ?_
          refine d_next (by kernel_rfl) ?_
          refine d_cons ?_
          obtain ⟨x240, hx241, h⟩ := letp_some h
          refine a_val' (v := (.int .i64 (IntKind.i64.wrap ((Int.tmod (IntKind.i64.wrap (x7 * (IntKind.i64.wrap r58))) a0) * (IntKind.i64.wrap (rd a2.1 x187.toNat)))))) (v' := (.int .i64 x240)) (u := []) (u' := []) rfl (congrArg (fun z => ((.int .i64 z) : AV)) hx241) rfl trivial rfl ?_
          refine d_next (by kernel_rfl) ?_
          refine d_cons ?_
          obtain ⟨x242, hx243, h⟩ := letp_some h
          refine a_val' (v := (.int .i64 (IntKind.i64.wrap ((IntKind.i64.wrap (rd x188.1 x187.toNat)) - x240)))) (v' := (.int .i64 x242)) (u := []) (u' := []) rfl (congrArg (fun z => ((.int .i64 z) : AV)) hx243) rfl trivial rfl ?_
          refine d_next (by kernel_rfl) ?_
          refine d_cons ?_
          refine a_val (v := (.int .i64 a0)) (u := []) rfl trivial rfl ?_
          refine d_next (by kernel_rfl) ?_
          refine d_cons ?_
          obtain ⟨hc244, h⟩ := ifp_some h
          refine a_val (v := (.int .i64 (Int.tmod x242 a0))) (u := []) rfl hc244 rfl ?_
          refine d_next (by kernel_rfl) ?_
          refine d_cons ?_
          refine a_val (v := (.int .i64 a0)) (u := []) rfl trivial rfl ?_
          refine d_next (by kernel_rfl) ?_
          refine d_cons ?_
          refine a_val (v := (.int .i64 (IntKind.i64.wrap ((Int.tmod x242 a0) + a0)))) (u := []) rfl trivial rfl ?_
          refine d_next (by kernel_rfl) ?_
          refine d_cons ?_
          refine a_val (v := (.int .i64 a0)) (u := []) rfl trivial rfl ?_
          refine d_next (by kernel_rfl) ?_
          refine d_cons ?_
          obtain ⟨hc245, h⟩ := ifp_some h
          refine a_val (v := (.int .i64 (Int.tmod (IntKind.i64.wrap ((Int.tmod x242 a0) + a0)) a0))) (u := []) rfl hc245 rfl ?_
          refine d_next (by kernel_rfl) ?_
          refine d_cons ?_
          obtain ⟨x246, hx247, h⟩ := letp_some h
          refine a_val' (v := (.int .u8 (IntKind.u8.wrap (Int.tmod (IntKind.i64.wrap ((Int.tmod x242 a0) + a0)) a0)))) (v' := (.int .u8 x246)) (u := []) (u' := []) rfl (congrArg (fun z => ((.int .u8 z) : AV)) hx247) rfl trivial rfl ?_
          refine d_next (by kernel_rfl) ?_
          refine d_cons ?_
          obtain ⟨hc248, h⟩ := ifp_some h
          refine a_val (v := (.own 9 [x187.toNat] [x187.toNat * 1])) (u := []) rfl hc248 rfl ?_
          refine d_next (by kernel_rfl) ?_
          refine d_cons ?_
          have hs249 : StOk [x187.toNat] (eA64u8 x188) [x187.toNat * 1] 1 (.int .u8 x246) (eA64u8 (vset x188 x187.toNat x246)) := (.arr (y := x246) (vlt x188 hc248) rfl (.nil rfl rfl rfl rfl))
          refine a_val (v := .top) (u := [(9, some ⟨(eA64u8 (vset x188 x187.toNat x246)), false⟩)]) (st_own (i := ⟨.int .u8, 1, 1, (.int .u8 0)⟩) rfl rfl (fun _ => rfl) rfl hs249) (hs249.c rfl) rfl ?_
          refine d_next (by kernel_rfl) ?_
          refine d_nil ?_
          refine b_norm ?_
          refine a_next (σ' := ⟨[(0, (.int .i64 a0)), (5, (.own 5 [] [])), (6, (.own 6 [] [])), (7, (.int .i64 r2)), (9, (.own 9 [] [])), (11, (.int .i64 (Int.tmod (IntKind.i64.wrap (x7 * (IntKind.i64.wrap r58))) a0))), (12, (.int .i64 x187))], [(5, some ⟨(eA64u8 a2), false⟩), (6, some ⟨(eA64u8 ((vrep 64 (0 : Int)))), false⟩), (9, some ⟨(eA64u8 (vset x188 x187.toNat x246)), false⟩)]⟩) (by kernel_rfl) ?_
          refine a_region ?_
          refine a_val (v := (.int .i64 x187)) (u := []) rfl trivial rfl ?_
          refine a_val (v := (.int .i64 (IntKind.i64.wrap (x187 + 1)))) (u := []) rfl trivial rfl ?_
          refine a_val (v := (.int .i64 (IntKind.i64.wrap (x187 + 1)))) (u := []) rfl trivial rfl ?_
          refine a_nil ?_
          cases h
          exact a_again (by kernel_rfl) hX220
    · have h := hy33
      refine a_seq ?_
      refine a_region ?_
      refine a_val (v := (.int .i64 1)) (u := []) rfl trivial rfl ?_
      refine a_nil ?_
      refine a_next (σ' := ⟨[(0, (.int .i64 a0)), (4, (.own 4 [] [])), (5, (.own 5 [] [])), (6, (.own 6 [] [])), (7, (.int .i64 r2)), (8, (.int .i64 x7)), (9, (.own 9 [] [])), (10, (.int .i64 1))], [(4, some ⟨(eA64u8 a1), false⟩), (5, some ⟨(eA64u8 a2), false⟩), (6, some ⟨(eA64u8 ((vrep 64 (0 : Int)))), false⟩), (9, some ⟨(eA64u8 ((vrep 64 (0 : Int)))), false⟩)]⟩) (by kernel_rfl) ?_
      refine a_block ?_
      refine a_loop (emb := fun (s : (Int × (Vec Int 64))) => ⟨[(0, (.int .i64 a0)), (4, (.own 4 [] [])), (5, (.own 5 [] [])), (6, (.own 6 [] [])), (7, (.int .i64 r2)), (8, (.int .i64 x7)), (9, (.own 9 [] [])), (10, (.int .i64 s.1))], [(4, some ⟨(eA64u8 a1), false⟩), (5, some ⟨(eA64u8 a2), false⟩), (6, some ⟨(eA64u8 ((vrep 64 (0 : Int)))), false⟩), (9, some ⟨(eA64u8 s.2), false⟩)]⟩) (body := (fun s : (Int × (Vec Int 64)) => spec_l01Up_l1 r2 a1 s.1 s.2)) (G := fun q => some q = some y32) h rfl ?_ (by kernel_rfl)
      rintro X47 ⟨x40, x41⟩ x48 h hX49
      have h : spec_l01Up_l1 r2 a1 x40 x41 = some x48 := h
      refine a_st (σ' := ⟨[(0, (.int .i64 a0)), (4, (.own 4 [] [])), (5, (.own 5 [] [])), (6, (.own 6 [] [])), (7, (.int .i64 r2)), (8, (.int .i64 x7)), (9, (.own 9 [] [])), (10, (.int .i64 x40))], [(4, some ⟨(eA64u8 a1), false⟩), (5, some ⟨(eA64u8 a2), false⟩), (6, some ⟨(eA64u8 ((vrep 64 (0 : Int)))), false⟩), (9, some ⟨(eA64u8 x41), false⟩)]⟩) (by kernel_rfl) ?_
      refine a_seq ?_
      refine a_seq ?_
      refine a_region ?_
      refine a_val (v := (.int .i64 x40)) (u := []) rfl trivial rfl ?_
      refine a_val (v := (.int .i64 r2)) (u := []) rfl trivial rfl ?_
      refine a_val (v := (.bool ((decide (x40 < r2))))) (u := []) rfl trivial rfl ?_
      refine a_nil ?_
      refine a_next (σ' := ⟨[(0, (.int .i64 a0)), (4, (.own 4 [] [])), (5, (.own 5 [] [])), (6, (.own 6 [] [])), (7, (.int .i64 r2)), (8, (.int .i64 x7)), (9, (.own 9 [] [])), (10, (.int .i64 x40)), (26, (.bool ((decide (x40 < r2)))))], [(4, some ⟨(eA64u8 a1), false⟩), (5, some ⟨(eA64u8 a2), false⟩), (6, some ⟨(eA64u8 ((vrep 64 (0 : Int)))), false⟩), (9, some ⟨(eA64u8 x41), false⟩)]⟩) (by kernel_rfl) ?_
      cases hb50 : (decide (x40 < r2))
      · have h := ite_f hb50 h
        refine a_cond_f rfl ?_
        refine a_exit ?_
        refine t_exit ?_
        cases h
        have h := hX49
        refine t_exit ?_
        refine b_exit ?_
        exact j_leaf x41 (Option.some.inj h) (by kernel_rfl)
      · have h := ite_t hb50 h
        refine a_cond_t rfl ?_
        refine a_skip ?_
        refine a_next (σ' := ⟨[(0, (.int .i64 a0)), (4, (.own 4 [] [])), (5, (.own 5 [] [])), (6, (.own 6 [] [])), (7, (.int .i64 r2)), (8, (.int .i64 x7)), (9, (.own 9 [] [])), (10, (.int .i64 x40))], [(4, some ⟨(eA64u8 a1), false⟩), (5, some ⟨(eA64u8 a2), false⟩), (6, some ⟨(eA64u8 ((vrep 64 (0 : Int)))), false⟩), (9, some ⟨(eA64u8 x41), false⟩)]⟩) (by kernel_rfl) ?_
        refine a_seq ?_
        refine a_block ?_
        refine a_region ?_
        refine a_val (v := (.int .i64 x40)) (u := []) rfl trivial rfl ?_
        refine a_val (v := (.int .i64 x40)) (u := []) rfl trivial rfl ?_
        refine a_val (v := (.int .i64 (IntKind.i64.wrap (x40 - 1)))) (u := []) rfl trivial rfl ?_
        obtain ⟨hc51, h⟩ := ifp_some h
        refine a_val (v := (.own 4 [(IntKind.i64.wrap (x40 - 1)).toNat] [(IntKind.i64.wrap (x40 - 1)).toNat * 1])) (u := []) rfl hc51 rfl ?_
        have hl52 : LdOk [(IntKind.i64.wrap (x40 - 1)).toNat] (eA64u8 a1) [(IntKind.i64.wrap (x40 - 1)).toNat * 1] 1 false (.int .u8 ((rd a1.1 (IntKind.i64.wrap (x40 - 1)).toNat))) := (.arr (vlt a1 hc51) rfl (.nil rfl rfl rfl))
        refine a_val (v := (.int .u8 ((rd a1.1 (IntKind.i64.wrap (x40 - 1)).toNat)))) (u := []) (ld_own (i := ⟨.int .u8, 1, 1, (.int .u8 0)⟩) rfl rfl rfl hl52) hl52.c rfl ?_
        obtain ⟨hc53, h⟩ := ifp_some h
        refine a_val (v := (.own 9 [x40.toNat] [x40.toNat * 1])) (u := []) rfl hc53 rfl ?_
        have hs54 : StOk [x40.toNat] (eA64u8 x41) [x40.toNat * 1] 1 (.int .u8 ((rd a1.1 (IntKind.i64.wrap (x40 - 1)).toNat))) (eA64u8 ((vset x41 x40.toNat ((rd a1.1 (IntKind.i64.wrap (x40 - 1)).toNat))))) := (.arr (y := (rd a1.1 (IntKind.i64.wrap (x40 - 1)).toNat)) (vlt x41 hc53) rfl (.nil rfl rfl rfl rfl))
        refine a_val (v := .top) (u := [(9, some ⟨(eA64u8 ((vset x41 x40.toNat ((rd a1.1 (IntKind.i64.wrap (x40 - 1)).toNat))))), false⟩)]) (st_own (i := ⟨.int .u8, 1, 1, (.int .u8 0)⟩) rfl rfl (fun _ => rfl) rfl hs54) (hs54.c rfl) rfl ?_
        refine a_nil ?_
        refine b_norm ?_
        refine a_next (σ' := ⟨[(0, (.int .i64 a0)), (4, (.own 4 [] [])), (5, (.own 5 [] [])), (6, (.own 6 [] [])), (7, (.int .i64 r2)), (8, (.int .i64 x7)), (9, (.own 9 [] [])), (10, (.int .i64 x40))], [(4, some ⟨(eA64u8 a1), false⟩), (5, some ⟨(eA64u8 a2), false⟩), (6, some ⟨(eA64u8 ((vrep 64 (0 : Int)))), false⟩), (9, some ⟨(eA64u8 ((vset x41 x40.toNat ((rd a1.1 (IntKind.i64.wrap (x40 - 1)).toNat))))), false⟩)]⟩) (by kernel_rfl) ?_
        refine a_region ?_
        refine a_val (v := (.int .i64 x40)) (u := []) rfl trivial rfl ?_
        refine a_val (v := (.int .i64 (IntKind.i64.wrap (x40 + 1)))) (u := []) rfl trivial rfl ?_
        refine a_val (v := (.int .i64 (IntKind.i64.wrap (x40 + 1)))) (u := []) rfl trivial rfl ?_
        refine a_nil ?_
        cases h
        exact a_again (by kernel_rfl) hX49
  · have h := ite_t hb4 h
    refine a_cond_t rfl ?_
    refine a_seq ?_
    refine a_region ?_
    refine a_val (v := (eA64u8 ((vrep 64 (0 : Int))))) (u := []) rfl ⟨⟨_, rfl, rfl⟩, all_nil⟩ rfl ?_
    have hs254 : StOk [] (eA64u8 ((vrep 64 (0 : Int)))) [] 64 (eA64u8 ((vrep 64 (0 : Int)))) (eA64u8 ((vrep 64 (0 : Int)))) := (.nil rfl rfl rfl rfl)
    refine a_val (v := .top) (u := [(6, some ⟨(eA64u8 ((vrep 64 (0 : Int)))), false⟩)]) (st_own (i := ⟨.arr 64 5, 64, 64, (eA64u8 (vrep 64 (0 : Int)))⟩) rfl rfl (fun _ => rfl) rfl hs254) (hs254.c rfl) rfl ?_
    refine a_nil ?_
    refine a_next rfl ?_
    refine a_ret ?_
    refine t_ret ?_
    have hl255 : LdOk [] (eA64u8 ((vrep 64 (0 : Int)))) [] 64 true (eA64u8 ((vrep 64 (0 : Int)))) := (.nil rfl rfl rfl)
    refine ⟨.inr rfl, ?_⟩
    rw [Try.results150]
    cases h
    exact ⟨_, _, _, _, _, ld_own (i := ⟨.arr 64 5, 64, 64, (eA64u8 (vrep 64 (0 : Int)))⟩) rfl rfl rfl hl255, hl255.c, .inl ⟨rfl, .inl rfl⟩, rfl, rfl⟩
def spec_l01Add_c : ACode := (.seq (.region 0 [⟨some 5, .box 24 (.tmp 1), none, []⟩, ⟨some 6, .box 24 (.tmp 2), none, []⟩, ⟨some 8, .alloc 24, none, []⟩] false) (.seq (.seq (.region 1 [⟨some 9, .asg 0 (.const (.int .i64 0)) 3, none, []⟩] false) (.block 0 (.loop (.seq (.seq (.region 2 [⟨some 10, .mov (.tmp 9), none, []⟩, ⟨some 11, .bin .lss 3 (.tmp 10) (.const (.int .i64 64)), none, []⟩] false) (.cond (.tmp 11) .skip (.exit 0))) (.seq (.block 1 (.region 4 [⟨some 14, .mov (.tmp 9), none, []⟩, ⟨some 15, .mov (.tmp 9), none, []⟩, ⟨some 16, .indexAddr 24 (.tmp 5) (.tmp 15), none, [1]⟩, ⟨some 17, .load 5 (.tmp 16), none, [2]⟩, ⟨some 18, .conv 5 2 (.tmp 17), none, [3]⟩, ⟨some 19, .mov (.tmp 3), none, []⟩, ⟨some 20, .mov (.tmp 9), none, []⟩, ⟨some 21, .indexAddr 24 (.tmp 6) (.tmp 20), none, [6]⟩, ⟨some 22, .load 5 (.tmp 21), none, [7]⟩, ⟨some 23, .conv 5 2 (.tmp 22), none, [8]⟩, ⟨some 24, .bin .mul 2 (.tmp 19) (.tmp 23), none, [5, 9]⟩, ⟨some 25, .bin .add 2 (.tmp 18) (.tmp 24), none, [4, 10]⟩, ⟨some 26, .mov (.tmp 0), none, []⟩, ⟨some 27, .bin .rem 2 (.tmp 25) (.tmp 26), none, [11, 12]⟩, ⟨some 28, .mov (.tmp 0), none, []⟩, ⟨some 29, .bin .add 2 (.tmp 27) (.tmp 28), none, [13, 14]⟩, ⟨some 30, .mov (.tmp 0), none, []⟩, ⟨some 31, .bin .rem 2 (.tmp 29) (.tmp 30), none, [15, 16]⟩, ⟨some 32, .conv 2 5 (.tmp 31), none, [17]⟩, ⟨some 33, .indexAddr 24 (.tmp 5) (.tmp 14), none, [0, 0, 1, 2, 3, 4, 5, 6, 7, 8, 9, 10, 11, 12, 13, 14, 15, 16, 17, 18]⟩, ⟨none, .store 5 (.tmp 33) (.tmp 32), none, [19, 18, 0, 1, 2, 3, 4, 5, 6, 7, 8, 9, 10, 11, 12, 13, 14, 15, 16, 17, 18]⟩] true)) (.region 3 [⟨some 12, .mov (.tmp 9), none, []⟩, ⟨some 13, .bin .add 3 (.tmp 12) (.const (.int .i64 1)), none, []⟩, ⟨some 9, .asg 0 (.tmp 13) 3, none, []⟩] false)))))) (.seq (.region 5 [⟨some 34, .load 24 (.tmp 5), none, []⟩, ⟨none, .store 24 (.tmp 8) (.tmp 34), none, []⟩] false) .ret)))
def spec_l01Add_L : Live := [(0, [0, 1, 2, 3]), (1, [0, 3, 5, 6, 8]), (2, [0, 3, 5, 6, 8, 9]), (3, [0, 3, 5, 6, 8, 9]), (4, [0, 3, 5, 6, 8, 9]), (5, [5, 8]), (100011, [0, 3, 5, 6, 8, 9, 11])]
theorem spec_l01Add_body : Try.f99.body = some (Try.f99.body.getD .skip) := by kernel_rfl
theorem spec_l01Add_strip : strip [] (Try.f99.body.getD .skip) = spec_l01Add_c := by kernel_rfl
noncomputable def spec_l01Add_l1 (a3 : Int) (a2 : (Vec Int 64)) (a0 : Int) (x127 : Int) (x128 : (Vec Int 64)) : Option ((Int × (Vec Int 64)) ⊕ (Vec Int 64)) :=
  (if (decide (x127 < 64)) then (ifp (0 ≤ x127 ∧ x127 < ((64 : Nat) : Int)) ((ifp (0 ≤ x127 ∧ x127 < ((64 : Nat) : Int)) ((letp (IntKind.i64.wrap (a3 * (IntKind.i64.wrap (rd a2.1 x127.toNat)))) fun x180 => (letp (IntKind.i64.wrap ((IntKind.i64.wrap (rd x128.1 x127.toNat)) + x180)) fun x182 => (ifp (a0 ≠ 0) ((ifp (a0 ≠ 0) ((letp (IntKind.u8.wrap (Int.tmod (IntKind.i64.wrap ((Int.tmod x182 a0) + a0)) a0)) fun x186 => (ifp (0 ≤ x127 ∧ x127 < ((64 : Nat) : Int)) ((some (.inl ((IntKind.i64.wrap (x127 + 1), (vset x128 x127.toNat x186)))))))))))))))))) else (some (.inr x128)))
noncomputable def spec_l01Add (a0 : Int) (a1 : (Vec Int 64)) (a2 : (Vec Int 64)) (a3 : Int) : Option (Vec Int 64) :=
  (Option.bind (α := (Vec Int 64)) ((loopM (fun s : (Int × (Vec Int 64)) => spec_l01Add_l1 a3 a2 a0 s.1 s.2) (0, a1))) fun x94 => (some x94))
set_option maxHeartbeats 16000000 in
theorem spec_l01Add_ok (a0 : Int) (a1 : (Vec Int 64)) (a2 : (Vec Int 64)) (a3 : Int) (r : (Vec Int 64)) (h : spec_l01Add a0 a1 a2 a3 = some r) : Den Try.prog 99 [(.int .i64 a0), (eA64u8 a1), (eA64u8 a2), (.int .i64 a3)] { r := (eA64u8 r) } := by
  refine den_of (rs := [(eA64u8 r)]) (ac := spec_l01Add_c) (L := spec_l01Add_L) (n := 35) (m := []) good Try.func99 spec_l01Add_body (by kernel_rfl) Try.ntmps99 rfl rfl spec_l01Add_strip rfl rfl ?_
  refine a_st (σ' := ⟨[(0, (.int .i64 a0)), (1, (eA64u8 a1)), (2, (eA64u8 a2)), (3, (.int .i64 a3))], []⟩) (by kernel_rfl) ?_
  unfold spec_l01Add_c
  refine a_seq ?_
  refine a_region ?_
  refine a_val (v := (.own 1500 [] [])) (u := [(1500, some ⟨(eA64u8 a1), false⟩)]) rfl trivial rfl ?_
  refine a_val (v := (.own 1600 [] [])) (u := [(1600, some ⟨(eA64u8 a2), false⟩)]) rfl trivial rfl ?_
  refine a_val (v := (.own 1800 [] [])) (u := [(1800, some ⟨(eA64u8 ((vrep 64 (0 : Int)))), false⟩)]) rfl trivial rfl ?_
  refine a_nil ?_
  refine a_next (σ' := ⟨[(0, (.int .i64 a0)), (3, (.int .i64 a3)), (5, (.own 5 [] [])), (6, (.own 6 [] [])), (8, (.own 8 [] []))], [(5, some ⟨(eA64u8 a1), false⟩), (6, some ⟨(eA64u8 a2), false⟩), (8, some ⟨(eA64u8 ((vrep 64 (0 : Int)))), false⟩)]⟩) (by kernel_rfl) ?_
  obtain ⟨y95, hy96, hk97⟩ := bind_some h
  clear h
  refine a_join (emb := fun (s : (Vec Int 64)) => ⟨[(5, (.own 5 [] [])), (8, (.own 8 [] []))], [(5, some ⟨(eA64u8 s), false⟩), (8, some ⟨(eA64u8 ((vrep 64 (0 : Int)))), false⟩)]⟩) (pre := fun s => s = y95) ?_ ?_
  · rintro x94 rfl
    have h := hk97
    refine a_st (σ' := ⟨[(5, (.own 5 [] [])), (8, (.own 8 [] []))], [(5, some ⟨(eA64u8 x94), false⟩), (8, some ⟨(eA64u8 ((vrep 64 (0 : Int)))), false⟩)]⟩) (by kernel_rfl) ?_
    refine a_seq ?_
    refine a_region ?_
    have hl191 : LdOk [] (eA64u8 x94) [] 64 true (eA64u8 x94) := (.nil rfl rfl rfl)
    refine a_val (v := (eA64u8 x94)) (u := []) (ld_own (i := ⟨.arr 64 5, 64, 64, (eA64u8 (vrep 64 (0 : Int)))⟩) rfl rfl rfl hl191) hl191.c rfl ?_
    have hs192 : StOk [] (eA64u8 ((vrep 64 (0 : Int)))) [] 64 (eA64u8 x94) (eA64u8 x94) := (.nil rfl rfl rfl rfl)
    refine a_val (v := .top) (u := [(8, some ⟨(eA64u8 x94), false⟩)]) (st_own (i := ⟨.arr 64 5, 64, 64, (eA64u8 (vrep 64 (0 : Int)))⟩) rfl rfl (fun _ => rfl) rfl hs192) (hs192.c rfl) rfl ?_
    refine a_nil ?_
    refine a_next rfl ?_
    refine a_ret ?_
    have hl193 : LdOk [] (eA64u8 x94) [] 64 true (eA64u8 x94) := (.nil rfl rfl rfl)
    refine ⟨.inr rfl, ?_⟩
    rw [Try.results99]
    cases h
    exact ⟨_, _, _, _, _, ld_own (i := ⟨.arr 64 5, 64, 64, (eA64u8 (vrep 64 (0 : Int)))⟩) rfl rfl rfl hl193, hl193.c, .inl ⟨rfl, .inl rfl⟩, rfl, rfl⟩
  · have h := hy96
    refine a_seq ?_
    refine a_region ?_
    refine a_val (v := (.int .i64 0)) (u := []) rfl trivial rfl ?_
    refine a_nil ?_
    refine a_next (σ' := ⟨[(0, (.int .i64 a0)), (3, (.int .i64 a3)), (5, (.own 5 [] [])), (6, (.own 6 [] [])), (8, (.own 8 [] [])), (9, (.int .i64 0))], [(5, some ⟨(eA64u8 a1), false⟩), (6, some ⟨(eA64u8 a2), false⟩), (8, some ⟨(eA64u8 ((vrep 64 (0 : Int)))), false⟩)]⟩) (by kernel_rfl) ?_
    refine a_block ?_
    refine a_loop (emb := fun (s : (Int × (Vec Int 64))) => ⟨[(0, (.int .i64 a0)), (3, (.int .i64 a3)), (5, (.own 5 [] [])), (6, (.own 6 [] [])), (8, (.own 8 [] [])), (9, (.int .i64 s.1))], [(5, some ⟨(eA64u8 s.2), false⟩), (6, some ⟨(eA64u8 a2), false⟩), (8, some ⟨(eA64u8 ((vrep 64 (0 : Int)))), false⟩)]⟩) (body := (fun s : (Int × (Vec Int 64)) => spec_l01Add_l1 a3 a2 a0 s.1 s.2)) (G := fun q => some q = some y95) h rfl ?_ (by kernel_rfl)
    rintro X158 ⟨x127, x128⟩ x159 h hX160
    have h : spec_l01Add_l1 a3 a2 a0 x127 x128 = some x159 := h
    refine a_st (σ' := ⟨[(0, (.int .i64 a0)), (3, (.int .i64 a3)), (5, (.own 5 [] [])), (6, (.own 6 [] [])), (8, (.own 8 [] [])), (9, (.int .i64 x127))], [(5, some ⟨(eA64u8 x128), false⟩), (6, some ⟨(eA64u8 a2), false⟩), (8, some ⟨(eA64u8 ((vrep 64 (0 : Int)))), false⟩)]⟩) (by kernel_rfl) ?_
    refine a_seq ?_
    refine a_seq ?_
    refine a_region ?_
    refine a_val (v := (.int .i64 x127)) (u := []) rfl trivial rfl ?_
    refine a_val (v := (.bool ((decide (x127 < 64))))) (u := []) rfl trivial rfl ?_
    refine a_nil ?_
    refine a_next (σ' := ⟨[(0, (.int .i64 a0)), (3, (.int .i64 a3)), (5, (.own 5 [] [])), (6, (.own 6 [] [])), (8, (.own 8 [] [])), (9, (.int .i64 x127)), (11, (.bool ((decide (x127 < 64)))))], [(5, some ⟨(eA64u8 x128), false⟩), (6, some ⟨(eA64u8 a2), false⟩), (8, some ⟨(eA64u8 ((vrep 64 (0 : Int)))), false⟩)]⟩) (by kernel_rfl) ?_
    cases hb161 : (decide (x127 < 64))
    · have h := ite_f hb161 h
      refine a_cond_f rfl ?_
      refine a_exit ?_
      refine t_exit ?_
      cases h
      have h := hX160
      refine t_exit ?_
      refine b_exit ?_
      exact j_leaf x128 (Option.some.inj h) (by kernel_rfl)
    · have h := ite_t hb161 h
      refine a_cond_t rfl ?_
      refine a_skip ?_
      refine a_next (σ' := ⟨[(0, (.int .i64 a0)), (3, (.int .i64 a3)), (5, (.own 5 [] [])), (6, (.own 6 [] [])), (8, (.own 8 [] [])), (9, (.int .i64 x127))], [(5, some ⟨(eA64u8 x128), false⟩), (6, some ⟨(eA64u8 a2), false⟩), (8, some ⟨(eA64u8 ((vrep 64 (0 : Int)))), false⟩)]⟩) (by kernel_rfl) ?_
      refine a_seq ?_
      refine a_block ?_
      refine a_draw [⟨[], [], [], []⟩, ⟨[], [], [], []⟩, ⟨[5], [], [5], [1]⟩, ⟨[5], [], [], [1, 2]⟩, ⟨[], [], [], [1, 2, 3]⟩, ⟨[], [], [], []⟩, ⟨[], [], [], []⟩, ⟨[6], [], [6], [6]⟩, ⟨[6], [], [], [6, 7]⟩, ⟨[], [], [], [6, 7, 8]⟩, ⟨[], [], [], [5, 6, 7, 8, 9]⟩, ⟨[], [], [], [1, 2, 3, 4, 5, 6, 7, 8, 9, 10]⟩, ⟨[], [], [], []⟩, ⟨[], [], [], [1, 2, 3, 4, 5, 6, 7, 8, 9, 10, 11, 12]⟩, ⟨[], [], [], []⟩, ⟨[], [], [], [1, 2, 3, 4, 5, 6, 7, 8, 9, 10, 11, 12, 13, 14]⟩, ⟨[], [], [], []⟩, ⟨[], [], [], [1, 2, 3, 4, 5, 6, 7, 8, 9, 10, 11, 12, 13, 14, 15, 16]⟩, ⟨[], [], [], [1, 2, 3, 4, 5, 6, 7, 8, 9, 10, 11, 12, 13, 14, 15, 16, 17]⟩, ⟨[5], [], [5], [0, 1, 2, 3, 4, 5, 6, 7, 8, 9, 10, 11, 12, 13, 14, 15, 16, 17, 18]⟩, ⟨[5], [5], [], [0, 1, 2, 3, 4, 5, 6, 7, 8, 9, 10, 11, 12, 13, 14, 15, 16, 17, 18, 19]⟩] (by kernel_rfl) ?_
      refine d_cons ?_
      refine a_val (v := (.int .i64 x127)) (u := []) rfl trivial rfl ?_
      refine d_next (by kernel_rfl) ?_
      refine d_cons ?_
      refine a_val (v := (.int .i64 x127)) (u := []) rfl trivial rfl ?_
      refine d_next (by kernel_rfl) ?_
      refine d_cons ?_
      obtain ⟨hc176, h⟩ := ifp_some h
      refine a_val (v := (.own 5 [x127.toNat] [x127.toNat * 1])) (u := []) rfl hc176 rfl ?_
      refine d_next (by kernel_rfl) ?_
      refine d_cons ?_
      have hl177 : LdOk [x127.toNat] (eA64u8 x128) [x127.toNat * 1] 1 false (.int .u8 (rd x128.1 x127.toNat)) := (.arr (vlt x128 hc176) rfl (.nil rfl rfl rfl))
      refine a_val (v := (.int .u8 (rd x128.1 x127.toNat))) (u := []) (ld_own (i := ⟨.int .u8, 1, 1, (.int .u8 0)⟩) rfl rfl rfl hl177) hl177.c rfl ?_
      refine d_next (by kernel_rfl) ?_
      refine d_cons ?_
      refine a_val (v := (.int .i64 (IntKind.i64.wrap (rd x128.1 x127.toNat)))) (u := []) rfl trivial rfl ?_
      refine d_next (by kernel_rfl) ?_
      refine d_cons ?_
      refine a_val (v := (.int .i64 a3)) (u := []) rfl trivial rfl ?_
      refine d_next (by kernel_rfl) ?_
      refine d_cons ?_
      refine a_val (v := (.int .i64 x127)) (u := []) rfl trivial rfl ?_
      refine d_next (by kernel_rfl) ?_
      refine d_cons ?_
      obtain ⟨hc178, h⟩ := ifp_some h
      refine a_val (v := (.own 6 [x127.toNat] [x127.toNat * 1])) (u := []) rfl hc178 rfl ?_
      refine d_next (by kernel_rfl) ?_
      refine d_cons ?_
      have hl179 : LdOk [x127.toNat] (eA64u8 a2) [x127.toNat * 1] 1 false (.int .u8 (rd a2.1 x127.toNat)) := (.arr (vlt a2 hc178) rfl (.nil rfl rfl rfl))
      refine a_val (v := (.int .u8 (rd a2.1 x127.toNat))) (u := []) (ld_own (i := ⟨.int .u8, 1, 1, (.int .u8 0)⟩) rfl rfl rfl hl179) hl179.c rfl ?_
      refine d_next (by kernel_rfl) ?_
      refine d_cons ?_
      refine a_val (v := (.int .i64 (IntKind.i64.wrap (rd a2.1 x127.toNat)))) (u := []) rfl trivial rfl ?_
      refine d_next (by kernel_rfl) ?_
      refine d_cons ?_
      obtain ⟨x180, hx181, h⟩ := letp_some h
      refine a_val' (v := (.int .i64 (IntKind.i64.wrap (a3 * (IntKind.i64.wrap (rd a2.1 x127.toNat)))))) (v' := (.int .i64 x180)) (u := []) (u' := []) rfl (congrArg (fun z => ((.int .i64 z) : AV)) hx181) rfl trivial rfl ?_
      refine d_next (by kernel_rfl) ?_
      refine d_cons ?_
      obtain ⟨x182, hx183, h⟩ := letp_some h
      refine a_val' (v := (.int .i64 (IntKind.i64.wrap ((IntKind.i64.wrap (rd x128.1 x127.toNat)) + x180)))) (v' := (.int .i64 x182)) (u := []) (u' := []) rfl (congrArg (fun z => ((.int .i64 z) : AV)) hx183) rfl trivial rfl ?_
      refine d_next (by kernel_rfl) ?_
      refine d_cons ?_
      refine a_val (v := (.int .i64 a0)) (u := []) rfl trivial rfl ?_
      refine d_next (by kernel_rfl) ?_
      refine d_cons ?_
      obtain ⟨hc184, h⟩ := ifp_some h
      refine a_val (v := (.int .i64 (Int.tmod x182 a0))) (u := []) rfl hc184 rfl ?_
      refine d_next (by kernel_rfl) ?_
      refine d_cons ?_
      refine a_val (v := (.int .i64 a0)) (u := []) rfl trivial rfl ?_
      refine d_next (by kernel_rfl) ?_
      refine d_cons ?_
      refine a_val (v := (.int .i64 (IntKind.i64.wrap ((Int.tmod x182 a0) + a0)))) (u := []) rfl trivial rfl ?_
      refine d_next (by kernel_rfl) ?_
      refine d_cons ?_
      refine a_val (v := (.int .i64 a0)) (u := []) rfl trivial rfl ?_
      refine d_next (by kernel_rfl) ?_
      refine d_cons ?_
      obtain ⟨hc185, h⟩ := ifp_some h
      refine a_val (v := (.int .i64 (Int.tmod (IntKind.i64.wrap ((Int.tmod x182 a0) + a0)) a0))) (u := []) rfl hc185 rfl ?_
      refine d_next (by kernel_rfl) ?_
      refine d_cons ?_
      obtain ⟨x186, hx187, h⟩ := letp_some h
      refine a_val' (v := (.int .u8 (IntKind.u8.wrap (Int.tmod (IntKind.i64.wrap ((Int.tmod x182 a0) + a0)) a0)))) (v' := (.int .u8 x186)) (u := []) (u' := []) rfl (congrArg (fun z => ((.int .u8 z) : AV)) hx187) rfl trivial rfl ?_
      refine d_next (by kernel_rfl) ?_
      refine d_cons ?_
      obtain ⟨hc188, h⟩ := ifp_some h
      refine a_val (v := (.own 5 [x127.toNat] [x127.toNat * 1])) (u := []) rfl hc188 rfl ?_
      refine d_next (by kernel_rfl) ?_
      refine d_cons ?_
      have hs189 : StOk [x127.toNat] (eA64u8 x128) [x127.toNat * 1] 1 (.int .u8 x186) (eA64u8 (vset x128 x127.toNat x186)) := (.arr (y := x186) (vlt x128 hc188) rfl (.nil rfl rfl rfl rfl))
      refine a_val (v := .top) (u := [(5, some ⟨(eA64u8 (vset x128 x127.toNat x186)), false⟩)]) (st_own (i := ⟨.int .u8, 1, 1, (.int .u8 0)⟩) rfl rfl (fun _ => rfl) rfl hs189) (hs189.c rfl) rfl ?_
      refine d_next (by kernel_rfl) ?_
      refine d_nil ?_
      refine b_norm ?_
      refine a_next (σ' := ⟨[(0, (.int .i64 a0)), (3, (.int .i64 a3)), (5, (.own 5 [] [])), (6, (.own 6 [] [])), (8, (.own 8 [] [])), (9, (.int .i64 x127))], [(5, some ⟨(eA64u8 (vset x128 x127.toNat x186)), false⟩), (6, some ⟨(eA64u8 a2), false⟩), (8, some ⟨(eA64u8 ((vrep 64 (0 : Int)))), false⟩)]⟩) (by kernel_rfl) ?_
      refine a_region ?_
      refine a_val (v := (.int .i64 x127)) (u := []) rfl trivial rfl ?_
      refine a_val (v := (.int .i64 (IntKind.i64.wrap (x127 + 1)))) (u := []) rfl trivial rfl ?_
      refine a_val (v := (.int .i64 (IntKind.i64.wrap (x127 + 1)))) (u := []) rfl trivial rfl ?_
      refine a_nil ?_
      cases h
      exact a_again (by kernel_rfl) hX160
def spec_l01MulMod_c : ACode := (.seq (.region 0 [⟨some 5, .box 24 (.tmp 1), none, []⟩, ⟨some 6, .box 24 (.tmp 2), none, []⟩, ⟨some 7, .box 24 (.tmp 3), none, []⟩, ⟨some 8, .alloc 24, none, []⟩] false) (.seq (.region 1 [⟨some 11, .build 24 [], none, []⟩, ⟨some 9, .alloc 24, none, []⟩, ⟨none, .store 24 (.tmp 9) (.tmp 11), none, []⟩] false) (.seq (.seq (.region 2 [⟨some 12, .load 24 (.tmp 6), none, []⟩, ⟨some 13, .call 0 (.func 81) [(.tmp 12)], none, []⟩, ⟨some 10, .asg 0 (.tmp 13) 2, none, []⟩] false) (.block 0 (.loop (.seq (.seq (.region 3 [⟨some 14, .mov (.tmp 10), none, []⟩, ⟨some 15, .bin .geq 2 (.tmp 14) (.const (.int .i64 0)), none, []⟩] false) (.cond (.tmp 15) .skip (.exit 0))) (.seq (.block 1 (.seq (.region 5 [⟨some 18, .mov (.tmp 0), none, []⟩, ⟨some 19, .load 24 (.tmp 9), none, []⟩, ⟨some 20, .load 24 (.tmp 7), none, []⟩, ⟨some 21, .call 0 (.func 150) [(.tmp 18), (.tmp 19), (.tmp 20)], none, []⟩, ⟨none, .store 24 (.tmp 9) (.tmp 21), none, []⟩] false) (.region 6 [⟨some 22, .mov (.tmp 0), none, []⟩, ⟨some 23, .mov (.tmp 0), none, []⟩, ⟨some 24, .load 24 (.tmp 9), none, []⟩, ⟨some 25, .load 24 (.tmp 5), none, []⟩, ⟨some 26, .mov (.tmp 10), none, []⟩, ⟨some 27, .indexAddr 24 (.tmp 6) (.tmp 26), none, [4]⟩, ⟨some 28, .load 5 (.tmp 27), none, [5]⟩, ⟨some 29, .conv 5 2 (.tmp 28), none, [6]⟩, ⟨some 30, .call 0 (.func 99) [(.tmp 23), (.tmp 24), (.tmp 25), (.tmp 29)], none, [1, 2, 3, 7]⟩, ⟨some 31, .load 24 (.tmp 7), none, []⟩, ⟨some 32, .call 0 (.func 95) [(.tmp 22), (.tmp 30), (.tmp 31)], none, [0, 8, 9, 8]⟩, ⟨none, .store 24 (.tmp 9) (.tmp 32), none, [10, 10, 0, 1, 2, 3, 4, 5, 6, 7, 8, 9, 10]⟩] true))) (.region 4 [⟨some 16, .mov (.tmp 10), none, []⟩, ⟨some 17, .bin .sub 2 (.tmp 16) (.const (.int .i64 1)), none, []⟩, ⟨some 10, .asg 0 (.tmp 17) 2, none, []⟩] false)))))) (.seq (.region 7 [⟨some 33, .load 24 (.tmp 9), none, []⟩, ⟨none, .store 24 (.tmp 8) (.tmp 33), none, []⟩] false) .ret))))
def spec_l01MulMod_L : Live := [(0, [0, 1, 2, 3]), (1, [0, 5, 6, 7, 8]), (2, [0, 5, 6, 7, 8, 9]), (3, [0, 5, 6, 7, 8, 9, 10]), (4, [0, 5, 6, 7, 8, 9, 10]), (5, [0, 5, 6, 7, 8, 9, 10]), (6, [0, 5, 6, 7, 8, 9, 10]), (7, [8, 9]), (100015, [0, 5, 6, 7, 8, 9, 10, 15])]
theorem spec_l01MulMod_body : Try.f132.body = some (Try.f132.body.getD .skip) := by kernel_rfl
theorem spec_l01MulMod_strip : strip [] (Try.f132.body.getD .skip) = spec_l01MulMod_c := by kernel_rfl
noncomputable def spec_l01MulMod_l1 (a0 : Int) (a3 : (Vec Int 64)) (a1 : (Vec Int 64)) (a2 : (Vec Int 64)) (x122 : Int) (x123 : (Vec Int 64)) : Option ((Int × (Vec Int 64)) ⊕ (Vec Int 64)) :=
  (if (decide (x122 ≥ 0)) then (Option.bind (spec_l01Up a0 x123 a3) fun r156 => (ifp (0 ≤ x122 ∧ x122 < ((64 : Nat) : Int)) ((Option.bind (spec_l01Add a0 r156 a1 (IntKind.i64.wrap (rd a2.1 x122.toNat))) fun r173 => (Option.bind (spec_l01Mod a0 r173 a3) fun r176 => (some (.inl ((IntKind.i64.wrap (x122 - 1), r176))))))))) else (some (.inr x123)))
noncomputable def spec_l01MulMod (a0 : Int) (a1 : (Vec Int 64)) (a2 : (Vec Int 64)) (a3 : (Vec Int 64)) : Option (Vec Int 64) :=
  (Option.bind (α := (Vec Int 64)) ((Option.bind (spec_l01Deg a2) fun r94 => (loopM (fun s : (Int × (Vec Int 64)) => spec_l01MulMod_l1 a0 a3 a1 a2 s.1 s.2) (r94, (vrep 64 (0 : Int)))))) fun x89 => (some x89))
set_option maxHeartbeats 16000000 in
theorem spec_l01MulMod_ok (a0 : Int) (a1 : (Vec Int 64)) (a2 : (Vec Int 64)) (a3 : (Vec Int 64)) (r : (Vec Int 64)) (h : spec_l01MulMod a0 a1 a2 a3 = some r) : Den Try.prog 132 [(.int .i64 a0), (eA64u8 a1), (eA64u8 a2), (eA64u8 a3)] { r := (eA64u8 r) } := by
  refine den_of (rs := [(eA64u8 r)]) (ac := spec_l01MulMod_c) (L := spec_l01MulMod_L) (n := 34) (m := []) good Try.func132 spec_l01MulMod_body (by kernel_rfl) Try.ntmps132 rfl rfl spec_l01MulMod_strip rfl rfl ?_
  refine a_st (σ' := ⟨[(0, (.int .i64 a0)), (1, (eA64u8 a1)), (2, (eA64u8 a2)), (3, (eA64u8 a3))], []⟩) (by kernel_rfl) ?_
  unfold spec_l01MulMod_c
  refine a_seq ?_
  refine a_region ?_
  refine a_val (v := (.own 1500 [] [])) (u := [(1500, some ⟨(eA64u8 a1), false⟩)]) rfl trivial rfl ?_
  refine a_val (v := (.own 1600 [] [])) (u := [(1600, some ⟨(eA64u8 a2), false⟩)]) rfl trivial rfl ?_
  refine a_val (v := (.own 1700 [] [])) (u := [(1700, some ⟨(eA64u8 a3), false⟩)]) rfl trivial rfl ?_
  refine a_val (v := (.own 1800 [] [])) (u := [(1800, some ⟨(eA64u8 ((vrep 64 (0 : Int)))), false⟩)]) rfl trivial rfl ?_
  refine a_nil ?_
  refine a_next (σ' := ⟨[(0, (.int .i64 a0)), (5, (.own 5 [] [])), (6, (.own 6 [] [])), (7, (.own 7 [] [])), (8, (.own 8 [] []))], [(5, some ⟨(eA64u8 a1), false⟩), (6, some ⟨(eA64u8 a2), false⟩), (7, some ⟨(eA64u8 a3), false⟩), (8, some ⟨(eA64u8 ((vrep 64 (0 : Int)))), false⟩)]⟩) (by kernel_rfl) ?_
  refine a_seq ?_
  refine a_region ?_
  refine a_val (v := (eA64u8 ((vrep 64 (0 : Int))))) (u := []) rfl ⟨⟨_, rfl, rfl⟩, all_nil⟩ rfl ?_
  refine a_val (v := (.own 1900 [] [])) (u := [(1900, some ⟨(eA64u8 ((vrep 64 (0 : Int)))), false⟩)]) rfl trivial rfl ?_
  have hs1 : StOk [] (eA64u8 ((vrep 64 (0 : Int)))) [] 64 (eA64u8 ((vrep 64 (0 : Int)))) (eA64u8 ((vrep 64 (0 : Int)))) := (.nil rfl rfl rfl rfl)
  refine a_val (v := .top) (u := [(1900, some ⟨(eA64u8 ((vrep 64 (0 : Int)))), false⟩)]) (st_own (i := ⟨.arr 64 5, 64, 64, (eA64u8 (vrep 64 (0 : Int)))⟩) rfl rfl (fun _ => rfl) rfl hs1) (hs1.c rfl) rfl ?_
  refine a_nil ?_
  refine a_next (σ' := ⟨[(0, (.int .i64 a0)), (5, (.own 5 [] [])), (6, (.own 6 [] [])), (7, (.own 7 [] [])), (8, (.own 8 [] [])), (9, (.own 9 [] []))], [(5, some ⟨(eA64u8 a1), false⟩), (6, some ⟨(eA64u8 a2), false⟩), (7, some ⟨(eA64u8 a3), false⟩), (8, some ⟨(eA64u8 ((vrep 64 (0 : Int)))), false⟩), (9, some ⟨(eA64u8 ((vrep 64 (0 : Int)))), false⟩)]⟩) (by kernel_rfl) ?_
  obtain ⟨y90, hy91, hk92⟩ := bind_some h
  clear h
  refine a_join (emb := fun (s : (Vec Int 64)) => ⟨[(8, (.own 8 [] [])), (9, (.own 9 [] []))], [(8, some ⟨(eA64u8 ((vrep 64 (0 : Int)))), false⟩), (9, some ⟨(eA64u8 s), false⟩)]⟩) (pre := fun s => s = y90) ?_ ?_
  · rintro x89 rfl
    have h := hk92
    refine a_st (σ' := ⟨[(8, (.own 8 [] [])), (9, (.own 9 [] []))], [(8, some ⟨(eA64u8 ((vrep 64 (0 : Int)))), false⟩), (9, some ⟨(eA64u8 x89), false⟩)]⟩) (by kernel_rfl) ?_
    refine a_seq ?_
    refine a_region ?_
    have hl180 : LdOk [] (eA64u8 x89) [] 64 true (eA64u8 x89) := (.nil rfl rfl rfl)
    refine a_val (v := (eA64u8 x89)) (u := []) (ld_own (i := ⟨.arr 64 5, 64, 64, (eA64u8 (vrep 64 (0 : Int)))⟩) rfl rfl rfl hl180) hl180.c rfl ?_
    have hs181 : StOk [] (eA64u8 ((vrep 64 (0 : Int)))) [] 64 (eA64u8 x89) (eA64u8 x89) := (.nil rfl rfl rfl rfl)
    refine a_val (v := .top) (u := [(8, some ⟨(eA64u8 x89), false⟩)]) (st_own (i := ⟨.arr 64 5, 64, 64, (eA64u8 (vrep 64 (0 : Int)))⟩) rfl rfl (fun _ => rfl) rfl hs181) (hs181.c rfl) rfl ?_
    refine a_nil ?_
    refine a_next rfl ?_
    refine a_ret ?_
    have hl182 : LdOk [] (eA64u8 x89) [] 64 true (eA64u8 x89) := (.nil rfl rfl rfl)
    refine ⟨.inr rfl, ?_⟩
    rw [Try.results132]
    cases h
    exact ⟨_, _, _, _, _, ld_own (i := ⟨.arr 64 5, 64, 64, (eA64u8 (vrep 64 (0 : Int)))⟩) rfl rfl rfl hl182, hl182.c, .inl ⟨rfl, .inl rfl⟩, rfl, rfl⟩
  · have h := hy91
    refine a_seq ?_
    refine a_region ?_
    have hl93 : LdOk [] (eA64u8 a2) [] 64 true (eA64u8 a2) := (.nil rfl rfl rfl)
    refine a_val (v := (eA64u8 a2)) (u := []) (ld_own (i := ⟨.arr 64 5, 64, 64, (eA64u8 (vrep 64 (0 : Int)))⟩) rfl rfl rfl hl93) hl93.c rfl ?_
    obtain ⟨r94, hr95, h⟩ := bind_some h
    refine a_call (args := [(eA64u8 a2)]) (u := []) (r := (.int .i64 r94)) rfl rfl (spec_l01Deg_ok a2 r94 hr95) rfl ?_
    refine a_val (v := (.int .i64 r94)) (u := []) rfl trivial rfl ?_
    refine a_nil ?_
    refine a_next (σ' := ⟨[(0, (.int .i64 a0)), (5, (.own 5 [] [])), (6, (.own 6 [] [])), (7, (.own 7 [] [])), (8, (.own 8 [] [])), (9, (.own 9 [] [])), (10, (.int .i64 r94))], [(5, some ⟨(eA64u8 a1), false⟩), (6, some ⟨(eA64u8 a2), false⟩), (7, some ⟨(eA64u8 a3), false⟩), (8, some ⟨(eA64u8 ((vrep 64 (0 : Int)))), false⟩), (9, some ⟨(eA64u8 ((vrep 64 (0 : Int)))), false⟩)]⟩) (by kernel_rfl) ?_
    refine a_block ?_
    refine a_loop (emb := fun (s : (Int × (Vec Int 64))) => ⟨[(0, (.int .i64 a0)), (5, (.own 5 [] [])), (6, (.own 6 [] [])), (7, (.own 7 [] [])), (8, (.own 8 [] [])), (9, (.own 9 [] [])), (10, (.int .i64 s.1))], [(5, some ⟨(eA64u8 a1), false⟩), (6, some ⟨(eA64u8 a2), false⟩), (7, some ⟨(eA64u8 a3), false⟩), (8, some ⟨(eA64u8 ((vrep 64 (0 : Int)))), false⟩), (9, some ⟨(eA64u8 s.2), false⟩)]⟩) (body := (fun s : (Int × (Vec Int 64)) => spec_l01MulMod_l1 a0 a3 a1 a2 s.1 s.2)) (G := fun q => some q = some y90) h rfl ?_ (by kernel_rfl)
    rintro X150 ⟨x122, x123⟩ x151 h hX152
    have h : spec_l01MulMod_l1 a0 a3 a1 a2 x122 x123 = some x151 := h
    refine a_st (σ' := ⟨[(0, (.int .i64 a0)), (5, (.own 5 [] [])), (6, (.own 6 [] [])), (7, (.own 7 [] [])), (8, (.own 8 [] [])), (9, (.own 9 [] [])), (10, (.int .i64 x122))], [(5, some ⟨(eA64u8 a1), false⟩), (6, some ⟨(eA64u8 a2), false⟩), (7, some ⟨(eA64u8 a3), false⟩), (8, some ⟨(eA64u8 ((vrep 64 (0 : Int)))), false⟩), (9, some ⟨(eA64u8 x123), false⟩)]⟩) (by kernel_rfl) ?_
    refine a_seq ?_
    refine a_seq ?_
    refine a_region ?_
    refine a_val (v := (.int .i64 x122)) (u := []) rfl trivial rfl ?_
    refine a_val (v := (.bool ((decide (x122 ≥ 0))))) (u := []) rfl trivial rfl ?_
    refine a_nil ?_
    refine a_next (σ' := ⟨[(0, (.int .i64 a0)), (5, (.own 5 [] [])), (6, (.own 6 [] [])), (7, (.own 7 [] [])), (8, (.own 8 [] [])), (9, (.own 9 [] [])), (10, (.int .i64 x122)), (15, (.bool ((decide (x122 ≥ 0)))))], [(5, some ⟨(eA64u8 a1), false⟩), (6, some ⟨(eA64u8 a2), false⟩), (7, some ⟨(eA64u8 a3), false⟩), (8, some ⟨(eA64u8 ((vrep 64 (0 : Int)))), false⟩), (9, some ⟨(eA64u8 x123), false⟩)]⟩) (by kernel_rfl) ?_
    cases hb153 : (decide (x122 ≥ 0))
    · have h := ite_f hb153 h
      refine a_cond_f rfl ?_
      refine a_exit ?_
      refine t_exit ?_
      cases h
      have h := hX152
      refine t_exit ?_
      refine b_exit ?_
      exact j_leaf x123 (Option.some.inj h) (by kernel_rfl)
    · have h := ite_t hb153 h
      refine a_cond_t rfl ?_
      refine a_skip ?_
      refine a_next (σ' := ⟨[(0, (.int .i64 a0)), (5, (.own 5 [] [])), (6, (.own 6 [] [])), (7, (.own 7 [] [])), (8, (.own 8 [] [])), (9, (.own 9 [] [])), (10, (.int .i64 x122))], [(5, some ⟨(eA64u8 a1), false⟩), (6, some ⟨(eA64u8 a2), false⟩), (7, some ⟨(eA64u8 a3), false⟩), (8, some ⟨(eA64u8 ((vrep 64 (0 : Int)))), false⟩), (9, some ⟨(eA64u8 x123), false⟩)]⟩) (by kernel_rfl) ?_
      refine a_seq ?_
      refine a_block ?_
      refine a_seq ?_
      refine a_region ?_
      refine a_val (v := (.int .i64 a0)) (u := []) rfl trivial rfl ?_
      have hl154 : LdOk [] (eA64u8 x123) [] 64 true (eA64u8 x123) := (.nil rfl rfl rfl)
      refine a_val (v := (eA64u8 x123)) (u := []) (ld_own (i := ⟨.arr 64 5, 64, 64, (eA64u8 (vrep 64 (0 : Int)))⟩) rfl rfl rfl hl154) hl154.c rfl ?_
      have hl155 : LdOk [] (eA64u8 a3) [] 64 true (eA64u8 a3) := (.nil rfl rfl rfl)
      refine a_val (v := (eA64u8 a3)) (u := []) (ld_own (i := ⟨.arr 64 5, 64, 64, (eA64u8 (vrep 64 (0 : Int)))⟩) rfl rfl rfl hl155) hl155.c rfl ?_
      obtain ⟨r156, hr157, h⟩ := bind_some h
      refine a_call (args := [(.int .i64 a0), (eA64u8 x123), (eA64u8 a3)]) (u := []) (r := (eA64u8 r156)) rfl rfl (spec_l01Up_ok a0 x123 a3 r156 hr157) rfl ?_
      have hs158 : StOk [] (eA64u8 x123) [] 64 (eA64u8 r156) (eA64u8 r156) := (.nil rfl rfl rfl rfl)
      refine a_val (v := .top) (u := [(9, some ⟨(eA64u8 r156), false⟩)]) (st_own (i := ⟨.arr 64 5, 64, 64, (eA64u8 (vrep 64 (0 : Int)))⟩) rfl rfl (fun _ => rfl) rfl hs158) (hs158.c rfl) rfl ?_
      refine a_nil ?_
      refine a_next (σ' := ⟨[(0, (.int .i64 a0)), (5, (.own 5 [] [])), (6, (.own 6 [] [])), (7, (.own 7 [] [])), (8, (.own 8 [] [])), (9, (.own 9 [] [])), (10, (.int .i64 x122))], [(5, some ⟨(eA64u8 a1), false⟩), (6, some ⟨(eA64u8 a2), false⟩), (7, some ⟨(eA64u8 a3), false⟩), (8, some ⟨(eA64u8 ((vrep 64 (0 : Int)))), false⟩), (9, some ⟨(eA64u8 r156), false⟩)]⟩) (by kernel_rfl) ?_
      refine a_draw [⟨[], [], [], []⟩, ⟨[], [], [], []⟩, ⟨[9], [], [], []⟩, ⟨[5], [], [], []⟩, ⟨[], [], [], []⟩, ⟨[6], [], [6], [4]⟩, ⟨[6], [], [], [4, 5]⟩, ⟨[], [], [], [4, 5, 6]⟩, ⟨[], [], [], [1, 2, 3, 4, 5, 6, 7]⟩, ⟨[7], [], [], []⟩, ⟨[], [], [], [0, 1, 2, 3, 4, 5, 6, 7, 8, 9]⟩, ⟨[9], [9], [], [0, 1, 2, 3, 4, 5, 6, 7, 8, 9, 10]⟩] (by kernel_rfl) ?_
      refine d_cons ?_
      refine a_val (v := (.int .i64 a0)) (u := []) rfl trivial rfl ?_
      refine d_next (by kernel_rfl) ?_
      refine d_cons ?_
      refine a_val (v := (.int .i64 a0)) (u := []) rfl trivial rfl ?_
      refine d_next (by kernel_rfl) ?_
      refine d_cons ?_
      have hl169 : LdOk [] (eA64u8 r156) [] 64 true (eA64u8 r156) := (.nil rfl rfl rfl)
      refine a_val (v := (eA64u8 r156)) (u := []) (ld_own (i := ⟨.arr 64 5, 64, 64, (eA64u8 (vrep 64 (0 : Int)))⟩) rfl rfl rfl hl169) hl169.c rfl ?_
      refine d_next (by kernel_rfl) ?_
      refine d_cons ?_
      have hl170 : LdOk [] (eA64u8 a1) [] 64 true (eA64u8 a1) := (.nil rfl rfl rfl)
      refine a_val (v := (eA64u8 a1)) (u := []) (ld_own (i := ⟨.arr 64 5, 64, 64, (eA64u8 (vrep 64 (0 : Int)))⟩) rfl rfl rfl hl170) hl170.c rfl ?_
      refine d_next (by kernel_rfl) ?_
      refine d_cons ?_
      refine a_val (v := (.int .i64 x122)) (u := []) rfl trivial rfl ?_
      refine d_next (by kernel_rfl) ?_
      refine d_cons ?_
      obtain ⟨hc171, h⟩ := ifp_some h
      refine a_val (v := (.own 6 [x122.toNat] [x122.toNat * 1])) (u := []) rfl hc171 rfl ?_
      refine d_next (by kernel_rfl) ?_
      refine d_cons ?_
      have hl172 : LdOk [x122.toNat] (eA64u8 a2) [x122.toNat * 1] 1 false (.int .u8 (rd a2.1 x122.toNat)) := (.arr (vlt a2 hc171) rfl (.nil rfl rfl rfl))
      refine a_val (v := (.int .u8 (rd a2.1 x122.toNat))) (u := []) (ld_own (i := ⟨.int .u8, 1, 1, (.int .u8 0)⟩) rfl rfl rfl hl172) hl172.c rfl ?_
      refine d_next (by kernel_rfl) ?_
      refine d_cons ?_
      refine a_val (v := (.int .i64 (IntKind.i64.wrap (rd a2.1 x122.toNat)))) (u := []) rfl trivial rfl ?_
      refine d_next (by kernel_rfl) ?_
      refine d_cons ?_
      obtain ⟨r173, hr174, h⟩ := bind_some h
      refine a_call (args := [(.int .i64 a0), (eA64u8 r156), (eA64u8 a1), (.int .i64 (IntKind.i64.wrap (rd a2.1 x122.toNat)))]) (u := []) (r := (eA64u8 r173)) rfl rfl (spec_l01Add_ok a0 r156 a1 (IntKind.i64.wrap (rd a2.1 x122.toNat)) r173 hr174) rfl ?_
      refine d_next (by kernel_rfl) ?_
      refine d_cons ?_
      have hl175 : LdOk [] (eA64u8 a3) [] 64 true (eA64u8 a3) := (.nil rfl rfl rfl)
      refine a_val (v := (eA64u8 a3)) (u := []) (ld_own (i := ⟨.arr 64 5, 64, 64, (eA64u8 (vrep 64 (0 : Int)))⟩) rfl rfl rfl hl175) hl175.c rfl ?_
      refine d_next (by kernel_rfl) ?_
      refine d_cons ?_
      obtain ⟨r176, hr177, h⟩ := bind_some h
      refine a_call (args := [(.int .i64 a0), (eA64u8 r173), (eA64u8 a3)]) (u := []) (r := (eA64u8 r176)) rfl rfl (spec_l01Mod_ok a0 r173 a3 r176 hr177) rfl ?_
      refine d_next (by kernel_rfl) ?_
      refine d_cons ?_
      have hs178 : StOk [] (eA64u8 r156) [] 64 (eA64u8 r176) (eA64u8 r176) := (.nil rfl rfl rfl rfl)
      refine a_val (v := .top) (u := [(9, some ⟨(eA64u8 r176), false⟩)]) (st_own (i := ⟨.arr 64 5, 64, 64, (eA64u8 (vrep 64 (0 : Int)))⟩) rfl rfl (fun _ => rfl) rfl hs178) (hs178.c rfl) rfl ?_
      refine d_next (by kernel_rfl) ?_
      refine d_nil ?_
      refine b_norm ?_
      refine a_next (σ' := ⟨[(0, (.int .i64 a0)), (5, (.own 5 [] [])), (6, (.own 6 [] [])), (7, (.own 7 [] [])), (8, (.own 8 [] [])), (9, (.own 9 [] [])), (10, (.int .i64 x122))], [(5, some ⟨(eA64u8 a1), false⟩), (6, some ⟨(eA64u8 a2), false⟩), (7, some ⟨(eA64u8 a3), false⟩), (8, some ⟨(eA64u8 ((vrep 64 (0 : Int)))), false⟩), (9, some ⟨(eA64u8 r176), false⟩)]⟩) (by kernel_rfl) ?_
      refine a_region ?_
      refine a_val (v := (.int .i64 x122)) (u := []) rfl trivial rfl ?_
      refine a_val (v := (.int .i64 (IntKind.i64.wrap (x122 - 1)))) (u := []) rfl trivial rfl ?_
      refine a_val (v := (.int .i64 (IntKind.i64.wrap (x122 - 1)))) (u := []) rfl trivial rfl ?_
      refine a_nil ?_
      cases h
      exact a_again (by kernel_rfl) hX152
def spec_l01PowMod_c : ACode := (.seq (.region 0 [⟨some 5, .box 24 (.tmp 1), none, []⟩, ⟨some 7, .box 24 (.tmp 3), none, []⟩, ⟨some 8, .alloc 24, none, []⟩] false) (.seq (.region 1 [⟨some 11, .mov (.tmp 0), none, []⟩, ⟨some 12, .call 0 (.func 123) [], none, []⟩, ⟨some 13, .load 24 (.tmp 7), none, []⟩, ⟨some 14, .call 0 (.func 95) [(.tmp 11), (.tmp 12), (.tmp 13)], none, [0, 1, 2, 1]⟩, ⟨some 15, .mov (.tmp 0), none, []⟩, ⟨some 16, .load 24 (.tmp 5), none, []⟩, ⟨some 17, .load 24 (.tmp 7), none, []⟩, ⟨some 18, .call 0 (.func 95) [(.tmp 15), (.tmp 16), (.tmp 17)], none, [4, 5, 6, 3]⟩, ⟨some 9, .alloc 24, none, []⟩, ⟨some 10, .alloc 24, none, []⟩, ⟨none, .store 24 (.tmp 9) (.tmp 14), none, [8, 3, 7, 0, 1, 2, 3, 8, 9]⟩, ⟨none, .store 24 (.tmp 10) (.tmp 18), none, [9, 7, 10, 0, 1, 2, 3, 4, 5, 6, 7, 8, 9, 10]⟩] true) (.seq (.block 0 (.loop (.seq (.seq (.region 2 [⟨some 19, .mov (.tmp 2), none, []⟩, ⟨some 20, .bin .gtr 2 (.tmp 19) (.const (.int .i64 0)), none, []⟩] false) (.cond (.tmp 20) .skip (.exit 0))) (.seq (.block 1 (.seq (.seq (.region 4 [⟨some 23, .mov (.tmp 2), none, []⟩, ⟨some 24, .bin .rem 2 (.tmp 23) (.const (.int .i64 2)), none, []⟩, ⟨some 25, .bin .eql 2 (.tmp 24) (.const (.int .i64 1)), none, []⟩] false) (.cond (.tmp 25) (.region 5 [⟨some 26, .mov (.tmp 0), none, []⟩, ⟨some 27, .load 24 (.tmp 9), none, []⟩, ⟨some 28, .load 24 (.tmp 10), none, []⟩, ⟨some 29, .load 24 (.tmp 7), none, []⟩, ⟨some 30, .call 0 (.func 132) [(.tmp 26), (.tmp 27), (.tmp 28), (.tmp 29)], none, []⟩, ⟨none, .store 24 (.tmp 9) (.tmp 30), none, []⟩] false) .skip)) (.region 6 [⟨some 31, .mov (.tmp 0), none, []⟩, ⟨some 32, .load 24 (.tmp 10), none, []⟩, ⟨some 33, .load 24 (.tmp 10), none, []⟩, ⟨some 34, .load 24 (.tmp 7), none, []⟩, ⟨some 35, .call 0 (.func 132) [(.tmp 31), (.tmp 32), (.tmp 33), (.tmp 34)], none, []⟩, ⟨none, .store 24 (.tmp 10) (.tmp 35), none, []⟩] false))) (.region 3 [⟨some 21, .mov (.tmp 2), none, []⟩, ⟨some 22, .bin .quo 2 (.tmp 21) (.const (.int .i64 2)), none, []⟩, ⟨some 2, .asg 0 (.tmp 22) 2, none, []⟩] false))))) (.seq (.region 7 [⟨some 36, .load 24 (.tmp 9), none, []⟩, ⟨none, .store 24 (.tmp 8) (.tmp 36), none, []⟩] false) .ret))))
def spec_l01PowMod_L : Live := [(0, [0, 1, 2, 3]), (1, [0, 2, 5, 7, 8]), (2, [0, 2, 7, 8, 9, 10]), (3, [0, 2, 7, 8, 9, 10]), (4, [0, 2, 7, 8, 9, 10]), (5, [0, 2, 7, 8, 9, 10]), (6, [0, 2, 7, 8, 9, 10]), (7, [8, 9]), (100020, [0, 2, 7, 8, 9, 10, 20]), (100025, [0, 2, 7, 8, 9, 10, 25])]
theorem spec_l01PowMod_body : Try.f97.body = some (Try.f97.body.getD .skip) := by kernel_rfl
theorem spec_l01PowMod_strip : strip [] (Try.f97.body.getD .skip) = spec_l01PowMod_c := by kernel_rfl
noncomputable def spec_l01PowMod_l1 (a0 : Int) (a3 : (Vec Int 64)) (x134 : Int) (x135 : (Vec Int 64)) (x136 : (Vec Int 64)) : Option ((Int × (Vec Int 64) × (Vec Int 64)) ⊕ (Vec Int 64)) :=
  (if (decide (x134 > 0)) then (Option.bind (α := (Vec Int 64)) ((if ((Int.tmod x134 2) == 1) then (Option.bind (spec_l01MulMod a0 x135 x136 a3) fun r181 => (some r181)) else (some x135))) fun x173 => (Option.bind (spec_l01MulMod a0 x136 x136 a3) fun r187 => (some (.inl ((IntKind.i64.wrap (Int.tdiv x134 2), x173, r187)))))) else (some (.inr x135)))
noncomputable def spec_l01PowMod (a0 : Int) (a1 : (Vec Int 64)) (a2 : Int) (a3 : (Vec Int 64)) : Option (Vec Int 64) :=
  (Option.bind (spec_l01One) fun r12 => (Option.bind (spec_l01Mod a0 r12 a3) fun r15 => (Option.bind (spec_l01Mod a0 a1 a3) fun r19 => (Option.bind (α := (Vec Int 64)) ((loopM (fun s : (Int × (Vec Int 64) × (Vec Int 64)) => spec_l01PowMod_l1 a0 a3 s.1 s.2.1 s.2.2) (a2, r15, r19))) fun x105 => (some x105)))))
set_option maxHeartbeats 16000000 in
theorem spec_l01PowMod_ok (a0 : Int) (a1 : (Vec Int 64)) (a2 : Int) (a3 : (Vec Int 64)) (r : (Vec Int 64)) (h : spec_l01PowMod a0 a1 a2 a3 = some r) : Den Try.prog 97 [(.int .i64 a0), (eA64u8 a1), (.int .i64 a2), (eA64u8 a3)] { r := (eA64u8 r) } := by
  refine den_of (rs := [(eA64u8 r)]) (ac := spec_l01PowMod_c) (L := spec_l01PowMod_L) (n := 37) (m := []) good Try.func97 spec_l01PowMod_body (by kernel_rfl) Try.ntmps97 rfl rfl spec_l01PowMod_strip rfl rfl ?_
  refine a_st (σ' := ⟨[(0, (.int .i64 a0)), (1, (eA64u8 a1)), (2, (.int .i64 a2)), (3, (eA64u8 a3))], []⟩) (by kernel_rfl) ?_
  unfold spec_l01PowMod_c
  refine a_seq ?_
  refine a_region ?_
  refine a_val (v := (.own 1500 [] [])) (u := [(1500, some ⟨(eA64u8 a1), false⟩)]) rfl trivial rfl ?_
  refine a_val (v := (.own 1700 [] [])) (u := [(1700, some ⟨(eA64u8 a3), false⟩)]) rfl trivial rfl ?_
  refine a_val (v := (.own 1800 [] [])) (u := [(1800, some ⟨(eA64u8 ((vrep 64 (0 : Int)))), false⟩)]) rfl trivial rfl ?_
  refine a_nil ?_
  refine a_next (σ' := ⟨[(0, (.int .i64 a0)), (2, (.int .i64 a2)), (5, (.own 5 [] [])), (7, (.own 7 [] [])), (8, (.own 8 [] []))], [(5, some ⟨(eA64u8 a1), false⟩), (7, some ⟨(eA64u8 a3), false⟩), (8, some ⟨(eA64u8 ((vrep 64 (0 : Int)))), false⟩)]⟩) (by kernel_rfl) ?_
  refine a_seq ?_
  refine a_draw [⟨[], [], [], []⟩, ⟨[], [], [], []⟩, ⟨[7], [], [], []⟩, ⟨[], [], [], [0, 1, 2]⟩, ⟨[], [], [], []⟩, ⟨[5], [], [], []⟩, ⟨[7], [], [], []⟩, ⟨[], [], [], [0, 1, 2, 3, 4, 5, 6]⟩, ⟨[1900], [1900], [1900], []⟩, ⟨[2000], [2000], [2000], []⟩, ⟨[1900], [1900], [], [0, 1, 2, 3, 4, 5, 6, 7, 8, 9]⟩, ⟨[2000], [2000], [], [0, 1, 2, 3, 4, 5, 6, 7, 8, 9, 10]⟩] (by kernel_rfl) ?_
  refine d_cons ?_
  refine a_val (v := (.int .i64 a0)) (u := []) rfl trivial rfl ?_
  refine d_next (by kernel_rfl) ?_
  refine d_cons ?_
  obtain ⟨r12, hr13, h⟩ := bind_some h
  refine a_call (args := []) (u := []) (r := (eA64u8 r12)) rfl rfl (spec_l01One_ok r12 hr13) rfl ?_
  refine d_next (by kernel_rfl) ?_
  refine d_cons ?_
  have hl14 : LdOk [] (eA64u8 a3) [] 64 true (eA64u8 a3) := (.nil rfl rfl rfl)
  refine a_val (v := (eA64u8 a3)) (u := []) (ld_own (i := ⟨.arr 64 5, 64, 64, (eA64u8 (vrep 64 (0 : Int)))⟩) rfl rfl rfl hl14) hl14.c rfl ?_
  refine d_next (by kernel_rfl) ?_
  refine d_cons ?_
  obtain ⟨r15, hr16, h⟩ := bind_some h
  refine a_call (args := [(.int .i64 a0), (eA64u8 r12), (eA64u8 a3)]) (u := []) (r := (eA64u8 r15)) rfl rfl (spec_l01Mod_ok a0 r12 a3 r15 hr16) rfl ?_
  refine d_next (by kernel_rfl) ?_
  refine d_cons ?_
  refine a_val (v := (.int .i64 a0)) (u := []) rfl trivial rfl ?_
  refine d_next (by kernel_rfl) ?_
  refine d_cons ?_
  have hl17 : LdOk [] (eA64u8 a1) [] 64 true (eA64u8 a1) := (.nil rfl rfl rfl)
  refine a_val (v := (eA64u8 a1)) (u := []) (ld_own (i := ⟨.arr 64 5, 64, 64, (eA64u8 (vrep 64 (0 : Int)))⟩) rfl rfl rfl hl17) hl17.c rfl ?_
  refine d_next (by kernel_rfl) ?_
  refine d_cons ?_
  have hl18 : LdOk [] (eA64u8 a3) [] 64 true (eA64u8 a3) := (.nil rfl rfl rfl)
  refine a_val (v := (eA64u8 a3)) (u := []) (ld_own (i := ⟨.arr 64 5, 64, 64, (eA64u8 (vrep 64 (0 : Int)))⟩) rfl rfl rfl hl18) hl18.c rfl ?_
  refine d_next (by kernel_rfl) ?_
  refine d_cons ?_
  obtain ⟨r19, hr20, h⟩ := bind_some h
  refine a_call (args := [(.int .i64 a0), (eA64u8 a1), (eA64u8 a3)]) (u := []) (r := (eA64u8 r19)) rfl rfl (spec_l01Mod_ok a0 a1 a3 r19 hr20) rfl ?_
  refine d_next (by kernel_rfl) ?_
  refine d_cons ?_
  refine a_val (v := (.own 1900 [] [])) (u := [(1900, some ⟨(eA64u8 ((vrep 64 (0 : Int)))), false⟩)]) rfl trivial rfl ?_
  refine d_next (by kernel_rfl) ?_
  refine d_cons ?_
  refine a_val (v := (.own 2000 [] [])) (u := [(2000, some ⟨(eA64u8 ((vrep 64 (0 : Int)))), false⟩)]) rfl trivial rfl ?_
  refine d_next (by kernel_rfl) ?_
  refine d_cons ?_
  have hs21 : StOk [] (eA64u8 ((vrep 64 (0 : Int)))) [] 64 (eA64u8 r15) (eA64u8 r15) := (.nil rfl rfl rfl rfl)
  refine a_val (v := .top) (u := [(1900, some ⟨(eA64u8 r15), false⟩)]) (st_own (i := ⟨.arr 64 5, 64, 64, (eA64u8 (vrep 64 (0 : Int)))⟩) rfl rfl (fun _ => rfl) rfl hs21) (hs21.c rfl) rfl ?_
  refine d_next (by kernel_rfl) ?_
  refine d_cons ?_
  have hs22 : StOk [] (eA64u8 ((vrep 64 (0 : Int)))) [] 64 (eA64u8 r19) (eA64u8 r19) := (.nil rfl rfl rfl rfl)
  refine a_val (v := .top) (u := [(2000, some ⟨(eA64u8 r19), false⟩)]) (st_own (i := ⟨.arr 64 5, 64, 64, (eA64u8 (vrep 64 (0 : Int)))⟩) rfl rfl (fun _ => rfl) rfl hs22) (hs22.c rfl) rfl ?_
  refine d_next (by kernel_rfl) ?_
  refine d_nil ?_
  refine a_next (σ' := ⟨[(0, (.int .i64 a0)), (2, (.int .i64 a2)), (7, (.own 7 [] [])), (8, (.own 8 [] [])), (9, (.own 9 [] [])), (10, (.own 10 [] []))], [(7, some ⟨(eA64u8 a3), false⟩), (8, some ⟨(eA64u8 ((vrep 64 (0 : Int)))), false⟩), (9, some ⟨(eA64u8 r15), false⟩), (10, some ⟨(eA64u8 r19), false⟩)]⟩) (by kernel_rfl) ?_
  obtain ⟨y106, hy107, hk108⟩ := bind_some h
  clear h
  refine a_join (emb := fun (s : (Vec Int 64)) => ⟨[(8, (.own 8 [] [])), (9, (.own 9 [] []))], [(8, some ⟨(eA64u8 ((vrep 64 (0 : Int)))), false⟩), (9, some ⟨(eA64u8 s), false⟩)]⟩) (pre := fun s => s = y106) ?_ ?_
  · rintro x105 rfl
    have h := hk108
    refine a_st (σ' := ⟨[(8, (.own 8 [] [])), (9, (.own 9 [] []))], [(8, some ⟨(eA64u8 ((vrep 64 (0 : Int)))), false⟩), (9, some ⟨(eA64u8 x105), false⟩)]⟩) (by kernel_rfl) ?_
    refine a_seq ?_
    refine a_region ?_
    have hl191 : LdOk [] (eA64u8 x105) [] 64 true (eA64u8 x105) := (.nil rfl rfl rfl)
    refine a_val (v := (eA64u8 x105)) (u := []) (ld_own (i := ⟨.arr 64 5, 64, 64, (eA64u8 (vrep 64 (0 : Int)))⟩) rfl rfl rfl hl191) hl191.c rfl ?_
    have hs192 : StOk [] (eA64u8 ((vrep 64 (0 : Int)))) [] 64 (eA64u8 x105) (eA64u8 x105) := (.nil rfl rfl rfl rfl)
    refine a_val (v := .top) (u := [(8, some ⟨(eA64u8 x105), false⟩)]) (st_own (i := ⟨.arr 64 5, 64, 64, (eA64u8 (vrep 64 (0 : Int)))⟩) rfl rfl (fun _ => rfl) rfl hs192) (hs192.c rfl) rfl ?_
    refine a_nil ?_
    refine a_next rfl ?_
    refine a_ret ?_
    have hl193 : LdOk [] (eA64u8 x105) [] 64 true (eA64u8 x105) := (.nil rfl rfl rfl)
    refine ⟨.inr rfl, ?_⟩
    rw [Try.results97]
    cases h
    exact ⟨_, _, _, _, _, ld_own (i := ⟨.arr 64 5, 64, 64, (eA64u8 (vrep 64 (0 : Int)))⟩) rfl rfl rfl hl193, hl193.c, .inl ⟨rfl, .inl rfl⟩, rfl, rfl⟩
  · have h := hy107
    refine a_block ?_
    refine a_loop (emb := fun (s : (Int × (Vec Int 64) × (Vec Int 64))) => ⟨[(0, (.int .i64 a0)), (2, (.int .i64 s.1)), (7, (.own 7 [] [])), (8, (.own 8 [] [])), (9, (.own 9 [] [])), (10, (.own 10 [] []))], [(7, some ⟨(eA64u8 a3), false⟩), (8, some ⟨(eA64u8 ((vrep 64 (0 : Int)))), false⟩), (9, some ⟨(eA64u8 s.2.1), false⟩), (10, some ⟨(eA64u8 s.2.2), false⟩)]⟩) (body := (fun s : (Int × (Vec Int 64) × (Vec Int 64)) => spec_l01PowMod_l1 a0 a3 s.1 s.2.1 s.2.2)) (G := fun q => some q = some y106) h rfl ?_ (by kernel_rfl)
    rintro X162 ⟨x134, x135, x136⟩ x163 h hX164
    have h : spec_l01PowMod_l1 a0 a3 x134 x135 x136 = some x163 := h
    refine a_st (σ' := ⟨[(0, (.int .i64 a0)), (2, (.int .i64 x134)), (7, (.own 7 [] [])), (8, (.own 8 [] [])), (9, (.own 9 [] [])), (10, (.own 10 [] []))], [(7, some ⟨(eA64u8 a3), false⟩), (8, some ⟨(eA64u8 ((vrep 64 (0 : Int)))), false⟩), (9, some ⟨(eA64u8 x135), false⟩), (10, some ⟨(eA64u8 x136), false⟩)]⟩) (by kernel_rfl) ?_
    refine a_seq ?_
    refine a_seq ?_
    refine a_region ?_
    refine a_val (v := (.int .i64 x134)) (u := []) rfl trivial rfl ?_
    refine a_val (v := (.bool ((decide (x134 > 0))))) (u := []) rfl trivial rfl ?_
    refine a_nil ?_
    refine a_next (σ' := ⟨[(0, (.int .i64 a0)), (2, (.int .i64 x134)), (7, (.own 7 [] [])), (8, (.own 8 [] [])), (9, (.own 9 [] [])), (10, (.own 10 [] [])), (20, (.bool ((decide (x134 > 0)))))], [(7, some ⟨(eA64u8 a3), false⟩), (8, some ⟨(eA64u8 ((vrep 64 (0 : Int)))), false⟩), (9, some ⟨(eA64u8 x135), false⟩), (10, some ⟨(eA64u8 x136), false⟩)]⟩) (by kernel_rfl) ?_
    cases hb165 : (decide (x134 > 0))
    · have h := ite_f hb165 h
      refine a_cond_f rfl ?_
      refine a_exit ?_
      refine t_exit ?_
      cases h
      have h := hX164
      refine t_exit ?_
      refine b_exit ?_
      exact j_leaf x135 (Option.some.inj h) (by kernel_rfl)
    · have h := ite_t hb165 h
      refine a_cond_t rfl ?_
      refine a_skip ?_
      refine a_next (σ' := ⟨[(0, (.int .i64 a0)), (2, (.int .i64 x134)), (7, (.own 7 [] [])), (8, (.own 8 [] [])), (9, (.own 9 [] [])), (10, (.own 10 [] []))], [(7, some ⟨(eA64u8 a3), false⟩), (8, some ⟨(eA64u8 ((vrep 64 (0 : Int)))), false⟩), (9, some ⟨(eA64u8 x135), false⟩), (10, some ⟨(eA64u8 x136), false⟩)]⟩) (by kernel_rfl) ?_
      refine a_seq ?_
      refine a_block ?_
      obtain ⟨y174, hy175, hk176⟩ := bind_some h
      clear h
      refine a_join (emb := fun (s : (Vec Int 64)) => ⟨[(0, (.int .i64 a0)), (2, (.int .i64 x134)), (7, (.own 7 [] [])), (8, (.own 8 [] [])), (9, (.own 9 [] [])), (10, (.own 10 [] []))], [(7, some ⟨(eA64u8 a3), false⟩), (8, some ⟨(eA64u8 ((vrep 64 (0 : Int)))), false⟩), (9, some ⟨(eA64u8 s), false⟩), (10, some ⟨(eA64u8 x136), false⟩)]⟩) (pre := fun s => s = y174) ?_ ?_
      · rintro x173 rfl
        have h := hk176
        refine a_st (σ' := ⟨[(0, (.int .i64 a0)), (2, (.int .i64 x134)), (7, (.own 7 [] [])), (8, (.own 8 [] [])), (9, (.own 9 [] [])), (10, (.own 10 [] []))], [(7, some ⟨(eA64u8 a3), false⟩), (8, some ⟨(eA64u8 ((vrep 64 (0 : Int)))), false⟩), (9, some ⟨(eA64u8 x173), false⟩), (10, some ⟨(eA64u8 x136), false⟩)]⟩) (by kernel_rfl) ?_
        refine a_region ?_
        refine a_val (v := (.int .i64 a0)) (u := []) rfl trivial rfl ?_
        have hl184 : LdOk [] (eA64u8 x136) [] 64 true (eA64u8 x136) := (.nil rfl rfl rfl)
        refine a_val (v := (eA64u8 x136)) (u := []) (ld_own (i := ⟨.arr 64 5, 64, 64, (eA64u8 (vrep 64 (0 : Int)))⟩) rfl rfl rfl hl184) hl184.c rfl ?_
        have hl185 : LdOk [] (eA64u8 x136) [] 64 true (eA64u8 x136) := (.nil rfl rfl rfl)
        refine a_val (v := (eA64u8 x136)) (u := []) (ld_own (i := ⟨.arr 64 5, 64, 64, (eA64u8 (vrep 64 (0 : Int)))⟩) rfl rfl rfl hl185) hl185.c rfl ?_
        have hl186 : LdOk [] (eA64u8 a3) [] 64 true (eA64u8 a3) := (.nil rfl rfl rfl)
        refine a_val (v := (eA64u8 a3)) (u := []) (ld_own (i := ⟨.arr 64 5, 64, 64, (eA64u8 (vrep 64 (0 : Int)))⟩) rfl rfl rfl hl186) hl186.c rfl ?_
        obtain ⟨r187, hr188, h⟩ := bind_some h
        refine a_call (args := [(.int .i64 a0), (eA64u8 x136), (eA64u8 x136), (eA64u8 a3)]) (u := []) (r := (eA64u8 r187)) rfl rfl (spec_l01MulMod_ok a0 x136 x136 a3 r187 hr188) rfl ?_
        have hs189 : StOk [] (eA64u8 x136) [] 64 (eA64u8 r187) (eA64u8 r187) := (.nil rfl rfl rfl rfl)
        refine a_val (v := .top) (u := [(10, some ⟨(eA64u8 r187), false⟩)]) (st_own (i := ⟨.arr 64 5, 64, 64, (eA64u8 (vrep 64 (0 : Int)))⟩) rfl rfl (fun _ => rfl) rfl hs189) (hs189.c rfl) rfl ?_
        refine a_nil ?_
        refine b_norm ?_
        refine a_next (σ' := ⟨[(0, (.int .i64 a0)), (2, (.int .i64 x134)), (7, (.own 7 [] [])), (8, (.own 8 [] [])), (9, (.own 9 [] [])), (10, (.own 10 [] []))], [(7, some ⟨(eA64u8 a3), false⟩), (8, some ⟨(eA64u8 ((vrep 64 (0 : Int)))), false⟩), (9, some ⟨(eA64u8 x173), false⟩), (10, some ⟨(eA64u8 r187), false⟩)]⟩) (by kernel_rfl) ?_
        refine a_region ?_
        refine a_val (v := (.int .i64 x134)) (u := []) rfl trivial rfl ?_
        refine a_val (v := (.int .i64 (IntKind.i64.wrap (Int.tdiv x134 2)))) (u := []) rfl (by decide) rfl ?_
        refine a_val (v := (.int .i64 (IntKind.i64.wrap (Int.tdiv x134 2)))) (u := []) rfl trivial rfl ?_
        refine a_nil ?_
        cases h
        exact a_again (by kernel_rfl) hX164
      · have h := hy175
        refine a_seq ?_
        refine a_region ?_
        refine a_val (v := (.int .i64 x134)) (u := []) rfl trivial rfl ?_
        refine a_val (v := (.int .i64 (Int.tmod x134 2))) (u := []) rfl (by decide) rfl ?_
        refine a_val (v := (.bool (((Int.tmod x134 2) == 1)))) (u := []) rfl trivial rfl ?_
        refine a_nil ?_
        refine a_next (σ' := ⟨[(0, (.int .i64 a0)), (2, (.int .i64 x134)), (7, (.own 7 [] [])), (8, (.own 8 [] [])), (9, (.own 9 [] [])), (10, (.own 10 [] [])), (25, (.bool (((Int.tmod x134 2) == 1))))], [(7, some ⟨(eA64u8 a3), false⟩), (8, some ⟨(eA64u8 ((vrep 64 (0 : Int)))), false⟩), (9, some ⟨(eA64u8 x135), false⟩), (10, some ⟨(eA64u8 x136), false⟩)]⟩) (by kernel_rfl) ?_
        cases hb177 : ((Int.tmod x134 2) == 1)
        · have h := ite_f hb177 h
          refine a_cond_f rfl ?_
          refine a_skip ?_
          exact j_leaf x135 (Option.some.inj h) (by kernel_rfl)
        · have h := ite_t hb177 h
          refine a_cond_t rfl ?_
          refine a_region ?_
          refine a_val (v := (.int .i64 a0)) (u := []) rfl trivial rfl ?_
          have hl178 : LdOk [] (eA64u8 x135) [] 64 true (eA64u8 x135) := (.nil rfl rfl rfl)
          refine a_val (v := (eA64u8 x135)) (u := []) (ld_own (i := ⟨.arr 64 5, 64, 64, (eA64u8 (vrep 64 (0 : Int)))⟩) rfl rfl rfl hl178) hl178.c rfl ?_
          have hl179 : LdOk [] (eA64u8 x136) [] 64 true (eA64u8 x136) := (.nil rfl rfl rfl)
          refine a_val (v := (eA64u8 x136)) (u := []) (ld_own (i := ⟨.arr 64 5, 64, 64, (eA64u8 (vrep 64 (0 : Int)))⟩) rfl rfl rfl hl179) hl179.c rfl ?_
          have hl180 : LdOk [] (eA64u8 a3) [] 64 true (eA64u8 a3) := (.nil rfl rfl rfl)
          refine a_val (v := (eA64u8 a3)) (u := []) (ld_own (i := ⟨.arr 64 5, 64, 64, (eA64u8 (vrep 64 (0 : Int)))⟩) rfl rfl rfl hl180) hl180.c rfl ?_
          obtain ⟨r181, hr182, h⟩ := bind_some h
          refine a_call (args := [(.int .i64 a0), (eA64u8 x135), (eA64u8 x136), (eA64u8 a3)]) (u := []) (r := (eA64u8 r181)) rfl rfl (spec_l01MulMod_ok a0 x135 x136 a3 r181 hr182) rfl ?_
          have hs183 : StOk [] (eA64u8 x135) [] 64 (eA64u8 r181) (eA64u8 r181) := (.nil rfl rfl rfl rfl)
          refine a_val (v := .top) (u := [(9, some ⟨(eA64u8 r181), false⟩)]) (st_own (i := ⟨.arr 64 5, 64, 64, (eA64u8 (vrep 64 (0 : Int)))⟩) rfl rfl (fun _ => rfl) rfl hs183) (hs183.c rfl) rfl ?_
          refine a_nil ?_
          exact j_leaf r181 (Option.some.inj h) (by kernel_rfl)
end Go.Proofs.Ytcgohoclbjgmkaa
