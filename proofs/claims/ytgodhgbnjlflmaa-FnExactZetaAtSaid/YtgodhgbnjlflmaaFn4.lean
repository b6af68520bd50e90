/- Functions of the program: plain Lean functions, and that the program computes them. Printed by gen.py. -/
import Derived.Test.YtgodhgbnjlflmaaFnT
import Derived.Test.YtgodhgbnjlflmaaFn1
import Derived.Test.YtgodhgbnjlflmaaFn2
import Derived.Test.YtgodhgbnjlflmaaFn3
namespace Go.Proofs.Ytgodhgbnjlflmaa
open Go.Abs Go.Proofs
set_option linter.unusedSimpArgs false
set_option linter.unusedVariables false

def impl_ZetaAt_c : ACode := (.seq (.region 0 [⟨some 4, .alloc 23, none, []⟩, ⟨some 5, .asg 0 (.const (.int .i64 0)) 2, none, []⟩] false) (.seq (.seq (.region 1 [⟨some 12, .mov (.tmp 0), none, []⟩, ⟨some 13, .mov (.tmp 1), none, []⟩, ⟨some 14, .call 0 (.func 63) [(.tmp 12), (.tmp 13), (.const (.int .i64 0)), (.const (.int .i64 40))], none, []⟩, ⟨some 6, .asg 0 (.tmp 14) 2, none, []⟩] false) (.seq (.region 2 [⟨some 15, .mov (.tmp 6), none, []⟩, ⟨some 16, .bin .neq 2 (.tmp 15) (.const (.int .i64 0)), none, []⟩] false) (.cond (.tmp 16) (.seq (.region 3 [⟨some 17, .build 23 [], none, []⟩, ⟨some 18, .mov (.tmp 6), none, []⟩, ⟨none, .store 23 (.tmp 4) (.tmp 17), none, []⟩, ⟨some 5, .asg 0 (.tmp 18) 2, none, []⟩] false) .ret) .skip))) (.seq (.region 4 [⟨some 20, .mov (.tmp 0), none, []⟩, ⟨some 21, .mov (.tmp 1), none, []⟩, ⟨some 22, .call 0 (.func 76) [(.tmp 20), (.tmp 21)], none, []⟩, ⟨some 19, .mov (.tmp 22), none, []⟩, ⟨some 23, .extract (.tmp 19) 0, none, []⟩, ⟨some 24, .extract (.tmp 19) 1, none, []⟩, ⟨some 7, .asg 0 (.tmp 23) 2, none, []⟩, ⟨some 8, .asg 0 (.tmp 24) 2, none, []⟩] false) (.seq (.region 5 [⟨some 25, .mov (.tmp 7), none, []⟩, ⟨some 26, .mov (.tmp 0), none, []⟩, ⟨some 27, .bin .sub 2 (.tmp 26) (.const (.int .i64 1)), none, []⟩, ⟨some 28, .bin .quo 2 (.tmp 25) (.tmp 27), none, []⟩, ⟨some 9, .asg 0 (.tmp 28) 2, none, []⟩] false) (.seq (.block 0 (.seq (.region 6 [⟨some 30, .mov (.tmp 0), none, []⟩, ⟨some 31, .mov (.tmp 9), none, []⟩, ⟨some 32, .call 0 (.func 77) [(.tmp 30), (.tmp 31)], none, []⟩, ⟨some 33, .un .not (.tmp 32), none, []⟩, ⟨some 29, .asg 0 (.tmp 33) 4, none, []⟩] false) (.cond (.tmp 29) (.seq (.region 7 [⟨some 34, .build 23 [], none, []⟩, ⟨none, .store 23 (.tmp 4) (.tmp 34), none, []⟩, ⟨some 5, .asg 0 (.const (.int .i64 2)) 2, none, []⟩] false) .ret) (.seq (.region 8 [⟨some 36, .mov (.tmp 9), none, []⟩, ⟨some 37, .mov (.tmp 1), none, []⟩, ⟨some 38, .bin .mul 2 (.tmp 36) (.tmp 37), none, []⟩, ⟨some 39, .bin .gtr 2 (.tmp 38) (.const (.int .i64 63)), none, []⟩, ⟨some 35, .asg 0 (.tmp 39) 4, none, []⟩] false) (.cond (.tmp 35) (.seq (.region 9 [⟨some 40, .build 23 [], none, []⟩, ⟨none, .store 23 (.tmp 4) (.tmp 40), none, []⟩, ⟨some 5, .asg 0 (.const (.int .i64 3)) 2, none, []⟩] false) .ret) .skip))))) (.seq (.region 10 [⟨some 10, .asg 1 (.const (.slice none 0 0)) 64, none, []⟩] false) (.seq (.seq (.region 11 [⟨some 41, .mov (.tmp 9), none, []⟩, ⟨some 42, .bin .add 2 (.tmp 41) (.const (.int .i64 1)), none, []⟩, ⟨some 43, .mov (.const (.int .i64 0)), none, []⟩] false) (.block 1 (.loop (.seq (.region 12 [⟨some 44, .bin .lss 2 (.tmp 43) (.tmp 42), none, []⟩] false) (.seq (.cond (.tmp 44) .skip (.exit 1)) (.seq (.block 2 (.seq (.region 13 [⟨some 45, .mov (.tmp 43), none, []⟩, ⟨some 11, .asg 0 (.tmp 45) 2, none, []⟩] false) (.region 14 [⟨some 46, .mov (.tmp 0), none, []⟩, ⟨some 47, .mov (.tmp 10), none, []⟩, ⟨some 48, .mov (.tmp 0), none, []⟩, ⟨some 49, .mov (.tmp 11), none, []⟩, ⟨some 50, .mov (.tmp 1), none, []⟩, ⟨some 51, .call 0 (.func 57) [(.tmp 48), (.tmp 49), (.tmp 50)], none, []⟩, ⟨some 52, .call 0 (.func 56) [(.tmp 46), (.tmp 47), (.tmp 51), (.const (.int .i64 1))], none, []⟩, ⟨some 10, .asg 1 (.tmp 52) 64, none, []⟩] false))) (.region 15 [⟨some 53, .bin .add 2 (.tmp 43) (.const (.int .i64 1)), none, []⟩, ⟨some 43, .mov (.tmp 53), none, []⟩] false))))))) (.seq (.region 16 [⟨some 54, .mov (.tmp 10), none, []⟩, ⟨some 55, .call 0 (.func 58) [(.tmp 54)], none, []⟩, ⟨some 56, .extract (.tmp 55) 0, none, []⟩, ⟨some 57, .extract (.tmp 55) 1, none, []⟩, ⟨none, .store 23 (.tmp 4) (.tmp 56), none, []⟩, ⟨some 5, .asg 0 (.tmp 57) 2, none, []⟩] false) .ret))))))))
def impl_ZetaAt_L : Live := [(0, [0, 1]), (1, [0, 1, 4]), (2, [0, 1, 4, 6]), (3, [4, 6]), (4, [0, 1, 4]), (5, [0, 1, 4, 7]), (6, [0, 1, 4, 9]), (7, [4]), (8, [0, 1, 4, 9]), (9, [4]), (10, [0, 1, 4, 9]), (11, [0, 1, 4, 9, 10]), (12, [0, 1, 4, 10, 42, 43]), (13, [0, 1, 4, 10, 42, 43]), (14, [0, 1, 4, 10, 11, 42, 43]), (15, [0, 1, 4, 10, 42, 43]), (16, [4, 10]), (100016, [0, 1, 4, 6, 16]), (100029, [0, 1, 4, 9, 29]), (100035, [0, 1, 4, 9, 35]), (100044, [0, 1, 4, 10, 42, 43, 44])]
theorem impl_ZetaAt_body : Try.f29.body = some (Try.f29.body.getD .skip) := by kernel_rfl
theorem impl_ZetaAt_strip : strip [(10, 1)] (Try.f29.body.getD .skip) = impl_ZetaAt_c := by kernel_rfl
noncomputable def impl_ZetaAt_l1 (x40 : Int) (a0 : Int) (a1 : Int) (x47 : (List Int)) (x48 : Int) : Option (((List Int) × Int) ⊕ (List Int)) :=
  (if (decide (x48 < x40)) then (Option.bind (impl_prime_powerSum a0 x48 a1) fun r58 => (Option.bind (impl_prime_combine a0 x47 r58 1) fun r60 => (some (.inl ((r60, IntKind.i64.wrap (x48 + 1))))))) else (some (.inr x47)))
noncomputable def impl_ZetaAt (a0 : Int) (a1 : Int) : Option ((Vec Int 64) × Int) :=
  (Option.bind (impl_numberCode a0 a1 0 40) fun r1 => (if (r1 != 0) then (some (((vrep 64 (0 : Int)), r1))) else (Option.bind (impl_DigitSum a0 a1) fun r4 => (ifp ((IntKind.i64.wrap (a0 - 1)) ≠ 0) ((Option.bind (impl_prime_isSummed a0 (IntKind.i64.wrap (Int.tdiv r4.1 (IntKind.i64.wrap (a0 - 1))))) fun r7 => (if (!r7) then (some (((vrep 64 (0 : Int)), 2))) else (letp (IntKind.i64.wrap ((IntKind.i64.wrap (Int.tdiv r4.1 (IntKind.i64.wrap (a0 - 1)))) * a1)) fun x10 => (if (decide (x10 > 63)) then (some (((vrep 64 (0 : Int)), 3))) else (Option.bind (α := (List Int)) ((letp (IntKind.i64.wrap ((IntKind.i64.wrap (Int.tdiv r4.1 (IntKind.i64.wrap (a0 - 1)))) + 1)) fun x40 => (loopM (fun s : ((List Int) × Int) => impl_ZetaAt_l1 x40 a0 a1 s.1 s.2) ([], 0)))) fun x36 => (Option.bind (impl_told x36) fun r63 => (some (r63.1, r63.2)))))))))))))
set_option maxHeartbeats 16000000 in
theorem impl_ZetaAt_ok (a0 : Int) (a1 : Int) (r : ((Vec Int 64) × Int)) (h : impl_ZetaAt a0 a1 = some r) : Den Try.prog 29 [(.int .i64 a0), (.int .i64 a1)] { r := (.tuple [(eA64u8 r.1), (.int .i64 r.2)]) } := by
  refine den_of (rs := [(eA64u8 r.1), (.int .i64 r.2)]) (ac := impl_ZetaAt_c) (L := impl_ZetaAt_L) (n := 58) (m := [(10, 1)]) good Try.func29 impl_ZetaAt_body (by kernel_rfl) Try.ntmps29 rfl rfl impl_ZetaAt_strip rfl rfl ?_
  refine a_st (σ' := ⟨[(0, (.int .i64 a0)), (1, (.int .i64 a1))], []⟩) rfl ?_
  unfold impl_ZetaAt_c
  refine a_seq ?_
  refine a_region ?_
  refine a_val (v := (.own 1400 [] [])) (u := [(1400, some ⟨(eA64u8 ((vrep 64 (0 : Int)))), false⟩)]) rfl trivial rfl ?_
  refine a_val (v := (.int .i64 0)) (u := []) rfl trivial rfl ?_
  refine a_nil ?_
  refine a_next (σ' := ⟨[(0, (.int .i64 a0)), (1, (.int .i64 a1)), (4, (.own 4 [] []))], [(4, some ⟨(eA64u8 ((vrep 64 (0 : Int)))), false⟩)]⟩) rfl ?_
  refine a_seq ?_
  refine a_seq ?_
  refine a_region ?_
  refine a_val (v := (.int .i64 a0)) (u := []) rfl trivial rfl ?_
  refine a_val (v := (.int .i64 a1)) (u := []) rfl trivial rfl ?_
  obtain ⟨r1, hr2, h⟩ := bind_some h
  refine a_call (args := [(.int .i64 a0), (.int .i64 a1), (.int .i64 0), (.int .i64 40)]) (u := []) (r := (.int .i64 r1)) rfl rfl (impl_numberCode_ok a0 a1 0 40 r1 hr2) rfl ?_
  refine a_val (v := (.int .i64 r1)) (u := []) rfl trivial rfl ?_
  refine a_nil ?_
  refine a_next (σ' := ⟨[(0, (.int .i64 a0)), (1, (.int .i64 a1)), (4, (.own 4 [] [])), (6, (.int .i64 r1))], [(4, some ⟨(eA64u8 ((vrep 64 (0 : Int)))), false⟩)]⟩) rfl ?_
  refine a_seq ?_
  refine a_region ?_
  refine a_val (v := (.int .i64 r1)) (u := []) rfl trivial rfl ?_
  refine a_val (v := (.bool (r1 != 0))) (u := []) rfl trivial rfl ?_
  refine a_nil ?_
  refine a_next (σ' := ⟨[(0, (.int .i64 a0)), (1, (.int .i64 a1)), (4, (.own 4 [] [])), (6, (.int .i64 r1)), (16, (.bool (r1 != 0)))], [(4, some ⟨(eA64u8 ((vrep 64 (0 : Int)))), false⟩)]⟩) rfl ?_
  cases hb3 : (r1 != 0)
  · have h := ite_f hb3 h
    refine a_cond_f rfl ?_
    refine a_skip ?_
    refine a_next (σ' := ⟨[(0, (.int .i64 a0)), (1, (.int .i64 a1)), (4, (.own 4 [] []))], [(4, some ⟨(eA64u8 ((vrep 64 (0 : Int)))), false⟩)]⟩) rfl ?_
    refine a_seq ?_
    refine a_region ?_
    refine a_val (v := (.int .i64 a0)) (u := []) rfl trivial rfl ?_
    refine a_val (v := (.int .i64 a1)) (u := []) rfl trivial rfl ?_
    obtain ⟨r4, hr5, h⟩ := bind_some h
    refine a_call (args := [(.int .i64 a0), (.int .i64 a1)]) (u := []) (r := (.tuple [(.int .i64 r4.1), (.int .i64 r4.2)])) rfl rfl (impl_DigitSum_ok a0 a1 r4 hr5) rfl ?_
    refine a_val (v := (.tuple [(.int .i64 r4.1), (.int .i64 r4.2)])) (u := []) rfl trivial rfl ?_
    refine a_val (v := (.int .i64 r4.1)) (u := []) rfl (Nat.le_of_ble_eq_true rfl) rfl ?_
    refine a_val (v := (.int .i64 r4.2)) (u := []) rfl (Nat.le_of_ble_eq_true rfl) rfl ?_
    refine a_val (v := (.int .i64 r4.1)) (u := []) rfl trivial rfl ?_
    refine a_val (v := (.int .i64 r4.2)) (u := []) rfl trivial rfl ?_
    refine a_nil ?_
    refine a_next (σ' := ⟨[(0, (.int .i64 a0)), (1, (.int .i64 a1)), (4, (.own 4 [] [])), (7, (.int .i64 r4.1))], [(4, some ⟨(eA64u8 ((vrep 64 (0 : Int)))), false⟩)]⟩) rfl ?_
    refine a_seq ?_
    refine a_region ?_
    refine a_val (v := (.int .i64 r4.1)) (u := []) rfl trivial rfl ?_
    refine a_val (v := (.int .i64 a0)) (u := []) rfl trivial rfl ?_
    refine a_val (v := (.int .i64 (IntKind.i64.wrap (a0 - 1)))) (u := []) rfl trivial rfl ?_
    obtain ⟨hc6, h⟩ := ifp_some h
    refine a_val (v := (.int .i64 (IntKind.i64.wrap (Int.tdiv r4.1 (IntKind.i64.wrap (a0 - 1)))))) (u := []) rfl hc6 rfl ?_
    refine a_val (v := (.int .i64 (IntKind.i64.wrap (Int.tdiv r4.1 (IntKind.i64.wrap (a0 - 1)))))) (u := []) rfl trivial rfl ?_
    refine a_nil ?_
    refine a_next (σ' := ⟨[(0, (.int .i64 a0)), (1, (.int .i64 a1)), (4, (.own 4 [] [])), (9, (.int .i64 (IntKind.i64.wrap (Int.tdiv r4.1 (IntKind.i64.wrap (a0 - 1))))))], [(4, some ⟨(eA64u8 ((vrep 64 (0 : Int)))), false⟩)]⟩) rfl ?_
    refine a_seq ?_
    refine a_block ?_
    refine a_seq ?_
    refine a_region ?_
    refine a_val (v := (.int .i64 a0)) (u := []) rfl trivial rfl ?_
    refine a_val (v := (.int .i64 (IntKind.i64.wrap (Int.tdiv r4.1 (IntKind.i64.wrap (a0 - 1)))))) (u := []) rfl trivial rfl ?_
    obtain ⟨r7, hr8, h⟩ := bind_some h
    refine a_call (args := [(.int .i64 a0), (.int .i64 (IntKind.i64.wrap (Int.tdiv r4.1 (IntKind.i64.wrap (a0 - 1)))))]) (u := []) (r := (.bool r7)) rfl rfl (impl_prime_isSummed_ok a0 (IntKind.i64.wrap (Int.tdiv r4.1 (IntKind.i64.wrap (a0 - 1)))) r7 hr8) rfl ?_
    refine a_val (v := (.bool (!r7))) (u := []) rfl trivial rfl ?_
    refine a_val (v := (.bool (!r7))) (u := []) rfl trivial rfl ?_
    refine a_nil ?_
    refine a_next (σ' := ⟨[(0, (.int .i64 a0)), (1, (.int .i64 a1)), (4, (.own 4 [] [])), (9, (.int .i64 (IntKind.i64.wrap (Int.tdiv r4.1 (IntKind.i64.wrap (a0 - 1)))))), (29, (.bool (!r7)))], [(4, some ⟨(eA64u8 ((vrep 64 (0 : Int)))), false⟩)]⟩) rfl ?_
    cases hb9 : (!r7)
    · have h := ite_f hb9 h
      refine a_cond_f rfl ?_
      refine a_seq ?_
      refine a_region ?_
      refine a_val (v := (.int .i64 (IntKind.i64.wrap (Int.tdiv r4.1 (IntKind.i64.wrap (a0 - 1)))))) (u := []) rfl trivial rfl ?_
      refine a_val (v := (.int .i64 a1)) (u := []) rfl trivial rfl ?_
      obtain ⟨x10, hx11, h⟩ := letp_some h
      refine a_val' (v := (.int .i64 (IntKind.i64.wrap ((IntKind.i64.wrap (Int.tdiv r4.1 (IntKind.i64.wrap (a0 - 1)))) * a1)))) (v' := (.int .i64 x10)) (u := []) (u' := []) rfl (congrArg (fun z => ((.int .i64 z) : AV)) hx11) rfl trivial rfl ?_
      refine a_val (v := (.bool ((decide (x10 > 63))))) (u := []) rfl trivial rfl ?_
      refine a_val (v := (.bool ((decide (x10 > 63))))) (u := []) rfl trivial rfl ?_
      refine a_nil ?_
      refine a_next (σ' := ⟨[(0, (.int .i64 a0)), (1, (.int .i64 a1)), (4, (.own 4 [] [])), (9, (.int .i64 (IntKind.i64.wrap (Int.tdiv r4.1 (IntKind.i64.wrap (a0 - 1)))))), (35, (.bool ((decide (x10 > 63)))))], [(4, some ⟨(eA64u8 ((vrep 64 (0 : Int)))), false⟩)]⟩) rfl ?_
      cases hb12 : (decide (x10 > 63))
      · have h := ite_f hb12 h
        refine a_cond_f rfl ?_
        refine a_skip ?_
        refine b_norm ?_
        refine a_next (σ' := ⟨[(0, (.int .i64 a0)), (1, (.int .i64 a1)), (4, (.own 4 [] [])), (9, (.int .i64 (IntKind.i64.wrap (Int.tdiv r4.1 (IntKind.i64.wrap (a0 - 1))))))], [(4, some ⟨(eA64u8 ((vrep 64 (0 : Int)))), false⟩)]⟩) rfl ?_
        refine a_seq ?_
        refine a_region ?_
        refine a_val (v := (eSi64 ([]))) (u := []) rfl trivial rfl ?_
        refine a_nil ?_
        refine a_next (σ' := ⟨[(0, (.int .i64 a0)), (1, (.int .i64 a1)), (4, (.own 4 [] [])), (9, (.int .i64 (IntKind.i64.wrap (Int.tdiv r4.1 (IntKind.i64.wrap (a0 - 1)))))), (10, (eSi64 ([])))], [(4, some ⟨(eA64u8 ((vrep 64 (0 : Int)))), false⟩)]⟩) rfl ?_
        obtain ⟨y37, hy38, hk39⟩ := bind_some h
        clear h
        refine a_join (emb := fun (s : (List Int)) => ⟨[(4, (.own 4 [] [])), (10, (eSi64 s))], [(4, some ⟨(eA64u8 ((vrep 64 (0 : Int)))), false⟩)]⟩) (pre := fun s => s = y37) ?_ ?_
        · rintro x36 rfl
          have h := hk39
          refine a_st (σ' := ⟨[(4, (.own 4 [] [])), (10, (eSi64 x36))], [(4, some ⟨(eA64u8 ((vrep 64 (0 : Int)))), false⟩)]⟩) rfl ?_
          refine a_seq ?_
          refine a_region ?_
          refine a_val (v := (eSi64 x36)) (u := []) rfl trivial rfl ?_
          obtain ⟨r63, hr64, h⟩ := bind_some h
          refine a_call (args := [(eSi64 x36)]) (u := []) (r := (.tuple [(eA64u8 r63.1), (.int .i64 r63.2)])) rfl rfl (impl_told_ok x36 r63 hr64) rfl ?_
          refine a_val (v := (eA64u8 r63.1)) (u := []) rfl (Nat.le_of_ble_eq_true rfl) rfl ?_
          refine a_val (v := (.int .i64 r63.2)) (u := []) rfl (Nat.le_of_ble_eq_true rfl) rfl ?_
          have hs65 : StOk [] (eA64u8 ((vrep 64 (0 : Int)))) [] 64 (eA64u8 r63.1) (eA64u8 r63.1) := (.nil rfl rfl rfl rfl)
          refine a_val (v := .top) (u := [(4, some ⟨(eA64u8 r63.1), false⟩)]) (st_own (i := ⟨.arr 64 5, 64, 64, (eA64u8 (vrep 64 (0 : Int)))⟩) rfl rfl (fun _ => rfl) rfl hs65) (hs65.c rfl) rfl ?_
          refine a_val (v := (.int .i64 r63.2)) (u := []) rfl trivial rfl ?_
          refine a_nil ?_
          refine a_next rfl ?_
          refine a_ret ?_
          have hl66 : LdOk [] (eA64u8 r63.1) [] 64 true (eA64u8 r63.1) := (.nil rfl rfl rfl)
          refine ⟨.inr rfl, ?_⟩
          rw [Try.results29]
          cases h
          exact ⟨_, _, _, _, _, ld_own (i := ⟨.arr 64 5, 64, 64, (eA64u8 (vrep 64 (0 : Int)))⟩) rfl rfl rfl hl66, hl66.c, .inl ⟨rfl, .inl rfl⟩, rfl, ⟨_, _, _, _, _, rfl, trivial, .inl ⟨rfl, .inl rfl⟩, rfl, rfl⟩⟩
        · have h := hy38
          refine a_seq ?_
          refine a_region ?_
          refine a_val (v := (.int .i64 (IntKind.i64.wrap (Int.tdiv r4.1 (IntKind.i64.wrap (a0 - 1)))))) (u := []) rfl trivial rfl ?_
          obtain ⟨x40, hx41, h⟩ := letp_some h
          refine a_val' (v := (.int .i64 (IntKind.i64.wrap ((IntKind.i64.wrap (Int.tdiv r4.1 (IntKind.i64.wrap (a0 - 1)))) + 1)))) (v' := (.int .i64 x40)) (u := []) (u' := []) rfl (congrArg (fun z => ((.int .i64 z) : AV)) hx41) rfl trivial rfl ?_
          refine a_val (v := (.int .i64 0)) (u := []) rfl trivial rfl ?_
          refine a_nil ?_
          refine a_next (σ' := ⟨[(0, (.int .i64 a0)), (1, (.int .i64 a1)), (4, (.own 4 [] [])), (10, (eSi64 ([]))), (42, (.int .i64 x40)), (43, (.int .i64 0))], [(4, some ⟨(eA64u8 ((vrep 64 (0 : Int)))), false⟩)]⟩) rfl ?_
          refine a_block ?_
          refine a_loop (emb := fun (s : ((List Int) × Int)) => ⟨[(0, (.int .i64 a0)), (1, (.int .i64 a1)), (4, (.own 4 [] [])), (10, (eSi64 s.1)), (42, (.int .i64 x40)), (43, (.int .i64 s.2))], [(4, some ⟨(eA64u8 ((vrep 64 (0 : Int)))), false⟩)]⟩) (body := (fun s : ((List Int) × Int) => impl_ZetaAt_l1 x40 a0 a1 s.1 s.2)) (G := fun q => some q = some y37) h rfl ?_ rfl
          rintro X54 ⟨x47, x48⟩ x55 h hX56
          have h : impl_ZetaAt_l1 x40 a0 a1 x47 x48 = some x55 := h
          refine a_st (σ' := ⟨[(0, (.int .i64 a0)), (1, (.int .i64 a1)), (4, (.own 4 [] [])), (10, (eSi64 x47)), (42, (.int .i64 x40)), (43, (.int .i64 x48))], [(4, some ⟨(eA64u8 ((vrep 64 (0 : Int)))), false⟩)]⟩) rfl ?_
          refine a_seq ?_
          refine a_region ?_
          refine a_val (v := (.bool ((decide (x48 < x40))))) (u := []) rfl trivial rfl ?_
          refine a_nil ?_
          refine a_next (σ' := ⟨[(0, (.int .i64 a0)), (1, (.int .i64 a1)), (4, (.own 4 [] [])), (10, (eSi64 x47)), (42, (.int .i64 x40)), (43, (.int .i64 x48)), (44, (.bool ((decide (x48 < x40)))))], [(4, some ⟨(eA64u8 ((vrep 64 (0 : Int)))), false⟩)]⟩) rfl ?_
          refine a_seq ?_
          cases hb57 : (decide (x48 < x40))
          · have h := ite_f hb57 h
            refine a_cond_f rfl ?_
            refine a_exit ?_
            refine t_exit ?_
            cases h
            have h := hX56
            refine t_exit ?_
            refine b_exit ?_
            exact j_leaf x47 (Option.some.inj h) rfl
          · have h := ite_t hb57 h
            refine a_cond_t rfl ?_
            refine a_skip ?_
            refine a_next (σ' := ⟨[(0, (.int .i64 a0)), (1, (.int .i64 a1)), (4, (.own 4 [] [])), (10, (eSi64 x47)), (42, (.int .i64 x40)), (43, (.int .i64 x48))], [(4, some ⟨(eA64u8 ((vrep 64 (0 : Int)))), false⟩)]⟩) rfl ?_
            refine a_seq ?_
            refine a_block ?_
            refine a_seq ?_
            refine a_region ?_
            refine a_val (v := (.int .i64 x48)) (u := []) rfl trivial rfl ?_
            refine a_val (v := (.int .i64 x48)) (u := []) rfl trivial rfl ?_
            refine a_nil ?_
            refine a_next (σ' := ⟨[(0, (.int .i64 a0)), (1, (.int .i64 a1)), (4, (.own 4 [] [])), (10, (eSi64 x47)), (11, (.int .i64 x48)), (42, (.int .i64 x40)), (43, (.int .i64 x48))], [(4, some ⟨(eA64u8 ((vrep 64 (0 : Int)))), false⟩)]⟩) rfl ?_
            refine a_region ?_
            refine a_val (v := (.int .i64 a0)) (u := []) rfl trivial rfl ?_
            refine a_val (v := (eSi64 x47)) (u := []) rfl trivial rfl ?_
            refine a_val (v := (.int .i64 a0)) (u := []) rfl trivial rfl ?_
            refine a_val (v := (.int .i64 x48)) (u := []) rfl trivial rfl ?_
            refine a_val (v := (.int .i64 a1)) (u := []) rfl trivial rfl ?_
            obtain ⟨r58, hr59, h⟩ := bind_some h
            refine a_call (args := [(.int .i64 a0), (.int .i64 x48), (.int .i64 a1)]) (u := []) (r := (eSi64 r58)) rfl rfl (impl_prime_powerSum_ok a0 x48 a1 r58 hr59) rfl ?_
            obtain ⟨r60, hr61, h⟩ := bind_some h
            refine a_call (args := [(.int .i64 a0), (eSi64 x47), (eSi64 r58), (.int .i64 1)]) (u := []) (r := (eSi64 r60)) rfl rfl (impl_prime_combine_ok a0 x47 r58 1 r60 hr61) rfl ?_
            refine a_val (v := (eSi64 r60)) (u := []) rfl trivial rfl ?_
            refine a_nil ?_
            refine b_norm ?_
            refine a_next (σ' := ⟨[(0, (.int .i64 a0)), (1, (.int .i64 a1)), (4, (.own 4 [] [])), (10, (eSi64 r60)), (42, (.int .i64 x40)), (43, (.int .i64 x48))], [(4, some ⟨(eA64u8 ((vrep 64 (0 : Int)))), false⟩)]⟩) rfl ?_
            refine a_region ?_
            refine a_val (v := (.int .i64 (IntKind.i64.wrap (x48 + 1)))) (u := []) rfl trivial rfl ?_
            refine a_val (v := (.int .i64 (IntKind.i64.wrap (x48 + 1)))) (u := []) rfl trivial rfl ?_
            refine a_nil ?_
            cases h
            exact a_again rfl hX56
      · have h := ite_t hb12 h
        refine a_cond_t rfl ?_
        refine a_seq ?_
        refine a_region ?_
        refine a_val (v := (eA64u8 ((vrep 64 (0 : Int))))) (u := []) rfl ⟨⟨_, rfl, rfl⟩, all_nil⟩ rfl ?_
        have hs67 : StOk [] (eA64u8 ((vrep 64 (0 : Int)))) [] 64 (eA64u8 ((vrep 64 (0 : Int)))) (eA64u8 ((vrep 64 (0 : Int)))) := (.nil rfl rfl rfl rfl)
        refine a_val (v := .top) (u := [(4, some ⟨(eA64u8 ((vrep 64 (0 : Int)))), false⟩)]) (st_own (i := ⟨.arr 64 5, 64, 64, (eA64u8 (vrep 64 (0 : Int)))⟩) rfl rfl (fun _ => rfl) rfl hs67) (hs67.c rfl) rfl ?_
        refine a_val (v := (.int .i64 3)) (u := []) rfl trivial rfl ?_
        refine a_nil ?_
        refine a_next rfl ?_
        refine a_ret ?_
        refine b_ret ?_
        refine t_ret ?_
        have hl68 : LdOk [] (eA64u8 ((vrep 64 (0 : Int)))) [] 64 true (eA64u8 ((vrep 64 (0 : Int)))) := (.nil rfl rfl rfl)
        refine ⟨.inr rfl, ?_⟩
        rw [Try.results29]
        cases h
        exact ⟨_, _, _, _, _, ld_own (i := ⟨.arr 64 5, 64, 64, (eA64u8 (vrep 64 (0 : Int)))⟩) rfl rfl rfl hl68, hl68.c, .inl ⟨rfl, .inl rfl⟩, rfl, ⟨_, _, _, _, _, rfl, trivial, .inl ⟨rfl, .inl rfl⟩, rfl, rfl⟩⟩
    · have h := ite_t hb9 h
      refine a_cond_t rfl ?_
      refine a_seq ?_
      refine a_region ?_
      refine a_val (v := (eA64u8 ((vrep 64 (0 : Int))))) (u := []) rfl ⟨⟨_, rfl, rfl⟩, all_nil⟩ rfl ?_
      have hs69 : StOk [] (eA64u8 ((vrep 64 (0 : Int)))) [] 64 (eA64u8 ((vrep 64 (0 : Int)))) (eA64u8 ((vrep 64 (0 : Int)))) := (.nil rfl rfl rfl rfl)
      refine a_val (v := .top) (u := [(4, some ⟨(eA64u8 ((vrep 64 (0 : Int)))), false⟩)]) (st_own (i := ⟨.arr 64 5, 64, 64, (eA64u8 (vrep 64 (0 : Int)))⟩) rfl rfl (fun _ => rfl) rfl hs69) (hs69.c rfl) rfl ?_
      refine a_val (v := (.int .i64 2)) (u := []) rfl trivial rfl ?_
      refine a_nil ?_
      refine a_next rfl ?_
      refine a_ret ?_
      refine b_ret ?_
      refine t_ret ?_
      have hl70 : LdOk [] (eA64u8 ((vrep 64 (0 : Int)))) [] 64 true (eA64u8 ((vrep 64 (0 : Int)))) := (.nil rfl rfl rfl)
      refine ⟨.inr rfl, ?_⟩
      rw [Try.results29]
      cases h
      exact ⟨_, _, _, _, _, ld_own (i := ⟨.arr 64 5, 64, 64, (eA64u8 (vrep 64 (0 : Int)))⟩) rfl rfl rfl hl70, hl70.c, .inl ⟨rfl, .inl rfl⟩, rfl, ⟨_, _, _, _, _, rfl, trivial, .inl ⟨rfl, .inl rfl⟩, rfl, rfl⟩⟩
  · have h := ite_t hb3 h
    refine a_cond_t rfl ?_
    refine a_seq ?_
    refine a_region ?_
    refine a_val (v := (eA64u8 ((vrep 64 (0 : Int))))) (u := []) rfl ⟨⟨_, rfl, rfl⟩, all_nil⟩ rfl ?_
    refine a_val (v := (.int .i64 r1)) (u := []) rfl trivial rfl ?_
    have hs71 : StOk [] (eA64u8 ((vrep 64 (0 : Int)))) [] 64 (eA64u8 ((vrep 64 (0 : Int)))) (eA64u8 ((vrep 64 (0 : Int)))) := (.nil rfl rfl rfl rfl)
    refine a_val (v := .top) (u := [(4, some ⟨(eA64u8 ((vrep 64 (0 : Int)))), false⟩)]) (st_own (i := ⟨.arr 64 5, 64, 64, (eA64u8 (vrep 64 (0 : Int)))⟩) rfl rfl (fun _ => rfl) rfl hs71) (hs71.c rfl) rfl ?_
    refine a_val (v := (.int .i64 r1)) (u := []) rfl trivial rfl ?_
    refine a_nil ?_
    refine a_next rfl ?_
    refine a_ret ?_
    refine t_ret ?_
    have hl72 : LdOk [] (eA64u8 ((vrep 64 (0 : Int)))) [] 64 true (eA64u8 ((vrep 64 (0 : Int)))) := (.nil rfl rfl rfl)
    refine ⟨.inr rfl, ?_⟩
    rw [Try.results29]
    cases h
    exact ⟨_, _, _, _, _, ld_own (i := ⟨.arr 64 5, 64, 64, (eA64u8 (vrep 64 (0 : Int)))⟩) rfl rfl rfl hl72, hl72.c, .inl ⟨rfl, .inl rfl⟩, rfl, ⟨_, _, _, _, _, rfl, trivial, .inl ⟨rfl, .inl rfl⟩, rfl, rfl⟩⟩
def laws_eqPoly_c : ACode := (.seq (.region 0 [⟨some 2, .box 23 (.tmp 0), none, []⟩, ⟨some 3, .box 23 (.tmp 1), none, []⟩, ⟨some 4, .asg 0 (.const (.bool false)) 4, none, []⟩] false) (.seq (.seq (.region 1 [⟨some 5, .asg 0 (.const (.int .i64 0)) 3, none, []⟩] false) (.block 0 (.loop (.seq (.seq (.region 2 [⟨some 6, .mov (.tmp 5), none, []⟩, ⟨some 7, .bin .lss 3 (.tmp 6) (.const (.int .i64 64)), none, []⟩] false) (.cond (.tmp 7) .skip (.exit 0))) (.seq (.block 1 (.seq (.region 4 [⟨some 10, .mov (.tmp 5), none, []⟩, ⟨some 11, .indexAddr 23 (.tmp 2) (.tmp 10), none, [0]⟩, ⟨some 12, .load 5 (.tmp 11), none, [1]⟩, ⟨some 13, .mov (.tmp 5), none, []⟩, ⟨some 14, .indexAddr 23 (.tmp 3) (.tmp 13), none, [3]⟩, ⟨some 15, .load 5 (.tmp 14), none, [4]⟩, ⟨some 16, .bin .neq 5 (.tmp 12) (.tmp 15), none, [2, 5]⟩] true) (.cond (.tmp 16) (.seq (.region 5 [⟨some 4, .asg 0 (.const (.bool false)) 4, none, []⟩] false) .ret) .skip))) (.region 3 [⟨some 8, .mov (.tmp 5), none, []⟩, ⟨some 9, .bin .add 3 (.tmp 8) (.const (.int .i64 1)), none, []⟩, ⟨some 5, .asg 0 (.tmp 9) 3, none, []⟩] false)))))) (.seq (.region 6 [⟨some 4, .asg 0 (.const (.bool true)) 4, none, []⟩] false) .ret)))
def laws_eqPoly_L : Live := [(0, [0, 1]), (1, [2, 3]), (2, [2, 3, 5]), (3, [2, 3, 5]), (4, [2, 3, 5]), (5, []), (6, []), (100007, [2, 3, 5, 7]), (100016, [2, 3, 5, 16])]
theorem laws_eqPoly_body : Try.f17.body = some (Try.f17.body.getD .skip) := by kernel_rfl
theorem laws_eqPoly_strip : strip [] (Try.f17.body.getD .skip) = laws_eqPoly_c := by kernel_rfl
noncomputable def laws_eqPoly_l1 (a0 : (Vec Int 64)) (a1 : (Vec Int 64)) (x49 : Int) : Option (Int ⊕ (Unit ⊕ Bool)) :=
  (if (decide (x49 < 64)) then (ifp (0 ≤ x49 ∧ x49 < ((64 : Nat) : Int)) ((ifp (0 ≤ x49 ∧ x49 < ((64 : Nat) : Int)) ((if ((rd a0.1 x49.toNat) != (rd a1.1 x49.toNat)) then (some (.inr (.inr false))) else (some (.inl (IntKind.i64.wrap (x49 + 1))))))))) else (some (.inr (((.inl ()))))))
noncomputable def laws_eqPoly (a0 : (Vec Int 64)) (a1 : (Vec Int 64)) : Option Bool :=
  (Option.bind (α := (Unit ⊕ Bool)) ((loopM (fun s : Int => laws_eqPoly_l1 a0 a1 s) 0)) fun z => match z with | .inl _ => (some true) | .inr r74 => (some r74))
set_option maxHeartbeats 16000000 in
theorem laws_eqPoly_ok (a0 : (Vec Int 64)) (a1 : (Vec Int 64)) (r : Bool) (h : laws_eqPoly a0 a1 = some r) : Den Try.prog 17 [(eA64u8 a0), (eA64u8 a1)] { r := (.bool r) } := by
  refine den_of (rs := [(.bool r)]) (ac := laws_eqPoly_c) (L := laws_eqPoly_L) (n := 17) (m := []) good Try.func17 laws_eqPoly_body (by kernel_rfl) Try.ntmps17 rfl rfl laws_eqPoly_strip rfl rfl ?_
  refine a_st (σ' := ⟨[(0, (eA64u8 a0)), (1, (eA64u8 a1))], []⟩) rfl ?_
  unfold laws_eqPoly_c
  refine a_seq ?_
  refine a_region ?_
  refine a_val (v := (.own 1200 [] [])) (u := [(1200, some ⟨(eA64u8 a0), false⟩)]) rfl trivial rfl ?_
  refine a_val (v := (.own 1300 [] [])) (u := [(1300, some ⟨(eA64u8 a1), false⟩)]) rfl trivial rfl ?_
  refine a_val (v := (.bool false)) (u := []) rfl trivial rfl ?_
  refine a_nil ?_
  refine a_next (σ' := ⟨[(2, (.own 2 [] [])), (3, (.own 3 [] []))], [(2, some ⟨(eA64u8 a0), false⟩), (3, some ⟨(eA64u8 a1), false⟩)]⟩) rfl ?_
  obtain ⟨y36, hy37, hk38⟩ := bind_some h
  clear h
  refine a_join (emb := fun (s : Unit) => ⟨[], []⟩) (pre := fun s => (.inl s) = y36) ?_ ?_
  · rintro _ rfl
    have h := hk38
    refine a_st (σ' := ⟨[], []⟩) rfl ?_
    refine a_seq ?_
    refine a_region ?_
    refine a_val (v := (.bool true)) (u := []) rfl trivial rfl ?_
    refine a_nil ?_
    refine a_next rfl ?_
    refine a_ret ?_
    refine ⟨.inr rfl, ?_⟩
    rw [Try.results17]
    cases h
    exact ⟨_, _, _, _, _, rfl, trivial, .inl ⟨rfl, .inl rfl⟩, rfl, rfl⟩
  · have h := hy37
    refine a_seq ?_
    refine a_region ?_
    refine a_val (v := (.int .i64 0)) (u := []) rfl trivial rfl ?_
    refine a_nil ?_
    refine a_next (σ' := ⟨[(2, (.own 2 [] [])), (3, (.own 3 [] [])), (5, (.int .i64 0))], [(2, some ⟨(eA64u8 a0), false⟩), (3, some ⟨(eA64u8 a1), false⟩)]⟩) rfl ?_
    refine a_block ?_
    refine a_loop (emb := fun (s : Int) => ⟨[(2, (.own 2 [] [])), (3, (.own 3 [] [])), (5, (.int .i64 s))], [(2, some ⟨(eA64u8 a0), false⟩), (3, some ⟨(eA64u8 a1), false⟩)]⟩) (body := (fun s : Int => laws_eqPoly_l1 a0 a1 s)) (G := fun q => some q = some y36) h rfl ?_ rfl
    rintro X60 x49 x61 h hX62
    have h : laws_eqPoly_l1 a0 a1 x49 = some x61 := h
    refine a_st (σ' := ⟨[(2, (.own 2 [] [])), (3, (.own 3 [] [])), (5, (.int .i64 x49))], [(2, some ⟨(eA64u8 a0), false⟩), (3, some ⟨(eA64u8 a1), false⟩)]⟩) rfl ?_
    refine a_seq ?_
    refine a_seq ?_
    refine a_region ?_
    refine a_val (v := (.int .i64 x49)) (u := []) rfl trivial rfl ?_
    refine a_val (v := (.bool ((decide (x49 < 64))))) (u := []) rfl trivial rfl ?_
    refine a_nil ?_
    refine a_next (σ' := ⟨[(2, (.own 2 [] [])), (3, (.own 3 [] [])), (5, (.int .i64 x49)), (7, (.bool ((decide (x49 < 64)))))], [(2, some ⟨(eA64u8 a0), false⟩), (3, some ⟨(eA64u8 a1), false⟩)]⟩) rfl ?_
    cases hb63 : (decide (x49 < 64))
    · have h := ite_f hb63 h
      refine a_cond_f rfl ?_
      refine a_exit ?_
      refine t_exit ?_
      cases h
      have h := hX62
      refine t_exit ?_
      refine b_exit ?_
      exact j_leaf () (Option.some.inj h) rfl
    · have h := ite_t hb63 h
      refine a_cond_t rfl ?_
      refine a_skip ?_
      refine a_next (σ' := ⟨[(2, (.own 2 [] [])), (3, (.own 3 [] [])), (5, (.int .i64 x49))], [(2, some ⟨(eA64u8 a0), false⟩), (3, some ⟨(eA64u8 a1), false⟩)]⟩) rfl ?_
      refine a_seq ?_
      refine a_block ?_
      refine a_seq ?_
      refine a_draw [⟨[], [], [], []⟩, ⟨[2], [], [2], [0]⟩, ⟨[2], [], [], [0, 1]⟩, ⟨[], [], [], []⟩, ⟨[3], [], [3], [3]⟩, ⟨[3], [], [], [3, 4]⟩, ⟨[], [], [], [0, 1, 2, 3, 4, 5]⟩] (by kernel_rfl) ?_
      refine d_cons ?_
      refine a_val (v := (.int .i64 x49)) (u := []) rfl trivial rfl ?_
      refine d_next rfl ?_
      refine d_cons ?_
      obtain ⟨hc68, h⟩ := ifp_some h
      refine a_val (v := (.own 2 [x49.toNat] [x49.toNat * 1])) (u := []) rfl hc68 rfl ?_
      refine d_next rfl ?_
      refine d_cons ?_
      have hl69 : LdOk [x49.toNat] (eA64u8 a0) [x49.toNat * 1] 1 false (.int .u8 (rd a0.1 x49.toNat)) := (.arr (vlt a0 hc68) rfl (.nil rfl rfl rfl))
      refine a_val (v := (.int .u8 (rd a0.1 x49.toNat))) (u := []) (ld_own (i := ⟨.int .u8, 1, 1, (.int .u8 0)⟩) rfl rfl rfl hl69) hl69.c rfl ?_
      refine d_next rfl ?_
      refine d_cons ?_
      refine a_val (v := (.int .i64 x49)) (u := []) rfl trivial rfl ?_
      refine d_next rfl ?_
      refine d_cons ?_
      obtain ⟨hc70, h⟩ := ifp_some h
      refine a_val (v := (.own 3 [x49.toNat] [x49.toNat * 1])) (u := []) rfl hc70 rfl ?_
      refine d_next rfl ?_
      refine d_cons ?_
      have hl71 : LdOk [x49.toNat] (eA64u8 a1) [x49.toNat * 1] 1 false (.int .u8 (rd a1.1 x49.toNat)) := (.arr (vlt a1 hc70) rfl (.nil rfl rfl rfl))
      refine a_val (v := (.int .u8 (rd a1.1 x49.toNat))) (u := []) (ld_own (i := ⟨.int .u8, 1, 1, (.int .u8 0)⟩) rfl rfl rfl hl71) hl71.c rfl ?_
      refine d_next rfl ?_
      refine d_cons ?_
      refine a_val (v := (.bool (((rd a0.1 x49.toNat) != (rd a1.1 x49.toNat))))) (u := []) rfl trivial rfl ?_
      refine d_next rfl ?_
      refine d_nil ?_
      refine a_next (σ' := ⟨[(2, (.own 2 [] [])), (3, (.own 3 [] [])), (5, (.int .i64 x49)), (16, (.bool (((rd a0.1 x49.toNat) != (rd a1.1 x49.toNat)))))], [(2, some ⟨(eA64u8 a0), false⟩), (3, some ⟨(eA64u8 a1), false⟩)]⟩) rfl ?_
      cases hb72 : ((rd a0.1 x49.toNat) != (rd a1.1 x49.toNat))
      · have h := ite_f hb72 h
        refine a_cond_f rfl ?_
        refine a_skip ?_
        refine b_norm ?_
        refine a_next (σ' := ⟨[(2, (.own 2 [] [])), (3, (.own 3 [] [])), (5, (.int .i64 x49))], [(2, some ⟨(eA64u8 a0), false⟩), (3, some ⟨(eA64u8 a1), false⟩)]⟩) rfl ?_
        refine a_region ?_
        refine a_val (v := (.int .i64 x49)) (u := []) rfl trivial rfl ?_
        refine a_val (v := (.int .i64 (IntKind.i64.wrap (x49 + 1)))) (u := []) rfl trivial rfl ?_
        refine a_val (v := (.int .i64 (IntKind.i64.wrap (x49 + 1)))) (u := []) rfl trivial rfl ?_
        refine a_nil ?_
        cases h
        exact a_again rfl hX62
      · have h := ite_t hb72 h
        refine a_cond_t rfl ?_
        refine a_seq ?_
        refine a_region ?_
        refine a_val (v := (.bool false)) (u := []) rfl trivial rfl ?_
        refine a_nil ?_
        refine a_next rfl ?_
        refine a_ret ?_
        refine b_ret ?_
        refine t_ret ?_
        cases h
        have h := hX62
        refine t_ret ?_
        refine b_ret ?_
        refine t_ret ?_
        cases h
        have h := hk38
        refine ⟨.inr rfl, ?_⟩
        rw [Try.results17]
        cases h
        exact ⟨_, _, _, _, _, rfl, trivial, .inl ⟨rfl, .inl rfl⟩, rfl, rfl⟩
def laws_FnExactZetaAt_c : ACode := (.seq (.region 0 [⟨some 4, .asg 0 (.const (.bool false)) 4, none, []⟩] false) (.seq (.region 1 [⟨some 10, .mov (.tmp 0), none, []⟩, ⟨some 11, .mov (.tmp 1), none, []⟩, ⟨some 12, .call 0 (.func 28) [(.tmp 10), (.tmp 11)], none, []⟩, ⟨some 9, .mov (.tmp 12), none, []⟩, ⟨some 13, .extract (.tmp 9) 0, none, []⟩, ⟨some 14, .extract (.tmp 9) 1, none, []⟩, ⟨some 5, .alloc 23, none, []⟩, ⟨none, .store 23 (.tmp 5) (.tmp 13), none, []⟩, ⟨some 6, .asg 0 (.tmp 14) 2, none, []⟩] false) (.seq (.region 2 [⟨some 16, .mov (.tmp 0), none, []⟩, ⟨some 17, .mov (.tmp 1), none, []⟩, ⟨some 18, .call 0 (.func 29) [(.tmp 16), (.tmp 17)], none, []⟩, ⟨some 15, .mov (.tmp 18), none, []⟩, ⟨some 19, .extract (.tmp 15) 0, none, []⟩, ⟨some 20, .extract (.tmp 15) 1, none, []⟩, ⟨some 7, .alloc 23, none, []⟩, ⟨none, .store 23 (.tmp 7) (.tmp 19), none, []⟩, ⟨some 8, .asg 0 (.tmp 20) 2, none, []⟩] false) (.seq (.seq (.region 3 [⟨some 21, .load 23 (.tmp 7), none, []⟩, ⟨some 22, .load 23 (.tmp 5), none, []⟩, ⟨some 23, .call 0 (.func 17) [(.tmp 21), (.tmp 22)], none, []⟩, ⟨some 24, .un .not (.tmp 23), none, []⟩, ⟨some 25, .mov (.tmp 24), none, []⟩, ⟨some 26, .mov (.tmp 8), some (25, false), []⟩, ⟨some 27, .mov (.tmp 6), some (25, false), []⟩, ⟨some 28, .bin .neq 2 (.tmp 26) (.tmp 27), some (25, false), []⟩, ⟨some 29, .pick (.tmp 25) (.const (.bool true)) (.tmp 28), none, []⟩] false) (.cond (.tmp 29) (.seq (.region 4 [⟨some 4, .asg 0 (.const (.bool false)) 4, none, []⟩] false) .ret) .skip)) (.seq (.region 5 [⟨some 4, .asg 0 (.const (.bool true)) 4, none, []⟩] false) .ret)))))
def laws_FnExactZetaAt_L : Live := [(0, [0, 1]), (1, [0, 1]), (2, [0, 1, 5, 6]), (3, [5, 6, 7, 8]), (4, []), (5, []), (100029, [29])]
theorem laws_FnExactZetaAt_body : Try.f7.body = some (Try.f7.body.getD .skip) := by kernel_rfl
theorem laws_FnExactZetaAt_strip : strip [] (Try.f7.body.getD .skip) = laws_FnExactZetaAt_c := by kernel_rfl
noncomputable def laws_FnExactZetaAt (a0 : Int) (a1 : Int) : Option Bool :=
  (Option.bind (spec_ZetaAt a0 a1) fun r1 => (Option.bind (impl_ZetaAt a0 a1) fun r4 => (Option.bind (α := Bool) ((Option.bind (laws_eqPoly r4.1 r1.1) fun r18 => (if (!r18) then (some true) else (some (r4.2 != r1.2))))) fun x12 => (if x12 then (some false) else (some true)))))
set_option maxHeartbeats 16000000 in
theorem laws_FnExactZetaAt_ok (a0 : Int) (a1 : Int) (r : Bool) (h : laws_FnExactZetaAt a0 a1 = some r) : Den Try.prog 7 [(.int .i64 a0), (.int .i64 a1)] { r := (.bool r) } := by
  refine den_of (rs := [(.bool r)]) (ac := laws_FnExactZetaAt_c) (L := laws_FnExactZetaAt_L) (n := 30) (m := []) good Try.func7 laws_FnExactZetaAt_body (by kernel_rfl) Try.ntmps7 rfl rfl laws_FnExactZetaAt_strip rfl rfl ?_
  refine a_st (σ' := ⟨[(0, (.int .i64 a0)), (1, (.int .i64 a1))], []⟩) rfl ?_
  unfold laws_FnExactZetaAt_c
  refine a_seq ?_
  refine a_region ?_
  refine a_val (v := (.bool false)) (u := []) rfl trivial rfl ?_
  refine a_nil ?_
  refine a_next (σ' := ⟨[(0, (.int .i64 a0)), (1, (.int .i64 a1))], []⟩) rfl ?_
  refine a_seq ?_
  refine a_region ?_
  refine a_val (v := (.int .i64 a0)) (u := []) rfl trivial rfl ?_
  refine a_val (v := (.int .i64 a1)) (u := []) rfl trivial rfl ?_
  obtain ⟨r1, hr2, h⟩ := bind_some h
  refine a_call (args := [(.int .i64 a0), (.int .i64 a1)]) (u := []) (r := (.tuple [(eA64u8 r1.1), (.int .i64 r1.2)])) rfl rfl (spec_ZetaAt_ok a0 a1 r1 hr2) rfl ?_
  refine a_val (v := (.tuple [(eA64u8 r1.1), (.int .i64 r1.2)])) (u := []) rfl trivial rfl ?_
  refine a_val (v := (eA64u8 r1.1)) (u := []) rfl (Nat.le_of_ble_eq_true rfl) rfl ?_
  refine a_val (v := (.int .i64 r1.2)) (u := []) rfl (Nat.le_of_ble_eq_true rfl) rfl ?_
  refine a_val (v := (.own 1500 [] [])) (u := [(1500, some ⟨(eA64u8 ((vrep 64 (0 : Int)))), false⟩)]) rfl trivial rfl ?_
  have hs3 : StOk [] (eA64u8 ((vrep 64 (0 : Int)))) [] 64 (eA64u8 r1.1) (eA64u8 r1.1) := (.nil rfl rfl rfl rfl)
  refine a_val (v := .top) (u := [(1500, some ⟨(eA64u8 r1.1), false⟩)]) (st_own (i := ⟨.arr 64 5, 64, 64, (eA64u8 (vrep 64 (0 : Int)))⟩) rfl rfl (fun _ => rfl) rfl hs3) (hs3.c rfl) rfl ?_
  refine a_val (v := (.int .i64 r1.2)) (u := []) rfl trivial rfl ?_
  refine a_nil ?_
  refine a_next (σ' := ⟨[(0, (.int .i64 a0)), (1, (.int .i64 a1)), (5, (.own 5 [] [])), (6, (.int .i64 r1.2))], [(5, some ⟨(eA64u8 r1.1), false⟩)]⟩) rfl ?_
  refine a_seq ?_
  refine a_region ?_
  refine a_val (v := (.int .i64 a0)) (u := []) rfl trivial rfl ?_
  refine a_val (v := (.int .i64 a1)) (u := []) rfl trivial rfl ?_
  obtain ⟨r4, hr5, h⟩ := bind_some h
  refine a_call (args := [(.int .i64 a0), (.int .i64 a1)]) (u := []) (r := (.tuple [(eA64u8 r4.1), (.int .i64 r4.2)])) rfl rfl (impl_ZetaAt_ok a0 a1 r4 hr5) rfl ?_
  refine a_val (v := (.tuple [(eA64u8 r4.1), (.int .i64 r4.2)])) (u := []) rfl trivial rfl ?_
  refine a_val (v := (eA64u8 r4.1)) (u := []) rfl (Nat.le_of_ble_eq_true rfl) rfl ?_
  refine a_val (v := (.int .i64 r4.2)) (u := []) rfl (Nat.le_of_ble_eq_true rfl) rfl ?_
  refine a_val (v := (.own 1700 [] [])) (u := [(1700, some ⟨(eA64u8 ((vrep 64 (0 : Int)))), false⟩)]) rfl trivial rfl ?_
  have hs6 : StOk [] (eA64u8 ((vrep 64 (0 : Int)))) [] 64 (eA64u8 r4.1) (eA64u8 r4.1) := (.nil rfl rfl rfl rfl)
  refine a_val (v := .top) (u := [(1700, some ⟨(eA64u8 r4.1), false⟩)]) (st_own (i := ⟨.arr 64 5, 64, 64, (eA64u8 (vrep 64 (0 : Int)))⟩) rfl rfl (fun _ => rfl) rfl hs6) (hs6.c rfl) rfl ?_
  refine a_val (v := (.int .i64 r4.2)) (u := []) rfl trivial rfl ?_
  refine a_nil ?_
  refine a_next (σ' := ⟨[(5, (.own 5 [] [])), (6, (.int .i64 r1.2)), (7, (.own 7 [] [])), (8, (.int .i64 r4.2))], [(5, some ⟨(eA64u8 r1.1), false⟩), (7, some ⟨(eA64u8 r4.1), false⟩)]⟩) rfl ?_
  refine a_seq ?_
  obtain ⟨y13, hy14, hk15⟩ := bind_some h
  clear h
  refine a_join (emb := fun (s : Bool) => ⟨[(29, (.bool s))], []⟩) (pre := fun s => s = y13) ?_ ?_
  · rintro x12 rfl
    have h := hk15
    refine a_st (σ' := ⟨[(29, (.bool x12))], []⟩) rfl ?_
    cases hb21 : x12
    · have h := ite_f hb21 h
      refine a_cond_f rfl ?_
      refine a_skip ?_
      refine a_next (σ' := ⟨[], []⟩) rfl ?_
      refine a_seq ?_
      refine a_region ?_
      refine a_val (v := (.bool true)) (u := []) rfl trivial rfl ?_
      refine a_nil ?_
      refine a_next rfl ?_
      refine a_ret ?_
      refine ⟨.inr rfl, ?_⟩
      rw [Try.results7]
      cases h
      exact ⟨_, _, _, _, _, rfl, trivial, .inl ⟨rfl, .inl rfl⟩, rfl, rfl⟩
    · have h := ite_t hb21 h
      refine a_cond_t rfl ?_
      refine a_seq ?_
      refine a_region ?_
      refine a_val (v := (.bool false)) (u := []) rfl trivial rfl ?_
      refine a_nil ?_
      refine a_next rfl ?_
      refine a_ret ?_
      refine t_ret ?_
      refine ⟨.inr rfl, ?_⟩
      rw [Try.results7]
      cases h
      exact ⟨_, _, _, _, _, rfl, trivial, .inl ⟨rfl, .inl rfl⟩, rfl, rfl⟩
  · have h := hy14
    refine a_region ?_
    have hl16 : LdOk [] (eA64u8 r4.1) [] 64 true (eA64u8 r4.1) := (.nil rfl rfl rfl)
    refine a_val (v := (eA64u8 r4.1)) (u := []) (ld_own (i := ⟨.arr 64 5, 64, 64, (eA64u8 (vrep 64 (0 : Int)))⟩) rfl rfl rfl hl16) hl16.c rfl ?_
    have hl17 : LdOk [] (eA64u8 r1.1) [] 64 true (eA64u8 r1.1) := (.nil rfl rfl rfl)
    refine a_val (v := (eA64u8 r1.1)) (u := []) (ld_own (i := ⟨.arr 64 5, 64, 64, (eA64u8 (vrep 64 (0 : Int)))⟩) rfl rfl rfl hl17) hl17.c rfl ?_
    obtain ⟨r18, hr19, h⟩ := bind_some h
    refine a_call (args := [(eA64u8 r4.1), (eA64u8 r1.1)]) (u := []) (r := (.bool r18)) rfl rfl (laws_eqPoly_ok r4.1 r1.1 r18 hr19) rfl ?_
    refine a_val (v := (.bool (!r18))) (u := []) rfl trivial rfl ?_
    refine a_val (v := (.bool (!r18))) (u := []) rfl trivial rfl ?_
    cases hb20 : (!r18)
    · have h := ite_f hb20 h
      refine a_gval rfl (v := (.int .i64 r4.2)) (u := []) rfl trivial rfl ?_
      refine a_gval rfl (v := (.int .i64 r1.2)) (u := []) rfl trivial rfl ?_
      refine a_gval rfl (v := (.bool (r4.2 != r1.2))) (u := []) rfl trivial rfl ?_
      refine a_val (v := (.bool (r4.2 != r1.2))) (u := []) rfl trivial rfl ?_
      refine a_nil ?_
      exact j_leaf (r4.2 != r1.2) (Option.some.inj h) rfl
    · have h := ite_t hb20 h
      refine a_gskip rfl ?_
      refine a_gskip rfl ?_
      refine a_gskip rfl ?_
      refine a_val (v := (.bool true)) (u := []) rfl trivial rfl ?_
      refine a_nil ?_
      exact j_leaf true (Option.some.inj h) rfl
def spec_l08Code_c : ACode := (.seq (.region 0 [⟨some 6, .asg 0 (.const (.int .i64 0)) 2, none, []⟩] false) (.seq (.block 0 (.seq (.region 1 [⟨some 9, .mov (.tmp 0), none, []⟩, ⟨some 10, .call 0 (.func 109) [(.tmp 9)], none, []⟩, ⟨some 11, .un .not (.tmp 10), none, []⟩, ⟨some 8, .asg 0 (.tmp 11) 4, none, []⟩] false) (.cond (.tmp 8) (.seq (.region 2 [⟨some 6, .asg 0 (.const (.int .i64 1)) 2, none, []⟩] false) .ret) (.seq (.region 3 [⟨some 13, .mov (.tmp 1), none, []⟩, ⟨some 14, .call 0 (.func 84) [(.tmp 13), (.const (.int .i64 0)), (.const (.int .i64 8))], none, []⟩, ⟨some 15, .un .not (.tmp 14), none, []⟩, ⟨some 16, .mov (.tmp 15), none, []⟩, ⟨some 17, .mov (.tmp 0), some (16, false), []⟩, ⟨some 18, .mov (.tmp 1), some (16, false), []⟩, ⟨some 19, .call 0 (.func 75) [(.tmp 17), (.tmp 18)], some (16, false), []⟩, ⟨some 20, .bin .gtr 2 (.tmp 19) (.const (.int .i64 343)), some (16, false), []⟩, ⟨some 21, .pick (.tmp 16) (.const (.bool true)) (.tmp 20), none, []⟩, ⟨some 12, .asg 0 (.tmp 21) 4, none, []⟩] false) (.cond (.tmp 12) (.seq (.region 4 [⟨some 6, .asg 0 (.const (.int .i64 2)) 2, none, []⟩] false) .ret) .skip))))) (.seq (.seq (.region 5 [⟨some 7, .asg 0 (.const (.int .i64 0)) 3, none, []⟩] false) (.block 1 (.loop (.seq (.seq (.region 6 [⟨some 22, .mov (.tmp 7), none, []⟩, ⟨some 23, .mov (.tmp 2), none, []⟩, ⟨some 24, .blt 0 .len [(.tmp 23)] [45], none, []⟩, ⟨some 25, .bin .lss 3 (.tmp 22) (.tmp 24), none, []⟩] false) (.cond (.tmp 25) .skip (.exit 1))) (.seq (.block 2 (.seq (.region 8 [⟨some 28, .mov (.tmp 2), none, []⟩, ⟨some 29, .mov (.tmp 7), none, []⟩, ⟨some 30, .indexAddr 45 (.tmp 28) (.tmp 29), none, []⟩, ⟨some 31, .load 2 (.tmp 30), none, []⟩, ⟨some 32, .call 0 (.func 84) [(.tmp 31), (.const (.int .i64 0)), (.const (.int .i64 40))], none, []⟩, ⟨some 33, .un .not (.tmp 32), none, []⟩] false) (.cond (.tmp 33) (.seq (.region 9 [⟨some 6, .asg 0 (.const (.int .i64 2)) 2, none, []⟩] false) .ret) .skip))) (.region 7 [⟨some 26, .mov (.tmp 7), none, []⟩, ⟨some 27, .bin .add 3 (.tmp 26) (.const (.int .i64 1)), none, []⟩, ⟨some 7, .asg 0 (.tmp 27) 3, none, []⟩] false)))))) (.seq (.region 10 [⟨some 6, .asg 0 (.const (.int .i64 0)) 2, none, []⟩] false) .ret))))
def spec_l08Code_L : Live := [(0, [0, 1, 2]), (1, [0, 1, 2]), (2, []), (3, [0, 1, 2]), (4, []), (5, [2]), (6, [2, 7]), (7, [2, 7]), (8, [2, 7]), (9, []), (10, []), (100008, [0, 1, 2, 8]), (100012, [2, 12]), (100025, [2, 7, 25]), (100033, [2, 7, 33])]
theorem spec_l08Code_body : Try.f49.body = some (Try.f49.body.getD .skip) := by kernel_rfl
theorem spec_l08Code_strip : strip [] (Try.f49.body.getD .skip) = spec_l08Code_c := by kernel_rfl
noncomputable def spec_l08Code_l1 (a2 : (List Int)) (x51 : Int) : Option (Int ⊕ (Unit ⊕ Int)) :=
  (if (decide (x51 < (a2.length : Int))) then (ifp (0 ≤ x51 ∧ x51 < ((a2.length : Nat) : Int)) ((Option.bind (spec_l01In (rd a2 x51.toNat) 0 40) fun r64 => (if (!r64) then (some (.inr (.inr 2))) else (some (.inl (IntKind.i64.wrap (x51 + 1)))))))) else (some (.inr (((.inl ()))))))
noncomputable def spec_l08Code (a0 : Int) (a1 : Int) (a2 : (List Int)) : Option Int :=
  (Option.bind (spec_l01Prime a0) fun r1 => (if (!r1) then (some 1) else (Option.bind (α := Bool) ((Option.bind (spec_l01In a1 0 8) fun r13 => (if (!r13) then (some true) else (Option.bind (spec_l01Count a0 a1) fun r16 => (some ((decide (r16 > 343)))))))) fun x9 => (if x9 then (some 2) else (Option.bind (α := (Unit ⊕ Int)) ((loopM (fun s : Int => spec_l08Code_l1 a2 s) 0)) fun z => match z with | .inl _ => (some 0) | .inr r68 => (some r68))))))
set_option maxHeartbeats 16000000 in
theorem spec_l08Code_ok (a0 : Int) (a1 : Int) (a2 : (List Int)) (r : Int) (h : spec_l08Code a0 a1 a2 = some r) : Den Try.prog 49 [(.int .i64 a0), (.int .i64 a1), (eSi64 a2)] { r := (.int .i64 r) } := by
  refine den_of (rs := [(.int .i64 r)]) (ac := spec_l08Code_c) (L := spec_l08Code_L) (n := 34) (m := []) good Try.func49 spec_l08Code_body (by kernel_rfl) Try.ntmps49 rfl rfl spec_l08Code_strip rfl rfl ?_
  refine a_st (σ' := ⟨[(0, (.int .i64 a0)), (1, (.int .i64 a1)), (2, (eSi64 a2))], []⟩) rfl ?_
  unfold spec_l08Code_c
  refine a_seq ?_
  refine a_region ?_
  refine a_val (v := (.int .i64 0)) (u := []) rfl trivial rfl ?_
  refine a_nil ?_
  refine a_next (σ' := ⟨[(0, (.int .i64 a0)), (1, (.int .i64 a1)), (2, (eSi64 a2))], []⟩) rfl ?_
  refine a_seq ?_
  refine a_block ?_
  refine a_seq ?_
  refine a_region ?_
  refine a_val (v := (.int .i64 a0)) (u := []) rfl trivial rfl ?_
  obtain ⟨r1, hr2, h⟩ := bind_some h
  refine a_call (args := [(.int .i64 a0)]) (u := []) (r := (.bool r1)) rfl rfl (spec_l01Prime_ok a0 r1 hr2) rfl ?_
  refine a_val (v := (.bool (!r1))) (u := []) rfl trivial rfl ?_
  refine a_val (v := (.bool (!r1))) (u := []) rfl trivial rfl ?_
  refine a_nil ?_
  refine a_next (σ' := ⟨[(0, (.int .i64 a0)), (1, (.int .i64 a1)), (2, (eSi64 a2)), (8, (.bool (!r1)))], []⟩) rfl ?_
  cases hb3 : (!r1)
  · have h := ite_f hb3 h
    refine a_cond_f rfl ?_
    obtain ⟨y10, hy11, hk12⟩ := bind_some h
    clear h
    refine a_join (emb := fun (s : Bool) => ⟨[(2, (eSi64 a2)), (12, (.bool s))], []⟩) (pre := fun s => s = y10) ?_ ?_
    · rintro x9 rfl
      have h := hk12
      refine a_st (σ' := ⟨[(2, (eSi64 a2)), (12, (.bool x9))], []⟩) rfl ?_
      cases hb18 : x9
      · have h := ite_f hb18 h
        refine a_cond_f rfl ?_
        refine a_skip ?_
        refine b_norm ?_
        refine a_next (σ' := ⟨[(2, (eSi64 a2))], []⟩) rfl ?_
        obtain ⟨y42, hy43, hk44⟩ := bind_some h
        clear h
        refine a_join (emb := fun (s : Unit) => ⟨[], []⟩) (pre := fun s => (.inl s) = y42) ?_ ?_
        · rintro _ rfl
          have h := hk44
          refine a_st (σ' := ⟨[], []⟩) rfl ?_
          refine a_seq ?_
          refine a_region ?_
          refine a_val (v := (.int .i64 0)) (u := []) rfl trivial rfl ?_
          refine a_nil ?_
          refine a_next rfl ?_
          refine a_ret ?_
          refine ⟨.inr rfl, ?_⟩
          rw [Try.results49]
          cases h
          exact ⟨_, _, _, _, _, rfl, trivial, .inl ⟨rfl, .inl rfl⟩, rfl, rfl⟩
        · have h := hy43
          refine a_seq ?_
          refine a_region ?_
          refine a_val (v := (.int .i64 0)) (u := []) rfl trivial rfl ?_
          refine a_nil ?_
          refine a_next (σ' := ⟨[(2, (eSi64 a2)), (7, (.int .i64 0))], []⟩) rfl ?_
          refine a_block ?_
          refine a_loop (emb := fun (s : Int) => ⟨[(2, (eSi64 a2)), (7, (.int .i64 s))], []⟩) (body := (fun s : Int => spec_l08Code_l1 a2 s)) (G := fun q => some q = some y42) h rfl ?_ rfl
          rintro X58 x51 x59 h hX60
          have h : spec_l08Code_l1 a2 x51 = some x59 := h
          refine a_st (σ' := ⟨[(2, (eSi64 a2)), (7, (.int .i64 x51))], []⟩) rfl ?_
          refine a_seq ?_
          refine a_seq ?_
          refine a_region ?_
          refine a_val (v := (.int .i64 x51)) (u := []) rfl trivial rfl ?_
          refine a_val (v := (eSi64 a2)) (u := []) rfl trivial rfl ?_
          refine a_val (v := (.int .i64 (a2.length : Int))) (u := []) (len_run rfl rfl) trivial rfl ?_
          refine a_val (v := (.bool ((decide (x51 < (a2.length : Int)))))) (u := []) rfl trivial rfl ?_
          refine a_nil ?_
          refine a_next (σ' := ⟨[(2, (eSi64 a2)), (7, (.int .i64 x51)), (25, (.bool ((decide (x51 < (a2.length : Int))))))], []⟩) rfl ?_
          cases hb61 : (decide (x51 < (a2.length : Int)))
          · have h := ite_f hb61 h
            refine a_cond_f rfl ?_
            refine a_exit ?_
            refine t_exit ?_
            cases h
            have h := hX60
            refine t_exit ?_
            refine b_exit ?_
            exact j_leaf () (Option.some.inj h) rfl
          · have h := ite_t hb61 h
            refine a_cond_t rfl ?_
            refine a_skip ?_
            refine a_next (σ' := ⟨[(2, (eSi64 a2)), (7, (.int .i64 x51))], []⟩) rfl ?_
            refine a_seq ?_
            refine a_block ?_
            refine a_seq ?_
            refine a_region ?_
            refine a_val (v := (eSi64 a2)) (u := []) rfl trivial rfl ?_
            refine a_val (v := (.int .i64 x51)) (u := []) rfl trivial rfl ?_
            obtain ⟨hc62, h⟩ := ifp_some h
            refine a_val (v := (.ref (.row 1 (a2.map (AV.int .i64))) [x51.toNat] [x51.toNat * 1])) (u := []) rfl (lmap hc62) rfl ?_
            have hl63 : LdOk [x51.toNat] (.row 1 (a2.map (AV.int .i64))) [x51.toNat * 1] 1 false (.int .i64 (rd a2 x51.toNat)) := (.row (llt hc62) rfl (.nil rfl rfl rfl))
            refine a_val (v := (.int .i64 (rd a2 x51.toNat))) (u := []) (ld_ref (i := ⟨.int .i64, 1, 8, (.int .i64 0)⟩) rfl rfl hl63) hl63.c rfl ?_
            obtain ⟨r64, hr65, h⟩ := bind_some h
            refine a_call (args := [(.int .i64 (rd a2 x51.toNat)), (.int .i64 0), (.int .i64 40)]) (u := []) (r := (.bool r64)) rfl rfl (spec_l01In_ok (rd a2 x51.toNat) 0 40 r64 hr65) rfl ?_
            refine a_val (v := (.bool (!r64))) (u := []) rfl trivial rfl ?_
            refine a_nil ?_
            refine a_next (σ' := ⟨[(2, (eSi64 a2)), (7, (.int .i64 x51)), (33, (.bool (!r64)))], []⟩) rfl ?_
            cases hb66 : (!r64)
            · have h := ite_f hb66 h
              refine a_cond_f rfl ?_
              refine a_skip ?_
              refine b_norm ?_
              refine a_next (σ' := ⟨[(2, (eSi64 a2)), (7, (.int .i64 x51))], []⟩) rfl ?_
              refine a_region ?_
              refine a_val (v := (.int .i64 x51)) (u := []) rfl trivial rfl ?_
              refine a_val (v := (.int .i64 (IntKind.i64.wrap (x51 + 1)))) (u := []) rfl trivial rfl ?_
              refine a_val (v := (.int .i64 (IntKind.i64.wrap (x51 + 1)))) (u := []) rfl trivial rfl ?_
              refine a_nil ?_
              cases h
              exact a_again rfl hX60
            · have h := ite_t hb66 h
              refine a_cond_t rfl ?_
              refine a_seq ?_
              refine a_region ?_
              refine a_val (v := (.int .i64 2)) (u := []) rfl trivial rfl ?_
              refine a_nil ?_
              refine a_next rfl ?_
              refine a_ret ?_
              refine b_ret ?_
              refine t_ret ?_
              cases h
              have h := hX60
              refine t_ret ?_
              refine b_ret ?_
              refine t_ret ?_
              cases h
              have h := hk44
              refine ⟨.inr rfl, ?_⟩
              rw [Try.results49]
              cases h
              exact ⟨_, _, _, _, _, rfl, trivial, .inl ⟨rfl, .inl rfl⟩, rfl, rfl⟩
      · have h := ite_t hb18 h
        refine a_cond_t rfl ?_
        refine a_seq ?_
        refine a_region ?_
        refine a_val (v := (.int .i64 2)) (u := []) rfl trivial rfl ?_
        refine a_nil ?_
        refine a_next rfl ?_
        refine a_ret ?_
        refine b_ret ?_
        refine t_ret ?_
        refine ⟨.inr rfl, ?_⟩
        rw [Try.results49]
        cases h
        exact ⟨_, _, _, _, _, rfl, trivial, .inl ⟨rfl, .inl rfl⟩, rfl, rfl⟩
    · have h := hy11
      refine a_region ?_
      refine a_val (v := (.int .i64 a1)) (u := []) rfl trivial rfl ?_
      obtain ⟨r13, hr14, h⟩ := bind_some h
      refine a_call (args := [(.int .i64 a1), (.int .i64 0), (.int .i64 8)]) (u := []) (r := (.bool r13)) rfl rfl (spec_l01In_ok a1 0 8 r13 hr14) rfl ?_
      refine a_val (v := (.bool (!r13))) (u := []) rfl trivial rfl ?_
      refine a_val (v := (.bool (!r13))) (u := []) rfl trivial rfl ?_
      cases hb15 : (!r13)
      · have h := ite_f hb15 h
        refine a_gval rfl (v := (.int .i64 a0)) (u := []) rfl trivial rfl ?_
        refine a_gval rfl (v := (.int .i64 a1)) (u := []) rfl trivial rfl ?_
        obtain ⟨r16, hr17, h⟩ := bind_some h
        refine a_gcall rfl (args := [(.int .i64 a0), (.int .i64 a1)]) (u := []) (r := (.int .i64 r16)) rfl rfl (spec_l01Count_ok a0 a1 r16 hr17) rfl ?_
        refine a_gval rfl (v := (.bool ((decide (r16 > 343))))) (u := []) rfl trivial rfl ?_
        refine a_val (v := (.bool ((decide (r16 > 343))))) (u := []) rfl trivial rfl ?_
        refine a_val (v := (.bool ((decide (r16 > 343))))) (u := []) rfl trivial rfl ?_
        refine a_nil ?_
        exact j_leaf ((decide (r16 > 343))) (Option.some.inj h) rfl
      · have h := ite_t hb15 h
        refine a_gskip rfl ?_
        refine a_gskip rfl ?_
        refine a_gskip rfl ?_
        refine a_gskip rfl ?_
        refine a_val (v := (.bool true)) (u := []) rfl trivial rfl ?_
        refine a_val (v := (.bool true)) (u := []) rfl trivial rfl ?_
        refine a_nil ?_
        exact j_leaf true (Option.some.inj h) rfl
  · have h := ite_t hb3 h
    refine a_cond_t rfl ?_
    refine a_seq ?_
    refine a_region ?_
    refine a_val (v := (.int .i64 1)) (u := []) rfl trivial rfl ?_
    refine a_nil ?_
    refine a_next rfl ?_
    refine a_ret ?_
    refine b_ret ?_
    refine t_ret ?_
    refine ⟨.inr rfl, ?_⟩
    rw [Try.results49]
    cases h
    exact ⟨_, _, _, _, _, rfl, trivial, .inl ⟨rfl, .inl rfl⟩, rfl, rfl⟩
def impl_prime_isSumDegree_c : ACode := (.seq (.region 0 [⟨some 4, .asg 0 (.const (.bool false)) 4, none, []⟩] false) (.seq (.region 1 [⟨some 5, .mov (.tmp 1), none, []⟩, ⟨some 6, .call 0 (.func 100) [(.tmp 5), (.const (.int .i64 0)), (.const (.int .i64 8))], none, []⟩, ⟨some 7, .mov (.tmp 6), none, []⟩, ⟨some 8, .mov (.tmp 0), some (7, true), []⟩, ⟨some 9, .mov (.tmp 1), some (7, true), []⟩, ⟨some 10, .call 0 (.func 77) [(.tmp 8), (.tmp 9)], some (7, true), []⟩, ⟨some 11, .pick (.tmp 7) (.tmp 10) (.const (.bool false)), none, []⟩, ⟨some 4, .asg 0 (.tmp 11) 4, none, []⟩] false) .ret))
def impl_prime_isSumDegree_L : Live := [(0, [0, 1]), (1, [0, 1])]
theorem impl_prime_isSumDegree_body : Try.f55.body = some (Try.f55.body.getD .skip) := by kernel_rfl
theorem impl_prime_isSumDegree_strip : strip [] (Try.f55.body.getD .skip) = impl_prime_isSumDegree_c := by kernel_rfl
noncomputable def impl_prime_isSumDegree (a0 : Int) (a1 : Int) : Option Bool :=
  (Option.bind (impl_within a1 0 8) fun r1 => (if r1 then (Option.bind (impl_prime_isSummed a0 a1) fun r4 => (some r4)) else (some false)))
set_option maxHeartbeats 16000000 in
theorem impl_prime_isSumDegree_ok (a0 : Int) (a1 : Int) (r : Bool) (h : impl_prime_isSumDegree a0 a1 = some r) : Den Try.prog 55 [(.int .i64 a0), (.int .i64 a1)] { r := (.bool r) } := by
  refine den_of (rs := [(.bool r)]) (ac := impl_prime_isSumDegree_c) (L := impl_prime_isSumDegree_L) (n := 12) (m := []) good Try.func55 impl_prime_isSumDegree_body (by kernel_rfl) Try.ntmps55 rfl rfl impl_prime_isSumDegree_strip rfl rfl ?_
  refine a_st (σ' := ⟨[(0, (.int .i64 a0)), (1, (.int .i64 a1))], []⟩) rfl ?_
  unfold impl_prime_isSumDegree_c
  refine a_seq ?_
  refine a_region ?_
  refine a_val (v := (.bool false)) (u := []) rfl trivial rfl ?_
  refine a_nil ?_
  refine a_next (σ' := ⟨[(0, (.int .i64 a0)), (1, (.int .i64 a1))], []⟩) rfl ?_
  refine a_seq ?_
  refine a_region ?_
  refine a_val (v := (.int .i64 a1)) (u := []) rfl trivial rfl ?_
  obtain ⟨r1, hr2, h⟩ := bind_some h
  refine a_call (args := [(.int .i64 a1), (.int .i64 0), (.int .i64 8)]) (u := []) (r := (.bool r1)) rfl rfl (impl_within_ok a1 0 8 r1 hr2) rfl ?_
  refine a_val (v := (.bool r1)) (u := []) rfl trivial rfl ?_
  cases hb3 : r1
  · have h := ite_f hb3 h
    refine a_gskip rfl ?_
    refine a_gskip rfl ?_
    refine a_gskip rfl ?_
    refine a_val (v := (.bool false)) (u := []) rfl trivial rfl ?_
    refine a_val (v := (.bool false)) (u := []) rfl trivial rfl ?_
    refine a_nil ?_
    refine a_next rfl ?_
    refine a_ret ?_
    refine ⟨.inr rfl, ?_⟩
    rw [Try.results55]
    cases h
    exact ⟨_, _, _, _, _, rfl, trivial, .inl ⟨rfl, .inl rfl⟩, rfl, rfl⟩
  · have h := ite_t hb3 h
    refine a_gval rfl (v := (.int .i64 a0)) (u := []) rfl trivial rfl ?_
    refine a_gval rfl (v := (.int .i64 a1)) (u := []) rfl trivial rfl ?_
    obtain ⟨r4, hr5, h⟩ := bind_some h
    refine a_gcall rfl (args := [(.int .i64 a0), (.int .i64 a1)]) (u := []) (r := (.bool r4)) rfl rfl (impl_prime_isSummed_ok a0 a1 r4 hr5) rfl ?_
    refine a_val (v := (.bool r4)) (u := []) rfl trivial rfl ?_
    refine a_val (v := (.bool r4)) (u := []) rfl trivial rfl ?_
    refine a_nil ?_
    refine a_next rfl ?_
    refine a_ret ?_
    refine ⟨.inr rfl, ?_⟩
    rw [Try.results55]
    cases h
    exact ⟨_, _, _, _, _, rfl, trivial, .inl ⟨rfl, .inl rfl⟩, rfl, rfl⟩
def impl_rowOf_c : ACode := (.seq (.region 0 [⟨some 1, .box 23 (.tmp 0), none, []⟩, ⟨some 2, .asg 1 (.const (.slice none 0 0)) 64, none, []⟩] false) (.seq (.region 1 [⟨some 3, .asg 2 (.const (.slice none 0 0)) 64, none, []⟩] false) (.seq (.seq (.region 2 [⟨some 6, .load 23 (.tmp 1), none, []⟩, ⟨some 7, .mov (.const (.int .i64 0)), none, []⟩] false) (.block 0 (.loop (.seq (.region 3 [⟨some 8, .bin .lss 3 (.tmp 7) (.const (.int .i64 64)), none, []⟩] false) (.seq (.cond (.tmp 8) .skip (.exit 0)) (.seq (.block 1 (.seq (.region 4 [⟨some 9, .index 23 (.tmp 6) (.tmp 7), none, []⟩, ⟨some 5, .asg 0 (.tmp 9) 5, none, []⟩] false) (.region 5 [⟨some 10, .mov (.tmp 3), none, []⟩, ⟨some 11, .mov (.tmp 5), none, []⟩, ⟨some 12, .conv 5 2 (.tmp 11), none, []⟩, ⟨some 13, .bslice 0 64 1 [(0, (.tmp 12))], none, []⟩, ⟨some 14, .blt 0 .append [(.tmp 10), (.tmp 13)] [64, 64], none, []⟩, ⟨some 3, .asg 2 (.tmp 14) 64, none, []⟩] false))) (.region 6 [⟨some 15, .bin .add 3 (.tmp 7) (.const (.int .i64 1)), none, []⟩, ⟨some 7, .mov (.tmp 15), none, []⟩] false))))))) (.seq (.region 7 [⟨some 16, .mov (.tmp 3), none, []⟩, ⟨some 17, .call 0 (.func 111) [(.tmp 16)], none, []⟩, ⟨some 2, .asg 1 (.tmp 17) 64, none, []⟩] false) .ret))))
def impl_rowOf_L : Live := [(0, [0]), (1, [1]), (2, [1, 3]), (3, [3, 6, 7]), (4, [3, 6, 7]), (5, [3, 5, 6, 7]), (6, [3, 6, 7]), (7, [3]), (100008, [3, 6, 7, 8])]
theorem impl_rowOf_body : Try.f72.body = some (Try.f72.body.getD .skip) := by kernel_rfl
theorem impl_rowOf_strip : strip [(2, 1), (3, 2)] (Try.f72.body.getD .skip) = impl_rowOf_c := by kernel_rfl
noncomputable def impl_rowOf_l1 (a0 : (Vec Int 64)) (x25 : Int) (x26 : (List Int)) : Option ((Int × (List Int)) ⊕ (List Int)) :=
  (if (decide (x25 < 64)) then (ifp (0 ≤ x25 ∧ x25 < ((64 : Nat) : Int)) ((ifp ((x26.length + ([IntKind.i64.wrap (rd a0.1 x25.toNat)] : List Int).length) * 8 ≤ 140737488355328) ((some (.inl ((IntKind.i64.wrap (x25 + 1), (x26 ++ ([IntKind.i64.wrap (rd a0.1 x25.toNat)])))))))))) else (some (.inr x26)))
noncomputable def impl_rowOf (a0 : (Vec Int 64)) : Option (List Int) :=
  (Option.bind (α := (List Int)) ((loopM (fun s : (Int × (List Int)) => impl_rowOf_l1 a0 s.1 s.2) (0, []))) fun x17 => (Option.bind (impl_row_trimmed x17) fun r37 => (some r37)))
set_option maxHeartbeats 16000000 in
theorem impl_rowOf_ok (a0 : (Vec Int 64)) (r : (List Int)) (h : impl_rowOf a0 = some r) : Den Try.prog 72 [(eA64u8 a0)] { r := (eSi64 r) } := by
  refine den_of (rs := [(eSi64 r)]) (ac := impl_rowOf_c) (L := impl_rowOf_L) (n := 18) (m := [(2, 1), (3, 2)]) good Try.func72 impl_rowOf_body (by kernel_rfl) Try.ntmps72 rfl rfl impl_rowOf_strip rfl rfl ?_
  refine a_st (σ' := ⟨[(0, (eA64u8 a0))], []⟩) rfl ?_
  unfold impl_rowOf_c
  refine a_seq ?_
  refine a_region ?_
  refine a_val (v := (.own 1100 [] [])) (u := [(1100, some ⟨(eA64u8 a0), false⟩)]) rfl trivial rfl ?_
  refine a_val (v := (eSi64 ([]))) (u := []) rfl trivial rfl ?_
  refine a_nil ?_
  refine a_next (σ' := ⟨[(1, (.own 1 [] []))], [(1, some ⟨(eA64u8 a0), false⟩)]⟩) rfl ?_
  refine a_seq ?_
  refine a_region ?_
  refine a_val (v := (.osl 1300)) (u := [(1300, some ⟨(.row 1 (([]).map (AV.int .i64))), false⟩)]) rfl trivial rfl ?_
  refine a_nil ?_
  refine a_next (σ' := ⟨[(1, (.own 1 [] [])), (3, (.osl 3))], [(1, some ⟨(eA64u8 a0), false⟩), (3, some ⟨(.row 1 (([]).map (AV.int .i64))), false⟩)]⟩) rfl ?_
  obtain ⟨y18, hy19, hk20⟩ := bind_some h
  clear h
  refine a_join (emb := fun (s : (List Int)) => ⟨[(3, (.osl 3))], [(3, some ⟨(.row 1 (s.map (AV.int .i64))), false⟩)]⟩) (pre := fun s => s = y18) ?_ ?_
  · rintro x17 rfl
    have h := hk20
    refine a_st (σ' := ⟨[(3, (.osl 3))], [(3, some ⟨(.row 1 (x17.map (AV.int .i64))), false⟩)]⟩) rfl ?_
    refine a_seq ?_
    refine a_region ?_
    refine a_val (v := (.osl 3)) (u := []) rfl trivial rfl ?_
    obtain ⟨r37, hr38, h⟩ := bind_some h
    refine a_call (args := [(eSi64 x17)]) (u := [(3, some ⟨(.row 1 (x17.map (AV.int .i64))), true⟩)]) (r := (eSi64 r37)) rfl rfl (impl_row_trimmed_ok x17 r37 hr38) rfl ?_
    refine a_val (v := (eSi64 r37)) (u := []) rfl trivial rfl ?_
    refine a_nil ?_
    refine a_next rfl ?_
    refine a_ret ?_
    refine ⟨.inr rfl, ?_⟩
    rw [Try.results72]
    cases h
    exact ⟨_, _, _, _, _, rfl, trivial, .inl ⟨rfl, .inl rfl⟩, rfl, rfl⟩
  · have h := hy19
    refine a_seq ?_
    refine a_region ?_
    have hl21 : LdOk [] (eA64u8 a0) [] 64 true (eA64u8 a0) := (.nil rfl rfl rfl)
    refine a_val (v := (eA64u8 a0)) (u := []) (ld_own (i := ⟨.arr 64 5, 64, 64, (eA64u8 (vrep 64 (0 : Int)))⟩) rfl rfl rfl hl21) hl21.c rfl ?_
    refine a_val (v := (.int .i64 0)) (u := []) rfl trivial rfl ?_
    refine a_nil ?_
    refine a_next (σ' := ⟨[(3, (.osl 3)), (6, (eA64u8 a0)), (7, (.int .i64 0))], [(3, some ⟨(.row 1 (([]).map (AV.int .i64))), false⟩)]⟩) rfl ?_
    refine a_block ?_
    refine a_loop (emb := fun (s : (Int × (List Int))) => ⟨[(3, (.osl 3)), (6, (eA64u8 a0)), (7, (.int .i64 s.1))], [(3, some ⟨(.row 1 (s.2.map (AV.int .i64))), false⟩)]⟩) (body := (fun s : (Int × (List Int)) => impl_rowOf_l1 a0 s.1 s.2)) (G := fun q => some q = some y18) h rfl ?_ rfl
    rintro X30 ⟨x25, x26⟩ x31 h hX32
    have h : impl_rowOf_l1 a0 x25 x26 = some x31 := h
    refine a_st (σ' := ⟨[(3, (.osl 3)), (6, (eA64u8 a0)), (7, (.int .i64 x25))], [(3, some ⟨(.row 1 (x26.map (AV.int .i64))), false⟩)]⟩) rfl ?_
    refine a_seq ?_
    refine a_region ?_
    refine a_val (v := (.bool ((decide (x25 < 64))))) (u := []) rfl trivial rfl ?_
    refine a_nil ?_
    refine a_next (σ' := ⟨[(3, (.osl 3)), (6, (eA64u8 a0)), (7, (.int .i64 x25)), (8, (.bool ((decide (x25 < 64)))))], [(3, some ⟨(.row 1 (x26.map (AV.int .i64))), false⟩)]⟩) rfl ?_
    refine a_seq ?_
    cases hb33 : (decide (x25 < 64))
    · have h := ite_f hb33 h
      refine a_cond_f rfl ?_
      refine a_exit ?_
      refine t_exit ?_
      cases h
      have h := hX32
      refine t_exit ?_
      refine b_exit ?_
      exact j_leaf x26 (Option.some.inj h) rfl
    · have h := ite_t hb33 h
      refine a_cond_t rfl ?_
      refine a_skip ?_
      refine a_next (σ' := ⟨[(3, (.osl 3)), (6, (eA64u8 a0)), (7, (.int .i64 x25))], [(3, some ⟨(.row 1 (x26.map (AV.int .i64))), false⟩)]⟩) rfl ?_
      refine a_seq ?_
      refine a_block ?_
      refine a_seq ?_
      refine a_region ?_
      obtain ⟨hc34, h⟩ := ifp_some h
      refine a_val (v := (.int .u8 (rd a0.1 x25.toNat))) (u := []) (ix_run (i := ⟨.int .u8, 1, 1, (.int .u8 0)⟩) (f := (AV.int .u8)) rfl rfl rfl rfl (vlt a0 hc34)) ⟨hc34.1, hc34.2, rfl, rfl, rfl, rfl⟩ rfl ?_
      refine a_val (v := (.int .u8 (rd a0.1 x25.toNat))) (u := []) rfl trivial rfl ?_
      refine a_nil ?_
      refine a_next (σ' := ⟨[(3, (.osl 3)), (5, (.int .u8 (rd a0.1 x25.toNat))), (6, (eA64u8 a0)), (7, (.int .i64 x25))], [(3, some ⟨(.row 1 (x26.map (AV.int .i64))), false⟩)]⟩) rfl ?_
      refine a_region ?_
      refine a_val (v := (.osl 3)) (u := []) rfl trivial rfl ?_
      refine a_val (v := (.int .u8 (rd a0.1 x25.toNat))) (u := []) rfl trivial rfl ?_
      refine a_val (v := (.int .i64 (IntKind.i64.wrap (rd a0.1 x25.toNat)))) (u := []) rfl trivial rfl ?_
      refine a_val (v := (.sl 1 true (([IntKind.i64.wrap (rd a0.1 x25.toNat)]).map (AV.int .i64)))) (u := []) rfl ⟨(Nat.le_of_ble_eq_true rfl), (Nat.le_of_ble_eq_true rfl), (all_cons ⟨(Nat.le_of_ble_eq_true rfl), rfl⟩ all_nil)⟩ rfl ?_
      obtain ⟨hc35, h⟩ := ifp_some h
      refine a_val (v := (.osl 2400)) (u := [(2400, some ⟨(.row 1 (((x26 ++ ([IntKind.i64.wrap (rd a0.1 x25.toNat)]))).map (AV.int .i64))), false⟩), (3, none)]) (app_run (i := ⟨.int .i64, 1, 8, (.int .i64 0)⟩) (f := (AV.int .i64)) (l := x26) (l2 := [IntKind.i64.wrap (rd a0.1 x25.toNat)]) rfl rfl rfl rfl (fun _ => rfl) rfl rfl) (app_c (f := (AV.int .i64)) (s := 1) (sz := 1) (by' := 8) (u := []) (id := 3) hc35 (.inr rfl) rfl rfl rfl) rfl ?_
      refine a_val (v := (.osl 2400)) (u := []) rfl trivial rfl ?_
      refine a_nil ?_
      refine b_norm ?_
      refine a_next (σ' := ⟨[(3, (.osl 3)), (6, (eA64u8 a0)), (7, (.int .i64 x25))], [(3, some ⟨(.row 1 (((x26 ++ ([IntKind.i64.wrap (rd a0.1 x25.toNat)]))).map (AV.int .i64))), false⟩)]⟩) rfl ?_
      refine a_region ?_
      refine a_val (v := (.int .i64 (IntKind.i64.wrap (x25 + 1)))) (u := []) rfl trivial rfl ?_
      refine a_val (v := (.int .i64 (IntKind.i64.wrap (x25 + 1)))) (u := []) rfl trivial rfl ?_
      refine a_nil ?_
      cases h
      exact a_again rfl hX32
end Go.Proofs.Ytgodhgbnjlflmaa
