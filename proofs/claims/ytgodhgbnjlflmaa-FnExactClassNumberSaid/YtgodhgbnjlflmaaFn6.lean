/- Functions of the program: plain Lean functions, and that the program computes them. Printed by gen.py. -/
import Derived.Test.YtgodhgbnjlflmaaFnT
import Derived.Test.YtgodhgbnjlflmaaFn4
import Derived.Test.YtgodhgbnjlflmaaFn5
namespace Go.Proofs.Ytgodhgbnjlflmaa
open Go.Abs Go.Proofs
set_option linter.unusedSimpArgs false
set_option linter.unusedVariables false
attribute [local irreducible] Abs.acode Abs.aops Abs.aopsT Abs.thenK Abs.blockK

def impl_prime_times_c : ACode := (.seq (.region 0 [⟨some 6, .asg 1 (.const (.slice none 0 0)) 64, none, []⟩] false) (.seq (.seq (.region 1 [⟨some 14, .mov (.tmp 1), none, []⟩, ⟨some 15, .blt 0 .len [(.tmp 14)] [64], none, []⟩, ⟨some 16, .bin .eql 3 (.tmp 15) (.const (.int .i64 0)), none, []⟩, ⟨some 17, .mov (.tmp 16), none, []⟩, ⟨some 18, .mov (.tmp 2), some (17, false), []⟩, ⟨some 19, .blt 0 .len [(.tmp 18)] [64], some (17, false), []⟩, ⟨some 20, .bin .eql 3 (.tmp 19) (.const (.int .i64 0)), some (17, false), []⟩, ⟨some 21, .pick (.tmp 17) (.const (.bool true)) (.tmp 20), none, []⟩] false) (.cond (.tmp 21) (.seq (.region 2 [⟨some 6, .asg 1 (.const (.slice none 0 0)) 64, none, []⟩] false) .ret) .skip)) (.seq (.region 3 [⟨some 22, .mov (.tmp 1), none, []⟩, ⟨some 23, .blt 0 .len [(.tmp 22)] [64], none, []⟩, ⟨some 24, .mov (.tmp 2), none, []⟩, ⟨some 25, .blt 0 .len [(.tmp 24)] [64], none, []⟩, ⟨some 26, .bin .add 3 (.tmp 23) (.tmp 25), none, []⟩, ⟨some 27, .bin .sub 3 (.tmp 26) (.const (.int .i64 1)), none, []⟩, ⟨some 28, .mkslice 64 (.tmp 27) (.tmp 27), none, []⟩, ⟨some 7, .asg 2 (.tmp 28) 64, none, []⟩] false) (.seq (.seq (.region 4 [⟨some 29, .mov (.tmp 1), none, []⟩, ⟨some 30, .blt 0 .len [(.tmp 29)] [64], none, []⟩, ⟨some 31, .mov (.const (.int .i64 0)), none, []⟩] false) (.block 0 (.loop (.seq (.region 5 [⟨some 32, .bin .lss 3 (.tmp 31) (.tmp 30), none, []⟩] false) (.seq (.cond (.tmp 32) .skip (.exit 0)) (.seq (.block 1 (.seq (.region 6 [⟨some 33, .mov (.tmp 31), none, []⟩, ⟨some 34, .indexAddr 64 (.tmp 29) (.tmp 31), none, []⟩, ⟨some 35, .load 2 (.tmp 34), none, []⟩, ⟨some 8, .asg 0 (.tmp 33) 3, none, []⟩, ⟨some 9, .asg 0 (.tmp 35) 2, none, []⟩] false) (.seq (.region 7 [⟨some 36, .mov (.tmp 2), none, []⟩, ⟨some 37, .blt 0 .len [(.tmp 36)] [64], none, []⟩, ⟨some 38, .mov (.const (.int .i64 0)), none, []⟩] false) (.block 2 (.loop (.seq (.region 8 [⟨some 39, .bin .lss 3 (.tmp 38) (.tmp 37), none, []⟩] false) (.seq (.cond (.tmp 39) .skip (.exit 2)) (.seq (.block 3 (.seq (.region 9 [⟨some 40, .mov (.tmp 38), none, []⟩, ⟨some 41, .indexAddr 64 (.tmp 36) (.tmp 38), none, []⟩, ⟨some 42, .load 2 (.tmp 41), none, []⟩, ⟨some 10, .asg 0 (.tmp 40) 3, none, []⟩, ⟨some 11, .asg 0 (.tmp 42) 2, none, []⟩] false) (.region 10 [⟨some 43, .mov (.tmp 7), none, []⟩, ⟨some 44, .mov (.tmp 8), none, []⟩, ⟨some 45, .mov (.tmp 10), none, []⟩, ⟨some 46, .bin .add 3 (.tmp 44) (.tmp 45), none, []⟩, ⟨some 47, .indexAddr 64 (.tmp 43) (.tmp 46), none, []⟩, ⟨some 48, .load 2 (.tmp 47), none, []⟩, ⟨some 49, .mov (.tmp 9), none, []⟩, ⟨some 50, .mov (.tmp 11), none, []⟩, ⟨some 51, .bin .mul 2 (.tmp 49) (.tmp 50), none, []⟩, ⟨some 52, .bin .add 2 (.tmp 48) (.tmp 51), none, []⟩, ⟨some 53, .indexAddr 64 (.tmp 43) (.tmp 46), none, []⟩, ⟨none, .store 2 (.tmp 53) (.tmp 52), none, []⟩] false))) (.region 11 [⟨some 54, .bin .add 3 (.tmp 38) (.const (.int .i64 1)), none, []⟩, ⟨some 38, .mov (.tmp 54), none, []⟩] false))))))))) (.region 12 [⟨some 55, .bin .add 3 (.tmp 31) (.const (.int .i64 1)), none, []⟩, ⟨some 31, .mov (.tmp 55), none, []⟩] false))))))) (.seq (.seq (.region 13 [⟨some 56, .mov (.tmp 7), none, []⟩, ⟨some 57, .blt 0 .len [(.tmp 56)] [64], none, []⟩, ⟨some 58, .mov (.const (.int .i64 0)), none, []⟩] false) (.block 4 (.loop (.seq (.region 14 [⟨some 59, .bin .lss 3 (.tmp 58) (.tmp 57), none, []⟩] false) (.seq (.cond (.tmp 59) .skip (.exit 4)) (.seq (.block 5 (.seq (.region 15 [⟨some 60, .mov (.tmp 58), none, []⟩, ⟨some 61, .indexAddr 64 (.tmp 56) (.tmp 58), none, []⟩, ⟨some 62, .load 2 (.tmp 61), none, []⟩, ⟨some 12, .asg 0 (.tmp 60) 3, none, []⟩, ⟨some 13, .asg 0 (.tmp 62) 2, none, []⟩] false) (.region 16 [⟨some 63, .mov (.tmp 7), none, []⟩, ⟨some 64, .mov (.tmp 12), none, []⟩, ⟨some 65, .mov (.tmp 13), none, []⟩, ⟨some 66, .mov (.tmp 0), none, []⟩, ⟨some 67, .bin .rem 2 (.tmp 65) (.tmp 66), none, []⟩, ⟨some 68, .indexAddr 64 (.tmp 63) (.tmp 64), none, []⟩, ⟨none, .store 2 (.tmp 68) (.tmp 67), none, []⟩] false))) (.region 17 [⟨some 69, .bin .add 3 (.tmp 58) (.const (.int .i64 1)), none, []⟩, ⟨some 58, .mov (.tmp 69), none, []⟩] false))))))) (.seq (.region 18 [⟨some 70, .mov (.tmp 7), none, []⟩, ⟨some 71, .call 0 (.func 111) [(.tmp 70)], none, []⟩, ⟨some 6, .asg 1 (.tmp 71) 64, none, []⟩] false) .ret))))))
def impl_prime_times_L : Live := [(0, [0, 1, 2]), (1, [0, 1, 2]), (2, []), (3, [0, 1, 2]), (4, [0, 1, 2, 7]), (5, [0, 2, 7, 29, 30, 31]), (6, [0, 2, 7, 29, 30, 31]), (7, [0, 2, 7, 8, 9, 29, 30, 31]), (8, [0, 2, 7, 8, 9, 29, 30, 31, 36, 37, 38]), (9, [0, 2, 7, 8, 9, 29, 30, 31, 36, 37, 38]), (10, [0, 2, 7, 8, 9, 10, 11, 29, 30, 31, 36, 37, 38]), (11, [0, 2, 7, 8, 9, 29, 30, 31, 36, 37, 38]), (12, [0, 2, 7, 29, 30, 31]), (13, [0, 7]), (14, [0, 7, 56, 57, 58]), (15, [0, 7, 56, 57, 58]), (16, [0, 7, 12, 13, 56, 57, 58]), (17, [0, 7, 56, 57, 58]), (18, [7]), (100021, [0, 1, 2, 21]), (100032, [0, 2, 7, 29, 30, 31, 32]), (100039, [0, 2, 7, 8, 9, 29, 30, 31, 36, 37, 38, 39]), (100059, [0, 7, 56, 57, 58, 59])]
theorem impl_prime_times_body : Try.f59.body = some (Try.f59.body.getD .skip) := by kernel_rfl
theorem impl_prime_times_strip : strip [(6, 1), (7, 2)] (Try.f59.body.getD .skip) = impl_prime_times_c := by kernel_rfl
noncomputable def impl_prime_times_l2 (a2 : (List Int)) (x353 : Int) (a1 : (List Int)) (x492 : Int) (x493 : (List Int)) : Option ((Int × (List Int)) ⊕ (List Int)) :=
  (if (decide (x492 < (a2.length : Int))) then (ifp (0 ≤ x492 ∧ x492 < ((a2.length : Nat) : Int)) ((ifp (0 ≤ IntKind.i64.wrap (x353 + x492) ∧ IntKind.i64.wrap (x353 + x492) < ((x493.length : Nat) : Int)) ((letp (IntKind.i64.wrap (((rd x493 (IntKind.i64.wrap (x353 + x492)).toNat)) + (IntKind.i64.wrap ((rd a1 x353.toNat) * (rd a2 x492.toNat))))) fun x511 => (ifp (0 ≤ IntKind.i64.wrap (x353 + x492) ∧ IntKind.i64.wrap (x353 + x492) < ((x493.length : Nat) : Int)) ((some (.inl ((IntKind.i64.wrap (x492 + 1), (x493.set (IntKind.i64.wrap (x353 + x492)).toNat x511)))))))))))) else (some (.inr x493)))
noncomputable def impl_prime_times_l1 (a1 : (List Int)) (a2 : (List Int)) (x353 : Int) (x354 : (List Int)) : Option ((Int × (List Int)) ⊕ (List Int)) :=
  (if (decide (x353 < (a1.length : Int))) then (Option.bind (α := (List Int)) ((ifp (0 ≤ x353 ∧ x353 < ((a1.length : Nat) : Int)) ((loopM (fun s : (Int × (List Int)) => impl_prime_times_l2 a2 x353 a1 s.1 s.2) (0, x354))))) fun x475 => (some (.inl ((IntKind.i64.wrap (x353 + 1), x475))))) else (some (.inr x354)))
noncomputable def impl_prime_times_l3 (x262 : (List Int)) (a0 : Int) (x551 : Int) (x552 : (List Int)) : Option ((Int × (List Int)) ⊕ (List Int)) :=
  (if (decide (x551 < (x262.length : Int))) then (ifp (0 ≤ x551 ∧ x551 < ((x552.length : Nat) : Int)) ((ifp (a0 ≠ 0) ((ifp (0 ≤ x551 ∧ x551 < ((x552.length : Nat) : Int)) ((some (.inl ((IntKind.i64.wrap (x551 + 1), (x552.set x551.toNat (Int.tmod (rd x552 x551.toNat) a0)))))))))))) else (some (.inr x552)))
noncomputable def impl_prime_times (a0 : Int) (a1 : (List Int)) (a2 : (List Int)) : Option (List Int) :=
  (Option.bind (α := Bool) ((if ((a1.length : Int) == 0) then (some true) else (some (((a2.length : Int) == 0))))) fun x2 => (if x2 then (some ([])) else (letp (IntKind.i64.wrap ((IntKind.i64.wrap ((a1.length : Int) + (a2.length : Int))) - 1)) fun x8 => (ifp (0 ≤ x8 ∧ x8 ≤ 140737488355328 ∧ 8 * x8 ≤ 140737488355328) ((Option.bind (α := (List Int)) ((loopM (fun s : (Int × (List Int)) => impl_prime_times_l1 a1 a2 s.1 s.2) (0, List.replicate x8.toNat (0 : Int)))) fun x262 => (Option.bind (α := (List Int)) ((loopM (fun s : (Int × (List Int)) => impl_prime_times_l3 x262 a0 s.1 s.2) (0, x262))) fun x541 => (Option.bind (impl_row_trimmed x541) fun r569 => (some r569)))))))))
set_option maxHeartbeats 16000000 in
theorem impl_prime_times_ok (a0 : Int) (a1 : (List Int)) (a2 : (List Int)) (r : (List Int)) (h : impl_prime_times a0 a1 a2 = some r) : Den Try.prog 59 [(.int .i64 a0), (eSi64 a1), (eSi64 a2)] { r := (eSi64 r) } := by
  refine den_of (rs := [(eSi64 r)]) (ac := impl_prime_times_c) (L := impl_prime_times_L) (n := 72) (m := [(6, 1), (7, 2)]) good Try.func59 impl_prime_times_body (by kernel_rfl) Try.ntmps59 rfl rfl impl_prime_times_strip rfl rfl ?_
  refine a_st (σ' := ⟨[(0, (.int .i64 a0)), (1, (eSi64 a1)), (2, (eSi64 a2))], []⟩) (by kernel_rfl) ?_
  unfold impl_prime_times_c
  refine a_seq ?_
  refine a_region ?_
  refine a_val (v := (eSi64 ([]))) (u := []) rfl trivial rfl ?_
  refine a_nil ?_
  refine a_next (σ' := ⟨[(0, (.int .i64 a0)), (1, (eSi64 a1)), (2, (eSi64 a2))], []⟩) (by kernel_rfl) ?_
  refine a_seq ?_
  obtain ⟨y3, hy4, hk5⟩ := bind_some h
  clear h
  refine a_join (emb := fun (s : Bool) => ⟨[(0, (.int .i64 a0)), (1, (eSi64 a1)), (2, (eSi64 a2)), (21, (.bool s))], []⟩) (pre := fun s => s = y3) ?_ ?_
  · rintro x2 rfl
    have h := hk5
    refine a_st (σ' := ⟨[(0, (.int .i64 a0)), (1, (eSi64 a1)), (2, (eSi64 a2)), (21, (.bool x2))], []⟩) (by kernel_rfl) ?_
    cases hb7 : x2
    · have h := ite_f hb7 h
      refine a_cond_f rfl ?_
      refine a_skip ?_
      refine a_next (σ' := ⟨[(0, (.int .i64 a0)), (1, (eSi64 a1)), (2, (eSi64 a2))], []⟩) (by kernel_rfl) ?_
      refine a_seq ?_
      refine a_region ?_
      refine a_val (v := (eSi64 a1)) (u := []) rfl trivial rfl ?_
      refine a_val (v := (.int .i64 (a1.length : Int))) (u := []) (len_run rfl rfl) trivial rfl ?_
      refine a_val (v := (eSi64 a2)) (u := []) rfl trivial rfl ?_
      refine a_val (v := (.int .i64 (a2.length : Int))) (u := []) (len_run rfl rfl) trivial rfl ?_
      refine a_val (v := (.int .i64 (IntKind.i64.wrap ((a1.length : Int) + (a2.length : Int))))) (u := []) rfl trivial rfl ?_
      obtain ⟨x8, hx9, h⟩ := letp_some h
      refine a_val' (v := (.int .i64 (IntKind.i64.wrap ((IntKind.i64.wrap ((a1.length : Int) + (a2.length : Int))) - 1)))) (v' := (.int .i64 x8)) (u := []) (u' := []) rfl (congrArg (fun z => ((.int .i64 z) : AV)) hx9) rfl trivial rfl ?_
      obtain ⟨hc10, h⟩ := ifp_some h
      refine a_val (v := (.osl 3800)) (u := [(3800, some ⟨(.row 1 ((List.replicate x8.toNat (0 : Int)).map (AV.int .i64))), false⟩)]) (mk_run (i := ⟨.int .i64, 1, 8, (.int .i64 0)⟩) (f := (AV.int .i64)) (y := (0 : Int)) rfl rfl rfl rfl rfl rfl) ⟨rfl, hc10.1, hc10.2.1, hc10.2.2, (Nat.le_of_ble_eq_true rfl)⟩ rfl ?_
      refine a_val (v := (.osl 3800)) (u := []) rfl trivial rfl ?_
      refine a_nil ?_
      refine a_next (σ' := ⟨[(0, (.int .i64 a0)), (1, (eSi64 a1)), (2, (eSi64 a2)), (7, (.osl 7))], [(7, some ⟨(.row 1 ((List.replicate x8.toNat (0 : Int)).map (AV.int .i64))), false⟩)]⟩) (by kernel_rfl) ?_
      obtain ⟨y263, hy264, hk265⟩ := bind_some h
      clear h
      refine a_join (emb := fun (s : (List Int)) => ⟨[(0, (.int .i64 a0)), (7, (.osl 7))], [(7, some ⟨(.row 1 (s.map (AV.int .i64))), false⟩)]⟩) (pre := fun s => s = y263) ?_ ?_
      · rintro x262 rfl
        have h := hk265
        refine a_st (σ' := ⟨[(0, (.int .i64 a0)), (7, (.osl 7))], [(7, some ⟨(.row 1 (x262.map (AV.int .i64))), false⟩)]⟩) (by kernel_rfl) ?_
        obtain ⟨y542, hy543, hk544⟩ := bind_some h
        clear h
        refine a_join (emb := fun (s : (List Int)) => ⟨[(7, (.osl 7))], [(7, some ⟨(.row 1 (s.map (AV.int .i64))), false⟩)]⟩) (pre := fun s => s = y542) ?_ ?_
        · rintro x541 rfl
          have h := hk544
          refine a_st (σ' := ⟨[(7, (.osl 7))], [(7, some ⟨(.row 1 (x541.map (AV.int .i64))), false⟩)]⟩) (by kernel_rfl) ?_
          refine a_seq ?_
          refine a_region ?_
          refine a_val (v := (.osl 7)) (u := []) rfl trivial rfl ?_
          obtain ⟨r569, hr570, h⟩ := bind_some h
          refine a_call (args := [(eSi64 x541)]) (u := [(7, some ⟨(.row 1 (x541.map (AV.int .i64))), true⟩)]) (r := (eSi64 r569)) rfl rfl (impl_row_trimmed_ok x541 r569 hr570) rfl ?_
          refine a_val (v := (eSi64 r569)) (u := []) rfl trivial rfl ?_
          refine a_nil ?_
          refine a_next rfl ?_
          refine a_ret ?_
          refine ⟨.inr rfl, ?_⟩
          rw [Try.results59]
          cases h
          exact ⟨_, _, _, _, _, rfl, trivial, .inl ⟨rfl, .inl rfl⟩, rfl, rfl⟩
        · have h := hy543
          refine a_seq ?_
          refine a_region ?_
          refine a_val (v := (.osl 7)) (u := []) rfl trivial rfl ?_
          refine a_val (v := (.int .i64 (x262.length : Int))) (u := []) (leno_run rfl rfl rfl) trivial rfl ?_
          refine a_val (v := (.int .i64 0)) (u := []) rfl trivial rfl ?_
          refine a_nil ?_
          refine a_next (σ' := ⟨[(0, (.int .i64 a0)), (7, (.osl 7)), (56, (.osl 7)), (57, (.int .i64 (x262.length : Int))), (58, (.int .i64 0))], [(7, some ⟨(.row 1 (x262.map (AV.int .i64))), false⟩)]⟩) (by kernel_rfl) ?_
          refine a_block ?_
          refine a_loop (emb := fun (s : (Int × (List Int))) => ⟨[(0, (.int .i64 a0)), (7, (.osl 7)), (56, (.osl 7)), (57, (.int .i64 (x262.length : Int))), (58, (.int .i64 s.1))], [(7, some ⟨(.row 1 (s.2.map (AV.int .i64))), false⟩)]⟩) (body := (fun s : (Int × (List Int)) => impl_prime_times_l3 x262 a0 s.1 s.2)) (G := fun q => some q = some y542) h rfl ?_ (by kernel_rfl)
          rintro X559 ⟨x551, x552⟩ x560 h hX561
          have h : impl_prime_times_l3 x262 a0 x551 x552 = some x560 := h
          refine a_st (σ' := ⟨[(0, (.int .i64 a0)), (7, (.osl 7)), (56, (.osl 7)), (57, (.int .i64 (x262.length : Int))), (58, (.int .i64 x551))], [(7, some ⟨(.row 1 (x552.map (AV.int .i64))), false⟩)]⟩) (by kernel_rfl) ?_
          refine a_seq ?_
          refine a_region ?_
          refine a_val (v := (.bool ((decide (x551 < (x262.length : Int)))))) (u := []) rfl trivial rfl ?_
          refine a_nil ?_
          refine a_next (σ' := ⟨[(0, (.int .i64 a0)), (7, (.osl 7)), (56, (.osl 7)), (57, (.int .i64 (x262.length : Int))), (58, (.int .i64 x551)), (59, (.bool ((decide (x551 < (x262.length : Int))))))], [(7, some ⟨(.row 1 (x552.map (AV.int .i64))), false⟩)]⟩) (by kernel_rfl) ?_
          refine a_seq ?_
          cases hb562 : (decide (x551 < (x262.length : Int)))
          · have h := ite_f hb562 h
            refine a_cond_f rfl ?_
            refine a_exit ?_
            refine t_exit ?_
            cases h
            have h := hX561
            refine t_exit ?_
            refine b_exit ?_
            exact j_leaf x552 (Option.some.inj h) (by kernel_rfl)
          · have h := ite_t hb562 h
            refine a_cond_t rfl ?_
            refine a_skip ?_
            refine a_next (σ' := ⟨[(0, (.int .i64 a0)), (7, (.osl 7)), (56, (.osl 7)), (57, (.int .i64 (x262.length : Int))), (58, (.int .i64 x551))], [(7, some ⟨(.row 1 (x552.map (AV.int .i64))), false⟩)]⟩) (by kernel_rfl) ?_
            refine a_seq ?_
            refine a_block ?_
            refine a_seq ?_
            refine a_region ?_
            refine a_val (v := (.int .i64 x551)) (u := []) rfl trivial rfl ?_
            obtain ⟨hc563, h⟩ := ifp_some h
            refine a_val (v := (.own 7 [x551.toNat] [x551.toNat * 1])) (u := []) rfl (lmap hc563) rfl ?_
            have hl564 : LdOk [x551.toNat] (.row 1 (x552.map (AV.int .i64))) [x551.toNat * 1] 1 false (.int .i64 (rd x552 x551.toNat)) := (.row (llt hc563) rfl (.nil rfl rfl rfl))
            refine a_val (v := (.int .i64 (rd x552 x551.toNat))) (u := []) (ld_own (i := ⟨.int .i64, 1, 8, (.int .i64 0)⟩) rfl rfl rfl hl564) hl564.c rfl ?_
            refine a_val (v := (.int .i64 x551)) (u := []) rfl trivial rfl ?_
            refine a_val (v := (.int .i64 (rd x552 x551.toNat))) (u := []) rfl trivial rfl ?_
            refine a_nil ?_
            refine a_next (σ' := ⟨[(0, (.int .i64 a0)), (7, (.osl 7)), (12, (.int .i64 x551)), (13, (.int .i64 (rd x552 x551.toNat))), (56, (.osl 7)), (57, (.int .i64 (x262.length : Int))), (58, (.int .i64 x551))], [(7, some ⟨(.row 1 (x552.map (AV.int .i64))), false⟩)]⟩) (by kernel_rfl) ?_
            refine a_region ?_
            refine a_val (v := (.osl 7)) (u := []) rfl trivial rfl ?_
            refine a_val (v := (.int .i64 x551)) (u := []) rfl trivial rfl ?_
            refine a_val (v := (.int .i64 (rd x552 x551.toNat))) (u := []) rfl trivial rfl ?_
            refine a_val (v := (.int .i64 a0)) (u := []) rfl trivial rfl ?_
            obtain ⟨hc565, h⟩ := ifp_some h
            refine a_val (v := (.int .i64 (Int.tmod (rd x552 x551.toNat) a0))) (u := []) rfl hc565 rfl ?_
            obtain ⟨hc566, h⟩ := ifp_some h
            refine a_val (v := (.own 7 [x551.toNat] [x551.toNat * 1])) (u := []) rfl (lmap hc566) rfl ?_
            have hs567 : StOk [x551.toNat] (.row 1 (x552.map (AV.int .i64))) [x551.toNat * 1] 1 (.int .i64 (Int.tmod (rd x552 x551.toNat) a0)) (.row 1 (((x552.set x551.toNat (Int.tmod (rd x552 x551.toNat) a0))).map (AV.int .i64))) := (.row (y := Int.tmod (rd x552 x551.toNat) a0) (llt hc566) rfl (.nil rfl rfl rfl rfl))
            refine a_val (v := .top) (u := [(7, some ⟨(.row 1 (((x552.set x551.toNat (Int.tmod (rd x552 x551.toNat) a0))).map (AV.int .i64))), false⟩)]) (st_own (i := ⟨.int .i64, 1, 8, (.int .i64 0)⟩) rfl rfl (fun _ => rfl) rfl hs567) (hs567.c rfl) rfl ?_
            refine a_nil ?_
            refine b_norm ?_
            refine a_next (σ' := ⟨[(0, (.int .i64 a0)), (7, (.osl 7)), (56, (.osl 7)), (57, (.int .i64 (x262.length : Int))), (58, (.int .i64 x551))], [(7, some ⟨(.row 1 (((x552.set x551.toNat (Int.tmod (rd x552 x551.toNat) a0))).map (AV.int .i64))), false⟩)]⟩) (by kernel_rfl) ?_
            refine a_region ?_
            refine a_val (v := (.int .i64 (IntKind.i64.wrap (x551 + 1)))) (u := []) rfl trivial rfl ?_
            refine a_val (v := (.int .i64 (IntKind.i64.wrap (x551 + 1)))) (u := []) rfl trivial rfl ?_
            refine a_nil ?_
            cases h
            exact a_again (by kernel_rfl) hX561
      · have h := hy264
        refine a_seq ?_
        refine a_region ?_
        refine a_val (v := (eSi64 a1)) (u := []) rfl trivial rfl ?_
        refine a_val (v := (.int .i64 (a1.length : Int))) (u := []) (len_run rfl rfl) trivial rfl ?_
        refine a_val (v := (.int .i64 0)) (u := []) rfl trivial rfl ?_
        refine a_nil ?_
        refine a_next (σ' := ⟨[(0, (.int .i64 a0)), (2, (eSi64 a2)), (7, (.osl 7)), (29, (eSi64 a1)), (30, (.int .i64 (a1.length : Int))), (31, (.int .i64 0))], [(7, some ⟨(.row 1 ((List.replicate x8.toNat (0 : Int)).map (AV.int .i64))), false⟩)]⟩) (by kernel_rfl) ?_
        refine a_block ?_
        refine a_loop (emb := fun (s : (Int × (List Int))) => ⟨[(0, (.int .i64 a0)), (2, (eSi64 a2)), (7, (.osl 7)), (29, (eSi64 a1)), (30, (.int .i64 (a1.length : Int))), (31, (.int .i64 s.1))], [(7, some ⟨(.row 1 (s.2.map (AV.int .i64))), false⟩)]⟩) (body := (fun s : (Int × (List Int)) => impl_prime_times_l1 a1 a2 s.1 s.2)) (G := fun q => some q = some y263) h rfl ?_ (by kernel_rfl)
        rintro X434 ⟨x353, x354⟩ x435 h hX436
        have h : impl_prime_times_l1 a1 a2 x353 x354 = some x435 := h
        refine a_st (σ' := ⟨[(0, (.int .i64 a0)), (2, (eSi64 a2)), (7, (.osl 7)), (29, (eSi64 a1)), (30, (.int .i64 (a1.length : Int))), (31, (.int .i64 x353))], [(7, some ⟨(.row 1 (x354.map (AV.int .i64))), false⟩)]⟩) (by kernel_rfl) ?_
        refine a_seq ?_
        refine a_region ?_
        refine a_val (v := (.bool ((decide (x353 < (a1.length : Int)))))) (u := []) rfl trivial rfl ?_
        refine a_nil ?_
        refine a_next (σ' := ⟨[(0, (.int .i64 a0)), (2, (eSi64 a2)), (7, (.osl 7)), (29, (eSi64 a1)), (30, (.int .i64 (a1.length : Int))), (31, (.int .i64 x353)), (32, (.bool ((decide (x353 < (a1.length : Int))))))], [(7, some ⟨(.row 1 (x354.map (AV.int .i64))), false⟩)]⟩) (by kernel_rfl) ?_
        refine a_seq ?_
        cases hb437 : (decide (x353 < (a1.length : Int)))
        · have h := ite_f hb437 h
          refine a_cond_f rfl ?_
          refine a_exit ?_
          refine t_exit ?_
          cases h
          have h := hX436
          refine t_exit ?_
          refine b_exit ?_
          exact j_leaf x354 (Option.some.inj h) (by kernel_rfl)
        · have h := ite_t hb437 h
          refine a_cond_t rfl ?_
          refine a_skip ?_
          refine a_next (σ' := ⟨[(0, (.int .i64 a0)), (2, (eSi64 a2)), (7, (.osl 7)), (29, (eSi64 a1)), (30, (.int .i64 (a1.length : Int))), (31, (.int .i64 x353))], [(7, some ⟨(.row 1 (x354.map (AV.int .i64))), false⟩)]⟩) (by kernel_rfl) ?_
          obtain ⟨y476, hy477, hk478⟩ := bind_some h
          clear h
          refine a_join (emb := fun (s : (List Int)) => ⟨[(0, (.int .i64 a0)), (2, (eSi64 a2)), (7, (.osl 7)), (29, (eSi64 a1)), (30, (.int .i64 (a1.length : Int))), (31, (.int .i64 x353))], [(7, some ⟨(.row 1 (s.map (AV.int .i64))), false⟩)]⟩) (pre := fun s => s = y476) ?_ ?_
          · rintro x475 rfl
            have h := hk478
            refine a_st (σ' := ⟨[(0, (.int .i64 a0)), (2, (eSi64 a2)), (7, (.osl 7)), (29, (eSi64 a1)), (30, (.int .i64 (a1.length : Int))), (31, (.int .i64 x353))], [(7, some ⟨(.row 1 (x475.map (AV.int .i64))), false⟩)]⟩) (by kernel_rfl) ?_
            refine a_region ?_
            refine a_val (v := (.int .i64 (IntKind.i64.wrap (x353 + 1)))) (u := []) rfl trivial rfl ?_
            refine a_val (v := (.int .i64 (IntKind.i64.wrap (x353 + 1)))) (u := []) rfl trivial rfl ?_
            refine a_nil ?_
            cases h
            exact a_again (by kernel_rfl) hX436
          · have h := hy477
            refine a_block ?_
            refine a_seq ?_
            refine a_region ?_
            refine a_val (v := (.int .i64 x353)) (u := []) rfl trivial rfl ?_
            obtain ⟨hc479, h⟩ := ifp_some h
            refine a_val (v := (.ref (.row 1 (a1.map (AV.int .i64))) [x353.toNat] [x353.toNat * 1])) (u := []) rfl (lmap hc479) rfl ?_
            have hl480 : LdOk [x353.toNat] (.row 1 (a1.map (AV.int .i64))) [x353.toNat * 1] 1 false (.int .i64 (rd a1 x353.toNat)) := (.row (llt hc479) rfl (.nil rfl rfl rfl))
            refine a_val (v := (.int .i64 (rd a1 x353.toNat))) (u := []) (ld_ref (i := ⟨.int .i64, 1, 8, (.int .i64 0)⟩) rfl rfl hl480) hl480.c rfl ?_
            refine a_val (v := (.int .i64 x353)) (u := []) rfl trivial rfl ?_
            refine a_val (v := (.int .i64 (rd a1 x353.toNat))) (u := []) rfl trivial rfl ?_
            refine a_nil ?_
            refine a_next (σ' := ⟨[(0, (.int .i64 a0)), (2, (eSi64 a2)), (7, (.osl 7)), (8, (.int .i64 x353)), (9, (.int .i64 (rd a1 x353.toNat))), (29, (eSi64 a1)), (30, (.int .i64 (a1.length : Int))), (31, (.int .i64 x353))], [(7, some ⟨(.row 1 (x354.map (AV.int .i64))), false⟩)]⟩) (by kernel_rfl) ?_
            refine a_seq ?_
            refine a_region ?_
            refine a_val (v := (eSi64 a2)) (u := []) rfl trivial rfl ?_
            refine a_val (v := (.int .i64 (a2.length : Int))) (u := []) (len_run rfl rfl) trivial rfl ?_
            refine a_val (v := (.int .i64 0)) (u := []) rfl trivial rfl ?_
            refine a_nil ?_
            refine a_next (σ' := ⟨[(0, (.int .i64 a0)), (2, (eSi64 a2)), (7, (.osl 7)), (8, (.int .i64 x353)), (9, (.int .i64 (rd a1 x353.toNat))), (29, (eSi64 a1)), (30, (.int .i64 (a1.length : Int))), (31, (.int .i64 x353)), (36, (eSi64 a2)), (37, (.int .i64 (a2.length : Int))), (38, (.int .i64 0))], [(7, some ⟨(.row 1 (x354.map (AV.int .i64))), false⟩)]⟩) (by kernel_rfl) ?_
            refine a_block ?_
            refine a_loop (emb := fun (s : (Int × (List Int))) => ⟨[(0, (.int .i64 a0)), (2, (eSi64 a2)), (7, (.osl 7)), (8, (.int .i64 x353)), (9, (.int .i64 (rd a1 x353.toNat))), (29, (eSi64 a1)), (30, (.int .i64 (a1.length : Int))), (31, (.int .i64 x353)), (36, (eSi64 a2)), (37, (.int .i64 (a2.length : Int))), (38, (.int .i64 s.1))], [(7, some ⟨(.row 1 (s.2.map (AV.int .i64))), false⟩)]⟩) (body := (fun s : (Int × (List Int)) => impl_prime_times_l2 a2 x353 a1 s.1 s.2)) (G := fun q => some q = some y476) h rfl ?_ (by kernel_rfl)
            rintro X503 ⟨x492, x493⟩ x504 h hX505
            have h : impl_prime_times_l2 a2 x353 a1 x492 x493 = some x504 := h
            refine a_st (σ' := ⟨[(0, (.int .i64 a0)), (2, (eSi64 a2)), (7, (.osl 7)), (8, (.int .i64 x353)), (9, (.int .i64 (rd a1 x353.toNat))), (29, (eSi64 a1)), (30, (.int .i64 (a1.length : Int))), (31, (.int .i64 x353)), (36, (eSi64 a2)), (37, (.int .i64 (a2.length : Int))), (38, (.int .i64 x492))], [(7, some ⟨(.row 1 (x493.map (AV.int .i64))), false⟩)]⟩) (by kernel_rfl) ?_
            refine a_seq ?_
            refine a_region ?_
            refine a_val (v := (.bool ((decide (x492 < (a2.length : Int)))))) (u := []) rfl trivial rfl ?_
            refine a_nil ?_
            refine a_next (σ' := ⟨[(0, (.int .i64 a0)), (2, (eSi64 a2)), (7, (.osl 7)), (8, (.int .i64 x353)), (9, (.int .i64 (rd a1 x353.toNat))), (29, (eSi64 a1)), (30, (.int .i64 (a1.length : Int))), (31, (.int .i64 x353)), (36, (eSi64 a2)), (37, (.int .i64 (a2.length : Int))), (38, (.int .i64 x492)), (39, (.bool ((decide (x492 < (a2.length : Int))))))], [(7, some ⟨(.row 1 (x493.map (AV.int .i64))), false⟩)]⟩) (by kernel_rfl) ?_
            refine a_seq ?_
            cases hb506 : (decide (x492 < (a2.length : Int)))
            · have h := ite_f hb506 h
              refine a_cond_f rfl ?_
              refine a_exit ?_
              refine t_exit ?_
              cases h
              have h := hX505
              refine t_exit ?_
              refine b_exit ?_
              refine b_norm ?_
              exact j_leaf x493 (Option.some.inj h) (by kernel_rfl)
            · have h := ite_t hb506 h
              refine a_cond_t rfl ?_
              refine a_skip ?_
              refine a_next (σ' := ⟨[(0, (.int .i64 a0)), (2, (eSi64 a2)), (7, (.osl 7)), (8, (.int .i64 x353)), (9, (.int .i64 (rd a1 x353.toNat))), (29, (eSi64 a1)), (30, (.int .i64 (a1.length : Int))), (31, (.int .i64 x353)), (36, (eSi64 a2)), (37, (.int .i64 (a2.length : Int))), (38, (.int .i64 x492))], [(7, some ⟨(.row 1 (x493.map (AV.int .i64))), false⟩)]⟩) (by kernel_rfl) ?_
              refine a_seq ?_
              refine a_block ?_
              refine a_seq ?_
              refine a_region ?_
              refine a_val (v := (.int .i64 x492)) (u := []) rfl trivial rfl ?_
              obtain ⟨hc507, h⟩ := ifp_some h
              refine a_val (v := (.ref (.row 1 (a2.map (AV.int .i64))) [x492.toNat] [x492.toNat * 1])) (u := []) rfl (lmap hc507) rfl ?_
              have hl508 : LdOk [x492.toNat] (.row 1 (a2.map (AV.int .i64))) [x492.toNat * 1] 1 false (.int .i64 (rd a2 x492.toNat)) := (.row (llt hc507) rfl (.nil rfl rfl rfl))
              refine a_val (v := (.int .i64 (rd a2 x492.toNat))) (u := []) (ld_ref (i := ⟨.int .i64, 1, 8, (.int .i64 0)⟩) rfl rfl hl508) hl508.c rfl ?_
              refine a_val (v := (.int .i64 x492)) (u := []) rfl trivial rfl ?_
              refine a_val (v := (.int .i64 (rd a2 x492.toNat))) (u := []) rfl trivial rfl ?_
              refine a_nil ?_
              refine a_next (σ' := ⟨[(0, (.int .i64 a0)), (2, (eSi64 a2)), (7, (.osl 7)), (8, (.int .i64 x353)), (9, (.int .i64 (rd a1 x353.toNat))), (10, (.int .i64 x492)), (11, (.int .i64 (rd a2 x492.toNat))), (29, (eSi64 a1)), (30, (.int .i64 (a1.length : Int))), (31, (.int .i64 x353)), (36, (eSi64 a2)), (37, (.int .i64 (a2.length : Int))), (38, (.int .i64 x492))], [(7, some ⟨(.row 1 (x493.map (AV.int .i64))), false⟩)]⟩) (by kernel_rfl) ?_
              refine a_region ?_
              refine a_val (v := (.osl 7)) (u := []) rfl trivial rfl ?_
              refine a_val (v := (.int .i64 x353)) (u := []) rfl trivial rfl ?_
              refine a_val (v := (.int .i64 x492)) (u := []) rfl trivial rfl ?_
              refine a_val (v := (.int .i64 (IntKind.i64.wrap (x353 + x492)))) (u := []) rfl trivial rfl ?_
              obtain ⟨hc509, h⟩ := ifp_some h
              refine a_val (v := (.own 7 [(IntKind.i64.wrap (x353 + x492)).toNat] [(IntKind.i64.wrap (x353 + x492)).toNat * 1])) (u := []) rfl (lmap hc509) rfl ?_
              have hl510 : LdOk [(IntKind.i64.wrap (x353 + x492)).toNat] (.row 1 (x493.map (AV.int .i64))) [(IntKind.i64.wrap (x353 + x492)).toNat * 1] 1 false (.int .i64 ((rd x493 (IntKind.i64.wrap (x353 + x492)).toNat))) := (.row (llt hc509) rfl (.nil rfl rfl rfl))
              refine a_val (v := (.int .i64 ((rd x493 (IntKind.i64.wrap (x353 + x492)).toNat)))) (u := []) (ld_own (i := ⟨.int .i64, 1, 8, (.int .i64 0)⟩) rfl rfl rfl hl510) hl510.c rfl ?_
              refine a_val (v := (.int .i64 (rd a1 x353.toNat))) (u := []) rfl trivial rfl ?_
              refine a_val (v := (.int .i64 (rd a2 x492.toNat))) (u := []) rfl trivial rfl ?_
              refine a_val (v := (.int .i64 (IntKind.i64.wrap ((rd a1 x353.toNat) * (rd a2 x492.toNat))))) (u := []) rfl trivial rfl ?_
              obtain ⟨x511, hx512, h⟩ := letp_some h
              refine a_val' (v := (.int .i64 (IntKind.i64.wrap (((rd x493 (IntKind.i64.wrap (x353 + x492)).toNat)) + (IntKind.i64.wrap ((rd a1 x353.toNat) * (rd a2 x492.toNat))))))) (v' := (.int .i64 x511)) (u := []) (u' := []) rfl (congrArg (fun z => ((.int .i64 z) : AV)) hx512) rfl trivial rfl ?_
              obtain ⟨hc513, h⟩ := ifp_some h
              refine a_val (v := (.own 7 [(IntKind.i64.wrap (x353 + x492)).toNat] [(IntKind.i64.wrap (x353 + x492)).toNat * 1])) (u := []) rfl (lmap hc513) rfl ?_
              have hs514 : StOk [(IntKind.i64.wrap (x353 + x492)).toNat] (.row 1 (x493.map (AV.int .i64))) [(IntKind.i64.wrap (x353 + x492)).toNat * 1] 1 (.int .i64 x511) (.row 1 (((x493.set (IntKind.i64.wrap (x353 + x492)).toNat x511)).map (AV.int .i64))) := (.row (y := x511) (llt hc513) rfl (.nil rfl rfl rfl rfl))
              refine a_val (v := .top) (u := [(7, some ⟨(.row 1 (((x493.set (IntKind.i64.wrap (x353 + x492)).toNat x511)).map (AV.int .i64))), false⟩)]) (st_own (i := ⟨.int .i64, 1, 8, (.int .i64 0)⟩) rfl rfl (fun _ => rfl) rfl hs514) (hs514.c rfl) rfl ?_
              refine a_nil ?_
              refine b_norm ?_
              refine a_next (σ' := ⟨[(0, (.int .i64 a0)), (2, (eSi64 a2)), (7, (.osl 7)), (8, (.int .i64 x353)), (9, (.int .i64 (rd a1 x353.toNat))), (29, (eSi64 a1)), (30, (.int .i64 (a1.length : Int))), (31, (.int .i64 x353)), (36, (eSi64 a2)), (37, (.int .i64 (a2.length : Int))), (38, (.int .i64 x492))], [(7, some ⟨(.row 1 (((x493.set (IntKind.i64.wrap (x353 + x492)).toNat x511)).map (AV.int .i64))), false⟩)]⟩) (by kernel_rfl) ?_
              refine a_region ?_
              refine a_val (v := (.int .i64 (IntKind.i64.wrap (x492 + 1)))) (u := []) rfl trivial rfl ?_
              refine a_val (v := (.int .i64 (IntKind.i64.wrap (x492 + 1)))) (u := []) rfl trivial rfl ?_
              refine a_nil ?_
              cases h
              exact a_again (by kernel_rfl) hX505
    · have h := ite_t hb7 h
      refine a_cond_t rfl ?_
      refine a_seq ?_
      refine a_region ?_
      refine a_val (v := (eSi64 ([]))) (u := []) rfl trivial rfl ?_
      refine a_nil ?_
      refine a_next rfl ?_
      refine a_ret ?_
      refine t_ret ?_
      refine ⟨.inr rfl, ?_⟩
      rw [Try.results59]
      cases h
      exact ⟨_, _, _, _, _, rfl, trivial, .inl ⟨rfl, .inl rfl⟩, rfl, rfl⟩
  · have h := hy4
    refine a_region ?_
    refine a_val (v := (eSi64 a1)) (u := []) rfl trivial rfl ?_
    refine a_val (v := (.int .i64 (a1.length : Int))) (u := []) (len_run rfl rfl) trivial rfl ?_
    refine a_val (v := (.bool (((a1.length : Int) == 0)))) (u := []) rfl trivial rfl ?_
    refine a_val (v := (.bool (((a1.length : Int) == 0)))) (u := []) rfl trivial rfl ?_
    cases hb6 : ((a1.length : Int) == 0)
    · have h := ite_f hb6 h
      refine a_gval rfl (v := (eSi64 a2)) (u := []) rfl trivial rfl ?_
      refine a_gval rfl (v := (.int .i64 (a2.length : Int))) (u := []) (len_run rfl rfl) trivial rfl ?_
      refine a_gval rfl (v := (.bool (((a2.length : Int) == 0)))) (u := []) rfl trivial rfl ?_
      refine a_val (v := (.bool (((a2.length : Int) == 0)))) (u := []) rfl trivial rfl ?_
      refine a_nil ?_
      exact j_leaf (((a2.length : Int) == 0)) (Option.some.inj h) (by kernel_rfl)
    · have h := ite_t hb6 h
      refine a_gskip rfl ?_
      refine a_gskip rfl ?_
      refine a_gskip rfl ?_
      refine a_val (v := (.bool true)) (u := []) rfl trivial rfl ?_
      refine a_nil ?_
      exact j_leaf true (Option.some.inj h) (by kernel_rfl)
def impl_row_at_c : ACode := (.seq (.region 0 [⟨some 4, .asg 0 (.const (.int .i64 0)) 2, none, []⟩] false) (.seq (.seq (.region 1 [⟨some 5, .mov (.tmp 1), none, []⟩, ⟨some 6, .mov (.tmp 0), none, []⟩, ⟨some 7, .blt 0 .len [(.tmp 6)] [64], none, []⟩, ⟨some 8, .bin .lss 3 (.tmp 5) (.tmp 7), none, []⟩] false) (.cond (.tmp 8) (.seq (.region 2 [⟨some 9, .mov (.tmp 0), none, []⟩, ⟨some 10, .mov (.tmp 1), none, []⟩, ⟨some 11, .indexAddr 64 (.tmp 9) (.tmp 10), none, []⟩, ⟨some 12, .load 2 (.tmp 11), none, []⟩, ⟨some 4, .asg 0 (.tmp 12) 2, none, []⟩] false) .ret) .skip)) (.seq (.region 3 [⟨some 4, .asg 0 (.const (.int .i64 0)) 2, none, []⟩] false) .ret)))
def impl_row_at_L : Live := [(0, [0, 1]), (1, [0, 1]), (2, [0, 1]), (3, []), (100008, [0, 1, 8])]
theorem impl_row_at_body : Try.f93.body = some (Try.f93.body.getD .skip) := by kernel_rfl
theorem impl_row_at_strip : strip [] (Try.f93.body.getD .skip) = impl_row_at_c := by kernel_rfl
noncomputable def impl_row_at (a0 : (List Int)) (a1 : Int) : Option Int :=
  (if (decide (a1 < (a0.length : Int))) then (ifp (0 ≤ a1 ∧ a1 < ((a0.length : Nat) : Int)) ((some (rd a0 a1.toNat)))) else (some 0))
set_option maxHeartbeats 16000000 in
theorem impl_row_at_ok (a0 : (List Int)) (a1 : Int) (r : Int) (h : impl_row_at a0 a1 = some r) : Den Try.prog 93 [(eSi64 a0), (.int .i64 a1)] { r := (.int .i64 r) } := by
  refine den_of (rs := [(.int .i64 r)]) (ac := impl_row_at_c) (L := impl_row_at_L) (n := 13) (m := []) good Try.func93 impl_row_at_body (by kernel_rfl) Try.ntmps93 rfl rfl impl_row_at_strip rfl rfl ?_
  refine a_st (σ' := ⟨[(0, (eSi64 a0)), (1, (.int .i64 a1))], []⟩) (by kernel_rfl) ?_
  unfold impl_row_at_c
  refine a_seq ?_
  refine a_region ?_
  refine a_val (v := (.int .i64 0)) (u := []) rfl trivial rfl ?_
  refine a_nil ?_
  refine a_next (σ' := ⟨[(0, (eSi64 a0)), (1, (.int .i64 a1))], []⟩) (by kernel_rfl) ?_
  refine a_seq ?_
  refine a_seq ?_
  refine a_region ?_
  refine a_val (v := (.int .i64 a1)) (u := []) rfl trivial rfl ?_
  refine a_val (v := (eSi64 a0)) (u := []) rfl trivial rfl ?_
  refine a_val (v := (.int .i64 (a0.length : Int))) (u := []) (len_run rfl rfl) trivial rfl ?_
  refine a_val (v := (.bool ((decide (a1 < (a0.length : Int)))))) (u := []) rfl trivial rfl ?_
  refine a_nil ?_
  refine a_next (σ' := ⟨[(0, (eSi64 a0)), (1, (.int .i64 a1)), (8, (.bool ((decide (a1 < (a0.length : Int))))))], []⟩) (by kernel_rfl) ?_
  cases hb1 : (decide (a1 < (a0.length : Int)))
  · have h := ite_f hb1 h
    refine a_cond_f rfl ?_
    refine a_skip ?_
    refine a_next (σ' := ⟨[], []⟩) (by kernel_rfl) ?_
    refine a_seq ?_
    refine a_region ?_
    refine a_val (v := (.int .i64 0)) (u := []) rfl trivial rfl ?_
    refine a_nil ?_
    refine a_next rfl ?_
    refine a_ret ?_
    refine ⟨.inr rfl, ?_⟩
    rw [Try.results93]
    cases h
    exact ⟨_, _, _, _, _, rfl, trivial, .inl ⟨rfl, .inl rfl⟩, rfl, rfl⟩
  · have h := ite_t hb1 h
    refine a_cond_t rfl ?_
    refine a_seq ?_
    refine a_region ?_
    refine a_val (v := (eSi64 a0)) (u := []) rfl trivial rfl ?_
    refine a_val (v := (.int .i64 a1)) (u := []) rfl trivial rfl ?_
    obtain ⟨hc2, h⟩ := ifp_some h
    refine a_val (v := (.ref (.row 1 (a0.map (AV.int .i64))) [a1.toNat] [a1.toNat * 1])) (u := []) rfl (lmap hc2) rfl ?_
    have hl3 : LdOk [a1.toNat] (.row 1 (a0.map (AV.int .i64))) [a1.toNat * 1] 1 false (.int .i64 (rd a0 a1.toNat)) := (.row (llt hc2) rfl (.nil rfl rfl rfl))
    refine a_val (v := (.int .i64 (rd a0 a1.toNat))) (u := []) (ld_ref (i := ⟨.int .i64, 1, 8, (.int .i64 0)⟩) rfl rfl hl3) hl3.c rfl ?_
    refine a_val (v := (.int .i64 (rd a0 a1.toNat))) (u := []) rfl trivial rfl ?_
    refine a_nil ?_
    refine a_next rfl ?_
    refine a_ret ?_
    refine t_ret ?_
    refine ⟨.inr rfl, ?_⟩
    rw [Try.results93]
    cases h
    exact ⟨_, _, _, _, _, rfl, trivial, .inl ⟨rfl, .inl rfl⟩, rfl, rfl⟩
def impl_prime_combine_c : ACode := (.seq (.region 0 [⟨some 8, .asg 1 (.const (.slice none 0 0)) 64, none, []⟩] false) (.seq (.region 1 [⟨some 11, .mov (.tmp 1), none, []⟩, ⟨some 12, .blt 0 .len [(.tmp 11)] [64], none, []⟩, ⟨some 13, .mov (.tmp 2), none, []⟩, ⟨some 14, .blt 0 .len [(.tmp 13)] [64], none, []⟩, ⟨some 15, .blt 0 .max [(.tmp 12), (.tmp 14)] [3, 3], none, []⟩, ⟨some 16, .mkslice 64 (.tmp 15) (.tmp 15), none, []⟩, ⟨some 9, .asg 2 (.tmp 16) 64, none, []⟩] false) (.seq (.seq (.region 2 [⟨some 17, .mov (.tmp 9), none, []⟩, ⟨some 18, .blt 0 .len [(.tmp 17)] [64], none, []⟩, ⟨some 19, .mov (.const (.int .i64 0)), none, []⟩] false) (.block 0 (.loop (.seq (.region 3 [⟨some 20, .bin .lss 3 (.tmp 19) (.tmp 18), none, []⟩] false) (.seq (.cond (.tmp 20) .skip (.exit 0)) (.seq (.block 1 (.seq (.region 4 [⟨some 21, .mov (.tmp 19), none, []⟩, ⟨some 10, .asg 0 (.tmp 21) 3, none, []⟩] false) (.region 5 [⟨some 22, .mov (.tmp 9), none, []⟩, ⟨some 23, .mov (.tmp 10), none, []⟩, ⟨some 24, .mov (.tmp 0), none, []⟩, ⟨some 25, .mov (.tmp 1), none, []⟩, ⟨some 26, .mov (.tmp 10), none, []⟩, ⟨some 27, .call 0 (.func 93) [(.tmp 25), (.tmp 26)], none, []⟩, ⟨some 28, .mov (.tmp 3), none, []⟩, ⟨some 29, .mov (.tmp 2), none, []⟩, ⟨some 30, .mov (.tmp 10), none, []⟩, ⟨some 31, .call 0 (.func 93) [(.tmp 29), (.tmp 30)], none, []⟩, ⟨some 32, .bin .mul 2 (.tmp 28) (.tmp 31), none, []⟩, ⟨some 33, .bin .add 2 (.tmp 27) (.tmp 32), none, []⟩, ⟨some 34, .call 0 (.func 110) [(.tmp 24), (.tmp 33)], none, []⟩, ⟨some 35, .indexAddr 64 (.tmp 22) (.tmp 23), none, []⟩, ⟨none, .store 2 (.tmp 35) (.tmp 34), none, []⟩] false))) (.region 6 [⟨some 36, .bin .add 3 (.tmp 19) (.const (.int .i64 1)), none, []⟩, ⟨some 19, .mov (.tmp 36), none, []⟩] false))))))) (.seq (.region 7 [⟨some 37, .mov (.tmp 9), none, []⟩, ⟨some 38, .call 0 (.func 111) [(.tmp 37)], none, []⟩, ⟨some 8, .asg 1 (.tmp 38) 64, none, []⟩] false) .ret))))
def impl_prime_combine_L : Live := [(0, [0, 1, 2, 3]), (1, [0, 1, 2, 3]), (2, [0, 1, 2, 3, 9]), (3, [0, 1, 2, 3, 9, 18, 19]), (4, [0, 1, 2, 3, 9, 18, 19]), (5, [0, 1, 2, 3, 9, 10, 18, 19]), (6, [0, 1, 2, 3, 9, 18, 19]), (7, [9]), (100020, [0, 1, 2, 3, 9, 18, 19, 20])]
theorem impl_prime_combine_body : Try.f56.body = some (Try.f56.body.getD .skip) := by kernel_rfl
theorem impl_prime_combine_strip : strip [(8, 1), (9, 2)] (Try.f56.body.getD .skip) = impl_prime_combine_c := by kernel_rfl
noncomputable def impl_prime_combine_l1 (x1 : Int) (a1 : (List Int)) (a2 : (List Int)) (a0 : Int) (a3 : Int) (x58 : Int) (x59 : (List Int)) : Option ((Int × (List Int)) ⊕ (List Int)) :=
  (letp ((decide (x58 < (((List.replicate x1.toNat (0 : Int)).length : Int))))) fun x74 => (if x74 then (Option.bind (impl_row_at a1 x58) fun r77 => (Option.bind (impl_row_at a2 x58) fun r79 => (Option.bind (impl_prime_reduce a0 (IntKind.i64.wrap (r77 + (IntKind.i64.wrap (a3 * r79))))) fun r81 => (ifp (0 ≤ x58 ∧ x58 < ((x59.length : Nat) : Int)) ((some (.inl ((IntKind.i64.wrap (x58 + 1), (x59.set x58.toNat r81)))))))))) else (some (.inr x59))))
noncomputable def impl_prime_combine (a0 : Int) (a1 : (List Int)) (a2 : (List Int)) (a3 : Int) : Option (List Int) :=
  (letp ((if (a2.length : Int) > (a1.length : Int) then (a2.length : Int) else (a1.length : Int))) fun x1 => (ifp (0 ≤ x1 ∧ x1 ≤ 140737488355328 ∧ 8 * x1 ≤ 140737488355328) ((Option.bind (α := (List Int)) ((loopM (fun s : (Int × (List Int)) => impl_prime_combine_l1 x1 a1 a2 a0 a3 s.1 s.2) (0, List.replicate x1.toNat (0 : Int)))) fun x43 => (Option.bind (impl_row_trimmed x43) fun r86 => (some r86))))))
set_option maxHeartbeats 16000000 in
theorem impl_prime_combine_ok (a0 : Int) (a1 : (List Int)) (a2 : (List Int)) (a3 : Int) (r : (List Int)) (h : impl_prime_combine a0 a1 a2 a3 = some r) : Den Try.prog 56 [(.int .i64 a0), (eSi64 a1), (eSi64 a2), (.int .i64 a3)] { r := (eSi64 r) } := by
  refine den_of (rs := [(eSi64 r)]) (ac := impl_prime_combine_c) (L := impl_prime_combine_L) (n := 39) (m := [(8, 1), (9, 2)]) good Try.func56 impl_prime_combine_body (by kernel_rfl) Try.ntmps56 rfl rfl impl_prime_combine_strip rfl rfl ?_
  refine a_st (σ' := ⟨[(0, (.int .i64 a0)), (1, (eSi64 a1)), (2, (eSi64 a2)), (3, (.int .i64 a3))], []⟩) (by kernel_rfl) ?_
  unfold impl_prime_combine_c
  refine a_seq ?_
  refine a_region ?_
  refine a_val (v := (eSi64 ([]))) (u := []) rfl trivial rfl ?_
  refine a_nil ?_
  refine a_next (σ' := ⟨[(0, (.int .i64 a0)), (1, (eSi64 a1)), (2, (eSi64 a2)), (3, (.int .i64 a3))], []⟩) (by kernel_rfl) ?_
  refine a_seq ?_
  refine a_region ?_
  refine a_val (v := (eSi64 a1)) (u := []) rfl trivial rfl ?_
  refine a_val (v := (.int .i64 (a1.length : Int))) (u := []) (len_run rfl rfl) trivial rfl ?_
  refine a_val (v := (eSi64 a2)) (u := []) rfl trivial rfl ?_
  refine a_val (v := (.int .i64 (a2.length : Int))) (u := []) (len_run rfl rfl) trivial rfl ?_
  obtain ⟨x1, hx2, h⟩ := letp_some h
  refine a_val' (v := (.int .i64 ((if (a2.length : Int) > (a1.length : Int) then (a2.length : Int) else (a1.length : Int))))) (v' := (.int .i64 x1)) (u := []) (u' := []) rfl (congrArg (fun z => ((.int .i64 z) : AV)) hx2) rfl trivial rfl ?_
  obtain ⟨hc3, h⟩ := ifp_some h
  refine a_val (v := (.osl 2600)) (u := [(2600, some ⟨(.row 1 ((List.replicate x1.toNat (0 : Int)).map (AV.int .i64))), false⟩)]) (mk_run (i := ⟨.int .i64, 1, 8, (.int .i64 0)⟩) (f := (AV.int .i64)) (y := (0 : Int)) rfl rfl rfl rfl rfl rfl) ⟨rfl, hc3.1, hc3.2.1, hc3.2.2, (Nat.le_of_ble_eq_true rfl)⟩ rfl ?_
  refine a_val (v := (.osl 2600)) (u := []) rfl trivial rfl ?_
  refine a_nil ?_
  refine a_next (σ' := ⟨[(0, (.int .i64 a0)), (1, (eSi64 a1)), (2, (eSi64 a2)), (3, (.int .i64 a3)), (9, (.osl 9))], [(9, some ⟨(.row 1 ((List.replicate x1.toNat (0 : Int)).map (AV.int .i64))), false⟩)]⟩) (by kernel_rfl) ?_
  obtain ⟨y44, hy45, hk46⟩ := bind_some h
  clear h
  refine a_join (emb := fun (s : (List Int)) => ⟨[(9, (.osl 9))], [(9, some ⟨(.row 1 (s.map (AV.int .i64))), false⟩)]⟩) (pre := fun s => s = y44) ?_ ?_
  · rintro x43 rfl
    have h := hk46
    refine a_st (σ' := ⟨[(9, (.osl 9))], [(9, some ⟨(.row 1 (x43.map (AV.int .i64))), false⟩)]⟩) (by kernel_rfl) ?_
    refine a_seq ?_
    refine a_region ?_
    refine a_val (v := (.osl 9)) (u := []) rfl trivial rfl ?_
    obtain ⟨r86, hr87, h⟩ := bind_some h
    refine a_call (args := [(eSi64 x43)]) (u := [(9, some ⟨(.row 1 (x43.map (AV.int .i64))), true⟩)]) (r := (eSi64 r86)) rfl rfl (impl_row_trimmed_ok x43 r86 hr87) rfl ?_
    refine a_val (v := (eSi64 r86)) (u := []) rfl trivial rfl ?_
    refine a_nil ?_
    refine a_next rfl ?_
    refine a_ret ?_
    refine ⟨.inr rfl, ?_⟩
    rw [Try.results56]
    cases h
    exact ⟨_, _, _, _, _, rfl, trivial, .inl ⟨rfl, .inl rfl⟩, rfl, rfl⟩
  · have h := hy45
    refine a_seq ?_
    refine a_region ?_
    refine a_val (v := (.osl 9)) (u := []) rfl trivial rfl ?_
    refine a_val (v := (.int .i64 (((List.replicate x1.toNat (0 : Int)).length : Int)))) (u := []) (leno_run rfl rfl rfl) trivial rfl ?_
    refine a_val (v := (.int .i64 0)) (u := []) rfl trivial rfl ?_
    refine a_nil ?_
    refine a_next (σ' := ⟨[(0, (.int .i64 a0)), (1, (eSi64 a1)), (2, (eSi64 a2)), (3, (.int .i64 a3)), (9, (.osl 9)), (18, (.int .i64 (((List.replicate x1.toNat (0 : Int)).length : Int)))), (19, (.int .i64 0))], [(9, some ⟨(.row 1 ((List.replicate x1.toNat (0 : Int)).map (AV.int .i64))), false⟩)]⟩) (by kernel_rfl) ?_
    refine a_block ?_
    refine a_loop (emb := fun (s : (Int × (List Int))) => ⟨[(0, (.int .i64 a0)), (1, (eSi64 a1)), (2, (eSi64 a2)), (3, (.int .i64 a3)), (9, (.osl 9)), (18, (.int .i64 (((List.replicate x1.toNat (0 : Int)).length : Int)))), (19, (.int .i64 s.1))], [(9, some ⟨(.row 1 (s.2.map (AV.int .i64))), false⟩)]⟩) (body := (fun s : (Int × (List Int)) => impl_prime_combine_l1 x1 a1 a2 a0 a3 s.1 s.2)) (G := fun q => some q = some y44) h rfl ?_ (by kernel_rfl)
    rintro X71 ⟨x58, x59⟩ x72 h hX73
    have h : impl_prime_combine_l1 x1 a1 a2 a0 a3 x58 x59 = some x72 := h
    refine a_st (σ' := ⟨[(0, (.int .i64 a0)), (1, (eSi64 a1)), (2, (eSi64 a2)), (3, (.int .i64 a3)), (9, (.osl 9)), (18, (.int .i64 (((List.replicate x1.toNat (0 : Int)).length : Int)))), (19, (.int .i64 x58))], [(9, some ⟨(.row 1 (x59.map (AV.int .i64))), false⟩)]⟩) (by kernel_rfl) ?_
    refine a_seq ?_
    refine a_region ?_
    obtain ⟨x74, hx75, h⟩ := letp_some h
    refine a_val' (v := (.bool ((decide (x58 < (((List.replicate x1.toNat (0 : Int)).length : Int))))))) (v' := (.bool x74)) (u := []) (u' := []) rfl (congrArg (fun z => ((.bool z) : AV)) hx75) rfl trivial rfl ?_
    refine a_nil ?_
    refine a_next (σ' := ⟨[(0, (.int .i64 a0)), (1, (eSi64 a1)), (2, (eSi64 a2)), (3, (.int .i64 a3)), (9, (.osl 9)), (18, (.int .i64 (((List.replicate x1.toNat (0 : Int)).length : Int)))), (19, (.int .i64 x58)), (20, (.bool x74))], [(9, some ⟨(.row 1 (x59.map (AV.int .i64))), false⟩)]⟩) (by kernel_rfl) ?_
    refine a_seq ?_
    cases hb76 : x74
    · have h := ite_f hb76 h
      refine a_cond_f rfl ?_
      refine a_exit ?_
      refine t_exit ?_
      cases h
      have h := hX73
      refine t_exit ?_
      refine b_exit ?_
      exact j_leaf x59 (Option.some.inj h) (by kernel_rfl)
    · have h := ite_t hb76 h
      refine a_cond_t rfl ?_
      refine a_skip ?_
      refine a_next (σ' := ⟨[(0, (.int .i64 a0)), (1, (eSi64 a1)), (2, (eSi64 a2)), (3, (.int .i64 a3)), (9, (.osl 9)), (18, (.int .i64 (((List.replicate x1.toNat (0 : Int)).length : Int)))), (19, (.int .i64 x58))], [(9, some ⟨(.row 1 (x59.map (AV.int .i64))), false⟩)]⟩) (by kernel_rfl) ?_
      refine a_seq ?_
      refine a_block ?_
      refine a_seq ?_
      refine a_region ?_
      refine a_val (v := (.int .i64 x58)) (u := []) rfl trivial rfl ?_
      refine a_val (v := (.int .i64 x58)) (u := []) rfl trivial rfl ?_
      refine a_nil ?_
      refine a_next (σ' := ⟨[(0, (.int .i64 a0)), (1, (eSi64 a1)), (2, (eSi64 a2)), (3, (.int .i64 a3)), (9, (.osl 9)), (10, (.int .i64 x58)), (18, (.int .i64 (((List.replicate x1.toNat (0 : Int)).length : Int)))), (19, (.int .i64 x58))], [(9, some ⟨(.row 1 (x59.map (AV.int .i64))), false⟩)]⟩) (by kernel_rfl) ?_
      refine a_region ?_
      refine a_val (v := (.osl 9)) (u := []) rfl trivial rfl ?_
      refine a_val (v := (.int .i64 x58)) (u := []) rfl trivial rfl ?_
      refine a_val (v := (.int .i64 a0)) (u := []) rfl trivial rfl ?_
      refine a_val (v := (eSi64 a1)) (u := []) rfl trivial rfl ?_
      refine a_val (v := (.int .i64 x58)) (u := []) rfl trivial rfl ?_
      obtain ⟨r77, hr78, h⟩ := bind_some h
      refine a_call (args := [(eSi64 a1), (.int .i64 x58)]) (u := []) (r := (.int .i64 r77)) rfl rfl (impl_row_at_ok a1 x58 r77 hr78) rfl ?_
      refine a_val (v := (.int .i64 a3)) (u := []) rfl trivial rfl ?_
      refine a_val (v := (eSi64 a2)) (u := []) rfl trivial rfl ?_
      refine a_val (v := (.int .i64 x58)) (u := []) rfl trivial rfl ?_
      obtain ⟨r79, hr80, h⟩ := bind_some h
      refine a_call (args := [(eSi64 a2), (.int .i64 x58)]) (u := []) (r := (.int .i64 r79)) rfl rfl (impl_row_at_ok a2 x58 r79 hr80) rfl ?_
      refine a_val (v := (.int .i64 (IntKind.i64.wrap (a3 * r79)))) (u := []) rfl trivial rfl ?_
      refine a_val (v := (.int .i64 (IntKind.i64.wrap (r77 + (IntKind.i64.wrap (a3 * r79)))))) (u := []) rfl trivial rfl ?_
      obtain ⟨r81, hr82, h⟩ := bind_some h
      refine a_call (args := [(.int .i64 a0), (.int .i64 (IntKind.i64.wrap (r77 + (IntKind.i64.wrap (a3 * r79)))))]) (u := []) (r := (.int .i64 r81)) rfl rfl (impl_prime_reduce_ok a0 (IntKind.i64.wrap (r77 + (IntKind.i64.wrap (a3 * r79)))) r81 hr82) rfl ?_
      obtain ⟨hc83, h⟩ := ifp_some h
      refine a_val (v := (.own 9 [x58.toNat] [x58.toNat * 1])) (u := []) rfl (lmap hc83) rfl ?_
      have hs84 : StOk [x58.toNat] (.row 1 (x59.map (AV.int .i64))) [x58.toNat * 1] 1 (.int .i64 r81) (.row 1 ((x59.set x58.toNat r81).map (AV.int .i64))) := (.row (y := r81) (llt hc83) rfl (.nil rfl rfl rfl rfl))
      refine a_val (v := .top) (u := [(9, some ⟨(.row 1 ((x59.set x58.toNat r81).map (AV.int .i64))), false⟩)]) (st_own (i := ⟨.int .i64, 1, 8, (.int .i64 0)⟩) rfl rfl (fun _ => rfl) rfl hs84) (hs84.c rfl) rfl ?_
      refine a_nil ?_
      refine b_norm ?_
      refine a_next (σ' := ⟨[(0, (.int .i64 a0)), (1, (eSi64 a1)), (2, (eSi64 a2)), (3, (.int .i64 a3)), (9, (.osl 9)), (18, (.int .i64 (((List.replicate x1.toNat (0 : Int)).length : Int)))), (19, (.int .i64 x58))], [(9, some ⟨(.row 1 ((x59.set x58.toNat r81).map (AV.int .i64))), false⟩)]⟩) (by kernel_rfl) ?_
      refine a_region ?_
      refine a_val (v := (.int .i64 (IntKind.i64.wrap (x58 + 1)))) (u := []) rfl trivial rfl ?_
      refine a_val (v := (.int .i64 (IntKind.i64.wrap (x58 + 1)))) (u := []) rfl trivial rfl ?_
      refine a_nil ?_
      cases h
      exact a_again (by kernel_rfl) hX73
def impl_prime_scale_c : ACode := (.seq (.region 0 [⟨some 6, .asg 1 (.const (.slice none 0 0)) 64, none, []⟩] false) (.seq (.region 1 [⟨some 7, .mov (.tmp 0), none, []⟩, ⟨some 8, .mov (.tmp 1), none, []⟩, ⟨some 9, .mov (.tmp 2), none, []⟩, ⟨some 10, .call 0 (.func 56) [(.tmp 7), (.const (.slice none 0 0)), (.tmp 8), (.tmp 9)], none, []⟩, ⟨some 6, .asg 1 (.tmp 10) 64, none, []⟩] false) .ret))
def impl_prime_scale_L : Live := [(0, [0, 1, 2]), (1, [0, 1, 2])]
theorem impl_prime_scale_body : Try.f138.body = some (Try.f138.body.getD .skip) := by kernel_rfl
theorem impl_prime_scale_strip : strip [(6, 1)] (Try.f138.body.getD .skip) = impl_prime_scale_c := by kernel_rfl
noncomputable def impl_prime_scale (a0 : Int) (a1 : (List Int)) (a2 : Int) : Option (List Int) :=
  (Option.bind (impl_prime_combine a0 ([]) a1 a2) fun r1 => (some r1))
set_option maxHeartbeats 16000000 in
theorem impl_prime_scale_ok (a0 : Int) (a1 : (List Int)) (a2 : Int) (r : (List Int)) (h : impl_prime_scale a0 a1 a2 = some r) : Den Try.prog 138 [(.int .i64 a0), (eSi64 a1), (.int .i64 a2)] { r := (eSi64 r) } := by
  refine den_of (rs := [(eSi64 r)]) (ac := impl_prime_scale_c) (L := impl_prime_scale_L) (n := 11) (m := [(6, 1)]) good Try.func138 impl_prime_scale_body (by kernel_rfl) Try.ntmps138 rfl rfl impl_prime_scale_strip rfl rfl ?_
  refine a_st (σ' := ⟨[(0, (.int .i64 a0)), (1, (eSi64 a1)), (2, (.int .i64 a2))], []⟩) (by kernel_rfl) ?_
  unfold impl_prime_scale_c
  refine a_seq ?_
  refine a_region ?_
  refine a_val (v := (eSi64 ([]))) (u := []) rfl trivial rfl ?_
  refine a_nil ?_
  refine a_next (σ' := ⟨[(0, (.int .i64 a0)), (1, (eSi64 a1)), (2, (.int .i64 a2))], []⟩) (by kernel_rfl) ?_
  refine a_seq ?_
  refine a_region ?_
  refine a_val (v := (.int .i64 a0)) (u := []) rfl trivial rfl ?_
  refine a_val (v := (eSi64 a1)) (u := []) rfl trivial rfl ?_
  refine a_val (v := (.int .i64 a2)) (u := []) rfl trivial rfl ?_
  obtain ⟨r1, hr2, h⟩ := bind_some h
  refine a_call (args := [(.int .i64 a0), (.sl 0 true []), (eSi64 a1), (.int .i64 a2)]) (u := []) (r := (eSi64 r1)) rfl rfl (Den.args (impl_prime_combine_ok a0 ([]) a1 a2 r1 hr2) rfl rfl (.cons (.refl _) (.cons (.nil _ _ _ _ (fun _ => rfl)) (.cons (.refl _) (.cons (.refl _) .nil))))) rfl ?_
  refine a_val (v := (eSi64 r1)) (u := []) rfl trivial rfl ?_
  refine a_nil ?_
  refine a_next rfl ?_
  refine a_ret ?_
  refine ⟨.inr rfl, ?_⟩
  rw [Try.results138]
  cases h
  exact ⟨_, _, _, _, _, rfl, trivial, .inl ⟨rfl, .inl rfl⟩, rfl, rfl⟩
def impl_prime_bezout_c : ACode := (.seq (.region 0 [⟨some 6, .asg 1 (.const (.slice none 0 0)) 64, none, []⟩, ⟨some 7, .asg 1 (.const (.slice none 0 0)) 64, none, []⟩, ⟨some 8, .asg 1 (.const (.slice none 0 0)) 64, none, []⟩] false) (.seq (.region 1 [⟨some 16, .bslice 0 64 1 [(0, (.const (.int .i64 1)))], none, []⟩, ⟨some 9, .asg 1 (.tmp 16) 64, none, []⟩, ⟨some 10, .asg 1 (.const (.slice none 0 0)) 64, none, []⟩] false) (.seq (.region 2 [⟨some 17, .bslice 0 64 1 [(0, (.const (.int .i64 1)))], none, []⟩, ⟨some 11, .asg 1 (.const (.slice none 0 0)) 64, none, []⟩, ⟨some 12, .asg 1 (.tmp 17) 64, none, []⟩] false) (.seq (.block 0 (.loop (.seq (.seq (.region 3 [⟨some 18, .mov (.tmp 2), none, []⟩, ⟨some 19, .blt 0 .len [(.tmp 18)] [64], none, []⟩, ⟨some 20, .bin .gtr 3 (.tmp 19) (.const (.int .i64 0)), none, []⟩] false) (.cond (.tmp 20) .skip (.exit 0))) (.block 1 (.seq (.region 4 [⟨some 22, .mov (.tmp 0), none, []⟩, ⟨some 23, .mov (.tmp 1), none, []⟩, ⟨some 24, .mov (.tmp 2), none, []⟩, ⟨some 25, .call 0 (.func 91) [(.tmp 22), (.tmp 23), (.tmp 24)], none, []⟩, ⟨some 21, .mov (.tmp 25), none, []⟩, ⟨some 26, .extract (.tmp 21) 0, none, []⟩, ⟨some 27, .extract (.tmp 21) 1, none, []⟩, ⟨some 13, .asg 1 (.tmp 26) 64, none, []⟩, ⟨some 14, .asg 1 (.tmp 27) 64, none, []⟩] false) (.seq (.region 5 [⟨some 28, .mov (.tmp 2), none, []⟩, ⟨some 29, .mov (.tmp 14), none, []⟩, ⟨some 1, .asg 1 (.tmp 28) 64, none, []⟩, ⟨some 2, .asg 1 (.tmp 29) 64, none, []⟩] false) (.seq (.region 6 [⟨some 30, .mov (.tmp 11), none, []⟩, ⟨some 31, .mov (.tmp 0), none, []⟩, ⟨some 32, .mov (.tmp 9), none, []⟩, ⟨some 33, .mov (.tmp 0), none, []⟩, ⟨some 34, .mov (.tmp 13), none, []⟩, ⟨some 35, .mov (.tmp 11), none, []⟩, ⟨some 36, .call 0 (.func 59) [(.tmp 33), (.tmp 34), (.tmp 35)], none, []⟩, ⟨some 37, .call 0 (.func 56) [(.tmp 31), (.tmp 32), (.tmp 36), (.const (.int .i64 (-1)))], none, []⟩, ⟨some 9, .asg 1 (.tmp 30) 64, none, []⟩, ⟨some 11, .asg 1 (.tmp 37) 64, none, []⟩] false) (.region 7 [⟨some 38, .mov (.tmp 12), none, []⟩, ⟨some 39, .mov (.tmp 0), none, []⟩, ⟨some 40, .mov (.tmp 10), none, []⟩, ⟨some 41, .mov (.tmp 0), none, []⟩, ⟨some 42, .mov (.tmp 13), none, []⟩, ⟨some 43, .mov (.tmp 12), none, []⟩, ⟨some 44, .call 0 (.func 59) [(.tmp 41), (.tmp 42), (.tmp 43)], none, []⟩, ⟨some 45, .call 0 (.func 56) [(.tmp 39), (.tmp 40), (.tmp 44), (.const (.int .i64 (-1)))], none, []⟩, ⟨some 10, .asg 1 (.tmp 38) 64, none, []⟩, ⟨some 12, .asg 1 (.tmp 45) 64, none, []⟩] false)))))))) (.seq (.region 8 [⟨some 46, .mov (.tmp 0), none, []⟩, ⟨some 47, .mov (.tmp 1), none, []⟩, ⟨some 48, .call 0 (.func 123) [(.tmp 47)], none, []⟩, ⟨some 49, .call 0 (.func 122) [(.tmp 46), (.tmp 48)], none, []⟩, ⟨some 15, .asg 0 (.tmp 49) 2, none, []⟩] false) (.seq (.region 9 [⟨some 50, .mov (.tmp 0), none, []⟩, ⟨some 51, .mov (.tmp 1), none, []⟩, ⟨some 52, .mov (.tmp 15), none, []⟩, ⟨some 53, .call 0 (.func 138) [(.tmp 50), (.tmp 51), (.tmp 52)], none, []⟩, ⟨some 54, .mov (.tmp 0), none, []⟩, ⟨some 55, .mov (.tmp 9), none, []⟩, ⟨some 56, .mov (.tmp 15), none, []⟩, ⟨some 57, .call 0 (.func 138) [(.tmp 54), (.tmp 55), (.tmp 56)], none, []⟩, ⟨some 58, .mov (.tmp 0), none, []⟩, ⟨some 59, .mov (.tmp 10), none, []⟩, ⟨some 60, .mov (.tmp 15), none, []⟩, ⟨some 61, .call 0 (.func 138) [(.tmp 58), (.tmp 59), (.tmp 60)], none, []⟩, ⟨some 6, .asg 1 (.tmp 53) 64, none, []⟩, ⟨some 7, .asg 1 (.tmp 57) 64, none, []⟩, ⟨some 8, .asg 1 (.tmp 61) 64, none, []⟩] false) .ret))))))
def impl_prime_bezout_L : Live := [(0, [0, 1, 2]), (1, [0, 1, 2]), (2, [0, 1, 2, 9, 10]), (3, [0, 1, 2, 9, 10, 11, 12]), (4, [0, 1, 2, 9, 10, 11, 12]), (5, [0, 2, 9, 10, 11, 12, 13, 14]), (6, [0, 1, 2, 9, 10, 11, 12, 13]), (7, [0, 1, 2, 9, 10, 11, 12, 13]), (8, [0, 1, 9, 10]), (9, [0, 1, 9, 10, 15]), (100020, [0, 1, 2, 9, 10, 11, 12, 20])]
theorem impl_prime_bezout_body : Try.f156.body = some (Try.f156.body.getD .skip) := by kernel_rfl
theorem impl_prime_bezout_strip : strip [(1, 1), (2, 1), (6, 1), (7, 1), (8, 1), (9, 1), (10, 1), (11, 1), (12, 1), (13, 1), (14, 1)] (Try.f156.body.getD .skip) = impl_prime_bezout_c := by kernel_rfl
noncomputable def impl_prime_bezout_l1 (a0 : Int) (x61 : (List Int)) (x62 : (List Int)) (x63 : (List Int)) (x64 : (List Int)) (x65 : (List Int)) (x66 : (List Int)) : Option (((List Int) × (List Int) × (List Int) × (List Int) × (List Int) × (List Int)) ⊕ ((List Int) × (List Int) × (List Int))) :=
  (if (decide ((x62.length : Int) > 0)) then (Option.bind (impl_prime_divide a0 x61 x62) fun r82 => (Option.bind (impl_prime_times a0 r82.1 x65) fun r84 => (Option.bind (impl_prime_combine a0 x63 r84 (-1)) fun r86 => (Option.bind (impl_prime_times a0 r82.1 x66) fun r88 => (Option.bind (impl_prime_combine a0 x64 r88 (-1)) fun r90 => (some (.inl (x62, r82.2, x65, x66, r86, r90)))))))) else (some (.inr (x61, x63, x64))))
noncomputable def impl_prime_bezout (a0 : Int) (a1 : (List Int)) (a2 : (List Int)) : Option ((List Int) × (List Int) × (List Int)) :=
  (Option.bind (α := ((List Int) × (List Int) × (List Int))) ((loopM (fun s : ((List Int) × (List Int) × (List Int) × (List Int) × (List Int) × (List Int)) => impl_prime_bezout_l1 a0 s.1 s.2.1 s.2.2.1 s.2.2.2.1 s.2.2.2.2.1 s.2.2.2.2.2) (a1, a2, [1], [], [], [1]))) fun ⟨x44, x45, x46⟩ => (Option.bind (impl_row_lead x44) fun r93 => (Option.bind (impl_prime_inverse a0 r93) fun r95 => (Option.bind (impl_prime_scale a0 x44 r95) fun r97 => (Option.bind (impl_prime_scale a0 x45 r95) fun r99 => (Option.bind (impl_prime_scale a0 x46 r95) fun r101 => (some (r97, r99, r101))))))))
set_option maxHeartbeats 16000000 in
theorem impl_prime_bezout_ok (a0 : Int) (a1 : (List Int)) (a2 : (List Int)) (r : ((List Int) × (List Int) × (List Int))) (h : impl_prime_bezout a0 a1 a2 = some r) : Den Try.prog 156 [(.int .i64 a0), (eSi64 a1), (eSi64 a2)] { r := (.tuple [(eSi64 r.1), (eSi64 r.2.1), (eSi64 r.2.2)]) } := by
  refine den_of (rs := [(eSi64 r.1), (eSi64 r.2.1), (eSi64 r.2.2)]) (ac := impl_prime_bezout_c) (L := impl_prime_bezout_L) (n := 62) (m := [(1, 1), (2, 1), (6, 1), (7, 1), (8, 1), (9, 1), (10, 1), (11, 1), (12, 1), (13, 1), (14, 1)]) good Try.func156 impl_prime_bezout_body (by kernel_rfl) Try.ntmps156 rfl rfl impl_prime_bezout_strip rfl rfl ?_
  refine a_st (σ' := ⟨[(0, (.int .i64 a0)), (1, (eSi64 a1)), (2, (eSi64 a2))], []⟩) (by kernel_rfl) ?_
  unfold impl_prime_bezout_c
  refine a_seq ?_
  refine a_region ?_
  refine a_val (v := (eSi64 ([]))) (u := []) rfl trivial rfl ?_
  refine a_val (v := (eSi64 ([]))) (u := []) rfl trivial rfl ?_
  refine a_val (v := (eSi64 ([]))) (u := []) rfl trivial rfl ?_
  refine a_nil ?_
  refine a_next (σ' := ⟨[(0, (.int .i64 a0)), (1, (eSi64 a1)), (2, (eSi64 a2))], []⟩) (by kernel_rfl) ?_
  refine a_seq ?_
  refine a_region ?_
  refine a_val (v := (.sl 1 true (([1]).map (AV.int .i64)))) (u := []) rfl ⟨(Nat.le_of_ble_eq_true rfl), (Nat.le_of_ble_eq_true rfl), (all_cons ⟨(Nat.le_of_ble_eq_true rfl), rfl⟩ all_nil)⟩ rfl ?_
  refine a_val (v := (eSi64 ([1]))) (u := []) (asg_tight (i := ⟨.int .i64, 1, 8, (.int .i64 0)⟩) (f := (AV.int .i64)) (l := [1]) rfl rfl rfl) trivial rfl ?_
  refine a_val (v := (eSi64 ([]))) (u := []) rfl trivial rfl ?_
  refine a_nil ?_
  refine a_next (σ' := ⟨[(0, (.int .i64 a0)), (1, (eSi64 a1)), (2, (eSi64 a2)), (9, (eSi64 ([1]))), (10, (eSi64 ([])))], []⟩) (by kernel_rfl) ?_
  refine a_seq ?_
  refine a_region ?_
  refine a_val (v := (.sl 1 true (([1]).map (AV.int .i64)))) (u := []) rfl ⟨(Nat.le_of_ble_eq_true rfl), (Nat.le_of_ble_eq_true rfl), (all_cons ⟨(Nat.le_of_ble_eq_true rfl), rfl⟩ all_nil)⟩ rfl ?_
  refine a_val (v := (eSi64 ([]))) (u := []) rfl trivial rfl ?_
  refine a_val (v := (eSi64 ([1]))) (u := []) (asg_tight (i := ⟨.int .i64, 1, 8, (.int .i64 0)⟩) (f := (AV.int .i64)) (l := [1]) rfl rfl rfl) trivial rfl ?_
  refine a_nil ?_
  refine a_next (σ' := ⟨[(0, (.int .i64 a0)), (1, (eSi64 a1)), (2, (eSi64 a2)), (9, (eSi64 ([1]))), (10, (eSi64 ([]))), (11, (eSi64 ([]))), (12, (eSi64 ([1])))], []⟩) (by kernel_rfl) ?_
  obtain ⟨y47, hy48, hk49⟩ := bind_some h
  clear h
  refine a_join (emb := fun (s : ((List Int) × (List Int) × (List Int))) => ⟨[(0, (.int .i64 a0)), (1, (eSi64 s.1)), (9, (eSi64 s.2.1)), (10, (eSi64 s.2.2))], []⟩) (pre := fun s => s = y47) ?_ ?_
  · rintro ⟨x44, x45, x46⟩ rfl
    have h := hk49
    refine a_st (σ' := ⟨[(0, (.int .i64 a0)), (1, (eSi64 x44)), (9, (eSi64 x45)), (10, (eSi64 x46))], []⟩) (by kernel_rfl) ?_
    refine a_seq ?_
    refine a_region ?_
    refine a_val (v := (.int .i64 a0)) (u := []) rfl trivial rfl ?_
    refine a_val (v := (eSi64 x44)) (u := []) rfl trivial rfl ?_
    obtain ⟨r93, hr94, h⟩ := bind_some h
    refine a_call (args := [(eSi64 x44)]) (u := []) (r := (.int .i64 r93)) rfl rfl (impl_row_lead_ok x44 r93 hr94) rfl ?_
    obtain ⟨r95, hr96, h⟩ := bind_some h
    refine a_call (args := [(.int .i64 a0), (.int .i64 r93)]) (u := []) (r := (.int .i64 r95)) rfl rfl (impl_prime_inverse_ok a0 r93 r95 hr96) rfl ?_
    refine a_val (v := (.int .i64 r95)) (u := []) rfl trivial rfl ?_
    refine a_nil ?_
    refine a_next (σ' := ⟨[(0, (.int .i64 a0)), (1, (eSi64 x44)), (9, (eSi64 x45)), (10, (eSi64 x46)), (15, (.int .i64 r95))], []⟩) (by kernel_rfl) ?_
    refine a_seq ?_
    refine a_region ?_
    refine a_val (v := (.int .i64 a0)) (u := []) rfl trivial rfl ?_
    refine a_val (v := (eSi64 x44)) (u := []) rfl trivial rfl ?_
    refine a_val (v := (.int .i64 r95)) (u := []) rfl trivial rfl ?_
    obtain ⟨r97, hr98, h⟩ := bind_some h
    refine a_call (args := [(.int .i64 a0), (eSi64 x44), (.int .i64 r95)]) (u := []) (r := (eSi64 r97)) rfl rfl (impl_prime_scale_ok a0 x44 r95 r97 hr98) rfl ?_
    refine a_val (v := (.int .i64 a0)) (u := []) rfl trivial rfl ?_
    refine a_val (v := (eSi64 x45)) (u := []) rfl trivial rfl ?_
    refine a_val (v := (.int .i64 r95)) (u := []) rfl trivial rfl ?_
    obtain ⟨r99, hr100, h⟩ := bind_some h
    refine a_call (args := [(.int .i64 a0), (eSi64 x45), (.int .i64 r95)]) (u := []) (r := (eSi64 r99)) rfl rfl (impl_prime_scale_ok a0 x45 r95 r99 hr100) rfl ?_
    refine a_val (v := (.int .i64 a0)) (u := []) rfl trivial rfl ?_
    refine a_val (v := (eSi64 x46)) (u := []) rfl trivial rfl ?_
    refine a_val (v := (.int .i64 r95)) (u := []) rfl trivial rfl ?_
    obtain ⟨r101, hr102, h⟩ := bind_some h
    refine a_call (args := [(.int .i64 a0), (eSi64 x46), (.int .i64 r95)]) (u := []) (r := (eSi64 r101)) rfl rfl (impl_prime_scale_ok a0 x46 r95 r101 hr102) rfl ?_
    refine a_val (v := (eSi64 r97)) (u := []) rfl trivial rfl ?_
    refine a_val (v := (eSi64 r99)) (u := []) rfl trivial rfl ?_
    refine a_val (v := (eSi64 r101)) (u := []) rfl trivial rfl ?_
    refine a_nil ?_
    refine a_next rfl ?_
    refine a_ret ?_
    refine ⟨.inr rfl, ?_⟩
    rw [Try.results156]
    cases h
    exact ⟨_, _, _, _, _, rfl, trivial, .inl ⟨rfl, .inl rfl⟩, rfl, ⟨_, _, _, _, _, rfl, trivial, .inl ⟨rfl, .inl rfl⟩, rfl, ⟨_, _, _, _, _, rfl, trivial, .inl ⟨rfl, .inl rfl⟩, rfl, rfl⟩⟩⟩
  · have h := hy48
    refine a_block ?_
    refine a_loop (emb := fun (s : ((List Int) × (List Int) × (List Int) × (List Int) × (List Int) × (List Int))) => ⟨[(0, (.int .i64 a0)), (1, (eSi64 s.1)), (2, (eSi64 s.2.1)), (9, (eSi64 s.2.2.1)), (10, (eSi64 s.2.2.2.1)), (11, (eSi64 s.2.2.2.2.1)), (12, (eSi64 s.2.2.2.2.2))], []⟩) (body := (fun s : ((List Int) × (List Int) × (List Int) × (List Int) × (List Int) × (List Int)) => impl_prime_bezout_l1 a0 s.1 s.2.1 s.2.2.1 s.2.2.2.1 s.2.2.2.2.1 s.2.2.2.2.2)) (G := fun q => some q = some y47) h rfl ?_ (by kernel_rfl)
    rintro X78 ⟨x61, x62, x63, x64, x65, x66⟩ x79 h hX80
    have h : impl_prime_bezout_l1 a0 x61 x62 x63 x64 x65 x66 = some x79 := h
    refine a_st (σ' := ⟨[(0, (.int .i64 a0)), (1, (eSi64 x61)), (2, (eSi64 x62)), (9, (eSi64 x63)), (10, (eSi64 x64)), (11, (eSi64 x65)), (12, (eSi64 x66))], []⟩) (by kernel_rfl) ?_
    refine a_seq ?_
    refine a_seq ?_
    refine a_region ?_
    refine a_val (v := (eSi64 x62)) (u := []) rfl trivial rfl ?_
    refine a_val (v := (.int .i64 (x62.length : Int))) (u := []) (len_run rfl rfl) trivial rfl ?_
    refine a_val (v := (.bool ((decide ((x62.length : Int) > 0))))) (u := []) rfl trivial rfl ?_
    refine a_nil ?_
    refine a_next (σ' := ⟨[(0, (.int .i64 a0)), (1, (eSi64 x61)), (2, (eSi64 x62)), (9, (eSi64 x63)), (10, (eSi64 x64)), (11, (eSi64 x65)), (12, (eSi64 x66)), (20, (.bool ((decide ((x62.length : Int) > 0)))))], []⟩) (by kernel_rfl) ?_
    cases hb81 : (decide ((x62.length : Int) > 0))
    · have h := ite_f hb81 h
      refine a_cond_f rfl ?_
      refine a_exit ?_
      refine t_exit ?_
      cases h
      have h := hX80
      refine t_exit ?_
      refine b_exit ?_
      exact j_leaf (x61, x63, x64) (Option.some.inj h) (by kernel_rfl)
    · have h := ite_t hb81 h
      refine a_cond_t rfl ?_
      refine a_skip ?_
      refine a_next (σ' := ⟨[(0, (.int .i64 a0)), (1, (eSi64 x61)), (2, (eSi64 x62)), (9, (eSi64 x63)), (10, (eSi64 x64)), (11, (eSi64 x65)), (12, (eSi64 x66))], []⟩) (by kernel_rfl) ?_
      refine a_block ?_
      refine a_seq ?_
      refine a_region ?_
      refine a_val (v := (.int .i64 a0)) (u := []) rfl trivial rfl ?_
      refine a_val (v := (eSi64 x61)) (u := []) rfl trivial rfl ?_
      refine a_val (v := (eSi64 x62)) (u := []) rfl trivial rfl ?_
      obtain ⟨r82, hr83, h⟩ := bind_some h
      refine a_call (args := [(.int .i64 a0), (eSi64 x61), (eSi64 x62)]) (u := []) (r := (.tuple [(eSi64 r82.1), (eSi64 r82.2)])) rfl rfl (impl_prime_divide_ok a0 x61 x62 r82 hr83) rfl ?_
      refine a_val (v := (.tuple [(eSi64 r82.1), (eSi64 r82.2)])) (u := []) rfl trivial rfl ?_
      refine a_val (v := (eSi64 r82.1)) (u := []) rfl (Nat.le_of_ble_eq_true rfl) rfl ?_
      refine a_val (v := (eSi64 r82.2)) (u := []) rfl (Nat.le_of_ble_eq_true rfl) rfl ?_
      refine a_val (v := (eSi64 r82.1)) (u := []) rfl trivial rfl ?_
      refine a_val (v := (eSi64 r82.2)) (u := []) rfl trivial rfl ?_
      refine a_nil ?_
      refine a_next (σ' := ⟨[(0, (.int .i64 a0)), (2, (eSi64 x62)), (9, (eSi64 x63)), (10, (eSi64 x64)), (11, (eSi64 x65)), (12, (eSi64 x66)), (13, (eSi64 r82.1)), (14, (eSi64 r82.2))], []⟩) (by kernel_rfl) ?_
      refine a_seq ?_
      refine a_region ?_
      refine a_val (v := (eSi64 x62)) (u := []) rfl trivial rfl ?_
      refine a_val (v := (eSi64 r82.2)) (u := []) rfl trivial rfl ?_
      refine a_val (v := (eSi64 x62)) (u := []) rfl trivial rfl ?_
      refine a_val (v := (eSi64 r82.2)) (u := []) rfl trivial rfl ?_
      refine a_nil ?_
      refine a_next (σ' := ⟨[(0, (.int .i64 a0)), (1, (eSi64 x62)), (2, (eSi64 r82.2)), (9, (eSi64 x63)), (10, (eSi64 x64)), (11, (eSi64 x65)), (12, (eSi64 x66)), (13, (eSi64 r82.1))], []⟩) (by kernel_rfl) ?_
      refine a_seq ?_
      refine a_region ?_
      refine a_val (v := (eSi64 x65)) (u := []) rfl trivial rfl ?_
      refine a_val (v := (.int .i64 a0)) (u := []) rfl trivial rfl ?_
      refine a_val (v := (eSi64 x63)) (u := []) rfl trivial rfl ?_
      refine a_val (v := (.int .i64 a0)) (u := []) rfl trivial rfl ?_
      refine a_val (v := (eSi64 r82.1)) (u := []) rfl trivial rfl ?_
      refine a_val (v := (eSi64 x65)) (u := []) rfl trivial rfl ?_
      obtain ⟨r84, hr85, h⟩ := bind_some h
      refine a_call (args := [(.int .i64 a0), (eSi64 r82.1), (eSi64 x65)]) (u := []) (r := (eSi64 r84)) rfl rfl (impl_prime_times_ok a0 r82.1 x65 r84 hr85) rfl ?_
      obtain ⟨r86, hr87, h⟩ := bind_some h
      refine a_call (args := [(.int .i64 a0), (eSi64 x63), (eSi64 r84), (.int .i64 (-1))]) (u := []) (r := (eSi64 r86)) rfl rfl (impl_prime_combine_ok a0 x63 r84 (-1) r86 hr87) rfl ?_
      refine a_val (v := (eSi64 x65)) (u := []) rfl trivial rfl ?_
      refine a_val (v := (eSi64 r86)) (u := []) rfl trivial rfl ?_
      refine a_nil ?_
      refine a_next (σ' := ⟨[(0, (.int .i64 a0)), (1, (eSi64 x62)), (2, (eSi64 r82.2)), (9, (eSi64 x65)), (10, (eSi64 x64)), (11, (eSi64 r86)), (12, (eSi64 x66)), (13, (eSi64 r82.1))], []⟩) (by kernel_rfl) ?_
      refine a_region ?_
      refine a_val (v := (eSi64 x66)) (u := []) rfl trivial rfl ?_
      refine a_val (v := (.int .i64 a0)) (u := []) rfl trivial rfl ?_
      refine a_val (v := (eSi64 x64)) (u := []) rfl trivial rfl ?_
      refine a_val (v := (.int .i64 a0)) (u := []) rfl trivial rfl ?_
      refine a_val (v := (eSi64 r82.1)) (u := []) rfl trivial rfl ?_
      refine a_val (v := (eSi64 x66)) (u := []) rfl trivial rfl ?_
      obtain ⟨r88, hr89, h⟩ := bind_some h
      refine a_call (args := [(.int .i64 a0), (eSi64 r82.1), (eSi64 x66)]) (u := []) (r := (eSi64 r88)) rfl rfl (impl_prime_times_ok a0 r82.1 x66 r88 hr89) rfl ?_
      obtain ⟨r90, hr91, h⟩ := bind_some h
      refine a_call (args := [(.int .i64 a0), (eSi64 x64), (eSi64 r88), (.int .i64 (-1))]) (u := []) (r := (eSi64 r90)) rfl rfl (impl_prime_combine_ok a0 x64 r88 (-1) r90 hr91) rfl ?_
      refine a_val (v := (eSi64 x66)) (u := []) rfl trivial rfl ?_
      refine a_val (v := (eSi64 r90)) (u := []) rfl trivial rfl ?_
      refine a_nil ?_
      refine b_norm ?_
      cases h
      exact a_again (by kernel_rfl) hX80
def impl_prime_gcd_c : ACode := (.seq (.region 0 [⟨some 6, .asg 1 (.const (.slice none 0 0)) 64, none, []⟩] false) (.seq (.region 1 [⟨some 11, .mov (.tmp 0), none, []⟩, ⟨some 12, .mov (.tmp 1), none, []⟩, ⟨some 13, .mov (.tmp 2), none, []⟩, ⟨some 14, .call 0 (.func 156) [(.tmp 11), (.tmp 12), (.tmp 13)], none, []⟩, ⟨some 10, .mov (.tmp 14), none, []⟩, ⟨some 15, .extract (.tmp 10) 0, none, []⟩, ⟨some 16, .extract (.tmp 10) 1, none, []⟩, ⟨some 17, .extract (.tmp 10) 2, none, []⟩, ⟨some 7, .asg 1 (.tmp 15) 64, none, []⟩, ⟨some 8, .asg 1 (.tmp 16) 64, none, []⟩, ⟨some 9, .asg 1 (.tmp 17) 64, none, []⟩] false) (.seq (.region 2 [⟨some 18, .mov (.tmp 7), none, []⟩, ⟨some 6, .asg 1 (.tmp 18) 64, none, []⟩] false) .ret)))
def impl_prime_gcd_L : Live := [(0, [0, 1, 2]), (1, [0, 1, 2]), (2, [7])]
theorem impl_prime_gcd_body : Try.f137.body = some (Try.f137.body.getD .skip) := by kernel_rfl
theorem impl_prime_gcd_strip : strip [(6, 1), (7, 1), (8, 1), (9, 1)] (Try.f137.body.getD .skip) = impl_prime_gcd_c := by kernel_rfl
noncomputable def impl_prime_gcd (a0 : Int) (a1 : (List Int)) (a2 : (List Int)) : Option (List Int) :=
  (Option.bind (impl_prime_bezout a0 a1 a2) fun r1 => (some r1.1))
set_option maxHeartbeats 16000000 in
theorem impl_prime_gcd_ok (a0 : Int) (a1 : (List Int)) (a2 : (List Int)) (r : (List Int)) (h : impl_prime_gcd a0 a1 a2 = some r) : Den Try.prog 137 [(.int .i64 a0), (eSi64 a1), (eSi64 a2)] { r := (eSi64 r) } := by
  refine den_of (rs := [(eSi64 r)]) (ac := impl_prime_gcd_c) (L := impl_prime_gcd_L) (n := 19) (m := [(6, 1), (7, 1), (8, 1), (9, 1)]) good Try.func137 impl_prime_gcd_body (by kernel_rfl) Try.ntmps137 rfl rfl impl_prime_gcd_strip rfl rfl ?_
  refine a_st (σ' := ⟨[(0, (.int .i64 a0)), (1, (eSi64 a1)), (2, (eSi64 a2))], []⟩) (by kernel_rfl) ?_
  unfold impl_prime_gcd_c
  refine a_seq ?_
  refine a_region ?_
  refine a_val (v := (eSi64 ([]))) (u := []) rfl trivial rfl ?_
  refine a_nil ?_
  refine a_next (σ' := ⟨[(0, (.int .i64 a0)), (1, (eSi64 a1)), (2, (eSi64 a2))], []⟩) (by kernel_rfl) ?_
  refine a_seq ?_
  refine a_region ?_
  refine a_val (v := (.int .i64 a0)) (u := []) rfl trivial rfl ?_
  refine a_val (v := (eSi64 a1)) (u := []) rfl trivial rfl ?_
  refine a_val (v := (eSi64 a2)) (u := []) rfl trivial rfl ?_
  obtain ⟨r1, hr2, h⟩ := bind_some h
  refine a_call (args := [(.int .i64 a0), (eSi64 a1), (eSi64 a2)]) (u := []) (r := (.tuple [(eSi64 r1.1), (eSi64 r1.2.1), (eSi64 r1.2.2)])) rfl rfl (impl_prime_bezout_ok a0 a1 a2 r1 hr2) rfl ?_
  refine a_val (v := (.tuple [(eSi64 r1.1), (eSi64 r1.2.1), (eSi64 r1.2.2)])) (u := []) rfl trivial rfl ?_
  refine a_val (v := (eSi64 r1.1)) (u := []) rfl (Nat.le_of_ble_eq_true rfl) rfl ?_
  refine a_val (v := (eSi64 r1.2.1)) (u := []) rfl (Nat.le_of_ble_eq_true rfl) rfl ?_
  refine a_val (v := (eSi64 r1.2.2)) (u := []) rfl (Nat.le_of_ble_eq_true rfl) rfl ?_
  refine a_val (v := (eSi64 r1.1)) (u := []) rfl trivial rfl ?_
  refine a_val (v := (eSi64 r1.2.1)) (u := []) rfl trivial rfl ?_
  refine a_val (v := (eSi64 r1.2.2)) (u := []) rfl trivial rfl ?_
  refine a_nil ?_
  refine a_next (σ' := ⟨[(7, (eSi64 r1.1))], []⟩) (by kernel_rfl) ?_
  refine a_seq ?_
  refine a_region ?_
  refine a_val (v := (eSi64 r1.1)) (u := []) rfl trivial rfl ?_
  refine a_val (v := (eSi64 r1.1)) (u := []) rfl trivial rfl ?_
  refine a_nil ?_
  refine a_next rfl ?_
  refine a_ret ?_
  refine ⟨.inr rfl, ?_⟩
  rw [Try.results137]
  cases h
  exact ⟨_, _, _, _, _, rfl, trivial, .inl ⟨rfl, .inl rfl⟩, rfl, rfl⟩
def impl_isOne_c : ACode := (.seq (.region 0 [⟨some 2, .asg 0 (.const (.bool false)) 4, none, []⟩] false) (.seq (.region 1 [⟨some 3, .mov (.tmp 0), none, []⟩, ⟨some 4, .blt 0 .len [(.tmp 3)] [64], none, []⟩, ⟨some 5, .bin .eql 3 (.tmp 4) (.const (.int .i64 1)), none, []⟩, ⟨some 6, .mov (.tmp 5), none, []⟩, ⟨some 7, .mov (.tmp 0), some (6, true), []⟩, ⟨some 8, .indexAddr 64 (.tmp 7) (.const (.int .i64 0)), some (6, true), []⟩, ⟨some 9, .load 2 (.tmp 8), some (6, true), []⟩, ⟨some 10, .bin .eql 2 (.tmp 9) (.const (.int .i64 1)), some (6, true), []⟩, ⟨some 11, .pick (.tmp 6) (.tmp 10) (.const (.bool false)), none, []⟩, ⟨some 2, .asg 0 (.tmp 11) 4, none, []⟩] false) .ret))
def impl_isOne_L : Live := [(0, [0]), (1, [0])]
theorem impl_isOne_body : Try.f162.body = some (Try.f162.body.getD .skip) := by kernel_rfl
theorem impl_isOne_strip : strip [] (Try.f162.body.getD .skip) = impl_isOne_c := by kernel_rfl
noncomputable def impl_isOne (a0 : (List Int)) : Option Bool :=
  (if ((a0.length : Int) == 1) then (ifp (0 ≤ (0 : Int) ∧ (0 : Int) < ((a0.length : Nat) : Int)) ((some ((((rd a0 (0 : Int).toNat)) == 1))))) else (some false))
set_option maxHeartbeats 16000000 in
theorem impl_isOne_ok (a0 : (List Int)) (r : Bool) (h : impl_isOne a0 = some r) : Den Try.prog 162 [(eSi64 a0)] { r := (.bool r) } := by
  refine den_of (rs := [(.bool r)]) (ac := impl_isOne_c) (L := impl_isOne_L) (n := 12) (m := []) good Try.func162 impl_isOne_body (by kernel_rfl) Try.ntmps162 rfl rfl impl_isOne_strip rfl rfl ?_
  refine a_st (σ' := ⟨[(0, (eSi64 a0))], []⟩) (by kernel_rfl) ?_
  unfold impl_isOne_c
  refine a_seq ?_
  refine a_region ?_
  refine a_val (v := (.bool false)) (u := []) rfl trivial rfl ?_
  refine a_nil ?_
  refine a_next (σ' := ⟨[(0, (eSi64 a0))], []⟩) (by kernel_rfl) ?_
  refine a_seq ?_
  refine a_region ?_
  refine a_val (v := (eSi64 a0)) (u := []) rfl trivial rfl ?_
  refine a_val (v := (.int .i64 (a0.length : Int))) (u := []) (len_run rfl rfl) trivial rfl ?_
  refine a_val (v := (.bool (((a0.length : Int) == 1)))) (u := []) rfl trivial rfl ?_
  refine a_val (v := (.bool (((a0.length : Int) == 1)))) (u := []) rfl trivial rfl ?_
  cases hb1 : ((a0.length : Int) == 1)
  · have h := ite_f hb1 h
    refine a_gskip rfl ?_
    refine a_gskip rfl ?_
    refine a_gskip rfl ?_
    refine a_gskip rfl ?_
    refine a_val (v := (.bool false)) (u := []) rfl trivial rfl ?_
    refine a_val (v := (.bool false)) (u := []) rfl trivial rfl ?_
    refine a_nil ?_
    refine a_next rfl ?_
    refine a_ret ?_
    refine ⟨.inr rfl, ?_⟩
    rw [Try.results162]
    cases h
    exact ⟨_, _, _, _, _, rfl, trivial, .inl ⟨rfl, .inl rfl⟩, rfl, rfl⟩
  · have h := ite_t hb1 h
    refine a_gval rfl (v := (eSi64 a0)) (u := []) rfl trivial rfl ?_
    obtain ⟨hc2, h⟩ := ifp_some h
    refine a_gval rfl (v := (.ref (.row 1 (a0.map (AV.int .i64))) [(0 : Int).toNat] [(0 : Int).toNat * 1])) (u := []) rfl (lmap hc2) rfl ?_
    have hl3 : LdOk [(0 : Int).toNat] (.row 1 (a0.map (AV.int .i64))) [(0 : Int).toNat * 1] 1 false (.int .i64 ((rd a0 (0 : Int).toNat))) := (.row (llt hc2) rfl (.nil rfl rfl rfl))
    refine a_gval rfl (v := (.int .i64 ((rd a0 (0 : Int).toNat)))) (u := []) (ld_ref (i := ⟨.int .i64, 1, 8, (.int .i64 0)⟩) rfl rfl hl3) hl3.c rfl ?_
    refine a_gval rfl (v := (.bool ((((rd a0 (0 : Int).toNat)) == 1)))) (u := []) rfl trivial rfl ?_
    refine a_val (v := (.bool ((((rd a0 (0 : Int).toNat)) == 1)))) (u := []) rfl trivial rfl ?_
    refine a_val (v := (.bool ((((rd a0 (0 : Int).toNat)) == 1)))) (u := []) rfl trivial rfl ?_
    refine a_nil ?_
    refine a_next rfl ?_
    refine a_ret ?_
    refine ⟨.inr rfl, ?_⟩
    rw [Try.results162]
    cases h
    exact ⟨_, _, _, _, _, rfl, trivial, .inl ⟨rfl, .inl rfl⟩, rfl, rfl⟩
def impl_IsDiscriminant_c : ACode := (.seq (.region 0 [⟨some 3, .box 23 (.tmp 1), none, []⟩, ⟨some 4, .asg 0 (.const (.bool false)) 4, none, []⟩] false) (.seq (.region 1 [⟨some 8, .load 23 (.tmp 3), none, []⟩, ⟨some 9, .call 0 (.func 72) [(.tmp 8)], none, []⟩, ⟨some 5, .asg 1 (.tmp 9) 64, none, []⟩] false) (.seq (.seq (.region 2 [⟨some 10, .mov (.tmp 0), none, []⟩, ⟨some 11, .load 23 (.tmp 3), none, []⟩, ⟨some 12, .call 0 (.func 160) [(.tmp 10), (.tmp 11)], none, []⟩, ⟨some 13, .un .not (.tmp 12), none, []⟩, ⟨some 14, .mov (.tmp 13), none, []⟩, ⟨some 15, .mov (.tmp 0), some (14, false), []⟩, ⟨some 16, .bin .eql 2 (.tmp 15) (.const (.int .i64 2)), some (14, false), []⟩, ⟨some 17, .pick (.tmp 14) (.const (.bool true)) (.tmp 16), none, []⟩, ⟨some 18, .mov (.tmp 17), none, []⟩, ⟨some 19, .mov (.tmp 5), some (18, false), []⟩, ⟨some 20, .call 0 (.func 89) [(.tmp 19)], some (18, false), []⟩, ⟨some 21, .bin .neq 2 (.tmp 20) (.const (.int .i64 1)), some (18, false), []⟩, ⟨some 22, .mov (.tmp 21), some (18, false), []⟩, ⟨some 23, .mov (.tmp 5), some (22, true), []⟩, ⟨some 24, .call 0 (.func 89) [(.tmp 23)], some (22, true), []⟩, ⟨some 25, .bin .neq 2 (.tmp 24) (.const (.int .i64 3)), some (22, true), []⟩, ⟨some 26, .pick (.tmp 22) (.tmp 25) (.const (.bool false)), some (18, false), []⟩, ⟨some 27, .mov (.tmp 26), some (18, false), []⟩, ⟨some 28, .mov (.tmp 5), some (27, true), []⟩, ⟨some 29, .call 0 (.func 89) [(.tmp 28)], some (27, true), []⟩, ⟨some 30, .bin .neq 2 (.tmp 29) (.const (.int .i64 5)), some (27, true), []⟩, ⟨some 31, .pick (.tmp 27) (.tmp 30) (.const (.bool false)), some (18, false), []⟩, ⟨some 32, .pick (.tmp 18) (.const (.bool true)) (.tmp 31), none, []⟩] false) (.cond (.tmp 32) (.seq (.region 3 [⟨some 4, .asg 0 (.const (.bool false)) 4, none, []⟩] false) .ret) .skip)) (.seq (.region 4 [⟨some 34, .mov (.tmp 0), none, []⟩, ⟨some 35, .load 23 (.tmp 3), none, []⟩, ⟨some 36, .call 0 (.func 161) [(.tmp 34), (.tmp 35)], none, []⟩, ⟨some 33, .mov (.tmp 36), none, []⟩, ⟨some 37, .extract (.tmp 33) 0, none, []⟩, ⟨some 38, .extract (.tmp 33) 1, none, []⟩, ⟨some 6, .alloc 23, none, []⟩, ⟨none, .store 23 (.tmp 6) (.tmp 37), none, []⟩, ⟨some 7, .asg 0 (.tmp 38) 2, none, []⟩] false) (.seq (.region 5 [⟨some 39, .mov (.tmp 0), none, []⟩, ⟨some 40, .mov (.tmp 5), none, []⟩, ⟨some 41, .load 23 (.tmp 6), none, []⟩, ⟨some 42, .call 0 (.func 72) [(.tmp 41)], none, []⟩, ⟨some 43, .call 0 (.func 137) [(.tmp 39), (.tmp 40), (.tmp 42)], none, []⟩, ⟨some 44, .call 0 (.func 162) [(.tmp 43)], none, []⟩, ⟨some 4, .asg 0 (.tmp 44) 4, none, []⟩] false) .ret)))))
def impl_IsDiscriminant_L : Live := [(0, [0, 1]), (1, [0, 3]), (2, [0, 3, 5]), (3, []), (4, [0, 3, 5]), (5, [0, 5, 6]), (100032, [0, 3, 5, 32])]
theorem impl_IsDiscriminant_body : Try.f146.body = some (Try.f146.body.getD .skip) := by kernel_rfl
theorem impl_IsDiscriminant_strip : strip [(5, 1)] (Try.f146.body.getD .skip) = impl_IsDiscriminant_c := by kernel_rfl
noncomputable def impl_IsDiscriminant (a0 : Int) (a1 : (Vec Int 64)) : Option Bool :=
  (Option.bind (impl_rowOf a1) fun r2 => (Option.bind (α := Bool) ((Option.bind (impl_IsPoly a0 a1) fun r22 => (if (!r22) then (some true) else (if (a0 == 2) then (some true) else (Option.bind (impl_row_degree r2) fun r26 => (if (r26 != 1) then (Option.bind (impl_row_degree r2) fun r29 => (if (r29 != 3) then (Option.bind (impl_row_degree r2) fun r32 => (some (r32 != 5))) else (some false))) else (some false))))))) fun x17 => (if x17 then (some false) else (Option.bind (impl_DerivativeOf a0 a1) fun r36 => (Option.bind (impl_rowOf r36.1) fun r40 => (Option.bind (impl_prime_gcd a0 r2 r40) fun r42 => (Option.bind (impl_isOne r42) fun r44 => (some r44))))))))
set_option maxHeartbeats 16000000 in
theorem impl_IsDiscriminant_ok (a0 : Int) (a1 : (Vec Int 64)) (r : Bool) (h : impl_IsDiscriminant a0 a1 = some r) : Den Try.prog 146 [(.int .i64 a0), (eA64u8 a1)] { r := (.bool r) } := by
  refine den_of (rs := [(.bool r)]) (ac := impl_IsDiscriminant_c) (L := impl_IsDiscriminant_L) (n := 45) (m := [(5, 1)]) good Try.func146 impl_IsDiscriminant_body (by kernel_rfl) Try.ntmps146 rfl rfl impl_IsDiscriminant_strip rfl rfl ?_
  refine a_st (σ' := ⟨[(0, (.int .i64 a0)), (1, (eA64u8 a1))], []⟩) (by kernel_rfl) ?_
  unfold impl_IsDiscriminant_c
  refine a_seq ?_
  refine a_region ?_
  refine a_val (v := (.own 1300 [] [])) (u := [(1300, some ⟨(eA64u8 a1), false⟩)]) rfl trivial rfl ?_
  refine a_val (v := (.bool false)) (u := []) rfl trivial rfl ?_
  refine a_nil ?_
  refine a_next (σ' := ⟨[(0, (.int .i64 a0)), (3, (.own 3 [] []))], [(3, some ⟨(eA64u8 a1), false⟩)]⟩) (by kernel_rfl) ?_
  refine a_seq ?_
  refine a_region ?_
  have hl1 : LdOk [] (eA64u8 a1) [] 64 true (eA64u8 a1) := (.nil rfl rfl rfl)
  refine a_val (v := (eA64u8 a1)) (u := []) (ld_own (i := ⟨.arr 64 5, 64, 64, (eA64u8 (vrep 64 (0 : Int)))⟩) rfl rfl rfl hl1) hl1.c rfl ?_
  obtain ⟨r2, hr3, h⟩ := bind_some h
  refine a_call (args := [(eA64u8 a1)]) (u := []) (r := (eSi64 r2)) rfl rfl (impl_rowOf_ok a1 r2 hr3) rfl ?_
  refine a_val (v := (eSi64 r2)) (u := []) rfl trivial rfl ?_
  refine a_nil ?_
  refine a_next (σ' := ⟨[(0, (.int .i64 a0)), (3, (.own 3 [] [])), (5, (eSi64 r2))], [(3, some ⟨(eA64u8 a1), false⟩)]⟩) (by kernel_rfl) ?_
  refine a_seq ?_
  obtain ⟨y18, hy19, hk20⟩ := bind_some h
  clear h
  refine a_join (emb := fun (s : Bool) => ⟨[(0, (.int .i64 a0)), (3, (.own 3 [] [])), (5, (eSi64 r2)), (32, (.bool s))], [(3, some ⟨(eA64u8 a1), false⟩)]⟩) (pre := fun s => s = y18) ?_ ?_
  · rintro x17 rfl
    have h := hk20
    refine a_st (σ' := ⟨[(0, (.int .i64 a0)), (3, (.own 3 [] [])), (5, (eSi64 r2)), (32, (.bool x17))], [(3, some ⟨(eA64u8 a1), false⟩)]⟩) (by kernel_rfl) ?_
    cases hb34 : x17
    · have h := ite_f hb34 h
      refine a_cond_f rfl ?_
      refine a_skip ?_
      refine a_next (σ' := ⟨[(0, (.int .i64 a0)), (3, (.own 3 [] [])), (5, (eSi64 r2))], [(3, some ⟨(eA64u8 a1), false⟩)]⟩) (by kernel_rfl) ?_
      refine a_seq ?_
      refine a_region ?_
      refine a_val (v := (.int .i64 a0)) (u := []) rfl trivial rfl ?_
      have hl35 : LdOk [] (eA64u8 a1) [] 64 true (eA64u8 a1) := (.nil rfl rfl rfl)
      refine a_val (v := (eA64u8 a1)) (u := []) (ld_own (i := ⟨.arr 64 5, 64, 64, (eA64u8 (vrep 64 (0 : Int)))⟩) rfl rfl rfl hl35) hl35.c rfl ?_
      obtain ⟨r36, hr37, h⟩ := bind_some h
      refine a_call (args := [(.int .i64 a0), (eA64u8 a1)]) (u := []) (r := (.tuple [(eA64u8 r36.1), (.int .i64 r36.2)])) rfl rfl (impl_DerivativeOf_ok a0 a1 r36 hr37) rfl ?_
      refine a_val (v := (.tuple [(eA64u8 r36.1), (.int .i64 r36.2)])) (u := []) rfl trivial rfl ?_
      refine a_val (v := (eA64u8 r36.1)) (u := []) rfl (Nat.le_of_ble_eq_true rfl) rfl ?_
      refine a_val (v := (.int .i64 r36.2)) (u := []) rfl (Nat.le_of_ble_eq_true rfl) rfl ?_
      refine a_val (v := (.own 1600 [] [])) (u := [(1600, some ⟨(eA64u8 ((vrep 64 (0 : Int)))), false⟩)]) rfl trivial rfl ?_
      have hs38 : StOk [] (eA64u8 ((vrep 64 (0 : Int)))) [] 64 (eA64u8 r36.1) (eA64u8 r36.1) := (.nil rfl rfl rfl rfl)
      refine a_val (v := .top) (u := [(1600, some ⟨(eA64u8 r36.1), false⟩)]) (st_own (i := ⟨.arr 64 5, 64, 64, (eA64u8 (vrep 64 (0 : Int)))⟩) rfl rfl (fun _ => rfl) rfl hs38) (hs38.c rfl) rfl ?_
      refine a_val (v := (.int .i64 r36.2)) (u := []) rfl trivial rfl ?_
      refine a_nil ?_
      refine a_next (σ' := ⟨[(0, (.int .i64 a0)), (5, (eSi64 r2)), (6, (.own 6 [] []))], [(6, some ⟨(eA64u8 r36.1), false⟩)]⟩) (by kernel_rfl) ?_
      refine a_seq ?_
      refine a_region ?_
      refine a_val (v := (.int .i64 a0)) (u := []) rfl trivial rfl ?_
      refine a_val (v := (eSi64 r2)) (u := []) rfl trivial rfl ?_
      have hl39 : LdOk [] (eA64u8 r36.1) [] 64 true (eA64u8 r36.1) := (.nil rfl rfl rfl)
      refine a_val (v := (eA64u8 r36.1)) (u := []) (ld_own (i := ⟨.arr 64 5, 64, 64, (eA64u8 (vrep 64 (0 : Int)))⟩) rfl rfl rfl hl39) hl39.c rfl ?_
      obtain ⟨r40, hr41, h⟩ := bind_some h
      refine a_call (args := [(eA64u8 r36.1)]) (u := []) (r := (eSi64 r40)) rfl rfl (impl_rowOf_ok r36.1 r40 hr41) rfl ?_
      obtain ⟨r42, hr43, h⟩ := bind_some h
      refine a_call (args := [(.int .i64 a0), (eSi64 r2), (eSi64 r40)]) (u := []) (r := (eSi64 r42)) rfl rfl (impl_prime_gcd_ok a0 r2 r40 r42 hr43) rfl ?_
      obtain ⟨r44, hr45, h⟩ := bind_some h
      refine a_call (args := [(eSi64 r42)]) (u := []) (r := (.bool r44)) rfl rfl (impl_isOne_ok r42 r44 hr45) rfl ?_
      refine a_val (v := (.bool r44)) (u := []) rfl trivial rfl ?_
      refine a_nil ?_
      refine a_next rfl ?_
      refine a_ret ?_
      refine ⟨.inr rfl, ?_⟩
      rw [Try.results146]
      cases h
      exact ⟨_, _, _, _, _, rfl, trivial, .inl ⟨rfl, .inl rfl⟩, rfl, rfl⟩
    · have h := ite_t hb34 h
      refine a_cond_t rfl ?_
      refine a_seq ?_
      refine a_region ?_
      refine a_val (v := (.bool false)) (u := []) rfl trivial rfl ?_
      refine a_nil ?_
      refine a_next rfl ?_
      refine a_ret ?_
      refine t_ret ?_
      refine ⟨.inr rfl, ?_⟩
      rw [Try.results146]
      cases h
      exact ⟨_, _, _, _, _, rfl, trivial, .inl ⟨rfl, .inl rfl⟩, rfl, rfl⟩
  · have h := hy19
    refine a_region ?_
    refine a_val (v := (.int .i64 a0)) (u := []) rfl trivial rfl ?_
    have hl21 : LdOk [] (eA64u8 a1) [] 64 true (eA64u8 a1) := (.nil rfl rfl rfl)
    refine a_val (v := (eA64u8 a1)) (u := []) (ld_own (i := ⟨.arr 64 5, 64, 64, (eA64u8 (vrep 64 (0 : Int)))⟩) rfl rfl rfl hl21) hl21.c rfl ?_
    obtain ⟨r22, hr23, h⟩ := bind_some h
    refine a_call (args := [(.int .i64 a0), (eA64u8 a1)]) (u := []) (r := (.bool r22)) rfl rfl (impl_IsPoly_ok a0 a1 r22 hr23) rfl ?_
    refine a_val (v := (.bool (!r22))) (u := []) rfl trivial rfl ?_
    refine a_val (v := (.bool (!r22))) (u := []) rfl trivial rfl ?_
    cases hb24 : (!r22)
    · have h := ite_f hb24 h
      refine a_gval rfl (v := (.int .i64 a0)) (u := []) rfl trivial rfl ?_
      refine a_gval rfl (v := (.bool (a0 == 2))) (u := []) rfl trivial rfl ?_
      refine a_val (v := (.bool (a0 == 2))) (u := []) rfl trivial rfl ?_
      refine a_val (v := (.bool (a0 == 2))) (u := []) rfl trivial rfl ?_
      cases hb25 : (a0 == 2)
      · have h := ite_f hb25 h
        refine a_gval rfl (v := (eSi64 r2)) (u := []) rfl trivial rfl ?_
        obtain ⟨r26, hr27, h⟩ := bind_some h
        refine a_gcall rfl (args := [(eSi64 r2)]) (u := []) (r := (.int .i64 r26)) rfl rfl (impl_row_degree_ok r2 r26 hr27) rfl ?_
        refine a_gval rfl (v := (.bool (r26 != 1))) (u := []) rfl trivial rfl ?_
        refine a_gval rfl (v := (.bool (r26 != 1))) (u := []) rfl trivial rfl ?_
        cases hb28 : (r26 != 1)
        · have h := ite_f hb28 h
          refine a_gskip rfl ?_
          refine a_gskip rfl ?_
          refine a_gskip rfl ?_
          refine a_gval rfl (v := (.bool false)) (u := []) rfl trivial rfl ?_
          refine a_gval rfl (v := (.bool false)) (u := []) rfl trivial rfl ?_
          refine a_gskip rfl ?_
          refine a_gskip rfl ?_
          refine a_gskip rfl ?_
          refine a_gval rfl (v := (.bool false)) (u := []) rfl trivial rfl ?_
          refine a_val (v := (.bool false)) (u := []) rfl trivial rfl ?_
          refine a_nil ?_
          exact j_leaf false (Option.some.inj h) (by kernel_rfl)
        · have h := ite_t hb28 h
          refine a_gval rfl (v := (eSi64 r2)) (u := []) rfl trivial rfl ?_
          obtain ⟨r29, hr30, h⟩ := bind_some h
          refine a_gcall rfl (args := [(eSi64 r2)]) (u := []) (r := (.int .i64 r29)) rfl rfl (impl_row_degree_ok r2 r29 hr30) rfl ?_
          refine a_gval rfl (v := (.bool (r29 != 3))) (u := []) rfl trivial rfl ?_
          refine a_gval rfl (v := (.bool (r29 != 3))) (u := []) rfl trivial rfl ?_
          refine a_gval rfl (v := (.bool (r29 != 3))) (u := []) rfl trivial rfl ?_
          cases hb31 : (r29 != 3)
          · have h := ite_f hb31 h
            refine a_gskip rfl ?_
            refine a_gskip rfl ?_
            refine a_gskip rfl ?_
            refine a_gval rfl (v := (.bool false)) (u := []) rfl trivial rfl ?_
            refine a_val (v := (.bool false)) (u := []) rfl trivial rfl ?_
            refine a_nil ?_
            exact j_leaf false (Option.some.inj h) (by kernel_rfl)
          · have h := ite_t hb31 h
            refine a_gval rfl (v := (eSi64 r2)) (u := []) rfl trivial rfl ?_
            obtain ⟨r32, hr33, h⟩ := bind_some h
            refine a_gcall rfl (args := [(eSi64 r2)]) (u := []) (r := (.int .i64 r32)) rfl rfl (impl_row_degree_ok r2 r32 hr33) rfl ?_
            refine a_gval rfl (v := (.bool (r32 != 5))) (u := []) rfl trivial rfl ?_
            refine a_gval rfl (v := (.bool (r32 != 5))) (u := []) rfl trivial rfl ?_
            refine a_val (v := (.bool (r32 != 5))) (u := []) rfl trivial rfl ?_
            refine a_nil ?_
            exact j_leaf (r32 != 5) (Option.some.inj h) (by kernel_rfl)
      · have h := ite_t hb25 h
        refine a_gskip rfl ?_
        refine a_gskip rfl ?_
        refine a_gskip rfl ?_
        refine a_gskip rfl ?_
        refine a_gskip0 rfl ?_
        refine a_gskip0 rfl ?_
        refine a_gskip0 rfl ?_
        refine a_gskip rfl ?_
        refine a_gskip rfl ?_
        refine a_gskip0 rfl ?_
        refine a_gskip0 rfl ?_
        refine a_gskip0 rfl ?_
        refine a_gskip rfl ?_
        refine a_val (v := (.bool true)) (u := []) rfl trivial rfl ?_
        refine a_nil ?_
        exact j_leaf true (Option.some.inj h) (by kernel_rfl)
    · have h := ite_t hb24 h
      refine a_gskip rfl ?_
      refine a_gskip rfl ?_
      refine a_val (v := (.bool true)) (u := []) rfl trivial rfl ?_
      refine a_val (v := (.bool true)) (u := []) rfl trivial rfl ?_
      refine a_gskip rfl ?_
      refine a_gskip rfl ?_
      refine a_gskip rfl ?_
      refine a_gskip rfl ?_
      refine a_gskip0 rfl ?_
      refine a_gskip0 rfl ?_
      refine a_gskip0 rfl ?_
      refine a_gskip rfl ?_
      refine a_gskip rfl ?_
      refine a_gskip0 rfl ?_
      refine a_gskip0 rfl ?_
      refine a_gskip0 rfl ?_
      refine a_gskip rfl ?_
      refine a_val (v := (.bool true)) (u := []) rfl trivial rfl ?_
      refine a_nil ?_
      exact j_leaf true (Option.some.inj h) (by kernel_rfl)
def impl_curveOf_c : ACode := (.seq (.region 0 [⟨some 3, .box 23 (.tmp 1), none, []⟩, ⟨some 4, .alloc 129, none, []⟩] false) (.seq (.region 1 [⟨some 5, .mov (.tmp 0), none, []⟩, ⟨some 6, .load 23 (.tmp 3), none, []⟩, ⟨some 7, .call 0 (.func 72) [(.tmp 6)], none, []⟩, ⟨some 8, .build 129 [(0, (.tmp 5)), (1, (.tmp 7))], none, []⟩, ⟨none, .store 129 (.tmp 4) (.tmp 8), none, []⟩] false) .ret))
def impl_curveOf_L : Live := [(0, [0, 1]), (1, [0, 3, 4])]
theorem impl_curveOf_body : Try.f130.body = some (Try.f130.body.getD .skip) := by kernel_rfl
theorem impl_curveOf_strip : strip [] (Try.f130.body.getD .skip) = impl_curveOf_c := by kernel_rfl
noncomputable def impl_curveOf (a0 : Int) (a1 : (Vec Int 64)) : Option (Int × (List Int)) :=
  (Option.bind (impl_rowOf a1) fun r2 => (some (a0, r2)))
set_option maxHeartbeats 16000000 in
theorem impl_curveOf_ok (a0 : Int) (a1 : (Vec Int 64)) (r : (Int × (List Int))) (h : impl_curveOf a0 a1 = some r) : Den Try.prog 130 [(.int .i64 a0), (eA64u8 a1)] { r := (eT_i64_Si64_Z r) } := by
  refine den_of (rs := [(eT_i64_Si64_Z r)]) (ac := impl_curveOf_c) (L := impl_curveOf_L) (n := 9) (m := []) good Try.func130 impl_curveOf_body (by kernel_rfl) Try.ntmps130 rfl rfl impl_curveOf_strip rfl rfl ?_
  refine a_st (σ' := ⟨[(0, (.int .i64 a0)), (1, (eA64u8 a1))], []⟩) (by kernel_rfl) ?_
  unfold impl_curveOf_c
  refine a_seq ?_
  refine a_region ?_
  refine a_val (v := (.own 1300 [] [])) (u := [(1300, some ⟨(eA64u8 a1), false⟩)]) rfl trivial rfl ?_
  refine a_val (v := (.own 1400 [] [])) (u := [(1400, some ⟨(eT_i64_Si64_Z (((0 : Int), []))), false⟩)]) rfl trivial rfl ?_
  refine a_nil ?_
  refine a_next (σ' := ⟨[(0, (.int .i64 a0)), (3, (.own 3 [] [])), (4, (.own 4 [] []))], [(3, some ⟨(eA64u8 a1), false⟩), (4, some ⟨(eT_i64_Si64_Z (((0 : Int), []))), false⟩)]⟩) (by kernel_rfl) ?_
  refine a_seq ?_
  refine a_region ?_
  refine a_val (v := (.int .i64 a0)) (u := []) rfl trivial rfl ?_
  have hl1 : LdOk [] (eA64u8 a1) [] 64 true (eA64u8 a1) := (.nil rfl rfl rfl)
  refine a_val (v := (eA64u8 a1)) (u := []) (ld_own (i := ⟨.arr 64 5, 64, 64, (eA64u8 (vrep 64 (0 : Int)))⟩) rfl rfl rfl hl1) hl1.c rfl ?_
  obtain ⟨r2, hr3, h⟩ := bind_some h
  refine a_call (args := [(eA64u8 a1)]) (u := []) (r := (eSi64 r2)) rfl rfl (impl_rowOf_ok a1 r2 hr3) rfl ?_
  refine a_val (v := (eT_i64_Si64_Z (a0, r2))) (u := []) rfl ⟨rfl, (all_cons ⟨(Nat.le_of_ble_eq_true rfl), rfl⟩ (all_cons ⟨(Nat.le_of_ble_eq_true rfl), rfl⟩ all_nil))⟩ rfl ?_
  have hs4 : StOk [] (eT_i64_Si64_Z (((0 : Int), []))) [] 2 (eT_i64_Si64_Z (a0, r2)) (eT_i64_Si64_Z (a0, r2)) := (.nil rfl rfl rfl rfl)
  refine a_val (v := .top) (u := [(4, some ⟨(eT_i64_Si64_Z (a0, r2)), false⟩)]) (st_own (i := ⟨.struct [(0, 63), (1, 64)], 2, 32, (eT_i64_Si64_Z ((0 : Int), []))⟩) rfl rfl (fun _ => rfl) rfl hs4) (hs4.c rfl) rfl ?_
  refine a_nil ?_
  refine a_next rfl ?_
  refine a_ret ?_
  have hl5 : LdOk [] (eT_i64_Si64_Z (a0, r2)) [] 2 true (eT_i64_Si64_Z (a0, r2)) := (.nil rfl rfl rfl)
  refine ⟨.inr rfl, ?_⟩
  rw [Try.results130]
  cases h
  exact ⟨_, _, _, _, _, ld_own (i := ⟨.struct [(0, 63), (1, 64)], 2, 32, (eT_i64_Si64_Z ((0 : Int), []))⟩) rfl rfl rfl hl5, hl5.c, .inl ⟨rfl, .inl rfl⟩, rfl, rfl⟩
def impl_formOf_c : ACode := (.seq (.region 0 [⟨some 1, .box 124 (.tmp 0), none, []⟩, ⟨some 2, .alloc 133, none, []⟩] false) (.seq (.region 1 [⟨some 3, .fieldAddr 124 (.tmp 1) 0, none, []⟩, ⟨some 4, .load 23 (.tmp 3), none, [0]⟩, ⟨some 5, .call 0 (.func 72) [(.tmp 4)], none, [1]⟩, ⟨some 6, .fieldAddr 124 (.tmp 1) 1, none, []⟩, ⟨some 7, .load 23 (.tmp 6), none, [3]⟩, ⟨some 8, .call 0 (.func 72) [(.tmp 7)], none, [4, 2]⟩, ⟨some 9, .build 133 [(0, (.tmp 5)), (1, (.tmp 8))], none, [2, 5]⟩, ⟨none, .store 133 (.tmp 2) (.tmp 9), none, [6, 5, 0, 1, 2, 3, 4, 5, 6]⟩] true) .ret))
def impl_formOf_L : Live := [(0, [0]), (1, [1, 2])]
theorem impl_formOf_body : Try.f152.body = some (Try.f152.body.getD .skip) := by kernel_rfl
theorem impl_formOf_strip : strip [] (Try.f152.body.getD .skip) = impl_formOf_c := by kernel_rfl
noncomputable def impl_formOf (a0 : ((Vec Int 64) × (Vec Int 64))) : Option ((List Int) × (List Int)) :=
  (Option.bind (impl_rowOf a0.1) fun r9 => (Option.bind (impl_rowOf a0.2) fun r12 => (some (r9, r12))))
set_option maxHeartbeats 16000000 in
theorem impl_formOf_ok (a0 : ((Vec Int 64) × (Vec Int 64))) (r : ((List Int) × (List Int))) (h : impl_formOf a0 = some r) : Den Try.prog 152 [(eT_A64u8_A64u8_Z a0)] { r := (eT_Si64_Si64_Z r) } := by
  refine den_of (rs := [(eT_Si64_Si64_Z r)]) (ac := impl_formOf_c) (L := impl_formOf_L) (n := 10) (m := []) good Try.func152 impl_formOf_body (by kernel_rfl) Try.ntmps152 rfl rfl impl_formOf_strip rfl rfl ?_
  refine a_st (σ' := ⟨[(0, (eT_A64u8_A64u8_Z a0))], []⟩) (by kernel_rfl) ?_
  unfold impl_formOf_c
  refine a_seq ?_
  refine a_region ?_
  refine a_val (v := (.own 1100 [] [])) (u := [(1100, some ⟨(eT_A64u8_A64u8_Z a0), false⟩)]) rfl trivial rfl ?_
  refine a_val (v := (.own 1200 [] [])) (u := [(1200, some ⟨(eT_Si64_Si64_Z ([], [])), false⟩)]) rfl trivial rfl ?_
  refine a_nil ?_
  refine a_next (σ' := ⟨[(1, (.own 1 [] [])), (2, (.own 2 [] []))], [(1, some ⟨(eT_A64u8_A64u8_Z a0), false⟩), (2, some ⟨(eT_Si64_Si64_Z ([], [])), false⟩)]⟩) (by kernel_rfl) ?_
  refine a_seq ?_
  refine a_draw [⟨[1], [], [1], []⟩, ⟨[1], [], [], [0]⟩, ⟨[], [], [], [0, 1]⟩, ⟨[1], [], [1], []⟩, ⟨[1], [], [], [3]⟩, ⟨[], [], [], [0, 1, 2, 3, 4]⟩, ⟨[], [], [], [0, 1, 2, 3, 4, 5]⟩, ⟨[2], [2], [], [0, 1, 2, 3, 4, 5, 6]⟩] (by kernel_rfl) ?_
  refine d_cons ?_
  refine a_val (v := (.own 1 [0] [0])) (u := []) rfl (Nat.le_of_ble_eq_true rfl) rfl ?_
  refine d_next (by kernel_rfl) ?_
  refine d_cons ?_
  have hl8 : LdOk [0] (eT_A64u8_A64u8_Z a0) [0] 64 true (eA64u8 a0.1) := (.fld rfl rfl rfl rfl (.nil rfl rfl rfl))
  refine a_val (v := (eA64u8 a0.1)) (u := []) (ld_own (i := ⟨.arr 64 5, 64, 64, (eA64u8 (vrep 64 (0 : Int)))⟩) rfl rfl rfl hl8) hl8.c rfl ?_
  refine d_next (by kernel_rfl) ?_
  refine d_cons ?_
  obtain ⟨r9, hr10, h⟩ := bind_some h
  refine a_call (args := [(eA64u8 a0.1)]) (u := []) (r := (eSi64 r9)) rfl rfl (impl_rowOf_ok a0.1 r9 hr10) rfl ?_
  refine d_next (by kernel_rfl) ?_
  refine d_cons ?_
  refine a_val (v := (.own 1 [1] [64])) (u := []) rfl (Nat.le_of_ble_eq_true rfl) rfl ?_
  refine d_next (by kernel_rfl) ?_
  refine d_cons ?_
  have hl11 : LdOk [1] (eT_A64u8_A64u8_Z a0) [64] 64 true (eA64u8 a0.2) := (.fld rfl rfl rfl rfl (.nil rfl rfl rfl))
  refine a_val (v := (eA64u8 a0.2)) (u := []) (ld_own (i := ⟨.arr 64 5, 64, 64, (eA64u8 (vrep 64 (0 : Int)))⟩) rfl rfl rfl hl11) hl11.c rfl ?_
  refine d_next (by kernel_rfl) ?_
  refine d_cons ?_
  obtain ⟨r12, hr13, h⟩ := bind_some h
  refine a_call (args := [(eA64u8 a0.2)]) (u := []) (r := (eSi64 r12)) rfl rfl (impl_rowOf_ok a0.2 r12 hr13) rfl ?_
  refine d_next (by kernel_rfl) ?_
  refine d_cons ?_
  refine a_val (v := (eT_Si64_Si64_Z (r9, r12))) (u := []) rfl ⟨rfl, (all_cons ⟨(Nat.le_of_ble_eq_true rfl), rfl⟩ (all_cons ⟨(Nat.le_of_ble_eq_true rfl), rfl⟩ all_nil))⟩ rfl ?_
  refine d_next (by kernel_rfl) ?_
  refine d_cons ?_
  have hs14 : StOk [] (eT_Si64_Si64_Z ([], [])) [] 2 (eT_Si64_Si64_Z (r9, r12)) (eT_Si64_Si64_Z (r9, r12)) := (.nil rfl rfl rfl rfl)
  refine a_val (v := .top) (u := [(2, some ⟨(eT_Si64_Si64_Z (r9, r12)), false⟩)]) (st_own (i := ⟨.struct [(0, 64), (1, 64)], 2, 48, (eT_Si64_Si64_Z ([], []))⟩) rfl rfl (fun _ => rfl) rfl hs14) (hs14.c rfl) rfl ?_
  refine d_next (by kernel_rfl) ?_
  refine d_nil ?_
  refine a_next rfl ?_
  refine a_ret ?_
  have hl15 : LdOk [] (eT_Si64_Si64_Z (r9, r12)) [] 2 true (eT_Si64_Si64_Z (r9, r12)) := (.nil rfl rfl rfl)
  refine ⟨.inr rfl, ?_⟩
  rw [Try.results152]
  cases h
  exact ⟨_, _, _, _, _, ld_own (i := ⟨.struct [(0, 64), (1, 64)], 2, 48, (eT_Si64_Si64_Z ([], []))⟩) rfl rfl rfl hl15, hl15.c, .inl ⟨rfl, .inl rfl⟩, rfl, rfl⟩
def impl_prime_rest_c : ACode := (.seq (.region 0 [⟨some 6, .asg 1 (.const (.slice none 0 0)) 64, none, []⟩] false) (.seq (.region 1 [⟨some 10, .mov (.tmp 0), none, []⟩, ⟨some 11, .mov (.tmp 1), none, []⟩, ⟨some 12, .mov (.tmp 2), none, []⟩, ⟨some 13, .call 0 (.func 91) [(.tmp 10), (.tmp 11), (.tmp 12)], none, []⟩, ⟨some 9, .mov (.tmp 13), none, []⟩, ⟨some 14, .extract (.tmp 9) 0, none, []⟩, ⟨some 15, .extract (.tmp 9) 1, none, []⟩, ⟨some 7, .asg 1 (.tmp 14) 64, none, []⟩, ⟨some 8, .asg 1 (.tmp 15) 64, none, []⟩] false) (.seq (.region 2 [⟨some 16, .mov (.tmp 8), none, []⟩, ⟨some 6, .asg 1 (.tmp 16) 64, none, []⟩] false) .ret)))
def impl_prime_rest_L : Live := [(0, [0, 1, 2]), (1, [0, 1, 2]), (2, [8])]
theorem impl_prime_rest_body : Try.f90.body = some (Try.f90.body.getD .skip) := by kernel_rfl
theorem impl_prime_rest_strip : strip [(6, 1), (7, 1), (8, 1)] (Try.f90.body.getD .skip) = impl_prime_rest_c := by kernel_rfl
noncomputable def impl_prime_rest (a0 : Int) (a1 : (List Int)) (a2 : (List Int)) : Option (List Int) :=
  (Option.bind (impl_prime_divide a0 a1 a2) fun r1 => (some r1.2))
set_option maxHeartbeats 16000000 in
theorem impl_prime_rest_ok (a0 : Int) (a1 : (List Int)) (a2 : (List Int)) (r : (List Int)) (h : impl_prime_rest a0 a1 a2 = some r) : Den Try.prog 90 [(.int .i64 a0), (eSi64 a1), (eSi64 a2)] { r := (eSi64 r) } := by
  refine den_of (rs := [(eSi64 r)]) (ac := impl_prime_rest_c) (L := impl_prime_rest_L) (n := 17) (m := [(6, 1), (7, 1), (8, 1)]) good Try.func90 impl_prime_rest_body (by kernel_rfl) Try.ntmps90 rfl rfl impl_prime_rest_strip rfl rfl ?_
  refine a_st (σ' := ⟨[(0, (.int .i64 a0)), (1, (eSi64 a1)), (2, (eSi64 a2))], []⟩) (by kernel_rfl) ?_
  unfold impl_prime_rest_c
  refine a_seq ?_
  refine a_region ?_
  refine a_val (v := (eSi64 ([]))) (u := []) rfl trivial rfl ?_
  refine a_nil ?_
  refine a_next (σ' := ⟨[(0, (.int .i64 a0)), (1, (eSi64 a1)), (2, (eSi64 a2))], []⟩) (by kernel_rfl) ?_
  refine a_seq ?_
  refine a_region ?_
  refine a_val (v := (.int .i64 a0)) (u := []) rfl trivial rfl ?_
  refine a_val (v := (eSi64 a1)) (u := []) rfl trivial rfl ?_
  refine a_val (v := (eSi64 a2)) (u := []) rfl trivial rfl ?_
  obtain ⟨r1, hr2, h⟩ := bind_some h
  refine a_call (args := [(.int .i64 a0), (eSi64 a1), (eSi64 a2)]) (u := []) (r := (.tuple [(eSi64 r1.1), (eSi64 r1.2)])) rfl rfl (impl_prime_divide_ok a0 a1 a2 r1 hr2) rfl ?_
  refine a_val (v := (.tuple [(eSi64 r1.1), (eSi64 r1.2)])) (u := []) rfl trivial rfl ?_
  refine a_val (v := (eSi64 r1.1)) (u := []) rfl (Nat.le_of_ble_eq_true rfl) rfl ?_
  refine a_val (v := (eSi64 r1.2)) (u := []) rfl (Nat.le_of_ble_eq_true rfl) rfl ?_
  refine a_val (v := (eSi64 r1.1)) (u := []) rfl trivial rfl ?_
  refine a_val (v := (eSi64 r1.2)) (u := []) rfl trivial rfl ?_
  refine a_nil ?_
  refine a_next (σ' := ⟨[(8, (eSi64 r1.2))], []⟩) (by kernel_rfl) ?_
  refine a_seq ?_
  refine a_region ?_
  refine a_val (v := (eSi64 r1.2)) (u := []) rfl trivial rfl ?_
  refine a_val (v := (eSi64 r1.2)) (u := []) rfl trivial rfl ?_
  refine a_nil ?_
  refine a_next rfl ?_
  refine a_ret ?_
  refine ⟨.inr rfl, ?_⟩
  rw [Try.results90]
  cases h
  exact ⟨_, _, _, _, _, rfl, trivial, .inl ⟨rfl, .inl rfl⟩, rfl, rfl⟩
end Go.Proofs.Ytgodhgbnjlflmaa
