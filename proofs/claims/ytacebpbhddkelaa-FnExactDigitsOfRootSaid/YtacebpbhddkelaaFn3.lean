/- Functions of the program: plain Lean functions, and that the program computes them. Printed by gen.py. -/
import Derived.Test.YtacebpbhddkelaaFnT
import Derived.Test.YtacebpbhddkelaaFn1
import Derived.Test.YtacebpbhddkelaaFn2
namespace Go.Proofs.Ytacebpbhddkelaa
open Go.Abs Go.Proofs
set_option linter.unusedSimpArgs false
set_option linter.unusedVariables false

def impl_prime_root_c : ACode := (.seq (.region 0 [⟨some 4, .asg 1 (.const (.slice none 0 0)) 66, none, []⟩] false) (.seq (.region 1 [⟨some 11, .mov (.tmp 1), none, []⟩, ⟨some 12, .call 0 (.func 100) [(.tmp 11)], none, []⟩, ⟨some 13, .bin .quo 2 (.tmp 12) (.const (.int .i64 2)), none, []⟩, ⟨some 5, .asg 0 (.tmp 13) 3, none, []⟩] false) (.seq (.region 2 [⟨some 14, .mov (.tmp 0), none, []⟩, ⟨some 15, .mov (.tmp 0), none, []⟩, ⟨some 16, .bin .rem 2 (.const (.int .i64 2)) (.tmp 15), none, []⟩, ⟨some 17, .call 0 (.func 109) [(.tmp 14), (.tmp 16)], none, []⟩, ⟨some 6, .asg 0 (.tmp 17) 2, none, []⟩] false) (.seq (.region 3 [⟨some 18, .mov (.tmp 5), none, []⟩, ⟨some 19, .bin .add 3 (.tmp 18) (.const (.int .i64 1)), none, []⟩, ⟨some 20, .mkslice 66 (.tmp 19) (.tmp 19), none, []⟩, ⟨some 7, .asg 2 (.tmp 20) 66, none, []⟩] false) (.seq (.region 4 [⟨some 21, .mov (.tmp 7), none, []⟩, ⟨some 22, .mov (.tmp 5), none, []⟩, ⟨some 23, .indexAddr 66 (.tmp 21) (.tmp 22), none, []⟩, ⟨none, .store 2 (.tmp 23) (.const (.int .i64 1)), none, []⟩] false) (.seq (.seq (.region 5 [⟨some 8, .asg 0 (.const (.int .i64 1)) 3, none, []⟩] false) (.block 0 (.loop (.seq (.seq (.region 6 [⟨some 24, .mov (.tmp 8), none, []⟩, ⟨some 25, .mov (.tmp 5), none, []⟩, ⟨some 26, .bin .leq 3 (.tmp 24) (.tmp 25), none, []⟩] false) (.cond (.tmp 26) .skip (.exit 0))) (.seq (.block 1 (.seq (.region 8 [⟨some 29, .mov (.tmp 1), none, []⟩, ⟨some 30, .mov (.tmp 5), none, []⟩, ⟨some 31, .bin .mul 3 (.const (.int .i64 2)) (.tmp 30), none, []⟩, ⟨some 32, .mov (.tmp 8), none, []⟩, ⟨some 33, .bin .sub 3 (.tmp 31) (.tmp 32), none, []⟩, ⟨some 34, .indexAddr 66 (.tmp 29) (.tmp 33), none, []⟩, ⟨some 35, .load 2 (.tmp 34), none, []⟩, ⟨some 9, .asg 0 (.tmp 35) 2, none, []⟩] false) (.seq (.seq (.region 9 [⟨some 10, .asg 0 (.const (.int .i64 1)) 3, none, []⟩] false) (.block 2 (.loop (.seq (.seq (.region 10 [⟨some 36, .mov (.tmp 10), none, []⟩, ⟨some 37, .mov (.tmp 8), none, []⟩, ⟨some 38, .bin .lss 3 (.tmp 36) (.tmp 37), none, []⟩] false) (.cond (.tmp 38) .skip (.exit 2))) (.seq (.block 3 (.region 12 [⟨some 41, .mov (.tmp 9), none, []⟩, ⟨some 42, .mov (.tmp 7), none, []⟩, ⟨some 43, .mov (.tmp 5), none, []⟩, ⟨some 44, .mov (.tmp 10), none, []⟩, ⟨some 45, .bin .sub 3 (.tmp 43) (.tmp 44), none, [2, 3]⟩, ⟨some 46, .indexAddr 66 (.tmp 42) (.tmp 45), none, [1, 4]⟩, ⟨some 47, .load 2 (.tmp 46), none, [5]⟩, ⟨some 48, .mov (.tmp 7), none, []⟩, ⟨some 49, .mov (.tmp 5), none, []⟩, ⟨some 50, .mov (.tmp 8), none, []⟩, ⟨some 51, .bin .sub 3 (.tmp 49) (.tmp 50), none, [8, 9]⟩, ⟨some 52, .mov (.tmp 10), none, []⟩, ⟨some 53, .bin .add 3 (.tmp 51) (.tmp 52), none, [10, 11]⟩, ⟨some 54, .indexAddr 66 (.tmp 48) (.tmp 53), none, [7, 12]⟩, ⟨some 55, .load 2 (.tmp 54), none, [13]⟩, ⟨some 56, .bin .mul 2 (.tmp 47) (.tmp 55), none, [6, 14]⟩, ⟨some 57, .bin .sub 2 (.tmp 41) (.tmp 56), none, [0, 15]⟩, ⟨some 9, .asg 0 (.tmp 57) 2, none, [16, 0, 1, 2, 3, 4, 5, 6, 7, 8, 9, 10, 11, 12, 13, 14, 15, 16]⟩] true)) (.region 11 [⟨some 39, .mov (.tmp 10), none, []⟩, ⟨some 40, .bin .add 3 (.tmp 39) (.const (.int .i64 1)), none, []⟩, ⟨some 10, .asg 0 (.tmp 40) 3, none, []⟩] false)))))) (.region 13 [⟨some 58, .mov (.tmp 7), none, []⟩, ⟨some 59, .mov (.tmp 5), none, []⟩, ⟨some 60, .mov (.tmp 8), none, []⟩, ⟨some 61, .bin .sub 3 (.tmp 59) (.tmp 60), none, []⟩, ⟨some 62, .mov (.tmp 0), none, []⟩, ⟨some 63, .mov (.tmp 9), none, []⟩, ⟨some 64, .call 0 (.func 110) [(.tmp 62), (.tmp 63)], none, []⟩, ⟨some 65, .mov (.tmp 6), none, []⟩, ⟨some 66, .bin .mul 2 (.tmp 64) (.tmp 65), none, []⟩, ⟨some 67, .mov (.tmp 0), none, []⟩, ⟨some 68, .bin .rem 2 (.tmp 66) (.tmp 67), none, []⟩, ⟨some 69, .indexAddr 66 (.tmp 58) (.tmp 61), none, []⟩, ⟨none, .store 2 (.tmp 69) (.tmp 68), none, []⟩] false)))) (.region 7 [⟨some 27, .mov (.tmp 8), none, []⟩, ⟨some 28, .bin .add 3 (.tmp 27) (.const (.int .i64 1)), none, []⟩, ⟨some 8, .asg 0 (.tmp 28) 3, none, []⟩] false)))))) (.seq (.region 14 [⟨some 70, .mov (.tmp 7), none, []⟩, ⟨some 4, .asg 1 (.tmp 70) 66, none, []⟩] false) .ret)))))))
def impl_prime_root_L : Live := [(0, [0, 1]), (1, [0, 1]), (2, [0, 1, 5]), (3, [0, 1, 5, 6]), (4, [0, 1, 5, 6, 7]), (5, [0, 1, 5, 6, 7]), (6, [0, 1, 5, 6, 7, 8]), (7, [0, 1, 5, 6, 7, 8]), (8, [0, 1, 5, 6, 7, 8]), (9, [0, 1, 5, 6, 7, 8, 9]), (10, [0, 1, 5, 6, 7, 8, 9, 10]), (11, [0, 1, 5, 6, 7, 8, 9, 10]), (12, [0, 1, 5, 6, 7, 8, 9, 10]), (13, [0, 1, 5, 6, 7, 8, 9]), (14, [7]), (100026, [0, 1, 5, 6, 7, 8, 26]), (100038, [0, 1, 5, 6, 7, 8, 9, 10, 38])]
theorem impl_prime_root_body : Try.f75.body = some (Try.f75.body.getD .skip) := by kernel_rfl
theorem impl_prime_root_strip : strip [(4, 1), (7, 2)] (Try.f75.body.getD .skip) = impl_prime_root_c := by kernel_rfl
noncomputable def impl_prime_root_l2 (x643 : Int) (r1 : Int) (x644 : (List Int)) (x899 : Int) (x900 : Int) : Option ((Int × Int) ⊕ Int) :=
  (if (decide (x900 < x643)) then (ifp (0 ≤ IntKind.i64.wrap ((IntKind.i64.wrap (Int.tdiv r1 2)) - x900) ∧ IntKind.i64.wrap ((IntKind.i64.wrap (Int.tdiv r1 2)) - x900) < ((x644.length : Nat) : Int)) ((letp ((rd x644 (IntKind.i64.wrap ((IntKind.i64.wrap (Int.tdiv r1 2)) - x900)).toNat)) fun x938 => (letp (IntKind.i64.wrap ((IntKind.i64.wrap ((IntKind.i64.wrap (Int.tdiv r1 2)) - x643)) + x900)) fun x940 => (ifp (0 ≤ x940 ∧ x940 < ((x644.length : Nat) : Int)) ((letp (IntKind.i64.wrap (x899 - (IntKind.i64.wrap (x938 * (rd x644 x940.toNat))))) fun x944 => (some (.inl ((x944, IntKind.i64.wrap (x900 + 1)))))))))))) else (some (.inr x899)))
noncomputable def impl_prime_root_l1 (r1 : Int) (a1 : (List Int)) (a0 : Int) (r4 : Int) (x643 : Int) (x644 : (List Int)) : Option ((Int × (List Int)) ⊕ (List Int)) :=
  (if (decide (x643 ≤ (IntKind.i64.wrap (Int.tdiv r1 2)))) then (letp (IntKind.i64.wrap ((IntKind.i64.wrap (2 * (IntKind.i64.wrap (Int.tdiv r1 2)))) - x643)) fun x801 => (ifp (0 ≤ x801 ∧ x801 < ((a1.length : Nat) : Int)) ((Option.bind (α := Int) ((loopM (fun s : (Int × Int) => impl_prime_root_l2 x643 r1 x644 s.1 s.2) ((rd a1 x801.toNat), 1))) fun x874 => (Option.bind (impl_prime_reduce a0 x874) fun r947 => (ifp (a0 ≠ 0) ((ifp (0 ≤ IntKind.i64.wrap ((IntKind.i64.wrap (Int.tdiv r1 2)) - x643) ∧ IntKind.i64.wrap ((IntKind.i64.wrap (Int.tdiv r1 2)) - x643) < ((x644.length : Nat) : Int)) ((some (.inl ((IntKind.i64.wrap (x643 + 1), (x644.set (IntKind.i64.wrap ((IntKind.i64.wrap (Int.tdiv r1 2)) - x643)).toNat (Int.tmod (IntKind.i64.wrap (r947 * r4)) a0))))))))))))))) else (some (.inr x644)))
noncomputable def impl_prime_root (a0 : Int) (a1 : (List Int)) : Option (List Int) :=
  (Option.bind (impl_row_degree a1) fun r1 => (ifp (a0 ≠ 0) ((Option.bind (impl_prime_inverse a0 (Int.tmod 2 a0)) fun r4 => (ifp (0 ≤ IntKind.i64.wrap ((IntKind.i64.wrap (Int.tdiv r1 2)) + 1) ∧ IntKind.i64.wrap ((IntKind.i64.wrap (Int.tdiv r1 2)) + 1) ≤ 140737488355328 ∧ 8 * IntKind.i64.wrap ((IntKind.i64.wrap (Int.tdiv r1 2)) + 1) ≤ 140737488355328) ((ifp (0 ≤ IntKind.i64.wrap (Int.tdiv r1 2) ∧ IntKind.i64.wrap (Int.tdiv r1 2) < (((List.replicate (IntKind.i64.wrap ((IntKind.i64.wrap (Int.tdiv r1 2)) + 1)).toNat (0 : Int)).length : Nat) : Int)) ((Option.bind (α := (List Int)) ((loopM (fun s : (Int × (List Int)) => impl_prime_root_l1 r1 a1 a0 r4 s.1 s.2) (1, ((List.replicate (IntKind.i64.wrap ((IntKind.i64.wrap (Int.tdiv r1 2)) + 1)).toNat (0 : Int)).set (IntKind.i64.wrap (Int.tdiv r1 2)).toNat 1)))) fun x479 => (some x479))))))))))
set_option maxHeartbeats 16000000 in
theorem impl_prime_root_ok (a0 : Int) (a1 : (List Int)) (r : (List Int)) (h : impl_prime_root a0 a1 = some r) : Den Try.prog 75 [(.int .i64 a0), (eSi64 a1)] { r := (eSi64 r) } := by
  refine den_of (rs := [(eSi64 r)]) (ac := impl_prime_root_c) (L := impl_prime_root_L) (n := 71) (m := [(4, 1), (7, 2)]) good Try.func75 impl_prime_root_body (by kernel_rfl) Try.ntmps75 rfl rfl impl_prime_root_strip rfl rfl ?_
  refine a_st (σ' := ⟨[(0, (.int .i64 a0)), (1, (eSi64 a1))], []⟩) rfl ?_
  unfold impl_prime_root_c
  refine a_seq ?_
  refine a_region ?_
  refine a_val (v := (eSi64 ([]))) (u := []) rfl trivial rfl ?_
  refine a_nil ?_
  refine a_next (σ' := ⟨[(0, (.int .i64 a0)), (1, (eSi64 a1))], []⟩) rfl ?_
  refine a_seq ?_
  refine a_region ?_
  refine a_val (v := (eSi64 a1)) (u := []) rfl trivial rfl ?_
  obtain ⟨r1, hr2, h⟩ := bind_some h
  refine a_call (args := [(eSi64 a1)]) (u := []) (r := (.int .i64 r1)) rfl rfl (impl_row_degree_ok a1 r1 hr2) rfl ?_
  refine a_val (v := (.int .i64 (IntKind.i64.wrap (Int.tdiv r1 2)))) (u := []) rfl (by decide) rfl ?_
  refine a_val (v := (.int .i64 (IntKind.i64.wrap (Int.tdiv r1 2)))) (u := []) rfl trivial rfl ?_
  refine a_nil ?_
  refine a_next (σ' := ⟨[(0, (.int .i64 a0)), (1, (eSi64 a1)), (5, (.int .i64 (IntKind.i64.wrap (Int.tdiv r1 2))))], []⟩) rfl ?_
  refine a_seq ?_
  refine a_region ?_
  refine a_val (v := (.int .i64 a0)) (u := []) rfl trivial rfl ?_
  refine a_val (v := (.int .i64 a0)) (u := []) rfl trivial rfl ?_
  obtain ⟨hc3, h⟩ := ifp_some h
  refine a_val (v := (.int .i64 (Int.tmod 2 a0))) (u := []) rfl hc3 rfl ?_
  obtain ⟨r4, hr5, h⟩ := bind_some h
  refine a_call (args := [(.int .i64 a0), (.int .i64 (Int.tmod 2 a0))]) (u := []) (r := (.int .i64 r4)) rfl rfl (impl_prime_inverse_ok a0 (Int.tmod 2 a0) r4 hr5) rfl ?_
  refine a_val (v := (.int .i64 r4)) (u := []) rfl trivial rfl ?_
  refine a_nil ?_
  refine a_next (σ' := ⟨[(0, (.int .i64 a0)), (1, (eSi64 a1)), (5, (.int .i64 (IntKind.i64.wrap (Int.tdiv r1 2)))), (6, (.int .i64 r4))], []⟩) rfl ?_
  refine a_seq ?_
  refine a_region ?_
  refine a_val (v := (.int .i64 (IntKind.i64.wrap (Int.tdiv r1 2)))) (u := []) rfl trivial rfl ?_
  refine a_val (v := (.int .i64 (IntKind.i64.wrap ((IntKind.i64.wrap (Int.tdiv r1 2)) + 1)))) (u := []) rfl trivial rfl ?_
  obtain ⟨hc6, h⟩ := ifp_some h
  refine a_val (v := (.osl 3000)) (u := [(3000, some ⟨(.row 1 ((List.replicate (IntKind.i64.wrap ((IntKind.i64.wrap (Int.tdiv r1 2)) + 1)).toNat (0 : Int)).map (AV.int .i64))), false⟩)]) (mk_run (i := ⟨.int .i64, 1, 8, (.int .i64 0)⟩) (f := (AV.int .i64)) (y := (0 : Int)) rfl rfl rfl rfl rfl rfl) ⟨rfl, hc6.1, hc6.2.1, hc6.2.2, (Nat.le_of_ble_eq_true rfl)⟩ rfl ?_
  refine a_val (v := (.osl 3000)) (u := []) rfl trivial rfl ?_
  refine a_nil ?_
  refine a_next (σ' := ⟨[(0, (.int .i64 a0)), (1, (eSi64 a1)), (5, (.int .i64 (IntKind.i64.wrap (Int.tdiv r1 2)))), (6, (.int .i64 r4)), (7, (.osl 7))], [(7, some ⟨(.row 1 ((List.replicate (IntKind.i64.wrap ((IntKind.i64.wrap (Int.tdiv r1 2)) + 1)).toNat (0 : Int)).map (AV.int .i64))), false⟩)]⟩) rfl ?_
  refine a_seq ?_
  refine a_region ?_
  refine a_val (v := (.osl 7)) (u := []) rfl trivial rfl ?_
  refine a_val (v := (.int .i64 (IntKind.i64.wrap (Int.tdiv r1 2)))) (u := []) rfl trivial rfl ?_
  obtain ⟨hc7, h⟩ := ifp_some h
  refine a_val (v := (.own 7 [(IntKind.i64.wrap (Int.tdiv r1 2)).toNat] [(IntKind.i64.wrap (Int.tdiv r1 2)).toNat * 1])) (u := []) rfl (lmap hc7) rfl ?_
  have hs8 : StOk [(IntKind.i64.wrap (Int.tdiv r1 2)).toNat] (.row 1 ((List.replicate (IntKind.i64.wrap ((IntKind.i64.wrap (Int.tdiv r1 2)) + 1)).toNat (0 : Int)).map (AV.int .i64))) [(IntKind.i64.wrap (Int.tdiv r1 2)).toNat * 1] 1 (.int .i64 1) (.row 1 ((((List.replicate (IntKind.i64.wrap ((IntKind.i64.wrap (Int.tdiv r1 2)) + 1)).toNat (0 : Int)).set (IntKind.i64.wrap (Int.tdiv r1 2)).toNat 1)).map (AV.int .i64))) := (.row (y := 1) (llt hc7) rfl (.nil rfl rfl rfl rfl))
  refine a_val (v := .top) (u := [(7, some ⟨(.row 1 ((((List.replicate (IntKind.i64.wrap ((IntKind.i64.wrap (Int.tdiv r1 2)) + 1)).toNat (0 : Int)).set (IntKind.i64.wrap (Int.tdiv r1 2)).toNat 1)).map (AV.int .i64))), false⟩)]) (st_own (i := ⟨.int .i64, 1, 8, (.int .i64 0)⟩) rfl rfl (fun _ => rfl) rfl hs8) (hs8.c rfl) rfl ?_
  refine a_nil ?_
  refine a_next (σ' := ⟨[(0, (.int .i64 a0)), (1, (eSi64 a1)), (5, (.int .i64 (IntKind.i64.wrap (Int.tdiv r1 2)))), (6, (.int .i64 r4)), (7, (.osl 7))], [(7, some ⟨(.row 1 ((((List.replicate (IntKind.i64.wrap ((IntKind.i64.wrap (Int.tdiv r1 2)) + 1)).toNat (0 : Int)).set (IntKind.i64.wrap (Int.tdiv r1 2)).toNat 1)).map (AV.int .i64))), false⟩)]⟩) rfl ?_
  obtain ⟨y480, hy481, hk482⟩ := bind_some h
  clear h
  refine a_join (emb := fun (s : (List Int)) => ⟨[(7, (.osl 7))], [(7, some ⟨(.row 1 (s.map (AV.int .i64))), false⟩)]⟩) (pre := fun s => s = y480) ?_ ?_
  · rintro x479 rfl
    have h := hk482
    refine a_st (σ' := ⟨[(7, (.osl 7))], [(7, some ⟨(.row 1 (x479.map (AV.int .i64))), false⟩)]⟩) rfl ?_
    refine a_seq ?_
    refine a_region ?_
    refine a_val (v := (.osl 7)) (u := []) rfl trivial rfl ?_
    refine a_val (v := (eSi64 x479)) (u := [(7, some ⟨(.row 1 (x479.map (AV.int .i64))), true⟩)]) rfl trivial rfl ?_
    refine a_nil ?_
    refine a_next rfl ?_
    refine a_ret ?_
    refine ⟨.inr rfl, ?_⟩
    rw [Try.results75]
    cases h
    exact ⟨_, _, _, _, _, rfl, trivial, .inl ⟨rfl, .inl rfl⟩, rfl, rfl⟩
  · have h := hy481
    refine a_seq ?_
    refine a_region ?_
    refine a_val (v := (.int .i64 1)) (u := []) rfl trivial rfl ?_
    refine a_nil ?_
    refine a_next (σ' := ⟨[(0, (.int .i64 a0)), (1, (eSi64 a1)), (5, (.int .i64 (IntKind.i64.wrap (Int.tdiv r1 2)))), (6, (.int .i64 r4)), (7, (.osl 7)), (8, (.int .i64 1))], [(7, some ⟨(.row 1 ((((List.replicate (IntKind.i64.wrap ((IntKind.i64.wrap (Int.tdiv r1 2)) + 1)).toNat (0 : Int)).set (IntKind.i64.wrap (Int.tdiv r1 2)).toNat 1)).map (AV.int .i64))), false⟩)]⟩) rfl ?_
    refine a_block ?_
    refine a_loop (emb := fun (s : (Int × (List Int))) => ⟨[(0, (.int .i64 a0)), (1, (eSi64 a1)), (5, (.int .i64 (IntKind.i64.wrap (Int.tdiv r1 2)))), (6, (.int .i64 r4)), (7, (.osl 7)), (8, (.int .i64 s.1))], [(7, some ⟨(.row 1 (s.2.map (AV.int .i64))), false⟩)]⟩) (body := (fun s : (Int × (List Int)) => impl_prime_root_l1 r1 a1 a0 r4 s.1 s.2)) (G := fun q => some q = some y480) h rfl ?_ rfl
    rintro X797 ⟨x643, x644⟩ x798 h hX799
    have h : impl_prime_root_l1 r1 a1 a0 r4 x643 x644 = some x798 := h
    refine a_st (σ' := ⟨[(0, (.int .i64 a0)), (1, (eSi64 a1)), (5, (.int .i64 (IntKind.i64.wrap (Int.tdiv r1 2)))), (6, (.int .i64 r4)), (7, (.osl 7)), (8, (.int .i64 x643))], [(7, some ⟨(.row 1 (x644.map (AV.int .i64))), false⟩)]⟩) rfl ?_
    refine a_seq ?_
    refine a_seq ?_
    refine a_region ?_
    refine a_val (v := (.int .i64 x643)) (u := []) rfl trivial rfl ?_
    refine a_val (v := (.int .i64 (IntKind.i64.wrap (Int.tdiv r1 2)))) (u := []) rfl trivial rfl ?_
    refine a_val (v := (.bool ((decide (x643 ≤ (IntKind.i64.wrap (Int.tdiv r1 2))))))) (u := []) rfl trivial rfl ?_
    refine a_nil ?_
    refine a_next (σ' := ⟨[(0, (.int .i64 a0)), (1, (eSi64 a1)), (5, (.int .i64 (IntKind.i64.wrap (Int.tdiv r1 2)))), (6, (.int .i64 r4)), (7, (.osl 7)), (8, (.int .i64 x643)), (26, (.bool ((decide (x643 ≤ (IntKind.i64.wrap (Int.tdiv r1 2)))))))], [(7, some ⟨(.row 1 (x644.map (AV.int .i64))), false⟩)]⟩) rfl ?_
    cases hb800 : (decide (x643 ≤ (IntKind.i64.wrap (Int.tdiv r1 2))))
    · have h := ite_f hb800 h
      refine a_cond_f rfl ?_
      refine a_exit ?_
      refine t_exit ?_
      cases h
      have h := hX799
      refine t_exit ?_
      refine b_exit ?_
      exact j_leaf x644 (Option.some.inj h) rfl
    · have h := ite_t hb800 h
      refine a_cond_t rfl ?_
      refine a_skip ?_
      refine a_next (σ' := ⟨[(0, (.int .i64 a0)), (1, (eSi64 a1)), (5, (.int .i64 (IntKind.i64.wrap (Int.tdiv r1 2)))), (6, (.int .i64 r4)), (7, (.osl 7)), (8, (.int .i64 x643))], [(7, some ⟨(.row 1 (x644.map (AV.int .i64))), false⟩)]⟩) rfl ?_
      refine a_seq ?_
      refine a_block ?_
      refine a_seq ?_
      refine a_region ?_
      refine a_val (v := (eSi64 a1)) (u := []) rfl trivial rfl ?_
      refine a_val (v := (.int .i64 (IntKind.i64.wrap (Int.tdiv r1 2)))) (u := []) rfl trivial rfl ?_
      refine a_val (v := (.int .i64 (IntKind.i64.wrap (2 * (IntKind.i64.wrap (Int.tdiv r1 2)))))) (u := []) rfl trivial rfl ?_
      refine a_val (v := (.int .i64 x643)) (u := []) rfl trivial rfl ?_
      obtain ⟨x801, hx802, h⟩ := letp_some h
      refine a_val' (v := (.int .i64 (IntKind.i64.wrap ((IntKind.i64.wrap (2 * (IntKind.i64.wrap (Int.tdiv r1 2)))) - x643)))) (v' := (.int .i64 x801)) (u := []) (u' := []) rfl (congrArg (fun z => ((.int .i64 z) : AV)) hx802) rfl trivial rfl ?_
      obtain ⟨hc803, h⟩ := ifp_some h
      refine a_val (v := (.ref (.row 1 (a1.map (AV.int .i64))) [x801.toNat] [x801.toNat * 1])) (u := []) rfl (lmap hc803) rfl ?_
      have hl804 : LdOk [x801.toNat] (.row 1 (a1.map (AV.int .i64))) [x801.toNat * 1] 1 false (.int .i64 (rd a1 x801.toNat)) := (.row (llt hc803) rfl (.nil rfl rfl rfl))
      refine a_val (v := (.int .i64 (rd a1 x801.toNat))) (u := []) (ld_ref (i := ⟨.int .i64, 1, 8, (.int .i64 0)⟩) rfl rfl hl804) hl804.c rfl ?_
      refine a_val (v := (.int .i64 (rd a1 x801.toNat))) (u := []) rfl trivial rfl ?_
      refine a_nil ?_
      refine a_next (σ' := ⟨[(0, (.int .i64 a0)), (1, (eSi64 a1)), (5, (.int .i64 (IntKind.i64.wrap (Int.tdiv r1 2)))), (6, (.int .i64 r4)), (7, (.osl 7)), (8, (.int .i64 x643)), (9, (.int .i64 (rd a1 x801.toNat)))], [(7, some ⟨(.row 1 (x644.map (AV.int .i64))), false⟩)]⟩) rfl ?_
      obtain ⟨y875, hy876, hk877⟩ := bind_some h
      clear h
      refine a_join (emb := fun (s : Int) => ⟨[(0, (.int .i64 a0)), (1, (eSi64 a1)), (5, (.int .i64 (IntKind.i64.wrap (Int.tdiv r1 2)))), (6, (.int .i64 r4)), (7, (.osl 7)), (8, (.int .i64 x643)), (9, (.int .i64 s))], [(7, some ⟨(.row 1 (x644.map (AV.int .i64))), false⟩)]⟩) (pre := fun s => s = y875) ?_ ?_
      · rintro x874 rfl
        have h := hk877
        refine a_st (σ' := ⟨[(0, (.int .i64 a0)), (1, (eSi64 a1)), (5, (.int .i64 (IntKind.i64.wrap (Int.tdiv r1 2)))), (6, (.int .i64 r4)), (7, (.osl 7)), (8, (.int .i64 x643)), (9, (.int .i64 x874))], [(7, some ⟨(.row 1 (x644.map (AV.int .i64))), false⟩)]⟩) rfl ?_
        refine a_region ?_
        refine a_val (v := (.osl 7)) (u := []) rfl trivial rfl ?_
        refine a_val (v := (.int .i64 (IntKind.i64.wrap (Int.tdiv r1 2)))) (u := []) rfl trivial rfl ?_
        refine a_val (v := (.int .i64 x643)) (u := []) rfl trivial rfl ?_
        refine a_val (v := (.int .i64 (IntKind.i64.wrap ((IntKind.i64.wrap (Int.tdiv r1 2)) - x643)))) (u := []) rfl trivial rfl ?_
        refine a_val (v := (.int .i64 a0)) (u := []) rfl trivial rfl ?_
        refine a_val (v := (.int .i64 x874)) (u := []) rfl trivial rfl ?_
        obtain ⟨r947, hr948, h⟩ := bind_some h
        refine a_call (args := [(.int .i64 a0), (.int .i64 x874)]) (u := []) (r := (.int .i64 r947)) rfl rfl (impl_prime_reduce_ok a0 x874 r947 hr948) rfl ?_
        refine a_val (v := (.int .i64 r4)) (u := []) rfl trivial rfl ?_
        refine a_val (v := (.int .i64 (IntKind.i64.wrap (r947 * r4)))) (u := []) rfl trivial rfl ?_
        refine a_val (v := (.int .i64 a0)) (u := []) rfl trivial rfl ?_
        obtain ⟨hc949, h⟩ := ifp_some h
        refine a_val (v := (.int .i64 (Int.tmod (IntKind.i64.wrap (r947 * r4)) a0))) (u := []) rfl hc949 rfl ?_
        obtain ⟨hc950, h⟩ := ifp_some h
        refine a_val (v := (.own 7 [(IntKind.i64.wrap ((IntKind.i64.wrap (Int.tdiv r1 2)) - x643)).toNat] [(IntKind.i64.wrap ((IntKind.i64.wrap (Int.tdiv r1 2)) - x643)).toNat * 1])) (u := []) rfl (lmap hc950) rfl ?_
        have hs951 : StOk [(IntKind.i64.wrap ((IntKind.i64.wrap (Int.tdiv r1 2)) - x643)).toNat] (.row 1 (x644.map (AV.int .i64))) [(IntKind.i64.wrap ((IntKind.i64.wrap (Int.tdiv r1 2)) - x643)).toNat * 1] 1 (.int .i64 (Int.tmod (IntKind.i64.wrap (r947 * r4)) a0)) (.row 1 (((x644.set (IntKind.i64.wrap ((IntKind.i64.wrap (Int.tdiv r1 2)) - x643)).toNat (Int.tmod (IntKind.i64.wrap (r947 * r4)) a0))).map (AV.int .i64))) := (.row (y := Int.tmod (IntKind.i64.wrap (r947 * r4)) a0) (llt hc950) rfl (.nil rfl rfl rfl rfl))
        refine a_val (v := .top) (u := [(7, some ⟨(.row 1 (((x644.set (IntKind.i64.wrap ((IntKind.i64.wrap (Int.tdiv r1 2)) - x643)).toNat (Int.tmod (IntKind.i64.wrap (r947 * r4)) a0))).map (AV.int .i64))), false⟩)]) (st_own (i := ⟨.int .i64, 1, 8, (.int .i64 0)⟩) rfl rfl (fun _ => rfl) rfl hs951) (hs951.c rfl) rfl ?_
        refine a_nil ?_
        refine b_norm ?_
        refine a_next (σ' := ⟨[(0, (.int .i64 a0)), (1, (eSi64 a1)), (5, (.int .i64 (IntKind.i64.wrap (Int.tdiv r1 2)))), (6, (.int .i64 r4)), (7, (.osl 7)), (8, (.int .i64 x643))], [(7, some ⟨(.row 1 (((x644.set (IntKind.i64.wrap ((IntKind.i64.wrap (Int.tdiv r1 2)) - x643)).toNat (Int.tmod (IntKind.i64.wrap (r947 * r4)) a0))).map (AV.int .i64))), false⟩)]⟩) rfl ?_
        refine a_region ?_
        refine a_val (v := (.int .i64 x643)) (u := []) rfl trivial rfl ?_
        refine a_val (v := (.int .i64 (IntKind.i64.wrap (x643 + 1)))) (u := []) rfl trivial rfl ?_
        refine a_val (v := (.int .i64 (IntKind.i64.wrap (x643 + 1)))) (u := []) rfl trivial rfl ?_
        refine a_nil ?_
        cases h
        exact a_again rfl hX799
      · have h := hy876
        refine a_seq ?_
        refine a_region ?_
        refine a_val (v := (.int .i64 1)) (u := []) rfl trivial rfl ?_
        refine a_nil ?_
        refine a_next (σ' := ⟨[(0, (.int .i64 a0)), (1, (eSi64 a1)), (5, (.int .i64 (IntKind.i64.wrap (Int.tdiv r1 2)))), (6, (.int .i64 r4)), (7, (.osl 7)), (8, (.int .i64 x643)), (9, (.int .i64 (rd a1 x801.toNat))), (10, (.int .i64 1))], [(7, some ⟨(.row 1 (x644.map (AV.int .i64))), false⟩)]⟩) rfl ?_
        refine a_block ?_
        refine a_loop (emb := fun (s : (Int × Int)) => ⟨[(0, (.int .i64 a0)), (1, (eSi64 a1)), (5, (.int .i64 (IntKind.i64.wrap (Int.tdiv r1 2)))), (6, (.int .i64 r4)), (7, (.osl 7)), (8, (.int .i64 x643)), (9, (.int .i64 s.1)), (10, (.int .i64 s.2))], [(7, some ⟨(.row 1 (x644.map (AV.int .i64))), false⟩)]⟩) (body := (fun s : (Int × Int) => impl_prime_root_l2 x643 r1 x644 s.1 s.2)) (G := fun q => some q = some y875) h rfl ?_ rfl
        rintro X922 ⟨x899, x900⟩ x923 h hX924
        have h : impl_prime_root_l2 x643 r1 x644 x899 x900 = some x923 := h
        refine a_st (σ' := ⟨[(0, (.int .i64 a0)), (1, (eSi64 a1)), (5, (.int .i64 (IntKind.i64.wrap (Int.tdiv r1 2)))), (6, (.int .i64 r4)), (7, (.osl 7)), (8, (.int .i64 x643)), (9, (.int .i64 x899)), (10, (.int .i64 x900))], [(7, some ⟨(.row 1 (x644.map (AV.int .i64))), false⟩)]⟩) rfl ?_
        refine a_seq ?_
        refine a_seq ?_
        refine a_region ?_
        refine a_val (v := (.int .i64 x900)) (u := []) rfl trivial rfl ?_
        refine a_val (v := (.int .i64 x643)) (u := []) rfl trivial rfl ?_
        refine a_val (v := (.bool ((decide (x900 < x643))))) (u := []) rfl trivial rfl ?_
        refine a_nil ?_
        refine a_next (σ' := ⟨[(0, (.int .i64 a0)), (1, (eSi64 a1)), (5, (.int .i64 (IntKind.i64.wrap (Int.tdiv r1 2)))), (6, (.int .i64 r4)), (7, (.osl 7)), (8, (.int .i64 x643)), (9, (.int .i64 x899)), (10, (.int .i64 x900)), (38, (.bool ((decide (x900 < x643)))))], [(7, some ⟨(.row 1 (x644.map (AV.int .i64))), false⟩)]⟩) rfl ?_
        cases hb925 : (decide (x900 < x643))
        · have h := ite_f hb925 h
          refine a_cond_f rfl ?_
          refine a_exit ?_
          refine t_exit ?_
          cases h
          have h := hX924
          refine t_exit ?_
          refine b_exit ?_
          exact j_leaf x899 (Option.some.inj h) rfl
        · have h := ite_t hb925 h
          refine a_cond_t rfl ?_
          refine a_skip ?_
          refine a_next (σ' := ⟨[(0, (.int .i64 a0)), (1, (eSi64 a1)), (5, (.int .i64 (IntKind.i64.wrap (Int.tdiv r1 2)))), (6, (.int .i64 r4)), (7, (.osl 7)), (8, (.int .i64 x643)), (9, (.int .i64 x899)), (10, (.int .i64 x900))], [(7, some ⟨(.row 1 (x644.map (AV.int .i64))), false⟩)]⟩) rfl ?_
          refine a_seq ?_
          refine a_block ?_
          refine a_draw [⟨[], [], [], []⟩, ⟨[7], [], [7], []⟩, ⟨[], [], [], []⟩, ⟨[], [], [], []⟩, ⟨[], [], [], [2, 3]⟩, ⟨[7], [], [7], [1, 2, 3, 4]⟩, ⟨[7], [], [], [1, 2, 3, 4, 5]⟩, ⟨[7], [], [7], []⟩, ⟨[], [], [], []⟩, ⟨[], [], [], []⟩, ⟨[], [], [], [8, 9]⟩, ⟨[], [], [], []⟩, ⟨[], [], [], [8, 9, 10, 11]⟩, ⟨[7], [], [7], [7, 8, 9, 10, 11, 12]⟩, ⟨[7], [], [], [7, 8, 9, 10, 11, 12, 13]⟩, ⟨[], [], [], [1, 2, 3, 4, 5, 6, 7, 8, 9, 10, 11, 12, 13, 14]⟩, ⟨[], [], [], [0, 1, 2, 3, 4, 5, 6, 7, 8, 9, 10, 11, 12, 13, 14, 15]⟩, ⟨[], [], [], [0, 1, 2, 3, 4, 5, 6, 7, 8, 9, 10, 11, 12, 13, 14, 15, 16]⟩] (by kernel_rfl) ?_
          refine d_cons ?_
          refine a_val (v := (.int .i64 x899)) (u := []) rfl trivial rfl ?_
          refine d_next rfl ?_
          refine d_cons ?_
          refine a_val (v := (.osl 7)) (u := []) rfl trivial rfl ?_
          refine d_next rfl ?_
          refine d_cons ?_
          refine a_val (v := (.int .i64 (IntKind.i64.wrap (Int.tdiv r1 2)))) (u := []) rfl trivial rfl ?_
          refine d_next rfl ?_
          refine d_cons ?_
          refine a_val (v := (.int .i64 x900)) (u := []) rfl trivial rfl ?_
          refine d_next rfl ?_
          refine d_cons ?_
          refine a_val (v := (.int .i64 (IntKind.i64.wrap ((IntKind.i64.wrap (Int.tdiv r1 2)) - x900)))) (u := []) rfl trivial rfl ?_
          refine d_next rfl ?_
          refine d_cons ?_
          obtain ⟨hc936, h⟩ := ifp_some h
          refine a_val (v := (.own 7 [(IntKind.i64.wrap ((IntKind.i64.wrap (Int.tdiv r1 2)) - x900)).toNat] [(IntKind.i64.wrap ((IntKind.i64.wrap (Int.tdiv r1 2)) - x900)).toNat * 1])) (u := []) rfl (lmap hc936) rfl ?_
          refine d_next rfl ?_
          refine d_cons ?_
          have hl937 : LdOk [(IntKind.i64.wrap ((IntKind.i64.wrap (Int.tdiv r1 2)) - x900)).toNat] (.row 1 (x644.map (AV.int .i64))) [(IntKind.i64.wrap ((IntKind.i64.wrap (Int.tdiv r1 2)) - x900)).toNat * 1] 1 false (.int .i64 ((rd x644 (IntKind.i64.wrap ((IntKind.i64.wrap (Int.tdiv r1 2)) - x900)).toNat))) := (.row (llt hc936) rfl (.nil rfl rfl rfl))
          obtain ⟨x938, hx939, h⟩ := letp_some h
          refine a_val' (v := (.int .i64 ((rd x644 (IntKind.i64.wrap ((IntKind.i64.wrap (Int.tdiv r1 2)) - x900)).toNat)))) (v' := (.int .i64 x938)) (u := []) (u' := []) (ld_own (i := ⟨.int .i64, 1, 8, (.int .i64 0)⟩) rfl rfl rfl hl937) (congrArg (fun z => ((.int .i64 z) : AV)) hx939) rfl hl937.c rfl ?_
          refine d_next rfl ?_
          refine d_cons ?_
          refine a_val (v := (.osl 7)) (u := []) rfl trivial rfl ?_
          refine d_next rfl ?_
          refine d_cons ?_
          refine a_val (v := (.int .i64 (IntKind.i64.wrap (Int.tdiv r1 2)))) (u := []) rfl trivial rfl ?_
          refine d_next rfl ?_
          refine d_cons ?_
          refine a_val (v := (.int .i64 x643)) (u := []) rfl trivial rfl ?_
          refine d_next rfl ?_
          refine d_cons ?_
          refine a_val (v := (.int .i64 (IntKind.i64.wrap ((IntKind.i64.wrap (Int.tdiv r1 2)) - x643)))) (u := []) rfl trivial rfl ?_
          refine d_next rfl ?_
          refine d_cons ?_
          refine a_val (v := (.int .i64 x900)) (u := []) rfl trivial rfl ?_
          refine d_next rfl ?_
          refine d_cons ?_
          obtain ⟨x940, hx941, h⟩ := letp_some h
          refine a_val' (v := (.int .i64 (IntKind.i64.wrap ((IntKind.i64.wrap ((IntKind.i64.wrap (Int.tdiv r1 2)) - x643)) + x900)))) (v' := (.int .i64 x940)) (u := []) (u' := []) rfl (congrArg (fun z => ((.int .i64 z) : AV)) hx941) rfl trivial rfl ?_
          refine d_next rfl ?_
          refine d_cons ?_
          obtain ⟨hc942, h⟩ := ifp_some h
          refine a_val (v := (.own 7 [x940.toNat] [x940.toNat * 1])) (u := []) rfl (lmap hc942) rfl ?_
          refine d_next rfl ?_
          refine d_cons ?_
          have hl943 : LdOk [x940.toNat] (.row 1 (x644.map (AV.int .i64))) [x940.toNat * 1] 1 false (.int .i64 (rd x644 x940.toNat)) := (.row (llt hc942) rfl (.nil rfl rfl rfl))
          refine a_val (v := (.int .i64 (rd x644 x940.toNat))) (u := []) (ld_own (i := ⟨.int .i64, 1, 8, (.int .i64 0)⟩) rfl rfl rfl hl943) hl943.c rfl ?_
          refine d_next rfl ?_
          refine d_cons ?_
          refine a_val (v := (.int .i64 (IntKind.i64.wrap (x938 * (rd x644 x940.toNat))))) (u := []) rfl trivial rfl ?_
          refine d_next rfl ?_
          refine d_cons ?_
          obtain ⟨x944, hx945, h⟩ := letp_some h
          refine a_val' (v := (.int .i64 (IntKind.i64.wrap (x899 - (IntKind.i64.wrap (x938 * (rd x644 x940.toNat))))))) (v' := (.int .i64 x944)) (u := []) (u' := []) rfl (congrArg (fun z => ((.int .i64 z) : AV)) hx945) rfl trivial rfl ?_
          refine d_next rfl ?_
          refine d_cons ?_
          refine a_val (v := (.int .i64 x944)) (u := []) rfl trivial rfl ?_
          refine d_next rfl ?_
          refine d_nil ?_
          refine b_norm ?_
          refine a_next (σ' := ⟨[(0, (.int .i64 a0)), (1, (eSi64 a1)), (5, (.int .i64 (IntKind.i64.wrap (Int.tdiv r1 2)))), (6, (.int .i64 r4)), (7, (.osl 7)), (8, (.int .i64 x643)), (9, (.int .i64 x944)), (10, (.int .i64 x900))], [(7, some ⟨(.row 1 (x644.map (AV.int .i64))), false⟩)]⟩) rfl ?_
          refine a_region ?_
          refine a_val (v := (.int .i64 x900)) (u := []) rfl trivial rfl ?_
          refine a_val (v := (.int .i64 (IntKind.i64.wrap (x900 + 1)))) (u := []) rfl trivial rfl ?_
          refine a_val (v := (.int .i64 (IntKind.i64.wrap (x900 + 1)))) (u := []) rfl trivial rfl ?_
          refine a_nil ?_
          cases h
          exact a_again rfl hX924
def impl_DigitsOfRoot_fresh_c : ACode := (.seq (.region 0 [⟨some 4, .box 23 (.tmp 1), none, []⟩, ⟨some 6, .asg 2 (.const (.slice none 0 0)) 45, none, []⟩, ⟨some 7, .asg 0 (.const (.int .i64 0)) 2, none, []⟩] false) (.seq (.seq (.region 1 [⟨some 12, .mov (.tmp 0), none, []⟩, ⟨some 13, .load 23 (.tmp 4), none, []⟩, ⟨some 14, .mov (.tmp 2), none, []⟩, ⟨some 15, .call 0 (.func 74) [(.tmp 14)], none, [2]⟩, ⟨some 16, .call 0 (.func 73) [(.tmp 12), (.tmp 13), (.tmp 15)], none, [0, 1, 3, 3]⟩, ⟨some 8, .asg 0 (.tmp 16) 2, none, [4, 4, 0, 1, 2, 3, 4]⟩] true) (.seq (.region 2 [⟨some 17, .mov (.tmp 8), none, []⟩, ⟨some 18, .bin .neq 2 (.tmp 17) (.const (.int .i64 0)), none, []⟩] false) (.cond (.tmp 18) (.seq (.region 3 [⟨some 19, .mov (.tmp 8), none, []⟩, ⟨some 6, .asg 2 (.const (.slice none 0 0)) 45, none, []⟩, ⟨some 7, .asg 0 (.tmp 19) 2, none, []⟩] false) .ret) .skip))) (.seq (.region 4 [⟨some 20, .mov (.tmp 0), none, []⟩, ⟨some 21, .mov (.tmp 2), none, []⟩, ⟨some 22, .bin .mul 2 (.const (.int .i64 2)) (.tmp 21), none, [1]⟩, ⟨some 23, .mkslice 66 (.tmp 22) (.tmp 22), none, [2, 2]⟩, ⟨some 24, .load 23 (.tmp 4), none, []⟩, ⟨some 25, .call 0 (.func 76) [(.tmp 24)], none, [4]⟩, ⟨some 26, .blt 0 .append [(.tmp 23), (.tmp 25)] [66, 66], none, [3, 5, 5]⟩, ⟨some 27, .call 0 (.func 75) [(.tmp 20), (.tmp 26)], none, [0, 6, 6]⟩, ⟨some 9, .asg 1 (.tmp 27) 66, none, [7, 7, 0, 1, 2, 3, 4, 5, 6, 7]⟩] true) (.seq (.region 5 [⟨some 10, .asg 2 (.const (.slice none 0 0)) 45, none, []⟩] false) (.seq (.seq (.region 6 [⟨some 28, .mov (.tmp 2), none, []⟩, ⟨some 29, .bin .sub 2 (.tmp 28) (.const (.int .i64 1)), none, []⟩, ⟨some 11, .asg 0 (.tmp 29) 2, none, []⟩] false) (.block 0 (.loop (.seq (.seq (.region 7 [⟨some 30, .mov (.tmp 11), none, []⟩, ⟨some 31, .bin .geq 2 (.tmp 30) (.const (.int .i64 0)), none, []⟩] false) (.cond (.tmp 31) .skip (.exit 0))) (.seq (.block 1 (.region 9 [⟨some 34, .mov (.tmp 10), none, []⟩, ⟨some 35, .mov (.tmp 9), none, []⟩, ⟨some 36, .mov (.tmp 11), none, []⟩, ⟨some 37, .indexAddr 66 (.tmp 35) (.tmp 36), none, []⟩, ⟨some 38, .load 2 (.tmp 37), none, []⟩, ⟨some 39, .bslice 0 45 1 [(0, (.tmp 38))], none, []⟩, ⟨some 40, .blt 0 .append [(.tmp 34), (.tmp 39)] [45, 45], none, []⟩, ⟨some 10, .asg 2 (.tmp 40) 45, none, []⟩] false)) (.region 8 [⟨some 32, .mov (.tmp 11), none, []⟩, ⟨some 33, .bin .sub 2 (.tmp 32) (.const (.int .i64 1)), none, []⟩, ⟨some 11, .asg 0 (.tmp 33) 2, none, []⟩] false)))))) (.seq (.region 10 [⟨some 41, .mov (.tmp 10), none, []⟩, ⟨some 6, .asg 2 (.tmp 41) 45, none, []⟩, ⟨some 7, .asg 0 (.const (.int .i64 0)) 2, none, []⟩] false) .ret))))))
def impl_DigitsOfRoot_fresh_L : Live := [(0, [0, 1, 2]), (1, [0, 2, 4]), (2, [0, 2, 4, 8]), (3, [8]), (4, [0, 2, 4]), (5, [2, 9]), (6, [2, 9, 10]), (7, [9, 10, 11]), (8, [9, 10, 11]), (9, [9, 10, 11]), (10, [10]), (100018, [0, 2, 4, 8, 18]), (100031, [9, 10, 11, 31])]
theorem impl_DigitsOfRoot_fresh_body : Try.f33.body = some (Try.f33.body.getD .skip) := by kernel_rfl
theorem impl_DigitsOfRoot_fresh_strip : strip [(6, 2), (9, 1), (10, 2)] (Try.f33.body.getD .skip) = impl_DigitsOfRoot_fresh_c := by kernel_rfl
noncomputable def impl_DigitsOfRoot_fresh_l1 (r24 : (List Int)) (x52 : Int) (x53 : (List Int)) : Option ((Int × (List Int)) ⊕ (List Int)) :=
  (if (decide (x52 ≥ 0)) then (ifp (0 ≤ x52 ∧ x52 < ((r24.length : Nat) : Int)) ((ifp ((x53.length + ([(rd r24 x52.toNat)] : List Int).length) * 8 ≤ 140737488355328) ((some (.inl ((IntKind.i64.wrap (x52 - 1), (x53 ++ ([(rd r24 x52.toNat)])))))))))) else (some (.inr x53)))
noncomputable def impl_DigitsOfRoot_fresh (a0 : Int) (a1 : (Vec Int 64)) (a2 : Int) : Option ((List Int) × Int) :=
  (Option.bind (impl_isDigits a2) fun r7 => (Option.bind (impl_squareCode a0 a1 r7) fun r9 => (if (r9 != 0) then (some ([], r9)) else (ifp (0 ≤ IntKind.i64.wrap (2 * a2) ∧ IntKind.i64.wrap (2 * a2) ≤ 140737488355328 ∧ 8 * IntKind.i64.wrap (2 * a2) ≤ 140737488355328) ((Option.bind (impl_rowOf a1) fun r21 => (ifp (((List.replicate (IntKind.i64.wrap (2 * a2)).toNat (0 : Int)).length + r21.length) * 8 ≤ 140737488355328) ((Option.bind (impl_prime_root a0 (((List.replicate (IntKind.i64.wrap (2 * a2)).toNat (0 : Int)) ++ r21))) fun r24 => (Option.bind (α := (List Int)) ((loopM (fun s : (Int × (List Int)) => impl_DigitsOfRoot_fresh_l1 r24 s.1 s.2) (IntKind.i64.wrap (a2 - 1), []))) fun x44 => (some (x44, 0))))))))))))
set_option maxHeartbeats 16000000 in
theorem impl_DigitsOfRoot_fresh_ok (a0 : Int) (a1 : (Vec Int 64)) (a2 : Int) (r : ((List Int) × Int)) (h : impl_DigitsOfRoot_fresh a0 a1 a2 = some r) : Den Try.prog 33 [(.int .i64 a0), (eA64u8 a1), (.int .i64 a2)] { r := (.tuple [(.osl 2000000), (.int .i64 r.2)]), ms := [], fs := [(1, r.1.map (AV.int .i64))] } := by
  refine den_ofX (rs := [(.osl 2000000), (.int .i64 r.2)]) (ac := impl_DigitsOfRoot_fresh_c) (L := impl_DigitsOfRoot_fresh_L) (n := 42) (m := [(6, 2), (9, 1), (10, 2)]) good Try.func33 impl_DigitsOfRoot_fresh_body (by kernel_rfl) Try.ntmps33 rfl rfl impl_DigitsOfRoot_fresh_strip rfl ?_
  refine a_st (σ' := ⟨[(0, (.int .i64 a0)), (1, (eA64u8 a1)), (2, (.int .i64 a2))], []⟩) rfl ?_
  unfold impl_DigitsOfRoot_fresh_c
  refine a_seq ?_
  refine a_region ?_
  refine a_val (v := (.own 1400 [] [])) (u := [(1400, some ⟨(eA64u8 a1), false⟩)]) rfl trivial rfl ?_
  refine a_val (v := (.osl 1600)) (u := [(1600, some ⟨(.row 1 (([]).map (AV.int .i64))), false⟩)]) rfl trivial rfl ?_
  refine a_val (v := (.int .i64 0)) (u := []) rfl trivial rfl ?_
  refine a_nil ?_
  refine a_next (σ' := ⟨[(0, (.int .i64 a0)), (2, (.int .i64 a2)), (4, (.own 4 [] []))], [(4, some ⟨(eA64u8 a1), false⟩)]⟩) rfl ?_
  refine a_seq ?_
  refine a_seq ?_
  refine a_draw [⟨[], [], [], []⟩, ⟨[4], [], [], []⟩, ⟨[], [], [], []⟩, ⟨[], [], [], [2]⟩, ⟨[], [], [], [0, 1, 2, 3]⟩, ⟨[], [], [], [0, 1, 2, 3, 4]⟩] (by kernel_rfl) ?_
  refine d_cons ?_
  refine a_val (v := (.int .i64 a0)) (u := []) rfl trivial rfl ?_
  refine d_next rfl ?_
  refine d_cons ?_
  have hl6 : LdOk [] (eA64u8 a1) [] 64 true (eA64u8 a1) := (.nil rfl rfl rfl)
  refine a_val (v := (eA64u8 a1)) (u := []) (ld_own (i := ⟨.arr 64 5, 64, 64, (eA64u8 (vrep 64 (0 : Int)))⟩) rfl rfl rfl hl6) hl6.c rfl ?_
  refine d_next rfl ?_
  refine d_cons ?_
  refine a_val (v := (.int .i64 a2)) (u := []) rfl trivial rfl ?_
  refine d_next rfl ?_
  refine d_cons ?_
  obtain ⟨r7, hr8, h⟩ := bind_some h
  refine a_call (args := [(.int .i64 a2)]) (u := []) (r := (.bool r7)) rfl rfl (impl_isDigits_ok a2 r7 hr8) rfl ?_
  refine d_next rfl ?_
  refine d_cons ?_
  obtain ⟨r9, hr10, h⟩ := bind_some h
  refine a_call (args := [(.int .i64 a0), (eA64u8 a1), (.bool r7)]) (u := []) (r := (.int .i64 r9)) rfl rfl (impl_squareCode_ok a0 a1 r7 r9 hr10) rfl ?_
  refine d_next rfl ?_
  refine d_cons ?_
  refine a_val (v := (.int .i64 r9)) (u := []) rfl trivial rfl ?_
  refine d_next rfl ?_
  refine d_nil ?_
  refine a_next (σ' := ⟨[(0, (.int .i64 a0)), (2, (.int .i64 a2)), (4, (.own 4 [] [])), (8, (.int .i64 r9))], [(4, some ⟨(eA64u8 a1), false⟩)]⟩) rfl ?_
  refine a_seq ?_
  refine a_region ?_
  refine a_val (v := (.int .i64 r9)) (u := []) rfl trivial rfl ?_
  refine a_val (v := (.bool (r9 != 0))) (u := []) rfl trivial rfl ?_
  refine a_nil ?_
  refine a_next (σ' := ⟨[(0, (.int .i64 a0)), (2, (.int .i64 a2)), (4, (.own 4 [] [])), (8, (.int .i64 r9)), (18, (.bool (r9 != 0)))], [(4, some ⟨(eA64u8 a1), false⟩)]⟩) rfl ?_
  cases hb11 : (r9 != 0)
  · have h := ite_f hb11 h
    refine a_cond_f rfl ?_
    refine a_skip ?_
    refine a_next (σ' := ⟨[(0, (.int .i64 a0)), (2, (.int .i64 a2)), (4, (.own 4 [] []))], [(4, some ⟨(eA64u8 a1), false⟩)]⟩) rfl ?_
    refine a_seq ?_
    refine a_draw [⟨[], [], [], []⟩, ⟨[], [], [], []⟩, ⟨[], [], [], [1]⟩, ⟨[3300], [3300], [3300], [1, 2]⟩, ⟨[4], [], [], []⟩, ⟨[], [], [], [4]⟩, ⟨[3300, 3600], [3300, 3600], [3600], [1, 2, 3, 4, 5]⟩, ⟨[3600], [3600], [], [0, 1, 2, 3, 4, 5, 6]⟩, ⟨[], [], [], [0, 1, 2, 3, 4, 5, 6, 7]⟩] (by kernel_rfl) ?_
    refine d_cons ?_
    refine a_val (v := (.int .i64 a0)) (u := []) rfl trivial rfl ?_
    refine d_next rfl ?_
    refine d_cons ?_
    refine a_val (v := (.int .i64 a2)) (u := []) rfl trivial rfl ?_
    refine d_next rfl ?_
    refine d_cons ?_
    refine a_val (v := (.int .i64 (IntKind.i64.wrap (2 * a2)))) (u := []) rfl trivial rfl ?_
    refine d_next rfl ?_
    refine d_cons ?_
    obtain ⟨hc19, h⟩ := ifp_some h
    refine a_val (v := (.osl 3300)) (u := [(3300, some ⟨(.row 1 ((List.replicate (IntKind.i64.wrap (2 * a2)).toNat (0 : Int)).map (AV.int .i64))), false⟩)]) (mk_run (i := ⟨.int .i64, 1, 8, (.int .i64 0)⟩) (f := (AV.int .i64)) (y := (0 : Int)) rfl rfl rfl rfl rfl rfl) ⟨rfl, hc19.1, hc19.2.1, hc19.2.2, (Nat.le_of_ble_eq_true rfl)⟩ rfl ?_
    refine d_next rfl ?_
    refine d_cons ?_
    have hl20 : LdOk [] (eA64u8 a1) [] 64 true (eA64u8 a1) := (.nil rfl rfl rfl)
    refine a_val (v := (eA64u8 a1)) (u := []) (ld_own (i := ⟨.arr 64 5, 64, 64, (eA64u8 (vrep 64 (0 : Int)))⟩) rfl rfl rfl hl20) hl20.c rfl ?_
    refine d_next rfl ?_
    refine d_cons ?_
    obtain ⟨r21, hr22, h⟩ := bind_some h
    refine a_call (args := [(eA64u8 a1)]) (u := []) (r := (eSi64 r21)) rfl rfl (impl_rowOf_ok a1 r21 hr22) rfl ?_
    refine d_next rfl ?_
    refine d_cons ?_
    obtain ⟨hc23, h⟩ := ifp_some h
    refine a_val (v := (.osl 3600)) (u := [(3600, some ⟨(.row 1 ((((List.replicate (IntKind.i64.wrap (2 * a2)).toNat (0 : Int)) ++ r21)).map (AV.int .i64))), false⟩), (3300, none)]) (app_run (i := ⟨.int .i64, 1, 8, (.int .i64 0)⟩) (f := (AV.int .i64)) (l := List.replicate (IntKind.i64.wrap (2 * a2)).toNat (0 : Int)) (l2 := r21) rfl rfl rfl rfl (fun _ => rfl) rfl rfl) (app_c (f := (AV.int .i64)) (s := 1) (sz := 1) (by' := 8) (u := []) (id := 3300) hc23 (.inr rfl) rfl rfl rfl) rfl ?_
    refine d_next rfl ?_
    refine d_cons ?_
    obtain ⟨r24, hr25, h⟩ := bind_some h
    refine a_call (args := [(.int .i64 a0), (eSi64 (((List.replicate (IntKind.i64.wrap (2 * a2)).toNat (0 : Int)) ++ r21)))]) (u := [(3600, some ⟨(.row 1 ((((List.replicate (IntKind.i64.wrap (2 * a2)).toNat (0 : Int)) ++ r21)).map (AV.int .i64))), true⟩)]) (r := (eSi64 r24)) rfl rfl (impl_prime_root_ok a0 (((List.replicate (IntKind.i64.wrap (2 * a2)).toNat (0 : Int)) ++ r21)) r24 hr25) rfl ?_
    refine d_next rfl ?_
    refine d_cons ?_
    refine a_val (v := (eSi64 r24)) (u := []) rfl trivial rfl ?_
    refine d_next rfl ?_
    refine d_nil ?_
    refine a_next (σ' := ⟨[(2, (.int .i64 a2)), (9, (eSi64 r24))], []⟩) rfl ?_
    refine a_seq ?_
    refine a_region ?_
    refine a_val (v := (.osl 2000)) (u := [(2000, some ⟨(.row 1 (([]).map (AV.int .i64))), false⟩)]) rfl trivial rfl ?_
    refine a_nil ?_
    refine a_next (σ' := ⟨[(2, (.int .i64 a2)), (9, (eSi64 r24)), (10, (.osl 10))], [(10, some ⟨(.row 1 (([]).map (AV.int .i64))), false⟩)]⟩) rfl ?_
    obtain ⟨y45, hy46, hk47⟩ := bind_some h
    clear h
    refine a_join (emb := fun (s : (List Int)) => ⟨[(10, (.osl 10))], [(10, some ⟨(.row 1 (s.map (AV.int .i64))), false⟩)]⟩) (pre := fun s => s = y45) ?_ ?_
    · rintro x44 rfl
      have h := hk47
      refine a_st (σ' := ⟨[(10, (.osl 10))], [(10, some ⟨(.row 1 (x44.map (AV.int .i64))), false⟩)]⟩) rfl ?_
      refine a_seq ?_
      refine a_region ?_
      refine a_val (v := (.osl 10)) (u := []) rfl trivial rfl ?_
      refine a_val (v := (.osl 10)) (u := []) rfl trivial rfl ?_
      refine a_val (v := (.int .i64 0)) (u := []) rfl trivial rfl ?_
      refine a_nil ?_
      refine a_next rfl ?_
      refine a_ret ?_
      refine ⟨.inr rfl, ?_⟩
      rw [Try.results33]
      cases h
      exact ⟨[some 10], ⟨_, _, _, _, _, rfl, trivial, rfl, .inr (.inl ⟨_, _, _, _, _, rfl, rfl, rfl, rfl, rfl, ⟨_, _, _, _, _, rfl, trivial, rfl, .inl ⟨rfl, .inl rfl, ⟨rfl, rfl, rfl⟩⟩⟩⟩)⟩, rfl, rfl⟩
    · have h := hy46
      refine a_seq ?_
      refine a_region ?_
      refine a_val (v := (.int .i64 a2)) (u := []) rfl trivial rfl ?_
      refine a_val (v := (.int .i64 (IntKind.i64.wrap (a2 - 1)))) (u := []) rfl trivial rfl ?_
      refine a_val (v := (.int .i64 (IntKind.i64.wrap (a2 - 1)))) (u := []) rfl trivial rfl ?_
      refine a_nil ?_
      refine a_next (σ' := ⟨[(9, (eSi64 r24)), (10, (.osl 10)), (11, (.int .i64 (IntKind.i64.wrap (a2 - 1))))], [(10, some ⟨(.row 1 (([]).map (AV.int .i64))), false⟩)]⟩) rfl ?_
      refine a_block ?_
      refine a_loop (emb := fun (s : (Int × (List Int))) => ⟨[(9, (eSi64 r24)), (10, (.osl 10)), (11, (.int .i64 s.1))], [(10, some ⟨(.row 1 (s.2.map (AV.int .i64))), false⟩)]⟩) (body := (fun s : (Int × (List Int)) => impl_DigitsOfRoot_fresh_l1 r24 s.1 s.2)) (G := fun q => some q = some y45) h rfl ?_ rfl
      rintro X58 ⟨x52, x53⟩ x59 h hX60
      have h : impl_DigitsOfRoot_fresh_l1 r24 x52 x53 = some x59 := h
      refine a_st (σ' := ⟨[(9, (eSi64 r24)), (10, (.osl 10)), (11, (.int .i64 x52))], [(10, some ⟨(.row 1 (x53.map (AV.int .i64))), false⟩)]⟩) rfl ?_
      refine a_seq ?_
      refine a_seq ?_
      refine a_region ?_
      refine a_val (v := (.int .i64 x52)) (u := []) rfl trivial rfl ?_
      refine a_val (v := (.bool ((decide (x52 ≥ 0))))) (u := []) rfl trivial rfl ?_
      refine a_nil ?_
      refine a_next (σ' := ⟨[(9, (eSi64 r24)), (10, (.osl 10)), (11, (.int .i64 x52)), (31, (.bool ((decide (x52 ≥ 0)))))], [(10, some ⟨(.row 1 (x53.map (AV.int .i64))), false⟩)]⟩) rfl ?_
      cases hb61 : (decide (x52 ≥ 0))
      · have h := ite_f hb61 h
        refine a_cond_f rfl ?_
        refine a_exit ?_
        refine t_exit ?_
        cases h
        have h := hX60
        refine t_exit ?_
        refine b_exit ?_
        exact j_leaf x53 (Option.some.inj h) rfl
      · have h := ite_t hb61 h
        refine a_cond_t rfl ?_
        refine a_skip ?_
        refine a_next (σ' := ⟨[(9, (eSi64 r24)), (10, (.osl 10)), (11, (.int .i64 x52))], [(10, some ⟨(.row 1 (x53.map (AV.int .i64))), false⟩)]⟩) rfl ?_
        refine a_seq ?_
        refine a_block ?_
        refine a_region ?_
        refine a_val (v := (.osl 10)) (u := []) rfl trivial rfl ?_
        refine a_val (v := (eSi64 r24)) (u := []) rfl trivial rfl ?_
        refine a_val (v := (.int .i64 x52)) (u := []) rfl trivial rfl ?_
        obtain ⟨hc62, h⟩ := ifp_some h
        refine a_val (v := (.ref (.row 1 (r24.map (AV.int .i64))) [x52.toNat] [x52.toNat * 1])) (u := []) rfl (lmap hc62) rfl ?_
        have hl63 : LdOk [x52.toNat] (.row 1 (r24.map (AV.int .i64))) [x52.toNat * 1] 1 false (.int .i64 (rd r24 x52.toNat)) := (.row (llt hc62) rfl (.nil rfl rfl rfl))
        refine a_val (v := (.int .i64 (rd r24 x52.toNat))) (u := []) (ld_ref (i := ⟨.int .i64, 1, 8, (.int .i64 0)⟩) rfl rfl hl63) hl63.c rfl ?_
        refine a_val (v := (.sl 1 true (([(rd r24 x52.toNat)]).map (AV.int .i64)))) (u := []) rfl ⟨(Nat.le_of_ble_eq_true rfl), (Nat.le_of_ble_eq_true rfl), (all_cons ⟨(Nat.le_of_ble_eq_true rfl), rfl⟩ all_nil)⟩ rfl ?_
        obtain ⟨hc64, h⟩ := ifp_some h
        refine a_val (v := (.osl 5000)) (u := [(5000, some ⟨(.row 1 (((x53 ++ ([(rd r24 x52.toNat)]))).map (AV.int .i64))), false⟩), (10, none)]) (app_run (i := ⟨.int .i64, 1, 8, (.int .i64 0)⟩) (f := (AV.int .i64)) (l := x53) (l2 := [(rd r24 x52.toNat)]) rfl rfl rfl rfl (fun _ => rfl) rfl rfl) (app_c (f := (AV.int .i64)) (s := 1) (sz := 1) (by' := 8) (u := []) (id := 10) hc64 (.inr rfl) rfl rfl rfl) rfl ?_
        refine a_val (v := (.osl 5000)) (u := []) rfl trivial rfl ?_
        refine a_nil ?_
        refine b_norm ?_
        refine a_next (σ' := ⟨[(9, (eSi64 r24)), (10, (.osl 10)), (11, (.int .i64 x52))], [(10, some ⟨(.row 1 (((x53 ++ ([(rd r24 x52.toNat)]))).map (AV.int .i64))), false⟩)]⟩) rfl ?_
        refine a_region ?_
        refine a_val (v := (.int .i64 x52)) (u := []) rfl trivial rfl ?_
        refine a_val (v := (.int .i64 (IntKind.i64.wrap (x52 - 1)))) (u := []) rfl trivial rfl ?_
        refine a_val (v := (.int .i64 (IntKind.i64.wrap (x52 - 1)))) (u := []) rfl trivial rfl ?_
        refine a_nil ?_
        cases h
        exact a_again rfl hX60
  · have h := ite_t hb11 h
    refine a_cond_t rfl ?_
    refine a_seq ?_
    refine a_region ?_
    refine a_val (v := (.int .i64 r9)) (u := []) rfl trivial rfl ?_
    refine a_val (v := (.osl 1600)) (u := [(1600, some ⟨(.row 1 (([]).map (AV.int .i64))), false⟩)]) rfl trivial rfl ?_
    refine a_val (v := (.int .i64 r9)) (u := []) rfl trivial rfl ?_
    refine a_nil ?_
    refine a_next rfl ?_
    refine a_ret ?_
    refine t_ret ?_
    refine ⟨.inr rfl, ?_⟩
    rw [Try.results33]
    cases h
    exact ⟨[some 1600], ⟨_, _, _, _, _, rfl, trivial, rfl, .inr (.inl ⟨_, _, _, _, _, rfl, rfl, rfl, rfl, rfl, ⟨_, _, _, _, _, rfl, trivial, rfl, .inl ⟨rfl, .inl rfl, ⟨rfl, rfl, rfl⟩⟩⟩⟩)⟩, rfl, rfl⟩
def laws_eqInt64S_c : ACode := (.seq (.region 0 [⟨some 4, .asg 0 (.const (.bool false)) 4, none, []⟩] false) (.seq (.seq (.region 1 [⟨some 6, .mov (.tmp 0), none, []⟩, ⟨some 7, .blt 0 .len [(.tmp 6)] [45], none, []⟩, ⟨some 8, .mov (.tmp 1), none, []⟩, ⟨some 9, .blt 0 .len [(.tmp 8)] [45], none, []⟩, ⟨some 10, .bin .neq 3 (.tmp 7) (.tmp 9), none, []⟩] false) (.cond (.tmp 10) (.seq (.region 2 [⟨some 4, .asg 0 (.const (.bool false)) 4, none, []⟩] false) .ret) .skip)) (.seq (.seq (.region 3 [⟨some 5, .asg 0 (.const (.int .i64 0)) 3, none, []⟩] false) (.block 0 (.loop (.seq (.seq (.region 4 [⟨some 11, .mov (.tmp 5), none, []⟩, ⟨some 12, .mov (.tmp 0), none, []⟩, ⟨some 13, .blt 0 .len [(.tmp 12)] [45], none, []⟩, ⟨some 14, .bin .lss 3 (.tmp 11) (.tmp 13), none, []⟩] false) (.cond (.tmp 14) .skip (.exit 0))) (.seq (.block 1 (.seq (.region 6 [⟨some 17, .mov (.tmp 0), none, []⟩, ⟨some 18, .mov (.tmp 5), none, []⟩, ⟨some 19, .indexAddr 45 (.tmp 17) (.tmp 18), none, [0, 1]⟩, ⟨some 20, .load 2 (.tmp 19), none, [2]⟩, ⟨some 21, .mov (.tmp 1), none, []⟩, ⟨some 22, .mov (.tmp 5), none, []⟩, ⟨some 23, .indexAddr 45 (.tmp 21) (.tmp 22), none, [4, 5]⟩, ⟨some 24, .load 2 (.tmp 23), none, [6]⟩, ⟨some 25, .bin .neq 2 (.tmp 20) (.tmp 24), none, [3, 7]⟩] true) (.cond (.tmp 25) (.seq (.region 7 [⟨some 4, .asg 0 (.const (.bool false)) 4, none, []⟩] false) .ret) .skip))) (.region 5 [⟨some 15, .mov (.tmp 5), none, []⟩, ⟨some 16, .bin .add 3 (.tmp 15) (.const (.int .i64 1)), none, []⟩, ⟨some 5, .asg 0 (.tmp 16) 3, none, []⟩] false)))))) (.seq (.region 8 [⟨some 4, .asg 0 (.const (.bool true)) 4, none, []⟩] false) .ret))))
def laws_eqInt64S_L : Live := [(0, [0, 1]), (1, [0, 1]), (2, []), (3, [0, 1]), (4, [0, 1, 5]), (5, [0, 1, 5]), (6, [0, 1, 5]), (7, []), (8, []), (100010, [0, 1, 10]), (100014, [0, 1, 5, 14]), (100025, [0, 1, 5, 25])]
theorem laws_eqInt64S_body : Try.f34.body = some (Try.f34.body.getD .skip) := by kernel_rfl
theorem laws_eqInt64S_strip : strip [] (Try.f34.body.getD .skip) = laws_eqInt64S_c := by kernel_rfl
noncomputable def laws_eqInt64S_l1 (a0 : (List Int)) (a1 : (List Int)) (x50 : Int) : Option (Int ⊕ (Unit ⊕ Bool)) :=
  (if (decide (x50 < (a0.length : Int))) then (ifp (0 ≤ x50 ∧ x50 < ((a0.length : Nat) : Int)) ((ifp (0 ≤ x50 ∧ x50 < ((a1.length : Nat) : Int)) ((if ((rd a0 x50.toNat) != (rd a1 x50.toNat)) then (some (.inr (.inr false))) else (some (.inl (IntKind.i64.wrap (x50 + 1))))))))) else (some (.inr (((.inl ()))))))
noncomputable def laws_eqInt64S (a0 : (List Int)) (a1 : (List Int)) : Option Bool :=
  (if ((a0.length : Int) != (a1.length : Int)) then (some false) else (Option.bind (α := (Unit ⊕ Bool)) ((loopM (fun s : Int => laws_eqInt64S_l1 a0 a1 s) 0)) fun z => match z with | .inl _ => (some true) | .inr r75 => (some r75)))
set_option maxHeartbeats 16000000 in
theorem laws_eqInt64S_ok (a0 : (List Int)) (a1 : (List Int)) (r : Bool) (h : laws_eqInt64S a0 a1 = some r) : Den Try.prog 34 [(eSi64 a0), (eSi64 a1)] { r := (.bool r) } := by
  refine den_of (rs := [(.bool r)]) (ac := laws_eqInt64S_c) (L := laws_eqInt64S_L) (n := 26) (m := []) good Try.func34 laws_eqInt64S_body (by kernel_rfl) Try.ntmps34 rfl rfl laws_eqInt64S_strip rfl rfl ?_
  refine a_st (σ' := ⟨[(0, (eSi64 a0)), (1, (eSi64 a1))], []⟩) rfl ?_
  unfold laws_eqInt64S_c
  refine a_seq ?_
  refine a_region ?_
  refine a_val (v := (.bool false)) (u := []) rfl trivial rfl ?_
  refine a_nil ?_
  refine a_next (σ' := ⟨[(0, (eSi64 a0)), (1, (eSi64 a1))], []⟩) rfl ?_
  refine a_seq ?_
  refine a_seq ?_
  refine a_region ?_
  refine a_val (v := (eSi64 a0)) (u := []) rfl trivial rfl ?_
  refine a_val (v := (.int .i64 (a0.length : Int))) (u := []) (len_run rfl rfl) trivial rfl ?_
  refine a_val (v := (eSi64 a1)) (u := []) rfl trivial rfl ?_
  refine a_val (v := (.int .i64 (a1.length : Int))) (u := []) (len_run rfl rfl) trivial rfl ?_
  refine a_val (v := (.bool (((a0.length : Int) != (a1.length : Int))))) (u := []) rfl trivial rfl ?_
  refine a_nil ?_
  refine a_next (σ' := ⟨[(0, (eSi64 a0)), (1, (eSi64 a1)), (10, (.bool (((a0.length : Int) != (a1.length : Int)))))], []⟩) rfl ?_
  cases hb1 : ((a0.length : Int) != (a1.length : Int))
  · have h := ite_f hb1 h
    refine a_cond_f rfl ?_
    refine a_skip ?_
    refine a_next (σ' := ⟨[(0, (eSi64 a0)), (1, (eSi64 a1))], []⟩) rfl ?_
    obtain ⟨y37, hy38, hk39⟩ := bind_some h
    clear h
    refine a_join (emb := fun (s : Unit) => ⟨[], []⟩) (pre := fun s => (.inl s) = y37) ?_ ?_
    · rintro _ rfl
      have h := hk39
      refine a_st (σ' := ⟨[], []⟩) rfl ?_
      refine a_seq ?_
      refine a_region ?_
      refine a_val (v := (.bool true)) (u := []) rfl trivial rfl ?_
      refine a_nil ?_
      refine a_next rfl ?_
      refine a_ret ?_
      refine ⟨.inr rfl, ?_⟩
      rw [Try.results34]
      cases h
      exact ⟨_, _, _, _, _, rfl, trivial, .inl ⟨rfl, .inl rfl⟩, rfl, rfl⟩
    · have h := hy38
      refine a_seq ?_
      refine a_region ?_
      refine a_val (v := (.int .i64 0)) (u := []) rfl trivial rfl ?_
      refine a_nil ?_
      refine a_next (σ' := ⟨[(0, (eSi64 a0)), (1, (eSi64 a1)), (5, (.int .i64 0))], []⟩) rfl ?_
      refine a_block ?_
      refine a_loop (emb := fun (s : Int) => ⟨[(0, (eSi64 a0)), (1, (eSi64 a1)), (5, (.int .i64 s))], []⟩) (body := (fun s : Int => laws_eqInt64S_l1 a0 a1 s)) (G := fun q => some q = some y37) h rfl ?_ rfl
      rintro X61 x50 x62 h hX63
      have h : laws_eqInt64S_l1 a0 a1 x50 = some x62 := h
      refine a_st (σ' := ⟨[(0, (eSi64 a0)), (1, (eSi64 a1)), (5, (.int .i64 x50))], []⟩) rfl ?_
      refine a_seq ?_
      refine a_seq ?_
      refine a_region ?_
      refine a_val (v := (.int .i64 x50)) (u := []) rfl trivial rfl ?_
      refine a_val (v := (eSi64 a0)) (u := []) rfl trivial rfl ?_
      refine a_val (v := (.int .i64 (a0.length : Int))) (u := []) (len_run rfl rfl) trivial rfl ?_
      refine a_val (v := (.bool ((decide (x50 < (a0.length : Int)))))) (u := []) rfl trivial rfl ?_
      refine a_nil ?_
      refine a_next (σ' := ⟨[(0, (eSi64 a0)), (1, (eSi64 a1)), (5, (.int .i64 x50)), (14, (.bool ((decide (x50 < (a0.length : Int))))))], []⟩) rfl ?_
      cases hb64 : (decide (x50 < (a0.length : Int)))
      · have h := ite_f hb64 h
        refine a_cond_f rfl ?_
        refine a_exit ?_
        refine t_exit ?_
        cases h
        have h := hX63
        refine t_exit ?_
        refine b_exit ?_
        exact j_leaf () (Option.some.inj h) rfl
      · have h := ite_t hb64 h
        refine a_cond_t rfl ?_
        refine a_skip ?_
        refine a_next (σ' := ⟨[(0, (eSi64 a0)), (1, (eSi64 a1)), (5, (.int .i64 x50))], []⟩) rfl ?_
        refine a_seq ?_
        refine a_block ?_
        refine a_seq ?_
        refine a_draw [⟨[], [], [], []⟩, ⟨[], [], [], []⟩, ⟨[], [], [], [0, 1]⟩, ⟨[], [], [], [0, 1, 2]⟩, ⟨[], [], [], []⟩, ⟨[], [], [], []⟩, ⟨[], [], [], [4, 5]⟩, ⟨[], [], [], [4, 5, 6]⟩, ⟨[], [], [], [0, 1, 2, 3, 4, 5, 6, 7]⟩] (by kernel_rfl) ?_
        refine d_cons ?_
        refine a_val (v := (eSi64 a0)) (u := []) rfl trivial rfl ?_
        refine d_next rfl ?_
        refine d_cons ?_
        refine a_val (v := (.int .i64 x50)) (u := []) rfl trivial rfl ?_
        refine d_next rfl ?_
        refine d_cons ?_
        obtain ⟨hc69, h⟩ := ifp_some h
        refine a_val (v := (.ref (.row 1 (a0.map (AV.int .i64))) [x50.toNat] [x50.toNat * 1])) (u := []) rfl (lmap hc69) rfl ?_
        refine d_next rfl ?_
        refine d_cons ?_
        have hl70 : LdOk [x50.toNat] (.row 1 (a0.map (AV.int .i64))) [x50.toNat * 1] 1 false (.int .i64 (rd a0 x50.toNat)) := (.row (llt hc69) rfl (.nil rfl rfl rfl))
        refine a_val (v := (.int .i64 (rd a0 x50.toNat))) (u := []) (ld_ref (i := ⟨.int .i64, 1, 8, (.int .i64 0)⟩) rfl rfl hl70) hl70.c rfl ?_
        refine d_next rfl ?_
        refine d_cons ?_
        refine a_val (v := (eSi64 a1)) (u := []) rfl trivial rfl ?_
        refine d_next rfl ?_
        refine d_cons ?_
        refine a_val (v := (.int .i64 x50)) (u := []) rfl trivial rfl ?_
        refine d_next rfl ?_
        refine d_cons ?_
        obtain ⟨hc71, h⟩ := ifp_some h
        refine a_val (v := (.ref (.row 1 (a1.map (AV.int .i64))) [x50.toNat] [x50.toNat * 1])) (u := []) rfl (lmap hc71) rfl ?_
        refine d_next rfl ?_
        refine d_cons ?_
        have hl72 : LdOk [x50.toNat] (.row 1 (a1.map (AV.int .i64))) [x50.toNat * 1] 1 false (.int .i64 (rd a1 x50.toNat)) := (.row (llt hc71) rfl (.nil rfl rfl rfl))
        refine a_val (v := (.int .i64 (rd a1 x50.toNat))) (u := []) (ld_ref (i := ⟨.int .i64, 1, 8, (.int .i64 0)⟩) rfl rfl hl72) hl72.c rfl ?_
        refine d_next rfl ?_
        refine d_cons ?_
        refine a_val (v := (.bool (((rd a0 x50.toNat) != (rd a1 x50.toNat))))) (u := []) rfl trivial rfl ?_
        refine d_next rfl ?_
        refine d_nil ?_
        refine a_next (σ' := ⟨[(0, (eSi64 a0)), (1, (eSi64 a1)), (5, (.int .i64 x50)), (25, (.bool (((rd a0 x50.toNat) != (rd a1 x50.toNat)))))], []⟩) rfl ?_
        cases hb73 : ((rd a0 x50.toNat) != (rd a1 x50.toNat))
        · have h := ite_f hb73 h
          refine a_cond_f rfl ?_
          refine a_skip ?_
          refine b_norm ?_
          refine a_next (σ' := ⟨[(0, (eSi64 a0)), (1, (eSi64 a1)), (5, (.int .i64 x50))], []⟩) rfl ?_
          refine a_region ?_
          refine a_val (v := (.int .i64 x50)) (u := []) rfl trivial rfl ?_
          refine a_val (v := (.int .i64 (IntKind.i64.wrap (x50 + 1)))) (u := []) rfl trivial rfl ?_
          refine a_val (v := (.int .i64 (IntKind.i64.wrap (x50 + 1)))) (u := []) rfl trivial rfl ?_
          refine a_nil ?_
          cases h
          exact a_again rfl hX63
        · have h := ite_t hb73 h
          refine a_cond_t rfl ?_
          refine a_seq ?_
          refine a_region ?_
          refine a_val (v := (.bool false)) (u := []) rfl trivial rfl ?_
          refine a_nil ?_
          refine a_next rfl ?_
          refine a_ret ?_
          refine b_ret ?_
          refine t_ret ?_
          cases h
          have h := hX63
          refine t_ret ?_
          refine b_ret ?_
          refine t_ret ?_
          cases h
          have h := hk39
          refine ⟨.inr rfl, ?_⟩
          rw [Try.results34]
          cases h
          exact ⟨_, _, _, _, _, rfl, trivial, .inl ⟨rfl, .inl rfl⟩, rfl, rfl⟩
  · have h := ite_t hb1 h
    refine a_cond_t rfl ?_
    refine a_seq ?_
    refine a_region ?_
    refine a_val (v := (.bool false)) (u := []) rfl trivial rfl ?_
    refine a_nil ?_
    refine a_next rfl ?_
    refine a_ret ?_
    refine t_ret ?_
    refine ⟨.inr rfl, ?_⟩
    rw [Try.results34]
    cases h
    exact ⟨_, _, _, _, _, rfl, trivial, .inl ⟨rfl, .inl rfl⟩, rfl, rfl⟩
def laws_markInt64S_of_mut_c : ACode := (.seq (.region 0 [⟨some 4, .asg 0 (.const (.int .i64 0)) 3, none, []⟩] false) (.seq (.seq (.region 1 [⟨some 5, .asg 0 (.const (.int .i64 0)) 3, none, []⟩] false) (.block 0 (.loop (.seq (.seq (.region 2 [⟨some 6, .mov (.tmp 5), none, []⟩, ⟨some 7, .mov (.tmp 0), none, []⟩, ⟨some 8, .blt 0 .len [(.tmp 7)] [45], none, []⟩, ⟨some 9, .bin .lss 3 (.tmp 6) (.tmp 8), none, []⟩] false) (.cond (.tmp 9) .skip (.exit 0))) (.seq (.block 1 (.seq (.region 4 [⟨some 12, .mov (.tmp 0), none, []⟩, ⟨some 13, .mov (.tmp 5), none, []⟩, ⟨some 14, .mov (.tmp 1), none, []⟩, ⟨some 15, .indexAddr 45 (.tmp 12) (.tmp 13), none, []⟩, ⟨none, .store 2 (.tmp 15) (.tmp 14), none, []⟩] false) (.region 5 [⟨some 16, .mov (.tmp 1), none, []⟩, ⟨some 17, .bin .add 3 (.tmp 16) (.const (.int .i64 1)), none, []⟩, ⟨some 1, .asg 0 (.tmp 17) 3, none, []⟩] false))) (.region 3 [⟨some 10, .mov (.tmp 5), none, []⟩, ⟨some 11, .bin .add 3 (.tmp 10) (.const (.int .i64 1)), none, []⟩, ⟨some 5, .asg 0 (.tmp 11) 3, none, []⟩] false)))))) (.seq (.region 6 [⟨some 18, .mov (.tmp 1), none, []⟩, ⟨some 4, .asg 0 (.tmp 18) 3, none, []⟩] false) .ret)))
def laws_markInt64S_of_mut_L : Live := [(0, [0, 1]), (1, [0, 1]), (2, [0, 1, 5]), (3, [0, 1, 5]), (4, [0, 1, 5]), (5, [0, 1, 5]), (6, [1]), (100009, [0, 1, 5, 9])]
theorem laws_markInt64S_of_mut_body : Try.f35.body = some (Try.f35.body.getD .skip) := by kernel_rfl
theorem laws_markInt64S_of_mut_strip : strip [] (Try.f35.body.getD .skip) = laws_markInt64S_of_mut_c := by kernel_rfl
noncomputable def laws_markInt64S_of_mut_l1  (x25 : Int) (x26 : Int) (x27 : (List Int)) : Option ((Int × Int × (List Int)) ⊕ (Int × (List Int))) :=
  (if (decide (x26 < (x27.length : Int))) then (ifp (0 ≤ x26 ∧ x26 < ((x27.length : Nat) : Int)) ((some (.inl ((IntKind.i64.wrap (x25 + 1), IntKind.i64.wrap (x26 + 1), (x27.set x26.toNat x25))))))) else (some (.inr (x25, x27))))
noncomputable def laws_markInt64S_of_mut (a0 : (List Int)) (a1 : Int) : Option (Int × (List Int)) :=
  (Option.bind (α := (Int × (List Int))) ((loopM (fun s : (Int × Int × (List Int)) => laws_markInt64S_of_mut_l1 s.1 s.2.1 s.2.2) (a1, 0, a0))) fun ⟨x17, x18⟩ => (some (x17, x18)))
set_option maxHeartbeats 16000000 in
theorem laws_markInt64S_of_mut_ok (a0 : (List Int)) (a1 : Int) (r : (Int × (List Int))) (h : laws_markInt64S_of_mut a0 a1 = some r) : Den Try.prog 35 [(.mutsl 1 (a0.map (AV.int .i64))), (.int .i64 a1)] { r := (.int .i64 r.1), ms := [(.row 1 (r.2.map (AV.int .i64)))], fs := [] } := by
  refine den_ofX (rs := [(.int .i64 r.1)]) (ac := laws_markInt64S_of_mut_c) (L := laws_markInt64S_of_mut_L) (n := 19) (m := []) good Try.func35 laws_markInt64S_of_mut_body (by kernel_rfl) Try.ntmps35 rfl rfl laws_markInt64S_of_mut_strip rfl ?_
  refine a_st (σ' := ⟨[(0, (.osl 1000000)), (1, (.int .i64 a1))], [(1000000, some ⟨(.row 1 (a0.map (AV.int .i64))), false⟩)]⟩) rfl ?_
  unfold laws_markInt64S_of_mut_c
  refine a_seq ?_
  refine a_region ?_
  refine a_val (v := (.int .i64 0)) (u := []) rfl trivial rfl ?_
  refine a_nil ?_
  refine a_next (σ' := ⟨[(0, (.osl 1000000)), (1, (.int .i64 a1))], [(1000000, some ⟨(.row 1 (a0.map (AV.int .i64))), false⟩)]⟩) rfl ?_
  obtain ⟨y19, hy20, hk21⟩ := bind_some h
  clear h
  refine a_join (emb := fun (s : (Int × (List Int))) => ⟨[(1, (.int .i64 s.1))], [(1000000, some ⟨(.row 1 (s.2.map (AV.int .i64))), false⟩)]⟩) (pre := fun s => s = y19) ?_ ?_
  · rintro ⟨x17, x18⟩ rfl
    have h := hk21
    refine a_st (σ' := ⟨[(1, (.int .i64 x17))], [(1000000, some ⟨(.row 1 (x18.map (AV.int .i64))), false⟩)]⟩) rfl ?_
    refine a_seq ?_
    refine a_region ?_
    refine a_val (v := (.int .i64 x17)) (u := []) rfl trivial rfl ?_
    refine a_val (v := (.int .i64 x17)) (u := []) rfl trivial rfl ?_
    refine a_nil ?_
    refine a_next rfl ?_
    refine a_ret ?_
    refine ⟨.inr rfl, ?_⟩
    rw [Try.results35]
    cases h
    exact ⟨[], ⟨_, _, _, _, _, rfl, trivial, rfl, .inl ⟨rfl, .inl rfl, ⟨rfl, rfl, rfl⟩⟩⟩, rfl, ⟨_, _, rfl, rfl, rfl⟩⟩
  · have h := hy20
    refine a_seq ?_
    refine a_region ?_
    refine a_val (v := (.int .i64 0)) (u := []) rfl trivial rfl ?_
    refine a_nil ?_
    refine a_next (σ' := ⟨[(0, (.osl 1000000)), (1, (.int .i64 a1)), (5, (.int .i64 0))], [(1000000, some ⟨(.row 1 (a0.map (AV.int .i64))), false⟩)]⟩) rfl ?_
    refine a_block ?_
    refine a_loop (emb := fun (s : (Int × Int × (List Int))) => ⟨[(0, (.osl 1000000)), (1, (.int .i64 s.1)), (5, (.int .i64 s.2.1))], [(1000000, some ⟨(.row 1 (s.2.2.map (AV.int .i64))), false⟩)]⟩) (body := (fun s : (Int × Int × (List Int)) => laws_markInt64S_of_mut_l1 s.1 s.2.1 s.2.2)) (G := fun q => some q = some y19) h rfl ?_ rfl
    rintro X31 ⟨x25, x26, x27⟩ x32 h hX33
    have h : laws_markInt64S_of_mut_l1 x25 x26 x27 = some x32 := h
    refine a_st (σ' := ⟨[(0, (.osl 1000000)), (1, (.int .i64 x25)), (5, (.int .i64 x26))], [(1000000, some ⟨(.row 1 (x27.map (AV.int .i64))), false⟩)]⟩) rfl ?_
    refine a_seq ?_
    refine a_seq ?_
    refine a_region ?_
    refine a_val (v := (.int .i64 x26)) (u := []) rfl trivial rfl ?_
    refine a_val (v := (.osl 1000000)) (u := []) rfl trivial rfl ?_
    refine a_val (v := (.int .i64 (x27.length : Int))) (u := []) (leno_run rfl rfl rfl) trivial rfl ?_
    refine a_val (v := (.bool ((decide (x26 < (x27.length : Int)))))) (u := []) rfl trivial rfl ?_
    refine a_nil ?_
    refine a_next (σ' := ⟨[(0, (.osl 1000000)), (1, (.int .i64 x25)), (5, (.int .i64 x26)), (9, (.bool ((decide (x26 < (x27.length : Int))))))], [(1000000, some ⟨(.row 1 (x27.map (AV.int .i64))), false⟩)]⟩) rfl ?_
    cases hb34 : (decide (x26 < (x27.length : Int)))
    · have h := ite_f hb34 h
      refine a_cond_f rfl ?_
      refine a_exit ?_
      refine t_exit ?_
      cases h
      have h := hX33
      refine t_exit ?_
      refine b_exit ?_
      exact j_leaf (x25, x27) (Option.some.inj h) rfl
    · have h := ite_t hb34 h
      refine a_cond_t rfl ?_
      refine a_skip ?_
      refine a_next (σ' := ⟨[(0, (.osl 1000000)), (1, (.int .i64 x25)), (5, (.int .i64 x26))], [(1000000, some ⟨(.row 1 (x27.map (AV.int .i64))), false⟩)]⟩) rfl ?_
      refine a_seq ?_
      refine a_block ?_
      refine a_seq ?_
      refine a_region ?_
      refine a_val (v := (.osl 1000000)) (u := []) rfl trivial rfl ?_
      refine a_val (v := (.int .i64 x26)) (u := []) rfl trivial rfl ?_
      refine a_val (v := (.int .i64 x25)) (u := []) rfl trivial rfl ?_
      obtain ⟨hc35, h⟩ := ifp_some h
      refine a_val (v := (.own 1000000 [x26.toNat] [x26.toNat * 1])) (u := []) rfl (lmap hc35) rfl ?_
      have hs36 : StOk [x26.toNat] (.row 1 (x27.map (AV.int .i64))) [x26.toNat * 1] 1 (.int .i64 x25) (.row 1 ((x27.set x26.toNat x25).map (AV.int .i64))) := (.row (y := x25) (llt hc35) rfl (.nil rfl rfl rfl rfl))
      refine a_val (v := .top) (u := [(1000000, some ⟨(.row 1 ((x27.set x26.toNat x25).map (AV.int .i64))), false⟩)]) (st_own (i := ⟨.int .i64, 1, 8, (.int .i64 0)⟩) rfl rfl (fun _ => rfl) rfl hs36) (hs36.c rfl) rfl ?_
      refine a_nil ?_
      refine a_next (σ' := ⟨[(0, (.osl 1000000)), (1, (.int .i64 x25)), (5, (.int .i64 x26))], [(1000000, some ⟨(.row 1 ((x27.set x26.toNat x25).map (AV.int .i64))), false⟩)]⟩) rfl ?_
      refine a_region ?_
      refine a_val (v := (.int .i64 x25)) (u := []) rfl trivial rfl ?_
      refine a_val (v := (.int .i64 (IntKind.i64.wrap (x25 + 1)))) (u := []) rfl trivial rfl ?_
      refine a_val (v := (.int .i64 (IntKind.i64.wrap (x25 + 1)))) (u := []) rfl trivial rfl ?_
      refine a_nil ?_
      refine b_norm ?_
      refine a_next (σ' := ⟨[(0, (.osl 1000000)), (1, (.int .i64 (IntKind.i64.wrap (x25 + 1)))), (5, (.int .i64 x26))], [(1000000, some ⟨(.row 1 ((x27.set x26.toNat x25).map (AV.int .i64))), false⟩)]⟩) rfl ?_
      refine a_region ?_
      refine a_val (v := (.int .i64 x26)) (u := []) rfl trivial rfl ?_
      refine a_val (v := (.int .i64 (IntKind.i64.wrap (x26 + 1)))) (u := []) rfl trivial rfl ?_
      refine a_val (v := (.int .i64 (IntKind.i64.wrap (x26 + 1)))) (u := []) rfl trivial rfl ?_
      refine a_nil ?_
      cases h
      exact a_again rfl hX33
def laws_heldInt64S_c : ACode := (.seq (.region 0 [⟨some 4, .asg 0 (.const (.int .i64 0)) 3, none, []⟩] false) (.seq (.seq (.region 1 [⟨some 5, .asg 0 (.const (.int .i64 0)) 3, none, []⟩] false) (.block 0 (.loop (.seq (.seq (.region 2 [⟨some 6, .mov (.tmp 5), none, []⟩, ⟨some 7, .mov (.tmp 0), none, []⟩, ⟨some 8, .blt 0 .len [(.tmp 7)] [45], none, []⟩, ⟨some 9, .bin .lss 3 (.tmp 6) (.tmp 8), none, []⟩] false) (.cond (.tmp 9) .skip (.exit 0))) (.seq (.block 1 (.seq (.seq (.region 4 [⟨some 12, .mov (.tmp 0), none, []⟩, ⟨some 13, .mov (.tmp 5), none, []⟩, ⟨some 14, .indexAddr 45 (.tmp 12) (.tmp 13), none, []⟩, ⟨some 15, .load 2 (.tmp 14), none, []⟩, ⟨some 16, .mov (.tmp 1), none, []⟩, ⟨some 17, .bin .neq 2 (.tmp 15) (.tmp 16), none, []⟩] false) (.cond (.tmp 17) (.seq (.region 5 [⟨some 4, .asg 0 (.const (.int .i64 (-1))) 3, none, []⟩] false) .ret) .skip)) (.region 6 [⟨some 18, .mov (.tmp 1), none, []⟩, ⟨some 19, .bin .add 3 (.tmp 18) (.const (.int .i64 1)), none, []⟩, ⟨some 1, .asg 0 (.tmp 19) 3, none, []⟩] false))) (.region 3 [⟨some 10, .mov (.tmp 5), none, []⟩, ⟨some 11, .bin .add 3 (.tmp 10) (.const (.int .i64 1)), none, []⟩, ⟨some 5, .asg 0 (.tmp 11) 3, none, []⟩] false)))))) (.seq (.region 7 [⟨some 20, .mov (.tmp 1), none, []⟩, ⟨some 4, .asg 0 (.tmp 20) 3, none, []⟩] false) .ret)))
def laws_heldInt64S_L : Live := [(0, [0, 1]), (1, [0, 1]), (2, [0, 1, 5]), (3, [0, 1, 5]), (4, [0, 1, 5]), (5, []), (6, [0, 1, 5]), (7, [1]), (100009, [0, 1, 5, 9]), (100017, [0, 1, 5, 17])]
theorem laws_heldInt64S_body : Try.f36.body = some (Try.f36.body.getD .skip) := by kernel_rfl
theorem laws_heldInt64S_strip : strip [] (Try.f36.body.getD .skip) = laws_heldInt64S_c := by kernel_rfl
noncomputable def laws_heldInt64S_l1 (a0 : (List Int)) (x27 : Int) (x28 : Int) : Option ((Int × Int) ⊕ (Int ⊕ Int)) :=
  (if (decide (x28 < (a0.length : Int))) then (ifp (0 ≤ x28 ∧ x28 < ((a0.length : Nat) : Int)) ((if ((rd a0 x28.toNat) != x27) then (some (.inr ((.inr (-1))))) else (some (.inl ((IntKind.i64.wrap (x27 + 1), IntKind.i64.wrap (x28 + 1)))))))) else (some (.inr (.inl x27))))
noncomputable def laws_heldInt64S (a0 : (List Int)) (a1 : Int) : Option Int :=
  (Option.bind (α := (Int ⊕ Int)) ((loopM (fun s : (Int × Int) => laws_heldInt64S_l1 a0 s.1 s.2) (a1, 0))) fun z => match z with | .inl x19 => (some x19) | .inr r41 => (some r41))
set_option maxHeartbeats 16000000 in
theorem laws_heldInt64S_ok (a0 : (List Int)) (a1 : Int) (r : Int) (h : laws_heldInt64S a0 a1 = some r) : Den Try.prog 36 [(eSi64 a0), (.int .i64 a1)] { r := (.int .i64 r) } := by
  refine den_of (rs := [(.int .i64 r)]) (ac := laws_heldInt64S_c) (L := laws_heldInt64S_L) (n := 21) (m := []) good Try.func36 laws_heldInt64S_body (by kernel_rfl) Try.ntmps36 rfl rfl laws_heldInt64S_strip rfl rfl ?_
  refine a_st (σ' := ⟨[(0, (eSi64 a0)), (1, (.int .i64 a1))], []⟩) rfl ?_
  unfold laws_heldInt64S_c
  refine a_seq ?_
  refine a_region ?_
  refine a_val (v := (.int .i64 0)) (u := []) rfl trivial rfl ?_
  refine a_nil ?_
  refine a_next (σ' := ⟨[(0, (eSi64 a0)), (1, (.int .i64 a1))], []⟩) rfl ?_
  obtain ⟨y20, hy21, hk22⟩ := bind_some h
  clear h
  refine a_join (emb := fun (s : Int) => ⟨[(1, (.int .i64 s))], []⟩) (pre := fun s => (.inl s) = y20) ?_ ?_
  · rintro x19 rfl
    have h := hk22
    refine a_st (σ' := ⟨[(1, (.int .i64 x19))], []⟩) rfl ?_
    refine a_seq ?_
    refine a_region ?_
    refine a_val (v := (.int .i64 x19)) (u := []) rfl trivial rfl ?_
    refine a_val (v := (.int .i64 x19)) (u := []) rfl trivial rfl ?_
    refine a_nil ?_
    refine a_next rfl ?_
    refine a_ret ?_
    refine ⟨.inr rfl, ?_⟩
    rw [Try.results36]
    cases h
    exact ⟨_, _, _, _, _, rfl, trivial, .inl ⟨rfl, .inl rfl⟩, rfl, rfl⟩
  · have h := hy21
    refine a_seq ?_
    refine a_region ?_
    refine a_val (v := (.int .i64 0)) (u := []) rfl trivial rfl ?_
    refine a_nil ?_
    refine a_next (σ' := ⟨[(0, (eSi64 a0)), (1, (.int .i64 a1)), (5, (.int .i64 0))], []⟩) rfl ?_
    refine a_block ?_
    refine a_loop (emb := fun (s : (Int × Int)) => ⟨[(0, (eSi64 a0)), (1, (.int .i64 s.1)), (5, (.int .i64 s.2))], []⟩) (body := (fun s : (Int × Int) => laws_heldInt64S_l1 a0 s.1 s.2)) (G := fun q => some q = some y20) h rfl ?_ rfl
    rintro X33 ⟨x27, x28⟩ x34 h hX35
    have h : laws_heldInt64S_l1 a0 x27 x28 = some x34 := h
    refine a_st (σ' := ⟨[(0, (eSi64 a0)), (1, (.int .i64 x27)), (5, (.int .i64 x28))], []⟩) rfl ?_
    refine a_seq ?_
    refine a_seq ?_
    refine a_region ?_
    refine a_val (v := (.int .i64 x28)) (u := []) rfl trivial rfl ?_
    refine a_val (v := (eSi64 a0)) (u := []) rfl trivial rfl ?_
    refine a_val (v := (.int .i64 (a0.length : Int))) (u := []) (len_run rfl rfl) trivial rfl ?_
    refine a_val (v := (.bool ((decide (x28 < (a0.length : Int)))))) (u := []) rfl trivial rfl ?_
    refine a_nil ?_
    refine a_next (σ' := ⟨[(0, (eSi64 a0)), (1, (.int .i64 x27)), (5, (.int .i64 x28)), (9, (.bool ((decide (x28 < (a0.length : Int))))))], []⟩) rfl ?_
    cases hb36 : (decide (x28 < (a0.length : Int)))
    · have h := ite_f hb36 h
      refine a_cond_f rfl ?_
      refine a_exit ?_
      refine t_exit ?_
      cases h
      have h := hX35
      refine t_exit ?_
      refine b_exit ?_
      exact j_leaf x27 (Option.some.inj h) rfl
    · have h := ite_t hb36 h
      refine a_cond_t rfl ?_
      refine a_skip ?_
      refine a_next (σ' := ⟨[(0, (eSi64 a0)), (1, (.int .i64 x27)), (5, (.int .i64 x28))], []⟩) rfl ?_
      refine a_seq ?_
      refine a_block ?_
      refine a_seq ?_
      refine a_seq ?_
      refine a_region ?_
      refine a_val (v := (eSi64 a0)) (u := []) rfl trivial rfl ?_
      refine a_val (v := (.int .i64 x28)) (u := []) rfl trivial rfl ?_
      obtain ⟨hc37, h⟩ := ifp_some h
      refine a_val (v := (.ref (.row 1 (a0.map (AV.int .i64))) [x28.toNat] [x28.toNat * 1])) (u := []) rfl (lmap hc37) rfl ?_
      have hl38 : LdOk [x28.toNat] (.row 1 (a0.map (AV.int .i64))) [x28.toNat * 1] 1 false (.int .i64 (rd a0 x28.toNat)) := (.row (llt hc37) rfl (.nil rfl rfl rfl))
      refine a_val (v := (.int .i64 (rd a0 x28.toNat))) (u := []) (ld_ref (i := ⟨.int .i64, 1, 8, (.int .i64 0)⟩) rfl rfl hl38) hl38.c rfl ?_
      refine a_val (v := (.int .i64 x27)) (u := []) rfl trivial rfl ?_
      refine a_val (v := (.bool (((rd a0 x28.toNat) != x27)))) (u := []) rfl trivial rfl ?_
      refine a_nil ?_
      refine a_next (σ' := ⟨[(0, (eSi64 a0)), (1, (.int .i64 x27)), (5, (.int .i64 x28)), (17, (.bool (((rd a0 x28.toNat) != x27))))], []⟩) rfl ?_
      cases hb39 : ((rd a0 x28.toNat) != x27)
      · have h := ite_f hb39 h
        refine a_cond_f rfl ?_
        refine a_skip ?_
        refine a_next (σ' := ⟨[(0, (eSi64 a0)), (1, (.int .i64 x27)), (5, (.int .i64 x28))], []⟩) rfl ?_
        refine a_region ?_
        refine a_val (v := (.int .i64 x27)) (u := []) rfl trivial rfl ?_
        refine a_val (v := (.int .i64 (IntKind.i64.wrap (x27 + 1)))) (u := []) rfl trivial rfl ?_
        refine a_val (v := (.int .i64 (IntKind.i64.wrap (x27 + 1)))) (u := []) rfl trivial rfl ?_
        refine a_nil ?_
        refine b_norm ?_
        refine a_next (σ' := ⟨[(0, (eSi64 a0)), (1, (.int .i64 (IntKind.i64.wrap (x27 + 1)))), (5, (.int .i64 x28))], []⟩) rfl ?_
        refine a_region ?_
        refine a_val (v := (.int .i64 x28)) (u := []) rfl trivial rfl ?_
        refine a_val (v := (.int .i64 (IntKind.i64.wrap (x28 + 1)))) (u := []) rfl trivial rfl ?_
        refine a_val (v := (.int .i64 (IntKind.i64.wrap (x28 + 1)))) (u := []) rfl trivial rfl ?_
        refine a_nil ?_
        cases h
        exact a_again rfl hX35
      · have h := ite_t hb39 h
        refine a_cond_t rfl ?_
        refine a_seq ?_
        refine a_region ?_
        refine a_val (v := (.int .i64 (-1))) (u := []) rfl trivial rfl ?_
        refine a_nil ?_
        refine a_next rfl ?_
        refine a_ret ?_
        refine t_ret ?_
        refine b_ret ?_
        refine t_ret ?_
        cases h
        have h := hX35
        refine t_ret ?_
        refine b_ret ?_
        refine t_ret ?_
        cases h
        have h := hk22
        refine ⟨.inr rfl, ?_⟩
        rw [Try.results36]
        cases h
        exact ⟨_, _, _, _, _, rfl, trivial, .inl ⟨rfl, .inl rfl⟩, rfl, rfl⟩
def impl_DigitsOfRoot_c : ACode := (.seq (.region 0 [⟨some 4, .box 23 (.tmp 1), none, []⟩, ⟨some 6, .asg 1 (.const (.slice none 0 0)) 45, none, []⟩, ⟨some 7, .asg 0 (.const (.int .i64 0)) 2, none, []⟩] false) (.seq (.seq (.region 1 [⟨some 12, .mov (.tmp 0), none, []⟩, ⟨some 13, .load 23 (.tmp 4), none, []⟩, ⟨some 14, .mov (.tmp 2), none, []⟩, ⟨some 15, .call 0 (.func 74) [(.tmp 14)], none, [2]⟩, ⟨some 16, .call 0 (.func 73) [(.tmp 12), (.tmp 13), (.tmp 15)], none, [0, 1, 3, 3]⟩, ⟨some 8, .asg 0 (.tmp 16) 2, none, [4, 4, 0, 1, 2, 3, 4]⟩] true) (.seq (.region 2 [⟨some 17, .mov (.tmp 8), none, []⟩, ⟨some 18, .bin .neq 2 (.tmp 17) (.const (.int .i64 0)), none, []⟩] false) (.cond (.tmp 18) (.seq (.region 3 [⟨some 19, .mov (.tmp 8), none, []⟩, ⟨some 6, .asg 1 (.const (.slice none 0 0)) 45, none, []⟩, ⟨some 7, .asg 0 (.tmp 19) 2, none, []⟩] false) .ret) .skip))) (.seq (.region 4 [⟨some 20, .mov (.tmp 0), none, []⟩, ⟨some 21, .mov (.tmp 2), none, []⟩, ⟨some 22, .bin .mul 2 (.const (.int .i64 2)) (.tmp 21), none, [1]⟩, ⟨some 23, .mkslice 66 (.tmp 22) (.tmp 22), none, [2, 2]⟩, ⟨some 24, .load 23 (.tmp 4), none, []⟩, ⟨some 25, .call 0 (.func 76) [(.tmp 24)], none, [4]⟩, ⟨some 26, .blt 0 .append [(.tmp 23), (.tmp 25)] [66, 66], none, [3, 5, 5]⟩, ⟨some 27, .call 0 (.func 75) [(.tmp 20), (.tmp 26)], none, [0, 6, 6]⟩, ⟨some 9, .asg 1 (.tmp 27) 66, none, [7, 7, 0, 1, 2, 3, 4, 5, 6, 7]⟩] true) (.seq (.region 5 [⟨some 10, .asg 2 (.const (.slice none 0 0)) 45, none, []⟩] false) (.seq (.seq (.region 6 [⟨some 28, .mov (.tmp 2), none, []⟩, ⟨some 29, .bin .sub 2 (.tmp 28) (.const (.int .i64 1)), none, []⟩, ⟨some 11, .asg 0 (.tmp 29) 2, none, []⟩] false) (.block 0 (.loop (.seq (.seq (.region 7 [⟨some 30, .mov (.tmp 11), none, []⟩, ⟨some 31, .bin .geq 2 (.tmp 30) (.const (.int .i64 0)), none, []⟩] false) (.cond (.tmp 31) .skip (.exit 0))) (.seq (.block 1 (.region 9 [⟨some 34, .mov (.tmp 10), none, []⟩, ⟨some 35, .mov (.tmp 9), none, []⟩, ⟨some 36, .mov (.tmp 11), none, []⟩, ⟨some 37, .indexAddr 66 (.tmp 35) (.tmp 36), none, []⟩, ⟨some 38, .load 2 (.tmp 37), none, []⟩, ⟨some 39, .bslice 0 45 1 [(0, (.tmp 38))], none, []⟩, ⟨some 40, .blt 0 .append [(.tmp 34), (.tmp 39)] [45, 45], none, []⟩, ⟨some 10, .asg 2 (.tmp 40) 45, none, []⟩] false)) (.region 8 [⟨some 32, .mov (.tmp 11), none, []⟩, ⟨some 33, .bin .sub 2 (.tmp 32) (.const (.int .i64 1)), none, []⟩, ⟨some 11, .asg 0 (.tmp 33) 2, none, []⟩] false)))))) (.seq (.region 10 [⟨some 41, .mov (.tmp 10), none, []⟩, ⟨some 6, .asg 1 (.tmp 41) 45, none, []⟩, ⟨some 7, .asg 0 (.const (.int .i64 0)) 2, none, []⟩] false) .ret))))))
def impl_DigitsOfRoot_L : Live := [(0, [0, 1, 2]), (1, [0, 2, 4]), (2, [0, 2, 4, 8]), (3, [8]), (4, [0, 2, 4]), (5, [2, 9]), (6, [2, 9, 10]), (7, [9, 10, 11]), (8, [9, 10, 11]), (9, [9, 10, 11]), (10, [10]), (100018, [0, 2, 4, 8, 18]), (100031, [9, 10, 11, 31])]
theorem impl_DigitsOfRoot_body : Try.f33.body = some (Try.f33.body.getD .skip) := by kernel_rfl
theorem impl_DigitsOfRoot_strip : strip [(6, 1), (9, 1), (10, 2)] (Try.f33.body.getD .skip) = impl_DigitsOfRoot_c := by kernel_rfl
noncomputable def impl_DigitsOfRoot_l1 (r24 : (List Int)) (x52 : Int) (x53 : (List Int)) : Option ((Int × (List Int)) ⊕ (List Int)) :=
  (if (decide (x52 ≥ 0)) then (ifp (0 ≤ x52 ∧ x52 < ((r24.length : Nat) : Int)) ((ifp ((x53.length + ([(rd r24 x52.toNat)] : List Int).length) * 8 ≤ 140737488355328) ((some (.inl ((IntKind.i64.wrap (x52 - 1), (x53 ++ ([(rd r24 x52.toNat)])))))))))) else (some (.inr x53)))
noncomputable def impl_DigitsOfRoot (a0 : Int) (a1 : (Vec Int 64)) (a2 : Int) : Option ((List Int) × Int) :=
  (Option.bind (impl_isDigits a2) fun r7 => (Option.bind (impl_squareCode a0 a1 r7) fun r9 => (if (r9 != 0) then (some ([], r9)) else (ifp (0 ≤ IntKind.i64.wrap (2 * a2) ∧ IntKind.i64.wrap (2 * a2) ≤ 140737488355328 ∧ 8 * IntKind.i64.wrap (2 * a2) ≤ 140737488355328) ((Option.bind (impl_rowOf a1) fun r21 => (ifp (((List.replicate (IntKind.i64.wrap (2 * a2)).toNat (0 : Int)).length + r21.length) * 8 ≤ 140737488355328) ((Option.bind (impl_prime_root a0 (((List.replicate (IntKind.i64.wrap (2 * a2)).toNat (0 : Int)) ++ r21))) fun r24 => (Option.bind (α := (List Int)) ((loopM (fun s : (Int × (List Int)) => impl_DigitsOfRoot_l1 r24 s.1 s.2) (IntKind.i64.wrap (a2 - 1), []))) fun x44 => (some (x44, 0))))))))))))
set_option maxHeartbeats 16000000 in
theorem impl_DigitsOfRoot_ok (a0 : Int) (a1 : (Vec Int 64)) (a2 : Int) (r : ((List Int) × Int)) (h : impl_DigitsOfRoot a0 a1 a2 = some r) : Den Try.prog 33 [(.int .i64 a0), (eA64u8 a1), (.int .i64 a2)] { r := (.tuple [(eSi64 r.1), (.int .i64 r.2)]) } := by
  refine den_of (rs := [(eSi64 r.1), (.int .i64 r.2)]) (ac := impl_DigitsOfRoot_c) (L := impl_DigitsOfRoot_L) (n := 42) (m := [(6, 1), (9, 1), (10, 2)]) good Try.func33 impl_DigitsOfRoot_body (by kernel_rfl) Try.ntmps33 rfl rfl impl_DigitsOfRoot_strip rfl rfl ?_
  refine a_st (σ' := ⟨[(0, (.int .i64 a0)), (1, (eA64u8 a1)), (2, (.int .i64 a2))], []⟩) rfl ?_
  unfold impl_DigitsOfRoot_c
  refine a_seq ?_
  refine a_region ?_
  refine a_val (v := (.own 1400 [] [])) (u := [(1400, some ⟨(eA64u8 a1), false⟩)]) rfl trivial rfl ?_
  refine a_val (v := (eSi64 ([]))) (u := []) rfl trivial rfl ?_
  refine a_val (v := (.int .i64 0)) (u := []) rfl trivial rfl ?_
  refine a_nil ?_
  refine a_next (σ' := ⟨[(0, (.int .i64 a0)), (2, (.int .i64 a2)), (4, (.own 4 [] []))], [(4, some ⟨(eA64u8 a1), false⟩)]⟩) rfl ?_
  refine a_seq ?_
  refine a_seq ?_
  refine a_draw [⟨[], [], [], []⟩, ⟨[4], [], [], []⟩, ⟨[], [], [], []⟩, ⟨[], [], [], [2]⟩, ⟨[], [], [], [0, 1, 2, 3]⟩, ⟨[], [], [], [0, 1, 2, 3, 4]⟩] (by kernel_rfl) ?_
  refine d_cons ?_
  refine a_val (v := (.int .i64 a0)) (u := []) rfl trivial rfl ?_
  refine d_next rfl ?_
  refine d_cons ?_
  have hl6 : LdOk [] (eA64u8 a1) [] 64 true (eA64u8 a1) := (.nil rfl rfl rfl)
  refine a_val (v := (eA64u8 a1)) (u := []) (ld_own (i := ⟨.arr 64 5, 64, 64, (eA64u8 (vrep 64 (0 : Int)))⟩) rfl rfl rfl hl6) hl6.c rfl ?_
  refine d_next rfl ?_
  refine d_cons ?_
  refine a_val (v := (.int .i64 a2)) (u := []) rfl trivial rfl ?_
  refine d_next rfl ?_
  refine d_cons ?_
  obtain ⟨r7, hr8, h⟩ := bind_some h
  refine a_call (args := [(.int .i64 a2)]) (u := []) (r := (.bool r7)) rfl rfl (impl_isDigits_ok a2 r7 hr8) rfl ?_
  refine d_next rfl ?_
  refine d_cons ?_
  obtain ⟨r9, hr10, h⟩ := bind_some h
  refine a_call (args := [(.int .i64 a0), (eA64u8 a1), (.bool r7)]) (u := []) (r := (.int .i64 r9)) rfl rfl (impl_squareCode_ok a0 a1 r7 r9 hr10) rfl ?_
  refine d_next rfl ?_
  refine d_cons ?_
  refine a_val (v := (.int .i64 r9)) (u := []) rfl trivial rfl ?_
  refine d_next rfl ?_
  refine d_nil ?_
  refine a_next (σ' := ⟨[(0, (.int .i64 a0)), (2, (.int .i64 a2)), (4, (.own 4 [] [])), (8, (.int .i64 r9))], [(4, some ⟨(eA64u8 a1), false⟩)]⟩) rfl ?_
  refine a_seq ?_
  refine a_region ?_
  refine a_val (v := (.int .i64 r9)) (u := []) rfl trivial rfl ?_
  refine a_val (v := (.bool (r9 != 0))) (u := []) rfl trivial rfl ?_
  refine a_nil ?_
  refine a_next (σ' := ⟨[(0, (.int .i64 a0)), (2, (.int .i64 a2)), (4, (.own 4 [] [])), (8, (.int .i64 r9)), (18, (.bool (r9 != 0)))], [(4, some ⟨(eA64u8 a1), false⟩)]⟩) rfl ?_
  cases hb11 : (r9 != 0)
  · have h := ite_f hb11 h
    refine a_cond_f rfl ?_
    refine a_skip ?_
    refine a_next (σ' := ⟨[(0, (.int .i64 a0)), (2, (.int .i64 a2)), (4, (.own 4 [] []))], [(4, some ⟨(eA64u8 a1), false⟩)]⟩) rfl ?_
    refine a_seq ?_
    refine a_draw [⟨[], [], [], []⟩, ⟨[], [], [], []⟩, ⟨[], [], [], [1]⟩, ⟨[3300], [3300], [3300], [1, 2]⟩, ⟨[4], [], [], []⟩, ⟨[], [], [], [4]⟩, ⟨[3300, 3600], [3300, 3600], [3600], [1, 2, 3, 4, 5]⟩, ⟨[3600], [3600], [], [0, 1, 2, 3, 4, 5, 6]⟩, ⟨[], [], [], [0, 1, 2, 3, 4, 5, 6, 7]⟩] (by kernel_rfl) ?_
    refine d_cons ?_
    refine a_val (v := (.int .i64 a0)) (u := []) rfl trivial rfl ?_
    refine d_next rfl ?_
    refine d_cons ?_
    refine a_val (v := (.int .i64 a2)) (u := []) rfl trivial rfl ?_
    refine d_next rfl ?_
    refine d_cons ?_
    refine a_val (v := (.int .i64 (IntKind.i64.wrap (2 * a2)))) (u := []) rfl trivial rfl ?_
    refine d_next rfl ?_
    refine d_cons ?_
    obtain ⟨hc19, h⟩ := ifp_some h
    refine a_val (v := (.osl 3300)) (u := [(3300, some ⟨(.row 1 ((List.replicate (IntKind.i64.wrap (2 * a2)).toNat (0 : Int)).map (AV.int .i64))), false⟩)]) (mk_run (i := ⟨.int .i64, 1, 8, (.int .i64 0)⟩) (f := (AV.int .i64)) (y := (0 : Int)) rfl rfl rfl rfl rfl rfl) ⟨rfl, hc19.1, hc19.2.1, hc19.2.2, (Nat.le_of_ble_eq_true rfl)⟩ rfl ?_
    refine d_next rfl ?_
    refine d_cons ?_
    have hl20 : LdOk [] (eA64u8 a1) [] 64 true (eA64u8 a1) := (.nil rfl rfl rfl)
    refine a_val (v := (eA64u8 a1)) (u := []) (ld_own (i := ⟨.arr 64 5, 64, 64, (eA64u8 (vrep 64 (0 : Int)))⟩) rfl rfl rfl hl20) hl20.c rfl ?_
    refine d_next rfl ?_
    refine d_cons ?_
    obtain ⟨r21, hr22, h⟩ := bind_some h
    refine a_call (args := [(eA64u8 a1)]) (u := []) (r := (eSi64 r21)) rfl rfl (impl_rowOf_ok a1 r21 hr22) rfl ?_
    refine d_next rfl ?_
    refine d_cons ?_
    obtain ⟨hc23, h⟩ := ifp_some h
    refine a_val (v := (.osl 3600)) (u := [(3600, some ⟨(.row 1 ((((List.replicate (IntKind.i64.wrap (2 * a2)).toNat (0 : Int)) ++ r21)).map (AV.int .i64))), false⟩), (3300, none)]) (app_run (i := ⟨.int .i64, 1, 8, (.int .i64 0)⟩) (f := (AV.int .i64)) (l := List.replicate (IntKind.i64.wrap (2 * a2)).toNat (0 : Int)) (l2 := r21) rfl rfl rfl rfl (fun _ => rfl) rfl rfl) (app_c (f := (AV.int .i64)) (s := 1) (sz := 1) (by' := 8) (u := []) (id := 3300) hc23 (.inr rfl) rfl rfl rfl) rfl ?_
    refine d_next rfl ?_
    refine d_cons ?_
    obtain ⟨r24, hr25, h⟩ := bind_some h
    refine a_call (args := [(.int .i64 a0), (eSi64 (((List.replicate (IntKind.i64.wrap (2 * a2)).toNat (0 : Int)) ++ r21)))]) (u := [(3600, some ⟨(.row 1 ((((List.replicate (IntKind.i64.wrap (2 * a2)).toNat (0 : Int)) ++ r21)).map (AV.int .i64))), true⟩)]) (r := (eSi64 r24)) rfl rfl (impl_prime_root_ok a0 (((List.replicate (IntKind.i64.wrap (2 * a2)).toNat (0 : Int)) ++ r21)) r24 hr25) rfl ?_
    refine d_next rfl ?_
    refine d_cons ?_
    refine a_val (v := (eSi64 r24)) (u := []) rfl trivial rfl ?_
    refine d_next rfl ?_
    refine d_nil ?_
    refine a_next (σ' := ⟨[(2, (.int .i64 a2)), (9, (eSi64 r24))], []⟩) rfl ?_
    refine a_seq ?_
    refine a_region ?_
    refine a_val (v := (.osl 2000)) (u := [(2000, some ⟨(.row 1 (([]).map (AV.int .i64))), false⟩)]) rfl trivial rfl ?_
    refine a_nil ?_
    refine a_next (σ' := ⟨[(2, (.int .i64 a2)), (9, (eSi64 r24)), (10, (.osl 10))], [(10, some ⟨(.row 1 (([]).map (AV.int .i64))), false⟩)]⟩) rfl ?_
    obtain ⟨y45, hy46, hk47⟩ := bind_some h
    clear h
    refine a_join (emb := fun (s : (List Int)) => ⟨[(10, (.osl 10))], [(10, some ⟨(.row 1 (s.map (AV.int .i64))), false⟩)]⟩) (pre := fun s => s = y45) ?_ ?_
    · rintro x44 rfl
      have h := hk47
      refine a_st (σ' := ⟨[(10, (.osl 10))], [(10, some ⟨(.row 1 (x44.map (AV.int .i64))), false⟩)]⟩) rfl ?_
      refine a_seq ?_
      refine a_region ?_
      refine a_val (v := (.osl 10)) (u := []) rfl trivial rfl ?_
      refine a_val (v := (eSi64 x44)) (u := [(10, some ⟨(.row 1 (x44.map (AV.int .i64))), true⟩)]) rfl trivial rfl ?_
      refine a_val (v := (.int .i64 0)) (u := []) rfl trivial rfl ?_
      refine a_nil ?_
      refine a_next rfl ?_
      refine a_ret ?_
      refine ⟨.inr rfl, ?_⟩
      rw [Try.results33]
      cases h
      exact ⟨_, _, _, _, _, rfl, trivial, .inl ⟨rfl, .inl rfl⟩, rfl, ⟨_, _, _, _, _, rfl, trivial, .inl ⟨rfl, .inl rfl⟩, rfl, rfl⟩⟩
    · have h := hy46
      refine a_seq ?_
      refine a_region ?_
      refine a_val (v := (.int .i64 a2)) (u := []) rfl trivial rfl ?_
      refine a_val (v := (.int .i64 (IntKind.i64.wrap (a2 - 1)))) (u := []) rfl trivial rfl ?_
      refine a_val (v := (.int .i64 (IntKind.i64.wrap (a2 - 1)))) (u := []) rfl trivial rfl ?_
      refine a_nil ?_
      refine a_next (σ' := ⟨[(9, (eSi64 r24)), (10, (.osl 10)), (11, (.int .i64 (IntKind.i64.wrap (a2 - 1))))], [(10, some ⟨(.row 1 (([]).map (AV.int .i64))), false⟩)]⟩) rfl ?_
      refine a_block ?_
      refine a_loop (emb := fun (s : (Int × (List Int))) => ⟨[(9, (eSi64 r24)), (10, (.osl 10)), (11, (.int .i64 s.1))], [(10, some ⟨(.row 1 (s.2.map (AV.int .i64))), false⟩)]⟩) (body := (fun s : (Int × (List Int)) => impl_DigitsOfRoot_l1 r24 s.1 s.2)) (G := fun q => some q = some y45) h rfl ?_ rfl
      rintro X58 ⟨x52, x53⟩ x59 h hX60
      have h : impl_DigitsOfRoot_l1 r24 x52 x53 = some x59 := h
      refine a_st (σ' := ⟨[(9, (eSi64 r24)), (10, (.osl 10)), (11, (.int .i64 x52))], [(10, some ⟨(.row 1 (x53.map (AV.int .i64))), false⟩)]⟩) rfl ?_
      refine a_seq ?_
      refine a_seq ?_
      refine a_region ?_
      refine a_val (v := (.int .i64 x52)) (u := []) rfl trivial rfl ?_
      refine a_val (v := (.bool ((decide (x52 ≥ 0))))) (u := []) rfl trivial rfl ?_
      refine a_nil ?_
      refine a_next (σ' := ⟨[(9, (eSi64 r24)), (10, (.osl 10)), (11, (.int .i64 x52)), (31, (.bool ((decide (x52 ≥ 0)))))], [(10, some ⟨(.row 1 (x53.map (AV.int .i64))), false⟩)]⟩) rfl ?_
      cases hb61 : (decide (x52 ≥ 0))
      · have h := ite_f hb61 h
        refine a_cond_f rfl ?_
        refine a_exit ?_
        refine t_exit ?_
        cases h
        have h := hX60
        refine t_exit ?_
        refine b_exit ?_
        exact j_leaf x53 (Option.some.inj h) rfl
      · have h := ite_t hb61 h
        refine a_cond_t rfl ?_
        refine a_skip ?_
        refine a_next (σ' := ⟨[(9, (eSi64 r24)), (10, (.osl 10)), (11, (.int .i64 x52))], [(10, some ⟨(.row 1 (x53.map (AV.int .i64))), false⟩)]⟩) rfl ?_
        refine a_seq ?_
        refine a_block ?_
        refine a_region ?_
        refine a_val (v := (.osl 10)) (u := []) rfl trivial rfl ?_
        refine a_val (v := (eSi64 r24)) (u := []) rfl trivial rfl ?_
        refine a_val (v := (.int .i64 x52)) (u := []) rfl trivial rfl ?_
        obtain ⟨hc62, h⟩ := ifp_some h
        refine a_val (v := (.ref (.row 1 (r24.map (AV.int .i64))) [x52.toNat] [x52.toNat * 1])) (u := []) rfl (lmap hc62) rfl ?_
        have hl63 : LdOk [x52.toNat] (.row 1 (r24.map (AV.int .i64))) [x52.toNat * 1] 1 false (.int .i64 (rd r24 x52.toNat)) := (.row (llt hc62) rfl (.nil rfl rfl rfl))
        refine a_val (v := (.int .i64 (rd r24 x52.toNat))) (u := []) (ld_ref (i := ⟨.int .i64, 1, 8, (.int .i64 0)⟩) rfl rfl hl63) hl63.c rfl ?_
        refine a_val (v := (.sl 1 true (([(rd r24 x52.toNat)]).map (AV.int .i64)))) (u := []) rfl ⟨(Nat.le_of_ble_eq_true rfl), (Nat.le_of_ble_eq_true rfl), (all_cons ⟨(Nat.le_of_ble_eq_true rfl), rfl⟩ all_nil)⟩ rfl ?_
        obtain ⟨hc64, h⟩ := ifp_some h
        refine a_val (v := (.osl 5000)) (u := [(5000, some ⟨(.row 1 (((x53 ++ ([(rd r24 x52.toNat)]))).map (AV.int .i64))), false⟩), (10, none)]) (app_run (i := ⟨.int .i64, 1, 8, (.int .i64 0)⟩) (f := (AV.int .i64)) (l := x53) (l2 := [(rd r24 x52.toNat)]) rfl rfl rfl rfl (fun _ => rfl) rfl rfl) (app_c (f := (AV.int .i64)) (s := 1) (sz := 1) (by' := 8) (u := []) (id := 10) hc64 (.inr rfl) rfl rfl rfl) rfl ?_
        refine a_val (v := (.osl 5000)) (u := []) rfl trivial rfl ?_
        refine a_nil ?_
        refine b_norm ?_
        refine a_next (σ' := ⟨[(9, (eSi64 r24)), (10, (.osl 10)), (11, (.int .i64 x52))], [(10, some ⟨(.row 1 (((x53 ++ ([(rd r24 x52.toNat)]))).map (AV.int .i64))), false⟩)]⟩) rfl ?_
        refine a_region ?_
        refine a_val (v := (.int .i64 x52)) (u := []) rfl trivial rfl ?_
        refine a_val (v := (.int .i64 (IntKind.i64.wrap (x52 - 1)))) (u := []) rfl trivial rfl ?_
        refine a_val (v := (.int .i64 (IntKind.i64.wrap (x52 - 1)))) (u := []) rfl trivial rfl ?_
        refine a_nil ?_
        cases h
        exact a_again rfl hX60
  · have h := ite_t hb11 h
    refine a_cond_t rfl ?_
    refine a_seq ?_
    refine a_region ?_
    refine a_val (v := (.int .i64 r9)) (u := []) rfl trivial rfl ?_
    refine a_val (v := (eSi64 ([]))) (u := []) rfl trivial rfl ?_
    refine a_val (v := (.int .i64 r9)) (u := []) rfl trivial rfl ?_
    refine a_nil ?_
    refine a_next rfl ?_
    refine a_ret ?_
    refine t_ret ?_
    refine ⟨.inr rfl, ?_⟩
    rw [Try.results33]
    cases h
    exact ⟨_, _, _, _, _, rfl, trivial, .inl ⟨rfl, .inl rfl⟩, rfl, ⟨_, _, _, _, _, rfl, trivial, .inl ⟨rfl, .inl rfl⟩, rfl, rfl⟩⟩
end Go.Proofs.Ytacebpbhddkelaa
