/- Functions of the program: plain Lean functions, and that the program computes them. Printed by gen.py. -/
import Derived.Test.YtkbnegemdlnncaaFnT
import Derived.Test.YtkbnegemdlnncaaFn1
import Derived.Test.YtkbnegemdlnncaaFn2
import Derived.Test.YtkbnegemdlnncaaFn3
import Derived.Test.YtkbnegemdlnncaaFn4
namespace Go.Proofs.Ytkbnegemdlnncaa
open Go.Abs Go.Proofs
set_option linter.unusedSimpArgs false
set_option linter.unusedVariables false
set_option maxHeartbeats 16000000
attribute [local irreducible] Abs.acode Abs.aops Abs.aopsT Abs.thenK Abs.blockK

def impl_prime_power_c : ACode := (.seq (.region 0 [q 8 (.asg 1 (.const (.slice none 0 0)) 80)] false) (.seq (.region 1 [q 11 (.mov (t 0)), q 12 (.bslice 0 80 1 [(0, (.const (.int .i64 1)))]), q 13 (.mov (t 3)), q 14 (.call 0 (.func 162) [(t 11), (t 12), (t 13)]), q 15 (.mov (t 0)), q 16 (.mov (t 1)), q 17 (.mov (t 3)), q 18 (.call 0 (.func 162) [(t 15), (t 16), (t 17)]), q 9 (.asg 1 (t 14) 80), q 10 (.asg 1 (t 18) 80)] false) (.seq (.block 0 (.loop (.seq (.seq (.region 2 [q 19 (.mov (t 2)), q 20 (.bin .gtr 2 (t 19) (.const (.int .i64 0)))] false) (.cond (t 20) .skip (.exit 0))) (.seq (.block 1 (.seq (.seq (.region 4 [q 23 (.mov (t 2)), q 24 (.bin .and 2 (t 23) (.const (.int .i64 1))), q 25 (.bin .eql 2 (t 24) (.const (.int .i64 1)))] false) (.cond (t 25) (.region 5 [q 26 (.mov (t 0)), q 27 (.mov (t 0)), q 28 (.mov (t 9)), q 29 (.mov (t 10)), q 30 (.call 0 (.func 102) [(t 27), (t 28), (t 29)]), q 31 (.mov (t 3)), q 32 (.call 0 (.func 162) [(t 26), (t 30), (t 31)]), q 9 (.asg 1 (t 32) 80)] false) .skip)) (.region 6 [q 33 (.mov (t 0)), q 34 (.mov (t 0)), q 35 (.mov (t 10)), q 36 (.mov (t 10)), q 37 (.call 0 (.func 102) [(t 34), (t 35), (t 36)]), q 38 (.mov (t 3)), q 39 (.call 0 (.func 162) [(t 33), (t 37), (t 38)]), q 10 (.asg 1 (t 39) 80)] false))) (.region 3 [q 21 (.mov (t 2)), q 22 (.bin .shr 2 (t 21) (.const (.int .u64 1))), q 2 (.asg 0 (t 22) 2)] false))))) (.seq (.region 7 [q 40 (.mov (t 9)), q 8 (.asg 1 (t 40) 80)] false) .ret))))
def impl_prime_power_L : Live := [(0, [0, 1, 2, 3]), (1, [0, 1, 2, 3]), (2, [0, 2, 3, 9, 10]), (3, [0, 2, 3, 9, 10]), (4, [0, 2, 3, 9, 10]), (5, [0, 2, 3, 9, 10]), (6, [0, 2, 3, 9, 10]), (7, [9]), (100020, [0, 2, 3, 9, 10, 20]), (100025, [0, 2, 3, 9, 10, 25])]
noncomputable def impl_prime_power_l1 (a0 : Int) (a3 : (List Int)) (x108 : Int) (x109 : (List Int)) (x110 : (List Int)) : Option ((Int × (List Int) × (List Int)) ⊕ (List Int)) :=
  (if (decide (x108 > 0)) then (Option.bind (α := (List Int)) ((letp (IntKind.i64.wrap (BitVec.ofInt IntKind.i64.bits x108 &&& BitVec.ofInt IntKind.i64.bits 1).toNat) fun x149 => (if (x149 == 1) then (Option.bind (impl_prime_times a0 x109 x110) fun r152 => (Option.bind (impl_prime_rest a0 r152 a3) fun r154 => (some r154))) else (some x109)))) fun x145 => (Option.bind (impl_prime_times a0 x110 x110) fun r156 => (Option.bind (impl_prime_rest a0 r156 a3) fun r158 => (some (.inl ((Int.fdiv x108 (2 ^ (min (1 : Int).toNat IntKind.i64.bits)), x145, r158))))))) else (some (.inr x109)))
noncomputable def impl_prime_power (a0 : Int) (a1 : (List Int)) (a2 : Int) (a3 : (List Int)) : Option (List Int) :=
  (Option.bind (impl_prime_rest a0 ([1]) a3) fun r1 => (Option.bind (impl_prime_rest a0 a1 a3) fun r3 => (Option.bind (α := (List Int)) ((loopM (fun s : (Int × (List Int) × (List Int)) => impl_prime_power_l1 a0 a3 s.1 s.2.1 s.2.2) (a2, r1, r3))) fun x81 => (some x81))))
theorem impl_prime_power_ok (a0 : Int) (a1 : (List Int)) (a2 : Int) (a3 : (List Int)) (r : (List Int)) (h : impl_prime_power a0 a1 a2 a3 = some r) : Den Try.prog 134 [(i6 a0), (eSi64 a1), (i6 a2), (eSi64 a3)] { r := (eSi64 r) } := by
  refine den_of (rs := [(eSi64 r)]) (ac := impl_prime_power_c) (L := impl_prime_power_L) (n := 41) (m := [(8, 1), (9, 1), (10, 1)]) (c := Try.f134.body.getD .skip) good Try.func134 (by kernel_rfl) (by kernel_rfl) Try.ntmps134 rfl rfl (by kernel_rfl) rfl rfl ?_
  refine a_st (σ' := ⟨[(0, (i6 a0)), (1, (eSi64 a1)), (2, (i6 a2)), (3, (eSi64 a3))], []⟩) (by kernel_rfl) ?_
  unfold impl_prime_power_c
  refine sr (vp (eSi64 ([])) rfl (nx ⟨[(0, (i6 a0)), (1, (eSi64 a1)), (2, (i6 a2)), (3, (eSi64 a3))], []⟩ (by kernel_rfl) (sr (vp (i6 a0) rfl (vq (.sl 1 true (([1]).map (AV.int .i64))) rfl ⟨(Nat.le_of_ble_eq_true rfl), (Nat.le_of_ble_eq_true rfl), (all_cons ⟨(Nat.le_of_ble_eq_true rfl), rfl⟩ all_nil)⟩ (vp (eSi64 a3) rfl ?_))))))
  obtain ⟨r1, hr2, h⟩ := bind_some h
  refine a_call (args := [(i6 a0), (.sl 1 true (([1]).map (AV.int .i64))), (eSi64 a3)]) (u := []) (r := (eSi64 r1)) rfl rfl (Den.args (impl_prime_rest_ok a0 ([1]) a3 r1 hr2) rfl rfl (.cons (.refl _) (.cons (.loose _) (.cons (.refl _) .nil)))) rfl (vp (i6 a0) rfl (vp (eSi64 a1) rfl (vp (eSi64 a3) rfl ?_)))
  obtain ⟨r3, hr4, h⟩ := bind_some h
  refine a_call (args := [(i6 a0), (eSi64 a1), (eSi64 a3)]) (u := []) (r := (eSi64 r3)) rfl rfl (impl_prime_rest_ok a0 a1 a3 r3 hr4) rfl (vp (eSi64 r1) rfl (vp (eSi64 r3) rfl (nx ⟨[(0, (i6 a0)), (2, (i6 a2)), (3, (eSi64 a3)), (9, (eSi64 r1)), (10, (eSi64 r3))], []⟩ (by kernel_rfl) ?_)))
  obtain ⟨y82, hy83, hk84⟩ := bind_some h
  clear h
  refine a_join (emb := fun (s : (List Int)) => ⟨[(9, (eSi64 s))], []⟩) (pre := fun s => s = y82) ?_ ?_
  · rintro x81 rfl
    have h := hk84
    refine a_st (σ' := ⟨[(9, (eSi64 x81))], []⟩) (by kernel_rfl) (sr (vp (eSi64 x81) rfl (vp (eSi64 x81) rfl (nx _ rfl (a_ret ?_)))))
    refine ⟨.inr rfl, ?_⟩
    rw [Try.results134]
    cases h
    exact ⟨_, _, _, _, _, rfl, trivial, .inl ⟨rfl, .inl rfl⟩, rfl, rfl⟩
  · have h := hy83
    refine a_block ?_
    refine a_loop (emb := fun (s : (Int × (List Int) × (List Int))) => ⟨[(0, (i6 a0)), (2, (i6 s.1)), (3, (eSi64 a3)), (9, (eSi64 s.2.1)), (10, (eSi64 s.2.2))], []⟩) (body := (fun s : (Int × (List Int) × (List Int)) => impl_prime_power_l1 a0 a3 s.1 s.2.1 s.2.2)) (G := fun q => some q = some y82) h rfl ?_ (by kernel_rfl)
    rintro X134 ⟨x108, x109, x110⟩ x135 h hX136
    have h : impl_prime_power_l1 a0 a3 x108 x109 x110 = some x135 := h
    refine a_st (σ' := ⟨[(0, (i6 a0)), (2, (i6 x108)), (3, (eSi64 a3)), (9, (eSi64 x109)), (10, (eSi64 x110))], []⟩) (by kernel_rfl) (a_seq (sr (vp (i6 x108) rfl (vp (.bool ((decide (x108 > 0)))) rfl (nx ⟨[(0, (i6 a0)), (2, (i6 x108)), (3, (eSi64 a3)), (9, (eSi64 x109)), (10, (eSi64 x110)), (20, (.bool ((decide (x108 > 0)))))], []⟩ (by kernel_rfl) ?_)))))
    cases hb137 : (decide (x108 > 0))
    · have h := ite_f hb137 h
      refine a_cond_f rfl (a_exit (t_exit ?_))
      cases h
      have h := hX136
      refine t_exit (b_exit ?_)
      exact j_leaf x109 (Option.some.inj h) (by kernel_rfl)
    · have h := ite_t hb137 h
      refine a_cond_t rfl (a_skip (a_next (σ' := ⟨[(0, (i6 a0)), (2, (i6 x108)), (3, (eSi64 a3)), (9, (eSi64 x109)), (10, (eSi64 x110))], []⟩) (by kernel_rfl) (a_seq (a_block ?_))))
      obtain ⟨y146, hy147, hk148⟩ := bind_some h
      clear h
      refine a_join (emb := fun (s : (List Int)) => ⟨[(0, (i6 a0)), (2, (i6 x108)), (3, (eSi64 a3)), (9, (eSi64 s)), (10, (eSi64 x110))], []⟩) (pre := fun s => s = y146) ?_ ?_
      · rintro x145 rfl
        have h := hk148
        refine a_st (σ' := ⟨[(0, (i6 a0)), (2, (i6 x108)), (3, (eSi64 a3)), (9, (eSi64 x145)), (10, (eSi64 x110))], []⟩) (by kernel_rfl) (a_region (vp (i6 a0) rfl (vp (i6 a0) rfl (vp (eSi64 x110) rfl (vp (eSi64 x110) rfl ?_)))))
        obtain ⟨r156, hr157, h⟩ := bind_some h
        refine a_call (args := [(i6 a0), (eSi64 x110), (eSi64 x110)]) (u := []) (r := (eSi64 r156)) rfl rfl (impl_prime_times_ok a0 x110 x110 r156 hr157) rfl (vp (eSi64 a3) rfl ?_)
        obtain ⟨r158, hr159, h⟩ := bind_some h
        refine a_call (args := [(i6 a0), (eSi64 r156), (eSi64 a3)]) (u := []) (r := (eSi64 r158)) rfl rfl (impl_prime_rest_ok a0 r156 a3 r158 hr159) rfl (vp (eSi64 r158) rfl (a_nil (b_norm (a_next (σ' := ⟨[(0, (i6 a0)), (2, (i6 x108)), (3, (eSi64 a3)), (9, (eSi64 x145)), (10, (eSi64 r158))], []⟩) (by kernel_rfl) (a_region (vp (i6 x108) rfl (vq (i6 (Int.fdiv x108 (2 ^ (min (1 : Int).toNat IntKind.i64.bits)))) rfl (by decide) (vp (i6 (Int.fdiv x108 (2 ^ (min (1 : Int).toNat IntKind.i64.bits)))) rfl (a_nil ?_)))))))))
        cases h
        exact a_again (by kernel_rfl) hX136
      · have h := hy147
        refine sr (vp (i6 x108) rfl ?_)
        obtain ⟨x149, hx150, h⟩ := letp_some h
        refine a_val' (v := (i6 (IntKind.i64.wrap (BitVec.ofInt IntKind.i64.bits x108 &&& BitVec.ofInt IntKind.i64.bits 1).toNat))) (v' := (i6 x149)) (u := []) (u' := []) rfl (congrArg (fun z => ((i6 z) : AV)) hx150) rfl trivial rfl (vp (.bool (x149 == 1)) rfl (nx ⟨[(0, (i6 a0)), (2, (i6 x108)), (3, (eSi64 a3)), (9, (eSi64 x109)), (10, (eSi64 x110)), (25, (.bool (x149 == 1)))], []⟩ (by kernel_rfl) ?_))
        cases hb151 : (x149 == 1)
        · have h := ite_f hb151 h
          refine a_cond_f rfl (a_skip ?_)
          exact j_leaf x109 (Option.some.inj h) (by kernel_rfl)
        · have h := ite_t hb151 h
          refine a_cond_t rfl (a_region (vp (i6 a0) rfl (vp (i6 a0) rfl (vp (eSi64 x109) rfl (vp (eSi64 x110) rfl ?_)))))
          obtain ⟨r152, hr153, h⟩ := bind_some h
          refine a_call (args := [(i6 a0), (eSi64 x109), (eSi64 x110)]) (u := []) (r := (eSi64 r152)) rfl rfl (impl_prime_times_ok a0 x109 x110 r152 hr153) rfl (vp (eSi64 a3) rfl ?_)
          obtain ⟨r154, hr155, h⟩ := bind_some h
          refine a_call (args := [(i6 a0), (eSi64 r152), (eSi64 a3)]) (u := []) (r := (eSi64 r154)) rfl rfl (impl_prime_rest_ok a0 r152 a3 r154 hr155) rfl (vp (eSi64 r154) rfl (a_nil ?_))
          exact j_leaf r154 (Option.some.inj h) (by kernel_rfl)
def impl_PowerOf_c : ACode := (.seq (.region 0 [q 4 (.box 25 (t 1)), q 6 (.alloc 25), q 7 (.asg 0 (.const (.int .i64 0)) 2)] false) (.seq (.seq (.region 1 [q 11 (.mov (t 0)), q 12 (.load 25 (t 4)), q 13 (.bslice 0 55 1 [(0, (t 12))]), q 14 (.call 0 (.func 100) [(t 11), (t 13)]), q 8 (.asg 0 (t 14) 2)] false) (.seq (.region 2 [q 15 (.mov (t 8)), q 16 (.bin .neq 2 (t 15) (.const (.int .i64 0)))] false) (.cond (t 16) (.seq (.region 3 [q 17 (.build 25 []), q 18 (.mov (t 8)), ⟨none, .store 25 (t 6) (t 17), none, []⟩, q 7 (.asg 0 (t 18) 2)] false) .ret) .skip))) (.seq (.region 4 [q 19 (.load 25 (t 4)), q 20 (.call 0 (.func 103) [(t 19)]), q 9 (.asg 1 (t 20) 80)] false) (.seq (.block 0 (.seq (.region 5 [q 22 (.mov (t 2)), q 23 (.call 0 (.func 118) [(t 22)]), q 24 (.un .not (t 23)), q 21 (.asg 0 (t 24) 4)] false) (.cond (t 21) (.seq (.region 6 [q 25 (.build 25 []), ⟨none, .store 25 (t 6) (t 25), none, []⟩, q 7 (.asg 0 (.const (.int .i64 2)) 2)] false) .ret) (.seq (.region 7 [q 27 (.mov (t 9)), q 28 (.call 0 (.func 114) [(t 27)]), q 29 (.bin .gtr 2 (t 28) (.const (.int .i64 0))), q 30 (.mov (t 29)), ⟨some 31, .mov (t 2), some (30, true), []⟩, ⟨some 32, .bin .gtr 2 (t 31) (.const (.int .i64 63)), some (30, true), []⟩, q 33 (.pick (t 30) (t 32) (.const (.bool false))), q 26 (.asg 0 (t 33) 4)] false) (.cond (t 26) (.seq (.region 8 [q 34 (.build 25 []), ⟨none, .store 25 (t 6) (t 34), none, []⟩, q 7 (.asg 0 (.const (.int .i64 3)) 2)] false) .ret) (.seq (.region 9 [q 36 (.mov (t 9)), q 37 (.call 0 (.func 114) [(t 36)]), q 38 (.bin .leq 2 (t 37) (.const (.int .i64 0))), q 35 (.asg 0 (t 38) 4)] false) (.cond (t 35) (.seq (.region 10 [q 39 (.mov (t 0)), q 40 (.mov (t 9)), q 41 (.mov (t 2)), q 42 (.bslice 0 80 2 [(0, (.const (.int .i64 0))), (1, (.const (.int .i64 1)))]), q 43 (.call 0 (.func 134) [(t 39), (t 40), (t 41), (t 42)]), q 44 (.call 0 (.func 101) [(t 43)]), q 45 (.extract (t 44) 0), q 46 (.extract (t 44) 1), ⟨none, .store 25 (t 6) (t 45), none, []⟩, q 7 (.asg 0 (t 46) 2)] false) .ret) .skip))))))) (.seq (.region 11 [q 47 (.bslice 0 80 1 [(0, (.const (.int .i64 1)))]), q 10 (.asg 1 (t 47) 80)] false) (.seq (.seq (.region 12 [q 48 (.mov (t 2)), q 49 (.mov (.const (.int .i64 0)))] false) (.block 1 (.loop (.seq (.region 13 [q 50 (.bin .lss 2 (t 49) (t 48))] false) (.seq (.cond (t 50) .skip (.exit 1)) (.seq (.block 2 (.seq (.region 14 [q 51 (.mov (t 0)), q 52 (.mov (t 10)), q 53 (.mov (t 9)), q 54 (.call 0 (.func 102) [(t 51), (t 52), (t 53)]), q 10 (.asg 1 (t 54) 80)] false) (.seq (.region 15 [q 55 (.mov (t 10)), q 56 (.call 0 (.func 135) [(t 55)]), q 57 (.un .not (t 56))] false) (.cond (t 57) (.seq (.region 16 [q 58 (.build 25 []), ⟨none, .store 25 (t 6) (t 58), none, []⟩, q 7 (.asg 0 (.const (.int .i64 3)) 2)] false) .ret) .skip)))) (.region 17 [q 59 (.bin .add 2 (t 49) (.const (.int .i64 1))), q 49 (.mov (t 59))] false))))))) (.seq (.region 18 [q 60 (.mov (t 10)), q 61 (.call 0 (.func 101) [(t 60)]), q 62 (.extract (t 61) 0), q 63 (.extract (t 61) 1), ⟨none, .store 25 (t 6) (t 62), none, []⟩, q 7 (.asg 0 (t 63) 2)] false) .ret)))))))
def impl_PowerOf_L : Live := [(0, [0, 1, 2]), (1, [0, 2, 4, 6]), (2, [0, 2, 4, 6, 8]), (3, [6, 8]), (4, [0, 2, 4, 6]), (5, [0, 2, 6, 9]), (6, [6]), (7, [0, 2, 6, 9]), (8, [6]), (9, [0, 2, 6, 9]), (10, [0, 2, 6, 9]), (11, [0, 2, 6, 9]), (12, [0, 2, 6, 9, 10]), (13, [0, 6, 9, 10, 48, 49]), (14, [0, 6, 9, 10, 48, 49]), (15, [0, 6, 9, 10, 48, 49]), (16, [6]), (17, [0, 6, 9, 10, 48, 49]), (18, [6, 10]), (100016, [0, 2, 4, 6, 8, 16]), (100021, [0, 2, 6, 9, 21]), (100026, [0, 2, 6, 9, 26]), (100035, [0, 2, 6, 9, 35]), (100050, [0, 6, 9, 10, 48, 49, 50]), (100057, [0, 6, 9, 10, 48, 49, 57])]
noncomputable def impl_PowerOf_l1 (a2 : Int) (a0 : Int) (r6 : (List Int)) (x63 : (List Int)) (x64 : Int) : Option (((List Int) × Int) ⊕ ((List Int) ⊕ ((Vec Int 64) × Int))) :=
  (if (decide (x64 < a2)) then (Option.bind (impl_prime_times a0 x63 r6) fun r76 => (Option.bind (impl_row_fits r76) fun r78 => (if (!r78) then (some (.inr ((.inr (((vrep 64 (0 : Int)), 3)))))) else (some (.inl ((r76, IntKind.i64.wrap (x64 + 1)))))))) else (some (.inr (.inl x63))))
noncomputable def impl_PowerOf (a0 : Int) (a1 : (Vec Int 64)) (a2 : Int) : Option ((Vec Int 64) × Int) :=
  (Option.bind (impl_polysCode a0 ([a1])) fun r2 => (if (r2 != 0) then (some (((vrep 64 (0 : Int)), r2))) else (Option.bind (impl_rowOf a1) fun r6 => (Option.bind (impl_isNumber a2) fun r8 => (if (!r8) then (some (((vrep 64 (0 : Int)), 2))) else (Option.bind (α := Bool) ((Option.bind (impl_row_degree r6) fun r18 => (if (decide (r18 > 0)) then (some ((decide (a2 > 63)))) else (some false)))) fun x14 => (if x14 then (some (((vrep 64 (0 : Int)), 3))) else (Option.bind (impl_row_degree r6) fun r22 => (if (decide (r22 ≤ 0)) then (Option.bind (impl_prime_power a0 r6 a2 ([0, 1])) fun r89 => (Option.bind (impl_told r89) fun r91 => (some (r91.1, r91.2)))) else (Option.bind (α := ((List Int) ⊕ ((Vec Int 64) × Int))) ((loopM (fun s : ((List Int) × Int) => impl_PowerOf_l1 a2 a0 r6 s.1 s.2) ([1], 0))) fun z => match z with | .inl x52 => (Option.bind (impl_told x52) fun r84 => (some (r84.1, r84.2))) | .inr r88 => (some r88)))))))))))
theorem impl_PowerOf_ok (a0 : Int) (a1 : (Vec Int 64)) (a2 : Int) (r : ((Vec Int 64) × Int)) (h : impl_PowerOf a0 a1 a2 = some r) : Den Try.prog 40 [(i6 a0), (eA64u8 a1), (i6 a2)] { r := (.tuple [(eA64u8 r.1), (i6 r.2)]) } := by
  refine den_of (rs := [(eA64u8 r.1), (i6 r.2)]) (ac := impl_PowerOf_c) (L := impl_PowerOf_L) (n := 64) (m := [(9, 1), (10, 1)]) (c := Try.f40.body.getD .skip) good Try.func40 (by kernel_rfl) (by kernel_rfl) Try.ntmps40 rfl rfl (by kernel_rfl) rfl rfl ?_
  refine a_st (σ' := ⟨[(0, (i6 a0)), (1, (eA64u8 a1)), (2, (i6 a2))], []⟩) (by kernel_rfl) ?_
  unfold impl_PowerOf_c
  refine sr (vo 1400 (eA64u8 a1) rfl rfl (vo 1600 (eA64u8 ((vrep 64 (0 : Int)))) rfl rfl (vp (i6 0) rfl (nx ⟨[(0, (i6 a0)), (2, (i6 a2)), (4, (ow 4)), (6, (ow 6))], [(4, (bk (eA64u8 a1))), (6, (bk (eA64u8 ((vrep 64 (0 : Int))))))]⟩ (by kernel_rfl) (a_seq (sr (vp (i6 a0) rfl (vl (eA64u8 a1) rfl rfl rfl rfl rfl rfl (vq (.sl 64 true (([a1]).map eA64u8)) rfl ⟨(Nat.le_of_ble_eq_true rfl), (Nat.le_of_ble_eq_true rfl), (all_cons ⟨(Nat.le_of_ble_eq_true rfl), rfl⟩ all_nil)⟩ ?_)))))))))
  obtain ⟨r2, hr3, h⟩ := bind_some h
  refine a_call (args := [(i6 a0), (.sl 64 true (([a1]).map eA64u8))]) (u := []) (r := (i6 r2)) rfl rfl (Den.args (impl_polysCode_ok a0 ([a1]) r2 hr3) rfl rfl (.cons (.refl _) (.cons (.loose _) .nil))) rfl (vp (i6 r2) rfl (nx ⟨[(0, (i6 a0)), (2, (i6 a2)), (4, (ow 4)), (6, (ow 6)), (8, (i6 r2))], [(4, (bk (eA64u8 a1))), (6, (bk (eA64u8 ((vrep 64 (0 : Int))))))]⟩ (by kernel_rfl) (sr (vp (i6 r2) rfl (vp (.bool (r2 != 0)) rfl (nx ⟨[(0, (i6 a0)), (2, (i6 a2)), (4, (ow 4)), (6, (ow 6)), (8, (i6 r2)), (16, (.bool (r2 != 0)))], [(4, (bk (eA64u8 a1))), (6, (bk (eA64u8 ((vrep 64 (0 : Int))))))]⟩ (by kernel_rfl) ?_))))))
  cases hb4 : (r2 != 0)
  · have h := ite_f hb4 h
    refine a_cond_f rfl (a_skip (a_next (σ' := ⟨[(0, (i6 a0)), (2, (i6 a2)), (4, (ow 4)), (6, (ow 6))], [(4, (bk (eA64u8 a1))), (6, (bk (eA64u8 ((vrep 64 (0 : Int))))))]⟩) (by kernel_rfl) (sr (vl (eA64u8 a1) rfl rfl rfl rfl rfl rfl ?_))))
    obtain ⟨r6, hr7, h⟩ := bind_some h
    refine a_call (args := [(eA64u8 a1)]) (u := []) (r := (eSi64 r6)) rfl rfl (impl_rowOf_ok a1 r6 hr7) rfl (vp (eSi64 r6) rfl (nx ⟨[(0, (i6 a0)), (2, (i6 a2)), (6, (ow 6)), (9, (eSi64 r6))], [(6, (bk (eA64u8 ((vrep 64 (0 : Int))))))]⟩ (by kernel_rfl) (a_seq (a_block (sr (vp (i6 a2) rfl ?_))))))
    obtain ⟨r8, hr9, h⟩ := bind_some h
    refine a_call (args := [(i6 a2)]) (u := []) (r := (.bool r8)) rfl rfl (impl_isNumber_ok a2 r8 hr9) rfl (vp (.bool (!r8)) rfl (vp (.bool (!r8)) rfl (nx ⟨[(0, (i6 a0)), (2, (i6 a2)), (6, (ow 6)), (9, (eSi64 r6)), (21, (.bool (!r8)))], [(6, (bk (eA64u8 ((vrep 64 (0 : Int))))))]⟩ (by kernel_rfl) ?_)))
    cases hb10 : (!r8)
    · have h := ite_f hb10 h
      refine a_cond_f rfl ?_
      obtain ⟨y15, hy16, hk17⟩ := bind_some h
      clear h
      refine a_join (emb := fun (s : Bool) => ⟨[(0, (i6 a0)), (2, (i6 a2)), (6, (ow 6)), (9, (eSi64 r6)), (26, (.bool s))], [(6, (bk (eA64u8 ((vrep 64 (0 : Int))))))]⟩) (pre := fun s => s = y15) ?_ ?_
      · rintro x14 rfl
        have h := hk17
        refine a_st (σ' := ⟨[(0, (i6 a0)), (2, (i6 a2)), (6, (ow 6)), (9, (eSi64 r6)), (26, (.bool x14))], [(6, (bk (eA64u8 ((vrep 64 (0 : Int))))))]⟩) (by kernel_rfl) ?_
        cases hb21 : x14
        · have h := ite_f hb21 h
          refine a_cond_f rfl (sr (vp (eSi64 r6) rfl ?_))
          obtain ⟨r22, hr23, h⟩ := bind_some h
          refine a_call (args := [(eSi64 r6)]) (u := []) (r := (i6 r22)) rfl rfl (impl_row_degree_ok r6 r22 hr23) rfl (vp (.bool ((decide (r22 ≤ 0)))) rfl (vp (.bool ((decide (r22 ≤ 0)))) rfl (nx ⟨[(0, (i6 a0)), (2, (i6 a2)), (6, (ow 6)), (9, (eSi64 r6)), (35, (.bool ((decide (r22 ≤ 0)))))], [(6, (bk (eA64u8 ((vrep 64 (0 : Int))))))]⟩ (by kernel_rfl) ?_)))
          cases hb24 : (decide (r22 ≤ 0))
          · have h := ite_f hb24 h
            refine a_cond_f rfl (a_skip (b_norm (a_next (σ' := ⟨[(0, (i6 a0)), (2, (i6 a2)), (6, (ow 6)), (9, (eSi64 r6))], [(6, (bk (eA64u8 ((vrep 64 (0 : Int))))))]⟩) (by kernel_rfl) (sr (vq (.sl 1 true (([1]).map (AV.int .i64))) rfl ⟨(Nat.le_of_ble_eq_true rfl), (Nat.le_of_ble_eq_true rfl), (all_cons ⟨(Nat.le_of_ble_eq_true rfl), rfl⟩ all_nil)⟩ (vq (eSi64 ([1])) (asg_tight (i := ⟨.int .i64, 1, 8, (.int .i64 0)⟩) (f := (AV.int .i64)) (l := [1]) rfl rfl rfl) trivial (nx ⟨[(0, (i6 a0)), (2, (i6 a2)), (6, (ow 6)), (9, (eSi64 r6)), (10, (eSi64 ([1])))], [(6, (bk (eA64u8 ((vrep 64 (0 : Int))))))]⟩ (by kernel_rfl) ?_)))))))
            obtain ⟨y53, hy54, hk55⟩ := bind_some h
            clear h
            refine a_join (emb := fun (s : (List Int)) => ⟨[(6, (ow 6)), (10, (eSi64 s))], [(6, (bk (eA64u8 ((vrep 64 (0 : Int))))))]⟩) (pre := fun s => (.inl s) = y53) ?_ ?_
            · rintro x52 rfl
              have h := hk55
              refine a_st (σ' := ⟨[(6, (ow 6)), (10, (eSi64 x52))], [(6, (bk (eA64u8 ((vrep 64 (0 : Int))))))]⟩) (by kernel_rfl) (sr (vp (eSi64 x52) rfl ?_))
              obtain ⟨r84, hr85, h⟩ := bind_some h
              refine a_call (args := [(eSi64 x52)]) (u := []) (r := (.tuple [(eA64u8 r84.1), (i6 r84.2)])) rfl rfl (impl_told_ok x52 r84 hr85) rfl (vb (eA64u8 r84.1) rfl rfl (vb (i6 r84.2) rfl rfl (vs (eA64u8 r84.1) rfl rfl (fun _ => rfl) rfl rfl rfl rfl rfl rfl (vp (i6 r84.2) rfl (nx _ rfl (a_ret ?_))))))
              have hl87 : LdOk [] (eA64u8 r84.1) [] 64 true (eA64u8 r84.1) := (.nil rfl rfl rfl)
              refine ⟨.inr rfl, ?_⟩
              rw [Try.results40]
              cases h
              exact ⟨_, _, _, _, _, ld_own (i := ⟨.arr 64 5, 64, 64, (eA64u8 (vrep 64 (0 : Int)))⟩) rfl rfl rfl hl87, hl87.c, .inl ⟨rfl, .inl rfl⟩, rfl, ⟨_, _, _, _, _, rfl, trivial, .inl ⟨rfl, .inl rfl⟩, rfl, rfl⟩⟩
            · have h := hy54
              refine sr (vp (i6 a2) rfl (vp (i6 0) rfl (nx ⟨[(0, (i6 a0)), (6, (ow 6)), (9, (eSi64 r6)), (10, (eSi64 ([1]))), (48, (i6 a2)), (49, (i6 0))], [(6, (bk (eA64u8 ((vrep 64 (0 : Int))))))]⟩ (by kernel_rfl) (a_block ?_))))
              refine a_loop (emb := fun (s : ((List Int) × Int)) => ⟨[(0, (i6 a0)), (6, (ow 6)), (9, (eSi64 r6)), (10, (eSi64 s.1)), (48, (i6 a2)), (49, (i6 s.2))], [(6, (bk (eA64u8 ((vrep 64 (0 : Int))))))]⟩) (body := (fun s : ((List Int) × Int) => impl_PowerOf_l1 a2 a0 r6 s.1 s.2)) (G := fun q => some q = some y53) h rfl ?_ (by kernel_rfl)
              rintro X72 ⟨x63, x64⟩ x73 h hX74
              have h : impl_PowerOf_l1 a2 a0 r6 x63 x64 = some x73 := h
              refine a_st (σ' := ⟨[(0, (i6 a0)), (6, (ow 6)), (9, (eSi64 r6)), (10, (eSi64 x63)), (48, (i6 a2)), (49, (i6 x64))], [(6, (bk (eA64u8 ((vrep 64 (0 : Int))))))]⟩) (by kernel_rfl) (sr (vp (.bool ((decide (x64 < a2)))) rfl (nx ⟨[(0, (i6 a0)), (6, (ow 6)), (9, (eSi64 r6)), (10, (eSi64 x63)), (48, (i6 a2)), (49, (i6 x64)), (50, (.bool ((decide (x64 < a2)))))], [(6, (bk (eA64u8 ((vrep 64 (0 : Int))))))]⟩ (by kernel_rfl) (a_seq ?_))))
              cases hb75 : (decide (x64 < a2))
              · have h := ite_f hb75 h
                refine a_cond_f rfl (a_exit (t_exit ?_))
                cases h
                have h := hX74
                refine t_exit (b_exit ?_)
                exact j_leaf x63 (Option.some.inj h) (by kernel_rfl)
              · have h := ite_t hb75 h
                refine a_cond_t rfl (a_skip (a_next (σ' := ⟨[(0, (i6 a0)), (6, (ow 6)), (9, (eSi64 r6)), (10, (eSi64 x63)), (48, (i6 a2)), (49, (i6 x64))], [(6, (bk (eA64u8 ((vrep 64 (0 : Int))))))]⟩) (by kernel_rfl) (a_seq (a_block (sr (vp (i6 a0) rfl (vp (eSi64 x63) rfl (vp (eSi64 r6) rfl ?_))))))))
                obtain ⟨r76, hr77, h⟩ := bind_some h
                refine a_call (args := [(i6 a0), (eSi64 x63), (eSi64 r6)]) (u := []) (r := (eSi64 r76)) rfl rfl (impl_prime_times_ok a0 x63 r6 r76 hr77) rfl (vp (eSi64 r76) rfl (nx ⟨[(0, (i6 a0)), (6, (ow 6)), (9, (eSi64 r6)), (10, (eSi64 r76)), (48, (i6 a2)), (49, (i6 x64))], [(6, (bk (eA64u8 ((vrep 64 (0 : Int))))))]⟩ (by kernel_rfl) (sr (vp (eSi64 r76) rfl ?_))))
                obtain ⟨r78, hr79, h⟩ := bind_some h
                refine a_call (args := [(eSi64 r76)]) (u := []) (r := (.bool r78)) rfl rfl (impl_row_fits_ok r76 r78 hr79) rfl (vp (.bool (!r78)) rfl (nx ⟨[(0, (i6 a0)), (6, (ow 6)), (9, (eSi64 r6)), (10, (eSi64 r76)), (48, (i6 a2)), (49, (i6 x64)), (57, (.bool (!r78)))], [(6, (bk (eA64u8 ((vrep 64 (0 : Int))))))]⟩ (by kernel_rfl) ?_))
                cases hb80 : (!r78)
                · have h := ite_f hb80 h
                  refine a_cond_f rfl (a_skip (b_norm (a_next (σ' := ⟨[(0, (i6 a0)), (6, (ow 6)), (9, (eSi64 r6)), (10, (eSi64 r76)), (48, (i6 a2)), (49, (i6 x64))], [(6, (bk (eA64u8 ((vrep 64 (0 : Int))))))]⟩) (by kernel_rfl) (a_region (vp (i6 (IntKind.i64.wrap (x64 + 1))) rfl (vp (i6 (IntKind.i64.wrap (x64 + 1))) rfl (a_nil ?_)))))))
                  cases h
                  exact a_again (by kernel_rfl) hX74
                · have h := ite_t hb80 h
                  refine a_cond_t rfl (sr (vq (eA64u8 ((vrep 64 (0 : Int)))) rfl ⟨⟨_, rfl, rfl⟩, all_nil⟩ (vs (eA64u8 ((vrep 64 (0 : Int)))) rfl rfl (fun _ => rfl) rfl rfl rfl rfl rfl rfl (vp (i6 3) rfl (nx _ rfl (a_ret (b_ret (t_ret ?_))))))))
                  cases h
                  have h := hX74
                  refine t_ret (b_ret (t_ret ?_))
                  cases h
                  have h := hk55
                  have hl82 : LdOk [] (eA64u8 ((vrep 64 (0 : Int)))) [] 64 true (eA64u8 ((vrep 64 (0 : Int)))) := (.nil rfl rfl rfl)
                  refine ⟨.inr rfl, ?_⟩
                  rw [Try.results40]
                  cases h
                  exact ⟨_, _, _, _, _, ld_own (i := ⟨.arr 64 5, 64, 64, (eA64u8 (vrep 64 (0 : Int)))⟩) rfl rfl rfl hl82, hl82.c, .inl ⟨rfl, .inl rfl⟩, rfl, ⟨_, _, _, _, _, rfl, trivial, .inl ⟨rfl, .inl rfl⟩, rfl, rfl⟩⟩
          · have h := ite_t hb24 h
            refine a_cond_t rfl (sr (vp (i6 a0) rfl (vp (eSi64 r6) rfl (vp (i6 a2) rfl (vq (.sl 1 true (([0, 1]).map (AV.int .i64))) rfl ⟨(Nat.le_of_ble_eq_true rfl), (Nat.le_of_ble_eq_true rfl), (all_cons ⟨(Nat.le_of_ble_eq_true rfl), rfl⟩ (all_cons ⟨(Nat.le_of_ble_eq_true rfl), rfl⟩ all_nil))⟩ ?_)))))
            obtain ⟨r89, hr90, h⟩ := bind_some h
            refine a_call (args := [(i6 a0), (eSi64 r6), (i6 a2), (.sl 1 true (([0, 1]).map (AV.int .i64)))]) (u := []) (r := (eSi64 r89)) rfl rfl (Den.args (impl_prime_power_ok a0 r6 a2 ([0, 1]) r89 hr90) rfl rfl (.cons (.refl _) (.cons (.refl _) (.cons (.refl _) (.cons (.loose _) .nil))))) rfl ?_
            obtain ⟨r91, hr92, h⟩ := bind_some h
            refine a_call (args := [(eSi64 r89)]) (u := []) (r := (.tuple [(eA64u8 r91.1), (i6 r91.2)])) rfl rfl (impl_told_ok r89 r91 hr92) rfl (vb (eA64u8 r91.1) rfl rfl (vb (i6 r91.2) rfl rfl (vs (eA64u8 r91.1) rfl rfl (fun _ => rfl) rfl rfl rfl rfl rfl rfl (vp (i6 r91.2) rfl (nx _ rfl (a_ret (b_ret (t_ret ?_))))))))
            have hl94 : LdOk [] (eA64u8 r91.1) [] 64 true (eA64u8 r91.1) := (.nil rfl rfl rfl)
            refine ⟨.inr rfl, ?_⟩
            rw [Try.results40]
            cases h
            exact ⟨_, _, _, _, _, ld_own (i := ⟨.arr 64 5, 64, 64, (eA64u8 (vrep 64 (0 : Int)))⟩) rfl rfl rfl hl94, hl94.c, .inl ⟨rfl, .inl rfl⟩, rfl, ⟨_, _, _, _, _, rfl, trivial, .inl ⟨rfl, .inl rfl⟩, rfl, rfl⟩⟩
        · have h := ite_t hb21 h
          refine a_cond_t rfl (sr (vq (eA64u8 ((vrep 64 (0 : Int)))) rfl ⟨⟨_, rfl, rfl⟩, all_nil⟩ (vs (eA64u8 ((vrep 64 (0 : Int)))) rfl rfl (fun _ => rfl) rfl rfl rfl rfl rfl rfl (vp (i6 3) rfl (nx _ rfl (a_ret (b_ret (t_ret ?_))))))))
          have hl96 : LdOk [] (eA64u8 ((vrep 64 (0 : Int)))) [] 64 true (eA64u8 ((vrep 64 (0 : Int)))) := (.nil rfl rfl rfl)
          refine ⟨.inr rfl, ?_⟩
          rw [Try.results40]
          cases h
          exact ⟨_, _, _, _, _, ld_own (i := ⟨.arr 64 5, 64, 64, (eA64u8 (vrep 64 (0 : Int)))⟩) rfl rfl rfl hl96, hl96.c, .inl ⟨rfl, .inl rfl⟩, rfl, ⟨_, _, _, _, _, rfl, trivial, .inl ⟨rfl, .inl rfl⟩, rfl, rfl⟩⟩
      · have h := hy16
        refine a_region (vp (eSi64 r6) rfl ?_)
        obtain ⟨r18, hr19, h⟩ := bind_some h
        refine a_call (args := [(eSi64 r6)]) (u := []) (r := (i6 r18)) rfl rfl (impl_row_degree_ok r6 r18 hr19) rfl (vp (.bool ((decide (r18 > 0)))) rfl (vp (.bool ((decide (r18 > 0)))) rfl ?_))
        cases hb20 : (decide (r18 > 0))
        · have h := ite_f hb20 h
          refine a_gskip rfl (a_gskip rfl (vp (.bool false) rfl (vp (.bool false) rfl (a_nil ?_))))
          exact j_leaf false (Option.some.inj h) (by kernel_rfl)
        · have h := ite_t hb20 h
          refine gp (i6 a2) rfl rfl (gp (.bool ((decide (a2 > 63)))) rfl rfl (vp (.bool ((decide (a2 > 63)))) rfl (vp (.bool ((decide (a2 > 63)))) rfl (a_nil ?_))))
          exact j_leaf ((decide (a2 > 63))) (Option.some.inj h) (by kernel_rfl)
    · have h := ite_t hb10 h
      refine a_cond_t rfl (sr (vq (eA64u8 ((vrep 64 (0 : Int)))) rfl ⟨⟨_, rfl, rfl⟩, all_nil⟩ (vs (eA64u8 ((vrep 64 (0 : Int)))) rfl rfl (fun _ => rfl) rfl rfl rfl rfl rfl rfl (vp (i6 2) rfl (nx _ rfl (a_ret (b_ret (t_ret ?_))))))))
      have hl98 : LdOk [] (eA64u8 ((vrep 64 (0 : Int)))) [] 64 true (eA64u8 ((vrep 64 (0 : Int)))) := (.nil rfl rfl rfl)
      refine ⟨.inr rfl, ?_⟩
      rw [Try.results40]
      cases h
      exact ⟨_, _, _, _, _, ld_own (i := ⟨.arr 64 5, 64, 64, (eA64u8 (vrep 64 (0 : Int)))⟩) rfl rfl rfl hl98, hl98.c, .inl ⟨rfl, .inl rfl⟩, rfl, ⟨_, _, _, _, _, rfl, trivial, .inl ⟨rfl, .inl rfl⟩, rfl, rfl⟩⟩
  · have h := ite_t hb4 h
    refine a_cond_t rfl (sr (vq (eA64u8 ((vrep 64 (0 : Int)))) rfl ⟨⟨_, rfl, rfl⟩, all_nil⟩ (vp (i6 r2) rfl (vs (eA64u8 ((vrep 64 (0 : Int)))) rfl rfl (fun _ => rfl) rfl rfl rfl rfl rfl rfl (vp (i6 r2) rfl (nx _ rfl (a_ret (t_ret ?_))))))))
    have hl100 : LdOk [] (eA64u8 ((vrep 64 (0 : Int)))) [] 64 true (eA64u8 ((vrep 64 (0 : Int)))) := (.nil rfl rfl rfl)
    refine ⟨.inr rfl, ?_⟩
    rw [Try.results40]
    cases h
    exact ⟨_, _, _, _, _, ld_own (i := ⟨.arr 64 5, 64, 64, (eA64u8 (vrep 64 (0 : Int)))⟩) rfl rfl rfl hl100, hl100.c, .inl ⟨rfl, .inl rfl⟩, rfl, ⟨_, _, _, _, _, rfl, trivial, .inl ⟨rfl, .inl rfl⟩, rfl, rfl⟩⟩
def impl_MultiplyPolys_c : ACode := (.seq (.region 0 [q 4 (.box 25 (t 1)), q 5 (.box 25 (t 2)), q 6 (.alloc 25), q 7 (.asg 0 (.const (.int .i64 0)) 2)] false) (.seq (.seq (.region 1 [q 9 (.mov (t 0)), q 10 (.load 25 (t 4)), q 11 (.load 25 (t 5)), q 12 (.bslice 0 55 2 [(0, (t 10)), (1, (t 11))]), q 13 (.call 0 (.func 100) [(t 9), (t 12)]), q 8 (.asg 0 (t 13) 2)] false) (.seq (.region 2 [q 14 (.mov (t 8)), q 15 (.bin .neq 2 (t 14) (.const (.int .i64 0)))] false) (.cond (t 15) (.seq (.region 3 [q 16 (.build 25 []), q 17 (.mov (t 8)), ⟨none, .store 25 (t 6) (t 16), none, []⟩, q 7 (.asg 0 (t 17) 2)] false) .ret) .skip))) (.seq (.region 4 [q 18 (.mov (t 0)), q 19 (.load 25 (t 4)), ⟨some 20, .call 0 (.func 103) [(t 19)], none, [1]⟩, q 21 (.load 25 (t 5)), ⟨some 22, .call 0 (.func 103) [(t 21)], none, [3, 2]⟩, ⟨some 23, .call 0 (.func 102) [(t 18), (t 20), (t 22)], none, [0, 2, 4, 4]⟩, ⟨some 24, .call 0 (.func 101) [(t 23)], none, [5, 5]⟩, ⟨some 25, .extract (t 24) 0, none, [6]⟩, ⟨some 26, .extract (t 24) 1, none, [6]⟩, ⟨none, .store 25 (t 6) (t 25), none, [7, 6, 0, 1, 2, 3, 4, 5, 6, 7, 8]⟩, ⟨some 7, .asg 0 (t 26) 2, none, [8, 9, 0, 1, 2, 3, 4, 5, 6, 7, 8, 9]⟩] true) .ret)))
def impl_MultiplyPolys_L : Live := [(0, [0, 1, 2]), (1, [0, 4, 5, 6]), (2, [0, 4, 5, 6, 8]), (3, [6, 8]), (4, [0, 4, 5, 6]), (100015, [0, 4, 5, 6, 8, 15])]
noncomputable def impl_MultiplyPolys (a0 : Int) (a1 : (Vec Int 64)) (a2 : (Vec Int 64)) : Option ((Vec Int 64) × Int) :=
  (Option.bind (impl_polysCode a0 ([a1, a2])) fun r3 => (if (r3 != 0) then (some (((vrep 64 (0 : Int)), r3))) else (Option.bind (impl_rowOf a1) fun r18 => (Option.bind (impl_rowOf a2) fun r21 => (Option.bind (impl_prime_times a0 r18 r21) fun r23 => (Option.bind (impl_told r23) fun r25 => (some (r25.1, r25.2))))))))
theorem impl_MultiplyPolys_ok (a0 : Int) (a1 : (Vec Int 64)) (a2 : (Vec Int 64)) (r : ((Vec Int 64) × Int)) (h : impl_MultiplyPolys a0 a1 a2 = some r) : Den Try.prog 12 [(i6 a0), (eA64u8 a1), (eA64u8 a2)] { r := (.tuple [(eA64u8 r.1), (i6 r.2)]) } := by
  refine den_of (rs := [(eA64u8 r.1), (i6 r.2)]) (ac := impl_MultiplyPolys_c) (L := impl_MultiplyPolys_L) (n := 27) (m := []) (c := Try.f12.body.getD .skip) good Try.func12 (by kernel_rfl) (by kernel_rfl) Try.ntmps12 rfl rfl (by kernel_rfl) rfl rfl ?_
  refine a_st (σ' := ⟨[(0, (i6 a0)), (1, (eA64u8 a1)), (2, (eA64u8 a2))], []⟩) (by kernel_rfl) ?_
  unfold impl_MultiplyPolys_c
  refine sr (vo 1400 (eA64u8 a1) rfl rfl (vo 1500 (eA64u8 a2) rfl rfl (vo 1600 (eA64u8 ((vrep 64 (0 : Int)))) rfl rfl (vp (i6 0) rfl (nx ⟨[(0, (i6 a0)), (4, (ow 4)), (5, (ow 5)), (6, (ow 6))], [(4, (bk (eA64u8 a1))), (5, (bk (eA64u8 a2))), (6, (bk (eA64u8 ((vrep 64 (0 : Int))))))]⟩ (by kernel_rfl) (a_seq (sr (vp (i6 a0) rfl (vl (eA64u8 a1) rfl rfl rfl rfl rfl rfl ?_)))))))))
  refine vl (eA64u8 a2) rfl rfl rfl rfl rfl rfl (vq (.sl 64 true (([a1, a2]).map eA64u8)) rfl ⟨(Nat.le_of_ble_eq_true rfl), (Nat.le_of_ble_eq_true rfl), (all_cons ⟨(Nat.le_of_ble_eq_true rfl), rfl⟩ (all_cons ⟨(Nat.le_of_ble_eq_true rfl), rfl⟩ all_nil))⟩ ?_)
  obtain ⟨r3, hr4, h⟩ := bind_some h
  refine a_call (args := [(i6 a0), (.sl 64 true (([a1, a2]).map eA64u8))]) (u := []) (r := (i6 r3)) rfl rfl (Den.args (impl_polysCode_ok a0 ([a1, a2]) r3 hr4) rfl rfl (.cons (.refl _) (.cons (.loose _) .nil))) rfl (vp (i6 r3) rfl (nx ⟨[(0, (i6 a0)), (4, (ow 4)), (5, (ow 5)), (6, (ow 6)), (8, (i6 r3))], [(4, (bk (eA64u8 a1))), (5, (bk (eA64u8 a2))), (6, (bk (eA64u8 ((vrep 64 (0 : Int))))))]⟩ (by kernel_rfl) (sr (vp (i6 r3) rfl (vp (.bool (r3 != 0)) rfl (nx ⟨[(0, (i6 a0)), (4, (ow 4)), (5, (ow 5)), (6, (ow 6)), (8, (i6 r3)), (15, (.bool (r3 != 0)))], [(4, (bk (eA64u8 a1))), (5, (bk (eA64u8 a2))), (6, (bk (eA64u8 ((vrep 64 (0 : Int))))))]⟩ (by kernel_rfl) ?_))))))
  cases hb5 : (r3 != 0)
  · have h := ite_f hb5 h
    refine a_cond_f rfl (a_skip (a_next (σ' := ⟨[(0, (i6 a0)), (4, (ow 4)), (5, (ow 5)), (6, (ow 6))], [(4, (bk (eA64u8 a1))), (5, (bk (eA64u8 a2))), (6, (bk (eA64u8 ((vrep 64 (0 : Int))))))]⟩) (by kernel_rfl) (a_seq (a_draw [⟨[], [], [], []⟩, ⟨[4], [], [], []⟩, ⟨[], [], [], [1]⟩, ⟨[5], [], [], []⟩, ⟨[], [], [], [1, 2, 3]⟩, ⟨[], [], [], [0, 1, 2, 3, 4]⟩, ⟨[], [], [], [0, 1, 2, 3, 4, 5]⟩, ⟨[], [], [], [0, 1, 2, 3, 4, 5, 6]⟩, ⟨[], [], [], [0, 1, 2, 3, 4, 5, 6]⟩, ⟨[6], [6], [], [0, 1, 2, 3, 4, 5, 6, 7, 8]⟩, ⟨[], [], [], [0, 1, 2, 3, 4, 5, 6, 7, 8, 9]⟩] (by kernel_rfl) (dp (i6 a0) rfl (by kernel_rfl) (d_cons (vl (eA64u8 a1) rfl rfl rfl rfl rfl rfl (d_next (by kernel_rfl) (d_cons ?_)))))))))
    obtain ⟨r18, hr19, h⟩ := bind_some h
    refine a_call (args := [(eA64u8 a1)]) (u := []) (r := (eSi64 r18)) rfl rfl (impl_rowOf_ok a1 r18 hr19) rfl (d_next (by kernel_rfl) (d_cons (vl (eA64u8 a2) rfl rfl rfl rfl rfl rfl (d_next (by kernel_rfl) (d_cons ?_)))))
    obtain ⟨r21, hr22, h⟩ := bind_some h
    refine a_call (args := [(eA64u8 a2)]) (u := []) (r := (eSi64 r21)) rfl rfl (impl_rowOf_ok a2 r21 hr22) rfl (d_next (by kernel_rfl) (d_cons ?_))
    obtain ⟨r23, hr24, h⟩ := bind_some h
    refine a_call (args := [(i6 a0), (eSi64 r18), (eSi64 r21)]) (u := []) (r := (eSi64 r23)) rfl rfl (impl_prime_times_ok a0 r18 r21 r23 hr24) rfl (d_next (by kernel_rfl) (d_cons ?_))
    obtain ⟨r25, hr26, h⟩ := bind_some h
    refine a_call (args := [(eSi64 r23)]) (u := []) (r := (.tuple [(eA64u8 r25.1), (i6 r25.2)])) rfl rfl (impl_told_ok r23 r25 hr26) rfl (d_next (by kernel_rfl) (d_cons (vb (eA64u8 r25.1) rfl rfl (d_next (by kernel_rfl) (d_cons (vb (i6 r25.2) rfl rfl (d_next (by kernel_rfl) (d_cons (vs (eA64u8 r25.1) rfl rfl (fun _ => rfl) rfl rfl rfl rfl rfl rfl ?_)))))))))
    refine d_next (by kernel_rfl) (dp (i6 r25.2) rfl (by kernel_rfl) (d_nil (a_next rfl (a_ret ?_))))
    have hl28 : LdOk [] (eA64u8 r25.1) [] 64 true (eA64u8 r25.1) := (.nil rfl rfl rfl)
    refine ⟨.inr rfl, ?_⟩
    rw [Try.results12]
    cases h
    exact ⟨_, _, _, _, _, ld_own (i := ⟨.arr 64 5, 64, 64, (eA64u8 (vrep 64 (0 : Int)))⟩) rfl rfl rfl hl28, hl28.c, .inl ⟨rfl, .inl rfl⟩, rfl, ⟨_, _, _, _, _, rfl, trivial, .inl ⟨rfl, .inl rfl⟩, rfl, rfl⟩⟩
  · have h := ite_t hb5 h
    refine a_cond_t rfl (sr (vq (eA64u8 ((vrep 64 (0 : Int)))) rfl ⟨⟨_, rfl, rfl⟩, all_nil⟩ (vp (i6 r3) rfl (vs (eA64u8 ((vrep 64 (0 : Int)))) rfl rfl (fun _ => rfl) rfl rfl rfl rfl rfl rfl (vp (i6 r3) rfl (nx _ rfl (a_ret (t_ret ?_))))))))
    have hl30 : LdOk [] (eA64u8 ((vrep 64 (0 : Int)))) [] 64 true (eA64u8 ((vrep 64 (0 : Int)))) := (.nil rfl rfl rfl)
    refine ⟨.inr rfl, ?_⟩
    rw [Try.results12]
    cases h
    exact ⟨_, _, _, _, _, ld_own (i := ⟨.arr 64 5, 64, 64, (eA64u8 (vrep 64 (0 : Int)))⟩) rfl rfl rfl hl30, hl30.c, .inl ⟨rfl, .inl rfl⟩, rfl, ⟨_, _, _, _, _, rfl, trivial, .inl ⟨rfl, .inl rfl⟩, rfl, rfl⟩⟩
def laws_FnFactorials_c : ACode := (.seq (.region 0 [q 2 (.asg 0 (.const (.bool false)) 4)] false) (.seq (.seq (.region 1 [q 37 (.mov (t 0)), q 38 (.call 0 (.func 10) [(t 37)])] false) (.cond (t 38) (.seq (.region 2 [q 2 (.asg 0 (.const (.bool true)) 4)] false) .ret) .skip)) (.seq (.region 3 [q 40 (.mov (t 0)), q 41 (.call 0 (.func 30) [(t 40)]), q 39 (.mov (t 41)), q 42 (.extract (t 39) 0), q 43 (.extract (t 39) 1), q 3 (.asg 0 (t 42) 2), q 4 (.asg 0 (t 43) 2)] false) (.seq (.region 4 [q 45 (.mov (t 3)), q 46 (.mov (t 4)), q 47 (.call 0 (.func 31) [(t 45), (t 46)]), q 44 (.mov (t 47)), q 48 (.extract (t 44) 0), q 49 (.extract (t 44) 1), q 5 (.alloc 25), ⟨none, .store 25 (t 5) (t 48), none, []⟩, q 6 (.asg 0 (t 49) 2)] false) (.seq (.seq (.region 5 [q 51 (.mov (t 3)), q 52 (.mov (t 4)), q 53 (.call 0 (.func 32) [(t 51), (t 52)]), q 50 (.mov (t 53)), q 54 (.extract (t 50) 0), q 55 (.extract (t 50) 1), q 7 (.alloc 25), ⟨none, .store 25 (t 7) (t 54), none, []⟩, q 8 (.asg 0 (t 55) 2)] false) (.seq (.region 6 [q 56 (.mov (t 6)), q 57 (.mov (t 8)), q 58 (.bin .neq 2 (t 56) (t 57)), q 59 (.mov (t 58)), ⟨some 60, .load 25 (t 5), some (59, false), []⟩, ⟨some 61, .load 25 (t 7), some (59, false), []⟩, ⟨some 62, .bin .neq 25 (t 60) (t 61), some (59, false), []⟩, q 63 (.pick (t 59) (.const (.bool true)) (t 62))] false) (.cond (t 63) (.seq (.region 7 [q 2 (.asg 0 (.const (.bool false)) 4)] false) .ret) .skip))) (.seq (.region 8 [q 65 (.mov (t 3)), q 66 (.mov (t 4)), q 67 (.call 0 (.func 33) [(t 65), (t 66)]), q 64 (.mov (t 67)), q 68 (.extract (t 64) 0), q 69 (.extract (t 64) 1), q 9 (.alloc 25), ⟨none, .store 25 (t 9) (t 68), none, []⟩, q 10 (.asg 0 (t 69) 2)] false) (.seq (.seq (.region 9 [q 71 (.mov (t 3)), q 72 (.mov (t 4)), q 73 (.call 0 (.func 34) [(t 71), (t 72)]), q 70 (.mov (t 73)), q 74 (.extract (t 70) 0), q 75 (.extract (t 70) 1), q 11 (.alloc 25), ⟨none, .store 25 (t 11) (t 74), none, []⟩, q 12 (.asg 0 (t 75) 2)] false) (.seq (.region 10 [q 76 (.mov (t 10)), q 77 (.mov (t 12)), q 78 (.bin .neq 2 (t 76) (t 77)), q 79 (.mov (t 78)), ⟨some 80, .load 25 (t 9), some (79, false), []⟩, ⟨some 81, .load 25 (t 11), some (79, false), []⟩, ⟨some 82, .bin .neq 25 (t 80) (t 81), some (79, false), []⟩, q 83 (.pick (t 79) (.const (.bool true)) (t 82))] false) (.cond (t 83) (.seq (.region 11 [q 2 (.asg 0 (.const (.bool false)) 4)] false) .ret) .skip))) (.seq (.region 12 [q 85 (.mov (t 3)), q 86 (.mov (t 4)), q 87 (.call 0 (.func 35) [(t 85), (t 86)]), q 84 (.mov (t 87)), q 88 (.extract (t 84) 0), q 89 (.extract (t 84) 1), q 13 (.alloc 25), ⟨none, .store 25 (t 13) (t 88), none, []⟩, q 14 (.asg 0 (t 89) 2)] false) (.seq (.seq (.region 13 [q 91 (.mov (t 3)), q 92 (.mov (t 4)), q 93 (.call 0 (.func 36) [(t 91), (t 92)]), q 90 (.mov (t 93)), q 94 (.extract (t 90) 0), q 95 (.extract (t 90) 1), q 15 (.alloc 25), ⟨none, .store 25 (t 15) (t 94), none, []⟩, q 16 (.asg 0 (t 95) 2)] false) (.seq (.region 14 [q 96 (.mov (t 14)), q 97 (.mov (t 16)), q 98 (.bin .neq 2 (t 96) (t 97)), q 99 (.mov (t 98)), ⟨some 100, .load 25 (t 13), some (99, false), []⟩, ⟨some 101, .load 25 (t 15), some (99, false), []⟩, ⟨some 102, .bin .neq 25 (t 100) (t 101), some (99, false), []⟩, q 103 (.pick (t 99) (.const (.bool true)) (t 102))] false) (.cond (t 103) (.seq (.region 15 [q 2 (.asg 0 (.const (.bool false)) 4)] false) .ret) .skip))) (.seq (.region 16 [q 105 (.mov (t 0)), q 106 (.call 0 (.func 37) [(t 105)]), q 104 (.mov (t 106)), q 107 (.extract (t 104) 0), q 108 (.extract (t 104) 1), q 17 (.asg 0 (t 107) 2), q 18 (.asg 0 (t 108) 2)] false) (.seq (.region 17 [q 110 (.mov (t 17)), q 111 (.mov (t 18)), q 112 (.call 0 (.func 38) [(t 110), (t 111)]), q 109 (.mov (t 112)), q 113 (.extract (t 109) 0), q 114 (.extract (t 109) 1), q 19 (.alloc 25), ⟨none, .store 25 (t 19) (t 113), none, []⟩, q 20 (.asg 0 (t 114) 2)] false) (.seq (.seq (.region 18 [q 116 (.mov (t 17)), q 117 (.mov (t 18)), q 118 (.call 0 (.func 39) [(t 116), (t 117)]), q 115 (.mov (t 118)), q 119 (.extract (t 115) 0), q 120 (.extract (t 115) 1), q 21 (.alloc 25), ⟨none, .store 25 (t 21) (t 119), none, []⟩, q 22 (.asg 0 (t 120) 2)] false) (.seq (.region 19 [q 121 (.mov (t 20)), q 122 (.mov (t 22)), q 123 (.bin .neq 2 (t 121) (t 122)), q 124 (.mov (t 123)), ⟨some 125, .load 25 (t 19), some (124, false), []⟩, ⟨some 126, .load 25 (t 21), some (124, false), []⟩, ⟨some 127, .bin .neq 25 (t 125) (t 126), some (124, false), []⟩, q 128 (.pick (t 124) (.const (.bool true)) (t 127))] false) (.cond (t 128) (.seq (.region 20 [q 2 (.asg 0 (.const (.bool false)) 4)] false) .ret) .skip))) (.seq (.seq (.region 21 [q 129 (.mov (t 4)), q 130 (.bin .lss 2 (t 129) (.const (.int .i64 1)))] false) (.cond (t 130) (.seq (.region 22 [q 2 (.asg 0 (.const (.bool true)) 4)] false) .ret) .skip)) (.seq (.seq (.region 23 [q 131 (.mov (t 10)), q 132 (.bin .eql 2 (t 131) (.const (.int .i64 0)))] false) (.cond (t 132) (.seq (.region 24 [q 134 (.mov (t 3)), q 135 (.mov (t 4)), q 136 (.bin .sub 2 (t 135) (.const (.int .i64 1))), q 137 (.call 0 (.func 33) [(t 134), (t 136)]), q 133 (.mov (t 137)), q 138 (.extract (t 133) 0), q 139 (.extract (t 133) 1), q 23 (.alloc 25), ⟨none, .store 25 (t 23) (t 138), none, []⟩, q 24 (.asg 0 (t 139) 2)] false) (.seq (.region 25 [q 141 (.mov (t 3)), q 142 (.load 25 (t 23)), q 143 (.mov (t 3)), q 144 (.call 0 (.func 40) [(t 141), (t 142), (t 143)]), q 140 (.mov (t 144)), q 145 (.extract (t 140) 0), q 146 (.extract (t 140) 1), q 25 (.alloc 25), ⟨none, .store 25 (t 25) (t 145), none, []⟩, q 26 (.asg 0 (t 146) 2)] false) (.seq (.region 26 [q 148 (.mov (t 3)), q 149 (.load 25 (t 5)), q 150 (.load 25 (t 25)), q 151 (.call 0 (.func 12) [(t 148), (t 149), (t 150)]), q 147 (.mov (t 151)), q 152 (.extract (t 147) 0), q 153 (.extract (t 147) 1), q 27 (.alloc 25), ⟨none, .store 25 (t 27) (t 152), none, []⟩, q 28 (.asg 0 (t 153) 2)] false) (.seq (.seq (.region 27 [q 154 (.mov (t 6)), q 155 (.bin .neq 2 (t 154) (.const (.int .i64 0))), q 156 (.mov (t 155)), ⟨some 157, .mov (t 24), some (156, false), []⟩, ⟨some 158, .bin .neq 2 (t 157) (.const (.int .i64 0)), some (156, false), []⟩, q 159 (.pick (t 156) (.const (.bool true)) (t 158)), q 160 (.mov (t 159)), ⟨some 161, .mov (t 26), some (160, false), []⟩, ⟨some 162, .bin .neq 2 (t 161) (.const (.int .i64 0)), some (160, false), []⟩, q 163 (.pick (t 160) (.const (.bool true)) (t 162)), q 164 (.mov (t 163)), ⟨some 165, .mov (t 28), some (164, false), []⟩, ⟨some 166, .bin .neq 2 (t 165) (.const (.int .i64 0)), some (164, false), []⟩, q 167 (.pick (t 164) (.const (.bool true)) (t 166)), q 168 (.mov (t 167)), ⟨some 169, .load 25 (t 27), some (168, false), []⟩, ⟨some 170, .load 25 (t 9), some (168, false), []⟩, ⟨some 171, .bin .neq 25 (t 169) (t 170), some (168, false), []⟩, q 172 (.pick (t 168) (.const (.bool true)) (t 171))] false) (.cond (t 172) (.seq (.region 28 [q 2 (.asg 0 (.const (.bool false)) 4)] false) .ret) .skip)) (.seq (.region 29 [q 29 (.asg 0 (.const (.int .i64 1)) 2)] false) (.seq (.seq (.region 30 [q 30 (.asg 0 (.const (.int .i64 0)) 2)] false) (.block 0 (.loop (.seq (.seq (.region 31 [q 173 (.mov (t 30)), q 174 (.mov (t 4)), q 175 (.bin .lss 2 (t 173) (t 174))] false) (.cond (t 175) .skip (.exit 0))) (.seq (.block 1 (.region 33 [q 178 (.mov (t 29)), q 179 (.mov (t 3)), q 180 (.bin .mul 2 (t 178) (t 179)), q 29 (.asg 0 (t 180) 2)] false)) (.region 32 [q 176 (.mov (t 30)), q 177 (.bin .add 2 (t 176) (.const (.int .i64 1))), q 30 (.asg 0 (t 177) 2)] false)))))) (.seq (.region 34 [q 181 (.mov (t 29)), q 182 (.bin .leq 2 (t 181) (.const (.int .i64 1000)))] false) (.cond (t 182) (.seq (.region 35 [q 184 (.mov (t 3)), q 185 (.mov (t 29)), q 186 (.call 0 (.func 38) [(t 184), (t 185)]), q 183 (.mov (t 186)), q 187 (.extract (t 183) 0), q 188 (.extract (t 183) 1), q 31 (.alloc 25), ⟨none, .store 25 (t 31) (t 187), none, []⟩, q 32 (.asg 0 (t 188) 2)] false) (.seq (.region 36 [q 189 (.mov (t 32)), q 190 (.bin .neq 2 (t 189) (.const (.int .i64 0))), q 191 (.mov (t 190)), ⟨some 192, .load 25 (t 31), some (191, false), []⟩, ⟨some 193, .load 25 (t 9), some (191, false), []⟩, ⟨some 194, .bin .neq 25 (t 192) (t 193), some (191, false), []⟩, q 195 (.pick (t 191) (.const (.bool true)) (t 194))] false) (.cond (t 195) (.seq (.region 37 [q 2 (.asg 0 (.const (.bool false)) 4)] false) .ret) .skip))) .skip)))))))) .skip)) (.seq (.seq (.region 38 [q 196 (.mov (t 14)), q 197 (.bin .eql 2 (t 196) (.const (.int .i64 0)))] false) (.cond (t 197) (.seq (.region 39 [q 199 (.mov (t 3)), q 200 (.mov (t 4)), q 201 (.bin .sub 2 (t 200) (.const (.int .i64 1))), q 202 (.call 0 (.func 35) [(t 199), (t 201)]), q 198 (.mov (t 202)), q 203 (.extract (t 198) 0), q 204 (.extract (t 198) 1), q 33 (.alloc 25), ⟨none, .store 25 (t 33) (t 203), none, []⟩, q 34 (.asg 0 (t 204) 2)] false) (.seq (.region 40 [q 206 (.mov (t 3)), q 207 (.load 25 (t 5)), q 208 (.load 25 (t 33)), q 209 (.call 0 (.func 12) [(t 206), (t 207), (t 208)]), q 205 (.mov (t 209)), q 210 (.extract (t 205) 0), q 211 (.extract (t 205) 1), q 35 (.alloc 25), ⟨none, .store 25 (t 35) (t 210), none, []⟩, q 36 (.asg 0 (t 211) 2)] false) (.seq (.region 41 [q 212 (.mov (t 6)), q 213 (.bin .neq 2 (t 212) (.const (.int .i64 0))), q 214 (.mov (t 213)), ⟨some 215, .mov (t 34), some (214, false), []⟩, ⟨some 216, .bin .neq 2 (t 215) (.const (.int .i64 0)), some (214, false), []⟩, q 217 (.pick (t 214) (.const (.bool true)) (t 216)), q 218 (.mov (t 217)), ⟨some 219, .mov (t 36), some (218, false), []⟩, ⟨some 220, .bin .neq 2 (t 219) (.const (.int .i64 0)), some (218, false), []⟩, q 221 (.pick (t 218) (.const (.bool true)) (t 220)), q 222 (.mov (t 221)), ⟨some 223, .load 25 (t 35), some (222, false), []⟩, ⟨some 224, .load 25 (t 13), some (222, false), []⟩, ⟨some 225, .bin .neq 25 (t 223) (t 224), some (222, false), []⟩, q 226 (.pick (t 222) (.const (.bool true)) (t 225))] false) (.cond (t 226) (.seq (.region 42 [q 2 (.asg 0 (.const (.bool false)) 4)] false) .ret) .skip)))) .skip)) (.seq (.region 43 [q 2 (.asg 0 (.const (.bool true)) 4)] false) .ret))))))))))))))))
def laws_FnFactorials_L : Live := [(0, [0]), (1, [0]), (2, []), (3, [0]), (4, [0, 3, 4]), (5, [0, 3, 4, 5, 6]), (6, [0, 3, 4, 5, 6, 7, 8]), (7, []), (8, [0, 3, 4, 5, 6]), (9, [0, 3, 4, 5, 6, 9, 10]), (10, [0, 3, 4, 5, 6, 9, 10, 11, 12]), (11, []), (12, [0, 3, 4, 5, 6, 9, 10]), (13, [0, 3, 4, 5, 6, 9, 10, 13, 14]), (14, [0, 3, 4, 5, 6, 9, 10, 13, 14, 15, 16]), (15, []), (16, [0, 3, 4, 5, 6, 9, 10, 13, 14]), (17, [3, 4, 5, 6, 9, 10, 13, 14, 17, 18]), (18, [3, 4, 5, 6, 9, 10, 13, 14, 17, 18, 19, 20]), (19, [3, 4, 5, 6, 9, 10, 13, 14, 19, 20, 21, 22]), (20, []), (21, [3, 4, 5, 6, 9, 10, 13, 14]), (22, []), (23, [3, 4, 5, 6, 9, 10, 13, 14]), (24, [3, 4, 5, 6, 9, 13, 14]), (25, [3, 4, 5, 6, 9, 13, 14, 23, 24]), (26, [3, 4, 5, 6, 9, 13, 14, 24, 25, 26]), (27, [3, 4, 5, 6, 9, 13, 14, 24, 26, 27, 28]), (28, []), (29, [3, 4, 5, 6, 9, 13, 14]), (30, [3, 4, 5, 6, 9, 13, 14, 29]), (31, [3, 4, 5, 6, 9, 13, 14, 29, 30]), (32, [3, 4, 5, 6, 9, 13, 14, 29, 30]), (33, [3, 4, 5, 6, 9, 13, 14, 29, 30]), (34, [3, 4, 5, 6, 9, 13, 14, 29]), (35, [3, 4, 5, 6, 9, 13, 14, 29]), (36, [3, 4, 5, 6, 9, 13, 14, 31, 32]), (37, []), (38, [3, 4, 5, 6, 13, 14]), (39, [3, 4, 5, 6, 13]), (40, [3, 5, 6, 13, 33, 34]), (41, [6, 13, 34, 35, 36]), (42, []), (43, []), (100038, [0, 38]), (100063, [0, 3, 4, 5, 6, 63]), (100083, [0, 3, 4, 5, 6, 9, 10, 83]), (100103, [0, 3, 4, 5, 6, 9, 10, 13, 14, 103]), (100128, [3, 4, 5, 6, 9, 10, 13, 14, 128]), (100130, [3, 4, 5, 6, 9, 10, 13, 14, 130]), (100132, [3, 4, 5, 6, 9, 13, 14, 132]), (100172, [3, 4, 5, 6, 9, 13, 14, 172]), (100175, [3, 4, 5, 6, 9, 13, 14, 29, 30, 175]), (100182, [3, 4, 5, 6, 9, 13, 14, 29, 182]), (100195, [3, 4, 5, 6, 13, 14, 195]), (100197, [3, 4, 5, 6, 13, 197]), (100226, [226])]
noncomputable def laws_FnFactorials_l1 (r4 : (Int × Int)) (x191 : Int) (x192 : Int) : Option ((Int × Int) ⊕ Int) :=
  (if (decide (x192 < r4.2)) then (some (.inl ((IntKind.i64.wrap (x191 * r4.1), IntKind.i64.wrap (x192 + 1))))) else (some (.inr x191)))
noncomputable def laws_FnFactorials (a0 : (List Int)) : Option Bool :=
  (Option.bind (laws_big a0) fun r1 => (if r1 then (some true) else (Option.bind (spec_DrawBracketOf a0) fun r4 => (Option.bind (impl_BracketOf r4.1 r4.2) fun r6 => (Option.bind (spec_BracketOf r4.1 r4.2) fun r9 => (Option.bind (α := Bool) ((if (r6.2 != r9.2) then (some true) else (some ((!decide (r6.1 = r9.1)))))) fun x15 => (if x15 then (some false) else (Option.bind (impl_FirstFactorial r4.1 r4.2) fun r23 => (Option.bind (spec_FirstFactorial r4.1 r4.2) fun r26 => (Option.bind (α := Bool) ((if (r23.2 != r26.2) then (some true) else (some ((!decide (r23.1 = r26.1)))))) fun x32 => (if x32 then (some false) else (Option.bind (impl_SecondFactorial r4.1 r4.2) fun r40 => (Option.bind (spec_SecondFactorial r4.1 r4.2) fun r43 => (Option.bind (α := Bool) ((if (r40.2 != r43.2) then (some true) else (some ((!decide (r40.1 = r43.1)))))) fun x49 => (if x49 then (some false) else (Option.bind (spec_DrawCarlitzFactorial a0) fun r57 => (Option.bind (impl_CarlitzFactorial r57.1 r57.2) fun r59 => (Option.bind (spec_CarlitzFactorial r57.1 r57.2) fun r62 => (Option.bind (α := Bool) ((if (r59.2 != r62.2) then (some true) else (some ((!decide (r59.1 = r62.1)))))) fun x68 => (if x68 then (some false) else (if (decide (r4.2 < 1)) then (some true) else (Option.bind (α := (Unit ⊕ Bool)) ((if (r23.2 == 0) then (Option.bind (impl_FirstFactorial r4.1 (IntKind.i64.wrap (r4.2 - 1))) fun r148 => (Option.bind (impl_PowerOf r4.1 r148.1 r4.1) fun r152 => (Option.bind (impl_MultiplyPolys r4.1 r6.1 r152.1) fun r157 => (Option.bind (α := Bool) ((if (r6.2 != 0) then (some true) else (if (r148.2 != 0) then (some true) else (if (r152.2 != 0) then (some true) else (if (r157.2 != 0) then (some true) else (some ((!decide (r157.1 = r23.1))))))))) fun x166 => (if x166 then (some (.inr false)) else (Option.bind (α := Int) ((loopM (fun s : (Int × Int) => laws_FnFactorials_l1 r4 s.1 s.2) (1, 0))) fun x186 => (if (decide (x186 ≤ 1000)) then (Option.bind (impl_CarlitzFactorial r4.1 x186) fun r200 => (Option.bind (α := Bool) ((if (r200.2 != 0) then (some true) else (some ((!decide (r200.1 = r23.1)))))) fun x206 => (if x206 then (some (.inr false)) else (some ((.inl ())))))) else (some ((.inl ())))))))))) else (some ((.inl ()))))) fun z => match z with | .inl _ => (Option.bind (α := (Unit ⊕ Bool)) ((if (r40.2 == 0) then (Option.bind (impl_SecondFactorial r4.1 (IntKind.i64.wrap (r4.2 - 1))) fun r242 => (Option.bind (impl_MultiplyPolys r4.1 r6.1 r242.1) fun r247 => (Option.bind (α := Bool) ((if (r6.2 != 0) then (some true) else (if (r242.2 != 0) then (some true) else (if (r247.2 != 0) then (some true) else (some ((!decide (r247.1 = r40.1)))))))) fun x255 => (if x255 then (some (.inr false)) else (some ((.inl ()))))))) else (some ((.inl ()))))) fun z => match z with | .inl _ => (some true) | .inr r265 => (some r265)) | .inr r266 => (some r266)))))))))))))))))))))))
theorem laws_FnFactorials_ok (a0 : (List Int)) (r : Bool) (h : laws_FnFactorials a0 = some r) : Den Try.prog 4 [(eSu8 a0)] { r := (.bool r) } := by
  refine den_of (rs := [(.bool r)]) (ac := laws_FnFactorials_c) (L := laws_FnFactorials_L) (n := 227) (m := []) (c := Try.f4.body.getD .skip) good Try.func4 (by kernel_rfl) (by kernel_rfl) Try.ntmps4 rfl rfl (by kernel_rfl) rfl rfl ?_
  refine a_st (σ' := ⟨[(0, (eSu8 a0))], []⟩) (by kernel_rfl) ?_
  unfold laws_FnFactorials_c
  refine sr (vp (.bool false) rfl (nx ⟨[(0, (eSu8 a0))], []⟩ (by kernel_rfl) (a_seq (sr (vp (eSu8 a0) rfl ?_)))))
  obtain ⟨r1, hr2, h⟩ := bind_some h
  refine a_call (args := [(eSu8 a0)]) (u := []) (r := (.bool r1)) rfl rfl (laws_big_ok a0 r1 hr2) rfl (nx ⟨[(0, (eSu8 a0)), (38, (.bool r1))], []⟩ (by kernel_rfl) ?_)
  cases hb3 : r1
  · have h := ite_f hb3 h
    refine a_cond_f rfl (a_skip (a_next (σ' := ⟨[(0, (eSu8 a0))], []⟩) (by kernel_rfl) (sr (vp (eSu8 a0) rfl ?_))))
    obtain ⟨r4, hr5, h⟩ := bind_some h
    refine a_call (args := [(eSu8 a0)]) (u := []) (r := (.tuple [(i6 r4.1), (i6 r4.2)])) rfl rfl (spec_DrawBracketOf_ok a0 r4 hr5) rfl (vp (.tuple [(i6 r4.1), (i6 r4.2)]) rfl (vb (i6 r4.1) rfl rfl (vb (i6 r4.2) rfl rfl (vp (i6 r4.1) rfl (vp (i6 r4.2) rfl (nx ⟨[(0, (eSu8 a0)), (3, (i6 r4.1)), (4, (i6 r4.2))], []⟩ (by kernel_rfl) (sr (vp (i6 r4.1) rfl (vp (i6 r4.2) rfl ?_)))))))))
    obtain ⟨r6, hr7, h⟩ := bind_some h
    refine a_call (args := [(i6 r4.1), (i6 r4.2)]) (u := []) (r := (.tuple [(eA64u8 r6.1), (i6 r6.2)])) rfl rfl (impl_BracketOf_ok r4.1 r4.2 r6 hr7) rfl (vp (.tuple [(eA64u8 r6.1), (i6 r6.2)]) rfl (vb (eA64u8 r6.1) rfl rfl (vb (i6 r6.2) rfl rfl (vo 1500 (eA64u8 ((vrep 64 (0 : Int)))) rfl rfl (vs (eA64u8 r6.1) rfl rfl (fun _ => rfl) rfl rfl rfl rfl rfl rfl (vp (i6 r6.2) rfl (nx ⟨[(0, (eSu8 a0)), (3, (i6 r4.1)), (4, (i6 r4.2)), (5, (ow 5)), (6, (i6 r6.2))], [(5, (bk (eA64u8 r6.1)))]⟩ (by kernel_rfl) (a_seq (sr ?_)))))))))
    refine vp (i6 r4.1) rfl (vp (i6 r4.2) rfl ?_)
    obtain ⟨r9, hr10, h⟩ := bind_some h
    refine a_call (args := [(i6 r4.1), (i6 r4.2)]) (u := []) (r := (.tuple [(eA64u8 r9.1), (i6 r9.2)])) rfl rfl (spec_BracketOf_ok r4.1 r4.2 r9 hr10) rfl (vp (.tuple [(eA64u8 r9.1), (i6 r9.2)]) rfl (vb (eA64u8 r9.1) rfl rfl (vb (i6 r9.2) rfl rfl (vo 1700 (eA64u8 ((vrep 64 (0 : Int)))) rfl rfl (vs (eA64u8 r9.1) rfl rfl (fun _ => rfl) rfl rfl rfl rfl rfl rfl (vp (i6 r9.2) rfl (nx ⟨[(0, (eSu8 a0)), (3, (i6 r4.1)), (4, (i6 r4.2)), (5, (ow 5)), (6, (i6 r6.2)), (7, (ow 7)), (8, (i6 r9.2))], [(5, (bk (eA64u8 r6.1))), (7, (bk (eA64u8 r9.1)))]⟩ (by kernel_rfl) ?_)))))))
    obtain ⟨y16, hy17, hk18⟩ := bind_some h
    clear h
    refine a_join (emb := fun (s : Bool) => ⟨[(0, (eSu8 a0)), (3, (i6 r4.1)), (4, (i6 r4.2)), (5, (ow 5)), (6, (i6 r6.2)), (63, (.bool s))], [(5, (bk (eA64u8 r6.1)))]⟩) (pre := fun s => s = y16) ?_ ?_
    · rintro x15 rfl
      have h := hk18
      refine a_st (σ' := ⟨[(0, (eSu8 a0)), (3, (i6 r4.1)), (4, (i6 r4.2)), (5, (ow 5)), (6, (i6 r6.2)), (63, (.bool x15))], [(5, (bk (eA64u8 r6.1)))]⟩) (by kernel_rfl) ?_
      cases hb22 : x15
      · have h := ite_f hb22 h
        refine a_cond_f rfl (a_skip (a_next (σ' := ⟨[(0, (eSu8 a0)), (3, (i6 r4.1)), (4, (i6 r4.2)), (5, (ow 5)), (6, (i6 r6.2))], [(5, (bk (eA64u8 r6.1)))]⟩) (by kernel_rfl) (sr (vp (i6 r4.1) rfl (vp (i6 r4.2) rfl ?_)))))
        obtain ⟨r23, hr24, h⟩ := bind_some h
        refine a_call (args := [(i6 r4.1), (i6 r4.2)]) (u := []) (r := (.tuple [(eA64u8 r23.1), (i6 r23.2)])) rfl rfl (impl_FirstFactorial_ok r4.1 r4.2 r23 hr24) rfl (vp (.tuple [(eA64u8 r23.1), (i6 r23.2)]) rfl (vb (eA64u8 r23.1) rfl rfl (vb (i6 r23.2) rfl rfl (vo 1900 (eA64u8 ((vrep 64 (0 : Int)))) rfl rfl (vs (eA64u8 r23.1) rfl rfl (fun _ => rfl) rfl rfl rfl rfl rfl rfl (vp (i6 r23.2) rfl (nx ⟨[(0, (eSu8 a0)), (3, (i6 r4.1)), (4, (i6 r4.2)), (5, (ow 5)), (6, (i6 r6.2)), (9, (ow 9)), (10, (i6 r23.2))], [(5, (bk (eA64u8 r6.1))), (9, (bk (eA64u8 r23.1)))]⟩ (by kernel_rfl) (a_seq (sr ?_)))))))))
        refine vp (i6 r4.1) rfl (vp (i6 r4.2) rfl ?_)
        obtain ⟨r26, hr27, h⟩ := bind_some h
        refine a_call (args := [(i6 r4.1), (i6 r4.2)]) (u := []) (r := (.tuple [(eA64u8 r26.1), (i6 r26.2)])) rfl rfl (spec_FirstFactorial_ok r4.1 r4.2 r26 hr27) rfl (vp (.tuple [(eA64u8 r26.1), (i6 r26.2)]) rfl (vb (eA64u8 r26.1) rfl rfl (vb (i6 r26.2) rfl rfl (vo 2100 (eA64u8 ((vrep 64 (0 : Int)))) rfl rfl (vs (eA64u8 r26.1) rfl rfl (fun _ => rfl) rfl rfl rfl rfl rfl rfl (vp (i6 r26.2) rfl (nx ⟨[(0, (eSu8 a0)), (3, (i6 r4.1)), (4, (i6 r4.2)), (5, (ow 5)), (6, (i6 r6.2)), (9, (ow 9)), (10, (i6 r23.2)), (11, (ow 11)), (12, (i6 r26.2))], [(5, (bk (eA64u8 r6.1))), (9, (bk (eA64u8 r23.1))), (11, (bk (eA64u8 r26.1)))]⟩ (by kernel_rfl) ?_)))))))
        obtain ⟨y33, hy34, hk35⟩ := bind_some h
        clear h
        refine a_join (emb := fun (s : Bool) => ⟨[(0, (eSu8 a0)), (3, (i6 r4.1)), (4, (i6 r4.2)), (5, (ow 5)), (6, (i6 r6.2)), (9, (ow 9)), (10, (i6 r23.2)), (83, (.bool s))], [(5, (bk (eA64u8 r6.1))), (9, (bk (eA64u8 r23.1)))]⟩) (pre := fun s => s = y33) ?_ ?_
        · rintro x32 rfl
          have h := hk35
          refine a_st (σ' := ⟨[(0, (eSu8 a0)), (3, (i6 r4.1)), (4, (i6 r4.2)), (5, (ow 5)), (6, (i6 r6.2)), (9, (ow 9)), (10, (i6 r23.2)), (83, (.bool x32))], [(5, (bk (eA64u8 r6.1))), (9, (bk (eA64u8 r23.1)))]⟩) (by kernel_rfl) ?_
          cases hb39 : x32
          · have h := ite_f hb39 h
            refine a_cond_f rfl (a_skip (a_next (σ' := ⟨[(0, (eSu8 a0)), (3, (i6 r4.1)), (4, (i6 r4.2)), (5, (ow 5)), (6, (i6 r6.2)), (9, (ow 9)), (10, (i6 r23.2))], [(5, (bk (eA64u8 r6.1))), (9, (bk (eA64u8 r23.1)))]⟩) (by kernel_rfl) (sr (vp (i6 r4.1) rfl (vp (i6 r4.2) rfl ?_)))))
            obtain ⟨r40, hr41, h⟩ := bind_some h
            refine a_call (args := [(i6 r4.1), (i6 r4.2)]) (u := []) (r := (.tuple [(eA64u8 r40.1), (i6 r40.2)])) rfl rfl (impl_SecondFactorial_ok r4.1 r4.2 r40 hr41) rfl (vp (.tuple [(eA64u8 r40.1), (i6 r40.2)]) rfl (vb (eA64u8 r40.1) rfl rfl (vb (i6 r40.2) rfl rfl (vo 2300 (eA64u8 ((vrep 64 (0 : Int)))) rfl rfl (vs (eA64u8 r40.1) rfl rfl (fun _ => rfl) rfl rfl rfl rfl rfl rfl (vp (i6 r40.2) rfl (nx ⟨[(0, (eSu8 a0)), (3, (i6 r4.1)), (4, (i6 r4.2)), (5, (ow 5)), (6, (i6 r6.2)), (9, (ow 9)), (10, (i6 r23.2)), (13, (ow 13)), (14, (i6 r40.2))], [(5, (bk (eA64u8 r6.1))), (9, (bk (eA64u8 r23.1))), (13, (bk (eA64u8 r40.1)))]⟩ (by kernel_rfl) (a_seq (sr ?_)))))))))
            refine vp (i6 r4.1) rfl (vp (i6 r4.2) rfl ?_)
            obtain ⟨r43, hr44, h⟩ := bind_some h
            refine a_call (args := [(i6 r4.1), (i6 r4.2)]) (u := []) (r := (.tuple [(eA64u8 r43.1), (i6 r43.2)])) rfl rfl (spec_SecondFactorial_ok r4.1 r4.2 r43 hr44) rfl (vp (.tuple [(eA64u8 r43.1), (i6 r43.2)]) rfl (vb (eA64u8 r43.1) rfl rfl (vb (i6 r43.2) rfl rfl (vo 2500 (eA64u8 ((vrep 64 (0 : Int)))) rfl rfl (vs (eA64u8 r43.1) rfl rfl (fun _ => rfl) rfl rfl rfl rfl rfl rfl (vp (i6 r43.2) rfl (nx ⟨[(0, (eSu8 a0)), (3, (i6 r4.1)), (4, (i6 r4.2)), (5, (ow 5)), (6, (i6 r6.2)), (9, (ow 9)), (10, (i6 r23.2)), (13, (ow 13)), (14, (i6 r40.2)), (15, (ow 15)), (16, (i6 r43.2))], [(5, (bk (eA64u8 r6.1))), (9, (bk (eA64u8 r23.1))), (13, (bk (eA64u8 r40.1))), (15, (bk (eA64u8 r43.1)))]⟩ (by kernel_rfl) ?_)))))))
            obtain ⟨y50, hy51, hk52⟩ := bind_some h
            clear h
            refine a_join (emb := fun (s : Bool) => ⟨[(0, (eSu8 a0)), (3, (i6 r4.1)), (4, (i6 r4.2)), (5, (ow 5)), (6, (i6 r6.2)), (9, (ow 9)), (10, (i6 r23.2)), (13, (ow 13)), (14, (i6 r40.2)), (103, (.bool s))], [(5, (bk (eA64u8 r6.1))), (9, (bk (eA64u8 r23.1))), (13, (bk (eA64u8 r40.1)))]⟩) (pre := fun s => s = y50) ?_ ?_
            · rintro x49 rfl
              have h := hk52
              refine a_st (σ' := ⟨[(0, (eSu8 a0)), (3, (i6 r4.1)), (4, (i6 r4.2)), (5, (ow 5)), (6, (i6 r6.2)), (9, (ow 9)), (10, (i6 r23.2)), (13, (ow 13)), (14, (i6 r40.2)), (103, (.bool x49))], [(5, (bk (eA64u8 r6.1))), (9, (bk (eA64u8 r23.1))), (13, (bk (eA64u8 r40.1)))]⟩) (by kernel_rfl) ?_
              cases hb56 : x49
              · have h := ite_f hb56 h
                refine a_cond_f rfl (a_skip (a_next (σ' := ⟨[(0, (eSu8 a0)), (3, (i6 r4.1)), (4, (i6 r4.2)), (5, (ow 5)), (6, (i6 r6.2)), (9, (ow 9)), (10, (i6 r23.2)), (13, (ow 13)), (14, (i6 r40.2))], [(5, (bk (eA64u8 r6.1))), (9, (bk (eA64u8 r23.1))), (13, (bk (eA64u8 r40.1)))]⟩) (by kernel_rfl) (sr (vp (eSu8 a0) rfl ?_))))
                obtain ⟨r57, hr58, h⟩ := bind_some h
                refine a_call (args := [(eSu8 a0)]) (u := []) (r := (.tuple [(i6 r57.1), (i6 r57.2)])) rfl rfl (spec_DrawCarlitzFactorial_ok a0 r57 hr58) rfl (vp (.tuple [(i6 r57.1), (i6 r57.2)]) rfl (vb (i6 r57.1) rfl rfl (vb (i6 r57.2) rfl rfl (vp (i6 r57.1) rfl (vp (i6 r57.2) rfl (nx ⟨[(3, (i6 r4.1)), (4, (i6 r4.2)), (5, (ow 5)), (6, (i6 r6.2)), (9, (ow 9)), (10, (i6 r23.2)), (13, (ow 13)), (14, (i6 r40.2)), (17, (i6 r57.1)), (18, (i6 r57.2))], [(5, (bk (eA64u8 r6.1))), (9, (bk (eA64u8 r23.1))), (13, (bk (eA64u8 r40.1)))]⟩ (by kernel_rfl) (sr (vp (i6 r57.1) rfl (vp (i6 r57.2) rfl ?_)))))))))
                obtain ⟨r59, hr60, h⟩ := bind_some h
                refine a_call (args := [(i6 r57.1), (i6 r57.2)]) (u := []) (r := (.tuple [(eA64u8 r59.1), (i6 r59.2)])) rfl rfl (impl_CarlitzFactorial_ok r57.1 r57.2 r59 hr60) rfl (vp (.tuple [(eA64u8 r59.1), (i6 r59.2)]) rfl (vb (eA64u8 r59.1) rfl rfl (vb (i6 r59.2) rfl rfl (vo 2900 (eA64u8 ((vrep 64 (0 : Int)))) rfl rfl (vs (eA64u8 r59.1) rfl rfl (fun _ => rfl) rfl rfl rfl rfl rfl rfl (vp (i6 r59.2) rfl (nx ⟨[(3, (i6 r4.1)), (4, (i6 r4.2)), (5, (ow 5)), (6, (i6 r6.2)), (9, (ow 9)), (10, (i6 r23.2)), (13, (ow 13)), (14, (i6 r40.2)), (17, (i6 r57.1)), (18, (i6 r57.2)), (19, (ow 19)), (20, (i6 r59.2))], [(5, (bk (eA64u8 r6.1))), (9, (bk (eA64u8 r23.1))), (13, (bk (eA64u8 r40.1))), (19, (bk (eA64u8 r59.1)))]⟩ (by kernel_rfl) (a_seq (sr ?_)))))))))
                refine vp (i6 r57.1) rfl (vp (i6 r57.2) rfl ?_)
                obtain ⟨r62, hr63, h⟩ := bind_some h
                refine a_call (args := [(i6 r57.1), (i6 r57.2)]) (u := []) (r := (.tuple [(eA64u8 r62.1), (i6 r62.2)])) rfl rfl (spec_CarlitzFactorial_ok r57.1 r57.2 r62 hr63) rfl (vp (.tuple [(eA64u8 r62.1), (i6 r62.2)]) rfl (vb (eA64u8 r62.1) rfl rfl (vb (i6 r62.2) rfl rfl (vo 3100 (eA64u8 ((vrep 64 (0 : Int)))) rfl rfl (vs (eA64u8 r62.1) rfl rfl (fun _ => rfl) rfl rfl rfl rfl rfl rfl (vp (i6 r62.2) rfl (nx ⟨[(3, (i6 r4.1)), (4, (i6 r4.2)), (5, (ow 5)), (6, (i6 r6.2)), (9, (ow 9)), (10, (i6 r23.2)), (13, (ow 13)), (14, (i6 r40.2)), (19, (ow 19)), (20, (i6 r59.2)), (21, (ow 21)), (22, (i6 r62.2))], [(5, (bk (eA64u8 r6.1))), (9, (bk (eA64u8 r23.1))), (13, (bk (eA64u8 r40.1))), (19, (bk (eA64u8 r59.1))), (21, (bk (eA64u8 r62.1)))]⟩ (by kernel_rfl) ?_)))))))
                obtain ⟨y69, hy70, hk71⟩ := bind_some h
                clear h
                refine a_join (emb := fun (s : Bool) => ⟨[(3, (i6 r4.1)), (4, (i6 r4.2)), (5, (ow 5)), (6, (i6 r6.2)), (9, (ow 9)), (10, (i6 r23.2)), (13, (ow 13)), (14, (i6 r40.2)), (128, (.bool s))], [(5, (bk (eA64u8 r6.1))), (9, (bk (eA64u8 r23.1))), (13, (bk (eA64u8 r40.1)))]⟩) (pre := fun s => s = y69) ?_ ?_
                · rintro x68 rfl
                  have h := hk71
                  refine a_st (σ' := ⟨[(3, (i6 r4.1)), (4, (i6 r4.2)), (5, (ow 5)), (6, (i6 r6.2)), (9, (ow 9)), (10, (i6 r23.2)), (13, (ow 13)), (14, (i6 r40.2)), (128, (.bool x68))], [(5, (bk (eA64u8 r6.1))), (9, (bk (eA64u8 r23.1))), (13, (bk (eA64u8 r40.1)))]⟩) (by kernel_rfl) ?_
                  cases hb75 : x68
                  · have h := ite_f hb75 h
                    refine a_cond_f rfl (a_skip (a_next (σ' := ⟨[(3, (i6 r4.1)), (4, (i6 r4.2)), (5, (ow 5)), (6, (i6 r6.2)), (9, (ow 9)), (10, (i6 r23.2)), (13, (ow 13)), (14, (i6 r40.2))], [(5, (bk (eA64u8 r6.1))), (9, (bk (eA64u8 r23.1))), (13, (bk (eA64u8 r40.1)))]⟩) (by kernel_rfl) (a_seq (sr (vp (i6 r4.2) rfl (vp (.bool ((decide (r4.2 < 1)))) rfl (nx ⟨[(3, (i6 r4.1)), (4, (i6 r4.2)), (5, (ow 5)), (6, (i6 r6.2)), (9, (ow 9)), (10, (i6 r23.2)), (13, (ow 13)), (14, (i6 r40.2)), (130, (.bool ((decide (r4.2 < 1)))))], [(5, (bk (eA64u8 r6.1))), (9, (bk (eA64u8 r23.1))), (13, (bk (eA64u8 r40.1)))]⟩ (by kernel_rfl) ?_)))))))
                    cases hb76 : (decide (r4.2 < 1))
                    · have h := ite_f hb76 h
                      refine a_cond_f rfl (a_skip (a_next (σ' := ⟨[(3, (i6 r4.1)), (4, (i6 r4.2)), (5, (ow 5)), (6, (i6 r6.2)), (9, (ow 9)), (10, (i6 r23.2)), (13, (ow 13)), (14, (i6 r40.2))], [(5, (bk (eA64u8 r6.1))), (9, (bk (eA64u8 r23.1))), (13, (bk (eA64u8 r40.1)))]⟩) (by kernel_rfl) ?_))
                      obtain ⟨y144, hy145, hk146⟩ := bind_some h
                      clear h
                      refine a_join (emb := fun (s : Unit) => ⟨[(3, (i6 r4.1)), (4, (i6 r4.2)), (5, (ow 5)), (6, (i6 r6.2)), (13, (ow 13)), (14, (i6 r40.2))], [(5, (bk (eA64u8 r6.1))), (13, (bk (eA64u8 r40.1)))]⟩) (pre := fun s => (.inl s) = y144) ?_ ?_
                      · rintro _ rfl
                        have h := hk146
                        refine a_st (σ' := ⟨[(3, (i6 r4.1)), (4, (i6 r4.2)), (5, (ow 5)), (6, (i6 r6.2)), (13, (ow 13)), (14, (i6 r40.2))], [(5, (bk (eA64u8 r6.1))), (13, (bk (eA64u8 r40.1)))]⟩) (by kernel_rfl) ?_
                        obtain ⟨y238, hy239, hk240⟩ := bind_some h
                        clear h
                        refine a_join (emb := fun (s : Unit) => ⟨[], []⟩) (pre := fun s => (.inl s) = y238) ?_ ?_
                        · rintro _ rfl
                          have h := hk240
                          refine a_st (σ' := ⟨[], []⟩) (by kernel_rfl) (sr (vp (.bool true) rfl (nx _ rfl (a_ret ?_))))
                          refine ⟨.inr rfl, ?_⟩
                          rw [Try.results4]
                          cases h
                          exact ⟨_, _, _, _, _, rfl, trivial, .inl ⟨rfl, .inl rfl⟩, rfl, rfl⟩
                        · have h := hy239
                          refine sr (vp (i6 r40.2) rfl (vp (.bool (r40.2 == 0)) rfl (nx ⟨[(3, (i6 r4.1)), (4, (i6 r4.2)), (5, (ow 5)), (6, (i6 r6.2)), (13, (ow 13)), (197, (.bool (r40.2 == 0)))], [(5, (bk (eA64u8 r6.1))), (13, (bk (eA64u8 r40.1)))]⟩ (by kernel_rfl) ?_)))
                          cases hb241 : (r40.2 == 0)
                          · have h := ite_f hb241 h
                            refine a_cond_f rfl (a_skip ?_)
                            exact j_leaf () (Option.some.inj h) (by kernel_rfl)
                          · have h := ite_t hb241 h
                            refine a_cond_t rfl (sr (vp (i6 r4.1) rfl (vp (i6 r4.2) rfl (vp (i6 (IntKind.i64.wrap (r4.2 - 1))) rfl ?_))))
                            obtain ⟨r242, hr243, h⟩ := bind_some h
                            refine a_call (args := [(i6 r4.1), (i6 (IntKind.i64.wrap (r4.2 - 1)))]) (u := []) (r := (.tuple [(eA64u8 r242.1), (i6 r242.2)])) rfl rfl (impl_SecondFactorial_ok r4.1 (IntKind.i64.wrap (r4.2 - 1)) r242 hr243) rfl (vp (.tuple [(eA64u8 r242.1), (i6 r242.2)]) rfl (vb (eA64u8 r242.1) rfl rfl (vb (i6 r242.2) rfl rfl (vo 4300 (eA64u8 ((vrep 64 (0 : Int)))) rfl rfl (vs (eA64u8 r242.1) rfl rfl (fun _ => rfl) rfl rfl rfl rfl rfl rfl (vp (i6 r242.2) rfl (nx ⟨[(3, (i6 r4.1)), (5, (ow 5)), (6, (i6 r6.2)), (13, (ow 13)), (33, (ow 33)), (34, (i6 r242.2))], [(5, (bk (eA64u8 r6.1))), (13, (bk (eA64u8 r40.1))), (33, (bk (eA64u8 r242.1)))]⟩ (by kernel_rfl) (sr (vp (i6 r4.1) rfl ?_)))))))))
                            refine vl (eA64u8 r6.1) rfl rfl rfl rfl rfl rfl (vl (eA64u8 r242.1) rfl rfl rfl rfl rfl rfl ?_)
                            obtain ⟨r247, hr248, h⟩ := bind_some h
                            refine a_call (args := [(i6 r4.1), (eA64u8 r6.1), (eA64u8 r242.1)]) (u := []) (r := (.tuple [(eA64u8 r247.1), (i6 r247.2)])) rfl rfl (impl_MultiplyPolys_ok r4.1 r6.1 r242.1 r247 hr248) rfl (vp (.tuple [(eA64u8 r247.1), (i6 r247.2)]) rfl (vb (eA64u8 r247.1) rfl rfl (vb (i6 r247.2) rfl rfl (vo 4500 (eA64u8 ((vrep 64 (0 : Int)))) rfl rfl (vs (eA64u8 r247.1) rfl rfl (fun _ => rfl) rfl rfl rfl rfl rfl rfl (vp (i6 r247.2) rfl (nx ⟨[(6, (i6 r6.2)), (13, (ow 13)), (34, (i6 r242.2)), (35, (ow 35)), (36, (i6 r247.2))], [(13, (bk (eA64u8 r40.1))), (35, (bk (eA64u8 r247.1)))]⟩ (by kernel_rfl) ?_)))))))
                            obtain ⟨y256, hy257, hk258⟩ := bind_some h
                            clear h
                            refine a_join (emb := fun (s : Bool) => ⟨[(226, (.bool s))], []⟩) (pre := fun s => s = y256) ?_ ?_
                            · rintro x255 rfl
                              have h := hk258
                              refine a_st (σ' := ⟨[(226, (.bool x255))], []⟩) (by kernel_rfl) ?_
                              cases hb264 : x255
                              · have h := ite_f hb264 h
                                refine a_cond_f rfl (a_skip ?_)
                                exact j_leaf () (Option.some.inj h) (by kernel_rfl)
                              · have h := ite_t hb264 h
                                refine a_cond_t rfl (sr (vp (.bool false) rfl (nx _ rfl (a_ret (t_ret ?_)))))
                                cases h
                                have h := hk240
                                refine ⟨.inr rfl, ?_⟩
                                rw [Try.results4]
                                cases h
                                exact ⟨_, _, _, _, _, rfl, trivial, .inl ⟨rfl, .inl rfl⟩, rfl, rfl⟩
                            · have h := hy257
                              refine a_region (vp (i6 r6.2) rfl (vp (.bool (r6.2 != 0)) rfl (vp (.bool (r6.2 != 0)) rfl ?_)))
                              cases hb259 : (r6.2 != 0)
                              · have h := ite_f hb259 h
                                refine gp (i6 r242.2) rfl rfl (gp (.bool (r242.2 != 0)) rfl rfl (vp (.bool (r242.2 != 0)) rfl (vp (.bool (r242.2 != 0)) rfl ?_)))
                                cases hb260 : (r242.2 != 0)
                                · have h := ite_f hb260 h
                                  refine gp (i6 r247.2) rfl rfl (gp (.bool (r247.2 != 0)) rfl rfl (vp (.bool (r247.2 != 0)) rfl (vp (.bool (r247.2 != 0)) rfl ?_)))
                                  cases hb261 : (r247.2 != 0)
                                  · have h := ite_f hb261 h
                                    have hl262 : LdOk [] (eA64u8 r247.1) [] 64 true (eA64u8 r247.1) := (.nil rfl rfl rfl)
                                    refine gq (eA64u8 r247.1) rfl (ld_own (i := ⟨.arr 64 5, 64, 64, (eA64u8 (vrep 64 (0 : Int)))⟩) rfl rfl rfl hl262) hl262.c ?_
                                    have hl263 : LdOk [] (eA64u8 r40.1) [] 64 true (eA64u8 r40.1) := (.nil rfl rfl rfl)
                                    refine gq (eA64u8 r40.1) rfl (ld_own (i := ⟨.arr 64 5, 64, 64, (eA64u8 (vrep 64 (0 : Int)))⟩) rfl rfl rfl hl263) hl263.c (gq (.bool ((!decide (r247.1 = r40.1)))) rfl (nea_run (f := (AV.int .u8)) (a := r247.1.1) (b := r40.1.1) rfl rfl (eqb_vec (fun _ _ => eqb_int _ _) r247.1 r40.1)) (cmp_arr (g := 8) (f := (AV.int .u8)) (x := r247.1) (y := r40.1) rfl rfl rfl (fun _ _ => rfl) (fun _ _ => cmp_int rfl)) (vp (.bool ((!decide (r247.1 = r40.1)))) rfl (a_nil ?_)))
                                    exact j_leaf ((!decide (r247.1 = r40.1))) (Option.some.inj h) (by kernel_rfl)
                                  · have h := ite_t hb261 h
                                    refine a_gskip rfl (a_gskip rfl (a_gskip rfl (vp (.bool true) rfl (a_nil ?_))))
                                    exact j_leaf true (Option.some.inj h) (by kernel_rfl)
                                · have h := ite_t hb260 h
                                  refine a_gskip rfl (a_gskip rfl (vp (.bool true) rfl (vp (.bool true) rfl (a_gskip rfl (a_gskip rfl (a_gskip rfl (vp (.bool true) rfl (a_nil ?_))))))))
                                  exact j_leaf true (Option.some.inj h) (by kernel_rfl)
                              · have h := ite_t hb259 h
                                refine a_gskip rfl (a_gskip rfl (vp (.bool true) rfl (vp (.bool true) rfl (a_gskip rfl (a_gskip rfl (vp (.bool true) rfl (vp (.bool true) rfl (a_gskip rfl (a_gskip rfl ?_)))))))))
                                refine a_gskip rfl (vp (.bool true) rfl (a_nil ?_))
                                exact j_leaf true (Option.some.inj h) (by kernel_rfl)
                      · have h := hy145
                        refine sr (vp (i6 r23.2) rfl (vp (.bool (r23.2 == 0)) rfl (nx ⟨[(3, (i6 r4.1)), (4, (i6 r4.2)), (5, (ow 5)), (6, (i6 r6.2)), (9, (ow 9)), (13, (ow 13)), (14, (i6 r40.2)), (132, (.bool (r23.2 == 0)))], [(5, (bk (eA64u8 r6.1))), (9, (bk (eA64u8 r23.1))), (13, (bk (eA64u8 r40.1)))]⟩ (by kernel_rfl) ?_)))
                        cases hb147 : (r23.2 == 0)
                        · have h := ite_f hb147 h
                          refine a_cond_f rfl (a_skip ?_)
                          exact j_leaf () (Option.some.inj h) (by kernel_rfl)
                        · have h := ite_t hb147 h
                          refine a_cond_t rfl (sr (vp (i6 r4.1) rfl (vp (i6 r4.2) rfl (vp (i6 (IntKind.i64.wrap (r4.2 - 1))) rfl ?_))))
                          obtain ⟨r148, hr149, h⟩ := bind_some h
                          refine a_call (args := [(i6 r4.1), (i6 (IntKind.i64.wrap (r4.2 - 1)))]) (u := []) (r := (.tuple [(eA64u8 r148.1), (i6 r148.2)])) rfl rfl (impl_FirstFactorial_ok r4.1 (IntKind.i64.wrap (r4.2 - 1)) r148 hr149) rfl (vp (.tuple [(eA64u8 r148.1), (i6 r148.2)]) rfl (vb (eA64u8 r148.1) rfl rfl (vb (i6 r148.2) rfl rfl (vo 3300 (eA64u8 ((vrep 64 (0 : Int)))) rfl rfl (vs (eA64u8 r148.1) rfl rfl (fun _ => rfl) rfl rfl rfl rfl rfl rfl (vp (i6 r148.2) rfl (nx ⟨[(3, (i6 r4.1)), (4, (i6 r4.2)), (5, (ow 5)), (6, (i6 r6.2)), (9, (ow 9)), (13, (ow 13)), (14, (i6 r40.2)), (23, (ow 23)), (24, (i6 r148.2))], [(5, (bk (eA64u8 r6.1))), (9, (bk (eA64u8 r23.1))), (13, (bk (eA64u8 r40.1))), (23, (bk (eA64u8 r148.1)))]⟩ (by kernel_rfl) (sr (vp (i6 r4.1) rfl ?_)))))))))
                          refine vl (eA64u8 r148.1) rfl rfl rfl rfl rfl rfl (vp (i6 r4.1) rfl ?_)
                          obtain ⟨r152, hr153, h⟩ := bind_some h
                          refine a_call (args := [(i6 r4.1), (eA64u8 r148.1), (i6 r4.1)]) (u := []) (r := (.tuple [(eA64u8 r152.1), (i6 r152.2)])) rfl rfl (impl_PowerOf_ok r4.1 r148.1 r4.1 r152 hr153) rfl (vp (.tuple [(eA64u8 r152.1), (i6 r152.2)]) rfl (vb (eA64u8 r152.1) rfl rfl (vb (i6 r152.2) rfl rfl (vo 3500 (eA64u8 ((vrep 64 (0 : Int)))) rfl rfl (vs (eA64u8 r152.1) rfl rfl (fun _ => rfl) rfl rfl rfl rfl rfl rfl (vp (i6 r152.2) rfl (nx ⟨[(3, (i6 r4.1)), (4, (i6 r4.2)), (5, (ow 5)), (6, (i6 r6.2)), (9, (ow 9)), (13, (ow 13)), (14, (i6 r40.2)), (24, (i6 r148.2)), (25, (ow 25)), (26, (i6 r152.2))], [(5, (bk (eA64u8 r6.1))), (9, (bk (eA64u8 r23.1))), (13, (bk (eA64u8 r40.1))), (25, (bk (eA64u8 r152.1)))]⟩ (by kernel_rfl) (sr (vp (i6 r4.1) rfl ?_)))))))))
                          refine vl (eA64u8 r6.1) rfl rfl rfl rfl rfl rfl (vl (eA64u8 r152.1) rfl rfl rfl rfl rfl rfl ?_)
                          obtain ⟨r157, hr158, h⟩ := bind_some h
                          refine a_call (args := [(i6 r4.1), (eA64u8 r6.1), (eA64u8 r152.1)]) (u := []) (r := (.tuple [(eA64u8 r157.1), (i6 r157.2)])) rfl rfl (impl_MultiplyPolys_ok r4.1 r6.1 r152.1 r157 hr158) rfl (vp (.tuple [(eA64u8 r157.1), (i6 r157.2)]) rfl (vb (eA64u8 r157.1) rfl rfl (vb (i6 r157.2) rfl rfl (vo 3700 (eA64u8 ((vrep 64 (0 : Int)))) rfl rfl (vs (eA64u8 r157.1) rfl rfl (fun _ => rfl) rfl rfl rfl rfl rfl rfl (vp (i6 r157.2) rfl (nx ⟨[(3, (i6 r4.1)), (4, (i6 r4.2)), (5, (ow 5)), (6, (i6 r6.2)), (9, (ow 9)), (13, (ow 13)), (14, (i6 r40.2)), (24, (i6 r148.2)), (26, (i6 r152.2)), (27, (ow 27)), (28, (i6 r157.2))], [(5, (bk (eA64u8 r6.1))), (9, (bk (eA64u8 r23.1))), (13, (bk (eA64u8 r40.1))), (27, (bk (eA64u8 r157.1)))]⟩ (by kernel_rfl) (a_seq ?_))))))))
                          obtain ⟨y167, hy168, hk169⟩ := bind_some h
                          clear h
                          refine a_join (emb := fun (s : Bool) => ⟨[(3, (i6 r4.1)), (4, (i6 r4.2)), (5, (ow 5)), (6, (i6 r6.2)), (9, (ow 9)), (13, (ow 13)), (14, (i6 r40.2)), (172, (.bool s))], [(5, (bk (eA64u8 r6.1))), (9, (bk (eA64u8 r23.1))), (13, (bk (eA64u8 r40.1)))]⟩) (pre := fun s => s = y167) ?_ ?_
                          · rintro x166 rfl
                            have h := hk169
                            refine a_st (σ' := ⟨[(3, (i6 r4.1)), (4, (i6 r4.2)), (5, (ow 5)), (6, (i6 r6.2)), (9, (ow 9)), (13, (ow 13)), (14, (i6 r40.2)), (172, (.bool x166))], [(5, (bk (eA64u8 r6.1))), (9, (bk (eA64u8 r23.1))), (13, (bk (eA64u8 r40.1)))]⟩) (by kernel_rfl) ?_
                            cases hb176 : x166
                            · have h := ite_f hb176 h
                              refine a_cond_f rfl (a_skip (a_next (σ' := ⟨[(3, (i6 r4.1)), (4, (i6 r4.2)), (5, (ow 5)), (6, (i6 r6.2)), (9, (ow 9)), (13, (ow 13)), (14, (i6 r40.2))], [(5, (bk (eA64u8 r6.1))), (9, (bk (eA64u8 r23.1))), (13, (bk (eA64u8 r40.1)))]⟩) (by kernel_rfl) (sr (vp (i6 1) rfl (nx ⟨[(3, (i6 r4.1)), (4, (i6 r4.2)), (5, (ow 5)), (6, (i6 r6.2)), (9, (ow 9)), (13, (ow 13)), (14, (i6 r40.2)), (29, (i6 1))], [(5, (bk (eA64u8 r6.1))), (9, (bk (eA64u8 r23.1))), (13, (bk (eA64u8 r40.1)))]⟩ (by kernel_rfl) ?_)))))
                              obtain ⟨y187, hy188, hk189⟩ := bind_some h
                              clear h
                              refine a_join (emb := fun (s : Int) => ⟨[(3, (i6 r4.1)), (4, (i6 r4.2)), (5, (ow 5)), (6, (i6 r6.2)), (9, (ow 9)), (13, (ow 13)), (14, (i6 r40.2)), (29, (i6 s))], [(5, (bk (eA64u8 r6.1))), (9, (bk (eA64u8 r23.1))), (13, (bk (eA64u8 r40.1)))]⟩) (pre := fun s => s = y187) ?_ ?_
                              · rintro x186 rfl
                                have h := hk189
                                refine a_st (σ' := ⟨[(3, (i6 r4.1)), (4, (i6 r4.2)), (5, (ow 5)), (6, (i6 r6.2)), (9, (ow 9)), (13, (ow 13)), (14, (i6 r40.2)), (29, (i6 x186))], [(5, (bk (eA64u8 r6.1))), (9, (bk (eA64u8 r23.1))), (13, (bk (eA64u8 r40.1)))]⟩) (by kernel_rfl) (sr (vp (i6 x186) rfl (vp (.bool ((decide (x186 ≤ 1000)))) rfl (nx ⟨[(3, (i6 r4.1)), (4, (i6 r4.2)), (5, (ow 5)), (6, (i6 r6.2)), (9, (ow 9)), (13, (ow 13)), (14, (i6 r40.2)), (29, (i6 x186)), (182, (.bool ((decide (x186 ≤ 1000)))))], [(5, (bk (eA64u8 r6.1))), (9, (bk (eA64u8 r23.1))), (13, (bk (eA64u8 r40.1)))]⟩ (by kernel_rfl) ?_))))
                                cases hb199 : (decide (x186 ≤ 1000))
                                · have h := ite_f hb199 h
                                  refine a_cond_f rfl (a_skip ?_)
                                  exact j_leaf () (Option.some.inj h) (by kernel_rfl)
                                · have h := ite_t hb199 h
                                  refine a_cond_t rfl (sr (vp (i6 r4.1) rfl (vp (i6 x186) rfl ?_)))
                                  obtain ⟨r200, hr201, h⟩ := bind_some h
                                  refine a_call (args := [(i6 r4.1), (i6 x186)]) (u := []) (r := (.tuple [(eA64u8 r200.1), (i6 r200.2)])) rfl rfl (impl_CarlitzFactorial_ok r4.1 x186 r200 hr201) rfl (vp (.tuple [(eA64u8 r200.1), (i6 r200.2)]) rfl (vb (eA64u8 r200.1) rfl rfl (vb (i6 r200.2) rfl rfl (vo 4100 (eA64u8 ((vrep 64 (0 : Int)))) rfl rfl (vs (eA64u8 r200.1) rfl rfl (fun _ => rfl) rfl rfl rfl rfl rfl rfl (vp (i6 r200.2) rfl (nx ⟨[(3, (i6 r4.1)), (4, (i6 r4.2)), (5, (ow 5)), (6, (i6 r6.2)), (9, (ow 9)), (13, (ow 13)), (14, (i6 r40.2)), (31, (ow 31)), (32, (i6 r200.2))], [(5, (bk (eA64u8 r6.1))), (9, (bk (eA64u8 r23.1))), (13, (bk (eA64u8 r40.1))), (31, (bk (eA64u8 r200.1)))]⟩ (by kernel_rfl) ?_)))))))
                                  obtain ⟨y207, hy208, hk209⟩ := bind_some h
                                  clear h
                                  refine a_join (emb := fun (s : Bool) => ⟨[(3, (i6 r4.1)), (4, (i6 r4.2)), (5, (ow 5)), (6, (i6 r6.2)), (13, (ow 13)), (14, (i6 r40.2)), (195, (.bool s))], [(5, (bk (eA64u8 r6.1))), (13, (bk (eA64u8 r40.1)))]⟩) (pre := fun s => s = y207) ?_ ?_
                                  · rintro x206 rfl
                                    have h := hk209
                                    refine a_st (σ' := ⟨[(3, (i6 r4.1)), (4, (i6 r4.2)), (5, (ow 5)), (6, (i6 r6.2)), (13, (ow 13)), (14, (i6 r40.2)), (195, (.bool x206))], [(5, (bk (eA64u8 r6.1))), (13, (bk (eA64u8 r40.1)))]⟩) (by kernel_rfl) ?_
                                    cases hb213 : x206
                                    · have h := ite_f hb213 h
                                      refine a_cond_f rfl (a_skip ?_)
                                      exact j_leaf () (Option.some.inj h) (by kernel_rfl)
                                    · have h := ite_t hb213 h
                                      refine a_cond_t rfl (sr (vp (.bool false) rfl (nx _ rfl (a_ret (t_ret ?_)))))
                                      cases h
                                      have h := hk146
                                      refine ⟨.inr rfl, ?_⟩
                                      rw [Try.results4]
                                      cases h
                                      exact ⟨_, _, _, _, _, rfl, trivial, .inl ⟨rfl, .inl rfl⟩, rfl, rfl⟩
                                  · have h := hy208
                                    refine a_region (vp (i6 r200.2) rfl (vp (.bool (r200.2 != 0)) rfl (vp (.bool (r200.2 != 0)) rfl ?_)))
                                    cases hb210 : (r200.2 != 0)
                                    · have h := ite_f hb210 h
                                      have hl211 : LdOk [] (eA64u8 r200.1) [] 64 true (eA64u8 r200.1) := (.nil rfl rfl rfl)
                                      refine gq (eA64u8 r200.1) rfl (ld_own (i := ⟨.arr 64 5, 64, 64, (eA64u8 (vrep 64 (0 : Int)))⟩) rfl rfl rfl hl211) hl211.c ?_
                                      have hl212 : LdOk [] (eA64u8 r23.1) [] 64 true (eA64u8 r23.1) := (.nil rfl rfl rfl)
                                      refine gq (eA64u8 r23.1) rfl (ld_own (i := ⟨.arr 64 5, 64, 64, (eA64u8 (vrep 64 (0 : Int)))⟩) rfl rfl rfl hl212) hl212.c (gq (.bool ((!decide (r200.1 = r23.1)))) rfl (nea_run (f := (AV.int .u8)) (a := r200.1.1) (b := r23.1.1) rfl rfl (eqb_vec (fun _ _ => eqb_int _ _) r200.1 r23.1)) (cmp_arr (g := 8) (f := (AV.int .u8)) (x := r200.1) (y := r23.1) rfl rfl rfl (fun _ _ => rfl) (fun _ _ => cmp_int rfl)) (vp (.bool ((!decide (r200.1 = r23.1)))) rfl (a_nil ?_)))
                                      exact j_leaf ((!decide (r200.1 = r23.1))) (Option.some.inj h) (by kernel_rfl)
                                    · have h := ite_t hb210 h
                                      refine a_gskip rfl (a_gskip rfl (a_gskip rfl (vp (.bool true) rfl (a_nil ?_))))
                                      exact j_leaf true (Option.some.inj h) (by kernel_rfl)
                              · have h := hy188
                                refine sr (vp (i6 0) rfl (nx ⟨[(3, (i6 r4.1)), (4, (i6 r4.2)), (5, (ow 5)), (6, (i6 r6.2)), (9, (ow 9)), (13, (ow 13)), (14, (i6 r40.2)), (29, (i6 1)), (30, (i6 0))], [(5, (bk (eA64u8 r6.1))), (9, (bk (eA64u8 r23.1))), (13, (bk (eA64u8 r40.1)))]⟩ (by kernel_rfl) (a_block ?_)))
                                refine a_loop (emb := fun (s : (Int × Int)) => ⟨[(3, (i6 r4.1)), (4, (i6 r4.2)), (5, (ow 5)), (6, (i6 r6.2)), (9, (ow 9)), (13, (ow 13)), (14, (i6 r40.2)), (29, (i6 s.1)), (30, (i6 s.2))], [(5, (bk (eA64u8 r6.1))), (9, (bk (eA64u8 r23.1))), (13, (bk (eA64u8 r40.1)))]⟩) (body := (fun s : (Int × Int) => laws_FnFactorials_l1 r4 s.1 s.2)) (G := fun q => some q = some y187) h rfl ?_ (by kernel_rfl)
                                rintro X194 ⟨x191, x192⟩ x195 h hX196
                                have h : laws_FnFactorials_l1 r4 x191 x192 = some x195 := h
                                refine a_st (σ' := ⟨[(3, (i6 r4.1)), (4, (i6 r4.2)), (5, (ow 5)), (6, (i6 r6.2)), (9, (ow 9)), (13, (ow 13)), (14, (i6 r40.2)), (29, (i6 x191)), (30, (i6 x192))], [(5, (bk (eA64u8 r6.1))), (9, (bk (eA64u8 r23.1))), (13, (bk (eA64u8 r40.1)))]⟩) (by kernel_rfl) (a_seq (sr (vp (i6 x192) rfl (vp (i6 r4.2) rfl (vp (.bool ((decide (x192 < r4.2)))) rfl (nx ⟨[(3, (i6 r4.1)), (4, (i6 r4.2)), (5, (ow 5)), (6, (i6 r6.2)), (9, (ow 9)), (13, (ow 13)), (14, (i6 r40.2)), (29, (i6 x191)), (30, (i6 x192)), (175, (.bool ((decide (x192 < r4.2)))))], [(5, (bk (eA64u8 r6.1))), (9, (bk (eA64u8 r23.1))), (13, (bk (eA64u8 r40.1)))]⟩ (by kernel_rfl) ?_))))))
                                cases hb197 : (decide (x192 < r4.2))
                                · have h := ite_f hb197 h
                                  refine a_cond_f rfl (a_exit (t_exit ?_))
                                  cases h
                                  have h := hX196
                                  refine t_exit (b_exit ?_)
                                  exact j_leaf x191 (Option.some.inj h) (by kernel_rfl)
                                · have h := ite_t hb197 h
                                  refine a_cond_t rfl (a_skip (a_next (σ' := ⟨[(3, (i6 r4.1)), (4, (i6 r4.2)), (5, (ow 5)), (6, (i6 r6.2)), (9, (ow 9)), (13, (ow 13)), (14, (i6 r40.2)), (29, (i6 x191)), (30, (i6 x192))], [(5, (bk (eA64u8 r6.1))), (9, (bk (eA64u8 r23.1))), (13, (bk (eA64u8 r40.1)))]⟩) (by kernel_rfl) (a_seq (a_block (a_region (vp (i6 x191) rfl (vp (i6 r4.1) rfl (vp (i6 (IntKind.i64.wrap (x191 * r4.1))) rfl (vp (i6 (IntKind.i64.wrap (x191 * r4.1))) rfl ?_)))))))))
                                  refine a_nil (b_norm (a_next (σ' := ⟨[(3, (i6 r4.1)), (4, (i6 r4.2)), (5, (ow 5)), (6, (i6 r6.2)), (9, (ow 9)), (13, (ow 13)), (14, (i6 r40.2)), (29, (i6 (IntKind.i64.wrap (x191 * r4.1)))), (30, (i6 x192))], [(5, (bk (eA64u8 r6.1))), (9, (bk (eA64u8 r23.1))), (13, (bk (eA64u8 r40.1)))]⟩) (by kernel_rfl) (a_region (vp (i6 x192) rfl (vp (i6 (IntKind.i64.wrap (x192 + 1))) rfl (vp (i6 (IntKind.i64.wrap (x192 + 1))) rfl (a_nil ?_)))))))
                                  cases h
                                  exact a_again (by kernel_rfl) hX196
                            · have h := ite_t hb176 h
                              refine a_cond_t rfl (sr (vp (.bool false) rfl (nx _ rfl (a_ret (t_ret (t_ret ?_))))))
                              cases h
                              have h := hk146
                              refine ⟨.inr rfl, ?_⟩
                              rw [Try.results4]
                              cases h
                              exact ⟨_, _, _, _, _, rfl, trivial, .inl ⟨rfl, .inl rfl⟩, rfl, rfl⟩
                          · have h := hy168
                            refine a_region (vp (i6 r6.2) rfl (vp (.bool (r6.2 != 0)) rfl (vp (.bool (r6.2 != 0)) rfl ?_)))
                            cases hb170 : (r6.2 != 0)
                            · have h := ite_f hb170 h
                              refine gp (i6 r148.2) rfl rfl (gp (.bool (r148.2 != 0)) rfl rfl (vp (.bool (r148.2 != 0)) rfl (vp (.bool (r148.2 != 0)) rfl ?_)))
                              cases hb171 : (r148.2 != 0)
                              · have h := ite_f hb171 h
                                refine gp (i6 r152.2) rfl rfl (gp (.bool (r152.2 != 0)) rfl rfl (vp (.bool (r152.2 != 0)) rfl (vp (.bool (r152.2 != 0)) rfl ?_)))
                                cases hb172 : (r152.2 != 0)
                                · have h := ite_f hb172 h
                                  refine gp (i6 r157.2) rfl rfl (gp (.bool (r157.2 != 0)) rfl rfl (vp (.bool (r157.2 != 0)) rfl (vp (.bool (r157.2 != 0)) rfl ?_)))
                                  cases hb173 : (r157.2 != 0)
                                  · have h := ite_f hb173 h
                                    have hl174 : LdOk [] (eA64u8 r157.1) [] 64 true (eA64u8 r157.1) := (.nil rfl rfl rfl)
                                    refine gq (eA64u8 r157.1) rfl (ld_own (i := ⟨.arr 64 5, 64, 64, (eA64u8 (vrep 64 (0 : Int)))⟩) rfl rfl rfl hl174) hl174.c ?_
                                    have hl175 : LdOk [] (eA64u8 r23.1) [] 64 true (eA64u8 r23.1) := (.nil rfl rfl rfl)
                                    refine gq (eA64u8 r23.1) rfl (ld_own (i := ⟨.arr 64 5, 64, 64, (eA64u8 (vrep 64 (0 : Int)))⟩) rfl rfl rfl hl175) hl175.c (gq (.bool ((!decide (r157.1 = r23.1)))) rfl (nea_run (f := (AV.int .u8)) (a := r157.1.1) (b := r23.1.1) rfl rfl (eqb_vec (fun _ _ => eqb_int _ _) r157.1 r23.1)) (cmp_arr (g := 8) (f := (AV.int .u8)) (x := r157.1) (y := r23.1) rfl rfl rfl (fun _ _ => rfl) (fun _ _ => cmp_int rfl)) (vp (.bool ((!decide (r157.1 = r23.1)))) rfl (a_nil ?_)))
                                    exact j_leaf ((!decide (r157.1 = r23.1))) (Option.some.inj h) (by kernel_rfl)
                                  · have h := ite_t hb173 h
                                    refine a_gskip rfl (a_gskip rfl (a_gskip rfl (vp (.bool true) rfl (a_nil ?_))))
                                    exact j_leaf true (Option.some.inj h) (by kernel_rfl)
                                · have h := ite_t hb172 h
                                  refine a_gskip rfl (a_gskip rfl (vp (.bool true) rfl (vp (.bool true) rfl (a_gskip rfl (a_gskip rfl (a_gskip rfl (vp (.bool true) rfl (a_nil ?_))))))))
                                  exact j_leaf true (Option.some.inj h) (by kernel_rfl)
                              · have h := ite_t hb171 h
                                refine a_gskip rfl (a_gskip rfl (vp (.bool true) rfl (vp (.bool true) rfl (a_gskip rfl (a_gskip rfl (vp (.bool true) rfl (vp (.bool true) rfl (a_gskip rfl (a_gskip rfl ?_)))))))))
                                refine a_gskip rfl (vp (.bool true) rfl (a_nil ?_))
                                exact j_leaf true (Option.some.inj h) (by kernel_rfl)
                            · have h := ite_t hb170 h
                              refine a_gskip rfl (a_gskip rfl (vp (.bool true) rfl (vp (.bool true) rfl (a_gskip rfl (a_gskip rfl (vp (.bool true) rfl (vp (.bool true) rfl (a_gskip rfl (a_gskip rfl ?_)))))))))
                              refine vp (.bool true) rfl (vp (.bool true) rfl (a_gskip rfl (a_gskip rfl (a_gskip rfl (vp (.bool true) rfl (a_nil ?_))))))
                              exact j_leaf true (Option.some.inj h) (by kernel_rfl)
                    · have h := ite_t hb76 h
                      refine a_cond_t rfl (sr (vp (.bool true) rfl (nx _ rfl (a_ret (t_ret ?_)))))
                      refine ⟨.inr rfl, ?_⟩
                      rw [Try.results4]
                      cases h
                      exact ⟨_, _, _, _, _, rfl, trivial, .inl ⟨rfl, .inl rfl⟩, rfl, rfl⟩
                  · have h := ite_t hb75 h
                    refine a_cond_t rfl (sr (vp (.bool false) rfl (nx _ rfl (a_ret (t_ret ?_)))))
                    refine ⟨.inr rfl, ?_⟩
                    rw [Try.results4]
                    cases h
                    exact ⟨_, _, _, _, _, rfl, trivial, .inl ⟨rfl, .inl rfl⟩, rfl, rfl⟩
                · have h := hy70
                  refine a_region (vp (i6 r59.2) rfl (vp (i6 r62.2) rfl (vp (.bool (r59.2 != r62.2)) rfl (vp (.bool (r59.2 != r62.2)) rfl ?_))))
                  cases hb72 : (r59.2 != r62.2)
                  · have h := ite_f hb72 h
                    have hl73 : LdOk [] (eA64u8 r59.1) [] 64 true (eA64u8 r59.1) := (.nil rfl rfl rfl)
                    refine gq (eA64u8 r59.1) rfl (ld_own (i := ⟨.arr 64 5, 64, 64, (eA64u8 (vrep 64 (0 : Int)))⟩) rfl rfl rfl hl73) hl73.c ?_
                    have hl74 : LdOk [] (eA64u8 r62.1) [] 64 true (eA64u8 r62.1) := (.nil rfl rfl rfl)
                    refine gq (eA64u8 r62.1) rfl (ld_own (i := ⟨.arr 64 5, 64, 64, (eA64u8 (vrep 64 (0 : Int)))⟩) rfl rfl rfl hl74) hl74.c (gq (.bool ((!decide (r59.1 = r62.1)))) rfl (nea_run (f := (AV.int .u8)) (a := r59.1.1) (b := r62.1.1) rfl rfl (eqb_vec (fun _ _ => eqb_int _ _) r59.1 r62.1)) (cmp_arr (g := 8) (f := (AV.int .u8)) (x := r59.1) (y := r62.1) rfl rfl rfl (fun _ _ => rfl) (fun _ _ => cmp_int rfl)) (vp (.bool ((!decide (r59.1 = r62.1)))) rfl (a_nil ?_)))
                    exact j_leaf ((!decide (r59.1 = r62.1))) (Option.some.inj h) (by kernel_rfl)
                  · have h := ite_t hb72 h
                    refine a_gskip rfl (a_gskip rfl (a_gskip rfl (vp (.bool true) rfl (a_nil ?_))))
                    exact j_leaf true (Option.some.inj h) (by kernel_rfl)
              · have h := ite_t hb56 h
                refine a_cond_t rfl (sr (vp (.bool false) rfl (nx _ rfl (a_ret (t_ret ?_)))))
                refine ⟨.inr rfl, ?_⟩
                rw [Try.results4]
                cases h
                exact ⟨_, _, _, _, _, rfl, trivial, .inl ⟨rfl, .inl rfl⟩, rfl, rfl⟩
            · have h := hy51
              refine a_region (vp (i6 r40.2) rfl (vp (i6 r43.2) rfl (vp (.bool (r40.2 != r43.2)) rfl (vp (.bool (r40.2 != r43.2)) rfl ?_))))
              cases hb53 : (r40.2 != r43.2)
              · have h := ite_f hb53 h
                have hl54 : LdOk [] (eA64u8 r40.1) [] 64 true (eA64u8 r40.1) := (.nil rfl rfl rfl)
                refine gq (eA64u8 r40.1) rfl (ld_own (i := ⟨.arr 64 5, 64, 64, (eA64u8 (vrep 64 (0 : Int)))⟩) rfl rfl rfl hl54) hl54.c ?_
                have hl55 : LdOk [] (eA64u8 r43.1) [] 64 true (eA64u8 r43.1) := (.nil rfl rfl rfl)
                refine gq (eA64u8 r43.1) rfl (ld_own (i := ⟨.arr 64 5, 64, 64, (eA64u8 (vrep 64 (0 : Int)))⟩) rfl rfl rfl hl55) hl55.c (gq (.bool ((!decide (r40.1 = r43.1)))) rfl (nea_run (f := (AV.int .u8)) (a := r40.1.1) (b := r43.1.1) rfl rfl (eqb_vec (fun _ _ => eqb_int _ _) r40.1 r43.1)) (cmp_arr (g := 8) (f := (AV.int .u8)) (x := r40.1) (y := r43.1) rfl rfl rfl (fun _ _ => rfl) (fun _ _ => cmp_int rfl)) (vp (.bool ((!decide (r40.1 = r43.1)))) rfl (a_nil ?_)))
                exact j_leaf ((!decide (r40.1 = r43.1))) (Option.some.inj h) (by kernel_rfl)
              · have h := ite_t hb53 h
                refine a_gskip rfl (a_gskip rfl (a_gskip rfl (vp (.bool true) rfl (a_nil ?_))))
                exact j_leaf true (Option.some.inj h) (by kernel_rfl)
          · have h := ite_t hb39 h
            refine a_cond_t rfl (sr (vp (.bool false) rfl (nx _ rfl (a_ret (t_ret ?_)))))
            refine ⟨.inr rfl, ?_⟩
            rw [Try.results4]
            cases h
            exact ⟨_, _, _, _, _, rfl, trivial, .inl ⟨rfl, .inl rfl⟩, rfl, rfl⟩
        · have h := hy34
          refine a_region (vp (i6 r23.2) rfl (vp (i6 r26.2) rfl (vp (.bool (r23.2 != r26.2)) rfl (vp (.bool (r23.2 != r26.2)) rfl ?_))))
          cases hb36 : (r23.2 != r26.2)
          · have h := ite_f hb36 h
            have hl37 : LdOk [] (eA64u8 r23.1) [] 64 true (eA64u8 r23.1) := (.nil rfl rfl rfl)
            refine gq (eA64u8 r23.1) rfl (ld_own (i := ⟨.arr 64 5, 64, 64, (eA64u8 (vrep 64 (0 : Int)))⟩) rfl rfl rfl hl37) hl37.c ?_
            have hl38 : LdOk [] (eA64u8 r26.1) [] 64 true (eA64u8 r26.1) := (.nil rfl rfl rfl)
            refine gq (eA64u8 r26.1) rfl (ld_own (i := ⟨.arr 64 5, 64, 64, (eA64u8 (vrep 64 (0 : Int)))⟩) rfl rfl rfl hl38) hl38.c (gq (.bool ((!decide (r23.1 = r26.1)))) rfl (nea_run (f := (AV.int .u8)) (a := r23.1.1) (b := r26.1.1) rfl rfl (eqb_vec (fun _ _ => eqb_int _ _) r23.1 r26.1)) (cmp_arr (g := 8) (f := (AV.int .u8)) (x := r23.1) (y := r26.1) rfl rfl rfl (fun _ _ => rfl) (fun _ _ => cmp_int rfl)) (vp (.bool ((!decide (r23.1 = r26.1)))) rfl (a_nil ?_)))
            exact j_leaf ((!decide (r23.1 = r26.1))) (Option.some.inj h) (by kernel_rfl)
          · have h := ite_t hb36 h
            refine a_gskip rfl (a_gskip rfl (a_gskip rfl (vp (.bool true) rfl (a_nil ?_))))
            exact j_leaf true (Option.some.inj h) (by kernel_rfl)
      · have h := ite_t hb22 h
        refine a_cond_t rfl (sr (vp (.bool false) rfl (nx _ rfl (a_ret (t_ret ?_)))))
        refine ⟨.inr rfl, ?_⟩
        rw [Try.results4]
        cases h
        exact ⟨_, _, _, _, _, rfl, trivial, .inl ⟨rfl, .inl rfl⟩, rfl, rfl⟩
    · have h := hy17
      refine a_region (vp (i6 r6.2) rfl (vp (i6 r9.2) rfl (vp (.bool (r6.2 != r9.2)) rfl (vp (.bool (r6.2 != r9.2)) rfl ?_))))
      cases hb19 : (r6.2 != r9.2)
      · have h := ite_f hb19 h
        have hl20 : LdOk [] (eA64u8 r6.1) [] 64 true (eA64u8 r6.1) := (.nil rfl rfl rfl)
        refine gq (eA64u8 r6.1) rfl (ld_own (i := ⟨.arr 64 5, 64, 64, (eA64u8 (vrep 64 (0 : Int)))⟩) rfl rfl rfl hl20) hl20.c ?_
        have hl21 : LdOk [] (eA64u8 r9.1) [] 64 true (eA64u8 r9.1) := (.nil rfl rfl rfl)
        refine gq (eA64u8 r9.1) rfl (ld_own (i := ⟨.arr 64 5, 64, 64, (eA64u8 (vrep 64 (0 : Int)))⟩) rfl rfl rfl hl21) hl21.c (gq (.bool ((!decide (r6.1 = r9.1)))) rfl (nea_run (f := (AV.int .u8)) (a := r6.1.1) (b := r9.1.1) rfl rfl (eqb_vec (fun _ _ => eqb_int _ _) r6.1 r9.1)) (cmp_arr (g := 8) (f := (AV.int .u8)) (x := r6.1) (y := r9.1) rfl rfl rfl (fun _ _ => rfl) (fun _ _ => cmp_int rfl)) (vp (.bool ((!decide (r6.1 = r9.1)))) rfl (a_nil ?_)))
        exact j_leaf ((!decide (r6.1 = r9.1))) (Option.some.inj h) (by kernel_rfl)
      · have h := ite_t hb19 h
        refine a_gskip rfl (a_gskip rfl (a_gskip rfl (vp (.bool true) rfl (a_nil ?_))))
        exact j_leaf true (Option.some.inj h) (by kernel_rfl)
  · have h := ite_t hb3 h
    refine a_cond_t rfl (sr (vp (.bool true) rfl (nx _ rfl (a_ret (t_ret ?_)))))
    refine ⟨.inr rfl, ?_⟩
    rw [Try.results4]
    cases h
    exact ⟨_, _, _, _, _, rfl, trivial, .inl ⟨rfl, .inl rfl⟩, rfl, rfl⟩
def impl_prime_raised_c : ACode := (.seq (.region 0 [q 6 (.asg 1 (.const (.slice none 0 0)) 80)] false) (.seq (.region 1 [q 8 (.bslice 0 80 1 [(0, (.const (.int .i64 1)))]), q 7 (.asg 1 (t 8) 80)] false) (.seq (.seq (.region 2 [q 9 (.mov (t 2)), q 10 (.mov (.const (.int .i64 0)))] false) (.block 0 (.loop (.seq (.region 3 [q 11 (.bin .lss 2 (t 10) (t 9))] false) (.seq (.cond (t 11) .skip (.exit 0)) (.seq (.block 1 (.region 4 [q 12 (.mov (t 0)), q 13 (.mov (t 7)), q 14 (.mov (t 1)), q 15 (.call 0 (.func 102) [(t 12), (t 13), (t 14)]), q 7 (.asg 1 (t 15) 80)] false)) (.region 5 [q 16 (.bin .add 2 (t 10) (.const (.int .i64 1))), q 10 (.mov (t 16))] false))))))) (.seq (.region 6 [q 17 (.mov (t 7)), q 6 (.asg 1 (t 17) 80)] false) .ret))))
def impl_prime_raised_L : Live := [(0, [0, 1, 2]), (1, [0, 1, 2]), (2, [0, 1, 2, 7]), (3, [0, 1, 7, 9, 10]), (4, [0, 1, 7, 9, 10]), (5, [0, 1, 7, 9, 10]), (6, [7]), (100011, [0, 1, 7, 9, 10, 11])]
noncomputable def impl_prime_raised_l1 (a2 : Int) (a0 : Int) (a1 : (List Int)) (x23 : (List Int)) (x24 : Int) : Option (((List Int) × Int) ⊕ (List Int)) :=
  (if (decide (x24 < a2)) then (Option.bind (impl_prime_times a0 x23 a1) fun r32 => (some (.inl ((r32, IntKind.i64.wrap (x24 + 1)))))) else (some (.inr x23)))
noncomputable def impl_prime_raised (a0 : Int) (a1 : (List Int)) (a2 : Int) : Option (List Int) :=
  (Option.bind (α := (List Int)) ((loopM (fun s : ((List Int) × Int) => impl_prime_raised_l1 a2 a0 a1 s.1 s.2) ([1], 0))) fun x16 => (some x16))
theorem impl_prime_raised_ok (a0 : Int) (a1 : (List Int)) (a2 : Int) (r : (List Int)) (h : impl_prime_raised a0 a1 a2 = some r) : Den Try.prog 197 [(i6 a0), (eSi64 a1), (i6 a2)] { r := (eSi64 r) } := by
  refine den_of (rs := [(eSi64 r)]) (ac := impl_prime_raised_c) (L := impl_prime_raised_L) (n := 18) (m := [(6, 1), (7, 1)]) (c := Try.f197.body.getD .skip) good Try.func197 (by kernel_rfl) (by kernel_rfl) Try.ntmps197 rfl rfl (by kernel_rfl) rfl rfl ?_
  refine a_st (σ' := ⟨[(0, (i6 a0)), (1, (eSi64 a1)), (2, (i6 a2))], []⟩) (by kernel_rfl) ?_
  unfold impl_prime_raised_c
  refine sr (vp (eSi64 ([])) rfl (nx ⟨[(0, (i6 a0)), (1, (eSi64 a1)), (2, (i6 a2))], []⟩ (by kernel_rfl) (sr (vq (.sl 1 true (([1]).map (AV.int .i64))) rfl ⟨(Nat.le_of_ble_eq_true rfl), (Nat.le_of_ble_eq_true rfl), (all_cons ⟨(Nat.le_of_ble_eq_true rfl), rfl⟩ all_nil)⟩ (vq (eSi64 ([1])) (asg_tight (i := ⟨.int .i64, 1, 8, (.int .i64 0)⟩) (f := (AV.int .i64)) (l := [1]) rfl rfl rfl) trivial (nx ⟨[(0, (i6 a0)), (1, (eSi64 a1)), (2, (i6 a2)), (7, (eSi64 ([1])))], []⟩ (by kernel_rfl) ?_))))))
  obtain ⟨y17, hy18, hk19⟩ := bind_some h
  clear h
  refine a_join (emb := fun (s : (List Int)) => ⟨[(7, (eSi64 s))], []⟩) (pre := fun s => s = y17) ?_ ?_
  · rintro x16 rfl
    have h := hk19
    refine a_st (σ' := ⟨[(7, (eSi64 x16))], []⟩) (by kernel_rfl) (sr (vp (eSi64 x16) rfl (vp (eSi64 x16) rfl (nx _ rfl (a_ret ?_)))))
    refine ⟨.inr rfl, ?_⟩
    rw [Try.results197]
    cases h
    exact ⟨_, _, _, _, _, rfl, trivial, .inl ⟨rfl, .inl rfl⟩, rfl, rfl⟩
  · have h := hy18
    refine sr (vp (i6 a2) rfl (vp (i6 0) rfl (nx ⟨[(0, (i6 a0)), (1, (eSi64 a1)), (7, (eSi64 ([1]))), (9, (i6 a2)), (10, (i6 0))], []⟩ (by kernel_rfl) (a_block ?_))))
    refine a_loop (emb := fun (s : ((List Int) × Int)) => ⟨[(0, (i6 a0)), (1, (eSi64 a1)), (7, (eSi64 s.1)), (9, (i6 a2)), (10, (i6 s.2))], []⟩) (body := (fun s : ((List Int) × Int) => impl_prime_raised_l1 a2 a0 a1 s.1 s.2)) (G := fun q => some q = some y17) h rfl ?_ (by kernel_rfl)
    rintro X28 ⟨x23, x24⟩ x29 h hX30
    have h : impl_prime_raised_l1 a2 a0 a1 x23 x24 = some x29 := h
    refine a_st (σ' := ⟨[(0, (i6 a0)), (1, (eSi64 a1)), (7, (eSi64 x23)), (9, (i6 a2)), (10, (i6 x24))], []⟩) (by kernel_rfl) (sr (vp (.bool ((decide (x24 < a2)))) rfl (nx ⟨[(0, (i6 a0)), (1, (eSi64 a1)), (7, (eSi64 x23)), (9, (i6 a2)), (10, (i6 x24)), (11, (.bool ((decide (x24 < a2)))))], []⟩ (by kernel_rfl) (a_seq ?_))))
    cases hb31 : (decide (x24 < a2))
    · have h := ite_f hb31 h
      refine a_cond_f rfl (a_exit (t_exit ?_))
      cases h
      have h := hX30
      refine t_exit (b_exit ?_)
      exact j_leaf x23 (Option.some.inj h) (by kernel_rfl)
    · have h := ite_t hb31 h
      refine a_cond_t rfl (a_skip (a_next (σ' := ⟨[(0, (i6 a0)), (1, (eSi64 a1)), (7, (eSi64 x23)), (9, (i6 a2)), (10, (i6 x24))], []⟩) (by kernel_rfl) (a_seq (a_block (a_region (vp (i6 a0) rfl (vp (eSi64 x23) rfl (vp (eSi64 a1) rfl ?_))))))))
      obtain ⟨r32, hr33, h⟩ := bind_some h
      refine a_call (args := [(i6 a0), (eSi64 x23), (eSi64 a1)]) (u := []) (r := (eSi64 r32)) rfl rfl (impl_prime_times_ok a0 x23 a1 r32 hr33) rfl (vp (eSi64 r32) rfl (a_nil (b_norm (a_next (σ' := ⟨[(0, (i6 a0)), (1, (eSi64 a1)), (7, (eSi64 r32)), (9, (i6 a2)), (10, (i6 x24))], []⟩) (by kernel_rfl) (a_region (vp (i6 (IntKind.i64.wrap (x24 + 1))) rfl (vp (i6 (IntKind.i64.wrap (x24 + 1))) rfl (a_nil ?_))))))))
      cases h
      exact a_again (by kernel_rfl) hX30
end Go.Proofs.Ytkbnegemdlnncaa
