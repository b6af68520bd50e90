/- Functions of the program: plain Lean functions, and that the program computes them. Printed by gen.py. -/
import Derived.Test.YtkbnegemdlnncaaFnT
import Derived.Test.YtkbnegemdlnncaaFn4
import Derived.Test.YtkbnegemdlnncaaFn6
namespace Go.Proofs.Ytkbnegemdlnncaa
open Go.Abs Go.Proofs
set_option linter.unusedSimpArgs false
set_option linter.unusedVariables false
set_option maxHeartbeats 16000000
attribute [local irreducible] Abs.acode Abs.aops Abs.aopsT Abs.thenK Abs.blockK

def impl_prime_power_c : ACode := (.seq (.region 0 [q 8 (.asg 1 (.const (.slice none 0 0)) 80)] false) (.seq (.region 1 [q 11 (.mov (t 0)), q 12 (.bslice 0 80 1 [(0, (.const (.int .i64 1)))]), q 13 (.mov (t 3)), q 14 (.call 0 (.func 162) [(t 11), (t 12), (t 13)]), q 15 (.mov (t 0)), q 16 (.mov (t 1)), q 17 (.mov (t 3)), q 18 (.call 0 (.func 162) [(t 15), (t 16), (t 17)]), q 9 (.asg 1 (t 14) 80), q 10 (.asg 1 (t 18) 80)] false) (.seq (.block 0 (.loop (.seq (.seq (.region 2 [q 19 (.mov (t 2)), q 20 (.bin .gtr 2 (t 19) (.const (.int .i64 0)))] false) (.cond (t 20) .skip (.exit 0))) (.seq (.block 1 (.seq (.seq (.region 4 [q 23 (.mov (t 2)), q 24 (.bin .and 2 (t 23) (.const (.int .i64 1))), q 25 (.bin .eql 2 (t 24) (.const (.int .i64 1)))] false) (.cond (t 25) (.region 5 [q 26 (.mov (t 0)), q 27 (.mov (t 0)), q 28 (.mov (t 9)), q 29 (.mov (t 10)), q 30 (.call 0 (.func 102) [(t 27), (t 28), (t 29)]), q 31 (.mov (t 3)), q 32 (.call 0 (.func 162) [(t 26), (t 30), (t 31)]), q 9 (.asg 1 (t 32) 80)] false) .skip)) (.region 6 [q 33 (.mov (t 0)), q 34 (.mov (t 0)), q 35 (.mov (t 10)), q 36 (.mov (t 10)), q 37 (.call 0 (.func 102) [(t 34), (t 35), (t 36)]), q 38 (.mov (t 3)), q 39 (.call 0 (.func 162) [(t 33), (t 37), (t 38)]), q 10 (.asg 1 (t 39) 80)] false))) (.region 3 [q 21 (.mov (t 2)), q 22 (.bin .shr 2 (t 21) (.const (.int .u64 1))), q 2 (.asg 0 (t 22) 2)] false))))) (.seq (.region 7 [q 40 (.mov (t 9)), q 8 (.asg 1 (t 40) 80)] false) .ret))))
def impl_prime_power_L : Live := [(0, [0, 1, 2, 3]), (1, [0, 1, 2, 3]), (2, [0, 2, 3, 9, 10]), (3, [0, 2, 3, 9, 10]), (4, [0, 2, 3, 9, 10]), (5, [0, 2, 3, 9, 10]), (6, [0, 2, 3, 9, 10]), (7, [9]), (100020, [0, 2, 3, 9, 10, 20]), (100025, [0, 2, 3, 9, 10, 25])]
noncomputable def impl_prime_power_l1 (a0 : Int) (a3 : (List Int)) (x108 : Int) (x109 : (List Int)) (x110 : (List Int)) : Option ((Int × (List Int) × (List Int)) ⊕ (List Int)) :=
  (if (decide (x108 > 0)) then (Option.bind (α := (List Int)) ((letp (IntKind.i64.wrap (BitVec.ofInt IntKind.i64.bits x108 &&& BitVec.ofInt IntKind.i64.bits 1).toNat) fun x149 => (if (x149 == 1) then (Option.bind (impl_prime_times a0 x109 x110) fun r152 => (Option.bind (impl_prime_rest a0 r152 a3) fun r154 => (some r154))) else (some x109)))) fun x145 => (Option.bind (impl_prime_times a0 x110 x110) fun r156 => (Option.bind (impl_prime_rest a0 r156 a3) fun r158 => (some (.inl ((Int.fdiv x108 (2 ^ (min (1 : Int).toNat IntKind.i64.bits)), x145, r158))))))) else (some (.inr x109)))
noncomputable def impl_prime_power (a0 : Int) (a1 : (List Int)) (a2 : Int) (a3 : (List Int)) : Option (List Int) :=
  (Option.bind (impl_prime_rest a0 ([1]) a3) fun r1 => (Option.bind (impl_prime_rest a0 a1 a3) fun r3 => (Option.bind (α := (List Int)) ((loopM (fun s : (Int × (List Int) × (List Int)) => impl_prime_power_l1 a0 a3 s.1 s.2.1 s.2.2) (a2, r1, r3))) fun x81 => (some x81))))
theorem impl_prime_power_ok (a0 : Int) (a1 : (List Int)) (a2 : Int) (a3 : (List Int)) (r : (List Int)) (h : impl_prime_power a0 a1 a2 a3 = some r) : Den Try.prog 134 [(i6 a0), (eSi64 a1), (i6 a2), (eSi64 a3)] { r := (eSi64 r) } := by
  refine den_of (rs := [(eSi64 r)]) (ac := impl_prime_power_c) (L := impl_prime_power_L) (n := 41) (m := [(8, 1), (9, 1), (10, 1)]) (c := Try.f134.body.getD .skip) good Try.func134 (by kernel_rfl) (by kernel_rfl) Try.ntmps134 rfl rfl (by kernel_rfl) rfl rfl ?_
  refine a_st (σ' := ⟨[(0, (i6 a0)), (1, (eSi64 a1)), (2, (i6 a2)), (3, (eSi64 a3))], []⟩) (by kernel_rfl) ?_
  unfold impl_prime_power_c
  refine sr (vp (eSi64 ([])) rfl (nx ⟨[(0, (i6 a0)), (1, (eSi64 a1)), (2, (i6 a2)), (3, (eSi64 a3))], []⟩ (by kernel_rfl) (sr (vp (i6 a0) rfl (vq (.sl 1 true (([1]).map (AV.int .i64))) rfl ⟨(Nat.le_of_ble_eq_true rfl), (Nat.le_of_ble_eq_true rfl), (all_cons ⟨(Nat.le_of_ble_eq_true rfl), rfl⟩ all_nil)⟩ (vp (eSi64 a3) rfl ?_))))))
  obtain ⟨r1, hr2, h⟩ := bind_some h
  refine a_call (args := [(i6 a0), (.sl 1 true (([1]).map (AV.int .i64))), (eSi64 a3)]) (u := []) (r := (eSi64 r1)) rfl rfl (Den.args (impl_prime_rest_ok a0 ([1]) a3 r1 hr2) rfl rfl (.cons (.refl _) (.cons (.loose _) (.cons (.refl _) .nil)))) rfl (vp (i6 a0) rfl (vp (eSi64 a1) rfl (vp (eSi64 a3) rfl ?_)))
  obtain ⟨r3, hr4, h⟩ := bind_some h
  refine a_call (args := [(i6 a0), (eSi64 a1), (eSi64 a3)]) (u := []) (r := (eSi64 r3)) rfl rfl (impl_prime_rest_ok a0 a1 a3 r3 hr4) rfl (vp (eSi64 r1) rfl (vp (eSi64 r3) rfl (nx ⟨[(0, (i6 a0)), (2, (i6 a2)), (3, (eSi64 a3)), (9, (eSi64 r1)), (10, (eSi64 r3))], []⟩ (by kernel_rfl) ?_)))
  obtain ⟨y82, hy83, hk84⟩ := bind_some h
  clear h
  refine a_join (emb := fun (s : (List Int)) => ⟨[(9, (eSi64 s))], []⟩) (pre := fun s => s = y82) ?_ ?_
  · rintro x81 rfl
    have h := hk84
    refine a_st (σ' := ⟨[(9, (eSi64 x81))], []⟩) (by kernel_rfl) (sr (vp (eSi64 x81) rfl (vp (eSi64 x81) rfl (nx _ rfl (a_ret ?_)))))
    refine ⟨.inr rfl, ?_⟩
    rw [Try.results134]
    cases h
    exact ⟨_, _, _, _, _, rfl, trivial, .inl ⟨rfl, .inl rfl⟩, rfl, rfl⟩
  · have h := hy83
    refine a_block ?_
    refine a_loop (emb := fun (s : (Int × (List Int) × (List Int))) => ⟨[(0, (i6 a0)), (2, (i6 s.1)), (3, (eSi64 a3)), (9, (eSi64 s.2.1)), (10, (eSi64 s.2.2))], []⟩) (body := (fun s : (Int × (List Int) × (List Int)) => impl_prime_power_l1 a0 a3 s.1 s.2.1 s.2.2)) (G := fun q => some q = some y82) h rfl ?_ (by kernel_rfl)
    rintro X134 ⟨x108, x109, x110⟩ x135 h hX136
    have h : impl_prime_power_l1 a0 a3 x108 x109 x110 = some x135 := h
    refine a_st (σ' := ⟨[(0, (i6 a0)), (2, (i6 x108)), (3, (eSi64 a3)), (9, (eSi64 x109)), (10, (eSi64 x110))], []⟩) (by kernel_rfl) (a_seq (sr (vp (i6 x108) rfl (vp (.bool ((decide (x108 > 0)))) rfl (nx ⟨[(0, (i6 a0)), (2, (i6 x108)), (3, (eSi64 a3)), (9, (eSi64 x109)), (10, (eSi64 x110)), (20, (.bool ((decide (x108 > 0)))))], []⟩ (by kernel_rfl) ?_)))))
    cases hb137 : (decide (x108 > 0))
    · have h := ite_f hb137 h
      refine a_cond_f rfl (a_exit (t_exit ?_))
      cases h
      have h := hX136
      refine t_exit (b_exit ?_)
      exact j_leaf x109 (Option.some.inj h) (by kernel_rfl)
    · have h := ite_t hb137 h
      refine a_cond_t rfl (a_skip (a_next (σ' := ⟨[(0, (i6 a0)), (2, (i6 x108)), (3, (eSi64 a3)), (9, (eSi64 x109)), (10, (eSi64 x110))], []⟩) (by kernel_rfl) (a_seq (a_block ?_))))
      obtain ⟨y146, hy147, hk148⟩ := bind_some h
      clear h
      refine a_join (emb := fun (s : (List Int)) => ⟨[(0, (i6 a0)), (2, (i6 x108)), (3, (eSi64 a3)), (9, (eSi64 s)), (10, (eSi64 x110))], []⟩) (pre := fun s => s = y146) ?_ ?_
      · rintro x145 rfl
        have h := hk148
        refine a_st (σ' := ⟨[(0, (i6 a0)), (2, (i6 x108)), (3, (eSi64 a3)), (9, (eSi64 x145)), (10, (eSi64 x110))], []⟩) (by kernel_rfl) (a_region (vp (i6 a0) rfl (vp (i6 a0) rfl (vp (eSi64 x110) rfl (vp (eSi64 x110) rfl ?_)))))
        obtain ⟨r156, hr157, h⟩ := bind_some h
        refine a_call (args := [(i6 a0), (eSi64 x110), (eSi64 x110)]) (u := []) (r := (eSi64 r156)) rfl rfl (impl_prime_times_ok a0 x110 x110 r156 hr157) rfl (vp (eSi64 a3) rfl ?_)
        obtain ⟨r158, hr159, h⟩ := bind_some h
        refine a_call (args := [(i6 a0), (eSi64 r156), (eSi64 a3)]) (u := []) (r := (eSi64 r158)) rfl rfl (impl_prime_rest_ok a0 r156 a3 r158 hr159) rfl (vp (eSi64 r158) rfl (a_nil (b_norm (a_next (σ' := ⟨[(0, (i6 a0)), (2, (i6 x108)), (3, (eSi64 a3)), (9, (eSi64 x145)), (10, (eSi64 r158))], []⟩) (by kernel_rfl) (a_region (vp (i6 x108) rfl (vq (i6 (Int.fdiv x108 (2 ^ (min (1 : Int).toNat IntKind.i64.bits)))) rfl (by decide) (vp (i6 (Int.fdiv x108 (2 ^ (min (1 : Int).toNat IntKind.i64.bits)))) rfl (a_nil ?_)))))))))
        cases h
        exact a_again (by kernel_rfl) hX136
      · have h := hy147
        refine sr (vp (i6 x108) rfl ?_)
        obtain ⟨x149, hx150, h⟩ := letp_some h
        refine a_val' (v := (i6 (IntKind.i64.wrap (BitVec.ofInt IntKind.i64.bits x108 &&& BitVec.ofInt IntKind.i64.bits 1).toNat))) (v' := (i6 x149)) (u := []) (u' := []) rfl (congrArg (fun z => ((i6 z) : AV)) hx150) rfl trivial rfl (vp (.bool (x149 == 1)) rfl (nx ⟨[(0, (i6 a0)), (2, (i6 x108)), (3, (eSi64 a3)), (9, (eSi64 x109)), (10, (eSi64 x110)), (25, (.bool (x149 == 1)))], []⟩ (by kernel_rfl) ?_))
        cases hb151 : (x149 == 1)
        · have h := ite_f hb151 h
          refine a_cond_f rfl (a_skip ?_)
          exact j_leaf x109 (Option.some.inj h) (by kernel_rfl)
        · have h := ite_t hb151 h
          refine a_cond_t rfl (a_region (vp (i6 a0) rfl (vp (i6 a0) rfl (vp (eSi64 x109) rfl (vp (eSi64 x110) rfl ?_)))))
          obtain ⟨r152, hr153, h⟩ := bind_some h
          refine a_call (args := [(i6 a0), (eSi64 x109), (eSi64 x110)]) (u := []) (r := (eSi64 r152)) rfl rfl (impl_prime_times_ok a0 x109 x110 r152 hr153) rfl (vp (eSi64 a3) rfl ?_)
          obtain ⟨r154, hr155, h⟩ := bind_some h
          refine a_call (args := [(i6 a0), (eSi64 r152), (eSi64 a3)]) (u := []) (r := (eSi64 r154)) rfl rfl (impl_prime_rest_ok a0 r152 a3 r154 hr155) rfl (vp (eSi64 r154) rfl (a_nil ?_))
          exact j_leaf r154 (Option.some.inj h) (by kernel_rfl)
end Go.Proofs.Ytkbnegemdlnncaa
