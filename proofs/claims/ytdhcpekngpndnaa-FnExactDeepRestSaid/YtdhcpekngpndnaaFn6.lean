/- Functions of the program: plain Lean functions, and that the program computes them. Printed by gen.py. -/
import Derived.Test.YtdhcpekngpndnaaFnT
import Derived.Test.YtdhcpekngpndnaaFn1
import Derived.Test.YtdhcpekngpndnaaFn3
import Derived.Test.YtdhcpekngpndnaaFn4
import Derived.Test.YtdhcpekngpndnaaFn5
namespace Go.Proofs.Ytdhcpekngpndnaa
open Go.Abs Go.Proofs
set_option linter.unusedSimpArgs false
set_option linter.unusedVariables false
set_option maxHeartbeats 16000000
attribute [local irreducible] Abs.acode Abs.aops Abs.aopsT Abs.thenK Abs.blockK

def impl_prime_act_c : ACode := (.seq (.region 0 [q 8 (.asg 1 (.const (.slice none 0 0)) 66)] false) (.seq (.region 1 [q 12 (.mov (t 0)), q 13 (.mov (t 2)), q 14 (.mov (t 3)), q 15 (.call 0 (.func 100) [(t 12), (t 13), (t 14)]), q 2 (.asg 1 (t 15) 66)] false) (.seq (.region 2 [q 9 (.asg 1 (.const (.slice none 0 0)) 66)] false) (.seq (.seq (.region 3 [q 16 (.mov (t 1)), q 17 (.blt 0 .len [(t 16)] [66]), q 18 (.mov (.const (.int .i64 0)))] false) (.block 0 (.loop (.seq (.region 4 [q 19 (.bin .lss 3 (t 18) (t 17))] false) (.seq (.cond (t 19) .skip (.exit 0)) (.seq (.block 1 (.seq (.region 5 [q 20 (.indexAddr 66 (t 16) (t 18)), q 21 (.load 2 (t 20)), q 11 (.asg 0 (t 21) 2)] false) (.seq (.region 6 [q 22 (.mov (t 0)), q 23 (.mov (t 9)), q 24 (.mov (t 2)), q 25 (.mov (t 11)), q 26 (.call 0 (.func 99) [(t 22), (t 23), (t 24), (t 25)]), q 9 (.asg 1 (t 26) 66)] false) (.region 7 [q 27 (.mov (t 0)), q 28 (.mov (t 2)), q 29 (.mov (t 3)), q 30 (.call 0 (.func 146) [(t 27), (t 28), (t 29)]), q 2 (.asg 1 (t 30) 66)] false)))) (.region 8 [q 31 (.bin .add 3 (t 18) (.const (.int .i64 1))), q 18 (.mov (t 31))] false))))))) (.seq (.region 9 [q 32 (.mov (t 9)), q 8 (.asg 1 (t 32) 66)] false) .ret)))))
def impl_prime_act_L : Live := [(0, [0, 1, 2, 3]), (1, [0, 1, 2, 3]), (2, [0, 1, 2, 3]), (3, [0, 1, 2, 3, 9]), (4, [0, 2, 3, 9, 16, 17, 18]), (5, [0, 2, 3, 9, 16, 17, 18]), (6, [0, 2, 3, 9, 11, 16, 17, 18]), (7, [0, 2, 3, 9, 16, 17, 18]), (8, [0, 2, 3, 9, 16, 17, 18]), (9, [9]), (100019, [0, 2, 3, 9, 16, 17, 18, 19])]
noncomputable def impl_prime_act_l1 (a1 : (List Int)) (a0 : Int) (a3 : (List Int)) (x42 : (List Int)) (x43 : (List Int)) (x44 : Int) : Option (((List Int) × (List Int) × Int) ⊕ (List Int)) :=
  (if (decide (x44 < (a1.length : Int))) then (ifp (0 ≤ x44 ∧ x44 < ((a1.length : Nat) : Int)) ((Option.bind (impl_prime_combine a0 x43 x42 (rd a1 x44.toNat)) fun r58 => (Option.bind (impl_prime_step a0 x42 a3) fun r60 => (some (.inl ((r60, r58, IntKind.i64.wrap (x44 + 1))))))))) else (some (.inr x43)))
noncomputable def impl_prime_act (a0 : Int) (a1 : (List Int)) (a2 : (List Int)) (a3 : (List Int)) : Option (List Int) :=
  (Option.bind (impl_prime_rest a0 a2 a3) fun r1 => (Option.bind (α := (List Int)) ((loopM (fun s : ((List Int) × (List Int) × Int) => impl_prime_act_l1 a1 a0 a3 s.1 s.2.1 s.2.2) (r1, [], 0))) fun x31 => (some x31)))
theorem impl_prime_act_ok (a0 : Int) (a1 : (List Int)) (a2 : (List Int)) (a3 : (List Int)) (r : (List Int)) (h : impl_prime_act a0 a1 a2 a3 = some r) : Den Try.prog 80 [(i6 a0), (eSi64 a1), (eSi64 a2), (eSi64 a3)] { r := (eSi64 r) } := by
  refine den_of (rs := [(eSi64 r)]) (ac := impl_prime_act_c) (L := impl_prime_act_L) (n := 33) (m := [(2, 1), (8, 1), (9, 1)]) (c := Try.f80.body.getD .skip) good Try.func80 (by kernel_rfl) (by kernel_rfl) Try.ntmps80 rfl rfl (by kernel_rfl) rfl rfl ?_
  refine a_st (σ' := ⟨[(0, (i6 a0)), (1, (eSi64 a1)), (2, (eSi64 a2)), (3, (eSi64 a3))], []⟩) (by kernel_rfl) ?_
  unfold impl_prime_act_c
  refine sr (vp (eSi64 ([])) rfl (nx ⟨[(0, (i6 a0)), (1, (eSi64 a1)), (2, (eSi64 a2)), (3, (eSi64 a3))], []⟩ (by kernel_rfl) (sr (vp (i6 a0) rfl (vp (eSi64 a2) rfl (vp (eSi64 a3) rfl ?_))))))
  obtain ⟨r1, hr2, h⟩ := bind_some h
  refine a_call (args := [(i6 a0), (eSi64 a2), (eSi64 a3)]) (u := []) (r := (eSi64 r1)) rfl rfl (impl_prime_rest_ok a0 a2 a3 r1 hr2) rfl (vp (eSi64 r1) rfl (nx ⟨[(0, (i6 a0)), (1, (eSi64 a1)), (2, (eSi64 r1)), (3, (eSi64 a3))], []⟩ (by kernel_rfl) (sr (vp (eSi64 ([])) rfl (nx ⟨[(0, (i6 a0)), (1, (eSi64 a1)), (2, (eSi64 r1)), (3, (eSi64 a3)), (9, (eSi64 ([])))], []⟩ (by kernel_rfl) ?_)))))
  obtain ⟨y32, hy33, hk34⟩ := bind_some h
  clear h
  refine a_join (emb := fun (s : (List Int)) => ⟨[(9, (eSi64 s))], []⟩) (pre := fun s => s = y32) ?_ ?_
  · rintro x31 rfl
    have h := hk34
    refine a_st (σ' := ⟨[(9, (eSi64 x31))], []⟩) (by kernel_rfl) (sr (vp (eSi64 x31) rfl (vp (eSi64 x31) rfl (nx _ rfl (a_ret ?_)))))
    refine ⟨.inr rfl, ?_⟩
    rw [Try.results80]
    cases h
    exact ⟨_, _, _, _, _, rfl, trivial, .inl ⟨rfl, .inl rfl⟩, rfl, rfl⟩
  · have h := hy33
    refine sr (vp (eSi64 a1) rfl (vq (i6 (a1.length : Int)) (len_run rfl rfl) trivial (vp (i6 0) rfl (nx ⟨[(0, (i6 a0)), (2, (eSi64 r1)), (3, (eSi64 a3)), (9, (eSi64 ([]))), (16, (eSi64 a1)), (17, (i6 (a1.length : Int))), (18, (i6 0))], []⟩ (by kernel_rfl) (a_block ?_)))))
    refine a_loop (emb := fun (s : ((List Int) × (List Int) × Int)) => ⟨[(0, (i6 a0)), (2, (eSi64 s.1)), (3, (eSi64 a3)), (9, (eSi64 s.2.1)), (16, (eSi64 a1)), (17, (i6 (a1.length : Int))), (18, (i6 s.2.2))], []⟩) (body := (fun s : ((List Int) × (List Int) × Int) => impl_prime_act_l1 a1 a0 a3 s.1 s.2.1 s.2.2)) (G := fun q => some q = some y32) h rfl ?_ (by kernel_rfl)
    rintro X52 ⟨x42, x43, x44⟩ x53 h hX54
    have h : impl_prime_act_l1 a1 a0 a3 x42 x43 x44 = some x53 := h
    refine a_st (σ' := ⟨[(0, (i6 a0)), (2, (eSi64 x42)), (3, (eSi64 a3)), (9, (eSi64 x43)), (16, (eSi64 a1)), (17, (i6 (a1.length : Int))), (18, (i6 x44))], []⟩) (by kernel_rfl) (sr (vp (.bool ((decide (x44 < (a1.length : Int))))) rfl (nx ⟨[(0, (i6 a0)), (2, (eSi64 x42)), (3, (eSi64 a3)), (9, (eSi64 x43)), (16, (eSi64 a1)), (17, (i6 (a1.length : Int))), (18, (i6 x44)), (19, (.bool ((decide (x44 < (a1.length : Int))))))], []⟩ (by kernel_rfl) (a_seq ?_))))
    cases hb55 : (decide (x44 < (a1.length : Int)))
    · have h := ite_f hb55 h
      refine a_cond_f rfl (a_exit (t_exit ?_))
      cases h
      have h := hX54
      refine t_exit (b_exit ?_)
      exact j_leaf x43 (Option.some.inj h) (by kernel_rfl)
    · have h := ite_t hb55 h
      refine a_cond_t rfl (a_skip (a_next (σ' := ⟨[(0, (i6 a0)), (2, (eSi64 x42)), (3, (eSi64 a3)), (9, (eSi64 x43)), (16, (eSi64 a1)), (17, (i6 (a1.length : Int))), (18, (i6 x44))], []⟩) (by kernel_rfl) (a_seq (a_block (sr ?_)))))
      obtain ⟨hc56, h⟩ := ifp_some h
      refine vq (.ref (.row 1 (a1.map (AV.int .i64))) [x44.toNat] [x44.toNat * 1]) rfl (lmap hc56) ?_
      have hl57 : LdOk [x44.toNat] (.row 1 (a1.map (AV.int .i64))) [x44.toNat * 1] 1 false (i6 (rd a1 x44.toNat)) := (.row (llt hc56) rfl (.nil rfl rfl rfl))
      refine vq (i6 (rd a1 x44.toNat)) (ld_ref (i := ⟨.int .i64, 1, 8, (.int .i64 0)⟩) rfl rfl hl57) hl57.c (vp (i6 (rd a1 x44.toNat)) rfl (nx ⟨[(0, (i6 a0)), (2, (eSi64 x42)), (3, (eSi64 a3)), (9, (eSi64 x43)), (11, (i6 (rd a1 x44.toNat))), (16, (eSi64 a1)), (17, (i6 (a1.length : Int))), (18, (i6 x44))], []⟩ (by kernel_rfl) (sr (vp (i6 a0) rfl (vp (eSi64 x43) rfl (vp (eSi64 x42) rfl (vp (i6 (rd a1 x44.toNat)) rfl ?_)))))))
      obtain ⟨r58, hr59, h⟩ := bind_some h
      refine a_call (args := [(i6 a0), (eSi64 x43), (eSi64 x42), (i6 (rd a1 x44.toNat))]) (u := []) (r := (eSi64 r58)) rfl rfl (impl_prime_combine_ok a0 x43 x42 (rd a1 x44.toNat) r58 hr59) rfl (vp (eSi64 r58) rfl (nx ⟨[(0, (i6 a0)), (2, (eSi64 x42)), (3, (eSi64 a3)), (9, (eSi64 r58)), (16, (eSi64 a1)), (17, (i6 (a1.length : Int))), (18, (i6 x44))], []⟩ (by kernel_rfl) (a_region (vp (i6 a0) rfl (vp (eSi64 x42) rfl (vp (eSi64 a3) rfl ?_))))))
      obtain ⟨r60, hr61, h⟩ := bind_some h
      refine a_call (args := [(i6 a0), (eSi64 x42), (eSi64 a3)]) (u := []) (r := (eSi64 r60)) rfl rfl (impl_prime_step_ok a0 x42 a3 r60 hr61) rfl (vp (eSi64 r60) rfl (a_nil (b_norm (a_next (σ' := ⟨[(0, (i6 a0)), (2, (eSi64 r60)), (3, (eSi64 a3)), (9, (eSi64 r58)), (16, (eSi64 a1)), (17, (i6 (a1.length : Int))), (18, (i6 x44))], []⟩) (by kernel_rfl) (a_region (vp (i6 (IntKind.i64.wrap (x44 + 1))) rfl (vp (i6 (IntKind.i64.wrap (x44 + 1))) rfl (a_nil ?_))))))))
      cases h
      exact a_again (by kernel_rfl) hX54
def impl_row_fits_c : ACode := (.seq (.region 0 [q 2 (.asg 0 (.const (.bool false)) 4)] false) (.seq (.region 1 [q 3 (.mov (t 0)), q 4 (.call 0 (.func 69) [(t 3)]), q 5 (.bin .leq 2 (t 4) (.const (.int .i64 63))), q 2 (.asg 0 (t 5) 4)] false) .ret))
def impl_row_fits_L : Live := [(0, [0]), (1, [0])]
noncomputable def impl_row_fits (a0 : (List Int)) : Option Bool :=
  (Option.bind (impl_row_degree a0) fun r1 => (some ((decide (r1 ≤ 63)))))
theorem impl_row_fits_ok (a0 : (List Int)) (r : Bool) (h : impl_row_fits a0 = some r) : Den Try.prog 140 [(eSi64 a0)] { r := (.bool r) } := by
  refine den_of (rs := [(.bool r)]) (ac := impl_row_fits_c) (L := impl_row_fits_L) (n := 6) (m := []) (c := Try.f140.body.getD .skip) good Try.func140 (by kernel_rfl) (by kernel_rfl) Try.ntmps140 rfl rfl (by kernel_rfl) rfl rfl ?_
  refine a_st (σ' := ⟨[(0, (eSi64 a0))], []⟩) (by kernel_rfl) ?_
  unfold impl_row_fits_c
  refine sr (vp (.bool false) rfl (nx ⟨[(0, (eSi64 a0))], []⟩ (by kernel_rfl) (sr (vp (eSi64 a0) rfl ?_))))
  obtain ⟨r1, hr2, h⟩ := bind_some h
  refine a_call (args := [(eSi64 a0)]) (u := []) (r := (i6 r1)) rfl rfl (impl_row_degree_ok a0 r1 hr2) rfl (vp (.bool ((decide (r1 ≤ 63)))) rfl (vp (.bool ((decide (r1 ≤ 63)))) rfl (nx _ rfl (a_ret ?_))))
  refine ⟨.inr rfl, ?_⟩
  rw [Try.results140]
  cases h
  exact ⟨_, _, _, _, _, rfl, trivial, .inl ⟨rfl, .inl rfl⟩, rfl, rfl⟩
def impl_row_poly_c : ACode := (.seq (.region 0 [q 2 (.alloc 26)] false) (.seq (.region 1 [q 3 (.alloc 26)] false) (.seq (.seq (.region 2 [q 6 (.mov (t 0)), q 7 (.blt 0 .len [(t 6)] [66]), q 8 (.mov (.const (.int .i64 0)))] false) (.block 0 (.loop (.seq (.region 3 [q 9 (.bin .lss 3 (t 8) (t 7))] false) (.seq (.cond (t 9) .skip (.exit 0)) (.seq (.block 1 (.seq (.region 4 [q 10 (.mov (t 8)), q 11 (.indexAddr 66 (t 6) (t 8)), q 12 (.load 2 (t 11)), q 4 (.asg 0 (t 10) 3), q 5 (.asg 0 (t 12) 2)] false) (.region 5 [q 13 (.mov (t 4)), q 14 (.mov (t 5)), q 15 (.conv 2 5 (t 14)), q 16 (.indexAddr 26 (t 3) (t 13)), ⟨none, .store 5 (t 16) (t 15), none, []⟩] false))) (.region 6 [q 17 (.bin .add 3 (t 8) (.const (.int .i64 1))), q 8 (.mov (t 17))] false))))))) (.seq (.region 7 [q 18 (.load 26 (t 3)), ⟨none, .store 26 (t 2) (t 18), none, []⟩] false) .ret))))
def impl_row_poly_L : Live := [(0, [0]), (1, [0, 2]), (2, [0, 2, 3]), (3, [2, 3, 6, 7, 8]), (4, [2, 3, 6, 7, 8]), (5, [2, 3, 4, 5, 6, 7, 8]), (6, [2, 3, 6, 7, 8]), (7, [2, 3]), (100009, [2, 3, 6, 7, 8, 9])]
noncomputable def impl_row_poly_l1 (a0 : (List Int)) (x31 : Int) (x32 : (Vec Int 64)) : Option ((Int × (Vec Int 64)) ⊕ (Vec Int 64)) :=
  (if (decide (x31 < (a0.length : Int))) then (ifp (0 ≤ x31 ∧ x31 < ((a0.length : Nat) : Int)) ((ifp (0 ≤ x31 ∧ x31 < ((64 : Nat) : Int)) ((some (.inl ((IntKind.i64.wrap (x31 + 1), (vset x32 x31.toNat (IntKind.u8.wrap (rd a0 x31.toNat))))))))))) else (some (.inr x32)))
noncomputable def impl_row_poly (a0 : (List Int)) : Option (Vec Int 64) :=
  (Option.bind (α := (Vec Int 64)) ((loopM (fun s : (Int × (Vec Int 64)) => impl_row_poly_l1 a0 s.1 s.2) (0, (vrep 64 (0 : Int))))) fun x22 => (some x22))
theorem impl_row_poly_ok (a0 : (List Int)) (r : (Vec Int 64)) (h : impl_row_poly a0 = some r) : Den Try.prog 131 [(eSi64 a0)] { r := (eA64u8 r) } := by
  refine den_of (rs := [(eA64u8 r)]) (ac := impl_row_poly_c) (L := impl_row_poly_L) (n := 19) (m := []) (c := Try.f131.body.getD .skip) good Try.func131 (by kernel_rfl) (by kernel_rfl) Try.ntmps131 rfl rfl (by kernel_rfl) rfl rfl ?_
  refine a_st (σ' := ⟨[(0, (eSi64 a0))], []⟩) (by kernel_rfl) ?_
  unfold impl_row_poly_c
  refine sr (vo 1200 (eA64u8 ((vrep 64 (0 : Int)))) rfl rfl (nx ⟨[(0, (eSi64 a0)), (2, (ow 2))], [(2, (bk (eA64u8 ((vrep 64 (0 : Int))))))]⟩ (by kernel_rfl) (sr (vo 1300 (eA64u8 ((vrep 64 (0 : Int)))) rfl rfl (nx ⟨[(0, (eSi64 a0)), (2, (ow 2)), (3, (ow 3))], [(2, (bk (eA64u8 ((vrep 64 (0 : Int)))))), (3, (bk (eA64u8 ((vrep 64 (0 : Int))))))]⟩ (by kernel_rfl) ?_)))))
  obtain ⟨y23, hy24, hk25⟩ := bind_some h
  clear h
  refine a_join (emb := fun (s : (Vec Int 64)) => ⟨[(2, (ow 2)), (3, (ow 3))], [(2, (bk (eA64u8 ((vrep 64 (0 : Int)))))), (3, (bk (eA64u8 s)))]⟩) (pre := fun s => s = y23) ?_ ?_
  · rintro x22 rfl
    have h := hk25
    refine a_st (σ' := ⟨[(2, (ow 2)), (3, (ow 3))], [(2, (bk (eA64u8 ((vrep 64 (0 : Int)))))), (3, (bk (eA64u8 x22)))]⟩) (by kernel_rfl) (sr (vl (eA64u8 x22) rfl rfl rfl rfl rfl rfl (vs (eA64u8 x22) rfl rfl (fun _ => rfl) rfl rfl rfl rfl rfl rfl (nx _ rfl (a_ret ?_)))))
    have hl49 : LdOk [] (eA64u8 x22) [] 64 true (eA64u8 x22) := (.nil rfl rfl rfl)
    refine ⟨.inr rfl, ?_⟩
    rw [Try.results131]
    cases h
    exact ⟨_, _, _, _, _, ld_own (i := ⟨.arr 64 5, 64, 64, (eA64u8 (vrep 64 (0 : Int)))⟩) rfl rfl rfl hl49, hl49.c, .inl ⟨rfl, .inl rfl⟩, rfl, rfl⟩
  · have h := hy24
    refine sr (vp (eSi64 a0) rfl (vq (i6 (a0.length : Int)) (len_run rfl rfl) trivial (vp (i6 0) rfl (nx ⟨[(2, (ow 2)), (3, (ow 3)), (6, (eSi64 a0)), (7, (i6 (a0.length : Int))), (8, (i6 0))], [(2, (bk (eA64u8 ((vrep 64 (0 : Int)))))), (3, (bk (eA64u8 ((vrep 64 (0 : Int))))))]⟩ (by kernel_rfl) (a_block ?_)))))
    refine a_loop (emb := fun (s : (Int × (Vec Int 64))) => ⟨[(2, (ow 2)), (3, (ow 3)), (6, (eSi64 a0)), (7, (i6 (a0.length : Int))), (8, (i6 s.1))], [(2, (bk (eA64u8 ((vrep 64 (0 : Int)))))), (3, (bk (eA64u8 s.2)))]⟩) (body := (fun s : (Int × (Vec Int 64)) => impl_row_poly_l1 a0 s.1 s.2)) (G := fun q => some q = some y23) h rfl ?_ (by kernel_rfl)
    rintro X38 ⟨x31, x32⟩ x39 h hX40
    have h : impl_row_poly_l1 a0 x31 x32 = some x39 := h
    refine a_st (σ' := ⟨[(2, (ow 2)), (3, (ow 3)), (6, (eSi64 a0)), (7, (i6 (a0.length : Int))), (8, (i6 x31))], [(2, (bk (eA64u8 ((vrep 64 (0 : Int)))))), (3, (bk (eA64u8 x32)))]⟩) (by kernel_rfl) (sr (vp (.bool ((decide (x31 < (a0.length : Int))))) rfl (nx ⟨[(2, (ow 2)), (3, (ow 3)), (6, (eSi64 a0)), (7, (i6 (a0.length : Int))), (8, (i6 x31)), (9, (.bool ((decide (x31 < (a0.length : Int))))))], [(2, (bk (eA64u8 ((vrep 64 (0 : Int)))))), (3, (bk (eA64u8 x32)))]⟩ (by kernel_rfl) (a_seq ?_))))
    cases hb41 : (decide (x31 < (a0.length : Int)))
    · have h := ite_f hb41 h
      refine a_cond_f rfl (a_exit (t_exit ?_))
      cases h
      have h := hX40
      refine t_exit (b_exit ?_)
      exact j_leaf x32 (Option.some.inj h) (by kernel_rfl)
    · have h := ite_t hb41 h
      refine a_cond_t rfl (a_skip (a_next (σ' := ⟨[(2, (ow 2)), (3, (ow 3)), (6, (eSi64 a0)), (7, (i6 (a0.length : Int))), (8, (i6 x31))], [(2, (bk (eA64u8 ((vrep 64 (0 : Int)))))), (3, (bk (eA64u8 x32)))]⟩) (by kernel_rfl) (a_seq (a_block (sr (vp (i6 x31) rfl ?_))))))
      obtain ⟨hc42, h⟩ := ifp_some h
      refine vq (.ref (.row 1 (a0.map (AV.int .i64))) [x31.toNat] [x31.toNat * 1]) rfl (lmap hc42) ?_
      have hl43 : LdOk [x31.toNat] (.row 1 (a0.map (AV.int .i64))) [x31.toNat * 1] 1 false (i6 (rd a0 x31.toNat)) := (.row (llt hc42) rfl (.nil rfl rfl rfl))
      refine vq (i6 (rd a0 x31.toNat)) (ld_ref (i := ⟨.int .i64, 1, 8, (.int .i64 0)⟩) rfl rfl hl43) hl43.c (vp (i6 x31) rfl (vp (i6 (rd a0 x31.toNat)) rfl (nx ⟨[(2, (ow 2)), (3, (ow 3)), (4, (i6 x31)), (5, (i6 (rd a0 x31.toNat))), (6, (eSi64 a0)), (7, (i6 (a0.length : Int))), (8, (i6 x31))], [(2, (bk (eA64u8 ((vrep 64 (0 : Int)))))), (3, (bk (eA64u8 x32)))]⟩ (by kernel_rfl) (a_region (vp (i6 x31) rfl (vp (i6 (rd a0 x31.toNat)) rfl (vp (b8 (IntKind.u8.wrap (rd a0 x31.toNat))) rfl ?_)))))))
      obtain ⟨hc44, h⟩ := ifp_some h
      refine vq (.own 3 [x31.toNat] [x31.toNat * 1]) rfl hc44 ?_
      have hs45 : StOk [x31.toNat] (eA64u8 x32) [x31.toNat * 1] 1 (b8 (IntKind.u8.wrap (rd a0 x31.toNat))) (eA64u8 ((vset x32 x31.toNat (IntKind.u8.wrap (rd a0 x31.toNat))))) := (.arr (y := IntKind.u8.wrap (rd a0 x31.toNat)) (vlt x32 hc44) rfl (.nil rfl rfl rfl rfl))
      refine vu .top [(3, (bk (eA64u8 ((vset x32 x31.toNat (IntKind.u8.wrap (rd a0 x31.toNat)))))))] (st_own (i := ⟨.int .u8, 1, 1, (.int .u8 0)⟩) rfl rfl (fun _ => rfl) rfl hs45) (hs45.c rfl) rfl (a_nil (b_norm (a_next (σ' := ⟨[(2, (ow 2)), (3, (ow 3)), (6, (eSi64 a0)), (7, (i6 (a0.length : Int))), (8, (i6 x31))], [(2, (bk (eA64u8 ((vrep 64 (0 : Int)))))), (3, (bk (eA64u8 ((vset x32 x31.toNat (IntKind.u8.wrap (rd a0 x31.toNat)))))))]⟩) (by kernel_rfl) (a_region (vp (i6 (IntKind.i64.wrap (x31 + 1))) rfl (vp (i6 (IntKind.i64.wrap (x31 + 1))) rfl (a_nil ?_)))))))
      cases h
      exact a_again (by kernel_rfl) hX40
def impl_told_c : ACode := (.seq (.region 0 [q 2 (.alloc 26), q 3 (.asg 0 (.const (.int .i64 0)) 2)] false) (.seq (.seq (.region 1 [q 4 (.mov (t 0)), q 5 (.call 0 (.func 140) [(t 4)]), q 6 (.un .not (t 5))] false) (.cond (t 6) (.seq (.region 2 [q 7 (.build 26 []), ⟨none, .store 26 (t 2) (t 7), none, []⟩, q 3 (.asg 0 (.const (.int .i64 3)) 2)] false) .ret) .skip)) (.seq (.region 3 [q 8 (.mov (t 0)), q 9 (.call 0 (.func 131) [(t 8)]), ⟨none, .store 26 (t 2) (t 9), none, []⟩, q 3 (.asg 0 (.const (.int .i64 0)) 2)] false) .ret)))
def impl_told_L : Live := [(0, [0]), (1, [0, 2]), (2, [2]), (3, [0, 2]), (100006, [0, 2, 6])]
noncomputable def impl_told (a0 : (List Int)) : Option ((Vec Int 64) × Int) :=
  (Option.bind (impl_row_fits a0) fun r1 => (if (!r1) then (some (((vrep 64 (0 : Int)), 3))) else (Option.bind (impl_row_poly a0) fun r4 => (some (r4, 0)))))
theorem impl_told_ok (a0 : (List Int)) (r : ((Vec Int 64) × Int)) (h : impl_told a0 = some r) : Den Try.prog 74 [(eSi64 a0)] { r := (.tuple [(eA64u8 r.1), (i6 r.2)]) } := by
  refine den_of (rs := [(eA64u8 r.1), (i6 r.2)]) (ac := impl_told_c) (L := impl_told_L) (n := 10) (m := []) (c := Try.f74.body.getD .skip) good Try.func74 (by kernel_rfl) (by kernel_rfl) Try.ntmps74 rfl rfl (by kernel_rfl) rfl rfl ?_
  refine a_st (σ' := ⟨[(0, (eSi64 a0))], []⟩) (by kernel_rfl) ?_
  unfold impl_told_c
  refine sr (vo 1200 (eA64u8 ((vrep 64 (0 : Int)))) rfl rfl (vp (i6 0) rfl (nx ⟨[(0, (eSi64 a0)), (2, (ow 2))], [(2, (bk (eA64u8 ((vrep 64 (0 : Int))))))]⟩ (by kernel_rfl) (a_seq (sr (vp (eSi64 a0) rfl ?_))))))
  obtain ⟨r1, hr2, h⟩ := bind_some h
  refine a_call (args := [(eSi64 a0)]) (u := []) (r := (.bool r1)) rfl rfl (impl_row_fits_ok a0 r1 hr2) rfl (vp (.bool (!r1)) rfl (nx ⟨[(0, (eSi64 a0)), (2, (ow 2)), (6, (.bool (!r1)))], [(2, (bk (eA64u8 ((vrep 64 (0 : Int))))))]⟩ (by kernel_rfl) ?_))
  cases hb3 : (!r1)
  · have h := ite_f hb3 h
    refine a_cond_f rfl (a_skip (a_next (σ' := ⟨[(0, (eSi64 a0)), (2, (ow 2))], [(2, (bk (eA64u8 ((vrep 64 (0 : Int))))))]⟩) (by kernel_rfl) (sr (vp (eSi64 a0) rfl ?_))))
    obtain ⟨r4, hr5, h⟩ := bind_some h
    refine a_call (args := [(eSi64 a0)]) (u := []) (r := (eA64u8 r4)) rfl rfl (impl_row_poly_ok a0 r4 hr5) rfl (vs (eA64u8 r4) rfl rfl (fun _ => rfl) rfl rfl rfl rfl rfl rfl (vp (i6 0) rfl (nx _ rfl (a_ret ?_))))
    have hl7 : LdOk [] (eA64u8 r4) [] 64 true (eA64u8 r4) := (.nil rfl rfl rfl)
    refine ⟨.inr rfl, ?_⟩
    rw [Try.results74]
    cases h
    exact ⟨_, _, _, _, _, ld_own (i := ⟨.arr 64 5, 64, 64, (eA64u8 (vrep 64 (0 : Int)))⟩) rfl rfl rfl hl7, hl7.c, .inl ⟨rfl, .inl rfl⟩, rfl, ⟨_, _, _, _, _, rfl, trivial, .inl ⟨rfl, .inl rfl⟩, rfl, rfl⟩⟩
  · have h := ite_t hb3 h
    refine a_cond_t rfl (sr (vq (eA64u8 ((vrep 64 (0 : Int)))) rfl ⟨⟨_, rfl, rfl⟩, all_nil⟩ (vs (eA64u8 ((vrep 64 (0 : Int)))) rfl rfl (fun _ => rfl) rfl rfl rfl rfl rfl rfl (vp (i6 3) rfl (nx _ rfl (a_ret (t_ret ?_)))))))
    have hl9 : LdOk [] (eA64u8 ((vrep 64 (0 : Int)))) [] 64 true (eA64u8 ((vrep 64 (0 : Int)))) := (.nil rfl rfl rfl)
    refine ⟨.inr rfl, ?_⟩
    rw [Try.results74]
    cases h
    exact ⟨_, _, _, _, _, ld_own (i := ⟨.arr 64 5, 64, 64, (eA64u8 (vrep 64 (0 : Int)))⟩) rfl rfl rfl hl9, hl9.c, .inl ⟨rfl, .inl rfl⟩, rfl, ⟨_, _, _, _, _, rfl, trivial, .inl ⟨rfl, .inl rfl⟩, rfl, rfl⟩⟩
def impl_DeepRest_c : ACode := (.seq (.region 0 [q 4 (.box 26 (t 1)), q 5 (.box 26 (t 2)), q 6 (.alloc 26), q 7 (.asg 0 (.const (.int .i64 0)) 2)] false) (.seq (.seq (.region 1 [q 14 (.mov (t 0)), q 15 (.load 26 (t 4)), q 16 (.load 26 (t 5)), q 17 (.bslice 0 38 2 [(0, (t 15)), (1, (t 16))]), q 18 (.call 0 (.func 61) [(t 14), (t 17)]), q 8 (.asg 0 (t 18) 2)] false) (.seq (.region 2 [q 19 (.mov (t 8)), q 20 (.bin .neq 2 (t 19) (.const (.int .i64 0)))] false) (.cond (t 20) (.seq (.region 3 [q 21 (.build 26 []), q 22 (.mov (t 8)), ⟨none, .store 26 (t 6) (t 21), none, []⟩, q 7 (.asg 0 (t 22) 2)] false) .ret) .skip))) (.seq (.region 4 [q 23 (.mov (t 0)), q 24 (.load 26 (t 5)), q 25 (.call 0 (.func 68) [(t 24)]), q 9 (.asg 0 (t 23) 65), q 10 (.asg 1 (t 25) 66)] false) (.seq (.block 0 (.seq (.region 5 [q 27 (.mov (t 10)), q 28 (.call 0 (.func 85) [(t 27)]), q 29 (.bin .neq 2 (t 28) (.const (.int .i64 1))), q 30 (.mov (t 29)), ⟨some 31, .mov (t 10), some (30, false), []⟩, ⟨some 32, .call 0 (.func 69) [(t 31)], some (30, false), []⟩, ⟨some 33, .call 0 (.func 86) [(t 32), (.const (.int .i64 1)), (.const (.int .i64 3))], some (30, false), []⟩, ⟨some 34, .un .not (t 33), some (30, false), []⟩, q 35 (.pick (t 30) (.const (.bool true)) (t 34)), q 26 (.asg 0 (t 35) 4)] false) (.cond (t 26) (.seq (.region 6 [q 36 (.build 26 []), ⟨none, .store 26 (t 6) (t 36), none, []⟩, q 7 (.asg 0 (.const (.int .i64 2)) 2)] false) .ret) (.seq (.region 7 [q 38 (.mov (t 9)), q 39 (.mov (t 10)), q 40 (.call 0 (.func 98) [(t 38), (t 39)]), q 41 (.un .not (t 40)), q 37 (.asg 0 (t 41) 4)] false) (.cond (t 37) (.seq (.region 8 [q 42 (.build 26 []), ⟨none, .store 26 (t 6) (t 42), none, []⟩, q 7 (.asg 0 (.const (.int .i64 5)) 2)] false) .ret) .skip))))) (.seq (.region 9 [q 43 (.mov (t 9)), q 44 (.mov (t 9)), q 45 (.mov (t 10)), q 46 (.bslice 0 66 1 [(0, (.const (.int .i64 1)))]), ⟨some 47, .call 0 (.func 99) [(t 44), (t 45), (t 46), (.const (.int .i64 (-1)))], none, [1, 2, 3]⟩, q 48 (.mov (t 9)), q 49 (.load 26 (t 4)), ⟨some 50, .call 0 (.func 68) [(t 49)], none, [6, 4]⟩, q 51 (.mov (t 10)), ⟨some 52, .call 0 (.func 100) [(t 48), (t 50), (t 51)], none, [5, 7, 8, 7]⟩, q 53 (.mov (t 9)), q 54 (.mov (t 10)), q 55 (.mov (t 10)), ⟨some 56, .call 0 (.func 101) [(t 53), (t 54), (t 55)], none, [10, 11, 12, 9]⟩, ⟨some 57, .call 0 (.func 80) [(t 43), (t 47), (t 52), (t 56)], none, [0, 4, 9, 13, 13]⟩, ⟨some 11, .asg 1 (t 57) 66, none, [14, 14, 0, 1, 2, 3, 4, 5, 6, 7, 8, 9, 10, 11, 12, 13, 14]⟩] true) (.seq (.region 10 [q 59 (.mov (t 9)), q 60 (.mov (t 11)), q 61 (.mov (t 10)), q 62 (.call 0 (.func 102) [(t 59), (t 60), (t 61)]), q 58 (.mov (t 62)), q 63 (.extract (t 58) 0), q 64 (.extract (t 58) 1), q 12 (.asg 1 (t 63) 66), q 13 (.asg 1 (t 64) 66)] false) (.seq (.region 11 [q 65 (.mov (t 9)), q 66 (.mov (t 12)), q 67 (.mov (t 10)), q 68 (.call 0 (.func 100) [(t 65), (t 66), (t 67)]), q 69 (.call 0 (.func 74) [(t 68)]), q 70 (.extract (t 69) 0), q 71 (.extract (t 69) 1), ⟨none, .store 26 (t 6) (t 70), none, []⟩, q 7 (.asg 0 (t 71) 2)] false) .ret)))))))
def impl_DeepRest_L : Live := [(0, [0, 1, 2]), (1, [0, 4, 5, 6]), (2, [0, 4, 5, 6, 8]), (3, [6, 8]), (4, [0, 4, 5, 6]), (5, [4, 6, 9, 10]), (6, [6]), (7, [4, 6, 9, 10]), (8, [6]), (9, [4, 6, 9, 10]), (10, [6, 9, 10, 11]), (11, [6, 9, 10, 12]), (100020, [0, 4, 5, 6, 8, 20]), (100026, [4, 6, 9, 10, 26]), (100037, [4, 6, 9, 10, 37])]
noncomputable def impl_DeepRest (a0 : Int) (a1 : (Vec Int 64)) (a2 : (Vec Int 64)) : Option ((Vec Int 64) × Int) :=
  (Option.bind (impl_polysCode a0 ([a1, a2])) fun r3 => (if (r3 != 0) then (some (((vrep 64 (0 : Int)), r3))) else (Option.bind (impl_rowOf a2) fun r7 => (Option.bind (α := Bool) ((Option.bind (impl_row_lead r7) fun r20 => (if (r20 != 1) then (some true) else (Option.bind (impl_row_degree r7) fun r23 => (Option.bind (impl_within r23 1 3) fun r25 => (some (!r25))))))) fun x16 => (if x16 then (some (((vrep 64 (0 : Int)), 2))) else (Option.bind (impl_prime_isIrreducible a0 r7) fun r28 => (if (!r28) then (some (((vrep 64 (0 : Int)), 5))) else (Option.bind (impl_prime_combine a0 r7 ([1]) (-1)) fun r42 => (Option.bind (impl_rowOf a1) fun r45 => (Option.bind (impl_prime_rest a0 r45 r7) fun r47 => (Option.bind (impl_prime_times a0 r7 r7) fun r49 => (Option.bind (impl_prime_act a0 r42 r47 r49) fun r51 => (Option.bind (impl_prime_divide a0 r51 r7) fun r53 => (Option.bind (impl_prime_rest a0 r53.1 r7) fun r55 => (Option.bind (impl_told r55) fun r57 => (some (r57.1, r57.2)))))))))))))))))
theorem impl_DeepRest_ok (a0 : Int) (a1 : (Vec Int 64)) (a2 : (Vec Int 64)) (r : ((Vec Int 64) × Int)) (h : impl_DeepRest a0 a1 a2 = some r) : Den Try.prog 44 [(i6 a0), (eA64u8 a1), (eA64u8 a2)] { r := (.tuple [(eA64u8 r.1), (i6 r.2)]) } := by
  refine den_of (rs := [(eA64u8 r.1), (i6 r.2)]) (ac := impl_DeepRest_c) (L := impl_DeepRest_L) (n := 72) (m := [(10, 1), (11, 1), (12, 1), (13, 1)]) (c := Try.f44.body.getD .skip) good Try.func44 (by kernel_rfl) (by kernel_rfl) Try.ntmps44 rfl rfl (by kernel_rfl) rfl rfl ?_
  refine a_st (σ' := ⟨[(0, (i6 a0)), (1, (eA64u8 a1)), (2, (eA64u8 a2))], []⟩) (by kernel_rfl) ?_
  unfold impl_DeepRest_c
  refine sr (vo 1400 (eA64u8 a1) rfl rfl (vo 1500 (eA64u8 a2) rfl rfl (vo 1600 (eA64u8 ((vrep 64 (0 : Int)))) rfl rfl (vp (i6 0) rfl (nx ⟨[(0, (i6 a0)), (4, (ow 4)), (5, (ow 5)), (6, (ow 6))], [(4, (bk (eA64u8 a1))), (5, (bk (eA64u8 a2))), (6, (bk (eA64u8 ((vrep 64 (0 : Int))))))]⟩ (by kernel_rfl) (a_seq (sr (vp (i6 a0) rfl (vl (eA64u8 a1) rfl rfl rfl rfl rfl rfl ?_)))))))))
  refine vl (eA64u8 a2) rfl rfl rfl rfl rfl rfl (vq (.sl 64 true (([a1, a2]).map eA64u8)) rfl ⟨(Nat.le_of_ble_eq_true rfl), (Nat.le_of_ble_eq_true rfl), (all_cons ⟨(Nat.le_of_ble_eq_true rfl), rfl⟩ (all_cons ⟨(Nat.le_of_ble_eq_true rfl), rfl⟩ all_nil))⟩ ?_)
  obtain ⟨r3, hr4, h⟩ := bind_some h
  refine a_call (args := [(i6 a0), (.sl 64 true (([a1, a2]).map eA64u8))]) (u := []) (r := (i6 r3)) rfl rfl (Den.args (impl_polysCode_ok a0 ([a1, a2]) r3 hr4) rfl rfl (.cons (.refl _) (.cons (.loose _) .nil))) rfl (vp (i6 r3) rfl (nx ⟨[(0, (i6 a0)), (4, (ow 4)), (5, (ow 5)), (6, (ow 6)), (8, (i6 r3))], [(4, (bk (eA64u8 a1))), (5, (bk (eA64u8 a2))), (6, (bk (eA64u8 ((vrep 64 (0 : Int))))))]⟩ (by kernel_rfl) (sr (vp (i6 r3) rfl (vp (.bool (r3 != 0)) rfl (nx ⟨[(0, (i6 a0)), (4, (ow 4)), (5, (ow 5)), (6, (ow 6)), (8, (i6 r3)), (20, (.bool (r3 != 0)))], [(4, (bk (eA64u8 a1))), (5, (bk (eA64u8 a2))), (6, (bk (eA64u8 ((vrep 64 (0 : Int))))))]⟩ (by kernel_rfl) ?_))))))
  cases hb5 : (r3 != 0)
  · have h := ite_f hb5 h
    refine a_cond_f rfl (a_skip (a_next (σ' := ⟨[(0, (i6 a0)), (4, (ow 4)), (5, (ow 5)), (6, (ow 6))], [(4, (bk (eA64u8 a1))), (5, (bk (eA64u8 a2))), (6, (bk (eA64u8 ((vrep 64 (0 : Int))))))]⟩) (by kernel_rfl) (sr (vp (i6 a0) rfl (vl (eA64u8 a2) rfl rfl rfl rfl rfl rfl ?_)))))
    obtain ⟨r7, hr8, h⟩ := bind_some h
    refine a_call (args := [(eA64u8 a2)]) (u := []) (r := (eSi64 r7)) rfl rfl (impl_rowOf_ok a2 r7 hr8) rfl (vp (i6 a0) rfl (vp (eSi64 r7) rfl (nx ⟨[(4, (ow 4)), (6, (ow 6)), (9, (i6 a0)), (10, (eSi64 r7))], [(4, (bk (eA64u8 a1))), (6, (bk (eA64u8 ((vrep 64 (0 : Int))))))]⟩ (by kernel_rfl) (a_seq (a_block ?_)))))
    obtain ⟨y17, hy18, hk19⟩ := bind_some h
    clear h
    refine a_join (emb := fun (s : Bool) => ⟨[(4, (ow 4)), (6, (ow 6)), (9, (i6 a0)), (10, (eSi64 r7)), (26, (.bool s))], [(4, (bk (eA64u8 a1))), (6, (bk (eA64u8 ((vrep 64 (0 : Int))))))]⟩) (pre := fun s => s = y17) ?_ ?_
    · rintro x16 rfl
      have h := hk19
      refine a_st (σ' := ⟨[(4, (ow 4)), (6, (ow 6)), (9, (i6 a0)), (10, (eSi64 r7)), (26, (.bool x16))], [(4, (bk (eA64u8 a1))), (6, (bk (eA64u8 ((vrep 64 (0 : Int))))))]⟩) (by kernel_rfl) ?_
      cases hb27 : x16
      · have h := ite_f hb27 h
        refine a_cond_f rfl (sr (vp (i6 a0) rfl (vp (eSi64 r7) rfl ?_)))
        obtain ⟨r28, hr29, h⟩ := bind_some h
        refine a_call (args := [(i6 a0), (eSi64 r7)]) (u := []) (r := (.bool r28)) rfl rfl (impl_prime_isIrreducible_ok a0 r7 r28 hr29) rfl (vp (.bool (!r28)) rfl (vp (.bool (!r28)) rfl (nx ⟨[(4, (ow 4)), (6, (ow 6)), (9, (i6 a0)), (10, (eSi64 r7)), (37, (.bool (!r28)))], [(4, (bk (eA64u8 a1))), (6, (bk (eA64u8 ((vrep 64 (0 : Int))))))]⟩ (by kernel_rfl) ?_)))
        cases hb30 : (!r28)
        · have h := ite_f hb30 h
          refine a_cond_f rfl (a_skip (b_norm (a_next (σ' := ⟨[(4, (ow 4)), (6, (ow 6)), (9, (i6 a0)), (10, (eSi64 r7))], [(4, (bk (eA64u8 a1))), (6, (bk (eA64u8 ((vrep 64 (0 : Int))))))]⟩) (by kernel_rfl) (a_seq (a_draw [⟨[], [], [], []⟩, ⟨[], [], [], []⟩, ⟨[], [], [], []⟩, ⟨[], [], [], []⟩, ⟨[], [], [], [1, 2, 3]⟩, ⟨[], [], [], []⟩, ⟨[4], [], [], []⟩, ⟨[], [], [], [1, 2, 3, 4, 6]⟩, ⟨[], [], [], []⟩, ⟨[], [], [], [1, 2, 3, 4, 5, 6, 7, 8]⟩, ⟨[], [], [], []⟩, ⟨[], [], [], []⟩, ⟨[], [], [], []⟩, ⟨[], [], [], [1, 2, 3, 4, 5, 6, 7, 8, 9, 10, 11, 12]⟩, ⟨[], [], [], [0, 1, 2, 3, 4, 5, 6, 7, 8, 9, 10, 11, 12, 13]⟩, ⟨[], [], [], [0, 1, 2, 3, 4, 5, 6, 7, 8, 9, 10, 11, 12, 13, 14]⟩] (by kernel_rfl) (dp (i6 a0) rfl (by kernel_rfl) (dp (i6 a0) rfl (by kernel_rfl) (dp (eSi64 r7) rfl (by kernel_rfl) (d_cons ?_)))))))))
          refine vq (.sl 1 true (([1]).map (AV.int .i64))) rfl ⟨(Nat.le_of_ble_eq_true rfl), (Nat.le_of_ble_eq_true rfl), (all_cons ⟨(Nat.le_of_ble_eq_true rfl), rfl⟩ all_nil)⟩ (d_next (by kernel_rfl) (d_cons ?_))
          obtain ⟨r42, hr43, h⟩ := bind_some h
          refine a_call (args := [(i6 a0), (eSi64 r7), (.sl 1 true (([1]).map (AV.int .i64))), (i6 (-1))]) (u := []) (r := (eSi64 r42)) rfl rfl (Den.args (impl_prime_combine_ok a0 r7 ([1]) (-1) r42 hr43) rfl rfl (.cons (.refl _) (.cons (.refl _) (.cons (.loose _) (.cons (.refl _) .nil))))) rfl (d_next (by kernel_rfl) (dp (i6 a0) rfl (by kernel_rfl) (d_cons (vl (eA64u8 a1) rfl rfl rfl rfl rfl rfl (d_next (by kernel_rfl) (d_cons ?_))))))
          obtain ⟨r45, hr46, h⟩ := bind_some h
          refine a_call (args := [(eA64u8 a1)]) (u := []) (r := (eSi64 r45)) rfl rfl (impl_rowOf_ok a1 r45 hr46) rfl (d_next (by kernel_rfl) (dp (eSi64 r7) rfl (by kernel_rfl) (d_cons ?_)))
          obtain ⟨r47, hr48, h⟩ := bind_some h
          refine a_call (args := [(i6 a0), (eSi64 r45), (eSi64 r7)]) (u := []) (r := (eSi64 r47)) rfl rfl (impl_prime_rest_ok a0 r45 r7 r47 hr48) rfl (d_next (by kernel_rfl) (dp (i6 a0) rfl (by kernel_rfl) (dp (eSi64 r7) rfl (by kernel_rfl) (dp (eSi64 r7) rfl (by kernel_rfl) (d_cons ?_)))))
          obtain ⟨r49, hr50, h⟩ := bind_some h
          refine a_call (args := [(i6 a0), (eSi64 r7), (eSi64 r7)]) (u := []) (r := (eSi64 r49)) rfl rfl (impl_prime_times_ok a0 r7 r7 r49 hr50) rfl (d_next (by kernel_rfl) (d_cons ?_))
          obtain ⟨r51, hr52, h⟩ := bind_some h
          refine a_call (args := [(i6 a0), (eSi64 r42), (eSi64 r47), (eSi64 r49)]) (u := []) (r := (eSi64 r51)) rfl rfl (impl_prime_act_ok a0 r42 r47 r49 r51 hr52) rfl (d_next (by kernel_rfl) (dp (eSi64 r51) rfl (by kernel_rfl) (d_nil (a_next (σ' := ⟨[(6, (ow 6)), (9, (i6 a0)), (10, (eSi64 r7)), (11, (eSi64 r51))], [(6, (bk (eA64u8 ((vrep 64 (0 : Int))))))]⟩) (by kernel_rfl) (sr (vp (i6 a0) rfl (vp (eSi64 r51) rfl (vp (eSi64 r7) rfl ?_))))))))
          obtain ⟨r53, hr54, h⟩ := bind_some h
          refine a_call (args := [(i6 a0), (eSi64 r51), (eSi64 r7)]) (u := []) (r := (.tuple [(eSi64 r53.1), (eSi64 r53.2)])) rfl rfl (impl_prime_divide_ok a0 r51 r7 r53 hr54) rfl (vp (.tuple [(eSi64 r53.1), (eSi64 r53.2)]) rfl (vb (eSi64 r53.1) rfl rfl (vb (eSi64 r53.2) rfl rfl (vp (eSi64 r53.1) rfl (vp (eSi64 r53.2) rfl (nx ⟨[(6, (ow 6)), (9, (i6 a0)), (10, (eSi64 r7)), (12, (eSi64 r53.1))], [(6, (bk (eA64u8 ((vrep 64 (0 : Int))))))]⟩ (by kernel_rfl) (sr (vp (i6 a0) rfl (vp (eSi64 r53.1) rfl ?_)))))))))
          refine vp (eSi64 r7) rfl ?_
          obtain ⟨r55, hr56, h⟩ := bind_some h
          refine a_call (args := [(i6 a0), (eSi64 r53.1), (eSi64 r7)]) (u := []) (r := (eSi64 r55)) rfl rfl (impl_prime_rest_ok a0 r53.1 r7 r55 hr56) rfl ?_
          obtain ⟨r57, hr58, h⟩ := bind_some h
          refine a_call (args := [(eSi64 r55)]) (u := []) (r := (.tuple [(eA64u8 r57.1), (i6 r57.2)])) rfl rfl (impl_told_ok r55 r57 hr58) rfl (vb (eA64u8 r57.1) rfl rfl (vb (i6 r57.2) rfl rfl (vs (eA64u8 r57.1) rfl rfl (fun _ => rfl) rfl rfl rfl rfl rfl rfl (vp (i6 r57.2) rfl (nx _ rfl (a_ret ?_))))))
          have hl60 : LdOk [] (eA64u8 r57.1) [] 64 true (eA64u8 r57.1) := (.nil rfl rfl rfl)
          refine ⟨.inr rfl, ?_⟩
          rw [Try.results44]
          cases h
          exact ⟨_, _, _, _, _, ld_own (i := ⟨.arr 64 5, 64, 64, (eA64u8 (vrep 64 (0 : Int)))⟩) rfl rfl rfl hl60, hl60.c, .inl ⟨rfl, .inl rfl⟩, rfl, ⟨_, _, _, _, _, rfl, trivial, .inl ⟨rfl, .inl rfl⟩, rfl, rfl⟩⟩
        · have h := ite_t hb30 h
          refine a_cond_t rfl (sr (vq (eA64u8 ((vrep 64 (0 : Int)))) rfl ⟨⟨_, rfl, rfl⟩, all_nil⟩ (vs (eA64u8 ((vrep 64 (0 : Int)))) rfl rfl (fun _ => rfl) rfl rfl rfl rfl rfl rfl (vp (i6 5) rfl (nx _ rfl (a_ret (b_ret (t_ret ?_))))))))
          have hl62 : LdOk [] (eA64u8 ((vrep 64 (0 : Int)))) [] 64 true (eA64u8 ((vrep 64 (0 : Int)))) := (.nil rfl rfl rfl)
          refine ⟨.inr rfl, ?_⟩
          rw [Try.results44]
          cases h
          exact ⟨_, _, _, _, _, ld_own (i := ⟨.arr 64 5, 64, 64, (eA64u8 (vrep 64 (0 : Int)))⟩) rfl rfl rfl hl62, hl62.c, .inl ⟨rfl, .inl rfl⟩, rfl, ⟨_, _, _, _, _, rfl, trivial, .inl ⟨rfl, .inl rfl⟩, rfl, rfl⟩⟩
      · have h := ite_t hb27 h
        refine a_cond_t rfl (sr (vq (eA64u8 ((vrep 64 (0 : Int)))) rfl ⟨⟨_, rfl, rfl⟩, all_nil⟩ (vs (eA64u8 ((vrep 64 (0 : Int)))) rfl rfl (fun _ => rfl) rfl rfl rfl rfl rfl rfl (vp (i6 2) rfl (nx _ rfl (a_ret (b_ret (t_ret ?_))))))))
        have hl64 : LdOk [] (eA64u8 ((vrep 64 (0 : Int)))) [] 64 true (eA64u8 ((vrep 64 (0 : Int)))) := (.nil rfl rfl rfl)
        refine ⟨.inr rfl, ?_⟩
        rw [Try.results44]
        cases h
        exact ⟨_, _, _, _, _, ld_own (i := ⟨.arr 64 5, 64, 64, (eA64u8 (vrep 64 (0 : Int)))⟩) rfl rfl rfl hl64, hl64.c, .inl ⟨rfl, .inl rfl⟩, rfl, ⟨_, _, _, _, _, rfl, trivial, .inl ⟨rfl, .inl rfl⟩, rfl, rfl⟩⟩
    · have h := hy18
      refine a_region (vp (eSi64 r7) rfl ?_)
      obtain ⟨r20, hr21, h⟩ := bind_some h
      refine a_call (args := [(eSi64 r7)]) (u := []) (r := (i6 r20)) rfl rfl (impl_row_lead_ok r7 r20 hr21) rfl (vp (.bool (r20 != 1)) rfl (vp (.bool (r20 != 1)) rfl ?_))
      cases hb22 : (r20 != 1)
      · have h := ite_f hb22 h
        refine gp (eSi64 r7) rfl rfl ?_
        obtain ⟨r23, hr24, h⟩ := bind_some h
        refine a_gcall rfl (args := [(eSi64 r7)]) (u := []) (r := (i6 r23)) rfl rfl (impl_row_degree_ok r7 r23 hr24) rfl ?_
        obtain ⟨r25, hr26, h⟩ := bind_some h
        refine a_gcall rfl (args := [(i6 r23), (i6 1), (i6 3)]) (u := []) (r := (.bool r25)) rfl rfl (impl_within_ok r23 1 3 r25 hr26) rfl (gp (.bool (!r25)) rfl rfl (vp (.bool (!r25)) rfl (vp (.bool (!r25)) rfl (a_nil ?_))))
        exact j_leaf (!r25) (Option.some.inj h) (by kernel_rfl)
      · have h := ite_t hb22 h
        refine a_gskip rfl (a_gskip rfl (a_gskip rfl (a_gskip rfl (vp (.bool true) rfl (vp (.bool true) rfl (a_nil ?_))))))
        exact j_leaf true (Option.some.inj h) (by kernel_rfl)
  · have h := ite_t hb5 h
    refine a_cond_t rfl (sr (vq (eA64u8 ((vrep 64 (0 : Int)))) rfl ⟨⟨_, rfl, rfl⟩, all_nil⟩ (vp (i6 r3) rfl (vs (eA64u8 ((vrep 64 (0 : Int)))) rfl rfl (fun _ => rfl) rfl rfl rfl rfl rfl rfl (vp (i6 r3) rfl (nx _ rfl (a_ret (t_ret ?_))))))))
    have hl66 : LdOk [] (eA64u8 ((vrep 64 (0 : Int)))) [] 64 true (eA64u8 ((vrep 64 (0 : Int)))) := (.nil rfl rfl rfl)
    refine ⟨.inr rfl, ?_⟩
    rw [Try.results44]
    cases h
    exact ⟨_, _, _, _, _, ld_own (i := ⟨.arr 64 5, 64, 64, (eA64u8 (vrep 64 (0 : Int)))⟩) rfl rfl rfl hl66, hl66.c, .inl ⟨rfl, .inl rfl⟩, rfl, ⟨_, _, _, _, _, rfl, trivial, .inl ⟨rfl, .inl rfl⟩, rfl, rfl⟩⟩
def laws_eqPoly_c : ACode := (.seq (.region 0 [q 2 (.box 26 (t 0)), q 3 (.box 26 (t 1)), q 4 (.asg 0 (.const (.bool false)) 4)] false) (.seq (.seq (.region 1 [q 5 (.asg 0 (.const (.int .i64 0)) 3)] false) (.block 0 (.loop (.seq (.seq (.region 2 [q 6 (.mov (t 5)), q 7 (.bin .lss 3 (t 6) (.const (.int .i64 64)))] false) (.cond (t 7) .skip (.exit 0))) (.seq (.block 1 (.seq (.region 4 [q 10 (.mov (t 5)), ⟨some 11, .indexAddr 26 (t 2) (t 10), none, [0]⟩, ⟨some 12, .load 5 (t 11), none, [1]⟩, q 13 (.mov (t 5)), ⟨some 14, .indexAddr 26 (t 3) (t 13), none, [3]⟩, ⟨some 15, .load 5 (t 14), none, [4]⟩, ⟨some 16, .bin .neq 5 (t 12) (t 15), none, [2, 5]⟩] true) (.cond (t 16) (.seq (.region 5 [q 4 (.asg 0 (.const (.bool false)) 4)] false) .ret) .skip))) (.region 3 [q 8 (.mov (t 5)), q 9 (.bin .add 3 (t 8) (.const (.int .i64 1))), q 5 (.asg 0 (t 9) 3)] false)))))) (.seq (.region 6 [q 4 (.asg 0 (.const (.bool true)) 4)] false) .ret)))
def laws_eqPoly_L : Live := [(0, [0, 1]), (1, [2, 3]), (2, [2, 3, 5]), (3, [2, 3, 5]), (4, [2, 3, 5]), (5, []), (6, []), (100007, [2, 3, 5, 7]), (100016, [2, 3, 5, 16])]
noncomputable def laws_eqPoly_l1 (a0 : (Vec Int 64)) (a1 : (Vec Int 64)) (x49 : Int) : Option (Int ⊕ (Unit ⊕ Bool)) :=
  (if (decide (x49 < 64)) then (ifp (0 ≤ x49 ∧ x49 < ((64 : Nat) : Int)) ((ifp (0 ≤ x49 ∧ x49 < ((64 : Nat) : Int)) ((if ((rd a0.1 x49.toNat) != (rd a1.1 x49.toNat)) then (some (.inr (.inr false))) else (some (.inl (IntKind.i64.wrap (x49 + 1))))))))) else (some (.inr (((.inl ()))))))
noncomputable def laws_eqPoly (a0 : (Vec Int 64)) (a1 : (Vec Int 64)) : Option Bool :=
  (Option.bind (α := (Unit ⊕ Bool)) ((loopM (fun s : Int => laws_eqPoly_l1 a0 a1 s) 0)) fun z => match z with | .inl _ => (some true) | .inr r74 => (some r74))
theorem laws_eqPoly_ok (a0 : (Vec Int 64)) (a1 : (Vec Int 64)) (r : Bool) (h : laws_eqPoly a0 a1 = some r) : Den Try.prog 34 [(eA64u8 a0), (eA64u8 a1)] { r := (.bool r) } := by
  refine den_of (rs := [(.bool r)]) (ac := laws_eqPoly_c) (L := laws_eqPoly_L) (n := 17) (m := []) (c := Try.f34.body.getD .skip) good Try.func34 (by kernel_rfl) (by kernel_rfl) Try.ntmps34 rfl rfl (by kernel_rfl) rfl rfl ?_
  refine a_st (σ' := ⟨[(0, (eA64u8 a0)), (1, (eA64u8 a1))], []⟩) (by kernel_rfl) ?_
  unfold laws_eqPoly_c
  refine sr (vo 1200 (eA64u8 a0) rfl rfl (vo 1300 (eA64u8 a1) rfl rfl (vp (.bool false) rfl (nx ⟨[(2, (ow 2)), (3, (ow 3))], [(2, (bk (eA64u8 a0))), (3, (bk (eA64u8 a1)))]⟩ (by kernel_rfl) ?_))))
  obtain ⟨y36, hy37, hk38⟩ := bind_some h
  clear h
  refine a_join (emb := fun (s : Unit) => ⟨[], []⟩) (pre := fun s => (.inl s) = y36) ?_ ?_
  · rintro _ rfl
    have h := hk38
    refine a_st (σ' := ⟨[], []⟩) (by kernel_rfl) (sr (vp (.bool true) rfl (nx _ rfl (a_ret ?_))))
    refine ⟨.inr rfl, ?_⟩
    rw [Try.results34]
    cases h
    exact ⟨_, _, _, _, _, rfl, trivial, .inl ⟨rfl, .inl rfl⟩, rfl, rfl⟩
  · have h := hy37
    refine sr (vp (i6 0) rfl (nx ⟨[(2, (ow 2)), (3, (ow 3)), (5, (i6 0))], [(2, (bk (eA64u8 a0))), (3, (bk (eA64u8 a1)))]⟩ (by kernel_rfl) (a_block ?_)))
    refine a_loop (emb := fun (s : Int) => ⟨[(2, (ow 2)), (3, (ow 3)), (5, (i6 s))], [(2, (bk (eA64u8 a0))), (3, (bk (eA64u8 a1)))]⟩) (body := (fun s : Int => laws_eqPoly_l1 a0 a1 s)) (G := fun q => some q = some y36) h rfl ?_ (by kernel_rfl)
    rintro X60 x49 x61 h hX62
    have h : laws_eqPoly_l1 a0 a1 x49 = some x61 := h
    refine a_st (σ' := ⟨[(2, (ow 2)), (3, (ow 3)), (5, (i6 x49))], [(2, (bk (eA64u8 a0))), (3, (bk (eA64u8 a1)))]⟩) (by kernel_rfl) (a_seq (sr (vp (i6 x49) rfl (vp (.bool ((decide (x49 < 64)))) rfl (nx ⟨[(2, (ow 2)), (3, (ow 3)), (5, (i6 x49)), (7, (.bool ((decide (x49 < 64)))))], [(2, (bk (eA64u8 a0))), (3, (bk (eA64u8 a1)))]⟩ (by kernel_rfl) ?_)))))
    cases hb63 : (decide (x49 < 64))
    · have h := ite_f hb63 h
      refine a_cond_f rfl (a_exit (t_exit ?_))
      cases h
      have h := hX62
      refine t_exit (b_exit ?_)
      exact j_leaf () (Option.some.inj h) (by kernel_rfl)
    · have h := ite_t hb63 h
      refine a_cond_t rfl (a_skip (a_next (σ' := ⟨[(2, (ow 2)), (3, (ow 3)), (5, (i6 x49))], [(2, (bk (eA64u8 a0))), (3, (bk (eA64u8 a1)))]⟩) (by kernel_rfl) (a_seq (a_block (a_seq (a_draw [⟨[], [], [], []⟩, ⟨[2], [], [2], [0]⟩, ⟨[2], [], [], [0, 1]⟩, ⟨[], [], [], []⟩, ⟨[3], [], [3], [3]⟩, ⟨[3], [], [], [3, 4]⟩, ⟨[], [], [], [0, 1, 2, 3, 4, 5]⟩] (by kernel_rfl) (dp (i6 x49) rfl (by kernel_rfl) (d_cons ?_))))))))
      obtain ⟨hc68, h⟩ := ifp_some h
      refine vq (.own 2 [x49.toNat] [x49.toNat * 1]) rfl hc68 (d_next (by kernel_rfl) (d_cons ?_))
      have hl69 : LdOk [x49.toNat] (eA64u8 a0) [x49.toNat * 1] 1 false (b8 (rd a0.1 x49.toNat)) := (.arr (vlt a0 hc68) rfl (.nil rfl rfl rfl))
      refine vq (b8 (rd a0.1 x49.toNat)) (ld_own (i := ⟨.int .u8, 1, 1, (.int .u8 0)⟩) rfl rfl rfl hl69) hl69.c (d_next (by kernel_rfl) (dp (i6 x49) rfl (by kernel_rfl) (d_cons ?_)))
      obtain ⟨hc70, h⟩ := ifp_some h
      refine vq (.own 3 [x49.toNat] [x49.toNat * 1]) rfl hc70 (d_next (by kernel_rfl) (d_cons ?_))
      have hl71 : LdOk [x49.toNat] (eA64u8 a1) [x49.toNat * 1] 1 false (b8 (rd a1.1 x49.toNat)) := (.arr (vlt a1 hc70) rfl (.nil rfl rfl rfl))
      refine vq (b8 (rd a1.1 x49.toNat)) (ld_own (i := ⟨.int .u8, 1, 1, (.int .u8 0)⟩) rfl rfl rfl hl71) hl71.c (d_next (by kernel_rfl) (dp (.bool (((rd a0.1 x49.toNat) != (rd a1.1 x49.toNat)))) rfl (by kernel_rfl) (d_nil (a_next (σ' := ⟨[(2, (ow 2)), (3, (ow 3)), (5, (i6 x49)), (16, (.bool (((rd a0.1 x49.toNat) != (rd a1.1 x49.toNat)))))], [(2, (bk (eA64u8 a0))), (3, (bk (eA64u8 a1)))]⟩) (by kernel_rfl) ?_))))
      cases hb72 : ((rd a0.1 x49.toNat) != (rd a1.1 x49.toNat))
      · have h := ite_f hb72 h
        refine a_cond_f rfl (a_skip (b_norm (a_next (σ' := ⟨[(2, (ow 2)), (3, (ow 3)), (5, (i6 x49))], [(2, (bk (eA64u8 a0))), (3, (bk (eA64u8 a1)))]⟩) (by kernel_rfl) (a_region (vp (i6 x49) rfl (vp (i6 (IntKind.i64.wrap (x49 + 1))) rfl (vp (i6 (IntKind.i64.wrap (x49 + 1))) rfl (a_nil ?_))))))))
        cases h
        exact a_again (by kernel_rfl) hX62
      · have h := ite_t hb72 h
        refine a_cond_t rfl (sr (vp (.bool false) rfl (nx _ rfl (a_ret (b_ret (t_ret ?_))))))
        cases h
        have h := hX62
        refine t_ret (b_ret (t_ret ?_))
        cases h
        have h := hk38
        refine ⟨.inr rfl, ?_⟩
        rw [Try.results34]
        cases h
        exact ⟨_, _, _, _, _, rfl, trivial, .inl ⟨rfl, .inl rfl⟩, rfl, rfl⟩
def laws_FnExactDeepRest_c : ACode := (.seq (.region 0 [q 4 (.box 22 (t 1)), q 5 (.box 22 (t 2)), q 6 (.asg 0 (.const (.bool false)) 4)] false) (.seq (.region 1 [q 12 (.mov (t 0)), q 13 (.load 22 (t 4)), ⟨some 14, .call 0 (.func 15) [(t 13)], none, [1]⟩, q 15 (.load 22 (t 5)), ⟨some 16, .call 0 (.func 15) [(t 15)], none, [3, 2]⟩, ⟨some 17, .call 0 (.func 43) [(t 12), (t 14), (t 16)], none, [0, 2, 4, 4]⟩, ⟨some 11, .mov (t 17), none, [5]⟩, ⟨some 18, .extract (t 11) 0, none, [6]⟩, ⟨some 19, .extract (t 11) 1, none, [6]⟩, q 7 (.alloc 26), ⟨none, .store 26 (t 7) (t 18), none, [9, 7, 5, 0, 1, 2, 3, 4, 5, 6, 7, 9]⟩, ⟨some 8, .asg 0 (t 19) 2, none, [8, 10, 0, 1, 2, 3, 4, 5, 6, 7, 8, 9, 10]⟩] true) (.seq (.region 2 [q 21 (.mov (t 0)), q 22 (.load 22 (t 4)), ⟨some 23, .call 0 (.func 15) [(t 22)], none, [1]⟩, q 24 (.load 22 (t 5)), ⟨some 25, .call 0 (.func 15) [(t 24)], none, [3, 2]⟩, ⟨some 26, .call 0 (.func 44) [(t 21), (t 23), (t 25)], none, [0, 2, 4, 4]⟩, ⟨some 20, .mov (t 26), none, [5]⟩, ⟨some 27, .extract (t 20) 0, none, [6]⟩, ⟨some 28, .extract (t 20) 1, none, [6]⟩, q 9 (.alloc 26), ⟨none, .store 26 (t 9) (t 27), none, [9, 7, 5, 0, 1, 2, 3, 4, 5, 6, 7, 9]⟩, ⟨some 10, .asg 0 (t 28) 2, none, [8, 10, 0, 1, 2, 3, 4, 5, 6, 7, 8, 9, 10]⟩] true) (.seq (.seq (.region 3 [q 29 (.load 26 (t 9)), q 30 (.load 26 (t 7)), q 31 (.call 0 (.func 34) [(t 29), (t 30)]), q 32 (.un .not (t 31)), q 33 (.mov (t 32)), ⟨some 34, .mov (t 10), some (33, false), []⟩, ⟨some 35, .mov (t 8), some (33, false), []⟩, ⟨some 36, .bin .neq 2 (t 34) (t 35), some (33, false), []⟩, q 37 (.pick (t 33) (.const (.bool true)) (t 36))] false) (.cond (t 37) (.seq (.region 4 [q 6 (.asg 0 (.const (.bool false)) 4)] false) .ret) .skip)) (.seq (.region 5 [q 6 (.asg 0 (.const (.bool true)) 4)] false) .ret)))))
def laws_FnExactDeepRest_L : Live := [(0, [0, 1, 2]), (1, [0, 4, 5]), (2, [0, 4, 5, 7, 8]), (3, [7, 8, 9, 10]), (4, []), (5, []), (100037, [37])]
noncomputable def laws_FnExactDeepRest (a0 : Int) (a1 : (Vec Int 64)) (a2 : (Vec Int 64)) : Option Bool :=
  (Option.bind (laws_toPoly a1) fun r11 => (Option.bind (laws_toPoly a2) fun r14 => (Option.bind (spec_DeepRest a0 r11 r14) fun r16 => (Option.bind (laws_toPoly a1) fun r29 => (Option.bind (laws_toPoly a2) fun r32 => (Option.bind (impl_DeepRest a0 r29 r32) fun r34 => (Option.bind (α := Bool) ((Option.bind (laws_eqPoly r34.1 r16.1) fun r48 => (if (!r48) then (some true) else (some (r34.2 != r16.2))))) fun x42 => (if x42 then (some false) else (some true)))))))))
theorem laws_FnExactDeepRest_ok (a0 : Int) (a1 : (Vec Int 64)) (a2 : (Vec Int 64)) (r : Bool) (h : laws_FnExactDeepRest a0 a1 a2 = some r) : Den Try.prog 11 [(i6 a0), (eA64u8 a1), (eA64u8 a2)] { r := (.bool r) } := by
  refine den_of (rs := [(.bool r)]) (ac := laws_FnExactDeepRest_c) (L := laws_FnExactDeepRest_L) (n := 38) (m := []) (c := Try.f11.body.getD .skip) good Try.func11 (by kernel_rfl) (by kernel_rfl) Try.ntmps11 rfl rfl (by kernel_rfl) rfl rfl ?_
  refine a_st (σ' := ⟨[(0, (i6 a0)), (1, (eA64u8 a1)), (2, (eA64u8 a2))], []⟩) (by kernel_rfl) ?_
  unfold laws_FnExactDeepRest_c
  refine sr (vo 1400 (eA64u8 a1) rfl rfl (vo 1500 (eA64u8 a2) rfl rfl (vp (.bool false) rfl (nx ⟨[(0, (i6 a0)), (4, (ow 4)), (5, (ow 5))], [(4, (bk (eA64u8 a1))), (5, (bk (eA64u8 a2)))]⟩ (by kernel_rfl) (a_seq (a_draw [⟨[], [], [], []⟩, ⟨[4], [], [], []⟩, ⟨[], [], [], [1]⟩, ⟨[5], [], [], []⟩, ⟨[], [], [], [1, 2, 3]⟩, ⟨[], [], [], [0, 1, 2, 3, 4]⟩, ⟨[], [], [], [0, 1, 2, 3, 4, 5]⟩, ⟨[], [], [], [0, 1, 2, 3, 4, 5, 6]⟩, ⟨[], [], [], [0, 1, 2, 3, 4, 5, 6]⟩, ⟨[1700], [1700], [1700], []⟩, ⟨[1700], [1700], [], [0, 1, 2, 3, 4, 5, 6, 7, 9]⟩, ⟨[], [], [], [0, 1, 2, 3, 4, 5, 6, 7, 8, 9, 10]⟩] (by kernel_rfl) (dp (i6 a0) rfl (by kernel_rfl) (d_cons (vl (eA64u8 a1) rfl rfl rfl rfl rfl rfl ?_)))))))))
  refine d_next (by kernel_rfl) (d_cons ?_)
  obtain ⟨r11, hr12, h⟩ := bind_some h
  refine a_call (args := [(eA64u8 a1)]) (u := []) (r := (eA64u8 r11)) rfl rfl (laws_toPoly_ok a1 r11 hr12) rfl (d_next (by kernel_rfl) (d_cons (vl (eA64u8 a2) rfl rfl rfl rfl rfl rfl (d_next (by kernel_rfl) (d_cons ?_)))))
  obtain ⟨r14, hr15, h⟩ := bind_some h
  refine a_call (args := [(eA64u8 a2)]) (u := []) (r := (eA64u8 r14)) rfl rfl (laws_toPoly_ok a2 r14 hr15) rfl (d_next (by kernel_rfl) (d_cons ?_))
  obtain ⟨r16, hr17, h⟩ := bind_some h
  refine a_call (args := [(i6 a0), (eA64u8 r11), (eA64u8 r14)]) (u := []) (r := (.tuple [(eA64u8 r16.1), (i6 r16.2)])) rfl rfl (spec_DeepRest_ok a0 r11 r14 r16 hr17) rfl (d_next (by kernel_rfl) (dp (.tuple [(eA64u8 r16.1), (i6 r16.2)]) rfl (by kernel_rfl) (d_cons (vb (eA64u8 r16.1) rfl rfl (d_next (by kernel_rfl) (d_cons (vb (i6 r16.2) rfl rfl (d_next (by kernel_rfl) (d_cons ?_)))))))))
  refine vo 1700 (eA64u8 ((vrep 64 (0 : Int)))) rfl rfl (d_next (by kernel_rfl) (d_cons (vs (eA64u8 r16.1) rfl rfl (fun _ => rfl) rfl rfl rfl rfl rfl rfl (d_next (by kernel_rfl) (dp (i6 r16.2) rfl (by kernel_rfl) (d_nil (a_next (σ' := ⟨[(0, (i6 a0)), (4, (ow 4)), (5, (ow 5)), (7, (ow 7)), (8, (i6 r16.2))], [(4, (bk (eA64u8 a1))), (5, (bk (eA64u8 a2))), (7, (bk (eA64u8 r16.1)))]⟩) (by kernel_rfl) (a_seq (a_draw [⟨[], [], [], []⟩, ⟨[4], [], [], []⟩, ⟨[], [], [], [1]⟩, ⟨[5], [], [], []⟩, ⟨[], [], [], [1, 2, 3]⟩, ⟨[], [], [], [0, 1, 2, 3, 4]⟩, ⟨[], [], [], [0, 1, 2, 3, 4, 5]⟩, ⟨[], [], [], [0, 1, 2, 3, 4, 5, 6]⟩, ⟨[], [], [], [0, 1, 2, 3, 4, 5, 6]⟩, ⟨[1900], [1900], [1900], []⟩, ⟨[1900], [1900], [], [0, 1, 2, 3, 4, 5, 6, 7, 9]⟩, ⟨[], [], [], [0, 1, 2, 3, 4, 5, 6, 7, 8, 9, 10]⟩] (by kernel_rfl) ?_)))))))))
  refine dp (i6 a0) rfl (by kernel_rfl) (d_cons (vl (eA64u8 a1) rfl rfl rfl rfl rfl rfl (d_next (by kernel_rfl) (d_cons ?_))))
  obtain ⟨r29, hr30, h⟩ := bind_some h
  refine a_call (args := [(eA64u8 a1)]) (u := []) (r := (eA64u8 r29)) rfl rfl (laws_toPoly_ok a1 r29 hr30) rfl (d_next (by kernel_rfl) (d_cons (vl (eA64u8 a2) rfl rfl rfl rfl rfl rfl (d_next (by kernel_rfl) (d_cons ?_)))))
  obtain ⟨r32, hr33, h⟩ := bind_some h
  refine a_call (args := [(eA64u8 a2)]) (u := []) (r := (eA64u8 r32)) rfl rfl (laws_toPoly_ok a2 r32 hr33) rfl (d_next (by kernel_rfl) (d_cons ?_))
  obtain ⟨r34, hr35, h⟩ := bind_some h
  refine a_call (args := [(i6 a0), (eA64u8 r29), (eA64u8 r32)]) (u := []) (r := (.tuple [(eA64u8 r34.1), (i6 r34.2)])) rfl rfl (impl_DeepRest_ok a0 r29 r32 r34 hr35) rfl (d_next (by kernel_rfl) (dp (.tuple [(eA64u8 r34.1), (i6 r34.2)]) rfl (by kernel_rfl) (d_cons (vb (eA64u8 r34.1) rfl rfl (d_next (by kernel_rfl) (d_cons (vb (i6 r34.2) rfl rfl (d_next (by kernel_rfl) (d_cons ?_)))))))))
  refine vo 1900 (eA64u8 ((vrep 64 (0 : Int)))) rfl rfl (d_next (by kernel_rfl) (d_cons (vs (eA64u8 r34.1) rfl rfl (fun _ => rfl) rfl rfl rfl rfl rfl rfl (d_next (by kernel_rfl) (dp (i6 r34.2) rfl (by kernel_rfl) (d_nil (a_next (σ' := ⟨[(7, (ow 7)), (8, (i6 r16.2)), (9, (ow 9)), (10, (i6 r34.2))], [(7, (bk (eA64u8 r16.1))), (9, (bk (eA64u8 r34.1)))]⟩) (by kernel_rfl) (a_seq ?_))))))))
  obtain ⟨y43, hy44, hk45⟩ := bind_some h
  clear h
  refine a_join (emb := fun (s : Bool) => ⟨[(37, (.bool s))], []⟩) (pre := fun s => s = y43) ?_ ?_
  · rintro x42 rfl
    have h := hk45
    refine a_st (σ' := ⟨[(37, (.bool x42))], []⟩) (by kernel_rfl) ?_
    cases hb51 : x42
    · have h := ite_f hb51 h
      refine a_cond_f rfl (a_skip (a_next (σ' := ⟨[], []⟩) (by kernel_rfl) (sr (vp (.bool true) rfl (nx _ rfl (a_ret ?_))))))
      refine ⟨.inr rfl, ?_⟩
      rw [Try.results11]
      cases h
      exact ⟨_, _, _, _, _, rfl, trivial, .inl ⟨rfl, .inl rfl⟩, rfl, rfl⟩
    · have h := ite_t hb51 h
      refine a_cond_t rfl (sr (vp (.bool false) rfl (nx _ rfl (a_ret (t_ret ?_)))))
      refine ⟨.inr rfl, ?_⟩
      rw [Try.results11]
      cases h
      exact ⟨_, _, _, _, _, rfl, trivial, .inl ⟨rfl, .inl rfl⟩, rfl, rfl⟩
  · have h := hy44
    refine a_region (vl (eA64u8 r34.1) rfl rfl rfl rfl rfl rfl (vl (eA64u8 r16.1) rfl rfl rfl rfl rfl rfl ?_))
    obtain ⟨r48, hr49, h⟩ := bind_some h
    refine a_call (args := [(eA64u8 r34.1), (eA64u8 r16.1)]) (u := []) (r := (.bool r48)) rfl rfl (laws_eqPoly_ok r34.1 r16.1 r48 hr49) rfl (vp (.bool (!r48)) rfl (vp (.bool (!r48)) rfl ?_))
    cases hb50 : (!r48)
    · have h := ite_f hb50 h
      refine gp (i6 r34.2) rfl rfl (gp (i6 r16.2) rfl rfl (gp (.bool (r34.2 != r16.2)) rfl rfl (vp (.bool (r34.2 != r16.2)) rfl (a_nil ?_))))
      exact j_leaf (r34.2 != r16.2) (Option.some.inj h) (by kernel_rfl)
    · have h := ite_t hb50 h
      refine a_gskip rfl (a_gskip rfl (a_gskip rfl (vp (.bool true) rfl (a_nil ?_))))
      exact j_leaf true (Option.some.inj h) (by kernel_rfl)
def spec_l01Count_c : ACode := (.seq (.region 0 [q 4 (.asg 0 (.const (.int .i64 0)) 2)] false) (.seq (.region 1 [q 5 (.asg 0 (.const (.int .i64 1)) 2)] false) (.seq (.block 0 (.loop (.seq (.seq (.region 2 [q 6 (.mov (t 1)), q 7 (.bin .gtr 2 (t 6) (.const (.int .i64 0))), q 8 (.mov (t 7)), ⟨some 9, .mov (t 5), some (8, true), []⟩, ⟨some 10, .bin .leq 2 (t 9) (.const (.int .i64 1000000000000)), some (8, true), []⟩, q 11 (.pick (t 8) (t 10) (.const (.bool false)))] false) (.cond (t 11) .skip (.exit 0))) (.seq (.block 1 (.region 4 [q 14 (.mov (t 5)), q 15 (.mov (t 0)), q 16 (.bin .mul 2 (t 14) (t 15)), q 5 (.asg 0 (t 16) 2)] false)) (.region 3 [q 12 (.mov (t 1)), q 13 (.bin .sub 2 (t 12) (.const (.int .i64 1))), q 1 (.asg 0 (t 13) 2)] false))))) (.seq (.region 5 [q 17 (.mov (t 5)), q 18 (.blt 0 .min [(t 17), (.const (.int .i64 1000000000001))] [2, 2]), q 4 (.asg 0 (t 18) 2)] false) .ret))))
def spec_l01Count_L : Live := [(0, [0, 1]), (1, [0, 1]), (2, [0, 1, 5]), (3, [0, 1, 5]), (4, [0, 1, 5]), (5, [5]), (100011, [0, 1, 5, 11])]
noncomputable def spec_l01Count_l1 (a0 : Int) (x39 : Int) (x40 : Int) : Option ((Int × Int) ⊕ Int) :=
  (Option.bind (α := Bool) ((if (decide (x39 > 0)) then (some ((decide (x40 ≤ 1000000000000)))) else (some false))) fun x52 => (if x52 then (some (.inl ((IntKind.i64.wrap (x39 - 1), IntKind.i64.wrap (x40 * a0))))) else (some (.inr x40))))
noncomputable def spec_l01Count (a0 : Int) (a1 : Int) : Option Int :=
  (Option.bind (α := Int) ((loopM (fun s : (Int × Int) => spec_l01Count_l1 a0 s.1 s.2) (a1, 1))) fun x28 => (some (if 1000000000001 < x28 then 1000000000001 else x28)))
theorem spec_l01Count_ok (a0 : Int) (a1 : Int) (r : Int) (h : spec_l01Count a0 a1 = some r) : Den Try.prog 104 [(i6 a0), (i6 a1)] { r := (i6 r) } := by
  refine den_of (rs := [(i6 r)]) (ac := spec_l01Count_c) (L := spec_l01Count_L) (n := 19) (m := []) (c := Try.f104.body.getD .skip) good Try.func104 (by kernel_rfl) (by kernel_rfl) Try.ntmps104 rfl rfl (by kernel_rfl) rfl rfl ?_
  refine a_st (σ' := ⟨[(0, (i6 a0)), (1, (i6 a1))], []⟩) (by kernel_rfl) ?_
  unfold spec_l01Count_c
  refine sr (vp (i6 0) rfl (nx ⟨[(0, (i6 a0)), (1, (i6 a1))], []⟩ (by kernel_rfl) (sr (vp (i6 1) rfl (nx ⟨[(0, (i6 a0)), (1, (i6 a1)), (5, (i6 1))], []⟩ (by kernel_rfl) ?_)))))
  obtain ⟨y29, hy30, hk31⟩ := bind_some h
  clear h
  refine a_join (emb := fun (s : Int) => ⟨[(5, (i6 s))], []⟩) (pre := fun s => s = y29) ?_ ?_
  · rintro x28 rfl
    have h := hk31
    refine a_st (σ' := ⟨[(5, (i6 x28))], []⟩) (by kernel_rfl) (sr (vp (i6 x28) rfl (vp (i6 (if 1000000000001 < x28 then 1000000000001 else x28)) rfl (vp (i6 (if 1000000000001 < x28 then 1000000000001 else x28)) rfl (nx _ rfl (a_ret ?_))))))
    refine ⟨.inr rfl, ?_⟩
    rw [Try.results104]
    cases h
    exact ⟨_, _, _, _, _, rfl, trivial, .inl ⟨rfl, .inl rfl⟩, rfl, rfl⟩
  · have h := hy30
    refine a_block ?_
    refine a_loop (emb := fun (s : (Int × Int)) => ⟨[(0, (i6 a0)), (1, (i6 s.1)), (5, (i6 s.2))], []⟩) (body := (fun s : (Int × Int) => spec_l01Count_l1 a0 s.1 s.2)) (G := fun q => some q = some y29) h rfl ?_ (by kernel_rfl)
    rintro X48 ⟨x39, x40⟩ x49 h hX50
    have h : spec_l01Count_l1 a0 x39 x40 = some x49 := h
    refine a_st (σ' := ⟨[(0, (i6 a0)), (1, (i6 x39)), (5, (i6 x40))], []⟩) (by kernel_rfl) (a_seq ?_)
    obtain ⟨y53, hy54, hk55⟩ := bind_some h
    clear h
    refine a_join (emb := fun (s : Bool) => ⟨[(0, (i6 a0)), (1, (i6 x39)), (5, (i6 x40)), (11, (.bool s))], []⟩) (pre := fun s => s = y53) ?_ ?_
    · rintro x52 rfl
      have h := hk55
      refine a_st (σ' := ⟨[(0, (i6 a0)), (1, (i6 x39)), (5, (i6 x40)), (11, (.bool x52))], []⟩) (by kernel_rfl) ?_
      cases hb57 : x52
      · have h := ite_f hb57 h
        refine a_cond_f rfl (a_exit (t_exit ?_))
        cases h
        have h := hX50
        refine t_exit (b_exit ?_)
        exact j_leaf x40 (Option.some.inj h) (by kernel_rfl)
      · have h := ite_t hb57 h
        refine a_cond_t rfl (a_skip (a_next (σ' := ⟨[(0, (i6 a0)), (1, (i6 x39)), (5, (i6 x40))], []⟩) (by kernel_rfl) (a_seq (a_block (a_region (vp (i6 x40) rfl (vp (i6 a0) rfl (vp (i6 (IntKind.i64.wrap (x40 * a0))) rfl (vp (i6 (IntKind.i64.wrap (x40 * a0))) rfl ?_)))))))))
        refine a_nil (b_norm (a_next (σ' := ⟨[(0, (i6 a0)), (1, (i6 x39)), (5, (i6 (IntKind.i64.wrap (x40 * a0))))], []⟩) (by kernel_rfl) (a_region (vp (i6 x39) rfl (vp (i6 (IntKind.i64.wrap (x39 - 1))) rfl (vp (i6 (IntKind.i64.wrap (x39 - 1))) rfl (a_nil ?_)))))))
        cases h
        exact a_again (by kernel_rfl) hX50
    · have h := hy54
      refine a_region (vp (i6 x39) rfl (vp (.bool ((decide (x39 > 0)))) rfl (vp (.bool ((decide (x39 > 0)))) rfl ?_)))
      cases hb56 : (decide (x39 > 0))
      · have h := ite_f hb56 h
        refine a_gskip rfl (a_gskip rfl (vp (.bool false) rfl (a_nil ?_)))
        exact j_leaf false (Option.some.inj h) (by kernel_rfl)
      · have h := ite_t hb56 h
        refine gp (i6 x40) rfl rfl (gp (.bool ((decide (x40 ≤ 1000000000000)))) rfl rfl (vp (.bool ((decide (x40 ≤ 1000000000000)))) rfl (a_nil ?_)))
        exact j_leaf ((decide (x40 ≤ 1000000000000))) (Option.some.inj h) (by kernel_rfl)
def spec_l01Of_c : ACode := (.seq (.region 0 [q 4 (.alloc 26)] false) (.seq (.region 1 [q 7 (.build 26 []), q 5 (.alloc 26), ⟨none, .store 26 (t 5) (t 7), none, []⟩] false) (.seq (.seq (.region 2 [q 6 (.asg 0 (.const (.int .i64 0)) 3)] false) (.block 0 (.loop (.seq (.seq (.region 3 [q 8 (.mov (t 1)), q 9 (.bin .gtr 2 (t 8) (.const (.int .i64 0)))] false) (.cond (t 9) .skip (.exit 0))) (.seq (.block 1 (.seq (.region 5 [q 12 (.mov (t 6)), q 13 (.mov (t 1)), q 14 (.mov (t 0)), q 15 (.bin .rem 2 (t 13) (t 14)), q 16 (.conv 2 5 (t 15)), q 17 (.indexAddr 26 (t 5) (t 12)), ⟨none, .store 5 (t 17) (t 16), none, []⟩] false) (.region 6 [q 18 (.mov (t 1)), q 19 (.mov (t 0)), q 20 (.bin .quo 2 (t 18) (t 19)), q 1 (.asg 0 (t 20) 2)] false))) (.region 4 [q 10 (.mov (t 6)), q 11 (.bin .add 3 (t 10) (.const (.int .i64 1))), q 6 (.asg 0 (t 11) 3)] false)))))) (.seq (.region 7 [q 21 (.load 26 (t 5)), ⟨none, .store 26 (t 4) (t 21), none, []⟩] false) .ret))))
def spec_l01Of_L : Live := [(0, [0, 1]), (1, [0, 1, 4]), (2, [0, 1, 4, 5]), (3, [0, 1, 4, 5, 6]), (4, [0, 1, 4, 5, 6]), (5, [0, 1, 4, 5, 6]), (6, [0, 1, 4, 5, 6]), (7, [4, 5]), (100009, [0, 1, 4, 5, 6, 9])]
noncomputable def spec_l01Of_l1 (a0 : Int) (x33 : Int) (x34 : Int) (x35 : (Vec Int 64)) : Option ((Int × Int × (Vec Int 64)) ⊕ (Vec Int 64)) :=
  (if (decide (x33 > 0)) then (ifp (a0 ≠ 0) ((ifp (0 ≤ x34 ∧ x34 < ((64 : Nat) : Int)) ((ifp (a0 ≠ 0) ((some (.inl ((IntKind.i64.wrap (Int.tdiv x33 a0), IntKind.i64.wrap (x34 + 1), (vset x35 x34.toNat (IntKind.u8.wrap (Int.tmod x33 a0))))))))))))) else (some (.inr x35)))
noncomputable def spec_l01Of (a0 : Int) (a1 : Int) : Option (Vec Int 64) :=
  (Option.bind (α := (Vec Int 64)) ((loopM (fun s : (Int × Int × (Vec Int 64)) => spec_l01Of_l1 a0 s.1 s.2.1 s.2.2) (a1, 0, (vrep 64 (0 : Int))))) fun x24 => (some x24))
theorem spec_l01Of_ok (a0 : Int) (a1 : Int) (r : (Vec Int 64)) (h : spec_l01Of a0 a1 = some r) : Den Try.prog 76 [(i6 a0), (i6 a1)] { r := (eA64u8 r) } := by
  refine den_of (rs := [(eA64u8 r)]) (ac := spec_l01Of_c) (L := spec_l01Of_L) (n := 22) (m := []) (c := Try.f76.body.getD .skip) good Try.func76 (by kernel_rfl) (by kernel_rfl) Try.ntmps76 rfl rfl (by kernel_rfl) rfl rfl ?_
  refine a_st (σ' := ⟨[(0, (i6 a0)), (1, (i6 a1))], []⟩) (by kernel_rfl) ?_
  unfold spec_l01Of_c
  refine sr (vo 1400 (eA64u8 ((vrep 64 (0 : Int)))) rfl rfl (nx ⟨[(0, (i6 a0)), (1, (i6 a1)), (4, (ow 4))], [(4, (bk (eA64u8 ((vrep 64 (0 : Int))))))]⟩ (by kernel_rfl) (sr (vq (eA64u8 ((vrep 64 (0 : Int)))) rfl ⟨⟨_, rfl, rfl⟩, all_nil⟩ (vo 1500 (eA64u8 ((vrep 64 (0 : Int)))) rfl rfl (vs (eA64u8 ((vrep 64 (0 : Int)))) rfl rfl (fun _ => rfl) rfl rfl rfl rfl rfl rfl (nx ⟨[(0, (i6 a0)), (1, (i6 a1)), (4, (ow 4)), (5, (ow 5))], [(4, (bk (eA64u8 ((vrep 64 (0 : Int)))))), (5, (bk (eA64u8 ((vrep 64 (0 : Int))))))]⟩ (by kernel_rfl) ?_)))))))
  obtain ⟨y25, hy26, hk27⟩ := bind_some h
  clear h
  refine a_join (emb := fun (s : (Vec Int 64)) => ⟨[(4, (ow 4)), (5, (ow 5))], [(4, (bk (eA64u8 ((vrep 64 (0 : Int)))))), (5, (bk (eA64u8 s)))]⟩) (pre := fun s => s = y25) ?_ ?_
  · rintro x24 rfl
    have h := hk27
    refine a_st (σ' := ⟨[(4, (ow 4)), (5, (ow 5))], [(4, (bk (eA64u8 ((vrep 64 (0 : Int)))))), (5, (bk (eA64u8 x24)))]⟩) (by kernel_rfl) (sr (vl (eA64u8 x24) rfl rfl rfl rfl rfl rfl (vs (eA64u8 x24) rfl rfl (fun _ => rfl) rfl rfl rfl rfl rfl rfl (nx _ rfl (a_ret ?_)))))
    have hl52 : LdOk [] (eA64u8 x24) [] 64 true (eA64u8 x24) := (.nil rfl rfl rfl)
    refine ⟨.inr rfl, ?_⟩
    rw [Try.results76]
    cases h
    exact ⟨_, _, _, _, _, ld_own (i := ⟨.arr 64 5, 64, 64, (eA64u8 (vrep 64 (0 : Int)))⟩) rfl rfl rfl hl52, hl52.c, .inl ⟨rfl, .inl rfl⟩, rfl, rfl⟩
  · have h := hy26
    refine sr (vp (i6 0) rfl (nx ⟨[(0, (i6 a0)), (1, (i6 a1)), (4, (ow 4)), (5, (ow 5)), (6, (i6 0))], [(4, (bk (eA64u8 ((vrep 64 (0 : Int)))))), (5, (bk (eA64u8 ((vrep 64 (0 : Int))))))]⟩ (by kernel_rfl) (a_block ?_)))
    refine a_loop (emb := fun (s : (Int × Int × (Vec Int 64))) => ⟨[(0, (i6 a0)), (1, (i6 s.1)), (4, (ow 4)), (5, (ow 5)), (6, (i6 s.2.1))], [(4, (bk (eA64u8 ((vrep 64 (0 : Int)))))), (5, (bk (eA64u8 s.2.2)))]⟩) (body := (fun s : (Int × Int × (Vec Int 64)) => spec_l01Of_l1 a0 s.1 s.2.1 s.2.2)) (G := fun q => some q = some y25) h rfl ?_ (by kernel_rfl)
    rintro X41 ⟨x33, x34, x35⟩ x42 h hX43
    have h : spec_l01Of_l1 a0 x33 x34 x35 = some x42 := h
    refine a_st (σ' := ⟨[(0, (i6 a0)), (1, (i6 x33)), (4, (ow 4)), (5, (ow 5)), (6, (i6 x34))], [(4, (bk (eA64u8 ((vrep 64 (0 : Int)))))), (5, (bk (eA64u8 x35)))]⟩) (by kernel_rfl) (a_seq (sr (vp (i6 x33) rfl (vp (.bool ((decide (x33 > 0)))) rfl (nx ⟨[(0, (i6 a0)), (1, (i6 x33)), (4, (ow 4)), (5, (ow 5)), (6, (i6 x34)), (9, (.bool ((decide (x33 > 0)))))], [(4, (bk (eA64u8 ((vrep 64 (0 : Int)))))), (5, (bk (eA64u8 x35)))]⟩ (by kernel_rfl) ?_)))))
    cases hb44 : (decide (x33 > 0))
    · have h := ite_f hb44 h
      refine a_cond_f rfl (a_exit (t_exit ?_))
      cases h
      have h := hX43
      refine t_exit (b_exit ?_)
      exact j_leaf x35 (Option.some.inj h) (by kernel_rfl)
    · have h := ite_t hb44 h
      refine a_cond_t rfl (a_skip (a_next (σ' := ⟨[(0, (i6 a0)), (1, (i6 x33)), (4, (ow 4)), (5, (ow 5)), (6, (i6 x34))], [(4, (bk (eA64u8 ((vrep 64 (0 : Int)))))), (5, (bk (eA64u8 x35)))]⟩) (by kernel_rfl) (a_seq (a_block (sr (vp (i6 x34) rfl (vp (i6 x33) rfl (vp (i6 a0) rfl ?_))))))))
      obtain ⟨hc45, h⟩ := ifp_some h
      refine vq (i6 (Int.tmod x33 a0)) rfl hc45 (vp (b8 (IntKind.u8.wrap (Int.tmod x33 a0))) rfl ?_)
      obtain ⟨hc46, h⟩ := ifp_some h
      refine vq (.own 5 [x34.toNat] [x34.toNat * 1]) rfl hc46 ?_
      have hs47 : StOk [x34.toNat] (eA64u8 x35) [x34.toNat * 1] 1 (b8 (IntKind.u8.wrap (Int.tmod x33 a0))) (eA64u8 ((vset x35 x34.toNat (IntKind.u8.wrap (Int.tmod x33 a0))))) := (.arr (y := IntKind.u8.wrap (Int.tmod x33 a0)) (vlt x35 hc46) rfl (.nil rfl rfl rfl rfl))
      refine vu .top [(5, (bk (eA64u8 ((vset x35 x34.toNat (IntKind.u8.wrap (Int.tmod x33 a0)))))))] (st_own (i := ⟨.int .u8, 1, 1, (.int .u8 0)⟩) rfl rfl (fun _ => rfl) rfl hs47) (hs47.c rfl) rfl (nx ⟨[(0, (i6 a0)), (1, (i6 x33)), (4, (ow 4)), (5, (ow 5)), (6, (i6 x34))], [(4, (bk (eA64u8 ((vrep 64 (0 : Int)))))), (5, (bk (eA64u8 ((vset x35 x34.toNat (IntKind.u8.wrap (Int.tmod x33 a0)))))))]⟩ (by kernel_rfl) (a_region (vp (i6 x33) rfl (vp (i6 a0) rfl ?_))))
      obtain ⟨hc48, h⟩ := ifp_some h
      refine vq (i6 (IntKind.i64.wrap (Int.tdiv x33 a0))) rfl hc48 (vp (i6 (IntKind.i64.wrap (Int.tdiv x33 a0))) rfl (a_nil (b_norm (a_next (σ' := ⟨[(0, (i6 a0)), (1, (i6 (IntKind.i64.wrap (Int.tdiv x33 a0)))), (4, (ow 4)), (5, (ow 5)), (6, (i6 x34))], [(4, (bk (eA64u8 ((vrep 64 (0 : Int)))))), (5, (bk (eA64u8 ((vset x35 x34.toNat (IntKind.u8.wrap (Int.tmod x33 a0)))))))]⟩) (by kernel_rfl) (a_region (vp (i6 x34) rfl (vp (i6 (IntKind.i64.wrap (x34 + 1))) rfl (vp (i6 (IntKind.i64.wrap (x34 + 1))) rfl (a_nil ?_)))))))))
      cases h
      exact a_again (by kernel_rfl) hX43
end Go.Proofs.Ytdhcpekngpndnaa
