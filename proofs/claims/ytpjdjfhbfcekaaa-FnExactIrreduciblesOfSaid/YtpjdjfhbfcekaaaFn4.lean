/- Functions of the program: plain Lean functions, and that the program computes them. Printed by gen.py. -/
import Derived.Test.YtpjdjfhbfcekaaaFnT
import Derived.Test.YtpjdjfhbfcekaaaFn2
import Derived.Test.YtpjdjfhbfcekaaaFn3
namespace Go.Proofs.Ytpjdjfhbfcekaaa
open Go.Abs Go.Proofs
set_option linter.unusedSimpArgs false
set_option linter.unusedVariables false
set_option maxHeartbeats 16000000
attribute [local irreducible] Abs.acode Abs.aops Abs.aopsT Abs.thenK Abs.blockK

def impl_prime_bezout_c : ACode := (.seq (.region 0 [q 6 (.asg 1 (.const (.slice none 0 0)) 39), q 7 (.asg 1 (.const (.slice none 0 0)) 39), q 8 (.asg 1 (.const (.slice none 0 0)) 39)] false) (.seq (.region 1 [q 16 (.bslice 0 39 1 [(0, (.const (.int .i64 1)))]), q 9 (.asg 1 (t 16) 39), q 10 (.asg 1 (.const (.slice none 0 0)) 39)] false) (.seq (.region 2 [q 17 (.bslice 0 39 1 [(0, (.const (.int .i64 1)))]), q 11 (.asg 1 (.const (.slice none 0 0)) 39), q 12 (.asg 1 (t 17) 39)] false) (.seq (.block 0 (.loop (.seq (.seq (.region 3 [q 18 (.mov (t 2)), q 19 (.blt 0 .len [(t 18)] [39]), q 20 (.bin .gtr 3 (t 19) (.const (.int .i64 0)))] false) (.cond (t 20) .skip (.exit 0))) (.block 1 (.seq (.region 4 [q 22 (.mov (t 0)), q 23 (.mov (t 1)), q 24 (.mov (t 2)), q 25 (.call 0 (.func 58) [(t 22), (t 23), (t 24)]), q 21 (.mov (t 25)), q 26 (.extract (t 21) 0), q 27 (.extract (t 21) 1), q 13 (.asg 1 (t 26) 39), q 14 (.asg 1 (t 27) 39)] false) (.seq (.region 5 [q 28 (.mov (t 2)), q 29 (.mov (t 14)), q 1 (.asg 1 (t 28) 39), q 2 (.asg 1 (t 29) 39)] false) (.seq (.region 6 [q 30 (.mov (t 11)), q 31 (.mov (t 0)), q 32 (.mov (t 9)), q 33 (.mov (t 0)), q 34 (.mov (t 13)), q 35 (.mov (t 11)), q 36 (.call 0 (.func 53) [(t 33), (t 34), (t 35)]), q 37 (.call 0 (.func 43) [(t 31), (t 32), (t 36), (.const (.int .i64 (-1)))]), q 9 (.asg 1 (t 30) 39), q 11 (.asg 1 (t 37) 39)] false) (.region 7 [q 38 (.mov (t 12)), q 39 (.mov (t 0)), q 40 (.mov (t 10)), q 41 (.mov (t 0)), q 42 (.mov (t 13)), q 43 (.mov (t 12)), q 44 (.call 0 (.func 53) [(t 41), (t 42), (t 43)]), q 45 (.call 0 (.func 43) [(t 39), (t 40), (t 44), (.const (.int .i64 (-1)))]), q 10 (.asg 1 (t 38) 39), q 12 (.asg 1 (t 45) 39)] false)))))))) (.seq (.region 8 [q 46 (.mov (t 0)), q 47 (.mov (t 1)), q 48 (.call 0 (.func 30) [(t 47)]), q 49 (.call 0 (.func 39) [(t 46), (t 48)]), q 15 (.asg 0 (t 49) 2)] false) (.seq (.region 9 [q 50 (.mov (t 0)), q 51 (.mov (t 1)), q 52 (.mov (t 15)), q 53 (.call 0 (.func 38) [(t 50), (t 51), (t 52)]), q 54 (.mov (t 0)), q 55 (.mov (t 9)), q 56 (.mov (t 15)), q 57 (.call 0 (.func 38) [(t 54), (t 55), (t 56)]), q 58 (.mov (t 0)), q 59 (.mov (t 10)), q 60 (.mov (t 15)), q 61 (.call 0 (.func 38) [(t 58), (t 59), (t 60)]), q 6 (.asg 1 (t 53) 39), q 7 (.asg 1 (t 57) 39), q 8 (.asg 1 (t 61) 39)] false) .ret))))))
def impl_prime_bezout_L : Live := [(0, [0, 1, 2]), (1, [0, 1, 2]), (2, [0, 1, 2, 9, 10]), (3, [0, 1, 2, 9, 10, 11, 12]), (4, [0, 1, 2, 9, 10, 11, 12]), (5, [0, 2, 9, 10, 11, 12, 13, 14]), (6, [0, 1, 2, 9, 10, 11, 12, 13]), (7, [0, 1, 2, 9, 10, 11, 12, 13]), (8, [0, 1, 9, 10]), (9, [0, 1, 9, 10, 15]), (100020, [0, 1, 2, 9, 10, 11, 12, 20])]
noncomputable def impl_prime_bezout_l1 (a0 : Int) (x61 : (List Int)) (x62 : (List Int)) (x63 : (List Int)) (x64 : (List Int)) (x65 : (List Int)) (x66 : (List Int)) : Option (((List Int) × (List Int) × (List Int) × (List Int) × (List Int) × (List Int)) ⊕ ((List Int) × (List Int) × (List Int))) :=
  (if (decide ((x62.length : Int) > 0)) then (Option.bind (impl_prime_divide a0 x61 x62) fun r82 => (Option.bind (impl_prime_times a0 r82.1 x65) fun r84 => (Option.bind (impl_prime_combine a0 x63 r84 (-1)) fun r86 => (Option.bind (impl_prime_times a0 r82.1 x66) fun r88 => (Option.bind (impl_prime_combine a0 x64 r88 (-1)) fun r90 => (some (.inl (x62, r82.2, x65, x66, r86, r90)))))))) else (some (.inr (x61, x63, x64))))
noncomputable def impl_prime_bezout (a0 : Int) (a1 : (List Int)) (a2 : (List Int)) : Option ((List Int) × (List Int) × (List Int)) :=
  (Option.bind (α := ((List Int) × (List Int) × (List Int))) ((loopM (fun s : ((List Int) × (List Int) × (List Int) × (List Int) × (List Int) × (List Int)) => impl_prime_bezout_l1 a0 s.1 s.2.1 s.2.2.1 s.2.2.2.1 s.2.2.2.2.1 s.2.2.2.2.2) (a1, a2, [1], [], [], [1]))) fun ⟨x44, x45, x46⟩ => (Option.bind (impl_row_lead x44) fun r93 => (Option.bind (impl_prime_inverse a0 r93) fun r95 => (Option.bind (impl_prime_scale a0 x44 r95) fun r97 => (Option.bind (impl_prime_scale a0 x45 r95) fun r99 => (Option.bind (impl_prime_scale a0 x46 r95) fun r101 => (some (r97, r99, r101))))))))
theorem impl_prime_bezout_ok (a0 : Int) (a1 : (List Int)) (a2 : (List Int)) (r : ((List Int) × (List Int) × (List Int))) (h : impl_prime_bezout a0 a1 a2 = some r) : Den Try.prog 54 [(i6 a0), (eSi64 a1), (eSi64 a2)] { r := (.tuple [(eSi64 r.1), (eSi64 r.2.1), (eSi64 r.2.2)]) } := by
  refine den_of (rs := [(eSi64 r.1), (eSi64 r.2.1), (eSi64 r.2.2)]) (ac := impl_prime_bezout_c) (L := impl_prime_bezout_L) (n := 62) (m := [(1, 1), (2, 1), (6, 1), (7, 1), (8, 1), (9, 1), (10, 1), (11, 1), (12, 1), (13, 1), (14, 1)]) (c := Try.f54.body.getD .skip) good Try.func54 (by kernel_rfl) (by kernel_rfl) Try.ntmps54 rfl rfl (by kernel_rfl) rfl rfl ?_
  refine a_st (σ' := ⟨[(0, (i6 a0)), (1, (eSi64 a1)), (2, (eSi64 a2))], []⟩) (by kernel_rfl) ?_
  unfold impl_prime_bezout_c
  refine sr (vp (eSi64 ([])) rfl (vp (eSi64 ([])) rfl (vp (eSi64 ([])) rfl (nx ⟨[(0, (i6 a0)), (1, (eSi64 a1)), (2, (eSi64 a2))], []⟩ (by kernel_rfl) (sr (vq (.sl 1 true (([1]).map (AV.int .i64))) rfl ⟨(Nat.le_of_ble_eq_true rfl), (Nat.le_of_ble_eq_true rfl), (all_cons ⟨(Nat.le_of_ble_eq_true rfl), rfl⟩ all_nil)⟩ (vq (eSi64 ([1])) (asg_tight (i := ⟨.int .i64, 1, 8, (.int .i64 0)⟩) (f := (AV.int .i64)) (l := [1]) rfl rfl rfl) trivial (vp (eSi64 ([])) rfl (nx ⟨[(0, (i6 a0)), (1, (eSi64 a1)), (2, (eSi64 a2)), (9, (eSi64 ([1]))), (10, (eSi64 ([])))], []⟩ (by kernel_rfl) ?_)))))))))
  refine sr (vq (.sl 1 true (([1]).map (AV.int .i64))) rfl ⟨(Nat.le_of_ble_eq_true rfl), (Nat.le_of_ble_eq_true rfl), (all_cons ⟨(Nat.le_of_ble_eq_true rfl), rfl⟩ all_nil)⟩ (vp (eSi64 ([])) rfl (vq (eSi64 ([1])) (asg_tight (i := ⟨.int .i64, 1, 8, (.int .i64 0)⟩) (f := (AV.int .i64)) (l := [1]) rfl rfl rfl) trivial (nx ⟨[(0, (i6 a0)), (1, (eSi64 a1)), (2, (eSi64 a2)), (9, (eSi64 ([1]))), (10, (eSi64 ([]))), (11, (eSi64 ([]))), (12, (eSi64 ([1])))], []⟩ (by kernel_rfl) ?_))))
  obtain ⟨y47, hy48, hk49⟩ := bind_some h
  clear h
  refine a_join (emb := fun (s : ((List Int) × (List Int) × (List Int))) => ⟨[(0, (i6 a0)), (1, (eSi64 s.1)), (9, (eSi64 s.2.1)), (10, (eSi64 s.2.2))], []⟩) (pre := fun s => s = y47) ?_ ?_
  · rintro ⟨x44, x45, x46⟩ rfl
    have h := hk49
    refine a_st (σ' := ⟨[(0, (i6 a0)), (1, (eSi64 x44)), (9, (eSi64 x45)), (10, (eSi64 x46))], []⟩) (by kernel_rfl) (sr (vp (i6 a0) rfl (vp (eSi64 x44) rfl ?_)))
    obtain ⟨r93, hr94, h⟩ := bind_some h
    refine a_call (args := [(eSi64 x44)]) (u := []) (r := (i6 r93)) rfl rfl (impl_row_lead_ok x44 r93 hr94) rfl ?_
    obtain ⟨r95, hr96, h⟩ := bind_some h
    refine a_call (args := [(i6 a0), (i6 r93)]) (u := []) (r := (i6 r95)) rfl rfl (impl_prime_inverse_ok a0 r93 r95 hr96) rfl (vp (i6 r95) rfl (nx ⟨[(0, (i6 a0)), (1, (eSi64 x44)), (9, (eSi64 x45)), (10, (eSi64 x46)), (15, (i6 r95))], []⟩ (by kernel_rfl) (sr (vp (i6 a0) rfl (vp (eSi64 x44) rfl (vp (i6 r95) rfl ?_))))))
    obtain ⟨r97, hr98, h⟩ := bind_some h
    refine a_call (args := [(i6 a0), (eSi64 x44), (i6 r95)]) (u := []) (r := (eSi64 r97)) rfl rfl (impl_prime_scale_ok a0 x44 r95 r97 hr98) rfl (vp (i6 a0) rfl (vp (eSi64 x45) rfl (vp (i6 r95) rfl ?_)))
    obtain ⟨r99, hr100, h⟩ := bind_some h
    refine a_call (args := [(i6 a0), (eSi64 x45), (i6 r95)]) (u := []) (r := (eSi64 r99)) rfl rfl (impl_prime_scale_ok a0 x45 r95 r99 hr100) rfl (vp (i6 a0) rfl (vp (eSi64 x46) rfl (vp (i6 r95) rfl ?_)))
    obtain ⟨r101, hr102, h⟩ := bind_some h
    refine a_call (args := [(i6 a0), (eSi64 x46), (i6 r95)]) (u := []) (r := (eSi64 r101)) rfl rfl (impl_prime_scale_ok a0 x46 r95 r101 hr102) rfl (vp (eSi64 r97) rfl (vp (eSi64 r99) rfl (vp (eSi64 r101) rfl (nx _ rfl (a_ret ?_)))))
    refine ⟨.inr rfl, ?_⟩
    rw [Try.results54]
    cases h
    exact ⟨_, _, _, _, _, rfl, trivial, .inl ⟨rfl, .inl rfl⟩, rfl, ⟨_, _, _, _, _, rfl, trivial, .inl ⟨rfl, .inl rfl⟩, rfl, ⟨_, _, _, _, _, rfl, trivial, .inl ⟨rfl, .inl rfl⟩, rfl, rfl⟩⟩⟩
  · have h := hy48
    refine a_block ?_
    refine a_loop (emb := fun (s : ((List Int) × (List Int) × (List Int) × (List Int) × (List Int) × (List Int))) => ⟨[(0, (i6 a0)), (1, (eSi64 s.1)), (2, (eSi64 s.2.1)), (9, (eSi64 s.2.2.1)), (10, (eSi64 s.2.2.2.1)), (11, (eSi64 s.2.2.2.2.1)), (12, (eSi64 s.2.2.2.2.2))], []⟩) (body := (fun s : ((List Int) × (List Int) × (List Int) × (List Int) × (List Int) × (List Int)) => impl_prime_bezout_l1 a0 s.1 s.2.1 s.2.2.1 s.2.2.2.1 s.2.2.2.2.1 s.2.2.2.2.2)) (G := fun q => some q = some y47) h rfl ?_ (by kernel_rfl)
    rintro X78 ⟨x61, x62, x63, x64, x65, x66⟩ x79 h hX80
    have h : impl_prime_bezout_l1 a0 x61 x62 x63 x64 x65 x66 = some x79 := h
    refine a_st (σ' := ⟨[(0, (i6 a0)), (1, (eSi64 x61)), (2, (eSi64 x62)), (9, (eSi64 x63)), (10, (eSi64 x64)), (11, (eSi64 x65)), (12, (eSi64 x66))], []⟩) (by kernel_rfl) (a_seq (sr (vp (eSi64 x62) rfl (vq (i6 (x62.length : Int)) (len_run rfl rfl) trivial (vp (.bool ((decide ((x62.length : Int) > 0)))) rfl (nx ⟨[(0, (i6 a0)), (1, (eSi64 x61)), (2, (eSi64 x62)), (9, (eSi64 x63)), (10, (eSi64 x64)), (11, (eSi64 x65)), (12, (eSi64 x66)), (20, (.bool ((decide ((x62.length : Int) > 0)))))], []⟩ (by kernel_rfl) ?_))))))
    cases hb81 : (decide ((x62.length : Int) > 0))
    · have h := ite_f hb81 h
      refine a_cond_f rfl (a_exit (t_exit ?_))
      cases h
      have h := hX80
      refine t_exit (b_exit ?_)
      exact j_leaf (x61, x63, x64) (Option.some.inj h) (by kernel_rfl)
    · have h := ite_t hb81 h
      refine a_cond_t rfl (a_skip (a_next (σ' := ⟨[(0, (i6 a0)), (1, (eSi64 x61)), (2, (eSi64 x62)), (9, (eSi64 x63)), (10, (eSi64 x64)), (11, (eSi64 x65)), (12, (eSi64 x66))], []⟩) (by kernel_rfl) (a_block (sr (vp (i6 a0) rfl (vp (eSi64 x61) rfl (vp (eSi64 x62) rfl ?_)))))))
      obtain ⟨r82, hr83, h⟩ := bind_some h
      refine a_call (args := [(i6 a0), (eSi64 x61), (eSi64 x62)]) (u := []) (r := (.tuple [(eSi64 r82.1), (eSi64 r82.2)])) rfl rfl (impl_prime_divide_ok a0 x61 x62 r82 hr83) rfl (vp (.tuple [(eSi64 r82.1), (eSi64 r82.2)]) rfl (vb (eSi64 r82.1) rfl rfl (vb (eSi64 r82.2) rfl rfl (vp (eSi64 r82.1) rfl (vp (eSi64 r82.2) rfl (nx ⟨[(0, (i6 a0)), (2, (eSi64 x62)), (9, (eSi64 x63)), (10, (eSi64 x64)), (11, (eSi64 x65)), (12, (eSi64 x66)), (13, (eSi64 r82.1)), (14, (eSi64 r82.2))], []⟩ (by kernel_rfl) (sr (vp (eSi64 x62) rfl (vp (eSi64 r82.2) rfl ?_)))))))))
      refine vp (eSi64 x62) rfl (vp (eSi64 r82.2) rfl (nx ⟨[(0, (i6 a0)), (1, (eSi64 x62)), (2, (eSi64 r82.2)), (9, (eSi64 x63)), (10, (eSi64 x64)), (11, (eSi64 x65)), (12, (eSi64 x66)), (13, (eSi64 r82.1))], []⟩ (by kernel_rfl) (sr (vp (eSi64 x65) rfl (vp (i6 a0) rfl (vp (eSi64 x63) rfl (vp (i6 a0) rfl (vp (eSi64 r82.1) rfl (vp (eSi64 x65) rfl ?_)))))))))
      obtain ⟨r84, hr85, h⟩ := bind_some h
      refine a_call (args := [(i6 a0), (eSi64 r82.1), (eSi64 x65)]) (u := []) (r := (eSi64 r84)) rfl rfl (impl_prime_times_ok a0 r82.1 x65 r84 hr85) rfl ?_
      obtain ⟨r86, hr87, h⟩ := bind_some h
      refine a_call (args := [(i6 a0), (eSi64 x63), (eSi64 r84), (i6 (-1))]) (u := []) (r := (eSi64 r86)) rfl rfl (impl_prime_combine_ok a0 x63 r84 (-1) r86 hr87) rfl (vp (eSi64 x65) rfl (vp (eSi64 r86) rfl (nx ⟨[(0, (i6 a0)), (1, (eSi64 x62)), (2, (eSi64 r82.2)), (9, (eSi64 x65)), (10, (eSi64 x64)), (11, (eSi64 r86)), (12, (eSi64 x66)), (13, (eSi64 r82.1))], []⟩ (by kernel_rfl) (a_region (vp (eSi64 x66) rfl (vp (i6 a0) rfl (vp (eSi64 x64) rfl (vp (i6 a0) rfl (vp (eSi64 r82.1) rfl ?_)))))))))
      refine vp (eSi64 x66) rfl ?_
      obtain ⟨r88, hr89, h⟩ := bind_some h
      refine a_call (args := [(i6 a0), (eSi64 r82.1), (eSi64 x66)]) (u := []) (r := (eSi64 r88)) rfl rfl (impl_prime_times_ok a0 r82.1 x66 r88 hr89) rfl ?_
      obtain ⟨r90, hr91, h⟩ := bind_some h
      refine a_call (args := [(i6 a0), (eSi64 x64), (eSi64 r88), (i6 (-1))]) (u := []) (r := (eSi64 r90)) rfl rfl (impl_prime_combine_ok a0 x64 r88 (-1) r90 hr91) rfl (vp (eSi64 x66) rfl (vp (eSi64 r90) rfl (a_nil (b_norm ?_))))
      cases h
      exact a_again (by kernel_rfl) hX80
def impl_prime_gcd_c : ACode := (.seq (.region 0 [q 6 (.asg 1 (.const (.slice none 0 0)) 39)] false) (.seq (.region 1 [q 11 (.mov (t 0)), q 12 (.mov (t 1)), q 13 (.mov (t 2)), q 14 (.call 0 (.func 54) [(t 11), (t 12), (t 13)]), q 10 (.mov (t 14)), q 15 (.extract (t 10) 0), q 16 (.extract (t 10) 1), q 17 (.extract (t 10) 2), q 7 (.asg 1 (t 15) 39), q 8 (.asg 1 (t 16) 39), q 9 (.asg 1 (t 17) 39)] false) (.seq (.region 2 [q 18 (.mov (t 7)), q 6 (.asg 1 (t 18) 39)] false) .ret)))
def impl_prime_gcd_L : Live := [(0, [0, 1, 2]), (1, [0, 1, 2]), (2, [7])]
noncomputable def impl_prime_gcd (a0 : Int) (a1 : (List Int)) (a2 : (List Int)) : Option (List Int) :=
  (Option.bind (impl_prime_bezout a0 a1 a2) fun r1 => (some r1.1))
theorem impl_prime_gcd_ok (a0 : Int) (a1 : (List Int)) (a2 : (List Int)) (r : (List Int)) (h : impl_prime_gcd a0 a1 a2 = some r) : Den Try.prog 42 [(i6 a0), (eSi64 a1), (eSi64 a2)] { r := (eSi64 r) } := by
  refine den_of (rs := [(eSi64 r)]) (ac := impl_prime_gcd_c) (L := impl_prime_gcd_L) (n := 19) (m := [(6, 1), (7, 1), (8, 1), (9, 1)]) (c := Try.f42.body.getD .skip) good Try.func42 (by kernel_rfl) (by kernel_rfl) Try.ntmps42 rfl rfl (by kernel_rfl) rfl rfl ?_
  refine a_st (σ' := ⟨[(0, (i6 a0)), (1, (eSi64 a1)), (2, (eSi64 a2))], []⟩) (by kernel_rfl) ?_
  unfold impl_prime_gcd_c
  refine sr (vp (eSi64 ([])) rfl (nx ⟨[(0, (i6 a0)), (1, (eSi64 a1)), (2, (eSi64 a2))], []⟩ (by kernel_rfl) (sr (vp (i6 a0) rfl (vp (eSi64 a1) rfl (vp (eSi64 a2) rfl ?_))))))
  obtain ⟨r1, hr2, h⟩ := bind_some h
  refine a_call (args := [(i6 a0), (eSi64 a1), (eSi64 a2)]) (u := []) (r := (.tuple [(eSi64 r1.1), (eSi64 r1.2.1), (eSi64 r1.2.2)])) rfl rfl (impl_prime_bezout_ok a0 a1 a2 r1 hr2) rfl (vp (.tuple [(eSi64 r1.1), (eSi64 r1.2.1), (eSi64 r1.2.2)]) rfl (vb (eSi64 r1.1) rfl rfl (vb (eSi64 r1.2.1) rfl rfl (vb (eSi64 r1.2.2) rfl rfl (vp (eSi64 r1.1) rfl (vp (eSi64 r1.2.1) rfl (vp (eSi64 r1.2.2) rfl (nx ⟨[(7, (eSi64 r1.1))], []⟩ (by kernel_rfl) (sr ?_)))))))))
  refine vp (eSi64 r1.1) rfl (vp (eSi64 r1.1) rfl (nx _ rfl (a_ret ?_)))
  refine ⟨.inr rfl, ?_⟩
  rw [Try.results42]
  cases h
  exact ⟨_, _, _, _, _, rfl, trivial, .inl ⟨rfl, .inl rfl⟩, rfl, rfl⟩
def impl_prime_withDegree_c : ACode := (.seq (.region 0 [q 6 (.asg 1 (.const (.slice none 0 0)) 39)] false) (.seq (.seq (.region 1 [q 10 (.mov (t 1)), q 11 (.call 0 (.func 31) [(t 10)]), q 12 (.mov (t 2)), q 13 (.bin .eql 2 (t 11) (t 12))] false) (.cond (t 13) (.seq (.region 2 [q 14 (.mov (t 0)), q 15 (.mov (t 1)), q 16 (.mov (t 0)), q 17 (.mov (t 1)), q 18 (.call 0 (.func 30) [(t 17)]), q 19 (.call 0 (.func 39) [(t 16), (t 18)]), q 20 (.call 0 (.func 38) [(t 14), (t 15), (t 19)]), q 6 (.asg 1 (t 20) 39)] false) .ret) .skip)) (.seq (.region 3 [q 21 (.mov (t 0)), q 22 (.mov (t 2)), q 23 (.call 0 (.func 15) [(t 21), (t 22), (.const (.int .i64 1099511627776))]), q 7 (.asg 0 (t 23) 2)] false) (.seq (.seq (.region 4 [q 24 (.mov (t 7)), q 8 (.asg 0 (t 24) 2)] false) (.block 0 (.loop (.seq (.seq (.region 5 [q 25 (.mov (t 8)), q 26 (.mov (t 7)), q 27 (.bin .mul 2 (.const (.int .i64 2)) (t 26)), q 28 (.bin .lss 2 (t 25) (t 27))] false) (.cond (t 28) .skip (.exit 0))) (.seq (.block 1 (.seq (.region 7 [q 31 (.mov (t 0)), q 32 (.mov (t 8)), q 33 (.call 0 (.func 29) [(t 31), (t 32)]), q 9 (.asg 1 (t 33) 39)] false) (.seq (.region 8 [q 34 (.mov (t 0)), q 35 (.mov (t 1)), q 36 (.mov (t 9)), q 37 (.call 0 (.func 52) [(t 34), (t 35), (t 36)]), q 38 (.blt 0 .len [(t 37)] [39]), q 39 (.bin .eql 3 (t 38) (.const (.int .i64 0)))] false) (.cond (t 39) (.seq (.region 9 [q 40 (.mov (t 9)), q 6 (.asg 1 (t 40) 39)] false) .ret) .skip)))) (.region 6 [q 29 (.mov (t 8)), q 30 (.bin .add 2 (t 29) (.const (.int .i64 1))), q 8 (.asg 0 (t 30) 2)] false)))))) (.seq (.region 10 [q 41 (.mov (t 1)), q 6 (.asg 1 (t 41) 39)] false) .ret)))))
def impl_prime_withDegree_L : Live := [(0, [0, 1, 2]), (1, [0, 1, 2]), (2, [0, 1]), (3, [0, 1, 2]), (4, [0, 1, 7]), (5, [0, 1, 7, 8]), (6, [0, 1, 7, 8]), (7, [0, 1, 7, 8]), (8, [0, 1, 7, 8, 9]), (9, [9]), (10, [1]), (100013, [0, 1, 2, 13]), (100028, [0, 1, 7, 8, 28]), (100039, [0, 1, 7, 8, 9, 39])]
noncomputable def impl_prime_withDegree_l1 (r4 : Int) (a0 : Int) (a1 : (List Int)) (x38 : Int) : Option (Int ⊕ (Unit ⊕ (List Int))) :=
  (if (decide (x38 < (IntKind.i64.wrap (2 * r4)))) then (Option.bind (impl_prime_numbered a0 x38) fun r49 => (Option.bind (impl_prime_rest a0 a1 r49) fun r51 => (if ((r51.length : Int) == 0) then (some (.inr (.inr r49))) else (some (.inl (IntKind.i64.wrap (x38 + 1))))))) else (some (.inr (((.inl ()))))))
noncomputable def impl_prime_withDegree (a0 : Int) (a1 : (List Int)) (a2 : Int) : Option (List Int) :=
  (Option.bind (impl_row_degree a1) fun r1 => (if (r1 == a2) then (Option.bind (impl_row_lead a1) fun r56 => (Option.bind (impl_prime_inverse a0 r56) fun r58 => (Option.bind (impl_prime_scale a0 a1 r58) fun r60 => (some r60)))) else (Option.bind (impl_prime_norm a0 a2 1099511627776) fun r4 => (Option.bind (α := (Unit ⊕ (List Int))) ((loopM (fun s : Int => impl_prime_withDegree_l1 r4 a0 a1 s) r4)) fun z => match z with | .inl _ => (some a1) | .inr r55 => (some r55)))))
theorem impl_prime_withDegree_ok (a0 : Int) (a1 : (List Int)) (a2 : Int) (r : (List Int)) (h : impl_prime_withDegree a0 a1 a2 = some r) : Den Try.prog 44 [(i6 a0), (eSi64 a1), (i6 a2)] { r := (eSi64 r) } := by
  refine den_of (rs := [(eSi64 r)]) (ac := impl_prime_withDegree_c) (L := impl_prime_withDegree_L) (n := 42) (m := [(6, 1), (9, 1)]) (c := Try.f44.body.getD .skip) good Try.func44 (by kernel_rfl) (by kernel_rfl) Try.ntmps44 rfl rfl (by kernel_rfl) rfl rfl ?_
  refine a_st (σ' := ⟨[(0, (i6 a0)), (1, (eSi64 a1)), (2, (i6 a2))], []⟩) (by kernel_rfl) ?_
  unfold impl_prime_withDegree_c
  refine sr (vp (eSi64 ([])) rfl (nx ⟨[(0, (i6 a0)), (1, (eSi64 a1)), (2, (i6 a2))], []⟩ (by kernel_rfl) (a_seq (sr (vp (eSi64 a1) rfl ?_)))))
  obtain ⟨r1, hr2, h⟩ := bind_some h
  refine a_call (args := [(eSi64 a1)]) (u := []) (r := (i6 r1)) rfl rfl (impl_row_degree_ok a1 r1 hr2) rfl (vp (i6 a2) rfl (vp (.bool (r1 == a2)) rfl (nx ⟨[(0, (i6 a0)), (1, (eSi64 a1)), (2, (i6 a2)), (13, (.bool (r1 == a2)))], []⟩ (by kernel_rfl) ?_)))
  cases hb3 : (r1 == a2)
  · have h := ite_f hb3 h
    refine a_cond_f rfl (a_skip (a_next (σ' := ⟨[(0, (i6 a0)), (1, (eSi64 a1)), (2, (i6 a2))], []⟩) (by kernel_rfl) (sr (vp (i6 a0) rfl (vp (i6 a2) rfl ?_)))))
    obtain ⟨r4, hr5, h⟩ := bind_some h
    refine a_call (args := [(i6 a0), (i6 a2), (i6 1099511627776)]) (u := []) (r := (i6 r4)) rfl rfl (impl_prime_norm_ok a0 a2 1099511627776 r4 hr5) rfl (vp (i6 r4) rfl (nx ⟨[(0, (i6 a0)), (1, (eSi64 a1)), (7, (i6 r4))], []⟩ (by kernel_rfl) ?_))
    obtain ⟨y29, hy30, hk31⟩ := bind_some h
    clear h
    refine a_join (emb := fun (s : Unit) => ⟨[(1, (eSi64 a1))], []⟩) (pre := fun s => (.inl s) = y29) ?_ ?_
    · rintro _ rfl
      have h := hk31
      refine a_st (σ' := ⟨[(1, (eSi64 a1))], []⟩) (by kernel_rfl) (sr (vp (eSi64 a1) rfl (vp (eSi64 a1) rfl (nx _ rfl (a_ret ?_)))))
      refine ⟨.inr rfl, ?_⟩
      rw [Try.results44]
      cases h
      exact ⟨_, _, _, _, _, rfl, trivial, .inl ⟨rfl, .inl rfl⟩, rfl, rfl⟩
    · have h := hy30
      refine sr (vp (i6 r4) rfl (vp (i6 r4) rfl (nx ⟨[(0, (i6 a0)), (1, (eSi64 a1)), (7, (i6 r4)), (8, (i6 r4))], []⟩ (by kernel_rfl) (a_block ?_))))
      refine a_loop (emb := fun (s : Int) => ⟨[(0, (i6 a0)), (1, (eSi64 a1)), (7, (i6 r4)), (8, (i6 s))], []⟩) (body := (fun s : Int => impl_prime_withDegree_l1 r4 a0 a1 s)) (G := fun q => some q = some y29) h rfl ?_ (by kernel_rfl)
      rintro X45 x38 x46 h hX47
      have h : impl_prime_withDegree_l1 r4 a0 a1 x38 = some x46 := h
      refine a_st (σ' := ⟨[(0, (i6 a0)), (1, (eSi64 a1)), (7, (i6 r4)), (8, (i6 x38))], []⟩) (by kernel_rfl) (a_seq (sr (vp (i6 x38) rfl (vp (i6 r4) rfl (vp (i6 (IntKind.i64.wrap (2 * r4))) rfl (vp (.bool ((decide (x38 < (IntKind.i64.wrap (2 * r4)))))) rfl (nx ⟨[(0, (i6 a0)), (1, (eSi64 a1)), (7, (i6 r4)), (8, (i6 x38)), (28, (.bool ((decide (x38 < (IntKind.i64.wrap (2 * r4)))))))], []⟩ (by kernel_rfl) ?_)))))))
      cases hb48 : (decide (x38 < (IntKind.i64.wrap (2 * r4))))
      · have h := ite_f hb48 h
        refine a_cond_f rfl (a_exit (t_exit ?_))
        cases h
        have h := hX47
        refine t_exit (b_exit ?_)
        exact j_leaf () (Option.some.inj h) (by kernel_rfl)
      · have h := ite_t hb48 h
        refine a_cond_t rfl (a_skip (a_next (σ' := ⟨[(0, (i6 a0)), (1, (eSi64 a1)), (7, (i6 r4)), (8, (i6 x38))], []⟩) (by kernel_rfl) (a_seq (a_block (sr (vp (i6 a0) rfl (vp (i6 x38) rfl ?_)))))))
        obtain ⟨r49, hr50, h⟩ := bind_some h
        refine a_call (args := [(i6 a0), (i6 x38)]) (u := []) (r := (eSi64 r49)) rfl rfl (impl_prime_numbered_ok a0 x38 r49 hr50) rfl (vp (eSi64 r49) rfl (nx ⟨[(0, (i6 a0)), (1, (eSi64 a1)), (7, (i6 r4)), (8, (i6 x38)), (9, (eSi64 r49))], []⟩ (by kernel_rfl) (sr (vp (i6 a0) rfl (vp (eSi64 a1) rfl (vp (eSi64 r49) rfl ?_))))))
        obtain ⟨r51, hr52, h⟩ := bind_some h
        refine a_call (args := [(i6 a0), (eSi64 a1), (eSi64 r49)]) (u := []) (r := (eSi64 r51)) rfl rfl (impl_prime_rest_ok a0 a1 r49 r51 hr52) rfl (vq (i6 (r51.length : Int)) (len_run rfl rfl) trivial (vp (.bool (((r51.length : Int) == 0))) rfl (nx ⟨[(0, (i6 a0)), (1, (eSi64 a1)), (7, (i6 r4)), (8, (i6 x38)), (9, (eSi64 r49)), (39, (.bool (((r51.length : Int) == 0))))], []⟩ (by kernel_rfl) ?_)))
        cases hb53 : ((r51.length : Int) == 0)
        · have h := ite_f hb53 h
          refine a_cond_f rfl (a_skip (b_norm (a_next (σ' := ⟨[(0, (i6 a0)), (1, (eSi64 a1)), (7, (i6 r4)), (8, (i6 x38))], []⟩) (by kernel_rfl) (a_region (vp (i6 x38) rfl (vp (i6 (IntKind.i64.wrap (x38 + 1))) rfl (vp (i6 (IntKind.i64.wrap (x38 + 1))) rfl (a_nil ?_))))))))
          cases h
          exact a_again (by kernel_rfl) hX47
        · have h := ite_t hb53 h
          refine a_cond_t rfl (sr (vp (eSi64 r49) rfl (vp (eSi64 r49) rfl (nx _ rfl (a_ret (b_ret (t_ret ?_)))))))
          cases h
          have h := hX47
          refine t_ret (b_ret (t_ret ?_))
          cases h
          have h := hk31
          refine ⟨.inr rfl, ?_⟩
          rw [Try.results44]
          cases h
          exact ⟨_, _, _, _, _, rfl, trivial, .inl ⟨rfl, .inl rfl⟩, rfl, rfl⟩
  · have h := ite_t hb3 h
    refine a_cond_t rfl (sr (vp (i6 a0) rfl (vp (eSi64 a1) rfl (vp (i6 a0) rfl (vp (eSi64 a1) rfl ?_)))))
    obtain ⟨r56, hr57, h⟩ := bind_some h
    refine a_call (args := [(eSi64 a1)]) (u := []) (r := (i6 r56)) rfl rfl (impl_row_lead_ok a1 r56 hr57) rfl ?_
    obtain ⟨r58, hr59, h⟩ := bind_some h
    refine a_call (args := [(i6 a0), (i6 r56)]) (u := []) (r := (i6 r58)) rfl rfl (impl_prime_inverse_ok a0 r56 r58 hr59) rfl ?_
    obtain ⟨r60, hr61, h⟩ := bind_some h
    refine a_call (args := [(i6 a0), (eSi64 a1), (i6 r58)]) (u := []) (r := (eSi64 r60)) rfl rfl (impl_prime_scale_ok a0 a1 r58 r60 hr61) rfl (vp (eSi64 r60) rfl (nx _ rfl (a_ret (t_ret ?_))))
    refine ⟨.inr rfl, ?_⟩
    rw [Try.results44]
    cases h
    exact ⟨_, _, _, _, _, rfl, trivial, .inl ⟨rfl, .inl rfl⟩, rfl, rfl⟩
def impl_prime_strip_c : ACode := (.seq (.region 0 [q 6 (.asg 1 (.const (.slice none 0 0)) 39), q 7 (.asg 0 (.const (.int .i64 0)) 2)] false) (.seq (.region 1 [q 8 (.asg 0 (.const (.int .i64 0)) 2)] false) (.block 0 (.loop (.block 1 (.seq (.region 2 [q 12 (.mov (t 0)), q 13 (.mov (t 1)), q 14 (.mov (t 2)), q 15 (.call 0 (.func 58) [(t 12), (t 13), (t 14)]), q 11 (.mov (t 15)), q 16 (.extract (t 11) 0), q 17 (.extract (t 11) 1), q 9 (.asg 1 (t 16) 39), q 10 (.asg 1 (t 17) 39)] false) (.seq (.seq (.region 3 [q 18 (.mov (t 10)), q 19 (.blt 0 .len [(t 18)] [39]), q 20 (.bin .gtr 3 (t 19) (.const (.int .i64 0)))] false) (.cond (t 20) (.seq (.region 4 [q 21 (.mov (t 1)), q 22 (.mov (t 8)), q 6 (.asg 1 (t 21) 39), q 7 (.asg 0 (t 22) 2)] false) .ret) .skip)) (.seq (.region 5 [q 23 (.mov (t 9)), q 1 (.asg 1 (t 23) 39)] false) (.region 6 [q 24 (.mov (t 8)), q 25 (.bin .add 2 (t 24) (.const (.int .i64 1))), q 8 (.asg 0 (t 25) 2)] false)))))))))
def impl_prime_strip_L : Live := [(0, [0, 1, 2]), (1, [0, 1, 2]), (2, [0, 1, 2, 8]), (3, [0, 1, 2, 8, 9, 10]), (4, [1, 8]), (5, [0, 2, 8, 9]), (6, [0, 1, 2, 8]), (100020, [0, 1, 2, 8, 9, 20])]
noncomputable def impl_prime_strip_l1 (a0 : Int) (a2 : (List Int)) (x4 : (List Int)) (x5 : Int) : Option (((List Int) × Int) ⊕ ((List Int) × Int)) :=
  (Option.bind (impl_prime_divide a0 x4 a2) fun r12 => (if (decide ((r12.2.length : Int) > 0)) then (some (.inr (x4, x5))) else (some (.inl ((r12.1, IntKind.i64.wrap (x5 + 1)))))))
noncomputable def impl_prime_strip (a0 : Int) (a1 : (List Int)) (a2 : (List Int)) : Option ((List Int) × Int) :=
  (loopM (fun s : ((List Int) × Int) => impl_prime_strip_l1 a0 a2 s.1 s.2) (a1, 0))
theorem impl_prime_strip_ok (a0 : Int) (a1 : (List Int)) (a2 : (List Int)) (r : ((List Int) × Int)) (h : impl_prime_strip a0 a1 a2 = some r) : Den Try.prog 45 [(i6 a0), (eSi64 a1), (eSi64 a2)] { r := (.tuple [(eSi64 r.1), (i6 r.2)]) } := by
  refine den_of (rs := [(eSi64 r.1), (i6 r.2)]) (ac := impl_prime_strip_c) (L := impl_prime_strip_L) (n := 26) (m := [(1, 1), (6, 1), (9, 1), (10, 1)]) (c := Try.f45.body.getD .skip) good Try.func45 (by kernel_rfl) (by kernel_rfl) Try.ntmps45 rfl rfl (by kernel_rfl) rfl rfl ?_
  refine a_st (σ' := ⟨[(0, (i6 a0)), (1, (eSi64 a1)), (2, (eSi64 a2))], []⟩) (by kernel_rfl) ?_
  unfold impl_prime_strip_c
  refine sr (vp (eSi64 ([])) rfl (vp (i6 0) rfl (nx ⟨[(0, (i6 a0)), (1, (eSi64 a1)), (2, (eSi64 a2))], []⟩ (by kernel_rfl) (sr (vp (i6 0) rfl (nx ⟨[(0, (i6 a0)), (1, (eSi64 a1)), (2, (eSi64 a2)), (8, (i6 0))], []⟩ (by kernel_rfl) (a_block ?_)))))))
  refine a_loop (emb := fun (s : ((List Int) × Int)) => ⟨[(0, (i6 a0)), (1, (eSi64 s.1)), (2, (eSi64 a2)), (8, (i6 s.2))], []⟩) (body := (fun s : ((List Int) × Int) => impl_prime_strip_l1 a0 a2 s.1 s.2)) (G := fun q => some q = some r) h rfl ?_ (by kernel_rfl)
  rintro X9 ⟨x4, x5⟩ x10 h hX11
  have h : impl_prime_strip_l1 a0 a2 x4 x5 = some x10 := h
  refine a_st (σ' := ⟨[(0, (i6 a0)), (1, (eSi64 x4)), (2, (eSi64 a2)), (8, (i6 x5))], []⟩) (by kernel_rfl) (a_block (sr (vp (i6 a0) rfl (vp (eSi64 x4) rfl (vp (eSi64 a2) rfl ?_)))))
  obtain ⟨r12, hr13, h⟩ := bind_some h
  refine a_call (args := [(i6 a0), (eSi64 x4), (eSi64 a2)]) (u := []) (r := (.tuple [(eSi64 r12.1), (eSi64 r12.2)])) rfl rfl (impl_prime_divide_ok a0 x4 a2 r12 hr13) rfl (vp (.tuple [(eSi64 r12.1), (eSi64 r12.2)]) rfl (vb (eSi64 r12.1) rfl rfl (vb (eSi64 r12.2) rfl rfl (vp (eSi64 r12.1) rfl (vp (eSi64 r12.2) rfl (nx ⟨[(0, (i6 a0)), (1, (eSi64 x4)), (2, (eSi64 a2)), (8, (i6 x5)), (9, (eSi64 r12.1)), (10, (eSi64 r12.2))], []⟩ (by kernel_rfl) (a_seq (sr (vp (eSi64 r12.2) rfl ?_)))))))))
  refine vq (i6 (r12.2.length : Int)) (len_run rfl rfl) trivial (vp (.bool ((decide ((r12.2.length : Int) > 0)))) rfl (nx ⟨[(0, (i6 a0)), (1, (eSi64 x4)), (2, (eSi64 a2)), (8, (i6 x5)), (9, (eSi64 r12.1)), (20, (.bool ((decide ((r12.2.length : Int) > 0)))))], []⟩ (by kernel_rfl) ?_))
  cases hb14 : (decide ((r12.2.length : Int) > 0))
  · have h := ite_f hb14 h
    refine a_cond_f rfl (a_skip (a_next (σ' := ⟨[(0, (i6 a0)), (2, (eSi64 a2)), (8, (i6 x5)), (9, (eSi64 r12.1))], []⟩) (by kernel_rfl) (sr (vp (eSi64 r12.1) rfl (vp (eSi64 r12.1) rfl (nx ⟨[(0, (i6 a0)), (1, (eSi64 r12.1)), (2, (eSi64 a2)), (8, (i6 x5))], []⟩ (by kernel_rfl) (a_region (vp (i6 x5) rfl (vp (i6 (IntKind.i64.wrap (x5 + 1))) rfl ?_)))))))))
    refine vp (i6 (IntKind.i64.wrap (x5 + 1))) rfl (a_nil (b_norm ?_))
    cases h
    exact a_again (by kernel_rfl) hX11
  · have h := ite_t hb14 h
    refine a_cond_t rfl (sr (vp (eSi64 x4) rfl (vp (i6 x5) rfl (vp (eSi64 x4) rfl (vp (i6 x5) rfl (nx _ rfl (a_ret (t_ret (b_ret ?_)))))))))
    cases h
    have h := hX11
    refine t_ret (b_ret ?_)
    refine ⟨.inr rfl, ?_⟩
    rw [Try.results45]
    cases h
    exact ⟨_, _, _, _, _, rfl, trivial, .inl ⟨rfl, .inl rfl⟩, rfl, ⟨_, _, _, _, _, rfl, trivial, .inl ⟨rfl, .inl rfl⟩, rfl, rfl⟩⟩
def math_bits_Len64_c : ACode := (.seq (.region 0 [q 2 (.asg 0 (.const (.int .i64 0)) 3)] false) (.seq (.seq (.region 1 [q 3 (.mov (t 0)), q 4 (.bin .geq 97 (t 3) (.const (.int .u64 4294967296)))] false) (.cond (t 4) (.seq (.region 2 [q 5 (.mov (t 0)), q 6 (.bin .shr 97 (t 5) (.const (.int .u64 32))), q 0 (.asg 0 (t 6) 97)] false) (.region 3 [q 2 (.asg 0 (.const (.int .i64 32)) 3)] false)) .skip)) (.seq (.seq (.region 4 [q 7 (.mov (t 0)), q 8 (.bin .geq 97 (t 7) (.const (.int .u64 65536)))] false) (.cond (t 8) (.seq (.region 5 [q 9 (.mov (t 0)), q 10 (.bin .shr 97 (t 9) (.const (.int .u64 16))), q 0 (.asg 0 (t 10) 97)] false) (.region 6 [q 11 (.mov (t 2)), q 12 (.bin .add 3 (t 11) (.const (.int .i64 16))), q 2 (.asg 0 (t 12) 3)] false)) .skip)) (.seq (.seq (.region 7 [q 13 (.mov (t 0)), q 14 (.bin .geq 97 (t 13) (.const (.int .u64 256)))] false) (.cond (t 14) (.seq (.region 8 [q 15 (.mov (t 0)), q 16 (.bin .shr 97 (t 15) (.const (.int .u64 8))), q 0 (.asg 0 (t 16) 97)] false) (.region 9 [q 17 (.mov (t 2)), q 18 (.bin .add 3 (t 17) (.const (.int .i64 8))), q 2 (.asg 0 (t 18) 3)] false)) .skip)) (.seq (.region 10 [q 19 (.mov (t 2)), q 20 (.mov (t 0)), q 21 (.conv 97 5 (t 20)), q 22 (.index 9 (.const (.string ⟨#[0, 1, 2, 2, 3, 3, 3, 3, 4, 4, 4, 4, 4, 4, 4, 4, 5, 5, 5, 5, 5, 5, 5, 5, 5, 5, 5, 5, 5, 5, 5, 5, 6, 6, 6, 6, 6, 6, 6, 6, 6, 6, 6, 6, 6, 6, 6, 6, 6, 6, 6, 6, 6, 6, 6, 6, 6, 6, 6, 6, 6, 6, 6, 6, 7, 7, 7, 7, 7, 7, 7, 7, 7, 7, 7, 7, 7, 7, 7, 7, 7, 7, 7, 7, 7, 7, 7, 7, 7, 7, 7, 7, 7, 7, 7, 7, 7, 7, 7, 7, 7, 7, 7, 7, 7, 7, 7, 7, 7, 7, 7, 7, 7, 7, 7, 7, 7, 7, 7, 7, 7, 7, 7, 7, 7, 7, 7, 7, 8, 8, 8, 8, 8, 8, 8, 8, 8, 8, 8, 8, 8, 8, 8, 8, 8, 8, 8, 8, 8, 8, 8, 8, 8, 8, 8, 8, 8, 8, 8, 8, 8, 8, 8, 8, 8, 8, 8, 8, 8, 8, 8, 8, 8, 8, 8, 8, 8, 8, 8, 8, 8, 8, 8, 8, 8, 8, 8, 8, 8, 8, 8, 8, 8, 8, 8, 8, 8, 8, 8, 8, 8, 8, 8, 8, 8, 8, 8, 8, 8, 8, 8, 8, 8, 8, 8, 8, 8, 8, 8, 8, 8, 8, 8, 8, 8, 8, 8, 8, 8, 8, 8, 8, 8, 8, 8, 8, 8, 8, 8, 8, 8, 8, 8, 8, 8, 8, 8, 8, 8, 8, 8, 8, 8, 8, 8, 8]⟩)) (t 21)), q 23 (.conv 5 3 (t 22)), q 24 (.bin .add 3 (t 19) (t 23)), q 2 (.asg 0 (t 24) 3)] false) .ret)))))
def math_bits_Len64_L : Live := [(0, [0]), (1, [0, 2]), (2, [0]), (3, [0]), (4, [0, 2]), (5, [0, 2]), (6, [0, 2]), (7, [0, 2]), (8, [0, 2]), (9, [0, 2]), (10, [0, 2]), (100004, [0, 2, 4]), (100008, [0, 2, 8]), (100014, [0, 2, 14])]
noncomputable def math_bits_Len64 (a0 : Int) : Option Int :=
  (if (decide (a0 ≥ 4294967296)) then none else (if (decide (a0 ≥ 65536)) then none else (if (decide (a0 ≥ 256)) then none else (ifp (0 ≤ IntKind.u8.wrap a0 ∧ IntKind.u8.wrap a0 < (((⟨#[0, 1, 2, 2, 3, 3, 3, 3, 4, 4, 4, 4, 4, 4, 4, 4, 5, 5, 5, 5, 5, 5, 5, 5, 5, 5, 5, 5, 5, 5, 5, 5, 6, 6, 6, 6, 6, 6, 6, 6, 6, 6, 6, 6, 6, 6, 6, 6, 6, 6, 6, 6, 6, 6, 6, 6, 6, 6, 6, 6, 6, 6, 6, 6, 7, 7, 7, 7, 7, 7, 7, 7, 7, 7, 7, 7, 7, 7, 7, 7, 7, 7, 7, 7, 7, 7, 7, 7, 7, 7, 7, 7, 7, 7, 7, 7, 7, 7, 7, 7, 7, 7, 7, 7, 7, 7, 7, 7, 7, 7, 7, 7, 7, 7, 7, 7, 7, 7, 7, 7, 7, 7, 7, 7, 7, 7, 7, 7, 8, 8, 8, 8, 8, 8, 8, 8, 8, 8, 8, 8, 8, 8, 8, 8, 8, 8, 8, 8, 8, 8, 8, 8, 8, 8, 8, 8, 8, 8, 8, 8, 8, 8, 8, 8, 8, 8, 8, 8, 8, 8, 8, 8, 8, 8, 8, 8, 8, 8, 8, 8, 8, 8, 8, 8, 8, 8, 8, 8, 8, 8, 8, 8, 8, 8, 8, 8, 8, 8, 8, 8, 8, 8, 8, 8, 8, 8, 8, 8, 8, 8, 8, 8, 8, 8, 8, 8, 8, 8, 8, 8, 8, 8, 8, 8, 8, 8, 8, 8, 8, 8, 8, 8, 8, 8, 8, 8, 8, 8, 8, 8, 8, 8, 8, 8, 8, 8, 8, 8, 8, 8, 8, 8, 8, 8, 8, 8]⟩ : ByteArray).size : Nat) : Int)) ((letp (((((⟨#[0, 1, 2, 2, 3, 3, 3, 3, 4, 4, 4, 4, 4, 4, 4, 4, 5, 5, 5, 5, 5, 5, 5, 5, 5, 5, 5, 5, 5, 5, 5, 5, 6, 6, 6, 6, 6, 6, 6, 6, 6, 6, 6, 6, 6, 6, 6, 6, 6, 6, 6, 6, 6, 6, 6, 6, 6, 6, 6, 6, 6, 6, 6, 6, 7, 7, 7, 7, 7, 7, 7, 7, 7, 7, 7, 7, 7, 7, 7, 7, 7, 7, 7, 7, 7, 7, 7, 7, 7, 7, 7, 7, 7, 7, 7, 7, 7, 7, 7, 7, 7, 7, 7, 7, 7, 7, 7, 7, 7, 7, 7, 7, 7, 7, 7, 7, 7, 7, 7, 7, 7, 7, 7, 7, 7, 7, 7, 7, 8, 8, 8, 8, 8, 8, 8, 8, 8, 8, 8, 8, 8, 8, 8, 8, 8, 8, 8, 8, 8, 8, 8, 8, 8, 8, 8, 8, 8, 8, 8, 8, 8, 8, 8, 8, 8, 8, 8, 8, 8, 8, 8, 8, 8, 8, 8, 8, 8, 8, 8, 8, 8, 8, 8, 8, 8, 8, 8, 8, 8, 8, 8, 8, 8, 8, 8, 8, 8, 8, 8, 8, 8, 8, 8, 8, 8, 8, 8, 8, 8, 8, 8, 8, 8, 8, 8, 8, 8, 8, 8, 8, 8, 8, 8, 8, 8, 8, 8, 8, 8, 8, 8, 8, 8, 8, 8, 8, 8, 8, 8, 8, 8, 8, 8, 8, 8, 8, 8, 8, 8, 8, 8, 8, 8, 8, 8, 8]⟩ : ByteArray)).data.toList.getD (IntKind.u8.wrap a0).toNat 0).toNat : Int)) fun x8 => (some (IntKind.i64.wrap (0 + (IntKind.i64.wrap x8))))))))))
theorem math_bits_Len64_ok (a0 : Int) (r : Int) (h : math_bits_Len64 a0 = some r) : Den Try.prog 73 [(.int .u64 a0)] { r := (i6 r) } := by
  refine den_of (rs := [(i6 r)]) (ac := math_bits_Len64_c) (L := math_bits_Len64_L) (n := 25) (m := []) (c := Try.f73.body.getD .skip) good Try.func73 (by kernel_rfl) (by kernel_rfl) Try.ntmps73 rfl rfl (by kernel_rfl) rfl rfl ?_
  refine a_st (σ' := ⟨[(0, (.int .u64 a0))], []⟩) (by kernel_rfl) ?_
  unfold math_bits_Len64_c
  refine sr (vp (i6 0) rfl (nx ⟨[(0, (.int .u64 a0)), (2, (i6 0))], []⟩ (by kernel_rfl) (a_seq (sr (vp (.int .u64 a0) rfl (vp (.bool ((decide (a0 ≥ 4294967296)))) rfl (nx ⟨[(0, (.int .u64 a0)), (2, (i6 0)), (4, (.bool ((decide (a0 ≥ 4294967296)))))], []⟩ (by kernel_rfl) ?_)))))))
  cases hb2 : (decide (a0 ≥ 4294967296))
  · have h := ite_f hb2 h
    refine a_cond_f rfl (a_skip (a_next (σ' := ⟨[(0, (.int .u64 a0)), (2, (i6 0))], []⟩) (by kernel_rfl) (a_seq (sr (vp (.int .u64 a0) rfl (vp (.bool ((decide (a0 ≥ 65536)))) rfl (nx ⟨[(0, (.int .u64 a0)), (2, (i6 0)), (8, (.bool ((decide (a0 ≥ 65536)))))], []⟩ (by kernel_rfl) ?_)))))))
    cases hb4 : (decide (a0 ≥ 65536))
    · have h := ite_f hb4 h
      refine a_cond_f rfl (a_skip (a_next (σ' := ⟨[(0, (.int .u64 a0)), (2, (i6 0))], []⟩) (by kernel_rfl) (a_seq (sr (vp (.int .u64 a0) rfl (vp (.bool ((decide (a0 ≥ 256)))) rfl (nx ⟨[(0, (.int .u64 a0)), (2, (i6 0)), (14, (.bool ((decide (a0 ≥ 256)))))], []⟩ (by kernel_rfl) ?_)))))))
      cases hb6 : (decide (a0 ≥ 256))
      · have h := ite_f hb6 h
        refine a_cond_f rfl (a_skip (a_next (σ' := ⟨[(0, (.int .u64 a0)), (2, (i6 0))], []⟩) (by kernel_rfl) (sr (vp (i6 0) rfl (vp (.int .u64 a0) rfl (vp (b8 (IntKind.u8.wrap a0)) rfl ?_))))))
        obtain ⟨hc7, h⟩ := ifp_some h
        obtain ⟨x8, hx9, h⟩ := letp_some h
        refine a_val' (v := (b8 (((((⟨#[0, 1, 2, 2, 3, 3, 3, 3, 4, 4, 4, 4, 4, 4, 4, 4, 5, 5, 5, 5, 5, 5, 5, 5, 5, 5, 5, 5, 5, 5, 5, 5, 6, 6, 6, 6, 6, 6, 6, 6, 6, 6, 6, 6, 6, 6, 6, 6, 6, 6, 6, 6, 6, 6, 6, 6, 6, 6, 6, 6, 6, 6, 6, 6, 7, 7, 7, 7, 7, 7, 7, 7, 7, 7, 7, 7, 7, 7, 7, 7, 7, 7, 7, 7, 7, 7, 7, 7, 7, 7, 7, 7, 7, 7, 7, 7, 7, 7, 7, 7, 7, 7, 7, 7, 7, 7, 7, 7, 7, 7, 7, 7, 7, 7, 7, 7, 7, 7, 7, 7, 7, 7, 7, 7, 7, 7, 7, 7, 8, 8, 8, 8, 8, 8, 8, 8, 8, 8, 8, 8, 8, 8, 8, 8, 8, 8, 8, 8, 8, 8, 8, 8, 8, 8, 8, 8, 8, 8, 8, 8, 8, 8, 8, 8, 8, 8, 8, 8, 8, 8, 8, 8, 8, 8, 8, 8, 8, 8, 8, 8, 8, 8, 8, 8, 8, 8, 8, 8, 8, 8, 8, 8, 8, 8, 8, 8, 8, 8, 8, 8, 8, 8, 8, 8, 8, 8, 8, 8, 8, 8, 8, 8, 8, 8, 8, 8, 8, 8, 8, 8, 8, 8, 8, 8, 8, 8, 8, 8, 8, 8, 8, 8, 8, 8, 8, 8, 8, 8, 8, 8, 8, 8, 8, 8, 8, 8, 8, 8, 8, 8, 8, 8, 8, 8, 8, 8]⟩ : ByteArray)).data.toList.getD (IntKind.u8.wrap a0).toNat 0).toNat : Int)))) (v' := (b8 x8)) (u := []) (u' := []) rfl (congrArg (fun z => ((b8 z) : AV)) hx9) rfl hc7 rfl (vp (i6 (IntKind.i64.wrap x8)) rfl (vp (i6 (IntKind.i64.wrap (0 + (IntKind.i64.wrap x8)))) rfl (vp (i6 (IntKind.i64.wrap (0 + (IntKind.i64.wrap x8)))) rfl (nx _ rfl (a_ret ?_)))))
        refine ⟨.inr rfl, ?_⟩
        rw [Try.results73]
        cases h
        exact ⟨_, _, _, _, _, rfl, trivial, .inl ⟨rfl, .inl rfl⟩, rfl, rfl⟩
      · have h := ite_t hb6 h
        cases h
    · have h := ite_t hb4 h
      cases h
  · have h := ite_t hb2 h
    cases h
def math_bits_Len_c : ACode := (.seq (.region 0 [q 2 (.asg 0 (.const (.int .i64 0)) 3)] false) (.seq (.cond (.const (.bool false)) (.seq (.region 1 [q 3 (.mov (t 0)), q 4 (.conv 75 95 (t 3)), q 5 (.call 0 (.func 72) [(t 4)]), q 2 (.asg 0 (t 5) 3)] false) .ret) .skip) (.seq (.region 2 [q 6 (.mov (t 0)), q 7 (.call 0 (.func 73) [(t 6)]), q 2 (.asg 0 (t 7) 3)] false) .ret)))
def math_bits_Len_L : Live := [(0, [0]), (1, [0]), (2, [0])]
noncomputable def math_bits_Len (a0 : Int) : Option Int :=
  (Option.bind (math_bits_Len64 a0) fun r1 => (some r1))
theorem math_bits_Len_ok (a0 : Int) (r : Int) (h : math_bits_Len a0 = some r) : Den Try.prog 60 [(.int .u64 a0)] { r := (i6 r) } := by
  refine den_of (rs := [(i6 r)]) (ac := math_bits_Len_c) (L := math_bits_Len_L) (n := 8) (m := []) (c := Try.f60.body.getD .skip) good Try.func60 (by kernel_rfl) (by kernel_rfl) Try.ntmps60 rfl rfl (by kernel_rfl) rfl rfl ?_
  refine a_st (σ' := ⟨[(0, (.int .u64 a0))], []⟩) (by kernel_rfl) ?_
  unfold math_bits_Len_c
  refine sr (vp (i6 0) rfl (nx _ rfl (a_seq (a_cond_f rfl (a_skip (a_next (σ' := ⟨[(0, (.int .u64 a0))], []⟩) (by kernel_rfl) (sr (vp (.int .u64 a0) rfl ?_))))))))
  obtain ⟨r1, hr2, h⟩ := bind_some h
  refine a_call (args := [(.int .u64 a0)]) (u := []) (r := (i6 r1)) rfl rfl (math_bits_Len64_ok a0 r1 hr2) rfl (vp (i6 r1) rfl (nx _ rfl (a_ret ?_)))
  refine ⟨.inr rfl, ?_⟩
  rw [Try.results60]
  cases h
  exact ⟨_, _, _, _, _, rfl, trivial, .inl ⟨rfl, .inl rfl⟩, rfl, rfl⟩
def cmp_isNaN_int_c : ACode := (.seq (.region 0 [q 2 (.asg 0 (.const (.bool false)) 4)] false) (.seq (.region 1 [q 3 (.mov (t 0)), q 4 (.mov (t 0)), q 5 (.bin .neq 3 (t 3) (t 4)), q 2 (.asg 0 (t 5) 4)] false) .ret))
def cmp_isNaN_int_L : Live := [(0, [0]), (1, [0])]
noncomputable def cmp_isNaN_int (a0 : Int) : Option Bool :=
  (some (a0 != a0))
theorem cmp_isNaN_int_ok (a0 : Int) (r : Bool) (h : cmp_isNaN_int a0 = some r) : Den Try.prog 74 [(i6 a0)] { r := (.bool r) } := by
  refine den_of (rs := [(.bool r)]) (ac := cmp_isNaN_int_c) (L := cmp_isNaN_int_L) (n := 6) (m := []) (c := Try.f74.body.getD .skip) good Try.func74 (by kernel_rfl) (by kernel_rfl) Try.ntmps74 rfl rfl (by kernel_rfl) rfl rfl ?_
  refine a_st (σ' := ⟨[(0, (i6 a0))], []⟩) (by kernel_rfl) ?_
  unfold cmp_isNaN_int_c
  refine sr (vp (.bool false) rfl (nx ⟨[(0, (i6 a0))], []⟩ (by kernel_rfl) (sr (vp (i6 a0) rfl (vp (i6 a0) rfl (vp (.bool (a0 != a0)) rfl (vp (.bool (a0 != a0)) rfl (nx _ rfl (a_ret ?_)))))))))
  refine ⟨.inr rfl, ?_⟩
  rw [Try.results74]
  cases h
  exact ⟨_, _, _, _, _, rfl, trivial, .inl ⟨rfl, .inl rfl⟩, rfl, rfl⟩
def cmp_Compare_int_c : ACode := (.seq (.region 0 [q 4 (.asg 0 (.const (.int .i64 0)) 3)] false) (.seq (.region 1 [q 7 (.mov (t 0)), q 8 (.call 0 (.func 74) [(t 7)]), q 5 (.asg 0 (t 8) 4)] false) (.seq (.region 2 [q 9 (.mov (t 1)), q 10 (.call 0 (.func 74) [(t 9)]), q 6 (.asg 0 (t 10) 4)] false) (.seq (.seq (.region 3 [q 11 (.mov (t 5))] false) (.cond (t 11) (.seq (.seq (.region 4 [q 12 (.mov (t 6))] false) (.cond (t 12) (.seq (.region 5 [q 4 (.asg 0 (.const (.int .i64 0)) 3)] false) .ret) .skip)) (.seq (.region 6 [q 4 (.asg 0 (.const (.int .i64 (-1))) 3)] false) .ret)) .skip)) (.seq (.seq (.region 7 [q 13 (.mov (t 6))] false) (.cond (t 13) (.seq (.region 8 [q 4 (.asg 0 (.const (.int .i64 1)) 3)] false) .ret) .skip)) (.seq (.seq (.region 9 [q 14 (.mov (t 0)), q 15 (.mov (t 1)), q 16 (.bin .lss 3 (t 14) (t 15))] false) (.cond (t 16) (.seq (.region 10 [q 4 (.asg 0 (.const (.int .i64 (-1))) 3)] false) .ret) .skip)) (.seq (.seq (.region 11 [q 17 (.mov (t 0)), q 18 (.mov (t 1)), q 19 (.bin .gtr 3 (t 17) (t 18))] false) (.cond (t 19) (.seq (.region 12 [q 4 (.asg 0 (.const (.int .i64 1)) 3)] false) .ret) .skip)) (.seq (.region 13 [q 4 (.asg 0 (.const (.int .i64 0)) 3)] false) .ret))))))))
def cmp_Compare_int_L : Live := [(0, [0, 1]), (1, [0, 1]), (2, [0, 1, 5]), (3, [0, 1, 5, 6]), (4, [6]), (5, []), (6, []), (7, [0, 1, 6]), (8, []), (9, [0, 1]), (10, []), (11, [0, 1]), (12, []), (13, []), (100011, [0, 1, 6, 11]), (100012, [12]), (100013, [0, 1, 13]), (100016, [0, 1, 16]), (100019, [19])]
noncomputable def cmp_Compare_int (a0 : Int) (a1 : Int) : Option Int :=
  (Option.bind (cmp_isNaN_int a0) fun r1 => (Option.bind (cmp_isNaN_int a1) fun r3 => (if r1 then (if r3 then (some 0) else (some (-1))) else (if r3 then (some 1) else (if (decide (a0 < a1)) then (some (-1)) else (if (decide (a0 > a1)) then (some 1) else (some 0)))))))
theorem cmp_Compare_int_ok (a0 : Int) (a1 : Int) (r : Int) (h : cmp_Compare_int a0 a1 = some r) : Den Try.prog 61 [(i6 a0), (i6 a1)] { r := (i6 r) } := by
  refine den_of (rs := [(i6 r)]) (ac := cmp_Compare_int_c) (L := cmp_Compare_int_L) (n := 20) (m := []) (c := Try.f61.body.getD .skip) good Try.func61 (by kernel_rfl) (by kernel_rfl) Try.ntmps61 rfl rfl (by kernel_rfl) rfl rfl ?_
  refine a_st (σ' := ⟨[(0, (i6 a0)), (1, (i6 a1))], []⟩) (by kernel_rfl) ?_
  unfold cmp_Compare_int_c
  refine sr (vp (i6 0) rfl (nx ⟨[(0, (i6 a0)), (1, (i6 a1))], []⟩ (by kernel_rfl) (sr (vp (i6 a0) rfl ?_))))
  obtain ⟨r1, hr2, h⟩ := bind_some h
  refine a_call (args := [(i6 a0)]) (u := []) (r := (.bool r1)) rfl rfl (cmp_isNaN_int_ok a0 r1 hr2) rfl (vp (.bool r1) rfl (nx ⟨[(0, (i6 a0)), (1, (i6 a1)), (5, (.bool r1))], []⟩ (by kernel_rfl) (sr (vp (i6 a1) rfl ?_))))
  obtain ⟨r3, hr4, h⟩ := bind_some h
  refine a_call (args := [(i6 a1)]) (u := []) (r := (.bool r3)) rfl rfl (cmp_isNaN_int_ok a1 r3 hr4) rfl (vp (.bool r3) rfl (nx ⟨[(0, (i6 a0)), (1, (i6 a1)), (5, (.bool r1)), (6, (.bool r3))], []⟩ (by kernel_rfl) (a_seq (sr (vp (.bool r1) rfl (nx ⟨[(0, (i6 a0)), (1, (i6 a1)), (6, (.bool r3)), (11, (.bool r1))], []⟩ (by kernel_rfl) ?_))))))
  cases hb5 : r1
  · have h := ite_f hb5 h
    refine a_cond_f rfl (a_skip (a_next (σ' := ⟨[(0, (i6 a0)), (1, (i6 a1)), (6, (.bool r3))], []⟩) (by kernel_rfl) (a_seq (sr (vp (.bool r3) rfl (nx ⟨[(0, (i6 a0)), (1, (i6 a1)), (13, (.bool r3))], []⟩ (by kernel_rfl) ?_))))))
    cases hb6 : r3
    · have h := ite_f hb6 h
      refine a_cond_f rfl (a_skip (a_next (σ' := ⟨[(0, (i6 a0)), (1, (i6 a1))], []⟩) (by kernel_rfl) (a_seq (sr (vp (i6 a0) rfl (vp (i6 a1) rfl (vp (.bool ((decide (a0 < a1)))) rfl (nx ⟨[(0, (i6 a0)), (1, (i6 a1)), (16, (.bool ((decide (a0 < a1)))))], []⟩ (by kernel_rfl) ?_))))))))
      cases hb7 : (decide (a0 < a1))
      · have h := ite_f hb7 h
        refine a_cond_f rfl (a_skip (a_next (σ' := ⟨[(0, (i6 a0)), (1, (i6 a1))], []⟩) (by kernel_rfl) (a_seq (sr (vp (i6 a0) rfl (vp (i6 a1) rfl (vp (.bool ((decide (a0 > a1)))) rfl (nx ⟨[(19, (.bool ((decide (a0 > a1)))))], []⟩ (by kernel_rfl) ?_))))))))
        cases hb8 : (decide (a0 > a1))
        · have h := ite_f hb8 h
          refine a_cond_f rfl (a_skip (a_next (σ' := ⟨[], []⟩) (by kernel_rfl) (sr (vp (i6 0) rfl (nx _ rfl (a_ret ?_))))))
          refine ⟨.inr rfl, ?_⟩
          rw [Try.results61]
          cases h
          exact ⟨_, _, _, _, _, rfl, trivial, .inl ⟨rfl, .inl rfl⟩, rfl, rfl⟩
        · have h := ite_t hb8 h
          refine a_cond_t rfl (sr (vp (i6 1) rfl (nx _ rfl (a_ret (t_ret ?_)))))
          refine ⟨.inr rfl, ?_⟩
          rw [Try.results61]
          cases h
          exact ⟨_, _, _, _, _, rfl, trivial, .inl ⟨rfl, .inl rfl⟩, rfl, rfl⟩
      · have h := ite_t hb7 h
        refine a_cond_t rfl (sr (vp (i6 (-1)) rfl (nx _ rfl (a_ret (t_ret ?_)))))
        refine ⟨.inr rfl, ?_⟩
        rw [Try.results61]
        cases h
        exact ⟨_, _, _, _, _, rfl, trivial, .inl ⟨rfl, .inl rfl⟩, rfl, rfl⟩
    · have h := ite_t hb6 h
      refine a_cond_t rfl (sr (vp (i6 1) rfl (nx _ rfl (a_ret (t_ret ?_)))))
      refine ⟨.inr rfl, ?_⟩
      rw [Try.results61]
      cases h
      exact ⟨_, _, _, _, _, rfl, trivial, .inl ⟨rfl, .inl rfl⟩, rfl, rfl⟩
  · have h := ite_t hb5 h
    refine a_cond_t rfl (a_seq (sr (vp (.bool r3) rfl (nx ⟨[(12, (.bool r3))], []⟩ (by kernel_rfl) ?_))))
    cases hb9 : r3
    · have h := ite_f hb9 h
      refine a_cond_f rfl (a_skip (a_next (σ' := ⟨[], []⟩) (by kernel_rfl) (sr (vp (i6 (-1)) rfl (nx _ rfl (a_ret (t_ret ?_)))))))
      refine ⟨.inr rfl, ?_⟩
      rw [Try.results61]
      cases h
      exact ⟨_, _, _, _, _, rfl, trivial, .inl ⟨rfl, .inl rfl⟩, rfl, rfl⟩
    · have h := ite_t hb9 h
      refine a_cond_t rfl (sr (vp (i6 0) rfl (nx _ rfl (a_ret (t_ret (t_ret ?_))))))
      refine ⟨.inr rfl, ?_⟩
      rw [Try.results61]
      cases h
      exact ⟨_, _, _, _, _, rfl, trivial, .inl ⟨rfl, .inl rfl⟩, rfl, rfl⟩
def cmp_isNaN_int64_c : ACode := (.seq (.region 0 [q 2 (.asg 0 (.const (.bool false)) 4)] false) (.seq (.region 1 [q 3 (.mov (t 0)), q 4 (.mov (t 0)), q 5 (.bin .neq 2 (t 3) (t 4)), q 2 (.asg 0 (t 5) 4)] false) .ret))
def cmp_isNaN_int64_L : Live := [(0, [0]), (1, [0])]
noncomputable def cmp_isNaN_int64 (a0 : Int) : Option Bool :=
  (some (a0 != a0))
theorem cmp_isNaN_int64_ok (a0 : Int) (r : Bool) (h : cmp_isNaN_int64 a0 = some r) : Den Try.prog 75 [(i6 a0)] { r := (.bool r) } := by
  refine den_of (rs := [(.bool r)]) (ac := cmp_isNaN_int64_c) (L := cmp_isNaN_int64_L) (n := 6) (m := []) (c := Try.f75.body.getD .skip) good Try.func75 (by kernel_rfl) (by kernel_rfl) Try.ntmps75 rfl rfl (by kernel_rfl) rfl rfl ?_
  refine a_st (σ' := ⟨[(0, (i6 a0))], []⟩) (by kernel_rfl) ?_
  unfold cmp_isNaN_int64_c
  refine sr (vp (.bool false) rfl (nx ⟨[(0, (i6 a0))], []⟩ (by kernel_rfl) (sr (vp (i6 a0) rfl (vp (i6 a0) rfl (vp (.bool (a0 != a0)) rfl (vp (.bool (a0 != a0)) rfl (nx _ rfl (a_ret ?_)))))))))
  refine ⟨.inr rfl, ?_⟩
  rw [Try.results75]
  cases h
  exact ⟨_, _, _, _, _, rfl, trivial, .inl ⟨rfl, .inl rfl⟩, rfl, rfl⟩
def cmp_Compare_int64_c : ACode := (.seq (.region 0 [q 4 (.asg 0 (.const (.int .i64 0)) 3)] false) (.seq (.region 1 [q 7 (.mov (t 0)), q 8 (.call 0 (.func 75) [(t 7)]), q 5 (.asg 0 (t 8) 4)] false) (.seq (.region 2 [q 9 (.mov (t 1)), q 10 (.call 0 (.func 75) [(t 9)]), q 6 (.asg 0 (t 10) 4)] false) (.seq (.seq (.region 3 [q 11 (.mov (t 5))] false) (.cond (t 11) (.seq (.seq (.region 4 [q 12 (.mov (t 6))] false) (.cond (t 12) (.seq (.region 5 [q 4 (.asg 0 (.const (.int .i64 0)) 3)] false) .ret) .skip)) (.seq (.region 6 [q 4 (.asg 0 (.const (.int .i64 (-1))) 3)] false) .ret)) .skip)) (.seq (.seq (.region 7 [q 13 (.mov (t 6))] false) (.cond (t 13) (.seq (.region 8 [q 4 (.asg 0 (.const (.int .i64 1)) 3)] false) .ret) .skip)) (.seq (.seq (.region 9 [q 14 (.mov (t 0)), q 15 (.mov (t 1)), q 16 (.bin .lss 2 (t 14) (t 15))] false) (.cond (t 16) (.seq (.region 10 [q 4 (.asg 0 (.const (.int .i64 (-1))) 3)] false) .ret) .skip)) (.seq (.seq (.region 11 [q 17 (.mov (t 0)), q 18 (.mov (t 1)), q 19 (.bin .gtr 2 (t 17) (t 18))] false) (.cond (t 19) (.seq (.region 12 [q 4 (.asg 0 (.const (.int .i64 1)) 3)] false) .ret) .skip)) (.seq (.region 13 [q 4 (.asg 0 (.const (.int .i64 0)) 3)] false) .ret))))))))
def cmp_Compare_int64_L : Live := [(0, [0, 1]), (1, [0, 1]), (2, [0, 1, 5]), (3, [0, 1, 5, 6]), (4, [6]), (5, []), (6, []), (7, [0, 1, 6]), (8, []), (9, [0, 1]), (10, []), (11, [0, 1]), (12, []), (13, []), (100011, [0, 1, 6, 11]), (100012, [12]), (100013, [0, 1, 13]), (100016, [0, 1, 16]), (100019, [19])]
noncomputable def cmp_Compare_int64 (a0 : Int) (a1 : Int) : Option Int :=
  (Option.bind (cmp_isNaN_int64 a0) fun r1 => (Option.bind (cmp_isNaN_int64 a1) fun r3 => (if r1 then (if r3 then (some 0) else (some (-1))) else (if r3 then (some 1) else (if (decide (a0 < a1)) then (some (-1)) else (if (decide (a0 > a1)) then (some 1) else (some 0)))))))
theorem cmp_Compare_int64_ok (a0 : Int) (a1 : Int) (r : Int) (h : cmp_Compare_int64 a0 a1 = some r) : Den Try.prog 62 [(i6 a0), (i6 a1)] { r := (i6 r) } := by
  refine den_of (rs := [(i6 r)]) (ac := cmp_Compare_int64_c) (L := cmp_Compare_int64_L) (n := 20) (m := []) (c := Try.f62.body.getD .skip) good Try.func62 (by kernel_rfl) (by kernel_rfl) Try.ntmps62 rfl rfl (by kernel_rfl) rfl rfl ?_
  refine a_st (σ' := ⟨[(0, (i6 a0)), (1, (i6 a1))], []⟩) (by kernel_rfl) ?_
  unfold cmp_Compare_int64_c
  refine sr (vp (i6 0) rfl (nx ⟨[(0, (i6 a0)), (1, (i6 a1))], []⟩ (by kernel_rfl) (sr (vp (i6 a0) rfl ?_))))
  obtain ⟨r1, hr2, h⟩ := bind_some h
  refine a_call (args := [(i6 a0)]) (u := []) (r := (.bool r1)) rfl rfl (cmp_isNaN_int64_ok a0 r1 hr2) rfl (vp (.bool r1) rfl (nx ⟨[(0, (i6 a0)), (1, (i6 a1)), (5, (.bool r1))], []⟩ (by kernel_rfl) (sr (vp (i6 a1) rfl ?_))))
  obtain ⟨r3, hr4, h⟩ := bind_some h
  refine a_call (args := [(i6 a1)]) (u := []) (r := (.bool r3)) rfl rfl (cmp_isNaN_int64_ok a1 r3 hr4) rfl (vp (.bool r3) rfl (nx ⟨[(0, (i6 a0)), (1, (i6 a1)), (5, (.bool r1)), (6, (.bool r3))], []⟩ (by kernel_rfl) (a_seq (sr (vp (.bool r1) rfl (nx ⟨[(0, (i6 a0)), (1, (i6 a1)), (6, (.bool r3)), (11, (.bool r1))], []⟩ (by kernel_rfl) ?_))))))
  cases hb5 : r1
  · have h := ite_f hb5 h
    refine a_cond_f rfl (a_skip (a_next (σ' := ⟨[(0, (i6 a0)), (1, (i6 a1)), (6, (.bool r3))], []⟩) (by kernel_rfl) (a_seq (sr (vp (.bool r3) rfl (nx ⟨[(0, (i6 a0)), (1, (i6 a1)), (13, (.bool r3))], []⟩ (by kernel_rfl) ?_))))))
    cases hb6 : r3
    · have h := ite_f hb6 h
      refine a_cond_f rfl (a_skip (a_next (σ' := ⟨[(0, (i6 a0)), (1, (i6 a1))], []⟩) (by kernel_rfl) (a_seq (sr (vp (i6 a0) rfl (vp (i6 a1) rfl (vp (.bool ((decide (a0 < a1)))) rfl (nx ⟨[(0, (i6 a0)), (1, (i6 a1)), (16, (.bool ((decide (a0 < a1)))))], []⟩ (by kernel_rfl) ?_))))))))
      cases hb7 : (decide (a0 < a1))
      · have h := ite_f hb7 h
        refine a_cond_f rfl (a_skip (a_next (σ' := ⟨[(0, (i6 a0)), (1, (i6 a1))], []⟩) (by kernel_rfl) (a_seq (sr (vp (i6 a0) rfl (vp (i6 a1) rfl (vp (.bool ((decide (a0 > a1)))) rfl (nx ⟨[(19, (.bool ((decide (a0 > a1)))))], []⟩ (by kernel_rfl) ?_))))))))
        cases hb8 : (decide (a0 > a1))
        · have h := ite_f hb8 h
          refine a_cond_f rfl (a_skip (a_next (σ' := ⟨[], []⟩) (by kernel_rfl) (sr (vp (i6 0) rfl (nx _ rfl (a_ret ?_))))))
          refine ⟨.inr rfl, ?_⟩
          rw [Try.results62]
          cases h
          exact ⟨_, _, _, _, _, rfl, trivial, .inl ⟨rfl, .inl rfl⟩, rfl, rfl⟩
        · have h := ite_t hb8 h
          refine a_cond_t rfl (sr (vp (i6 1) rfl (nx _ rfl (a_ret (t_ret ?_)))))
          refine ⟨.inr rfl, ?_⟩
          rw [Try.results62]
          cases h
          exact ⟨_, _, _, _, _, rfl, trivial, .inl ⟨rfl, .inl rfl⟩, rfl, rfl⟩
      · have h := ite_t hb7 h
        refine a_cond_t rfl (sr (vp (i6 (-1)) rfl (nx _ rfl (a_ret (t_ret ?_)))))
        refine ⟨.inr rfl, ?_⟩
        rw [Try.results62]
        cases h
        exact ⟨_, _, _, _, _, rfl, trivial, .inl ⟨rfl, .inl rfl⟩, rfl, rfl⟩
    · have h := ite_t hb6 h
      refine a_cond_t rfl (sr (vp (i6 1) rfl (nx _ rfl (a_ret (t_ret ?_)))))
      refine ⟨.inr rfl, ?_⟩
      rw [Try.results62]
      cases h
      exact ⟨_, _, _, _, _, rfl, trivial, .inl ⟨rfl, .inl rfl⟩, rfl, rfl⟩
  · have h := ite_t hb5 h
    refine a_cond_t rfl (a_seq (sr (vp (.bool r3) rfl (nx ⟨[(12, (.bool r3))], []⟩ (by kernel_rfl) ?_))))
    cases hb9 : r3
    · have h := ite_f hb9 h
      refine a_cond_f rfl (a_skip (a_next (σ' := ⟨[], []⟩) (by kernel_rfl) (sr (vp (i6 (-1)) rfl (nx _ rfl (a_ret (t_ret ?_)))))))
      refine ⟨.inr rfl, ?_⟩
      rw [Try.results62]
      cases h
      exact ⟨_, _, _, _, _, rfl, trivial, .inl ⟨rfl, .inl rfl⟩, rfl, rfl⟩
    · have h := ite_t hb9 h
      refine a_cond_t rfl (sr (vp (i6 0) rfl (nx _ rfl (a_ret (t_ret (t_ret ?_))))))
      refine ⟨.inr rfl, ?_⟩
      rw [Try.results62]
      cases h
      exact ⟨_, _, _, _, _, rfl, trivial, .inl ⟨rfl, .inl rfl⟩, rfl, rfl⟩
def impl_compare_c : ACode := (.seq (.region 0 [q 4 (.asg 0 (.const (.int .i64 0)) 3)] false) (.seq (.seq (.region 1 [q 8 (.mov (t 0)), q 9 (.blt 0 .len [(t 8)] [39]), q 10 (.mov (t 1)), q 11 (.blt 0 .len [(t 10)] [39]), q 12 (.call 0 (.func 61) [(t 9), (t 11)]), q 5 (.asg 0 (t 12) 3)] false) (.seq (.region 2 [q 13 (.mov (t 5)), q 14 (.bin .neq 3 (t 13) (.const (.int .i64 0)))] false) (.cond (t 14) (.seq (.region 3 [q 15 (.mov (t 5)), q 4 (.asg 0 (t 15) 3)] false) .ret) .skip))) (.seq (.seq (.region 4 [q 16 (.mov (t 0)), q 17 (.blt 0 .len [(t 16)] [39]), q 18 (.bin .sub 3 (t 17) (.const (.int .i64 1))), q 6 (.asg 0 (t 18) 3)] false) (.block 0 (.loop (.seq (.seq (.region 5 [q 19 (.mov (t 6)), q 20 (.bin .geq 3 (t 19) (.const (.int .i64 0)))] false) (.cond (t 20) .skip (.exit 0))) (.seq (.block 1 (.seq (.region 7 [q 23 (.mov (t 0)), q 24 (.mov (t 6)), ⟨some 25, .indexAddr 39 (t 23) (t 24), none, [0, 1]⟩, ⟨some 26, .load 2 (t 25), none, [2]⟩, q 27 (.mov (t 1)), q 28 (.mov (t 6)), ⟨some 29, .indexAddr 39 (t 27) (t 28), none, [4, 5]⟩, ⟨some 30, .load 2 (t 29), none, [6]⟩, ⟨some 31, .call 0 (.func 62) [(t 26), (t 30)], none, [3, 7]⟩, ⟨some 7, .asg 0 (t 31) 3, none, [8, 8, 0, 1, 2, 3, 4, 5, 6, 7, 8]⟩] true) (.seq (.region 8 [q 32 (.mov (t 7)), q 33 (.bin .neq 3 (t 32) (.const (.int .i64 0)))] false) (.cond (t 33) (.seq (.region 9 [q 34 (.mov (t 7)), q 4 (.asg 0 (t 34) 3)] false) .ret) .skip)))) (.region 6 [q 21 (.mov (t 6)), q 22 (.bin .sub 3 (t 21) (.const (.int .i64 1))), q 6 (.asg 0 (t 22) 3)] false)))))) (.seq (.region 10 [q 4 (.asg 0 (.const (.int .i64 0)) 3)] false) .ret))))
def impl_compare_L : Live := [(0, [0, 1]), (1, [0, 1]), (2, [0, 1, 5]), (3, [5]), (4, [0, 1]), (5, [0, 1, 6]), (6, [0, 1, 6]), (7, [0, 1, 6]), (8, [0, 1, 6, 7]), (9, [7]), (10, []), (100014, [0, 1, 5, 14]), (100020, [0, 1, 6, 20]), (100033, [0, 1, 6, 7, 33])]
noncomputable def impl_compare_l1 (a0 : (List Int)) (a1 : (List Int)) (x72 : Int) : Option (Int ⊕ (Unit ⊕ Int)) :=
  (if (decide (x72 ≥ 0)) then (ifp (0 ≤ x72 ∧ x72 < ((a0.length : Nat) : Int)) ((ifp (0 ≤ x72 ∧ x72 < ((a1.length : Nat) : Int)) ((Option.bind (cmp_Compare_int64 (rd a0 x72.toNat) (rd a1 x72.toNat)) fun r101 => (if (r101 != 0) then (some (.inr (.inr r101))) else (some (.inl (IntKind.i64.wrap (x72 - 1)))))))))) else (some (.inr (((.inl ()))))))
noncomputable def impl_compare (a0 : (List Int)) (a1 : (List Int)) : Option Int :=
  (Option.bind (cmp_Compare_int (a0.length : Int) (a1.length : Int)) fun r1 => (if (r1 != 0) then (some r1) else (Option.bind (α := (Unit ⊕ Int)) ((loopM (fun s : Int => impl_compare_l1 a0 a1 s) (IntKind.i64.wrap ((a0.length : Int) - 1)))) fun z => match z with | .inl _ => (some 0) | .inr r105 => (some r105))))
theorem impl_compare_ok (a0 : (List Int)) (a1 : (List Int)) (r : Int) (h : impl_compare a0 a1 = some r) : Den Try.prog 48 [(eSi64 a0), (eSi64 a1)] { r := (i6 r) } := by
  refine den_of (rs := [(i6 r)]) (ac := impl_compare_c) (L := impl_compare_L) (n := 35) (m := []) (c := Try.f48.body.getD .skip) good Try.func48 (by kernel_rfl) (by kernel_rfl) Try.ntmps48 rfl rfl (by kernel_rfl) rfl rfl ?_
  refine a_st (σ' := ⟨[(0, (eSi64 a0)), (1, (eSi64 a1))], []⟩) (by kernel_rfl) ?_
  unfold impl_compare_c
  refine sr (vp (i6 0) rfl (nx ⟨[(0, (eSi64 a0)), (1, (eSi64 a1))], []⟩ (by kernel_rfl) (a_seq (sr (vp (eSi64 a0) rfl (vq (i6 (a0.length : Int)) (len_run rfl rfl) trivial (vp (eSi64 a1) rfl (vq (i6 (a1.length : Int)) (len_run rfl rfl) trivial ?_))))))))
  obtain ⟨r1, hr2, h⟩ := bind_some h
  refine a_call (args := [(i6 (a0.length : Int)), (i6 (a1.length : Int))]) (u := []) (r := (i6 r1)) rfl rfl (cmp_Compare_int_ok (a0.length : Int) (a1.length : Int) r1 hr2) rfl (vp (i6 r1) rfl (nx ⟨[(0, (eSi64 a0)), (1, (eSi64 a1)), (5, (i6 r1))], []⟩ (by kernel_rfl) (sr (vp (i6 r1) rfl (vp (.bool (r1 != 0)) rfl (nx ⟨[(0, (eSi64 a0)), (1, (eSi64 a1)), (5, (i6 r1)), (14, (.bool (r1 != 0)))], []⟩ (by kernel_rfl) ?_))))))
  cases hb3 : (r1 != 0)
  · have h := ite_f hb3 h
    refine a_cond_f rfl (a_skip (a_next (σ' := ⟨[(0, (eSi64 a0)), (1, (eSi64 a1))], []⟩) (by kernel_rfl) ?_))
    obtain ⟨y53, hy54, hk55⟩ := bind_some h
    clear h
    refine a_join (emb := fun (s : Unit) => ⟨[], []⟩) (pre := fun s => (.inl s) = y53) ?_ ?_
    · rintro _ rfl
      have h := hk55
      refine a_st (σ' := ⟨[], []⟩) (by kernel_rfl) (sr (vp (i6 0) rfl (nx _ rfl (a_ret ?_))))
      refine ⟨.inr rfl, ?_⟩
      rw [Try.results48]
      cases h
      exact ⟨_, _, _, _, _, rfl, trivial, .inl ⟨rfl, .inl rfl⟩, rfl, rfl⟩
    · have h := hy54
      refine sr (vp (eSi64 a0) rfl (vq (i6 (a0.length : Int)) (len_run rfl rfl) trivial (vp (i6 (IntKind.i64.wrap ((a0.length : Int) - 1))) rfl (vp (i6 (IntKind.i64.wrap ((a0.length : Int) - 1))) rfl (nx ⟨[(0, (eSi64 a0)), (1, (eSi64 a1)), (6, (i6 (IntKind.i64.wrap ((a0.length : Int) - 1))))], []⟩ (by kernel_rfl) (a_block ?_))))))
      refine a_loop (emb := fun (s : Int) => ⟨[(0, (eSi64 a0)), (1, (eSi64 a1)), (6, (i6 s))], []⟩) (body := (fun s : Int => impl_compare_l1 a0 a1 s)) (G := fun q => some q = some y53) h rfl ?_ (by kernel_rfl)
      rintro X87 x72 x88 h hX89
      have h : impl_compare_l1 a0 a1 x72 = some x88 := h
      refine a_st (σ' := ⟨[(0, (eSi64 a0)), (1, (eSi64 a1)), (6, (i6 x72))], []⟩) (by kernel_rfl) (a_seq (sr (vp (i6 x72) rfl (vp (.bool ((decide (x72 ≥ 0)))) rfl (nx ⟨[(0, (eSi64 a0)), (1, (eSi64 a1)), (6, (i6 x72)), (20, (.bool ((decide (x72 ≥ 0)))))], []⟩ (by kernel_rfl) ?_)))))
      cases hb90 : (decide (x72 ≥ 0))
      · have h := ite_f hb90 h
        refine a_cond_f rfl (a_exit (t_exit ?_))
        cases h
        have h := hX89
        refine t_exit (b_exit ?_)
        exact j_leaf () (Option.some.inj h) (by kernel_rfl)
      · have h := ite_t hb90 h
        refine a_cond_t rfl (a_skip (a_next (σ' := ⟨[(0, (eSi64 a0)), (1, (eSi64 a1)), (6, (i6 x72))], []⟩) (by kernel_rfl) (a_seq (a_block (a_seq (a_draw [⟨[], [], [], []⟩, ⟨[], [], [], []⟩, ⟨[], [], [], [0, 1]⟩, ⟨[], [], [], [0, 1, 2]⟩, ⟨[], [], [], []⟩, ⟨[], [], [], []⟩, ⟨[], [], [], [4, 5]⟩, ⟨[], [], [], [4, 5, 6]⟩, ⟨[], [], [], [0, 1, 2, 3, 4, 5, 6, 7]⟩, ⟨[], [], [], [0, 1, 2, 3, 4, 5, 6, 7, 8]⟩] (by kernel_rfl) (dp (eSi64 a0) rfl (by kernel_rfl) (dp (i6 x72) rfl (by kernel_rfl) (d_cons ?_)))))))))
        obtain ⟨hc97, h⟩ := ifp_some h
        refine vq (.ref (.row 1 (a0.map (AV.int .i64))) [x72.toNat] [x72.toNat * 1]) rfl (lmap hc97) (d_next (by kernel_rfl) (d_cons ?_))
        have hl98 : LdOk [x72.toNat] (.row 1 (a0.map (AV.int .i64))) [x72.toNat * 1] 1 false (i6 (rd a0 x72.toNat)) := (.row (llt hc97) rfl (.nil rfl rfl rfl))
        refine vq (i6 (rd a0 x72.toNat)) (ld_ref (i := ⟨.int .i64, 1, 8, (.int .i64 0)⟩) rfl rfl hl98) hl98.c (d_next (by kernel_rfl) (dp (eSi64 a1) rfl (by kernel_rfl) (dp (i6 x72) rfl (by kernel_rfl) (d_cons ?_))))
        obtain ⟨hc99, h⟩ := ifp_some h
        refine vq (.ref (.row 1 (a1.map (AV.int .i64))) [x72.toNat] [x72.toNat * 1]) rfl (lmap hc99) (d_next (by kernel_rfl) (d_cons ?_))
        have hl100 : LdOk [x72.toNat] (.row 1 (a1.map (AV.int .i64))) [x72.toNat * 1] 1 false (i6 (rd a1 x72.toNat)) := (.row (llt hc99) rfl (.nil rfl rfl rfl))
        refine vq (i6 (rd a1 x72.toNat)) (ld_ref (i := ⟨.int .i64, 1, 8, (.int .i64 0)⟩) rfl rfl hl100) hl100.c (d_next (by kernel_rfl) (d_cons ?_))
        obtain ⟨r101, hr102, h⟩ := bind_some h
        refine a_call (args := [(i6 (rd a0 x72.toNat)), (i6 (rd a1 x72.toNat))]) (u := []) (r := (i6 r101)) rfl rfl (cmp_Compare_int64_ok (rd a0 x72.toNat) (rd a1 x72.toNat) r101 hr102) rfl (d_next (by kernel_rfl) (dp (i6 r101) rfl (by kernel_rfl) (d_nil (a_next (σ' := ⟨[(0, (eSi64 a0)), (1, (eSi64 a1)), (6, (i6 x72)), (7, (i6 r101))], []⟩) (by kernel_rfl) (sr (vp (i6 r101) rfl (vp (.bool (r101 != 0)) rfl (nx ⟨[(0, (eSi64 a0)), (1, (eSi64 a1)), (6, (i6 x72)), (7, (i6 r101)), (33, (.bool (r101 != 0)))], []⟩ (by kernel_rfl) ?_))))))))
        cases hb103 : (r101 != 0)
        · have h := ite_f hb103 h
          refine a_cond_f rfl (a_skip (b_norm (a_next (σ' := ⟨[(0, (eSi64 a0)), (1, (eSi64 a1)), (6, (i6 x72))], []⟩) (by kernel_rfl) (a_region (vp (i6 x72) rfl (vp (i6 (IntKind.i64.wrap (x72 - 1))) rfl (vp (i6 (IntKind.i64.wrap (x72 - 1))) rfl (a_nil ?_))))))))
          cases h
          exact a_again (by kernel_rfl) hX89
        · have h := ite_t hb103 h
          refine a_cond_t rfl (sr (vp (i6 r101) rfl (vp (i6 r101) rfl (nx _ rfl (a_ret (b_ret (t_ret ?_)))))))
          cases h
          have h := hX89
          refine t_ret (b_ret (t_ret ?_))
          cases h
          have h := hk55
          refine ⟨.inr rfl, ?_⟩
          rw [Try.results48]
          cases h
          exact ⟨_, _, _, _, _, rfl, trivial, .inl ⟨rfl, .inl rfl⟩, rfl, rfl⟩
  · have h := ite_t hb3 h
    refine a_cond_t rfl (sr (vp (i6 r1) rfl (vp (i6 r1) rfl (nx _ rfl (a_ret (t_ret ?_))))))
    refine ⟨.inr rfl, ?_⟩
    rw [Try.results48]
    cases h
    exact ⟨_, _, _, _, _, rfl, trivial, .inl ⟨rfl, .inl rfl⟩, rfl, rfl⟩
def impl_prime_factors_c1_c : ACode := (.seq (.region 0 [q 2 (.box 55 (t 0)), q 3 (.box 55 (t 1)), q 4 (.asg 0 (.const (.int .i64 0)) 3)] false) (.seq (.region 1 [q 5 (.fieldAddr 55 (t 2) 0), q 6 (.load 39 (t 5)), q 7 (.fieldAddr 55 (t 3) 0), q 8 (.load 39 (t 7)), q 9 (.call 0 (.func 48) [(t 6), (t 8)]), q 4 (.asg 0 (t 9) 3)] false) .ret))
def impl_prime_factors_c1_L : Live := [(0, [0, 1]), (1, [2, 3])]
noncomputable def impl_prime_factors_c1 (a0 : ((List Int) × Int)) (a1 : ((List Int) × Int)) : Option Int :=
  (Option.bind (impl_compare a0.1 a1.1) fun r3 => (some r3))
theorem impl_prime_factors_c1_ok (a0 : ((List Int) × Int)) (a1 : ((List Int) × Int)) (r : Int) (h : impl_prime_factors_c1 a0 a1 = some r) : Den Try.prog 47 [(eT_Si64_i64_Z a0), (eT_Si64_i64_Z a1)] { r := (i6 r) } := by
  refine den_of (rs := [(i6 r)]) (ac := impl_prime_factors_c1_c) (L := impl_prime_factors_c1_L) (n := 10) (m := []) (c := Try.f47.body.getD .skip) good Try.func47 (by kernel_rfl) (by kernel_rfl) Try.ntmps47 rfl rfl (by kernel_rfl) rfl rfl ?_
  refine a_st (σ' := ⟨[(0, (eT_Si64_i64_Z a0)), (1, (eT_Si64_i64_Z a1))], []⟩) (by kernel_rfl) ?_
  unfold impl_prime_factors_c1_c
  refine sr (vo 1200 (eT_Si64_i64_Z a0) rfl rfl (vo 1300 (eT_Si64_i64_Z a1) rfl rfl (vp (i6 0) rfl (nx ⟨[(2, (ow 2)), (3, (ow 3))], [(2, (bk (eT_Si64_i64_Z a0))), (3, (bk (eT_Si64_i64_Z a1)))]⟩ (by kernel_rfl) (sr (vb (.own 2 [0] [0]) rfl rfl ?_))))))
  have hl1 : LdOk [0] (eT_Si64_i64_Z a0) [0] 1 false (eSi64 a0.1) := (.fld rfl rfl rfl rfl (.nil rfl rfl rfl))
  refine vq (eSi64 a0.1) (ld_own (i := ⟨.slice 2, 1, 24, (eSi64 [])⟩) rfl rfl rfl hl1) hl1.c (vb (.own 3 [0] [0]) rfl rfl ?_)
  have hl2 : LdOk [0] (eT_Si64_i64_Z a1) [0] 1 false (eSi64 a1.1) := (.fld rfl rfl rfl rfl (.nil rfl rfl rfl))
  refine vq (eSi64 a1.1) (ld_own (i := ⟨.slice 2, 1, 24, (eSi64 [])⟩) rfl rfl rfl hl2) hl2.c ?_
  obtain ⟨r3, hr4, h⟩ := bind_some h
  refine a_call (args := [(eSi64 a0.1), (eSi64 a1.1)]) (u := []) (r := (i6 r3)) rfl rfl (impl_compare_ok a0.1 a1.1 r3 hr4) rfl (vp (i6 r3) rfl (nx _ rfl (a_ret ?_)))
  refine ⟨.inr rfl, ?_⟩
  rw [Try.results47]
  cases h
  exact ⟨_, _, _, _, _, rfl, trivial, .inl ⟨rfl, .inl rfl⟩, rfl, rfl⟩
def slices_insertionSortCmpFunc_impl_factor_of_mut_impl_prime_factors_c1_c : ACode := (.seq (.region 0 [q 10 (.mov (t 1)), q 11 (.bin .add 3 (t 10) (.const (.int .i64 1))), q 8 (.asg 0 (t 11) 3)] false) (.block 0 (.loop (.seq (.seq (.region 1 [q 12 (.mov (t 8)), q 13 (.mov (t 2)), q 14 (.bin .lss 3 (t 12) (t 13))] false) (.cond (t 14) .skip (.exit 0))) (.seq (.block 1 (.seq (.region 3 [q 17 (.mov (t 8)), q 9 (.asg 0 (t 17) 3)] false) (.block 2 (.loop (.seq (.seq (.region 4 [q 18 (.mov (t 9)), q 19 (.mov (t 1)), ⟨some 20, .bin .gtr 3 (t 18) (t 19), none, [0, 1]⟩, ⟨some 21, .mov (t 20), none, [2]⟩, ⟨some 22, .mov (t 3), some (21, true), [3]⟩, ⟨some 23, .mov (t 0), some (21, true), [3]⟩, ⟨some 24, .mov (t 9), some (21, true), [3]⟩, ⟨some 25, .indexAddr 52 (t 23) (t 24), some (21, true), [5, 6, 3]⟩, ⟨some 26, .load 55 (t 25), some (21, true), [7, 3]⟩, ⟨some 27, .mov (t 0), some (21, true), [3]⟩, ⟨some 28, .mov (t 9), some (21, true), [3]⟩, ⟨some 29, .bin .sub 3 (t 28) (.const (.int .i64 1)), some (21, true), [10, 3]⟩, ⟨some 30, .indexAddr 52 (t 27) (t 29), some (21, true), [9, 11, 3]⟩, ⟨some 31, .load 55 (t 30), some (21, true), [12, 3]⟩, ⟨some 32, .call 0 (t 22) [(t 26), (t 31)], some (21, true), [4, 8, 13, 3, 3]⟩, ⟨some 33, .bin .lss 3 (t 32) (.const (.int .i64 0)), some (21, true), [14, 3]⟩, ⟨some 34, .pick (t 21) (t 33) (.const (.bool false)), none, [3, 15]⟩] true) (.cond (t 34) .skip (.exit 2))) (.seq (.block 3 (.region 6 [q 37 (.mov (t 0)), q 38 (.mov (t 9)), q 39 (.mov (t 0)), q 40 (.mov (t 9)), ⟨some 41, .bin .sub 3 (t 40) (.const (.int .i64 1)), none, [3]⟩, q 42 (.mov (t 0)), q 43 (.mov (t 9)), ⟨some 44, .bin .sub 3 (t 43) (.const (.int .i64 1)), none, [6]⟩, ⟨some 45, .indexAddr 52 (t 42) (t 44), none, [5, 7]⟩, ⟨some 46, .load 55 (t 45), none, [8]⟩, q 47 (.mov (t 0)), q 48 (.mov (t 9)), ⟨some 49, .indexAddr 52 (t 47) (t 48), none, [10, 11]⟩, ⟨some 50, .load 55 (t 49), none, [12]⟩, ⟨some 51, .indexAddr 52 (t 37) (t 38), none, [0, 1, 0, 1, 5, 6, 7, 8, 9, 13]⟩, ⟨none, .store 55 (t 51) (t 46), none, [14, 9, 0, 1, 5, 6, 7, 8, 9, 13]⟩, ⟨some 52, .indexAddr 52 (t 39) (t 41), none, [2, 4, 0, 1, 2, 3, 4, 5, 6, 7, 8, 9, 10, 11, 12, 13, 14, 15]⟩, ⟨none, .store 55 (t 52) (t 50), none, [16, 13, 15, 0, 1, 2, 3, 4, 5, 6, 7, 8, 9, 10, 11, 12, 13, 14, 15]⟩] true)) (.region 5 [q 35 (.mov (t 9)), q 36 (.bin .sub 3 (t 35) (.const (.int .i64 1))), q 9 (.asg 0 (t 36) 3)] false))))))) (.region 2 [q 15 (.mov (t 8)), q 16 (.bin .add 3 (t 15) (.const (.int .i64 1))), q 8 (.asg 0 (t 16) 3)] false))))))
def slices_insertionSortCmpFunc_impl_factor_of_mut_impl_prime_factors_c1_L : Live := [(0, [0, 1, 2, 3]), (1, [0, 1, 2, 3, 8]), (2, [0, 1, 2, 3, 8]), (3, [0, 1, 2, 3, 8]), (4, [0, 1, 2, 3, 8, 9]), (5, [0, 1, 2, 3, 8, 9]), (6, [0, 1, 2, 3, 8, 9]), (100014, [0, 1, 2, 3, 8, 14]), (100034, [0, 1, 2, 3, 8, 9, 34])]
noncomputable def slices_insertionSortCmpFunc_impl_factor_of_mut_impl_prime_factors_c1_l2 (a1 : Int) (x859 : Int) (x860 : (List ((List Int) × Int))) : Option ((Int × (List ((List Int) × Int))) ⊕ (List ((List Int) × Int))) :=
  (Option.bind (α := Bool) ((if (decide (x859 > a1)) then (ifp (0 ≤ x859 ∧ x859 < ((x860.length : Nat) : Int)) ((ifp (0 ≤ IntKind.i64.wrap (x859 - 1) ∧ IntKind.i64.wrap (x859 - 1) < ((x860.length : Nat) : Int)) ((Option.bind (impl_prime_factors_c1 (rd x860 x859.toNat) ((rd x860 (IntKind.i64.wrap (x859 - 1)).toNat))) fun r943 => (some ((decide (r943 < 0))))))))) else (some false))) fun x927 => (if x927 then (ifp (0 ≤ IntKind.i64.wrap (x859 - 1) ∧ IntKind.i64.wrap (x859 - 1) < ((x860.length : Nat) : Int)) ((ifp (0 ≤ x859 ∧ x859 < ((x860.length : Nat) : Int)) ((ifp (0 ≤ x859 ∧ x859 < ((x860.length : Nat) : Int)) ((ifp (0 ≤ IntKind.i64.wrap (x859 - 1) ∧ IntKind.i64.wrap (x859 - 1) < ((((x860.set x859.toNat ((rd x860 (IntKind.i64.wrap (x859 - 1)).toNat)))).length : Nat) : Int)) ((some (.inl ((IntKind.i64.wrap (x859 - 1), (((x860.set x859.toNat ((rd x860 (IntKind.i64.wrap (x859 - 1)).toNat)))).set (IntKind.i64.wrap (x859 - 1)).toNat (rd x860 x859.toNat)))))))))))))) else (some (.inr x860))))
noncomputable def slices_insertionSortCmpFunc_impl_factor_of_mut_impl_prime_factors_c1_l1 (a2 : Int) (a1 : Int) (x336 : Int) (x337 : (List ((List Int) × Int))) : Option ((Int × (List ((List Int) × Int))) ⊕ (List ((List Int) × Int))) :=
  (if (decide (x336 < a2)) then (Option.bind (α := (List ((List Int) × Int))) ((loopM (fun s : (Int × (List ((List Int) × Int))) => slices_insertionSortCmpFunc_impl_factor_of_mut_impl_prime_factors_c1_l2 a1 s.1 s.2) (x336, x337))) fun x806 => (some (.inl ((IntKind.i64.wrap (x336 + 1), x806))))) else (some (.inr x337)))
noncomputable def slices_insertionSortCmpFunc_impl_factor_of_mut_impl_prime_factors_c1 (a0 : (List ((List Int) × Int))) (a1 : Int) (a2 : Int) : Option (List ((List Int) × Int)) :=
  (loopM (fun s : (Int × (List ((List Int) × Int))) => slices_insertionSortCmpFunc_impl_factor_of_mut_impl_prime_factors_c1_l1 a2 a1 s.1 s.2) (IntKind.i64.wrap (a1 + 1), a0))
theorem slices_insertionSortCmpFunc_impl_factor_of_mut_impl_prime_factors_c1_ok (a0 : (List ((List Int) × Int))) (a1 : Int) (a2 : Int) (r : (List ((List Int) × Int))) (h : slices_insertionSortCmpFunc_impl_factor_of_mut_impl_prime_factors_c1 a0 a1 a2 = some r) : Den Try.prog 64 [(.mutsl 2 (a0.map eT_Si64_i64_Z)), (i6 a1), (i6 a2), (.clo 47 [] [])] { r := (.tuple []), ms := [(.row 2 (r.map eT_Si64_i64_Z))], fs := [] } := by
  refine den_ofX (rs := []) (ac := slices_insertionSortCmpFunc_impl_factor_of_mut_impl_prime_factors_c1_c) (L := slices_insertionSortCmpFunc_impl_factor_of_mut_impl_prime_factors_c1_L) (n := 53) (m := []) (c := Try.f64.body.getD .skip) good Try.func64 (by kernel_rfl) (by kernel_rfl) Try.ntmps64 rfl rfl (by kernel_rfl) rfl ?_
  refine a_st (σ' := ⟨[(0, (.osl 1000000)), (1, (i6 a1)), (2, (i6 a2)), (3, (.clo 47 [] []))], [(1000000, (bk (.row 2 (a0.map eT_Si64_i64_Z))))]⟩) (by kernel_rfl) ?_
  unfold slices_insertionSortCmpFunc_impl_factor_of_mut_impl_prime_factors_c1_c
  refine sr (vp (i6 a1) rfl (vp (i6 (IntKind.i64.wrap (a1 + 1))) rfl (vp (i6 (IntKind.i64.wrap (a1 + 1))) rfl (nx ⟨[(0, (.osl 1000000)), (1, (i6 a1)), (2, (i6 a2)), (3, (.clo 47 [] [])), (8, (i6 (IntKind.i64.wrap (a1 + 1))))], [(1000000, (bk (.row 2 (a0.map eT_Si64_i64_Z))))]⟩ (by kernel_rfl) (a_block ?_)))))
  refine a_loop (emb := fun (s : (Int × (List ((List Int) × Int)))) => ⟨[(0, (.osl 1000000)), (1, (i6 a1)), (2, (i6 a2)), (3, (.clo 47 [] [])), (8, (i6 s.1))], [(1000000, (bk (.row 2 (s.2.map eT_Si64_i64_Z))))]⟩) (body := (fun s : (Int × (List ((List Int) × Int))) => slices_insertionSortCmpFunc_impl_factor_of_mut_impl_prime_factors_c1_l1 a2 a1 s.1 s.2)) (G := fun q => some q = some r) h rfl ?_ (by kernel_rfl)
  rintro X649 ⟨x336, x337⟩ x650 h hX651
  have h : slices_insertionSortCmpFunc_impl_factor_of_mut_impl_prime_factors_c1_l1 a2 a1 x336 x337 = some x650 := h
  refine a_st (σ' := ⟨[(0, (.osl 1000000)), (1, (i6 a1)), (2, (i6 a2)), (3, (.clo 47 [] [])), (8, (i6 x336))], [(1000000, (bk (.row 2 (x337.map eT_Si64_i64_Z))))]⟩) (by kernel_rfl) (a_seq (sr (vp (i6 x336) rfl (vp (i6 a2) rfl (vp (.bool ((decide (x336 < a2)))) rfl (nx ⟨[(0, (.osl 1000000)), (1, (i6 a1)), (2, (i6 a2)), (3, (.clo 47 [] [])), (8, (i6 x336)), (14, (.bool ((decide (x336 < a2)))))], [(1000000, (bk (.row 2 (x337.map eT_Si64_i64_Z))))]⟩ (by kernel_rfl) ?_))))))
  cases hb652 : (decide (x336 < a2))
  · have h := ite_f hb652 h
    refine a_cond_f rfl (a_exit (t_exit ?_))
    cases h
    have h := hX651
    refine t_exit (b_exit ?_)
    refine ⟨.inl rfl, ?_⟩
    rw [Try.results64]
    cases h
    exact ⟨[], ⟨rfl, rfl, rfl⟩, rfl, ⟨_, _, rfl, rfl, rfl⟩⟩
  · have h := ite_t hb652 h
    refine a_cond_t rfl (a_skip (a_next (σ' := ⟨[(0, (.osl 1000000)), (1, (i6 a1)), (2, (i6 a2)), (3, (.clo 47 [] [])), (8, (i6 x336))], [(1000000, (bk (.row 2 (x337.map eT_Si64_i64_Z))))]⟩) (by kernel_rfl) ?_))
    obtain ⟨y807, hy808, hk809⟩ := bind_some h
    clear h
    refine a_join (emb := fun (s : (List ((List Int) × Int))) => ⟨[(0, (.osl 1000000)), (1, (i6 a1)), (2, (i6 a2)), (3, (.clo 47 [] [])), (8, (i6 x336))], [(1000000, (bk (.row 2 (s.map eT_Si64_i64_Z))))]⟩) (pre := fun s => s = y807) ?_ ?_
    · rintro x806 rfl
      have h := hk809
      refine a_st (σ' := ⟨[(0, (.osl 1000000)), (1, (i6 a1)), (2, (i6 a2)), (3, (.clo 47 [] [])), (8, (i6 x336))], [(1000000, (bk (.row 2 (x806.map eT_Si64_i64_Z))))]⟩) (by kernel_rfl) (a_region (vp (i6 x336) rfl (vp (i6 (IntKind.i64.wrap (x336 + 1))) rfl (vp (i6 (IntKind.i64.wrap (x336 + 1))) rfl (a_nil ?_)))))
      cases h
      exact a_again (by kernel_rfl) hX651
    · have h := hy808
      refine a_block (sr (vp (i6 x336) rfl (vp (i6 x336) rfl (nx ⟨[(0, (.osl 1000000)), (1, (i6 a1)), (2, (i6 a2)), (3, (.clo 47 [] [])), (8, (i6 x336)), (9, (i6 x336))], [(1000000, (bk (.row 2 (x337.map eT_Si64_i64_Z))))]⟩ (by kernel_rfl) (a_block ?_)))))
      refine a_loop (emb := fun (s : (Int × (List ((List Int) × Int)))) => ⟨[(0, (.osl 1000000)), (1, (i6 a1)), (2, (i6 a2)), (3, (.clo 47 [] [])), (8, (i6 x336)), (9, (i6 s.1))], [(1000000, (bk (.row 2 (s.2.map eT_Si64_i64_Z))))]⟩) (body := (fun s : (Int × (List ((List Int) × Int))) => slices_insertionSortCmpFunc_impl_factor_of_mut_impl_prime_factors_c1_l2 a1 s.1 s.2)) (G := fun q => some q = some y807) h rfl ?_ (by kernel_rfl)
      rintro X910 ⟨x859, x860⟩ x911 h hX912
      have h : slices_insertionSortCmpFunc_impl_factor_of_mut_impl_prime_factors_c1_l2 a1 x859 x860 = some x911 := h
      refine a_st (σ' := ⟨[(0, (.osl 1000000)), (1, (i6 a1)), (2, (i6 a2)), (3, (.clo 47 [] [])), (8, (i6 x336)), (9, (i6 x859))], [(1000000, (bk (.row 2 (x860.map eT_Si64_i64_Z))))]⟩) (by kernel_rfl) (a_seq ?_)
      obtain ⟨y928, hy929, hk930⟩ := bind_some h
      clear h
      refine a_join (emb := fun (s : Bool) => ⟨[(0, (.osl 1000000)), (1, (i6 a1)), (2, (i6 a2)), (3, (.clo 47 [] [])), (8, (i6 x336)), (9, (i6 x859)), (34, (.bool s))], [(1000000, (bk (.row 2 (x860.map eT_Si64_i64_Z))))]⟩) (pre := fun s => s = y928) ?_ ?_
      · rintro x927 rfl
        have h := hk930
        refine a_st (σ' := ⟨[(0, (.osl 1000000)), (1, (i6 a1)), (2, (i6 a2)), (3, (.clo 47 [] [])), (8, (i6 x336)), (9, (i6 x859)), (34, (.bool x927))], [(1000000, (bk (.row 2 (x860.map eT_Si64_i64_Z))))]⟩) (by kernel_rfl) ?_
        cases hb945 : x927
        · have h := ite_f hb945 h
          refine a_cond_f rfl (a_exit (t_exit ?_))
          cases h
          have h := hX912
          refine t_exit (b_exit (b_norm ?_))
          exact j_leaf x860 (Option.some.inj h) (by kernel_rfl)
        · have h := ite_t hb945 h
          refine a_cond_t rfl (a_skip (a_next (σ' := ⟨[(0, (.osl 1000000)), (1, (i6 a1)), (2, (i6 a2)), (3, (.clo 47 [] [])), (8, (i6 x336)), (9, (i6 x859))], [(1000000, (bk (.row 2 (x860.map eT_Si64_i64_Z))))]⟩) (by kernel_rfl) (a_seq (a_block (a_draw [⟨[], [], [1000000], []⟩, ⟨[], [], [], []⟩, ⟨[], [], [1000000], []⟩, ⟨[], [], [], []⟩, ⟨[], [], [], [3]⟩, ⟨[], [], [1000000], []⟩, ⟨[], [], [], []⟩, ⟨[], [], [], [6]⟩, ⟨[1000000], [], [1000000], [5, 6, 7]⟩, ⟨[1000000], [], [], [5, 6, 7, 8]⟩, ⟨[], [], [1000000], []⟩, ⟨[], [], [], []⟩, ⟨[1000000], [], [1000000], [10, 11]⟩, ⟨[1000000], [], [], [10, 11, 12]⟩, ⟨[1000000], [], [1000000], [0, 1, 5, 6, 7, 8, 9, 10, 11, 12, 13]⟩, ⟨[1000000], [1000000], [], [0, 1, 5, 6, 7, 8, 9, 10, 11, 12, 13, 14]⟩, ⟨[1000000], [], [1000000], [0, 1, 2, 3, 4, 5, 6, 7, 8, 9, 10, 11, 12, 13, 14, 15]⟩, ⟨[1000000], [1000000], [], [0, 1, 2, 3, 4, 5, 6, 7, 8, 9, 10, 11, 12, 13, 14, 15, 16]⟩] (by kernel_rfl) (dp (.osl 1000000) rfl (by kernel_rfl) (dp (i6 x859) rfl (by kernel_rfl) (dp (.osl 1000000) rfl (by kernel_rfl) (dp (i6 x859) rfl (by kernel_rfl) ?_)))))))))
          refine dp (i6 (IntKind.i64.wrap (x859 - 1))) rfl (by kernel_rfl) (dp (.osl 1000000) rfl (by kernel_rfl) (dp (i6 x859) rfl (by kernel_rfl) (dp (i6 (IntKind.i64.wrap (x859 - 1))) rfl (by kernel_rfl) (d_cons ?_))))
          obtain ⟨hc954, h⟩ := ifp_some h
          refine vq (.own 1000000 [(IntKind.i64.wrap (x859 - 1)).toNat] [(IntKind.i64.wrap (x859 - 1)).toNat * 2]) rfl (lmap hc954) (d_next (by kernel_rfl) (d_cons ?_))
          have hl955 : LdOk [(IntKind.i64.wrap (x859 - 1)).toNat] (.row 2 (x860.map eT_Si64_i64_Z)) [(IntKind.i64.wrap (x859 - 1)).toNat * 2] 2 true (eT_Si64_i64_Z ((rd x860 (IntKind.i64.wrap (x859 - 1)).toNat))) := (.row (llt hc954) rfl (.nil rfl rfl rfl))
          refine vq (eT_Si64_i64_Z ((rd x860 (IntKind.i64.wrap (x859 - 1)).toNat))) (ld_own (i := ⟨.struct [(0, 39), (1, 2)], 2, 32, (eT_Si64_i64_Z ([], (0 : Int)))⟩) rfl rfl rfl hl955) hl955.c (d_next (by kernel_rfl) (dp (.osl 1000000) rfl (by kernel_rfl) (dp (i6 x859) rfl (by kernel_rfl) (d_cons ?_))))
          obtain ⟨hc956, h⟩ := ifp_some h
          refine vq (.own 1000000 [x859.toNat] [x859.toNat * 2]) rfl (lmap hc956) (d_next (by kernel_rfl) (d_cons ?_))
          have hl957 : LdOk [x859.toNat] (.row 2 (x860.map eT_Si64_i64_Z)) [x859.toNat * 2] 2 true (eT_Si64_i64_Z (rd x860 x859.toNat)) := (.row (llt hc956) rfl (.nil rfl rfl rfl))
          refine vq (eT_Si64_i64_Z (rd x860 x859.toNat)) (ld_own (i := ⟨.struct [(0, 39), (1, 2)], 2, 32, (eT_Si64_i64_Z ([], (0 : Int)))⟩) rfl rfl rfl hl957) hl957.c (d_next (by kernel_rfl) (d_cons ?_))
          obtain ⟨hc958, h⟩ := ifp_some h
          refine vq (.own 1000000 [x859.toNat] [x859.toNat * 2]) rfl (lmap hc958) (d_next (by kernel_rfl) (d_cons ?_))
          have hs959 : StOk [x859.toNat] (.row 2 (x860.map eT_Si64_i64_Z)) [x859.toNat * 2] 2 (eT_Si64_i64_Z ((rd x860 (IntKind.i64.wrap (x859 - 1)).toNat))) (.row 2 (((x860.set x859.toNat ((rd x860 (IntKind.i64.wrap (x859 - 1)).toNat)))).map eT_Si64_i64_Z)) := (.row (y := (rd x860 (IntKind.i64.wrap (x859 - 1)).toNat)) (llt hc958) rfl (.nil rfl rfl rfl rfl))
          refine vu .top [(1000000, (bk (.row 2 (((x860.set x859.toNat ((rd x860 (IntKind.i64.wrap (x859 - 1)).toNat)))).map eT_Si64_i64_Z))))] (st_own (i := ⟨.struct [(0, 39), (1, 2)], 2, 32, (eT_Si64_i64_Z ([], (0 : Int)))⟩) rfl rfl (fun _ => rfl) rfl hs959) (hs959.c rfl) rfl (d_next (by kernel_rfl) (d_cons ?_))
          obtain ⟨hc960, h⟩ := ifp_some h
          refine vq (.own 1000000 [(IntKind.i64.wrap (x859 - 1)).toNat] [(IntKind.i64.wrap (x859 - 1)).toNat * 2]) rfl (lmap hc960) (d_next (by kernel_rfl) (d_cons ?_))
          have hs961 : StOk [(IntKind.i64.wrap (x859 - 1)).toNat] (.row 2 (((x860.set x859.toNat ((rd x860 (IntKind.i64.wrap (x859 - 1)).toNat)))).map eT_Si64_i64_Z)) [(IntKind.i64.wrap (x859 - 1)).toNat * 2] 2 (eT_Si64_i64_Z (rd x860 x859.toNat)) (.row 2 (((((x860.set x859.toNat ((rd x860 (IntKind.i64.wrap (x859 - 1)).toNat)))).set (IntKind.i64.wrap (x859 - 1)).toNat (rd x860 x859.toNat))).map eT_Si64_i64_Z)) := (.row (y := (rd x860 x859.toNat)) (llt hc960) rfl (.nil rfl rfl rfl rfl))
          refine vu .top [(1000000, (bk (.row 2 (((((x860.set x859.toNat ((rd x860 (IntKind.i64.wrap (x859 - 1)).toNat)))).set (IntKind.i64.wrap (x859 - 1)).toNat (rd x860 x859.toNat))).map eT_Si64_i64_Z))))] (st_own (i := ⟨.struct [(0, 39), (1, 2)], 2, 32, (eT_Si64_i64_Z ([], (0 : Int)))⟩) rfl rfl (fun _ => rfl) rfl hs961) (hs961.c rfl) rfl (d_next (by kernel_rfl) (d_nil (b_norm (a_next (σ' := ⟨[(0, (.osl 1000000)), (1, (i6 a1)), (2, (i6 a2)), (3, (.clo 47 [] [])), (8, (i6 x336)), (9, (i6 x859))], [(1000000, (bk (.row 2 (((((x860.set x859.toNat ((rd x860 (IntKind.i64.wrap (x859 - 1)).toNat)))).set (IntKind.i64.wrap (x859 - 1)).toNat (rd x860 x859.toNat))).map eT_Si64_i64_Z))))]⟩) (by kernel_rfl) (a_region (vp (i6 x859) rfl (vp (i6 (IntKind.i64.wrap (x859 - 1))) rfl (vp (i6 (IntKind.i64.wrap (x859 - 1))) rfl (a_nil ?_)))))))))
          cases h
          exact a_again (by kernel_rfl) hX912
      · have h := hy929
        refine a_draw [⟨[], [], [], []⟩, ⟨[], [], [], []⟩, ⟨[], [], [], [0, 1]⟩, ⟨[], [], [], [0, 1, 2]⟩, ⟨[], [], [], [0, 1, 2, 3]⟩, ⟨[], [], [1000000], [0, 1, 2, 3]⟩, ⟨[], [], [], [0, 1, 2, 3]⟩, ⟨[1000000], [], [1000000], [0, 1, 2, 3, 5, 6]⟩, ⟨[1000000], [], [], [0, 1, 2, 3, 5, 6, 7]⟩, ⟨[], [], [1000000], [0, 1, 2, 3]⟩, ⟨[], [], [], [0, 1, 2, 3]⟩, ⟨[], [], [], [0, 1, 2, 3, 10]⟩, ⟨[1000000], [], [1000000], [0, 1, 2, 3, 9, 10, 11]⟩, ⟨[1000000], [], [], [0, 1, 2, 3, 9, 10, 11, 12]⟩, ⟨[], [], [], [0, 1, 2, 3, 4, 5, 6, 7, 8, 9, 10, 11, 12, 13]⟩, ⟨[], [], [], [0, 1, 2, 3, 4, 5, 6, 7, 8, 9, 10, 11, 12, 13, 14]⟩, ⟨[], [], [], [0, 1, 2, 3, 4, 5, 6, 7, 8, 9, 10, 11, 12, 13, 14, 15]⟩] (by kernel_rfl) (dp (i6 x859) rfl (by kernel_rfl) (dp (i6 a1) rfl (by kernel_rfl) (dp (.bool ((decide (x859 > a1)))) rfl (by kernel_rfl) (dp (.bool ((decide (x859 > a1)))) rfl (by kernel_rfl) ?_))))
        cases hb938 : (decide (x859 > a1))
        · have h := ite_f hb938 h
          refine dk rfl (by kernel_rfl) (dk rfl (by kernel_rfl) (dk rfl (by kernel_rfl) (dk rfl (by kernel_rfl) (dk rfl (by kernel_rfl) (dk rfl (by kernel_rfl) (dk rfl (by kernel_rfl) (dk rfl (by kernel_rfl) (dk rfl (by kernel_rfl) (dk rfl (by kernel_rfl) ?_)))))))))
          refine dk rfl (by kernel_rfl) (dk rfl (by kernel_rfl) (dp (.bool false) rfl (by kernel_rfl) (d_nil ?_)))
          exact j_leaf false (Option.some.inj h) (by kernel_rfl)
        · have h := ite_t hb938 h
          refine dg (.clo 47 [] []) rfl rfl (by kernel_rfl) (dg (.osl 1000000) rfl rfl (by kernel_rfl) (dg (i6 x859) rfl rfl (by kernel_rfl) (d_cons ?_)))
          obtain ⟨hc939, h⟩ := ifp_some h
          refine gq (.own 1000000 [x859.toNat] [x859.toNat * 2]) rfl rfl (lmap hc939) (d_next (by kernel_rfl) (d_cons ?_))
          have hl940 : LdOk [x859.toNat] (.row 2 (x860.map eT_Si64_i64_Z)) [x859.toNat * 2] 2 true (eT_Si64_i64_Z (rd x860 x859.toNat)) := (.row (llt hc939) rfl (.nil rfl rfl rfl))
          refine gq (eT_Si64_i64_Z (rd x860 x859.toNat)) rfl (ld_own (i := ⟨.struct [(0, 39), (1, 2)], 2, 32, (eT_Si64_i64_Z ([], (0 : Int)))⟩) rfl rfl rfl hl940) hl940.c (d_next (by kernel_rfl) (dg (.osl 1000000) rfl rfl (by kernel_rfl) (dg (i6 x859) rfl rfl (by kernel_rfl) (dg (i6 (IntKind.i64.wrap (x859 - 1))) rfl rfl (by kernel_rfl) (d_cons ?_)))))
          obtain ⟨hc941, h⟩ := ifp_some h
          refine gq (.own 1000000 [(IntKind.i64.wrap (x859 - 1)).toNat] [(IntKind.i64.wrap (x859 - 1)).toNat * 2]) rfl rfl (lmap hc941) (d_next (by kernel_rfl) (d_cons ?_))
          have hl942 : LdOk [(IntKind.i64.wrap (x859 - 1)).toNat] (.row 2 (x860.map eT_Si64_i64_Z)) [(IntKind.i64.wrap (x859 - 1)).toNat * 2] 2 true (eT_Si64_i64_Z ((rd x860 (IntKind.i64.wrap (x859 - 1)).toNat))) := (.row (llt hc941) rfl (.nil rfl rfl rfl))
          refine gq (eT_Si64_i64_Z ((rd x860 (IntKind.i64.wrap (x859 - 1)).toNat))) rfl (ld_own (i := ⟨.struct [(0, 39), (1, 2)], 2, 32, (eT_Si64_i64_Z ([], (0 : Int)))⟩) rfl rfl rfl hl942) hl942.c (d_next (by kernel_rfl) (d_cons ?_))
          obtain ⟨r943, hr944, h⟩ := bind_some h
          refine a_gcall rfl (args := [(eT_Si64_i64_Z (rd x860 x859.toNat)), (eT_Si64_i64_Z ((rd x860 (IntKind.i64.wrap (x859 - 1)).toNat)))]) (u := []) (r := (i6 r943)) rfl rfl (impl_prime_factors_c1_ok (rd x860 x859.toNat) ((rd x860 (IntKind.i64.wrap (x859 - 1)).toNat)) r943 hr944) rfl (d_next (by kernel_rfl) (dg (.bool ((decide (r943 < 0)))) rfl rfl (by kernel_rfl) (dp (.bool ((decide (r943 < 0)))) rfl (by kernel_rfl) (d_nil ?_))))
          exact j_leaf ((decide (r943 < 0))) (Option.some.inj h) (by kernel_rfl)
def slices_pdqsortCmpFunc_impl_factor_of_mut_impl_prime_factors_c1_c : ACode := (.seq (.region 0 [q 10 (.asg 0 (.const (.bool true)) 4)] false) (.seq (.region 1 [q 11 (.asg 0 (.const (.bool true)) 4)] false) (.block 0 (.loop (.block 1 (.seq (.region 2 [q 21 (.mov (t 2)), q 22 (.mov (t 1)), q 23 (.bin .sub 3 (t 21) (t 22)), q 12 (.asg 0 (t 23) 3)] false) (.seq (.seq (.region 3 [q 24 (.mov (t 12)), q 25 (.bin .leq 3 (t 24) (.const (.int .i64 12)))] false) (.cond (t 25) (.seq (.region 4 [q 26 (.mov (t 0)), q 27 (.mov (t 1)), q 28 (.mov (t 2)), q 29 (.mov (t 4)), q 30 (.call 1 (.func 64) [(t 26), (t 27), (t 28), (t 29)])] false) .ret) .skip)) (.seq (.seq (.region 5 [q 31 (.mov (t 3)), q 32 (.bin .eql 3 (t 31) (.const (.int .i64 0)))] false) (.cond (t 32) (.seq (.region 6 [q 33 (.mov (t 0)), q 34 (.mov (t 1)), q 35 (.mov (t 2)), q 36 (.mov (t 4)), q 37 (.call 1 (.func 65) [(t 33), (t 34), (t 35), (t 36)])] false) .ret) .skip)) (.seq (.seq (.region 7 [q 38 (.mov (t 10)), q 39 (.un .not (t 38))] false) (.cond (t 39) (.seq (.region 8 [q 40 (.mov (t 0)), q 41 (.mov (t 1)), q 42 (.mov (t 2)), q 43 (.mov (t 4)), q 44 (.call 1 (.func 66) [(t 40), (t 41), (t 42), (t 43)])] false) (.region 9 [q 45 (.mov (t 3)), q 46 (.bin .sub 3 (t 45) (.const (.int .i64 1))), q 3 (.asg 0 (t 46) 3)] false)) .skip)) (.seq (.region 10 [q 48 (.mov (t 0)), q 49 (.mov (t 1)), q 50 (.mov (t 2)), q 51 (.mov (t 4)), q 52 (.call 0 (.func 67) [(t 48), (t 49), (t 50), (t 51)]), q 47 (.mov (t 52)), q 53 (.extract (t 47) 0), q 54 (.extract (t 47) 1), q 13 (.asg 0 (t 53) 3), q 14 (.asg 0 (t 54) 87)] false) (.seq (.seq (.region 11 [q 55 (.mov (t 14)), q 56 (.bin .eql 87 (t 55) (.const (.int .i64 2)))] false) (.cond (t 56) (.seq (.region 12 [q 57 (.mov (t 0)), q 58 (.mov (t 1)), q 59 (.mov (t 2)), q 60 (.mov (t 4)), q 61 (.call 1 (.func 68) [(t 57), (t 58), (t 59), (t 60)])] false) (.seq (.region 13 [q 62 (.mov (t 2)), q 63 (.bin .sub 3 (t 62) (.const (.int .i64 1))), q 64 (.mov (t 13)), q 65 (.mov (t 1)), q 66 (.bin .sub 3 (t 64) (t 65)), q 67 (.bin .sub 3 (t 63) (t 66)), q 13 (.asg 0 (t 67) 3)] false) (.region 14 [q 14 (.asg 0 (.const (.int .i64 1)) 87)] false))) .skip)) (.seq (.seq (.region 15 [q 68 (.mov (t 10)), q 69 (.mov (t 68)), ⟨some 70, .mov (t 11), some (69, true), []⟩, q 71 (.pick (t 69) (t 70) (.const (.bool false))), q 72 (.mov (t 71)), ⟨some 73, .mov (t 14), some (72, true), []⟩, ⟨some 74, .bin .eql 87 (t 73) (.const (.int .i64 1)), some (72, true), []⟩, q 75 (.pick (t 72) (t 74) (.const (.bool false)))] false) (.cond (t 75) (.seq (.region 16 [q 76 (.mov (t 0)), q 77 (.mov (t 1)), q 78 (.mov (t 2)), q 79 (.mov (t 4)), q 80 (.call 1 (.func 69) [(t 76), (t 77), (t 78), (t 79)])] false) (.cond (t 80) .ret .skip)) .skip)) (.seq (.seq (.region 17 [q 81 (.mov (t 1)), ⟨some 82, .bin .gtr 3 (t 81) (.const (.int .i64 0)), none, [0]⟩, ⟨some 83, .mov (t 82), none, [1]⟩, ⟨some 84, .mov (t 4), some (83, true), [2]⟩, ⟨some 85, .mov (t 0), some (83, true), [2]⟩, ⟨some 86, .mov (t 1), some (83, true), [2]⟩, ⟨some 87, .bin .sub 3 (t 86) (.const (.int .i64 1)), some (83, true), [5, 2]⟩, ⟨some 88, .indexAddr 52 (t 85) (t 87), some (83, true), [4, 6, 2]⟩, ⟨some 89, .load 55 (t 88), some (83, true), [7, 2]⟩, ⟨some 90, .mov (t 0), some (83, true), [2]⟩, ⟨some 91, .mov (t 13), some (83, true), [2]⟩, ⟨some 92, .indexAddr 52 (t 90) (t 91), some (83, true), [9, 10, 2]⟩, ⟨some 93, .load 55 (t 92), some (83, true), [11, 2]⟩, ⟨some 94, .call 0 (t 84) [(t 89), (t 93)], some (83, true), [3, 8, 12, 2, 2]⟩, ⟨some 95, .bin .lss 3 (t 94) (.const (.int .i64 0)), some (83, true), [13, 2]⟩, ⟨some 96, .un .not (t 95), some (83, true), [14, 2]⟩, ⟨some 97, .pick (t 83) (t 96) (.const (.bool false)), none, [2, 15]⟩] true) (.cond (t 97) (.seq (.region 18 [q 98 (.mov (t 0)), q 99 (.mov (t 1)), q 100 (.mov (t 2)), q 101 (.mov (t 13)), q 102 (.mov (t 4)), q 103 (.call 1 (.func 70) [(t 98), (t 99), (t 100), (t 101), (t 102)]), q 15 (.asg 0 (t 103) 3)] false) (.seq (.region 19 [q 104 (.mov (t 15)), q 1 (.asg 0 (t 104) 3)] false) (.exit 1))) .skip)) (.seq (.region 20 [q 106 (.mov (t 0)), q 107 (.mov (t 1)), q 108 (.mov (t 2)), q 109 (.mov (t 13)), q 110 (.mov (t 4)), q 111 (.call 1 (.func 71) [(t 106), (t 107), (t 108), (t 109), (t 110)]), q 105 (.mov (t 111)), q 112 (.extract (t 105) 0), q 113 (.extract (t 105) 1), q 16 (.asg 0 (t 112) 3), q 17 (.asg 0 (t 113) 4)] false) (.seq (.region 21 [q 114 (.mov (t 17)), q 11 (.asg 0 (t 114) 4)] false) (.seq (.region 22 [q 115 (.mov (t 16)), q 116 (.mov (t 1)), q 117 (.bin .sub 3 (t 115) (t 116)), q 118 (.mov (t 2)), q 119 (.mov (t 16)), q 120 (.bin .sub 3 (t 118) (t 119)), q 18 (.asg 0 (t 117) 3), q 19 (.asg 0 (t 120) 3)] false) (.seq (.region 23 [q 121 (.mov (t 12)), q 122 (.bin .quo 3 (t 121) (.const (.int .i64 8))), q 20 (.asg 0 (t 122) 3)] false) (.seq (.region 24 [q 123 (.mov (t 18)), q 124 (.mov (t 19)), q 125 (.bin .lss 3 (t 123) (t 124))] false) (.cond (t 125) (.seq (.region 25 [q 126 (.mov (t 18)), q 127 (.mov (t 20)), q 128 (.bin .geq 3 (t 126) (t 127)), q 10 (.asg 0 (t 128) 4)] false) (.seq (.region 26 [q 129 (.mov (t 0)), q 130 (.mov (t 1)), q 131 (.mov (t 16)), q 132 (.mov (t 3)), q 133 (.mov (t 4)), q 134 (.call 1 (.func 59) [(t 129), (t 130), (t 131), (t 132), (t 133)])] false) (.region 27 [q 135 (.mov (t 16)), q 136 (.bin .add 3 (t 135) (.const (.int .i64 1))), q 1 (.asg 0 (t 136) 3)] false))) (.seq (.region 28 [q 137 (.mov (t 19)), q 138 (.mov (t 20)), q 139 (.bin .geq 3 (t 137) (t 138)), q 10 (.asg 0 (t 139) 4)] false) (.seq (.region 29 [q 140 (.mov (t 0)), q 141 (.mov (t 16)), q 142 (.bin .add 3 (t 141) (.const (.int .i64 1))), q 143 (.mov (t 2)), q 144 (.mov (t 3)), q 145 (.mov (t 4)), q 146 (.call 1 (.func 59) [(t 140), (t 142), (t 143), (t 144), (t 145)])] false) (.region 30 [q 147 (.mov (t 16)), q 2 (.asg 0 (t 147) 3)] false))))))))))))))))))))))
def slices_pdqsortCmpFunc_impl_factor_of_mut_impl_prime_factors_c1_L : Live := [(0, [0, 1, 2, 3, 4]), (1, [0, 1, 2, 3, 4, 10]), (2, [0, 1, 2, 3, 4, 10, 11]), (3, [0, 1, 2, 3, 4, 10, 11, 12]), (4, [0, 1, 2, 4]), (5, [0, 1, 2, 3, 4, 10, 11, 12]), (6, [0, 1, 2, 4]), (7, [0, 1, 2, 3, 4, 10, 11, 12]), (8, [0, 1, 2, 3, 4, 10, 11, 12]), (9, [0, 1, 2, 3, 4, 10, 11, 12]), (10, [0, 1, 2, 3, 4, 10, 11, 12]), (11, [0, 1, 2, 3, 4, 10, 11, 12, 13, 14]), (12, [0, 1, 2, 3, 4, 10, 11, 12, 13]), (13, [0, 1, 2, 3, 4, 10, 11, 12, 13]), (14, [0, 1, 2, 3, 4, 10, 11, 12, 13]), (15, [0, 1, 2, 3, 4, 10, 11, 12, 13, 14]), (16, [0, 1, 2, 3, 4, 10, 11, 12, 13]), (17, [0, 1, 2, 3, 4, 10, 11, 12, 13]), (18, [0, 1, 2, 3, 4, 10, 11, 13]), (19, [0, 2, 3, 4, 10, 11, 15]), (20, [0, 1, 2, 3, 4, 12, 13]), (21, [0, 1, 2, 3, 4, 12, 16, 17]), (22, [0, 1, 2, 3, 4, 11, 12, 16]), (23, [0, 1, 2, 3, 4, 11, 12, 16, 18, 19]), (24, [0, 1, 2, 3, 4, 11, 16, 18, 19, 20]), (25, [0, 1, 2, 3, 4, 11, 16, 18, 20]), (26, [0, 1, 2, 3, 4, 10, 11, 16]), (27, [0, 2, 3, 4, 10, 11, 16]), (28, [0, 1, 2, 3, 4, 11, 16, 19, 20]), (29, [0, 1, 2, 3, 4, 10, 11, 16]), (30, [0, 1, 3, 4, 10, 11, 16]), (100025, [0, 1, 2, 3, 4, 10, 11, 12, 25]), (100032, [0, 1, 2, 3, 4, 10, 11, 12, 32]), (100039, [0, 1, 2, 3, 4, 10, 11, 12, 39]), (100056, [0, 1, 2, 3, 4, 10, 11, 12, 13, 14, 56]), (100075, [0, 1, 2, 3, 4, 10, 11, 12, 13, 75]), (100080, [0, 1, 2, 3, 4, 10, 11, 12, 13, 80]), (100097, [0, 1, 2, 3, 4, 10, 11, 12, 13, 97]), (100125, [0, 1, 2, 3, 4, 11, 16, 18, 19, 20, 125])]
noncomputable def slices_pdqsortCmpFunc_impl_factor_of_mut_impl_prime_factors_c1_l1 (a2 : Int) (a1 : Int) (a0 : (List ((List Int) × Int))) (_u : Unit) : Option (Unit ⊕ (List ((List Int) × Int))) :=
  (if (decide ((IntKind.i64.wrap (a2 - a1)) ≤ 12)) then (Option.bind (slices_insertionSortCmpFunc_impl_factor_of_mut_impl_prime_factors_c1 a0 a1 a2) fun r9 => (ifp (r9.length = a0.length) ((some (.inr r9))))) else none)
noncomputable def slices_pdqsortCmpFunc_impl_factor_of_mut_impl_prime_factors_c1 (a0 : (List ((List Int) × Int))) (a1 : Int) (a2 : Int) (a3 : Int) : Option (List ((List Int) × Int)) :=
  (loopM (fun s : Unit => slices_pdqsortCmpFunc_impl_factor_of_mut_impl_prime_factors_c1_l1 a2 a1 a0 ()) ())
theorem slices_pdqsortCmpFunc_impl_factor_of_mut_impl_prime_factors_c1_ok (a0 : (List ((List Int) × Int))) (a1 : Int) (a2 : Int) (a3 : Int) (r : (List ((List Int) × Int))) (h : slices_pdqsortCmpFunc_impl_factor_of_mut_impl_prime_factors_c1 a0 a1 a2 a3 = some r) : Den Try.prog 59 [(.mutsl 2 (a0.map eT_Si64_i64_Z)), (i6 a1), (i6 a2), (i6 a3), (.clo 47 [] [])] { r := (.tuple []), ms := [(.row 2 (r.map eT_Si64_i64_Z))], fs := [] } := by
  refine den_ofX (rs := []) (ac := slices_pdqsortCmpFunc_impl_factor_of_mut_impl_prime_factors_c1_c) (L := slices_pdqsortCmpFunc_impl_factor_of_mut_impl_prime_factors_c1_L) (n := 148) (m := [(30, 1), (37, 1), (44, 1), (61, 1), (80, 1), (103, 1), (111, 1), (134, 1), (146, 1)]) (c := Try.f59.body.getD .skip) good Try.func59 (by kernel_rfl) (by kernel_rfl) Try.ntmps59 rfl rfl (by kernel_rfl) rfl ?_
  refine a_st (σ' := ⟨[(0, (.osl 1000000)), (1, (i6 a1)), (2, (i6 a2)), (3, (i6 a3)), (4, (.clo 47 [] []))], [(1000000, (bk (.row 2 (a0.map eT_Si64_i64_Z))))]⟩) (by kernel_rfl) ?_
  unfold slices_pdqsortCmpFunc_impl_factor_of_mut_impl_prime_factors_c1_c
  refine sr (vp (.bool true) rfl (nx ⟨[(0, (.osl 1000000)), (1, (i6 a1)), (2, (i6 a2)), (3, (i6 a3)), (4, (.clo 47 [] [])), (10, (.bool true))], [(1000000, (bk (.row 2 (a0.map eT_Si64_i64_Z))))]⟩ (by kernel_rfl) (sr (vp (.bool true) rfl (nx ⟨[(0, (.osl 1000000)), (1, (i6 a1)), (2, (i6 a2)), (3, (i6 a3)), (4, (.clo 47 [] [])), (10, (.bool true)), (11, (.bool true))], [(1000000, (bk (.row 2 (a0.map eT_Si64_i64_Z))))]⟩ (by kernel_rfl) (a_block ?_))))))
  refine a_loop (emb := fun (s : Unit) => ⟨[(0, (.osl 1000000)), (1, (i6 a1)), (2, (i6 a2)), (3, (i6 a3)), (4, (.clo 47 [] [])), (10, (.bool true)), (11, (.bool true))], [(1000000, (bk (.row 2 (a0.map eT_Si64_i64_Z))))]⟩) (body := (fun s : Unit => slices_pdqsortCmpFunc_impl_factor_of_mut_impl_prime_factors_c1_l1 a2 a1 a0 ())) (G := fun q => some q = some r) h rfl ?_ (by kernel_rfl)
  rintro X5 _ x6 h hX7
  have h : slices_pdqsortCmpFunc_impl_factor_of_mut_impl_prime_factors_c1_l1 a2 a1 a0 () = some x6 := h
  refine a_st (σ' := ⟨[(0, (.osl 1000000)), (1, (i6 a1)), (2, (i6 a2)), (3, (i6 a3)), (4, (.clo 47 [] [])), (10, (.bool true)), (11, (.bool true))], [(1000000, (bk (.row 2 (a0.map eT_Si64_i64_Z))))]⟩) (by kernel_rfl) (a_block (sr (vp (i6 a2) rfl (vp (i6 a1) rfl (vp (i6 (IntKind.i64.wrap (a2 - a1))) rfl (vp (i6 (IntKind.i64.wrap (a2 - a1))) rfl (nx ⟨[(0, (.osl 1000000)), (1, (i6 a1)), (2, (i6 a2)), (3, (i6 a3)), (4, (.clo 47 [] [])), (10, (.bool true)), (11, (.bool true)), (12, (i6 (IntKind.i64.wrap (a2 - a1))))], [(1000000, (bk (.row 2 (a0.map eT_Si64_i64_Z))))]⟩ (by kernel_rfl) (a_seq (sr ?_)))))))))
  refine vp (i6 (IntKind.i64.wrap (a2 - a1))) rfl (vp (.bool ((decide ((IntKind.i64.wrap (a2 - a1)) ≤ 12)))) rfl (nx ⟨[(0, (.osl 1000000)), (1, (i6 a1)), (2, (i6 a2)), (3, (i6 a3)), (4, (.clo 47 [] [])), (10, (.bool true)), (11, (.bool true)), (12, (i6 (IntKind.i64.wrap (a2 - a1)))), (25, (.bool ((decide ((IntKind.i64.wrap (a2 - a1)) ≤ 12)))))], [(1000000, (bk (.row 2 (a0.map eT_Si64_i64_Z))))]⟩ (by kernel_rfl) ?_))
  cases hb8 : (decide ((IntKind.i64.wrap (a2 - a1)) ≤ 12))
  · have h := ite_f hb8 h
    cases h
  · have h := ite_t hb8 h
    refine a_cond_t rfl (sr (vp (.osl 1000000) rfl (vp (i6 a1) rfl (vp (i6 a2) rfl (vp (.clo 47 [] []) rfl ?_)))))
    obtain ⟨r9, hr10, h⟩ := bind_some h
    obtain ⟨hl11, h⟩ := ifp_some h
    refine a_callM (args := [(.mutsl 2 (a0.map eT_Si64_i64_Z)), (i6 a1), (i6 a2), (.clo 47 [] [])]) (i := 0) (id := 1000000) (r := (.tuple [])) (c := (.row 2 (r9.map eT_Si64_i64_Z))) rfl rfl (slices_insertionSortCmpFunc_impl_factor_of_mut_impl_prime_factors_c1_ok a0 a1 a2 r9 hr10) rfl (shape_map hl11) (nx _ rfl (a_ret (t_ret (b_ret ?_))))
    cases h
    have h := hX7
    refine t_ret (b_ret ?_)
    refine ⟨.inr rfl, ?_⟩
    rw [Try.results59]
    cases h
    exact ⟨[], ⟨rfl, rfl, rfl⟩, rfl, ⟨_, _, rfl, rfl, rfl⟩⟩
def slices_SortFunc_impl_factor_impl_factor_of_mut_impl_prime_factors_c1_c : ACode := (.seq (.region 0 [q 5 (.mov (t 0)), q 6 (.blt 0 .len [(t 5)] [52]), q 4 (.asg 0 (t 6) 3)] false) (.region 1 [q 7 (.mov (t 0)), q 8 (.mov (t 4)), q 9 (.mov (t 4)), q 10 (.conv 3 75 (t 9)), q 11 (.call 0 (.func 60) [(t 10)]), q 12 (.mov (t 1)), q 13 (.call 1 (.func 59) [(t 7), (.const (.int .i64 0)), (t 8), (t 11), (t 12)])] false))
def slices_SortFunc_impl_factor_impl_factor_of_mut_impl_prime_factors_c1_L : Live := [(0, [0, 1]), (1, [0, 1, 4])]
noncomputable def slices_SortFunc_impl_factor_impl_factor_of_mut_impl_prime_factors_c1 (a0 : (List ((List Int) × Int))) : Option (List ((List Int) × Int)) :=
  (Option.bind (math_bits_Len (IntKind.u64.wrap (a0.length : Int))) fun r1 => (Option.bind (slices_pdqsortCmpFunc_impl_factor_of_mut_impl_prime_factors_c1 a0 0 (a0.length : Int) r1) fun r3 => (ifp (r3.length = a0.length) (some r3))))
theorem slices_SortFunc_impl_factor_impl_factor_of_mut_impl_prime_factors_c1_ok (a0 : (List ((List Int) × Int))) (r : (List ((List Int) × Int))) (h : slices_SortFunc_impl_factor_impl_factor_of_mut_impl_prime_factors_c1 a0 = some r) : Den Try.prog 46 [(.mutsl 2 (a0.map eT_Si64_i64_Z)), (.clo 47 [] [])] { r := (.tuple []), ms := [(.row 2 (r.map eT_Si64_i64_Z))], fs := [] } := by
  refine den_ofX (rs := []) (ac := slices_SortFunc_impl_factor_impl_factor_of_mut_impl_prime_factors_c1_c) (L := slices_SortFunc_impl_factor_impl_factor_of_mut_impl_prime_factors_c1_L) (n := 14) (m := [(13, 1)]) (c := Try.f46.body.getD .skip) good Try.func46 (by kernel_rfl) (by kernel_rfl) Try.ntmps46 rfl rfl (by kernel_rfl) rfl ?_
  refine a_st (σ' := ⟨[(0, (.osl 1000000)), (1, (.clo 47 [] []))], [(1000000, (bk (.row 2 (a0.map eT_Si64_i64_Z))))]⟩) (by kernel_rfl) ?_
  unfold slices_SortFunc_impl_factor_impl_factor_of_mut_impl_prime_factors_c1_c
  refine sr (vp (.osl 1000000) rfl (vq (i6 (a0.length : Int)) (leno_run rfl rfl rfl) trivial (vp (i6 (a0.length : Int)) rfl (nx ⟨[(0, (.osl 1000000)), (1, (.clo 47 [] [])), (4, (i6 (a0.length : Int)))], [(1000000, (bk (.row 2 (a0.map eT_Si64_i64_Z))))]⟩ (by kernel_rfl) (a_region (vp (.osl 1000000) rfl (vp (i6 (a0.length : Int)) rfl (vp (i6 (a0.length : Int)) rfl (vp (.int .u64 (IntKind.u64.wrap (a0.length : Int))) rfl ?_)))))))))
  obtain ⟨r1, hr2, h⟩ := bind_some h
  refine a_call (args := [(.int .u64 (IntKind.u64.wrap (a0.length : Int)))]) (u := []) (r := (i6 r1)) rfl rfl (math_bits_Len_ok (IntKind.u64.wrap (a0.length : Int)) r1 hr2) rfl (vp (.clo 47 [] []) rfl ?_)
  obtain ⟨r3, hr4, h⟩ := bind_some h
  obtain ⟨hl5, h⟩ := ifp_some h
  refine a_callM (args := [(.mutsl 2 (a0.map eT_Si64_i64_Z)), (i6 0), (i6 (a0.length : Int)), (i6 r1), (.clo 47 [] [])]) (i := 0) (id := 1000000) (r := (.tuple [])) (c := (.row 2 (r3.map eT_Si64_i64_Z))) rfl rfl (slices_pdqsortCmpFunc_impl_factor_of_mut_impl_prime_factors_c1_ok a0 0 (a0.length : Int) r1 r3 hr4) rfl (shape_map hl5) (a_nil ?_)
  refine ⟨.inl rfl, ?_⟩
  rw [Try.results46]
  cases h
  exact ⟨[], ⟨rfl, rfl, rfl⟩, rfl, ⟨_, _, rfl, rfl, rfl⟩⟩
end Go.Proofs.Ytpjdjfhbfcekaaa
