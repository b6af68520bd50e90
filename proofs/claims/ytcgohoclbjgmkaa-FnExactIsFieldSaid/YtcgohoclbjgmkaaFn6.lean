/- Functions of the program: plain Lean functions, and that the program computes them. Printed by gen.py. -/
import Derived.Test.YtcgohoclbjgmkaaFnT
import Derived.Test.YtcgohoclbjgmkaaFn4
import Derived.Test.YtcgohoclbjgmkaaFn5
namespace Go.Proofs.Ytcgohoclbjgmkaa
open Go.Abs Go.Proofs
set_option linter.unusedSimpArgs false
set_option linter.unusedVariables false
attribute [local irreducible] Abs.acode Abs.aops Abs.aopsT Abs.thenK Abs.blockK

def impl_prime_bezout_c : ACode := (.seq (.region 0 [⟨some 6, .asg 1 (.const (.slice none 0 0)) 65, none, []⟩, ⟨some 7, .asg 1 (.const (.slice none 0 0)) 65, none, []⟩, ⟨some 8, .asg 1 (.const (.slice none 0 0)) 65, none, []⟩] false) (.seq (.region 1 [⟨some 16, .bslice 0 65 1 [(0, (.const (.int .i64 1)))], none, []⟩, ⟨some 9, .asg 1 (.tmp 16) 65, none, []⟩, ⟨some 10, .asg 1 (.const (.slice none 0 0)) 65, none, []⟩] false) (.seq (.region 2 [⟨some 17, .bslice 0 65 1 [(0, (.const (.int .i64 1)))], none, []⟩, ⟨some 11, .asg 1 (.const (.slice none 0 0)) 65, none, []⟩, ⟨some 12, .asg 1 (.tmp 17) 65, none, []⟩] false) (.seq (.block 0 (.loop (.seq (.seq (.region 3 [⟨some 18, .mov (.tmp 2), none, []⟩, ⟨some 19, .blt 0 .len [(.tmp 18)] [65], none, []⟩, ⟨some 20, .bin .gtr 3 (.tmp 19) (.const (.int .i64 0)), none, []⟩] false) (.cond (.tmp 20) .skip (.exit 0))) (.block 1 (.seq (.region 4 [⟨some 22, .mov (.tmp 0), none, []⟩, ⟨some 23, .mov (.tmp 1), none, []⟩, ⟨some 24, .mov (.tmp 2), none, []⟩, ⟨some 25, .call 0 (.func 139) [(.tmp 22), (.tmp 23), (.tmp 24)], none, []⟩, ⟨some 21, .mov (.tmp 25), none, []⟩, ⟨some 26, .extract (.tmp 21) 0, none, []⟩, ⟨some 27, .extract (.tmp 21) 1, none, []⟩, ⟨some 13, .asg 1 (.tmp 26) 65, none, []⟩, ⟨some 14, .asg 1 (.tmp 27) 65, none, []⟩] false) (.seq (.region 5 [⟨some 28, .mov (.tmp 2), none, []⟩, ⟨some 29, .mov (.tmp 14), none, []⟩, ⟨some 1, .asg 1 (.tmp 28) 65, none, []⟩, ⟨some 2, .asg 1 (.tmp 29) 65, none, []⟩] false) (.seq (.region 6 [⟨some 30, .mov (.tmp 11), none, []⟩, ⟨some 31, .mov (.tmp 0), none, []⟩, ⟨some 32, .mov (.tmp 9), none, []⟩, ⟨some 33, .mov (.tmp 0), none, []⟩, ⟨some 34, .mov (.tmp 13), none, []⟩, ⟨some 35, .mov (.tmp 11), none, []⟩, ⟨some 36, .call 0 (.func 136) [(.tmp 33), (.tmp 34), (.tmp 35)], none, []⟩, ⟨some 37, .call 0 (.func 110) [(.tmp 31), (.tmp 32), (.tmp 36), (.const (.int .i64 (-1)))], none, []⟩, ⟨some 9, .asg 1 (.tmp 30) 65, none, []⟩, ⟨some 11, .asg 1 (.tmp 37) 65, none, []⟩] false) (.region 7 [⟨some 38, .mov (.tmp 12), none, []⟩, ⟨some 39, .mov (.tmp 0), none, []⟩, ⟨some 40, .mov (.tmp 10), none, []⟩, ⟨some 41, .mov (.tmp 0), none, []⟩, ⟨some 42, .mov (.tmp 13), none, []⟩, ⟨some 43, .mov (.tmp 12), none, []⟩, ⟨some 44, .call 0 (.func 136) [(.tmp 41), (.tmp 42), (.tmp 43)], none, []⟩, ⟨some 45, .call 0 (.func 110) [(.tmp 39), (.tmp 40), (.tmp 44), (.const (.int .i64 (-1)))], none, []⟩, ⟨some 10, .asg 1 (.tmp 38) 65, none, []⟩, ⟨some 12, .asg 1 (.tmp 45) 65, none, []⟩] false)))))))) (.seq (.region 8 [⟨some 46, .mov (.tmp 0), none, []⟩, ⟨some 47, .mov (.tmp 1), none, []⟩, ⟨some 48, .call 0 (.func 101) [(.tmp 47)], none, []⟩, ⟨some 49, .call 0 (.func 106) [(.tmp 46), (.tmp 48)], none, []⟩, ⟨some 15, .asg 0 (.tmp 49) 2, none, []⟩] false) (.seq (.region 9 [⟨some 50, .mov (.tmp 0), none, []⟩, ⟨some 51, .mov (.tmp 1), none, []⟩, ⟨some 52, .mov (.tmp 15), none, []⟩, ⟨some 53, .call 0 (.func 105) [(.tmp 50), (.tmp 51), (.tmp 52)], none, []⟩, ⟨some 54, .mov (.tmp 0), none, []⟩, ⟨some 55, .mov (.tmp 9), none, []⟩, ⟨some 56, .mov (.tmp 15), none, []⟩, ⟨some 57, .call 0 (.func 105) [(.tmp 54), (.tmp 55), (.tmp 56)], none, []⟩, ⟨some 58, .mov (.tmp 0), none, []⟩, ⟨some 59, .mov (.tmp 10), none, []⟩, ⟨some 60, .mov (.tmp 15), none, []⟩, ⟨some 61, .call 0 (.func 105) [(.tmp 58), (.tmp 59), (.tmp 60)], none, []⟩, ⟨some 6, .asg 1 (.tmp 53) 65, none, []⟩, ⟨some 7, .asg 1 (.tmp 57) 65, none, []⟩, ⟨some 8, .asg 1 (.tmp 61) 65, none, []⟩] false) .ret))))))
def impl_prime_bezout_L : Live := [(0, [0, 1, 2]), (1, [0, 1, 2]), (2, [0, 1, 2, 9, 10]), (3, [0, 1, 2, 9, 10, 11, 12]), (4, [0, 1, 2, 9, 10, 11, 12]), (5, [0, 2, 9, 10, 11, 12, 13, 14]), (6, [0, 1, 2, 9, 10, 11, 12, 13]), (7, [0, 1, 2, 9, 10, 11, 12, 13]), (8, [0, 1, 9, 10]), (9, [0, 1, 9, 10, 15]), (100020, [0, 1, 2, 9, 10, 11, 12, 20])]
theorem impl_prime_bezout_body : Try.f137.body = some (Try.f137.body.getD .skip) := by kernel_rfl
theorem impl_prime_bezout_strip : strip [(1, 1), (2, 1), (6, 1), (7, 1), (8, 1), (9, 1), (10, 1), (11, 1), (12, 1), (13, 1), (14, 1)] (Try.f137.body.getD .skip) = impl_prime_bezout_c := by kernel_rfl
noncomputable def impl_prime_bezout_l1 (a0 : Int) (x61 : (List Int)) (x62 : (List Int)) (x63 : (List Int)) (x64 : (List Int)) (x65 : (List Int)) (x66 : (List Int)) : Option (((List Int) × (List Int) × (List Int) × (List Int) × (List Int) × (List Int)) ⊕ ((List Int) × (List Int) × (List Int))) :=
  (if (decide ((x62.length : Int) > 0)) then (Option.bind (impl_prime_divide a0 x61 x62) fun r82 => (Option.bind (impl_prime_times a0 r82.1 x65) fun r84 => (Option.bind (impl_prime_combine a0 x63 r84 (-1)) fun r86 => (Option.bind (impl_prime_times a0 r82.1 x66) fun r88 => (Option.bind (impl_prime_combine a0 x64 r88 (-1)) fun r90 => (some (.inl (x62, r82.2, x65, x66, r86, r90)))))))) else (some (.inr (x61, x63, x64))))
noncomputable def impl_prime_bezout (a0 : Int) (a1 : (List Int)) (a2 : (List Int)) : Option ((List Int) × (List Int) × (List Int)) :=
  (Option.bind (α := ((List Int) × (List Int) × (List Int))) ((loopM (fun s : ((List Int) × (List Int) × (List Int) × (List Int) × (List Int) × (List Int)) => impl_prime_bezout_l1 a0 s.1 s.2.1 s.2.2.1 s.2.2.2.1 s.2.2.2.2.1 s.2.2.2.2.2) (a1, a2, [1], [], [], [1]))) fun ⟨x44, x45, x46⟩ => (Option.bind (impl_row_lead x44) fun r93 => (Option.bind (impl_prime_inverse a0 r93) fun r95 => (Option.bind (impl_prime_scale a0 x44 r95) fun r97 => (Option.bind (impl_prime_scale a0 x45 r95) fun r99 => (Option.bind (impl_prime_scale a0 x46 r95) fun r101 => (some (r97, r99, r101))))))))
set_option maxHeartbeats 16000000 in
theorem impl_prime_bezout_ok (a0 : Int) (a1 : (List Int)) (a2 : (List Int)) (r : ((List Int) × (List Int) × (List Int))) (h : impl_prime_bezout a0 a1 a2 = some r) : Den Try.prog 137 [(.int .i64 a0), (eSi64 a1), (eSi64 a2)] { r := (.tuple [(eSi64 r.1), (eSi64 r.2.1), (eSi64 r.2.2)]) } := by
  refine den_of (rs := [(eSi64 r.1), (eSi64 r.2.1), (eSi64 r.2.2)]) (ac := impl_prime_bezout_c) (L := impl_prime_bezout_L) (n := 62) (m := [(1, 1), (2, 1), (6, 1), (7, 1), (8, 1), (9, 1), (10, 1), (11, 1), (12, 1), (13, 1), (14, 1)]) good Try.func137 impl_prime_bezout_body (by kernel_rfl) Try.ntmps137 rfl rfl impl_prime_bezout_strip rfl rfl ?_
  refine a_st (σ' := ⟨[(0, (.int .i64 a0)), (1, (eSi64 a1)), (2, (eSi64 a2))], []⟩) (by kernel_rfl) ?_
  unfold impl_prime_bezout_c
  refine a_seq ?_
  refine a_region ?_
  refine a_val (v := (eSi64 ([]))) (u := []) rfl trivial rfl ?_
  refine a_val (v := (eSi64 ([]))) (u := []) rfl trivial rfl ?_
  refine a_val (v := (eSi64 ([]))) (u := []) rfl trivial rfl ?_
  refine a_nil ?_
  refine a_next (σ' := ⟨[(0, (.int .i64 a0)), (1, (eSi64 a1)), (2, (eSi64 a2))], []⟩) (by kernel_rfl) ?_
  refine a_seq ?_
  refine a_region ?_
  refine a_val (v := (.sl 1 true (([1]).map (AV.int .i64)))) (u := []) rfl ⟨(Nat.le_of_ble_eq_true rfl), (Nat.le_of_ble_eq_true rfl), (all_cons ⟨(Nat.le_of_ble_eq_true rfl), rfl⟩ all_nil)⟩ rfl ?_
  refine a_val (v := (eSi64 ([1]))) (u := []) (asg_tight (i := ⟨.int .i64, 1, 8, (.int .i64 0)⟩) (f := (AV.int .i64)) (l := [1]) rfl rfl rfl) trivial rfl ?_
  refine a_val (v := (eSi64 ([]))) (u := []) rfl trivial rfl ?_
  refine a_nil ?_
  refine a_next (σ' := ⟨[(0, (.int .i64 a0)), (1, (eSi64 a1)), (2, (eSi64 a2)), (9, (eSi64 ([1]))), (10, (eSi64 ([])))], []⟩) (by kernel_rfl) ?_
  refine a_seq ?_
  refine a_region ?_
  refine a_val (v := (.sl 1 true (([1]).map (AV.int .i64)))) (u := []) rfl ⟨(Nat.le_of_ble_eq_true rfl), (Nat.le_of_ble_eq_true rfl), (all_cons ⟨(Nat.le_of_ble_eq_true rfl), rfl⟩ all_nil)⟩ rfl ?_
  refine a_val (v := (eSi64 ([]))) (u := []) rfl trivial rfl ?_
  refine a_val (v := (eSi64 ([1]))) (u := []) (asg_tight (i := ⟨.int .i64, 1, 8, (.int .i64 0)⟩) (f := (AV.int .i64)) (l := [1]) rfl rfl rfl) trivial rfl ?_
  refine a_nil ?_
  refine a_next (σ' := ⟨[(0, (.int .i64 a0)), (1, (eSi64 a1)), (2, (eSi64 a2)), (9, (eSi64 ([1]))), (10, (eSi64 ([]))), (11, (eSi64 ([]))), (12, (eSi64 ([1])))], []⟩) (by kernel_rfl) ?_
  obtain ⟨y47, hy48, hk49⟩ := bind_some h
  clear h
  refine a_join (emb := fun (s : ((List Int) × (List Int) × (List Int))) => ⟨[(0, (.int .i64 a0)), (1, (eSi64 s.1)), (9, (eSi64 s.2.1)), (10, (eSi64 s.2.2))], []⟩) (pre := fun s => s = y47) ?_ ?_
  · rintro ⟨x44, x45, x46⟩ rfl
    have h := hk49
    refine a_st (σ' := ⟨[(0, (.int .i64 a0)), (1, (eSi64 x44)), (9, (eSi64 x45)), (10, (eSi64 x46))], []⟩) (by kernel_rfl) ?_
    refine a_seq ?_
    refine a_region ?_
    refine a_val (v := (.int .i64 a0)) (u := []) rfl trivial rfl ?_
    refine a_val (v := (eSi64 x44)) (u := []) rfl trivial rfl ?_
    obtain ⟨r93, hr94, h⟩ := bind_some h
    refine a_call (args := [(eSi64 x44)]) (u := []) (r := (.int .i64 r93)) rfl rfl (impl_row_lead_ok x44 r93 hr94) rfl ?_
    obtain ⟨r95, hr96, h⟩ := bind_some h
    refine a_call (args := [(.int .i64 a0), (.int .i64 r93)]) (u := []) (r := (.int .i64 r95)) rfl rfl (impl_prime_inverse_ok a0 r93 r95 hr96) rfl ?_
    refine a_val (v := (.int .i64 r95)) (u := []) rfl trivial rfl ?_
    refine a_nil ?_
    refine a_next (σ' := ⟨[(0, (.int .i64 a0)), (1, (eSi64 x44)), (9, (eSi64 x45)), (10, (eSi64 x46)), (15, (.int .i64 r95))], []⟩) (by kernel_rfl) ?_
    refine a_seq ?_
    refine a_region ?_
    refine a_val (v := (.int .i64 a0)) (u := []) rfl trivial rfl ?_
    refine a_val (v := (eSi64 x44)) (u := []) rfl trivial rfl ?_
    refine a_val (v := (.int .i64 r95)) (u := []) rfl trivial rfl ?_
    obtain ⟨r97, hr98, h⟩ := bind_some h
    refine a_call (args := [(.int .i64 a0), (eSi64 x44), (.int .i64 r95)]) (u := []) (r := (eSi64 r97)) rfl rfl (impl_prime_scale_ok a0 x44 r95 r97 hr98) rfl ?_
    refine a_val (v := (.int .i64 a0)) (u := []) rfl trivial rfl ?_
    refine a_val (v := (eSi64 x45)) (u := []) rfl trivial rfl ?_
    refine a_val (v := (.int .i64 r95)) (u := []) rfl trivial rfl ?_
    obtain ⟨r99, hr100, h⟩ := bind_some h
    refine a_call (args := [(.int .i64 a0), (eSi64 x45), (.int .i64 r95)]) (u := []) (r := (eSi64 r99)) rfl rfl (impl_prime_scale_ok a0 x45 r95 r99 hr100) rfl ?_
    refine a_val (v := (.int .i64 a0)) (u := []) rfl trivial rfl ?_
    refine a_val (v := (eSi64 x46)) (u := []) rfl trivial rfl ?_
    refine a_val (v := (.int .i64 r95)) (u := []) rfl trivial rfl ?_
    obtain ⟨r101, hr102, h⟩ := bind_some h
    refine a_call (args := [(.int .i64 a0), (eSi64 x46), (.int .i64 r95)]) (u := []) (r := (eSi64 r101)) rfl rfl (impl_prime_scale_ok a0 x46 r95 r101 hr102) rfl ?_
    refine a_val (v := (eSi64 r97)) (u := []) rfl trivial rfl ?_
    refine a_val (v := (eSi64 r99)) (u := []) rfl trivial rfl ?_
    refine a_val (v := (eSi64 r101)) (u := []) rfl trivial rfl ?_
    refine a_nil ?_
    refine a_next rfl ?_
    refine a_ret ?_
    refine ⟨.inr rfl, ?_⟩
    rw [Try.results137]
    cases h
    exact ⟨_, _, _, _, _, rfl, trivial, .inl ⟨rfl, .inl rfl⟩, rfl, ⟨_, _, _, _, _, rfl, trivial, .inl ⟨rfl, .inl rfl⟩, rfl, ⟨_, _, _, _, _, rfl, trivial, .inl ⟨rfl, .inl rfl⟩, rfl, rfl⟩⟩⟩
  · have h := hy48
    refine a_block ?_
    refine a_loop (emb := fun (s : ((List Int) × (List Int) × (List Int) × (List Int) × (List Int) × (List Int))) => ⟨[(0, (.int .i64 a0)), (1, (eSi64 s.1)), (2, (eSi64 s.2.1)), (9, (eSi64 s.2.2.1)), (10, (eSi64 s.2.2.2.1)), (11, (eSi64 s.2.2.2.2.1)), (12, (eSi64 s.2.2.2.2.2))], []⟩) (body := (fun s : ((List Int) × (List Int) × (List Int) × (List Int) × (List Int) × (List Int)) => impl_prime_bezout_l1 a0 s.1 s.2.1 s.2.2.1 s.2.2.2.1 s.2.2.2.2.1 s.2.2.2.2.2)) (G := fun q => some q = some y47) h rfl ?_ (by kernel_rfl)
    rintro X78 ⟨x61, x62, x63, x64, x65, x66⟩ x79 h hX80
    have h : impl_prime_bezout_l1 a0 x61 x62 x63 x64 x65 x66 = some x79 := h
    refine a_st (σ' := ⟨[(0, (.int .i64 a0)), (1, (eSi64 x61)), (2, (eSi64 x62)), (9, (eSi64 x63)), (10, (eSi64 x64)), (11, (eSi64 x65)), (12, (eSi64 x66))], []⟩) (by kernel_rfl) ?_
    refine a_seq ?_
    refine a_seq ?_
    refine a_region ?_
    refine a_val (v := (eSi64 x62)) (u := []) rfl trivial rfl ?_
    refine a_val (v := (.int .i64 (x62.length : Int))) (u := []) (len_run rfl rfl) trivial rfl ?_
    refine a_val (v := (.bool ((decide ((x62.length : Int) > 0))))) (u := []) rfl trivial rfl ?_
    refine a_nil ?_
    refine a_next (σ' := ⟨[(0, (.int .i64 a0)), (1, (eSi64 x61)), (2, (eSi64 x62)), (9, (eSi64 x63)), (10, (eSi64 x64)), (11, (eSi64 x65)), (12, (eSi64 x66)), (20, (.bool ((decide ((x62.length : Int) > 0)))))], []⟩) (by kernel_rfl) ?_
    cases hb81 : (decide ((x62.length : Int) > 0))
    · have h := ite_f hb81 h
      refine a_cond_f rfl ?_
      refine a_exit ?_
      refine t_exit ?_
      cases h
      have h := hX80
      refine t_exit ?_
      refine b_exit ?_
      exact j_leaf (x61, x63, x64) (Option.some.inj h) (by kernel_rfl)
    · have h := ite_t hb81 h
      refine a_cond_t rfl ?_
      refine a_skip ?_
      refine a_next (σ' := ⟨[(0, (.int .i64 a0)), (1, (eSi64 x61)), (2, (eSi64 x62)), (9, (eSi64 x63)), (10, (eSi64 x64)), (11, (eSi64 x65)), (12, (eSi64 x66))], []⟩) (by kernel_rfl) ?_
      refine a_block ?_
      refine a_seq ?_
      refine a_region ?_
      refine a_val (v := (.int .i64 a0)) (u := []) rfl trivial rfl ?_
      refine a_val (v := (eSi64 x61)) (u := []) rfl trivial rfl ?_
      refine a_val (v := (eSi64 x62)) (u := []) rfl trivial rfl ?_
      obtain ⟨r82, hr83, h⟩ := bind_some h
      refine a_call (args := [(.int .i64 a0), (eSi64 x61), (eSi64 x62)]) (u := []) (r := (.tuple [(eSi64 r82.1), (eSi64 r82.2)])) rfl rfl (impl_prime_divide_ok a0 x61 x62 r82 hr83) rfl ?_
      refine a_val (v := (.tuple [(eSi64 r82.1), (eSi64 r82.2)])) (u := []) rfl trivial rfl ?_
      refine a_val (v := (eSi64 r82.1)) (u := []) rfl (Nat.le_of_ble_eq_true rfl) rfl ?_
      refine a_val (v := (eSi64 r82.2)) (u := []) rfl (Nat.le_of_ble_eq_true rfl) rfl ?_
      refine a_val (v := (eSi64 r82.1)) (u := []) rfl trivial rfl ?_
      refine a_val (v := (eSi64 r82.2)) (u := []) rfl trivial rfl ?_
      refine a_nil ?_
      refine a_next (σ' := ⟨[(0, (.int .i64 a0)), (2, (eSi64 x62)), (9, (eSi64 x63)), (10, (eSi64 x64)), (11, (eSi64 x65)), (12, (eSi64 x66)), (13, (eSi64 r82.1)), (14, (eSi64 r82.2))], []⟩) (by kernel_rfl) ?_
      refine a_seq ?_
      refine a_region ?_
      refine a_val (v := (eSi64 x62)) (u := []) rfl trivial rfl ?_
      refine a_val (v := (eSi64 r82.2)) (u := []) rfl trivial rfl ?_
      refine a_val (v := (eSi64 x62)) (u := []) rfl trivial rfl ?_
      refine a_val (v := (eSi64 r82.2)) (u := []) rfl trivial rfl ?_
      refine a_nil ?_
      refine a_next (σ' := ⟨[(0, (.int .i64 a0)), (1, (eSi64 x62)), (2, (eSi64 r82.2)), (9, (eSi64 x63)), (10, (eSi64 x64)), (11, (eSi64 x65)), (12, (eSi64 x66)), (13, (eSi64 r82.1))], []⟩) (by kernel_rfl) ?_
      refine a_seq ?_
      refine a_region ?_
      refine a_val (v := (eSi64 x65)) (u := []) rfl trivial rfl ?_
      refine a_val (v := (.int .i64 a0)) (u := []) rfl trivial rfl ?_
      refine a_val (v := (eSi64 x63)) (u := []) rfl trivial rfl ?_
      refine a_val (v := (.int .i64 a0)) (u := []) rfl trivial rfl ?_
      refine a_val (v := (eSi64 r82.1)) (u := []) rfl trivial rfl ?_
      refine a_val (v := (eSi64 x65)) (u := []) rfl trivial rfl ?_
      obtain ⟨r84, hr85, h⟩ := bind_some h
      refine a_call (args := [(.int .i64 a0), (eSi64 r82.1), (eSi64 x65)]) (u := []) (r := (eSi64 r84)) rfl rfl (impl_prime_times_ok a0 r82.1 x65 r84 hr85) rfl ?_
      obtain ⟨r86, hr87, h⟩ := bind_some h
      refine a_call (args := [(.int .i64 a0), (eSi64 x63), (eSi64 r84), (.int .i64 (-1))]) (u := []) (r := (eSi64 r86)) rfl rfl (impl_prime_combine_ok a0 x63 r84 (-1) r86 hr87) rfl ?_
      refine a_val (v := (eSi64 x65)) (u := []) rfl trivial rfl ?_
      refine a_val (v := (eSi64 r86)) (u := []) rfl trivial rfl ?_
      refine a_nil ?_
      refine a_next (σ' := ⟨[(0, (.int .i64 a0)), (1, (eSi64 x62)), (2, (eSi64 r82.2)), (9, (eSi64 x65)), (10, (eSi64 x64)), (11, (eSi64 r86)), (12, (eSi64 x66)), (13, (eSi64 r82.1))], []⟩) (by kernel_rfl) ?_
      refine a_region ?_
      refine a_val (v := (eSi64 x66)) (u := []) rfl trivial rfl ?_
      refine a_val (v := (.int .i64 a0)) (u := []) rfl trivial rfl ?_
      refine a_val (v := (eSi64 x64)) (u := []) rfl trivial rfl ?_
      refine a_val (v := (.int .i64 a0)) (u := []) rfl trivial rfl ?_
      refine a_val (v := (eSi64 r82.1)) (u := []) rfl trivial rfl ?_
      refine a_val (v := (eSi64 x66)) (u := []) rfl trivial rfl ?_
      obtain ⟨r88, hr89, h⟩ := bind_some h
      refine a_call (args := [(.int .i64 a0), (eSi64 r82.1), (eSi64 x66)]) (u := []) (r := (eSi64 r88)) rfl rfl (impl_prime_times_ok a0 r82.1 x66 r88 hr89) rfl ?_
      obtain ⟨r90, hr91, h⟩ := bind_some h
      refine a_call (args := [(.int .i64 a0), (eSi64 x64), (eSi64 r88), (.int .i64 (-1))]) (u := []) (r := (eSi64 r90)) rfl rfl (impl_prime_combine_ok a0 x64 r88 (-1) r90 hr91) rfl ?_
      refine a_val (v := (eSi64 x66)) (u := []) rfl trivial rfl ?_
      refine a_val (v := (eSi64 r90)) (u := []) rfl trivial rfl ?_
      refine a_nil ?_
      refine b_norm ?_
      cases h
      exact a_again (by kernel_rfl) hX80
def impl_prime_gcd_c : ACode := (.seq (.region 0 [⟨some 6, .asg 1 (.const (.slice none 0 0)) 65, none, []⟩] false) (.seq (.region 1 [⟨some 11, .mov (.tmp 0), none, []⟩, ⟨some 12, .mov (.tmp 1), none, []⟩, ⟨some 13, .mov (.tmp 2), none, []⟩, ⟨some 14, .call 0 (.func 137) [(.tmp 11), (.tmp 12), (.tmp 13)], none, []⟩, ⟨some 10, .mov (.tmp 14), none, []⟩, ⟨some 15, .extract (.tmp 10) 0, none, []⟩, ⟨some 16, .extract (.tmp 10) 1, none, []⟩, ⟨some 17, .extract (.tmp 10) 2, none, []⟩, ⟨some 7, .asg 1 (.tmp 15) 65, none, []⟩, ⟨some 8, .asg 1 (.tmp 16) 65, none, []⟩, ⟨some 9, .asg 1 (.tmp 17) 65, none, []⟩] false) (.seq (.region 2 [⟨some 18, .mov (.tmp 7), none, []⟩, ⟨some 6, .asg 1 (.tmp 18) 65, none, []⟩] false) .ret)))
def impl_prime_gcd_L : Live := [(0, [0, 1, 2]), (1, [0, 1, 2]), (2, [7])]
theorem impl_prime_gcd_body : Try.f109.body = some (Try.f109.body.getD .skip) := by kernel_rfl
theorem impl_prime_gcd_strip : strip [(6, 1), (7, 1), (8, 1), (9, 1)] (Try.f109.body.getD .skip) = impl_prime_gcd_c := by kernel_rfl
noncomputable def impl_prime_gcd (a0 : Int) (a1 : (List Int)) (a2 : (List Int)) : Option (List Int) :=
  (Option.bind (impl_prime_bezout a0 a1 a2) fun r1 => (some r1.1))
set_option maxHeartbeats 16000000 in
theorem impl_prime_gcd_ok (a0 : Int) (a1 : (List Int)) (a2 : (List Int)) (r : (List Int)) (h : impl_prime_gcd a0 a1 a2 = some r) : Den Try.prog 109 [(.int .i64 a0), (eSi64 a1), (eSi64 a2)] { r := (eSi64 r) } := by
  refine den_of (rs := [(eSi64 r)]) (ac := impl_prime_gcd_c) (L := impl_prime_gcd_L) (n := 19) (m := [(6, 1), (7, 1), (8, 1), (9, 1)]) good Try.func109 impl_prime_gcd_body (by kernel_rfl) Try.ntmps109 rfl rfl impl_prime_gcd_strip rfl rfl ?_
  refine a_st (σ' := ⟨[(0, (.int .i64 a0)), (1, (eSi64 a1)), (2, (eSi64 a2))], []⟩) (by kernel_rfl) ?_
  unfold impl_prime_gcd_c
  refine a_seq ?_
  refine a_region ?_
  refine a_val (v := (eSi64 ([]))) (u := []) rfl trivial rfl ?_
  refine a_nil ?_
  refine a_next (σ' := ⟨[(0, (.int .i64 a0)), (1, (eSi64 a1)), (2, (eSi64 a2))], []⟩) (by kernel_rfl) ?_
  refine a_seq ?_
  refine a_region ?_
  refine a_val (v := (.int .i64 a0)) (u := []) rfl trivial rfl ?_
  refine a_val (v := (eSi64 a1)) (u := []) rfl trivial rfl ?_
  refine a_val (v := (eSi64 a2)) (u := []) rfl trivial rfl ?_
  obtain ⟨r1, hr2, h⟩ := bind_some h
  refine a_call (args := [(.int .i64 a0), (eSi64 a1), (eSi64 a2)]) (u := []) (r := (.tuple [(eSi64 r1.1), (eSi64 r1.2.1), (eSi64 r1.2.2)])) rfl rfl (impl_prime_bezout_ok a0 a1 a2 r1 hr2) rfl ?_
  refine a_val (v := (.tuple [(eSi64 r1.1), (eSi64 r1.2.1), (eSi64 r1.2.2)])) (u := []) rfl trivial rfl ?_
  refine a_val (v := (eSi64 r1.1)) (u := []) rfl (Nat.le_of_ble_eq_true rfl) rfl ?_
  refine a_val (v := (eSi64 r1.2.1)) (u := []) rfl (Nat.le_of_ble_eq_true rfl) rfl ?_
  refine a_val (v := (eSi64 r1.2.2)) (u := []) rfl (Nat.le_of_ble_eq_true rfl) rfl ?_
  refine a_val (v := (eSi64 r1.1)) (u := []) rfl trivial rfl ?_
  refine a_val (v := (eSi64 r1.2.1)) (u := []) rfl trivial rfl ?_
  refine a_val (v := (eSi64 r1.2.2)) (u := []) rfl trivial rfl ?_
  refine a_nil ?_
  refine a_next (σ' := ⟨[(7, (eSi64 r1.1))], []⟩) (by kernel_rfl) ?_
  refine a_seq ?_
  refine a_region ?_
  refine a_val (v := (eSi64 r1.1)) (u := []) rfl trivial rfl ?_
  refine a_val (v := (eSi64 r1.1)) (u := []) rfl trivial rfl ?_
  refine a_nil ?_
  refine a_next rfl ?_
  refine a_ret ?_
  refine ⟨.inr rfl, ?_⟩
  rw [Try.results109]
  cases h
  exact ⟨_, _, _, _, _, rfl, trivial, .inl ⟨rfl, .inl rfl⟩, rfl, rfl⟩
def impl_prime_norm_c : ACode := (.seq (.region 0 [⟨some 6, .asg 0 (.const (.int .i64 0)) 2, none, []⟩] false) (.seq (.region 1 [⟨some 7, .asg 0 (.const (.int .i64 1)) 2, none, []⟩] false) (.seq (.seq (.region 2 [⟨some 8, .mov (.tmp 1), none, []⟩, ⟨some 9, .mov (.const (.int .i64 0)), none, []⟩] false) (.block 0 (.loop (.seq (.region 3 [⟨some 10, .bin .lss 2 (.tmp 9) (.tmp 8), none, []⟩] false) (.seq (.cond (.tmp 10) .skip (.exit 0)) (.seq (.block 1 (.seq (.seq (.region 4 [⟨some 11, .mov (.tmp 7), none, []⟩, ⟨some 12, .mov (.tmp 2), none, []⟩, ⟨some 13, .bin .gtr 2 (.tmp 11) (.tmp 12), none, []⟩] false) (.cond (.tmp 13) (.exit 0) .skip)) (.region 5 [⟨some 14, .mov (.tmp 7), none, []⟩, ⟨some 15, .mov (.tmp 0), none, []⟩, ⟨some 16, .bin .mul 2 (.tmp 14) (.tmp 15), none, []⟩, ⟨some 7, .asg 0 (.tmp 16) 2, none, []⟩] false))) (.region 6 [⟨some 17, .bin .add 2 (.tmp 9) (.const (.int .i64 1)), none, []⟩, ⟨some 9, .mov (.tmp 17), none, []⟩] false))))))) (.seq (.region 7 [⟨some 18, .mov (.tmp 7), none, []⟩, ⟨some 6, .asg 0 (.tmp 18) 2, none, []⟩] false) .ret))))
def impl_prime_norm_L : Live := [(0, [0, 1, 2]), (1, [0, 1, 2]), (2, [0, 1, 2, 7]), (3, [0, 2, 7, 8, 9]), (4, [0, 2, 7, 8, 9]), (5, [0, 2, 7, 8, 9]), (6, [0, 2, 7, 8, 9]), (7, [7]), (100010, [0, 2, 7, 8, 9, 10]), (100013, [0, 2, 7, 8, 9, 13])]
theorem impl_prime_norm_body : Try.f58.body = some (Try.f58.body.getD .skip) := by kernel_rfl
theorem impl_prime_norm_strip : strip [] (Try.f58.body.getD .skip) = impl_prime_norm_c := by kernel_rfl
noncomputable def impl_prime_norm_l1 (a1 : Int) (a2 : Int) (a0 : Int) (x19 : Int) (x20 : Int) : Option ((Int × Int) ⊕ Int) :=
  (if (decide (x20 < a1)) then (if (decide (x19 > a2)) then (some (.inr x19)) else (some (.inl ((IntKind.i64.wrap (x19 * a0), IntKind.i64.wrap (x20 + 1)))))) else (some (.inr x19)))
noncomputable def impl_prime_norm (a0 : Int) (a1 : Int) (a2 : Int) : Option Int :=
  (Option.bind (α := Int) ((loopM (fun s : (Int × Int) => impl_prime_norm_l1 a1 a2 a0 s.1 s.2) (1, 0))) fun x13 => (some x13))
set_option maxHeartbeats 16000000 in
theorem impl_prime_norm_ok (a0 : Int) (a1 : Int) (a2 : Int) (r : Int) (h : impl_prime_norm a0 a1 a2 = some r) : Den Try.prog 58 [(.int .i64 a0), (.int .i64 a1), (.int .i64 a2)] { r := (.int .i64 r) } := by
  refine den_of (rs := [(.int .i64 r)]) (ac := impl_prime_norm_c) (L := impl_prime_norm_L) (n := 19) (m := []) good Try.func58 impl_prime_norm_body (by kernel_rfl) Try.ntmps58 rfl rfl impl_prime_norm_strip rfl rfl ?_
  refine a_st (σ' := ⟨[(0, (.int .i64 a0)), (1, (.int .i64 a1)), (2, (.int .i64 a2))], []⟩) (by kernel_rfl) ?_
  unfold impl_prime_norm_c
  refine a_seq ?_
  refine a_region ?_
  refine a_val (v := (.int .i64 0)) (u := []) rfl trivial rfl ?_
  refine a_nil ?_
  refine a_next (σ' := ⟨[(0, (.int .i64 a0)), (1, (.int .i64 a1)), (2, (.int .i64 a2))], []⟩) (by kernel_rfl) ?_
  refine a_seq ?_
  refine a_region ?_
  refine a_val (v := (.int .i64 1)) (u := []) rfl trivial rfl ?_
  refine a_nil ?_
  refine a_next (σ' := ⟨[(0, (.int .i64 a0)), (1, (.int .i64 a1)), (2, (.int .i64 a2)), (7, (.int .i64 1))], []⟩) (by kernel_rfl) ?_
  obtain ⟨y14, hy15, hk16⟩ := bind_some h
  clear h
  refine a_join (emb := fun (s : Int) => ⟨[(7, (.int .i64 s))], []⟩) (pre := fun s => s = y14) ?_ ?_
  · rintro x13 rfl
    have h := hk16
    refine a_st (σ' := ⟨[(7, (.int .i64 x13))], []⟩) (by kernel_rfl) ?_
    refine a_seq ?_
    refine a_region ?_
    refine a_val (v := (.int .i64 x13)) (u := []) rfl trivial rfl ?_
    refine a_val (v := (.int .i64 x13)) (u := []) rfl trivial rfl ?_
    refine a_nil ?_
    refine a_next rfl ?_
    refine a_ret ?_
    refine ⟨.inr rfl, ?_⟩
    rw [Try.results58]
    cases h
    exact ⟨_, _, _, _, _, rfl, trivial, .inl ⟨rfl, .inl rfl⟩, rfl, rfl⟩
  · have h := hy15
    refine a_seq ?_
    refine a_region ?_
    refine a_val (v := (.int .i64 a1)) (u := []) rfl trivial rfl ?_
    refine a_val (v := (.int .i64 0)) (u := []) rfl trivial rfl ?_
    refine a_nil ?_
    refine a_next (σ' := ⟨[(0, (.int .i64 a0)), (2, (.int .i64 a2)), (7, (.int .i64 1)), (8, (.int .i64 a1)), (9, (.int .i64 0))], []⟩) (by kernel_rfl) ?_
    refine a_block ?_
    refine a_loop (emb := fun (s : (Int × Int)) => ⟨[(0, (.int .i64 a0)), (2, (.int .i64 a2)), (7, (.int .i64 s.1)), (8, (.int .i64 a1)), (9, (.int .i64 s.2))], []⟩) (body := (fun s : (Int × Int) => impl_prime_norm_l1 a1 a2 a0 s.1 s.2)) (G := fun q => some q = some y14) h rfl ?_ (by kernel_rfl)
    rintro X23 ⟨x19, x20⟩ x24 h hX25
    have h : impl_prime_norm_l1 a1 a2 a0 x19 x20 = some x24 := h
    refine a_st (σ' := ⟨[(0, (.int .i64 a0)), (2, (.int .i64 a2)), (7, (.int .i64 x19)), (8, (.int .i64 a1)), (9, (.int .i64 x20))], []⟩) (by kernel_rfl) ?_
    refine a_seq ?_
    refine a_region ?_
    refine a_val (v := (.bool ((decide (x20 < a1))))) (u := []) rfl trivial rfl ?_
    refine a_nil ?_
    refine a_next (σ' := ⟨[(0, (.int .i64 a0)), (2, (.int .i64 a2)), (7, (.int .i64 x19)), (8, (.int .i64 a1)), (9, (.int .i64 x20)), (10, (.bool ((decide (x20 < a1)))))], []⟩) (by kernel_rfl) ?_
    refine a_seq ?_
    cases hb26 : (decide (x20 < a1))
    · have h := ite_f hb26 h
      refine a_cond_f rfl ?_
      refine a_exit ?_
      refine t_exit ?_
      cases h
      have h := hX25
      refine t_exit ?_
      refine b_exit ?_
      exact j_leaf x19 (Option.some.inj h) (by kernel_rfl)
    · have h := ite_t hb26 h
      refine a_cond_t rfl ?_
      refine a_skip ?_
      refine a_next (σ' := ⟨[(0, (.int .i64 a0)), (2, (.int .i64 a2)), (7, (.int .i64 x19)), (8, (.int .i64 a1)), (9, (.int .i64 x20))], []⟩) (by kernel_rfl) ?_
      refine a_seq ?_
      refine a_block ?_
      refine a_seq ?_
      refine a_seq ?_
      refine a_region ?_
      refine a_val (v := (.int .i64 x19)) (u := []) rfl trivial rfl ?_
      refine a_val (v := (.int .i64 a2)) (u := []) rfl trivial rfl ?_
      refine a_val (v := (.bool ((decide (x19 > a2))))) (u := []) rfl trivial rfl ?_
      refine a_nil ?_
      refine a_next (σ' := ⟨[(0, (.int .i64 a0)), (2, (.int .i64 a2)), (7, (.int .i64 x19)), (8, (.int .i64 a1)), (9, (.int .i64 x20)), (13, (.bool ((decide (x19 > a2)))))], []⟩) (by kernel_rfl) ?_
      cases hb27 : (decide (x19 > a2))
      · have h := ite_f hb27 h
        refine a_cond_f rfl ?_
        refine a_skip ?_
        refine a_next (σ' := ⟨[(0, (.int .i64 a0)), (2, (.int .i64 a2)), (7, (.int .i64 x19)), (8, (.int .i64 a1)), (9, (.int .i64 x20))], []⟩) (by kernel_rfl) ?_
        refine a_region ?_
        refine a_val (v := (.int .i64 x19)) (u := []) rfl trivial rfl ?_
        refine a_val (v := (.int .i64 a0)) (u := []) rfl trivial rfl ?_
        refine a_val (v := (.int .i64 (IntKind.i64.wrap (x19 * a0)))) (u := []) rfl trivial rfl ?_
        refine a_val (v := (.int .i64 (IntKind.i64.wrap (x19 * a0)))) (u := []) rfl trivial rfl ?_
        refine a_nil ?_
        refine b_norm ?_
        refine a_next (σ' := ⟨[(0, (.int .i64 a0)), (2, (.int .i64 a2)), (7, (.int .i64 (IntKind.i64.wrap (x19 * a0)))), (8, (.int .i64 a1)), (9, (.int .i64 x20))], []⟩) (by kernel_rfl) ?_
        refine a_region ?_
        refine a_val (v := (.int .i64 (IntKind.i64.wrap (x20 + 1)))) (u := []) rfl trivial rfl ?_
        refine a_val (v := (.int .i64 (IntKind.i64.wrap (x20 + 1)))) (u := []) rfl trivial rfl ?_
        refine a_nil ?_
        cases h
        exact a_again (by kernel_rfl) hX25
      · have h := ite_t hb27 h
        refine a_cond_t rfl ?_
        refine a_exit ?_
        refine t_exit ?_
        refine b_other rfl ?_
        refine t_exit ?_
        cases h
        have h := hX25
        refine t_exit ?_
        refine b_exit ?_
        exact j_leaf x19 (Option.some.inj h) (by kernel_rfl)
def impl_prime_numbered_c : ACode := (.seq (.region 0 [⟨some 4, .asg 1 (.const (.slice none 0 0)) 65, none, []⟩] false) (.seq (.region 1 [⟨some 5, .asg 2 (.const (.slice none 0 0)) 65, none, []⟩] false) (.seq (.block 0 (.loop (.seq (.seq (.region 2 [⟨some 6, .mov (.tmp 1), none, []⟩, ⟨some 7, .bin .gtr 2 (.tmp 6) (.const (.int .i64 0)), none, []⟩] false) (.cond (.tmp 7) .skip (.exit 0))) (.seq (.block 1 (.region 4 [⟨some 11, .mov (.tmp 5), none, []⟩, ⟨some 12, .mov (.tmp 1), none, []⟩, ⟨some 13, .mov (.tmp 0), none, []⟩, ⟨some 14, .bin .rem 2 (.tmp 12) (.tmp 13), none, []⟩, ⟨some 15, .bslice 0 65 1 [(0, (.tmp 14))], none, []⟩, ⟨some 16, .blt 0 .append [(.tmp 11), (.tmp 15)] [65, 65], none, []⟩, ⟨some 5, .asg 2 (.tmp 16) 65, none, []⟩] false)) (.region 3 [⟨some 8, .mov (.tmp 1), none, []⟩, ⟨some 9, .mov (.tmp 0), none, []⟩, ⟨some 10, .bin .quo 2 (.tmp 8) (.tmp 9), none, []⟩, ⟨some 1, .asg 0 (.tmp 10) 2, none, []⟩] false))))) (.seq (.region 5 [⟨some 17, .mov (.tmp 5), none, []⟩, ⟨some 4, .asg 1 (.tmp 17) 65, none, []⟩] false) .ret))))
def impl_prime_numbered_L : Live := [(0, [0, 1]), (1, [0, 1]), (2, [0, 1, 5]), (3, [0, 1, 5]), (4, [0, 1, 5]), (5, [5]), (100007, [0, 1, 5, 7])]
theorem impl_prime_numbered_body : Try.f90.body = some (Try.f90.body.getD .skip) := by kernel_rfl
theorem impl_prime_numbered_strip : strip [(4, 1), (5, 2)] (Try.f90.body.getD .skip) = impl_prime_numbered_c := by kernel_rfl
noncomputable def impl_prime_numbered_l1 (a0 : Int) (x27 : Int) (x28 : (List Int)) : Option ((Int × (List Int)) ⊕ (List Int)) :=
  (if (decide (x27 > 0)) then (ifp (a0 ≠ 0) ((ifp ((x28.length + ([Int.tmod x27 a0] : List Int).length) * 8 ≤ 140737488355328) ((ifp (a0 ≠ 0) ((some (.inl ((IntKind.i64.wrap (Int.tdiv x27 a0), (x28 ++ ([Int.tmod x27 a0])))))))))))) else (some (.inr x28)))
noncomputable def impl_prime_numbered (a0 : Int) (a1 : Int) : Option (List Int) :=
  (Option.bind (α := (List Int)) ((loopM (fun s : (Int × (List Int)) => impl_prime_numbered_l1 a0 s.1 s.2) (a1, []))) fun x19 => (some x19))
set_option maxHeartbeats 16000000 in
theorem impl_prime_numbered_ok (a0 : Int) (a1 : Int) (r : (List Int)) (h : impl_prime_numbered a0 a1 = some r) : Den Try.prog 90 [(.int .i64 a0), (.int .i64 a1)] { r := (eSi64 r) } := by
  refine den_of (rs := [(eSi64 r)]) (ac := impl_prime_numbered_c) (L := impl_prime_numbered_L) (n := 18) (m := [(4, 1), (5, 2)]) good Try.func90 impl_prime_numbered_body (by kernel_rfl) Try.ntmps90 rfl rfl impl_prime_numbered_strip rfl rfl ?_
  refine a_st (σ' := ⟨[(0, (.int .i64 a0)), (1, (.int .i64 a1))], []⟩) (by kernel_rfl) ?_
  unfold impl_prime_numbered_c
  refine a_seq ?_
  refine a_region ?_
  refine a_val (v := (eSi64 ([]))) (u := []) rfl trivial rfl ?_
  refine a_nil ?_
  refine a_next (σ' := ⟨[(0, (.int .i64 a0)), (1, (.int .i64 a1))], []⟩) (by kernel_rfl) ?_
  refine a_seq ?_
  refine a_region ?_
  refine a_val (v := (.osl 1500)) (u := [(1500, some ⟨(.row 1 (([]).map (AV.int .i64))), false⟩)]) rfl trivial rfl ?_
  refine a_nil ?_
  refine a_next (σ' := ⟨[(0, (.int .i64 a0)), (1, (.int .i64 a1)), (5, (.osl 5))], [(5, some ⟨(.row 1 (([]).map (AV.int .i64))), false⟩)]⟩) (by kernel_rfl) ?_
  obtain ⟨y20, hy21, hk22⟩ := bind_some h
  clear h
  refine a_join (emb := fun (s : (List Int)) => ⟨[(5, (.osl 5))], [(5, some ⟨(.row 1 (s.map (AV.int .i64))), false⟩)]⟩) (pre := fun s => s = y20) ?_ ?_
  · rintro x19 rfl
    have h := hk22
    refine a_st (σ' := ⟨[(5, (.osl 5))], [(5, some ⟨(.row 1 (x19.map (AV.int .i64))), false⟩)]⟩) (by kernel_rfl) ?_
    refine a_seq ?_
    refine a_region ?_
    refine a_val (v := (.osl 5)) (u := []) rfl trivial rfl ?_
    refine a_val (v := (eSi64 x19)) (u := [(5, some ⟨(.row 1 (x19.map (AV.int .i64))), true⟩)]) rfl trivial rfl ?_
    refine a_nil ?_
    refine a_next rfl ?_
    refine a_ret ?_
    refine ⟨.inr rfl, ?_⟩
    rw [Try.results90]
    cases h
    exact ⟨_, _, _, _, _, rfl, trivial, .inl ⟨rfl, .inl rfl⟩, rfl, rfl⟩
  · have h := hy21
    refine a_block ?_
    refine a_loop (emb := fun (s : (Int × (List Int))) => ⟨[(0, (.int .i64 a0)), (1, (.int .i64 s.1)), (5, (.osl 5))], [(5, some ⟨(.row 1 (s.2.map (AV.int .i64))), false⟩)]⟩) (body := (fun s : (Int × (List Int)) => impl_prime_numbered_l1 a0 s.1 s.2)) (G := fun q => some q = some y20) h rfl ?_ (by kernel_rfl)
    rintro X33 ⟨x27, x28⟩ x34 h hX35
    have h : impl_prime_numbered_l1 a0 x27 x28 = some x34 := h
    refine a_st (σ' := ⟨[(0, (.int .i64 a0)), (1, (.int .i64 x27)), (5, (.osl 5))], [(5, some ⟨(.row 1 (x28.map (AV.int .i64))), false⟩)]⟩) (by kernel_rfl) ?_
    refine a_seq ?_
    refine a_seq ?_
    refine a_region ?_
    refine a_val (v := (.int .i64 x27)) (u := []) rfl trivial rfl ?_
    refine a_val (v := (.bool ((decide (x27 > 0))))) (u := []) rfl trivial rfl ?_
    refine a_nil ?_
    refine a_next (σ' := ⟨[(0, (.int .i64 a0)), (1, (.int .i64 x27)), (5, (.osl 5)), (7, (.bool ((decide (x27 > 0)))))], [(5, some ⟨(.row 1 (x28.map (AV.int .i64))), false⟩)]⟩) (by kernel_rfl) ?_
    cases hb36 : (decide (x27 > 0))
    · have h := ite_f hb36 h
      refine a_cond_f rfl ?_
      refine a_exit ?_
      refine t_exit ?_
      cases h
      have h := hX35
      refine t_exit ?_
      refine b_exit ?_
      exact j_leaf x28 (Option.some.inj h) (by kernel_rfl)
    · have h := ite_t hb36 h
      refine a_cond_t rfl ?_
      refine a_skip ?_
      refine a_next (σ' := ⟨[(0, (.int .i64 a0)), (1, (.int .i64 x27)), (5, (.osl 5))], [(5, some ⟨(.row 1 (x28.map (AV.int .i64))), false⟩)]⟩) (by kernel_rfl) ?_
      refine a_seq ?_
      refine a_block ?_
      refine a_region ?_
      refine a_val (v := (.osl 5)) (u := []) rfl trivial rfl ?_
      refine a_val (v := (.int .i64 x27)) (u := []) rfl trivial rfl ?_
      refine a_val (v := (.int .i64 a0)) (u := []) rfl trivial rfl ?_
      obtain ⟨hc37, h⟩ := ifp_some h
      refine a_val (v := (.int .i64 (Int.tmod x27 a0))) (u := []) rfl hc37 rfl ?_
      refine a_val (v := (.sl 1 true (([Int.tmod x27 a0]).map (AV.int .i64)))) (u := []) rfl ⟨(Nat.le_of_ble_eq_true rfl), (Nat.le_of_ble_eq_true rfl), (all_cons ⟨(Nat.le_of_ble_eq_true rfl), rfl⟩ all_nil)⟩ rfl ?_
      obtain ⟨hc38, h⟩ := ifp_some h
      refine a_val (v := (.osl 2600)) (u := [(2600, some ⟨(.row 1 (((x28 ++ ([Int.tmod x27 a0]))).map (AV.int .i64))), false⟩), (5, none)]) (app_run (i := ⟨.int .i64, 1, 8, (.int .i64 0)⟩) (f := (AV.int .i64)) (l := x28) (l2 := [Int.tmod x27 a0]) rfl rfl rfl rfl (fun _ => rfl) rfl rfl) (app_c (f := (AV.int .i64)) (s := 1) (sz := 1) (by' := 8) (u := []) (id := 5) hc38 (.inr rfl) rfl rfl rfl) rfl ?_
      refine a_val (v := (.osl 2600)) (u := []) rfl trivial rfl ?_
      refine a_nil ?_
      refine b_norm ?_
      refine a_next (σ' := ⟨[(0, (.int .i64 a0)), (1, (.int .i64 x27)), (5, (.osl 5))], [(5, some ⟨(.row 1 (((x28 ++ ([Int.tmod x27 a0]))).map (AV.int .i64))), false⟩)]⟩) (by kernel_rfl) ?_
      refine a_region ?_
      refine a_val (v := (.int .i64 x27)) (u := []) rfl trivial rfl ?_
      refine a_val (v := (.int .i64 a0)) (u := []) rfl trivial rfl ?_
      obtain ⟨hc39, h⟩ := ifp_some h
      refine a_val (v := (.int .i64 (IntKind.i64.wrap (Int.tdiv x27 a0)))) (u := []) rfl hc39 rfl ?_
      refine a_val (v := (.int .i64 (IntKind.i64.wrap (Int.tdiv x27 a0)))) (u := []) rfl trivial rfl ?_
      refine a_nil ?_
      cases h
      exact a_again (by kernel_rfl) hX35
def impl_prime_withDegree_c : ACode := (.seq (.region 0 [⟨some 6, .asg 1 (.const (.slice none 0 0)) 65, none, []⟩] false) (.seq (.seq (.region 1 [⟨some 10, .mov (.tmp 1), none, []⟩, ⟨some 11, .call 0 (.func 59) [(.tmp 10)], none, []⟩, ⟨some 12, .mov (.tmp 2), none, []⟩, ⟨some 13, .bin .eql 2 (.tmp 11) (.tmp 12), none, []⟩] false) (.cond (.tmp 13) (.seq (.region 2 [⟨some 14, .mov (.tmp 0), none, []⟩, ⟨some 15, .mov (.tmp 1), none, []⟩, ⟨some 16, .mov (.tmp 0), none, []⟩, ⟨some 17, .mov (.tmp 1), none, []⟩, ⟨some 18, .call 0 (.func 101) [(.tmp 17)], none, []⟩, ⟨some 19, .call 0 (.func 106) [(.tmp 16), (.tmp 18)], none, []⟩, ⟨some 20, .call 0 (.func 105) [(.tmp 14), (.tmp 15), (.tmp 19)], none, []⟩, ⟨some 6, .asg 1 (.tmp 20) 65, none, []⟩] false) .ret) .skip)) (.seq (.region 3 [⟨some 21, .mov (.tmp 0), none, []⟩, ⟨some 22, .mov (.tmp 2), none, []⟩, ⟨some 23, .call 0 (.func 58) [(.tmp 21), (.tmp 22), (.const (.int .i64 1099511627776))], none, []⟩, ⟨some 7, .asg 0 (.tmp 23) 2, none, []⟩] false) (.seq (.seq (.region 4 [⟨some 24, .mov (.tmp 7), none, []⟩, ⟨some 8, .asg 0 (.tmp 24) 2, none, []⟩] false) (.block 0 (.loop (.seq (.seq (.region 5 [⟨some 25, .mov (.tmp 8), none, []⟩, ⟨some 26, .mov (.tmp 7), none, []⟩, ⟨some 27, .bin .mul 2 (.const (.int .i64 2)) (.tmp 26), none, []⟩, ⟨some 28, .bin .lss 2 (.tmp 25) (.tmp 27), none, []⟩] false) (.cond (.tmp 28) .skip (.exit 0))) (.seq (.block 1 (.seq (.region 7 [⟨some 31, .mov (.tmp 0), none, []⟩, ⟨some 32, .mov (.tmp 8), none, []⟩, ⟨some 33, .call 0 (.func 90) [(.tmp 31), (.tmp 32)], none, []⟩, ⟨some 9, .asg 1 (.tmp 33) 65, none, []⟩] false) (.seq (.region 8 [⟨some 34, .mov (.tmp 0), none, []⟩, ⟨some 35, .mov (.tmp 1), none, []⟩, ⟨some 36, .mov (.tmp 9), none, []⟩, ⟨some 37, .call 0 (.func 135) [(.tmp 34), (.tmp 35), (.tmp 36)], none, []⟩, ⟨some 38, .blt 0 .len [(.tmp 37)] [65], none, []⟩, ⟨some 39, .bin .eql 3 (.tmp 38) (.const (.int .i64 0)), none, []⟩] false) (.cond (.tmp 39) (.seq (.region 9 [⟨some 40, .mov (.tmp 9), none, []⟩, ⟨some 6, .asg 1 (.tmp 40) 65, none, []⟩] false) .ret) .skip)))) (.region 6 [⟨some 29, .mov (.tmp 8), none, []⟩, ⟨some 30, .bin .add 2 (.tmp 29) (.const (.int .i64 1)), none, []⟩, ⟨some 8, .asg 0 (.tmp 30) 2, none, []⟩] false)))))) (.seq (.region 10 [⟨some 41, .mov (.tmp 1), none, []⟩, ⟨some 6, .asg 1 (.tmp 41) 65, none, []⟩] false) .ret)))))
def impl_prime_withDegree_L : Live := [(0, [0, 1, 2]), (1, [0, 1, 2]), (2, [0, 1]), (3, [0, 1, 2]), (4, [0, 1, 7]), (5, [0, 1, 7, 8]), (6, [0, 1, 7, 8]), (7, [0, 1, 7, 8]), (8, [0, 1, 7, 8, 9]), (9, [9]), (10, [1]), (100013, [0, 1, 2, 13]), (100028, [0, 1, 7, 8, 28]), (100039, [0, 1, 7, 8, 9, 39])]
theorem impl_prime_withDegree_body : Try.f111.body = some (Try.f111.body.getD .skip) := by kernel_rfl
theorem impl_prime_withDegree_strip : strip [(6, 1), (9, 1)] (Try.f111.body.getD .skip) = impl_prime_withDegree_c := by kernel_rfl
noncomputable def impl_prime_withDegree_l1 (r4 : Int) (a0 : Int) (a1 : (List Int)) (x38 : Int) : Option (Int ⊕ (Unit ⊕ (List Int))) :=
  (if (decide (x38 < (IntKind.i64.wrap (2 * r4)))) then (Option.bind (impl_prime_numbered a0 x38) fun r49 => (Option.bind (impl_prime_rest a0 a1 r49) fun r51 => (if ((r51.length : Int) == 0) then (some (.inr (.inr r49))) else (some (.inl (IntKind.i64.wrap (x38 + 1))))))) else (some (.inr (((.inl ()))))))
noncomputable def impl_prime_withDegree (a0 : Int) (a1 : (List Int)) (a2 : Int) : Option (List Int) :=
  (Option.bind (impl_row_degree a1) fun r1 => (if (r1 == a2) then (Option.bind (impl_row_lead a1) fun r56 => (Option.bind (impl_prime_inverse a0 r56) fun r58 => (Option.bind (impl_prime_scale a0 a1 r58) fun r60 => (some r60)))) else (Option.bind (impl_prime_norm a0 a2 1099511627776) fun r4 => (Option.bind (α := (Unit ⊕ (List Int))) ((loopM (fun s : Int => impl_prime_withDegree_l1 r4 a0 a1 s) r4)) fun z => match z with | .inl _ => (some a1) | .inr r55 => (some r55)))))
set_option maxHeartbeats 16000000 in
theorem impl_prime_withDegree_ok (a0 : Int) (a1 : (List Int)) (a2 : Int) (r : (List Int)) (h : impl_prime_withDegree a0 a1 a2 = some r) : Den Try.prog 111 [(.int .i64 a0), (eSi64 a1), (.int .i64 a2)] { r := (eSi64 r) } := by
  refine den_of (rs := [(eSi64 r)]) (ac := impl_prime_withDegree_c) (L := impl_prime_withDegree_L) (n := 42) (m := [(6, 1), (9, 1)]) good Try.func111 impl_prime_withDegree_body (by kernel_rfl) Try.ntmps111 rfl rfl impl_prime_withDegree_strip rfl rfl ?_
  refine a_st (σ' := ⟨[(0, (.int .i64 a0)), (1, (eSi64 a1)), (2, (.int .i64 a2))], []⟩) (by kernel_rfl) ?_
  unfold impl_prime_withDegree_c
  refine a_seq ?_
  refine a_region ?_
  refine a_val (v := (eSi64 ([]))) (u := []) rfl trivial rfl ?_
  refine a_nil ?_
  refine a_next (σ' := ⟨[(0, (.int .i64 a0)), (1, (eSi64 a1)), (2, (.int .i64 a2))], []⟩) (by kernel_rfl) ?_
  refine a_seq ?_
  refine a_seq ?_
  refine a_region ?_
  refine a_val (v := (eSi64 a1)) (u := []) rfl trivial rfl ?_
  obtain ⟨r1, hr2, h⟩ := bind_some h
  refine a_call (args := [(eSi64 a1)]) (u := []) (r := (.int .i64 r1)) rfl rfl (impl_row_degree_ok a1 r1 hr2) rfl ?_
  refine a_val (v := (.int .i64 a2)) (u := []) rfl trivial rfl ?_
  refine a_val (v := (.bool (r1 == a2))) (u := []) rfl trivial rfl ?_
  refine a_nil ?_
  refine a_next (σ' := ⟨[(0, (.int .i64 a0)), (1, (eSi64 a1)), (2, (.int .i64 a2)), (13, (.bool (r1 == a2)))], []⟩) (by kernel_rfl) ?_
  cases hb3 : (r1 == a2)
  · have h := ite_f hb3 h
    refine a_cond_f rfl ?_
    refine a_skip ?_
    refine a_next (σ' := ⟨[(0, (.int .i64 a0)), (1, (eSi64 a1)), (2, (.int .i64 a2))], []⟩) (by kernel_rfl) ?_
    refine a_seq ?_
    refine a_region ?_
    refine a_val (v := (.int .i64 a0)) (u := []) rfl trivial rfl ?_
    refine a_val (v := (.int .i64 a2)) (u := []) rfl trivial rfl ?_
    obtain ⟨r4, hr5, h⟩ := bind_some h
    refine a_call (args := [(.int .i64 a0), (.int .i64 a2), (.int .i64 1099511627776)]) (u := []) (r := (.int .i64 r4)) rfl rfl (impl_prime_norm_ok a0 a2 1099511627776 r4 hr5) rfl ?_
    refine a_val (v := (.int .i64 r4)) (u := []) rfl trivial rfl ?_
    refine a_nil ?_
    refine a_next (σ' := ⟨[(0, (.int .i64 a0)), (1, (eSi64 a1)), (7, (.int .i64 r4))], []⟩) (by kernel_rfl) ?_
    obtain ⟨y29, hy30, hk31⟩ := bind_some h
    clear h
    refine a_join (emb := fun (s : Unit) => ⟨[(1, (eSi64 a1))], []⟩) (pre := fun s => (.inl s) = y29) ?_ ?_
    · rintro _ rfl
      have h := hk31
      refine a_st (σ' := ⟨[(1, (eSi64 a1))], []⟩) (by kernel_rfl) ?_
      refine a_seq ?_
      refine a_region ?_
      refine a_val (v := (eSi64 a1)) (u := []) rfl trivial rfl ?_
      refine a_val (v := (eSi64 a1)) (u := []) rfl trivial rfl ?_
      refine a_nil ?_
      refine a_next rfl ?_
      refine a_ret ?_
      refine ⟨.inr rfl, ?_⟩
      rw [Try.results111]
      cases h
      exact ⟨_, _, _, _, _, rfl, trivial, .inl ⟨rfl, .inl rfl⟩, rfl, rfl⟩
    · have h := hy30
      refine a_seq ?_
      refine a_region ?_
      refine a_val (v := (.int .i64 r4)) (u := []) rfl trivial rfl ?_
      refine a_val (v := (.int .i64 r4)) (u := []) rfl trivial rfl ?_
      refine a_nil ?_
      refine a_next (σ' := ⟨[(0, (.int .i64 a0)), (1, (eSi64 a1)), (7, (.int .i64 r4)), (8, (.int .i64 r4))], []⟩) (by kernel_rfl) ?_
      refine a_block ?_
      refine a_loop (emb := fun (s : Int) => ⟨[(0, (.int .i64 a0)), (1, (eSi64 a1)), (7, (.int .i64 r4)), (8, (.int .i64 s))], []⟩) (body := (fun s : Int => impl_prime_withDegree_l1 r4 a0 a1 s)) (G := fun q => some q = some y29) h rfl ?_ (by kernel_rfl)
      rintro X45 x38 x46 h hX47
      have h : impl_prime_withDegree_l1 r4 a0 a1 x38 = some x46 := h
      refine a_st (σ' := ⟨[(0, (.int .i64 a0)), (1, (eSi64 a1)), (7, (.int .i64 r4)), (8, (.int .i64 x38))], []⟩) (by kernel_rfl) ?_
      refine a_seq ?_
      refine a_seq ?_
      refine a_region ?_
      refine a_val (v := (.int .i64 x38)) (u := []) rfl trivial rfl ?_
      refine a_val (v := (.int .i64 r4)) (u := []) rfl trivial rfl ?_
      refine a_val (v := (.int .i64 (IntKind.i64.wrap (2 * r4)))) (u := []) rfl trivial rfl ?_
      refine a_val (v := (.bool ((decide (x38 < (IntKind.i64.wrap (2 * r4))))))) (u := []) rfl trivial rfl ?_
      refine a_nil ?_
      refine a_next (σ' := ⟨[(0, (.int .i64 a0)), (1, (eSi64 a1)), (7, (.int .i64 r4)), (8, (.int .i64 x38)), (28, (.bool ((decide (x38 < (IntKind.i64.wrap (2 * r4)))))))], []⟩) (by kernel_rfl) ?_
      cases hb48 : (decide (x38 < (IntKind.i64.wrap (2 * r4))))
      · have h := ite_f hb48 h
        refine a_cond_f rfl ?_
        refine a_exit ?_
        refine t_exit ?_
        cases h
        have h := hX47
        refine t_exit ?_
        refine b_exit ?_
        exact j_leaf () (Option.some.inj h) (by kernel_rfl)
      · have h := ite_t hb48 h
        refine a_cond_t rfl ?_
        refine a_skip ?_
        refine a_next (σ' := ⟨[(0, (.int .i64 a0)), (1, (eSi64 a1)), (7, (.int .i64 r4)), (8, (.int .i64 x38))], []⟩) (by kernel_rfl) ?_
        refine a_seq ?_
        refine a_block ?_
        refine a_seq ?_
        refine a_region ?_
        refine a_val (v := (.int .i64 a0)) (u := []) rfl trivial rfl ?_
        refine a_val (v := (.int .i64 x38)) (u := []) rfl trivial rfl ?_
        obtain ⟨r49, hr50, h⟩ := bind_some h
        refine a_call (args := [(.int .i64 a0), (.int .i64 x38)]) (u := []) (r := (eSi64 r49)) rfl rfl (impl_prime_numbered_ok a0 x38 r49 hr50) rfl ?_
        refine a_val (v := (eSi64 r49)) (u := []) rfl trivial rfl ?_
        refine a_nil ?_
        refine a_next (σ' := ⟨[(0, (.int .i64 a0)), (1, (eSi64 a1)), (7, (.int .i64 r4)), (8, (.int .i64 x38)), (9, (eSi64 r49))], []⟩) (by kernel_rfl) ?_
        refine a_seq ?_
        refine a_region ?_
        refine a_val (v := (.int .i64 a0)) (u := []) rfl trivial rfl ?_
        refine a_val (v := (eSi64 a1)) (u := []) rfl trivial rfl ?_
        refine a_val (v := (eSi64 r49)) (u := []) rfl trivial rfl ?_
        obtain ⟨r51, hr52, h⟩ := bind_some h
        refine a_call (args := [(.int .i64 a0), (eSi64 a1), (eSi64 r49)]) (u := []) (r := (eSi64 r51)) rfl rfl (impl_prime_rest_ok a0 a1 r49 r51 hr52) rfl ?_
        refine a_val (v := (.int .i64 (r51.length : Int))) (u := []) (len_run rfl rfl) trivial rfl ?_
        refine a_val (v := (.bool (((r51.length : Int) == 0)))) (u := []) rfl trivial rfl ?_
        refine a_nil ?_
        refine a_next (σ' := ⟨[(0, (.int .i64 a0)), (1, (eSi64 a1)), (7, (.int .i64 r4)), (8, (.int .i64 x38)), (9, (eSi64 r49)), (39, (.bool (((r51.length : Int) == 0))))], []⟩) (by kernel_rfl) ?_
        cases hb53 : ((r51.length : Int) == 0)
        · have h := ite_f hb53 h
          refine a_cond_f rfl ?_
          refine a_skip ?_
          refine b_norm ?_
          refine a_next (σ' := ⟨[(0, (.int .i64 a0)), (1, (eSi64 a1)), (7, (.int .i64 r4)), (8, (.int .i64 x38))], []⟩) (by kernel_rfl) ?_
          refine a_region ?_
          refine a_val (v := (.int .i64 x38)) (u := []) rfl trivial rfl ?_
          refine a_val (v := (.int .i64 (IntKind.i64.wrap (x38 + 1)))) (u := []) rfl trivial rfl ?_
          refine a_val (v := (.int .i64 (IntKind.i64.wrap (x38 + 1)))) (u := []) rfl trivial rfl ?_
          refine a_nil ?_
          cases h
          exact a_again (by kernel_rfl) hX47
        · have h := ite_t hb53 h
          refine a_cond_t rfl ?_
          refine a_seq ?_
          refine a_region ?_
          refine a_val (v := (eSi64 r49)) (u := []) rfl trivial rfl ?_
          refine a_val (v := (eSi64 r49)) (u := []) rfl trivial rfl ?_
          refine a_nil ?_
          refine a_next rfl ?_
          refine a_ret ?_
          refine b_ret ?_
          refine t_ret ?_
          cases h
          have h := hX47
          refine t_ret ?_
          refine b_ret ?_
          refine t_ret ?_
          cases h
          have h := hk31
          refine ⟨.inr rfl, ?_⟩
          rw [Try.results111]
          cases h
          exact ⟨_, _, _, _, _, rfl, trivial, .inl ⟨rfl, .inl rfl⟩, rfl, rfl⟩
  · have h := ite_t hb3 h
    refine a_cond_t rfl ?_
    refine a_seq ?_
    refine a_region ?_
    refine a_val (v := (.int .i64 a0)) (u := []) rfl trivial rfl ?_
    refine a_val (v := (eSi64 a1)) (u := []) rfl trivial rfl ?_
    refine a_val (v := (.int .i64 a0)) (u := []) rfl trivial rfl ?_
    refine a_val (v := (eSi64 a1)) (u := []) rfl trivial rfl ?_
    obtain ⟨r56, hr57, h⟩ := bind_some h
    refine a_call (args := [(eSi64 a1)]) (u := []) (r := (.int .i64 r56)) rfl rfl (impl_row_lead_ok a1 r56 hr57) rfl ?_
    obtain ⟨r58, hr59, h⟩ := bind_some h
    refine a_call (args := [(.int .i64 a0), (.int .i64 r56)]) (u := []) (r := (.int .i64 r58)) rfl rfl (impl_prime_inverse_ok a0 r56 r58 hr59) rfl ?_
    obtain ⟨r60, hr61, h⟩ := bind_some h
    refine a_call (args := [(.int .i64 a0), (eSi64 a1), (.int .i64 r58)]) (u := []) (r := (eSi64 r60)) rfl rfl (impl_prime_scale_ok a0 a1 r58 r60 hr61) rfl ?_
    refine a_val (v := (eSi64 r60)) (u := []) rfl trivial rfl ?_
    refine a_nil ?_
    refine a_next rfl ?_
    refine a_ret ?_
    refine t_ret ?_
    refine ⟨.inr rfl, ?_⟩
    rw [Try.results111]
    cases h
    exact ⟨_, _, _, _, _, rfl, trivial, .inl ⟨rfl, .inl rfl⟩, rfl, rfl⟩
def impl_prime_strip_c : ACode := (.seq (.region 0 [⟨some 6, .asg 1 (.const (.slice none 0 0)) 65, none, []⟩, ⟨some 7, .asg 0 (.const (.int .i64 0)) 2, none, []⟩] false) (.seq (.region 1 [⟨some 8, .asg 0 (.const (.int .i64 0)) 2, none, []⟩] false) (.block 0 (.loop (.block 1 (.seq (.region 2 [⟨some 12, .mov (.tmp 0), none, []⟩, ⟨some 13, .mov (.tmp 1), none, []⟩, ⟨some 14, .mov (.tmp 2), none, []⟩, ⟨some 15, .call 0 (.func 139) [(.tmp 12), (.tmp 13), (.tmp 14)], none, []⟩, ⟨some 11, .mov (.tmp 15), none, []⟩, ⟨some 16, .extract (.tmp 11) 0, none, []⟩, ⟨some 17, .extract (.tmp 11) 1, none, []⟩, ⟨some 9, .asg 1 (.tmp 16) 65, none, []⟩, ⟨some 10, .asg 1 (.tmp 17) 65, none, []⟩] false) (.seq (.seq (.region 3 [⟨some 18, .mov (.tmp 10), none, []⟩, ⟨some 19, .blt 0 .len [(.tmp 18)] [65], none, []⟩, ⟨some 20, .bin .gtr 3 (.tmp 19) (.const (.int .i64 0)), none, []⟩] false) (.cond (.tmp 20) (.seq (.region 4 [⟨some 21, .mov (.tmp 1), none, []⟩, ⟨some 22, .mov (.tmp 8), none, []⟩, ⟨some 6, .asg 1 (.tmp 21) 65, none, []⟩, ⟨some 7, .asg 0 (.tmp 22) 2, none, []⟩] false) .ret) .skip)) (.seq (.region 5 [⟨some 23, .mov (.tmp 9), none, []⟩, ⟨some 1, .asg 1 (.tmp 23) 65, none, []⟩] false) (.region 6 [⟨some 24, .mov (.tmp 8), none, []⟩, ⟨some 25, .bin .add 2 (.tmp 24) (.const (.int .i64 1)), none, []⟩, ⟨some 8, .asg 0 (.tmp 25) 2, none, []⟩] false)))))))))
def impl_prime_strip_L : Live := [(0, [0, 1, 2]), (1, [0, 1, 2]), (2, [0, 1, 2, 8]), (3, [0, 1, 2, 8, 9, 10]), (4, [1, 8]), (5, [0, 2, 8, 9]), (6, [0, 1, 2, 8]), (100020, [0, 1, 2, 8, 9, 20])]
theorem impl_prime_strip_body : Try.f112.body = some (Try.f112.body.getD .skip) := by kernel_rfl
theorem impl_prime_strip_strip : strip [(1, 1), (6, 1), (9, 1), (10, 1)] (Try.f112.body.getD .skip) = impl_prime_strip_c := by kernel_rfl
noncomputable def impl_prime_strip_l1 (a0 : Int) (a2 : (List Int)) (x4 : (List Int)) (x5 : Int) : Option (((List Int) × Int) ⊕ ((List Int) × Int)) :=
  (Option.bind (impl_prime_divide a0 x4 a2) fun r12 => (if (decide ((r12.2.length : Int) > 0)) then (some (.inr (x4, x5))) else (some (.inl ((r12.1, IntKind.i64.wrap (x5 + 1)))))))
noncomputable def impl_prime_strip (a0 : Int) (a1 : (List Int)) (a2 : (List Int)) : Option ((List Int) × Int) :=
  (loopM (fun s : ((List Int) × Int) => impl_prime_strip_l1 a0 a2 s.1 s.2) (a1, 0))
set_option maxHeartbeats 16000000 in
theorem impl_prime_strip_ok (a0 : Int) (a1 : (List Int)) (a2 : (List Int)) (r : ((List Int) × Int)) (h : impl_prime_strip a0 a1 a2 = some r) : Den Try.prog 112 [(.int .i64 a0), (eSi64 a1), (eSi64 a2)] { r := (.tuple [(eSi64 r.1), (.int .i64 r.2)]) } := by
  refine den_of (rs := [(eSi64 r.1), (.int .i64 r.2)]) (ac := impl_prime_strip_c) (L := impl_prime_strip_L) (n := 26) (m := [(1, 1), (6, 1), (9, 1), (10, 1)]) good Try.func112 impl_prime_strip_body (by kernel_rfl) Try.ntmps112 rfl rfl impl_prime_strip_strip rfl rfl ?_
  refine a_st (σ' := ⟨[(0, (.int .i64 a0)), (1, (eSi64 a1)), (2, (eSi64 a2))], []⟩) (by kernel_rfl) ?_
  unfold impl_prime_strip_c
  refine a_seq ?_
  refine a_region ?_
  refine a_val (v := (eSi64 ([]))) (u := []) rfl trivial rfl ?_
  refine a_val (v := (.int .i64 0)) (u := []) rfl trivial rfl ?_
  refine a_nil ?_
  refine a_next (σ' := ⟨[(0, (.int .i64 a0)), (1, (eSi64 a1)), (2, (eSi64 a2))], []⟩) (by kernel_rfl) ?_
  refine a_seq ?_
  refine a_region ?_
  refine a_val (v := (.int .i64 0)) (u := []) rfl trivial rfl ?_
  refine a_nil ?_
  refine a_next (σ' := ⟨[(0, (.int .i64 a0)), (1, (eSi64 a1)), (2, (eSi64 a2)), (8, (.int .i64 0))], []⟩) (by kernel_rfl) ?_
  refine a_block ?_
  refine a_loop (emb := fun (s : ((List Int) × Int)) => ⟨[(0, (.int .i64 a0)), (1, (eSi64 s.1)), (2, (eSi64 a2)), (8, (.int .i64 s.2))], []⟩) (body := (fun s : ((List Int) × Int) => impl_prime_strip_l1 a0 a2 s.1 s.2)) (G := fun q => some q = some r) h rfl ?_ (by kernel_rfl)
  rintro X9 ⟨x4, x5⟩ x10 h hX11
  have h : impl_prime_strip_l1 a0 a2 x4 x5 = some x10 := h
  refine a_st (σ' := ⟨[(0, (.int .i64 a0)), (1, (eSi64 x4)), (2, (eSi64 a2)), (8, (.int .i64 x5))], []⟩) (by kernel_rfl) ?_
  refine a_block ?_
  refine a_seq ?_
  refine a_region ?_
  refine a_val (v := (.int .i64 a0)) (u := []) rfl trivial rfl ?_
  refine a_val (v := (eSi64 x4)) (u := []) rfl trivial rfl ?_
  refine a_val (v := (eSi64 a2)) (u := []) rfl trivial rfl ?_
  obtain ⟨r12, hr13, h⟩ := bind_some h
  refine a_call (args := [(.int .i64 a0), (eSi64 x4), (eSi64 a2)]) (u := []) (r := (.tuple [(eSi64 r12.1), (eSi64 r12.2)])) rfl rfl (impl_prime_divide_ok a0 x4 a2 r12 hr13) rfl ?_
  refine a_val (v := (.tuple [(eSi64 r12.1), (eSi64 r12.2)])) (u := []) rfl trivial rfl ?_
  refine a_val (v := (eSi64 r12.1)) (u := []) rfl (Nat.le_of_ble_eq_true rfl) rfl ?_
  refine a_val (v := (eSi64 r12.2)) (u := []) rfl (Nat.le_of_ble_eq_true rfl) rfl ?_
  refine a_val (v := (eSi64 r12.1)) (u := []) rfl trivial rfl ?_
  refine a_val (v := (eSi64 r12.2)) (u := []) rfl trivial rfl ?_
  refine a_nil ?_
  refine a_next (σ' := ⟨[(0, (.int .i64 a0)), (1, (eSi64 x4)), (2, (eSi64 a2)), (8, (.int .i64 x5)), (9, (eSi64 r12.1)), (10, (eSi64 r12.2))], []⟩) (by kernel_rfl) ?_
  refine a_seq ?_
  refine a_seq ?_
  refine a_region ?_
  refine a_val (v := (eSi64 r12.2)) (u := []) rfl trivial rfl ?_
  refine a_val (v := (.int .i64 (r12.2.length : Int))) (u := []) (len_run rfl rfl) trivial rfl ?_
  refine a_val (v := (.bool ((decide ((r12.2.length : Int) > 0))))) (u := []) rfl trivial rfl ?_
  refine a_nil ?_
  refine a_next (σ' := ⟨[(0, (.int .i64 a0)), (1, (eSi64 x4)), (2, (eSi64 a2)), (8, (.int .i64 x5)), (9, (eSi64 r12.1)), (20, (.bool ((decide ((r12.2.length : Int) > 0)))))], []⟩) (by kernel_rfl) ?_
  cases hb14 : (decide ((r12.2.length : Int) > 0))
  · have h := ite_f hb14 h
    refine a_cond_f rfl ?_
    refine a_skip ?_
    refine a_next (σ' := ⟨[(0, (.int .i64 a0)), (2, (eSi64 a2)), (8, (.int .i64 x5)), (9, (eSi64 r12.1))], []⟩) (by kernel_rfl) ?_
    refine a_seq ?_
    refine a_region ?_
    refine a_val (v := (eSi64 r12.1)) (u := []) rfl trivial rfl ?_
    refine a_val (v := (eSi64 r12.1)) (u := []) rfl trivial rfl ?_
    refine a_nil ?_
    refine a_next (σ' := ⟨[(0, (.int .i64 a0)), (1, (eSi64 r12.1)), (2, (eSi64 a2)), (8, (.int .i64 x5))], []⟩) (by kernel_rfl) ?_
    refine a_region ?_
    refine a_val (v := (.int .i64 x5)) (u := []) rfl trivial rfl ?_
    refine a_val (v := (.int .i64 (IntKind.i64.wrap (x5 + 1)))) (u := []) rfl trivial rfl ?_
    refine a_val (v := (.int .i64 (IntKind.i64.wrap (x5 + 1)))) (u := []) rfl trivial rfl ?_
    refine a_nil ?_
    refine b_norm ?_
    cases h
    exact a_again (by kernel_rfl) hX11
  · have h := ite_t hb14 h
    refine a_cond_t rfl ?_
    refine a_seq ?_
    refine a_region ?_
    refine a_val (v := (eSi64 x4)) (u := []) rfl trivial rfl ?_
    refine a_val (v := (.int .i64 x5)) (u := []) rfl trivial rfl ?_
    refine a_val (v := (eSi64 x4)) (u := []) rfl trivial rfl ?_
    refine a_val (v := (.int .i64 x5)) (u := []) rfl trivial rfl ?_
    refine a_nil ?_
    refine a_next rfl ?_
    refine a_ret ?_
    refine t_ret ?_
    refine b_ret ?_
    cases h
    have h := hX11
    refine t_ret ?_
    refine b_ret ?_
    refine ⟨.inr rfl, ?_⟩
    rw [Try.results112]
    cases h
    exact ⟨_, _, _, _, _, rfl, trivial, .inl ⟨rfl, .inl rfl⟩, rfl, ⟨_, _, _, _, _, rfl, trivial, .inl ⟨rfl, .inl rfl⟩, rfl, rfl⟩⟩
def math_bits_Len64_c : ACode := (.seq (.region 0 [⟨some 2, .asg 0 (.const (.int .i64 0)) 3, none, []⟩] false) (.seq (.seq (.region 1 [⟨some 3, .mov (.tmp 0), none, []⟩, ⟨some 4, .bin .geq 160 (.tmp 3) (.const (.int .u64 4294967296)), none, []⟩] false) (.cond (.tmp 4) (.seq (.region 2 [⟨some 5, .mov (.tmp 0), none, []⟩, ⟨some 6, .bin .shr 160 (.tmp 5) (.const (.int .u64 32)), none, []⟩, ⟨some 0, .asg 0 (.tmp 6) 160, none, []⟩] false) (.region 3 [⟨some 2, .asg 0 (.const (.int .i64 32)) 3, none, []⟩] false)) .skip)) (.seq (.seq (.region 4 [⟨some 7, .mov (.tmp 0), none, []⟩, ⟨some 8, .bin .geq 160 (.tmp 7) (.const (.int .u64 65536)), none, []⟩] false) (.cond (.tmp 8) (.seq (.region 5 [⟨some 9, .mov (.tmp 0), none, []⟩, ⟨some 10, .bin .shr 160 (.tmp 9) (.const (.int .u64 16)), none, []⟩, ⟨some 0, .asg 0 (.tmp 10) 160, none, []⟩] false) (.region 6 [⟨some 11, .mov (.tmp 2), none, []⟩, ⟨some 12, .bin .add 3 (.tmp 11) (.const (.int .i64 16)), none, []⟩, ⟨some 2, .asg 0 (.tmp 12) 3, none, []⟩] false)) .skip)) (.seq (.seq (.region 7 [⟨some 13, .mov (.tmp 0), none, []⟩, ⟨some 14, .bin .geq 160 (.tmp 13) (.const (.int .u64 256)), none, []⟩] false) (.cond (.tmp 14) (.seq (.region 8 [⟨some 15, .mov (.tmp 0), none, []⟩, ⟨some 16, .bin .shr 160 (.tmp 15) (.const (.int .u64 8)), none, []⟩, ⟨some 0, .asg 0 (.tmp 16) 160, none, []⟩] false) (.region 9 [⟨some 17, .mov (.tmp 2), none, []⟩, ⟨some 18, .bin .add 3 (.tmp 17) (.const (.int .i64 8)), none, []⟩, ⟨some 2, .asg 0 (.tmp 18) 3, none, []⟩] false)) .skip)) (.seq (.region 10 [⟨some 19, .mov (.tmp 2), none, []⟩, ⟨some 20, .mov (.tmp 0), none, []⟩, ⟨some 21, .conv 160 5 (.tmp 20), none, []⟩, ⟨some 22, .index 9 (.const (.string ⟨#[0, 1, 2, 2, 3, 3, 3, 3, 4, 4, 4, 4, 4, 4, 4, 4, 5, 5, 5, 5, 5, 5, 5, 5, 5, 5, 5, 5, 5, 5, 5, 5, 6, 6, 6, 6, 6, 6, 6, 6, 6, 6, 6, 6, 6, 6, 6, 6, 6, 6, 6, 6, 6, 6, 6, 6, 6, 6, 6, 6, 6, 6, 6, 6, 7, 7, 7, 7, 7, 7, 7, 7, 7, 7, 7, 7, 7, 7, 7, 7, 7, 7, 7, 7, 7, 7, 7, 7, 7, 7, 7, 7, 7, 7, 7, 7, 7, 7, 7, 7, 7, 7, 7, 7, 7, 7, 7, 7, 7, 7, 7, 7, 7, 7, 7, 7, 7, 7, 7, 7, 7, 7, 7, 7, 7, 7, 7, 7, 8, 8, 8, 8, 8, 8, 8, 8, 8, 8, 8, 8, 8, 8, 8, 8, 8, 8, 8, 8, 8, 8, 8, 8, 8, 8, 8, 8, 8, 8, 8, 8, 8, 8, 8, 8, 8, 8, 8, 8, 8, 8, 8, 8, 8, 8, 8, 8, 8, 8, 8, 8, 8, 8, 8, 8, 8, 8, 8, 8, 8, 8, 8, 8, 8, 8, 8, 8, 8, 8, 8, 8, 8, 8, 8, 8, 8, 8, 8, 8, 8, 8, 8, 8, 8, 8, 8, 8, 8, 8, 8, 8, 8, 8, 8, 8, 8, 8, 8, 8, 8, 8, 8, 8, 8, 8, 8, 8, 8, 8, 8, 8, 8, 8, 8, 8, 8, 8, 8, 8, 8, 8, 8, 8, 8, 8, 8, 8]⟩)) (.tmp 21), none, []⟩, ⟨some 23, .conv 5 3 (.tmp 22), none, []⟩, ⟨some 24, .bin .add 3 (.tmp 19) (.tmp 23), none, []⟩, ⟨some 2, .asg 0 (.tmp 24) 3, none, []⟩] false) .ret)))))
def math_bits_Len64_L : Live := [(0, [0]), (1, [0, 2]), (2, [0]), (3, [0]), (4, [0, 2]), (5, [0, 2]), (6, [0, 2]), (7, [0, 2]), (8, [0, 2]), (9, [0, 2]), (10, [0, 2]), (100004, [0, 2, 4]), (100008, [0, 2, 8]), (100014, [0, 2, 14])]
theorem math_bits_Len64_body : Try.f162.body = some (Try.f162.body.getD .skip) := by kernel_rfl
theorem math_bits_Len64_strip : strip [] (Try.f162.body.getD .skip) = math_bits_Len64_c := by kernel_rfl
noncomputable def math_bits_Len64 (a0 : Int) : Option Int :=
  (if (decide (a0 ≥ 4294967296)) then none else (if (decide (a0 ≥ 65536)) then none else (if (decide (a0 ≥ 256)) then none else (ifp (0 ≤ IntKind.u8.wrap a0 ∧ IntKind.u8.wrap a0 < (((⟨#[0, 1, 2, 2, 3, 3, 3, 3, 4, 4, 4, 4, 4, 4, 4, 4, 5, 5, 5, 5, 5, 5, 5, 5, 5, 5, 5, 5, 5, 5, 5, 5, 6, 6, 6, 6, 6, 6, 6, 6, 6, 6, 6, 6, 6, 6, 6, 6, 6, 6, 6, 6, 6, 6, 6, 6, 6, 6, 6, 6, 6, 6, 6, 6, 7, 7, 7, 7, 7, 7, 7, 7, 7, 7, 7, 7, 7, 7, 7, 7, 7, 7, 7, 7, 7, 7, 7, 7, 7, 7, 7, 7, 7, 7, 7, 7, 7, 7, 7, 7, 7, 7, 7, 7, 7, 7, 7, 7, 7, 7, 7, 7, 7, 7, 7, 7, 7, 7, 7, 7, 7, 7, 7, 7, 7, 7, 7, 7, 8, 8, 8, 8, 8, 8, 8, 8, 8, 8, 8, 8, 8, 8, 8, 8, 8, 8, 8, 8, 8, 8, 8, 8, 8, 8, 8, 8, 8, 8, 8, 8, 8, 8, 8, 8, 8, 8, 8, 8, 8, 8, 8, 8, 8, 8, 8, 8, 8, 8, 8, 8, 8, 8, 8, 8, 8, 8, 8, 8, 8, 8, 8, 8, 8, 8, 8, 8, 8, 8, 8, 8, 8, 8, 8, 8, 8, 8, 8, 8, 8, 8, 8, 8, 8, 8, 8, 8, 8, 8, 8, 8, 8, 8, 8, 8, 8, 8, 8, 8, 8, 8, 8, 8, 8, 8, 8, 8, 8, 8, 8, 8, 8, 8, 8, 8, 8, 8, 8, 8, 8, 8, 8, 8, 8, 8, 8, 8]⟩ : ByteArray).size : Nat) : Int)) ((letp (((((⟨#[0, 1, 2, 2, 3, 3, 3, 3, 4, 4, 4, 4, 4, 4, 4, 4, 5, 5, 5, 5, 5, 5, 5, 5, 5, 5, 5, 5, 5, 5, 5, 5, 6, 6, 6, 6, 6, 6, 6, 6, 6, 6, 6, 6, 6, 6, 6, 6, 6, 6, 6, 6, 6, 6, 6, 6, 6, 6, 6, 6, 6, 6, 6, 6, 7, 7, 7, 7, 7, 7, 7, 7, 7, 7, 7, 7, 7, 7, 7, 7, 7, 7, 7, 7, 7, 7, 7, 7, 7, 7, 7, 7, 7, 7, 7, 7, 7, 7, 7, 7, 7, 7, 7, 7, 7, 7, 7, 7, 7, 7, 7, 7, 7, 7, 7, 7, 7, 7, 7, 7, 7, 7, 7, 7, 7, 7, 7, 7, 8, 8, 8, 8, 8, 8, 8, 8, 8, 8, 8, 8, 8, 8, 8, 8, 8, 8, 8, 8, 8, 8, 8, 8, 8, 8, 8, 8, 8, 8, 8, 8, 8, 8, 8, 8, 8, 8, 8, 8, 8, 8, 8, 8, 8, 8, 8, 8, 8, 8, 8, 8, 8, 8, 8, 8, 8, 8, 8, 8, 8, 8, 8, 8, 8, 8, 8, 8, 8, 8, 8, 8, 8, 8, 8, 8, 8, 8, 8, 8, 8, 8, 8, 8, 8, 8, 8, 8, 8, 8, 8, 8, 8, 8, 8, 8, 8, 8, 8, 8, 8, 8, 8, 8, 8, 8, 8, 8, 8, 8, 8, 8, 8, 8, 8, 8, 8, 8, 8, 8, 8, 8, 8, 8, 8, 8, 8, 8]⟩ : ByteArray)).data.toList.getD (IntKind.u8.wrap a0).toNat 0).toNat : Int)) fun x8 => (some (IntKind.i64.wrap (0 + (IntKind.i64.wrap x8))))))))))
set_option maxHeartbeats 16000000 in
theorem math_bits_Len64_ok (a0 : Int) (r : Int) (h : math_bits_Len64 a0 = some r) : Den Try.prog 162 [(.int .u64 a0)] { r := (.int .i64 r) } := by
  refine den_of (rs := [(.int .i64 r)]) (ac := math_bits_Len64_c) (L := math_bits_Len64_L) (n := 25) (m := []) good Try.func162 math_bits_Len64_body (by kernel_rfl) Try.ntmps162 rfl rfl math_bits_Len64_strip rfl rfl ?_
  refine a_st (σ' := ⟨[(0, (.int .u64 a0))], []⟩) (by kernel_rfl) ?_
  unfold math_bits_Len64_c
  refine a_seq ?_
  refine a_region ?_
  refine a_val (v := (.int .i64 0)) (u := []) rfl trivial rfl ?_
  refine a_nil ?_
  refine a_next (σ' := ⟨[(0, (.int .u64 a0)), (2, (.int .i64 0))], []⟩) (by kernel_rfl) ?_
  refine a_seq ?_
  refine a_seq ?_
  refine a_region ?_
  refine a_val (v := (.int .u64 a0)) (u := []) rfl trivial rfl ?_
  refine a_val (v := (.bool ((decide (a0 ≥ 4294967296))))) (u := []) rfl trivial rfl ?_
  refine a_nil ?_
  refine a_next (σ' := ⟨[(0, (.int .u64 a0)), (2, (.int .i64 0)), (4, (.bool ((decide (a0 ≥ 4294967296)))))], []⟩) (by kernel_rfl) ?_
  cases hb2 : (decide (a0 ≥ 4294967296))
  · have h := ite_f hb2 h
    refine a_cond_f rfl ?_
    refine a_skip ?_
    refine a_next (σ' := ⟨[(0, (.int .u64 a0)), (2, (.int .i64 0))], []⟩) (by kernel_rfl) ?_
    refine a_seq ?_
    refine a_seq ?_
    refine a_region ?_
    refine a_val (v := (.int .u64 a0)) (u := []) rfl trivial rfl ?_
    refine a_val (v := (.bool ((decide (a0 ≥ 65536))))) (u := []) rfl trivial rfl ?_
    refine a_nil ?_
    refine a_next (σ' := ⟨[(0, (.int .u64 a0)), (2, (.int .i64 0)), (8, (.bool ((decide (a0 ≥ 65536)))))], []⟩) (by kernel_rfl) ?_
    cases hb4 : (decide (a0 ≥ 65536))
    · have h := ite_f hb4 h
      refine a_cond_f rfl ?_
      refine a_skip ?_
      refine a_next (σ' := ⟨[(0, (.int .u64 a0)), (2, (.int .i64 0))], []⟩) (by kernel_rfl) ?_
      refine a_seq ?_
      refine a_seq ?_
      refine a_region ?_
      refine a_val (v := (.int .u64 a0)) (u := []) rfl trivial rfl ?_
      refine a_val (v := (.bool ((decide (a0 ≥ 256))))) (u := []) rfl trivial rfl ?_
      refine a_nil ?_
      refine a_next (σ' := ⟨[(0, (.int .u64 a0)), (2, (.int .i64 0)), (14, (.bool ((decide (a0 ≥ 256)))))], []⟩) (by kernel_rfl) ?_
      cases hb6 : (decide (a0 ≥ 256))
      · have h := ite_f hb6 h
        refine a_cond_f rfl ?_
        refine a_skip ?_
        refine a_next (σ' := ⟨[(0, (.int .u64 a0)), (2, (.int .i64 0))], []⟩) (by kernel_rfl) ?_
        refine a_seq ?_
        refine a_region ?_
        refine a_val (v := (.int .i64 0)) (u := []) rfl trivial rfl ?_
        refine a_val (v := (.int .u64 a0)) (u := []) rfl trivial rfl ?_
        refine a_val (v := (.int .u8 (IntKind.u8.wrap a0))) (u := []) rfl trivial rfl ?_
        obtain ⟨hc7, h⟩ := ifp_some h
        obtain ⟨x8, hx9, h⟩ := letp_some h
        refine a_val' (v := (.int .u8 (((((⟨#[0, 1, 2, 2, 3, 3, 3, 3, 4, 4, 4, 4, 4, 4, 4, 4, 5, 5, 5, 5, 5, 5, 5, 5, 5, 5, 5, 5, 5, 5, 5, 5, 6, 6, 6, 6, 6, 6, 6, 6, 6, 6, 6, 6, 6, 6, 6, 6, 6, 6, 6, 6, 6, 6, 6, 6, 6, 6, 6, 6, 6, 6, 6, 6, 7, 7, 7, 7, 7, 7, 7, 7, 7, 7, 7, 7, 7, 7, 7, 7, 7, 7, 7, 7, 7, 7, 7, 7, 7, 7, 7, 7, 7, 7, 7, 7, 7, 7, 7, 7, 7, 7, 7, 7, 7, 7, 7, 7, 7, 7, 7, 7, 7, 7, 7, 7, 7, 7, 7, 7, 7, 7, 7, 7, 7, 7, 7, 7, 8, 8, 8, 8, 8, 8, 8, 8, 8, 8, 8, 8, 8, 8, 8, 8, 8, 8, 8, 8, 8, 8, 8, 8, 8, 8, 8, 8, 8, 8, 8, 8, 8, 8, 8, 8, 8, 8, 8, 8, 8, 8, 8, 8, 8, 8, 8, 8, 8, 8, 8, 8, 8, 8, 8, 8, 8, 8, 8, 8, 8, 8, 8, 8, 8, 8, 8, 8, 8, 8, 8, 8, 8, 8, 8, 8, 8, 8, 8, 8, 8, 8, 8, 8, 8, 8, 8, 8, 8, 8, 8, 8, 8, 8, 8, 8, 8, 8, 8, 8, 8, 8, 8, 8, 8, 8, 8, 8, 8, 8, 8, 8, 8, 8, 8, 8, 8, 8, 8, 8, 8, 8, 8, 8, 8, 8, 8, 8]⟩ : ByteArray)).data.toList.getD (IntKind.u8.wrap a0).toNat 0).toNat : Int)))) (v' := (.int .u8 x8)) (u := []) (u' := []) rfl (congrArg (fun z => ((.int .u8 z) : AV)) hx9) rfl hc7 rfl ?_
        refine a_val (v := (.int .i64 (IntKind.i64.wrap x8))) (u := []) rfl trivial rfl ?_
        refine a_val (v := (.int .i64 (IntKind.i64.wrap (0 + (IntKind.i64.wrap x8))))) (u := []) rfl trivial rfl ?_
        refine a_val (v := (.int .i64 (IntKind.i64.wrap (0 + (IntKind.i64.wrap x8))))) (u := []) rfl trivial rfl ?_
        refine a_nil ?_
        refine a_next rfl ?_
        refine a_ret ?_
        refine ⟨.inr rfl, ?_⟩
        rw [Try.results162]
        cases h
        exact ⟨_, _, _, _, _, rfl, trivial, .inl ⟨rfl, .inl rfl⟩, rfl, rfl⟩
      · have h := ite_t hb6 h
        cases h
    · have h := ite_t hb4 h
      cases h
  · have h := ite_t hb2 h
    cases h
def math_bits_Len_c : ACode := (.seq (.region 0 [⟨some 2, .asg 0 (.const (.int .i64 0)) 3, none, []⟩] false) (.seq (.cond (.const (.bool false)) (.seq (.region 1 [⟨some 3, .mov (.tmp 0), none, []⟩, ⟨some 4, .conv 135 158 (.tmp 3), none, []⟩, ⟨some 5, .call 0 (.func 161) [(.tmp 4)], none, []⟩, ⟨some 2, .asg 0 (.tmp 5) 3, none, []⟩] false) .ret) .skip) (.seq (.region 2 [⟨some 6, .mov (.tmp 0), none, []⟩, ⟨some 7, .call 0 (.func 162) [(.tmp 6)], none, []⟩, ⟨some 2, .asg 0 (.tmp 7) 3, none, []⟩] false) .ret)))
def math_bits_Len_L : Live := [(0, [0]), (1, [0]), (2, [0])]
theorem math_bits_Len_body : Try.f141.body = some (Try.f141.body.getD .skip) := by kernel_rfl
theorem math_bits_Len_strip : strip [] (Try.f141.body.getD .skip) = math_bits_Len_c := by kernel_rfl
noncomputable def math_bits_Len (a0 : Int) : Option Int :=
  (Option.bind (math_bits_Len64 a0) fun r1 => (some r1))
set_option maxHeartbeats 16000000 in
theorem math_bits_Len_ok (a0 : Int) (r : Int) (h : math_bits_Len a0 = some r) : Den Try.prog 141 [(.int .u64 a0)] { r := (.int .i64 r) } := by
  refine den_of (rs := [(.int .i64 r)]) (ac := math_bits_Len_c) (L := math_bits_Len_L) (n := 8) (m := []) good Try.func141 math_bits_Len_body (by kernel_rfl) Try.ntmps141 rfl rfl math_bits_Len_strip rfl rfl ?_
  refine a_st (σ' := ⟨[(0, (.int .u64 a0))], []⟩) (by kernel_rfl) ?_
  unfold math_bits_Len_c
  refine a_seq ?_
  refine a_region ?_
  refine a_val (v := (.int .i64 0)) (u := []) rfl trivial rfl ?_
  refine a_nil ?_
  refine a_next rfl ?_
  refine a_seq ?_
  refine a_cond_f rfl ?_
  refine a_skip ?_
  refine a_next (σ' := ⟨[(0, (.int .u64 a0))], []⟩) (by kernel_rfl) ?_
  refine a_seq ?_
  refine a_region ?_
  refine a_val (v := (.int .u64 a0)) (u := []) rfl trivial rfl ?_
  obtain ⟨r1, hr2, h⟩ := bind_some h
  refine a_call (args := [(.int .u64 a0)]) (u := []) (r := (.int .i64 r1)) rfl rfl (math_bits_Len64_ok a0 r1 hr2) rfl ?_
  refine a_val (v := (.int .i64 r1)) (u := []) rfl trivial rfl ?_
  refine a_nil ?_
  refine a_next rfl ?_
  refine a_ret ?_
  refine ⟨.inr rfl, ?_⟩
  rw [Try.results141]
  cases h
  exact ⟨_, _, _, _, _, rfl, trivial, .inl ⟨rfl, .inl rfl⟩, rfl, rfl⟩
def cmp_isNaN_int_c : ACode := (.seq (.region 0 [⟨some 2, .asg 0 (.const (.bool false)) 4, none, []⟩] false) (.seq (.region 1 [⟨some 3, .mov (.tmp 0), none, []⟩, ⟨some 4, .mov (.tmp 0), none, []⟩, ⟨some 5, .bin .neq 3 (.tmp 3) (.tmp 4), none, []⟩, ⟨some 2, .asg 0 (.tmp 5) 4, none, []⟩] false) .ret))
def cmp_isNaN_int_L : Live := [(0, [0]), (1, [0])]
theorem cmp_isNaN_int_body : Try.f163.body = some (Try.f163.body.getD .skip) := by kernel_rfl
theorem cmp_isNaN_int_strip : strip [] (Try.f163.body.getD .skip) = cmp_isNaN_int_c := by kernel_rfl
noncomputable def cmp_isNaN_int (a0 : Int) : Option Bool :=
  (some (a0 != a0))
set_option maxHeartbeats 16000000 in
theorem cmp_isNaN_int_ok (a0 : Int) (r : Bool) (h : cmp_isNaN_int a0 = some r) : Den Try.prog 163 [(.int .i64 a0)] { r := (.bool r) } := by
  refine den_of (rs := [(.bool r)]) (ac := cmp_isNaN_int_c) (L := cmp_isNaN_int_L) (n := 6) (m := []) good Try.func163 cmp_isNaN_int_body (by kernel_rfl) Try.ntmps163 rfl rfl cmp_isNaN_int_strip rfl rfl ?_
  refine a_st (σ' := ⟨[(0, (.int .i64 a0))], []⟩) (by kernel_rfl) ?_
  unfold cmp_isNaN_int_c
  refine a_seq ?_
  refine a_region ?_
  refine a_val (v := (.bool false)) (u := []) rfl trivial rfl ?_
  refine a_nil ?_
  refine a_next (σ' := ⟨[(0, (.int .i64 a0))], []⟩) (by kernel_rfl) ?_
  refine a_seq ?_
  refine a_region ?_
  refine a_val (v := (.int .i64 a0)) (u := []) rfl trivial rfl ?_
  refine a_val (v := (.int .i64 a0)) (u := []) rfl trivial rfl ?_
  refine a_val (v := (.bool (a0 != a0))) (u := []) rfl trivial rfl ?_
  refine a_val (v := (.bool (a0 != a0))) (u := []) rfl trivial rfl ?_
  refine a_nil ?_
  refine a_next rfl ?_
  refine a_ret ?_
  refine ⟨.inr rfl, ?_⟩
  rw [Try.results163]
  cases h
  exact ⟨_, _, _, _, _, rfl, trivial, .inl ⟨rfl, .inl rfl⟩, rfl, rfl⟩
def cmp_Compare_int_c : ACode := (.seq (.region 0 [⟨some 4, .asg 0 (.const (.int .i64 0)) 3, none, []⟩] false) (.seq (.region 1 [⟨some 7, .mov (.tmp 0), none, []⟩, ⟨some 8, .call 0 (.func 163) [(.tmp 7)], none, []⟩, ⟨some 5, .asg 0 (.tmp 8) 4, none, []⟩] false) (.seq (.region 2 [⟨some 9, .mov (.tmp 1), none, []⟩, ⟨some 10, .call 0 (.func 163) [(.tmp 9)], none, []⟩, ⟨some 6, .asg 0 (.tmp 10) 4, none, []⟩] false) (.seq (.seq (.region 3 [⟨some 11, .mov (.tmp 5), none, []⟩] false) (.cond (.tmp 11) (.seq (.seq (.region 4 [⟨some 12, .mov (.tmp 6), none, []⟩] false) (.cond (.tmp 12) (.seq (.region 5 [⟨some 4, .asg 0 (.const (.int .i64 0)) 3, none, []⟩] false) .ret) .skip)) (.seq (.region 6 [⟨some 4, .asg 0 (.const (.int .i64 (-1))) 3, none, []⟩] false) .ret)) .skip)) (.seq (.seq (.region 7 [⟨some 13, .mov (.tmp 6), none, []⟩] false) (.cond (.tmp 13) (.seq (.region 8 [⟨some 4, .asg 0 (.const (.int .i64 1)) 3, none, []⟩] false) .ret) .skip)) (.seq (.seq (.region 9 [⟨some 14, .mov (.tmp 0), none, []⟩, ⟨some 15, .mov (.tmp 1), none, []⟩, ⟨some 16, .bin .lss 3 (.tmp 14) (.tmp 15), none, []⟩] false) (.cond (.tmp 16) (.seq (.region 10 [⟨some 4, .asg 0 (.const (.int .i64 (-1))) 3, none, []⟩] false) .ret) .skip)) (.seq (.seq (.region 11 [⟨some 17, .mov (.tmp 0), none, []⟩, ⟨some 18, .mov (.tmp 1), none, []⟩, ⟨some 19, .bin .gtr 3 (.tmp 17) (.tmp 18), none, []⟩] false) (.cond (.tmp 19) (.seq (.region 12 [⟨some 4, .asg 0 (.const (.int .i64 1)) 3, none, []⟩] false) .ret) .skip)) (.seq (.region 13 [⟨some 4, .asg 0 (.const (.int .i64 0)) 3, none, []⟩] false) .ret))))))))
def cmp_Compare_int_L : Live := [(0, [0, 1]), (1, [0, 1]), (2, [0, 1, 5]), (3, [0, 1, 5, 6]), (4, [6]), (5, []), (6, []), (7, [0, 1, 6]), (8, []), (9, [0, 1]), (10, []), (11, [0, 1]), (12, []), (13, []), (100011, [0, 1, 6, 11]), (100012, [12]), (100013, [0, 1, 13]), (100016, [0, 1, 16]), (100019, [19])]
theorem cmp_Compare_int_body : Try.f142.body = some (Try.f142.body.getD .skip) := by kernel_rfl
theorem cmp_Compare_int_strip : strip [] (Try.f142.body.getD .skip) = cmp_Compare_int_c := by kernel_rfl
noncomputable def cmp_Compare_int (a0 : Int) (a1 : Int) : Option Int :=
  (Option.bind (cmp_isNaN_int a0) fun r1 => (Option.bind (cmp_isNaN_int a1) fun r3 => (if r1 then (if r3 then (some 0) else (some (-1))) else (if r3 then (some 1) else (if (decide (a0 < a1)) then (some (-1)) else (if (decide (a0 > a1)) then (some 1) else (some 0)))))))
set_option maxHeartbeats 16000000 in
theorem cmp_Compare_int_ok (a0 : Int) (a1 : Int) (r : Int) (h : cmp_Compare_int a0 a1 = some r) : Den Try.prog 142 [(.int .i64 a0), (.int .i64 a1)] { r := (.int .i64 r) } := by
  refine den_of (rs := [(.int .i64 r)]) (ac := cmp_Compare_int_c) (L := cmp_Compare_int_L) (n := 20) (m := []) good Try.func142 cmp_Compare_int_body (by kernel_rfl) Try.ntmps142 rfl rfl cmp_Compare_int_strip rfl rfl ?_
  refine a_st (σ' := ⟨[(0, (.int .i64 a0)), (1, (.int .i64 a1))], []⟩) (by kernel_rfl) ?_
  unfold cmp_Compare_int_c
  refine a_seq ?_
  refine a_region ?_
  refine a_val (v := (.int .i64 0)) (u := []) rfl trivial rfl ?_
  refine a_nil ?_
  refine a_next (σ' := ⟨[(0, (.int .i64 a0)), (1, (.int .i64 a1))], []⟩) (by kernel_rfl) ?_
  refine a_seq ?_
  refine a_region ?_
  refine a_val (v := (.int .i64 a0)) (u := []) rfl trivial rfl ?_
  obtain ⟨r1, hr2, h⟩ := bind_some h
  refine a_call (args := [(.int .i64 a0)]) (u := []) (r := (.bool r1)) rfl rfl (cmp_isNaN_int_ok a0 r1 hr2) rfl ?_
  refine a_val (v := (.bool r1)) (u := []) rfl trivial rfl ?_
  refine a_nil ?_
  refine a_next (σ' := ⟨[(0, (.int .i64 a0)), (1, (.int .i64 a1)), (5, (.bool r1))], []⟩) (by kernel_rfl) ?_
  refine a_seq ?_
  refine a_region ?_
  refine a_val (v := (.int .i64 a1)) (u := []) rfl trivial rfl ?_
  obtain ⟨r3, hr4, h⟩ := bind_some h
  refine a_call (args := [(.int .i64 a1)]) (u := []) (r := (.bool r3)) rfl rfl (cmp_isNaN_int_ok a1 r3 hr4) rfl ?_
  refine a_val (v := (.bool r3)) (u := []) rfl trivial rfl ?_
  refine a_nil ?_
  refine a_next (σ' := ⟨[(0, (.int .i64 a0)), (1, (.int .i64 a1)), (5, (.bool r1)), (6, (.bool r3))], []⟩) (by kernel_rfl) ?_
  refine a_seq ?_
  refine a_seq ?_
  refine a_region ?_
  refine a_val (v := (.bool r1)) (u := []) rfl trivial rfl ?_
  refine a_nil ?_
  refine a_next (σ' := ⟨[(0, (.int .i64 a0)), (1, (.int .i64 a1)), (6, (.bool r3)), (11, (.bool r1))], []⟩) (by kernel_rfl) ?_
  cases hb5 : r1
  · have h := ite_f hb5 h
    refine a_cond_f rfl ?_
    refine a_skip ?_
    refine a_next (σ' := ⟨[(0, (.int .i64 a0)), (1, (.int .i64 a1)), (6, (.bool r3))], []⟩) (by kernel_rfl) ?_
    refine a_seq ?_
    refine a_seq ?_
    refine a_region ?_
    refine a_val (v := (.bool r3)) (u := []) rfl trivial rfl ?_
    refine a_nil ?_
    refine a_next (σ' := ⟨[(0, (.int .i64 a0)), (1, (.int .i64 a1)), (13, (.bool r3))], []⟩) (by kernel_rfl) ?_
    cases hb6 : r3
    · have h := ite_f hb6 h
      refine a_cond_f rfl ?_
      refine a_skip ?_
      refine a_next (σ' := ⟨[(0, (.int .i64 a0)), (1, (.int .i64 a1))], []⟩) (by kernel_rfl) ?_
      refine a_seq ?_
      refine a_seq ?_
      refine a_region ?_
      refine a_val (v := (.int .i64 a0)) (u := []) rfl trivial rfl ?_
      refine a_val (v := (.int .i64 a1)) (u := []) rfl trivial rfl ?_
      refine a_val (v := (.bool ((decide (a0 < a1))))) (u := []) rfl trivial rfl ?_
      refine a_nil ?_
      refine a_next (σ' := ⟨[(0, (.int .i64 a0)), (1, (.int .i64 a1)), (16, (.bool ((decide (a0 < a1)))))], []⟩) (by kernel_rfl) ?_
      cases hb7 : (decide (a0 < a1))
      · have h := ite_f hb7 h
        refine a_cond_f rfl ?_
        refine a_skip ?_
        refine a_next (σ' := ⟨[(0, (.int .i64 a0)), (1, (.int .i64 a1))], []⟩) (by kernel_rfl) ?_
        refine a_seq ?_
        refine a_seq ?_
        refine a_region ?_
        refine a_val (v := (.int .i64 a0)) (u := []) rfl trivial rfl ?_
        refine a_val (v := (.int .i64 a1)) (u := []) rfl trivial rfl ?_
        refine a_val (v := (.bool ((decide (a0 > a1))))) (u := []) rfl trivial rfl ?_
        refine a_nil ?_
        refine a_next (σ' := ⟨[(19, (.bool ((decide (a0 > a1)))))], []⟩) (by kernel_rfl) ?_
        cases hb8 : (decide (a0 > a1))
        · have h := ite_f hb8 h
          refine a_cond_f rfl ?_
          refine a_skip ?_
          refine a_next (σ' := ⟨[], []⟩) (by kernel_rfl) ?_
          refine a_seq ?_
          refine a_region ?_
          refine a_val (v := (.int .i64 0)) (u := []) rfl trivial rfl ?_
          refine a_nil ?_
          refine a_next rfl ?_
          refine a_ret ?_
          refine ⟨.inr rfl, ?_⟩
          rw [Try.results142]
          cases h
          exact ⟨_, _, _, _, _, rfl, trivial, .inl ⟨rfl, .inl rfl⟩, rfl, rfl⟩
        · have h := ite_t hb8 h
          refine a_cond_t rfl ?_
          refine a_seq ?_
          refine a_region ?_
          refine a_val (v := (.int .i64 1)) (u := []) rfl trivial rfl ?_
          refine a_nil ?_
          refine a_next rfl ?_
          refine a_ret ?_
          refine t_ret ?_
          refine ⟨.inr rfl, ?_⟩
          rw [Try.results142]
          cases h
          exact ⟨_, _, _, _, _, rfl, trivial, .inl ⟨rfl, .inl rfl⟩, rfl, rfl⟩
      · have h := ite_t hb7 h
        refine a_cond_t rfl ?_
        refine a_seq ?_
        refine a_region ?_
        refine a_val (v := (.int .i64 (-1))) (u := []) rfl trivial rfl ?_
        refine a_nil ?_
        refine a_next rfl ?_
        refine a_ret ?_
        refine t_ret ?_
        refine ⟨.inr rfl, ?_⟩
        rw [Try.results142]
        cases h
        exact ⟨_, _, _, _, _, rfl, trivial, .inl ⟨rfl, .inl rfl⟩, rfl, rfl⟩
    · have h := ite_t hb6 h
      refine a_cond_t rfl ?_
      refine a_seq ?_
      refine a_region ?_
      refine a_val (v := (.int .i64 1)) (u := []) rfl trivial rfl ?_
      refine a_nil ?_
      refine a_next rfl ?_
      refine a_ret ?_
      refine t_ret ?_
      refine ⟨.inr rfl, ?_⟩
      rw [Try.results142]
      cases h
      exact ⟨_, _, _, _, _, rfl, trivial, .inl ⟨rfl, .inl rfl⟩, rfl, rfl⟩
  · have h := ite_t hb5 h
    refine a_cond_t rfl ?_
    refine a_seq ?_
    refine a_seq ?_
    refine a_region ?_
    refine a_val (v := (.bool r3)) (u := []) rfl trivial rfl ?_
    refine a_nil ?_
    refine a_next (σ' := ⟨[(12, (.bool r3))], []⟩) (by kernel_rfl) ?_
    cases hb9 : r3
    · have h := ite_f hb9 h
      refine a_cond_f rfl ?_
      refine a_skip ?_
      refine a_next (σ' := ⟨[], []⟩) (by kernel_rfl) ?_
      refine a_seq ?_
      refine a_region ?_
      refine a_val (v := (.int .i64 (-1))) (u := []) rfl trivial rfl ?_
      refine a_nil ?_
      refine a_next rfl ?_
      refine a_ret ?_
      refine t_ret ?_
      refine ⟨.inr rfl, ?_⟩
      rw [Try.results142]
      cases h
      exact ⟨_, _, _, _, _, rfl, trivial, .inl ⟨rfl, .inl rfl⟩, rfl, rfl⟩
    · have h := ite_t hb9 h
      refine a_cond_t rfl ?_
      refine a_seq ?_
      refine a_region ?_
      refine a_val (v := (.int .i64 0)) (u := []) rfl trivial rfl ?_
      refine a_nil ?_
      refine a_next rfl ?_
      refine a_ret ?_
      refine t_ret ?_
      refine t_ret ?_
      refine ⟨.inr rfl, ?_⟩
      rw [Try.results142]
      cases h
      exact ⟨_, _, _, _, _, rfl, trivial, .inl ⟨rfl, .inl rfl⟩, rfl, rfl⟩
def cmp_isNaN_int64_c : ACode := (.seq (.region 0 [⟨some 2, .asg 0 (.const (.bool false)) 4, none, []⟩] false) (.seq (.region 1 [⟨some 3, .mov (.tmp 0), none, []⟩, ⟨some 4, .mov (.tmp 0), none, []⟩, ⟨some 5, .bin .neq 2 (.tmp 3) (.tmp 4), none, []⟩, ⟨some 2, .asg 0 (.tmp 5) 4, none, []⟩] false) .ret))
def cmp_isNaN_int64_L : Live := [(0, [0]), (1, [0])]
theorem cmp_isNaN_int64_body : Try.f164.body = some (Try.f164.body.getD .skip) := by kernel_rfl
theorem cmp_isNaN_int64_strip : strip [] (Try.f164.body.getD .skip) = cmp_isNaN_int64_c := by kernel_rfl
noncomputable def cmp_isNaN_int64 (a0 : Int) : Option Bool :=
  (some (a0 != a0))
set_option maxHeartbeats 16000000 in
theorem cmp_isNaN_int64_ok (a0 : Int) (r : Bool) (h : cmp_isNaN_int64 a0 = some r) : Den Try.prog 164 [(.int .i64 a0)] { r := (.bool r) } := by
  refine den_of (rs := [(.bool r)]) (ac := cmp_isNaN_int64_c) (L := cmp_isNaN_int64_L) (n := 6) (m := []) good Try.func164 cmp_isNaN_int64_body (by kernel_rfl) Try.ntmps164 rfl rfl cmp_isNaN_int64_strip rfl rfl ?_
  refine a_st (σ' := ⟨[(0, (.int .i64 a0))], []⟩) (by kernel_rfl) ?_
  unfold cmp_isNaN_int64_c
  refine a_seq ?_
  refine a_region ?_
  refine a_val (v := (.bool false)) (u := []) rfl trivial rfl ?_
  refine a_nil ?_
  refine a_next (σ' := ⟨[(0, (.int .i64 a0))], []⟩) (by kernel_rfl) ?_
  refine a_seq ?_
  refine a_region ?_
  refine a_val (v := (.int .i64 a0)) (u := []) rfl trivial rfl ?_
  refine a_val (v := (.int .i64 a0)) (u := []) rfl trivial rfl ?_
  refine a_val (v := (.bool (a0 != a0))) (u := []) rfl trivial rfl ?_
  refine a_val (v := (.bool (a0 != a0))) (u := []) rfl trivial rfl ?_
  refine a_nil ?_
  refine a_next rfl ?_
  refine a_ret ?_
  refine ⟨.inr rfl, ?_⟩
  rw [Try.results164]
  cases h
  exact ⟨_, _, _, _, _, rfl, trivial, .inl ⟨rfl, .inl rfl⟩, rfl, rfl⟩
def cmp_Compare_int64_c : ACode := (.seq (.region 0 [⟨some 4, .asg 0 (.const (.int .i64 0)) 3, none, []⟩] false) (.seq (.region 1 [⟨some 7, .mov (.tmp 0), none, []⟩, ⟨some 8, .call 0 (.func 164) [(.tmp 7)], none, []⟩, ⟨some 5, .asg 0 (.tmp 8) 4, none, []⟩] false) (.seq (.region 2 [⟨some 9, .mov (.tmp 1), none, []⟩, ⟨some 10, .call 0 (.func 164) [(.tmp 9)], none, []⟩, ⟨some 6, .asg 0 (.tmp 10) 4, none, []⟩] false) (.seq (.seq (.region 3 [⟨some 11, .mov (.tmp 5), none, []⟩] false) (.cond (.tmp 11) (.seq (.seq (.region 4 [⟨some 12, .mov (.tmp 6), none, []⟩] false) (.cond (.tmp 12) (.seq (.region 5 [⟨some 4, .asg 0 (.const (.int .i64 0)) 3, none, []⟩] false) .ret) .skip)) (.seq (.region 6 [⟨some 4, .asg 0 (.const (.int .i64 (-1))) 3, none, []⟩] false) .ret)) .skip)) (.seq (.seq (.region 7 [⟨some 13, .mov (.tmp 6), none, []⟩] false) (.cond (.tmp 13) (.seq (.region 8 [⟨some 4, .asg 0 (.const (.int .i64 1)) 3, none, []⟩] false) .ret) .skip)) (.seq (.seq (.region 9 [⟨some 14, .mov (.tmp 0), none, []⟩, ⟨some 15, .mov (.tmp 1), none, []⟩, ⟨some 16, .bin .lss 2 (.tmp 14) (.tmp 15), none, []⟩] false) (.cond (.tmp 16) (.seq (.region 10 [⟨some 4, .asg 0 (.const (.int .i64 (-1))) 3, none, []⟩] false) .ret) .skip)) (.seq (.seq (.region 11 [⟨some 17, .mov (.tmp 0), none, []⟩, ⟨some 18, .mov (.tmp 1), none, []⟩, ⟨some 19, .bin .gtr 2 (.tmp 17) (.tmp 18), none, []⟩] false) (.cond (.tmp 19) (.seq (.region 12 [⟨some 4, .asg 0 (.const (.int .i64 1)) 3, none, []⟩] false) .ret) .skip)) (.seq (.region 13 [⟨some 4, .asg 0 (.const (.int .i64 0)) 3, none, []⟩] false) .ret))))))))
def cmp_Compare_int64_L : Live := [(0, [0, 1]), (1, [0, 1]), (2, [0, 1, 5]), (3, [0, 1, 5, 6]), (4, [6]), (5, []), (6, []), (7, [0, 1, 6]), (8, []), (9, [0, 1]), (10, []), (11, [0, 1]), (12, []), (13, []), (100011, [0, 1, 6, 11]), (100012, [12]), (100013, [0, 1, 13]), (100016, [0, 1, 16]), (100019, [19])]
theorem cmp_Compare_int64_body : Try.f143.body = some (Try.f143.body.getD .skip) := by kernel_rfl
theorem cmp_Compare_int64_strip : strip [] (Try.f143.body.getD .skip) = cmp_Compare_int64_c := by kernel_rfl
noncomputable def cmp_Compare_int64 (a0 : Int) (a1 : Int) : Option Int :=
  (Option.bind (cmp_isNaN_int64 a0) fun r1 => (Option.bind (cmp_isNaN_int64 a1) fun r3 => (if r1 then (if r3 then (some 0) else (some (-1))) else (if r3 then (some 1) else (if (decide (a0 < a1)) then (some (-1)) else (if (decide (a0 > a1)) then (some 1) else (some 0)))))))
set_option maxHeartbeats 16000000 in
theorem cmp_Compare_int64_ok (a0 : Int) (a1 : Int) (r : Int) (h : cmp_Compare_int64 a0 a1 = some r) : Den Try.prog 143 [(.int .i64 a0), (.int .i64 a1)] { r := (.int .i64 r) } := by
  refine den_of (rs := [(.int .i64 r)]) (ac := cmp_Compare_int64_c) (L := cmp_Compare_int64_L) (n := 20) (m := []) good Try.func143 cmp_Compare_int64_body (by kernel_rfl) Try.ntmps143 rfl rfl cmp_Compare_int64_strip rfl rfl ?_
  refine a_st (σ' := ⟨[(0, (.int .i64 a0)), (1, (.int .i64 a1))], []⟩) (by kernel_rfl) ?_
  unfold cmp_Compare_int64_c
  refine a_seq ?_
  refine a_region ?_
  refine a_val (v := (.int .i64 0)) (u := []) rfl trivial rfl ?_
  refine a_nil ?_
  refine a_next (σ' := ⟨[(0, (.int .i64 a0)), (1, (.int .i64 a1))], []⟩) (by kernel_rfl) ?_
  refine a_seq ?_
  refine a_region ?_
  refine a_val (v := (.int .i64 a0)) (u := []) rfl trivial rfl ?_
  obtain ⟨r1, hr2, h⟩ := bind_some h
  refine a_call (args := [(.int .i64 a0)]) (u := []) (r := (.bool r1)) rfl rfl (cmp_isNaN_int64_ok a0 r1 hr2) rfl ?_
  refine a_val (v := (.bool r1)) (u := []) rfl trivial rfl ?_
  refine a_nil ?_
  refine a_next (σ' := ⟨[(0, (.int .i64 a0)), (1, (.int .i64 a1)), (5, (.bool r1))], []⟩) (by kernel_rfl) ?_
  refine a_seq ?_
  refine a_region ?_
  refine a_val (v := (.int .i64 a1)) (u := []) rfl trivial rfl ?_
  obtain ⟨r3, hr4, h⟩ := bind_some h
  refine a_call (args := [(.int .i64 a1)]) (u := []) (r := (.bool r3)) rfl rfl (cmp_isNaN_int64_ok a1 r3 hr4) rfl ?_
  refine a_val (v := (.bool r3)) (u := []) rfl trivial rfl ?_
  refine a_nil ?_
  refine a_next (σ' := ⟨[(0, (.int .i64 a0)), (1, (.int .i64 a1)), (5, (.bool r1)), (6, (.bool r3))], []⟩) (by kernel_rfl) ?_
  refine a_seq ?_
  refine a_seq ?_
  refine a_region ?_
  refine a_val (v := (.bool r1)) (u := []) rfl trivial rfl ?_
  refine a_nil ?_
  refine a_next (σ' := ⟨[(0, (.int .i64 a0)), (1, (.int .i64 a1)), (6, (.bool r3)), (11, (.bool r1))], []⟩) (by kernel_rfl) ?_
  cases hb5 : r1
  · have h := ite_f hb5 h
    refine a_cond_f rfl ?_
    refine a_skip ?_
    refine a_next (σ' := ⟨[(0, (.int .i64 a0)), (1, (.int .i64 a1)), (6, (.bool r3))], []⟩) (by kernel_rfl) ?_
    refine a_seq ?_
    refine a_seq ?_
    refine a_region ?_
    refine a_val (v := (.bool r3)) (u := []) rfl trivial rfl ?_
    refine a_nil ?_
    refine a_next (σ' := ⟨[(0, (.int .i64 a0)), (1, (.int .i64 a1)), (13, (.bool r3))], []⟩) (by kernel_rfl) ?_
    cases hb6 : r3
    · have h := ite_f hb6 h
      refine a_cond_f rfl ?_
      refine a_skip ?_
      refine a_next (σ' := ⟨[(0, (.int .i64 a0)), (1, (.int .i64 a1))], []⟩) (by kernel_rfl) ?_
      refine a_seq ?_
      refine a_seq ?_
      refine a_region ?_
      refine a_val (v := (.int .i64 a0)) (u := []) rfl trivial rfl ?_
      refine a_val (v := (.int .i64 a1)) (u := []) rfl trivial rfl ?_
      refine a_val (v := (.bool ((decide (a0 < a1))))) (u := []) rfl trivial rfl ?_
      refine a_nil ?_
      refine a_next (σ' := ⟨[(0, (.int .i64 a0)), (1, (.int .i64 a1)), (16, (.bool ((decide (a0 < a1)))))], []⟩) (by kernel_rfl) ?_
      cases hb7 : (decide (a0 < a1))
      · have h := ite_f hb7 h
        refine a_cond_f rfl ?_
        refine a_skip ?_
        refine a_next (σ' := ⟨[(0, (.int .i64 a0)), (1, (.int .i64 a1))], []⟩) (by kernel_rfl) ?_
        refine a_seq ?_
        refine a_seq ?_
        refine a_region ?_
        refine a_val (v := (.int .i64 a0)) (u := []) rfl trivial rfl ?_
        refine a_val (v := (.int .i64 a1)) (u := []) rfl trivial rfl ?_
        refine a_val (v := (.bool ((decide (a0 > a1))))) (u := []) rfl trivial rfl ?_
        refine a_nil ?_
        refine a_next (σ' := ⟨[(19, (.bool ((decide (a0 > a1)))))], []⟩) (by kernel_rfl) ?_
        cases hb8 : (decide (a0 > a1))
        · have h := ite_f hb8 h
          refine a_cond_f rfl ?_
          refine a_skip ?_
          refine a_next (σ' := ⟨[], []⟩) (by kernel_rfl) ?_
          refine a_seq ?_
          refine a_region ?_
          refine a_val (v := (.int .i64 0)) (u := []) rfl trivial rfl ?_
          refine a_nil ?_
          refine a_next rfl ?_
          refine a_ret ?_
          refine ⟨.inr rfl, ?_⟩
          rw [Try.results143]
          cases h
          exact ⟨_, _, _, _, _, rfl, trivial, .inl ⟨rfl, .inl rfl⟩, rfl, rfl⟩
        · have h := ite_t hb8 h
          refine a_cond_t rfl ?_
          refine a_seq ?_
          refine a_region ?_
          refine a_val (v := (.int .i64 1)) (u := []) rfl trivial rfl ?_
          refine a_nil ?_
          refine a_next rfl ?_
          refine a_ret ?_
          refine t_ret ?_
          refine ⟨.inr rfl, ?_⟩
          rw [Try.results143]
          cases h
          exact ⟨_, _, _, _, _, rfl, trivial, .inl ⟨rfl, .inl rfl⟩, rfl, rfl⟩
      · have h := ite_t hb7 h
        refine a_cond_t rfl ?_
        refine a_seq ?_
        refine a_region ?_
        refine a_val (v := (.int .i64 (-1))) (u := []) rfl trivial rfl ?_
        refine a_nil ?_
        refine a_next rfl ?_
        refine a_ret ?_
        refine t_ret ?_
        refine ⟨.inr rfl, ?_⟩
        rw [Try.results143]
        cases h
        exact ⟨_, _, _, _, _, rfl, trivial, .inl ⟨rfl, .inl rfl⟩, rfl, rfl⟩
    · have h := ite_t hb6 h
      refine a_cond_t rfl ?_
      refine a_seq ?_
      refine a_region ?_
      refine a_val (v := (.int .i64 1)) (u := []) rfl trivial rfl ?_
      refine a_nil ?_
      refine a_next rfl ?_
      refine a_ret ?_
      refine t_ret ?_
      refine ⟨.inr rfl, ?_⟩
      rw [Try.results143]
      cases h
      exact ⟨_, _, _, _, _, rfl, trivial, .inl ⟨rfl, .inl rfl⟩, rfl, rfl⟩
  · have h := ite_t hb5 h
    refine a_cond_t rfl ?_
    refine a_seq ?_
    refine a_seq ?_
    refine a_region ?_
    refine a_val (v := (.bool r3)) (u := []) rfl trivial rfl ?_
    refine a_nil ?_
    refine a_next (σ' := ⟨[(12, (.bool r3))], []⟩) (by kernel_rfl) ?_
    cases hb9 : r3
    · have h := ite_f hb9 h
      refine a_cond_f rfl ?_
      refine a_skip ?_
      refine a_next (σ' := ⟨[], []⟩) (by kernel_rfl) ?_
      refine a_seq ?_
      refine a_region ?_
      refine a_val (v := (.int .i64 (-1))) (u := []) rfl trivial rfl ?_
      refine a_nil ?_
      refine a_next rfl ?_
      refine a_ret ?_
      refine t_ret ?_
      refine ⟨.inr rfl, ?_⟩
      rw [Try.results143]
      cases h
      exact ⟨_, _, _, _, _, rfl, trivial, .inl ⟨rfl, .inl rfl⟩, rfl, rfl⟩
    · have h := ite_t hb9 h
      refine a_cond_t rfl ?_
      refine a_seq ?_
      refine a_region ?_
      refine a_val (v := (.int .i64 0)) (u := []) rfl trivial rfl ?_
      refine a_nil ?_
      refine a_next rfl ?_
      refine a_ret ?_
      refine t_ret ?_
      refine t_ret ?_
      refine ⟨.inr rfl, ?_⟩
      rw [Try.results143]
      cases h
      exact ⟨_, _, _, _, _, rfl, trivial, .inl ⟨rfl, .inl rfl⟩, rfl, rfl⟩
def impl_compare_c : ACode := (.seq (.region 0 [⟨some 4, .asg 0 (.const (.int .i64 0)) 3, none, []⟩] false) (.seq (.seq (.region 1 [⟨some 8, .mov (.tmp 0), none, []⟩, ⟨some 9, .blt 0 .len [(.tmp 8)] [65], none, []⟩, ⟨some 10, .mov (.tmp 1), none, []⟩, ⟨some 11, .blt 0 .len [(.tmp 10)] [65], none, []⟩, ⟨some 12, .call 0 (.func 142) [(.tmp 9), (.tmp 11)], none, []⟩, ⟨some 5, .asg 0 (.tmp 12) 3, none, []⟩] false) (.seq (.region 2 [⟨some 13, .mov (.tmp 5), none, []⟩, ⟨some 14, .bin .neq 3 (.tmp 13) (.const (.int .i64 0)), none, []⟩] false) (.cond (.tmp 14) (.seq (.region 3 [⟨some 15, .mov (.tmp 5), none, []⟩, ⟨some 4, .asg 0 (.tmp 15) 3, none, []⟩] false) .ret) .skip))) (.seq (.seq (.region 4 [⟨some 16, .mov (.tmp 0), none, []⟩, ⟨some 17, .blt 0 .len [(.tmp 16)] [65], none, []⟩, ⟨some 18, .bin .sub 3 (.tmp 17) (.const (.int .i64 1)), none, []⟩, ⟨some 6, .asg 0 (.tmp 18) 3, none, []⟩] false) (.block 0 (.loop (.seq (.seq (.region 5 [⟨some 19, .mov (.tmp 6), none, []⟩, ⟨some 20, .bin .geq 3 (.tmp 19) (.const (.int .i64 0)), none, []⟩] false) (.cond (.tmp 20) .skip (.exit 0))) (.seq (.block 1 (.seq (.region 7 [⟨some 23, .mov (.tmp 0), none, []⟩, ⟨some 24, .mov (.tmp 6), none, []⟩, ⟨some 25, .indexAddr 65 (.tmp 23) (.tmp 24), none, [0, 1]⟩, ⟨some 26, .load 2 (.tmp 25), none, [2]⟩, ⟨some 27, .mov (.tmp 1), none, []⟩, ⟨some 28, .mov (.tmp 6), none, []⟩, ⟨some 29, .indexAddr 65 (.tmp 27) (.tmp 28), none, [4, 5]⟩, ⟨some 30, .load 2 (.tmp 29), none, [6]⟩, ⟨some 31, .call 0 (.func 143) [(.tmp 26), (.tmp 30)], none, [3, 7]⟩, ⟨some 7, .asg 0 (.tmp 31) 3, none, [8, 8, 0, 1, 2, 3, 4, 5, 6, 7, 8]⟩] true) (.seq (.region 8 [⟨some 32, .mov (.tmp 7), none, []⟩, ⟨some 33, .bin .neq 3 (.tmp 32) (.const (.int .i64 0)), none, []⟩] false) (.cond (.tmp 33) (.seq (.region 9 [⟨some 34, .mov (.tmp 7), none, []⟩, ⟨some 4, .asg 0 (.tmp 34) 3, none, []⟩] false) .ret) .skip)))) (.region 6 [⟨some 21, .mov (.tmp 6), none, []⟩, ⟨some 22, .bin .sub 3 (.tmp 21) (.const (.int .i64 1)), none, []⟩, ⟨some 6, .asg 0 (.tmp 22) 3, none, []⟩] false)))))) (.seq (.region 10 [⟨some 4, .asg 0 (.const (.int .i64 0)) 3, none, []⟩] false) .ret))))
def impl_compare_L : Live := [(0, [0, 1]), (1, [0, 1]), (2, [0, 1, 5]), (3, [5]), (4, [0, 1]), (5, [0, 1, 6]), (6, [0, 1, 6]), (7, [0, 1, 6]), (8, [0, 1, 6, 7]), (9, [7]), (10, []), (100014, [0, 1, 5, 14]), (100020, [0, 1, 6, 20]), (100033, [0, 1, 6, 7, 33])]
theorem impl_compare_body : Try.f115.body = some (Try.f115.body.getD .skip) := by kernel_rfl
theorem impl_compare_strip : strip [] (Try.f115.body.getD .skip) = impl_compare_c := by kernel_rfl
noncomputable def impl_compare_l1 (a0 : (List Int)) (a1 : (List Int)) (x72 : Int) : Option (Int ⊕ (Unit ⊕ Int)) :=
  (if (decide (x72 ≥ 0)) then (ifp (0 ≤ x72 ∧ x72 < ((a0.length : Nat) : Int)) ((ifp (0 ≤ x72 ∧ x72 < ((a1.length : Nat) : Int)) ((Option.bind (cmp_Compare_int64 (rd a0 x72.toNat) (rd a1 x72.toNat)) fun r101 => (if (r101 != 0) then (some (.inr (.inr r101))) else (some (.inl (IntKind.i64.wrap (x72 - 1)))))))))) else (some (.inr (((.inl ()))))))
noncomputable def impl_compare (a0 : (List Int)) (a1 : (List Int)) : Option Int :=
  (Option.bind (cmp_Compare_int (a0.length : Int) (a1.length : Int)) fun r1 => (if (r1 != 0) then (some r1) else (Option.bind (α := (Unit ⊕ Int)) ((loopM (fun s : Int => impl_compare_l1 a0 a1 s) (IntKind.i64.wrap ((a0.length : Int) - 1)))) fun z => match z with | .inl _ => (some 0) | .inr r105 => (some r105))))
set_option maxHeartbeats 16000000 in
theorem impl_compare_ok (a0 : (List Int)) (a1 : (List Int)) (r : Int) (h : impl_compare a0 a1 = some r) : Den Try.prog 115 [(eSi64 a0), (eSi64 a1)] { r := (.int .i64 r) } := by
  refine den_of (rs := [(.int .i64 r)]) (ac := impl_compare_c) (L := impl_compare_L) (n := 35) (m := []) good Try.func115 impl_compare_body (by kernel_rfl) Try.ntmps115 rfl rfl impl_compare_strip rfl rfl ?_
  refine a_st (σ' := ⟨[(0, (eSi64 a0)), (1, (eSi64 a1))], []⟩) (by kernel_rfl) ?_
  unfold impl_compare_c
  refine a_seq ?_
  refine a_region ?_
  refine a_val (v := (.int .i64 0)) (u := []) rfl trivial rfl ?_
  refine a_nil ?_
  refine a_next (σ' := ⟨[(0, (eSi64 a0)), (1, (eSi64 a1))], []⟩) (by kernel_rfl) ?_
  refine a_seq ?_
  refine a_seq ?_
  refine a_region ?_
  refine a_val (v := (eSi64 a0)) (u := []) rfl trivial rfl ?_
  refine a_val (v := (.int .i64 (a0.length : Int))) (u := []) (len_run rfl rfl) trivial rfl ?_
  refine a_val (v := (eSi64 a1)) (u := []) rfl trivial rfl ?_
  refine a_val (v := (.int .i64 (a1.length : Int))) (u := []) (len_run rfl rfl) trivial rfl ?_
  obtain ⟨r1, hr2, h⟩ := bind_some h
  refine a_call (args := [(.int .i64 (a0.length : Int)), (.int .i64 (a1.length : Int))]) (u := []) (r := (.int .i64 r1)) rfl rfl (cmp_Compare_int_ok (a0.length : Int) (a1.length : Int) r1 hr2) rfl ?_
  refine a_val (v := (.int .i64 r1)) (u := []) rfl trivial rfl ?_
  refine a_nil ?_
  refine a_next (σ' := ⟨[(0, (eSi64 a0)), (1, (eSi64 a1)), (5, (.int .i64 r1))], []⟩) (by kernel_rfl) ?_
  refine a_seq ?_
  refine a_region ?_
  refine a_val (v := (.int .i64 r1)) (u := []) rfl trivial rfl ?_
  refine a_val (v := (.bool (r1 != 0))) (u := []) rfl trivial rfl ?_
  refine a_nil ?_
  refine a_next (σ' := ⟨[(0, (eSi64 a0)), (1, (eSi64 a1)), (5, (.int .i64 r1)), (14, (.bool (r1 != 0)))], []⟩) (by kernel_rfl) ?_
  cases hb3 : (r1 != 0)
  · have h := ite_f hb3 h
    refine a_cond_f rfl ?_
    refine a_skip ?_
    refine a_next (σ' := ⟨[(0, (eSi64 a0)), (1, (eSi64 a1))], []⟩) (by kernel_rfl) ?_
    obtain ⟨y53, hy54, hk55⟩ := bind_some h
    clear h
    refine a_join (emb := fun (s : Unit) => ⟨[], []⟩) (pre := fun s => (.inl s) = y53) ?_ ?_
    · rintro _ rfl
      have h := hk55
      refine a_st (σ' := ⟨[], []⟩) (by kernel_rfl) ?_
      refine a_seq ?_
      refine a_region ?_
      refine a_val (v := (.int .i64 0)) (u := []) rfl trivial rfl ?_
      refine a_nil ?_
      refine a_next rfl ?_
      refine a_ret ?_
      refine ⟨.inr rfl, ?_⟩
      rw [Try.results115]
      cases h
      exact ⟨_, _, _, _, _, rfl, trivial, .inl ⟨rfl, .inl rfl⟩, rfl, rfl⟩
    · have h := hy54
      refine a_seq ?_
      refine a_region ?_
      refine a_val (v := (eSi64 a0)) (u := []) rfl trivial rfl ?_
      refine a_val (v := (.int .i64 (a0.length : Int))) (u := []) (len_run rfl rfl) trivial rfl ?_
      refine a_val (v := (.int .i64 (IntKind.i64.wrap ((a0.length : Int) - 1)))) (u := []) rfl trivial rfl ?_
      refine a_val (v := (.int .i64 (IntKind.i64.wrap ((a0.length : Int) - 1)))) (u := []) rfl trivial rfl ?_
      refine a_nil ?_
      refine a_next (σ' := ⟨[(0, (eSi64 a0)), (1, (eSi64 a1)), (6, (.int .i64 (IntKind.i64.wrap ((a0.length : Int) - 1))))], []⟩) (by kernel_rfl) ?_
      refine a_block ?_
      refine a_loop (emb := fun (s : Int) => ⟨[(0, (eSi64 a0)), (1, (eSi64 a1)), (6, (.int .i64 s))], []⟩) (body := (fun s : Int => impl_compare_l1 a0 a1 s)) (G := fun q => some q = some y53) h rfl ?_ (by kernel_rfl)
      rintro X87 x72 x88 h hX89
      have h : impl_compare_l1 a0 a1 x72 = some x88 := h
      refine a_st (σ' := ⟨[(0, (eSi64 a0)), (1, (eSi64 a1)), (6, (.int .i64 x72))], []⟩) (by kernel_rfl) ?_
      refine a_seq ?_
      refine a_seq ?_
      refine a_region ?_
      refine a_val (v := (.int .i64 x72)) (u := []) rfl trivial rfl ?_
      refine a_val (v := (.bool ((decide (x72 ≥ 0))))) (u := []) rfl trivial rfl ?_
      refine a_nil ?_
      refine a_next (σ' := ⟨[(0, (eSi64 a0)), (1, (eSi64 a1)), (6, (.int .i64 x72)), (20, (.bool ((decide (x72 ≥ 0)))))], []⟩) (by kernel_rfl) ?_
      cases hb90 : (decide (x72 ≥ 0))
      · have h := ite_f hb90 h
        refine a_cond_f rfl ?_
        refine a_exit ?_
        refine t_exit ?_
        cases h
        have h := hX89
        refine t_exit ?_
        refine b_exit ?_
        exact j_leaf () (Option.some.inj h) (by kernel_rfl)
      · have h := ite_t hb90 h
        refine a_cond_t rfl ?_
        refine a_skip ?_
        refine a_next (σ' := ⟨[(0, (eSi64 a0)), (1, (eSi64 a1)), (6, (.int .i64 x72))], []⟩) (by kernel_rfl) ?_
        refine a_seq ?_
        refine a_block ?_
        refine a_seq ?_
        refine a_draw [⟨[], [], [], []⟩, ⟨[], [], [], []⟩, ⟨[], [], [], [0, 1]⟩, ⟨[], [], [], [0, 1, 2]⟩, ⟨[], [], [], []⟩, ⟨[], [], [], []⟩, ⟨[], [], [], [4, 5]⟩, ⟨[], [], [], [4, 5, 6]⟩, ⟨[], [], [], [0, 1, 2, 3, 4, 5, 6, 7]⟩, ⟨[], [], [], [0, 1, 2, 3, 4, 5, 6, 7, 8]⟩] (by kernel_rfl) ?_
        refine d_cons ?_
        refine a_val (v := (eSi64 a0)) (u := []) rfl trivial rfl ?_
        refine d_next (by kernel_rfl) ?_
        refine d_cons ?_
        refine a_val (v := (.int .i64 x72)) (u := []) rfl trivial rfl ?_
        refine d_next (by kernel_rfl) ?_
        refine d_cons ?_
        obtain ⟨hc97, h⟩ := ifp_some h
        refine a_val (v := (.ref (.row 1 (a0.map (AV.int .i64))) [x72.toNat] [x72.toNat * 1])) (u := []) rfl (lmap hc97) rfl ?_
        refine d_next (by kernel_rfl) ?_
        refine d_cons ?_
        have hl98 : LdOk [x72.toNat] (.row 1 (a0.map (AV.int .i64))) [x72.toNat * 1] 1 false (.int .i64 (rd a0 x72.toNat)) := (.row (llt hc97) rfl (.nil rfl rfl rfl))
        refine a_val (v := (.int .i64 (rd a0 x72.toNat))) (u := []) (ld_ref (i := ⟨.int .i64, 1, 8, (.int .i64 0)⟩) rfl rfl hl98) hl98.c rfl ?_
        refine d_next (by kernel_rfl) ?_
        refine d_cons ?_
        refine a_val (v := (eSi64 a1)) (u := []) rfl trivial rfl ?_
        refine d_next (by kernel_rfl) ?_
        refine d_cons ?_
        refine a_val (v := (.int .i64 x72)) (u := []) rfl trivial rfl ?_
        refine d_next (by kernel_rfl) ?_
        refine d_cons ?_
        obtain ⟨hc99, h⟩ := ifp_some h
        refine a_val (v := (.ref (.row 1 (a1.map (AV.int .i64))) [x72.toNat] [x72.toNat * 1])) (u := []) rfl (lmap hc99) rfl ?_
        refine d_next (by kernel_rfl) ?_
        refine d_cons ?_
        have hl100 : LdOk [x72.toNat] (.row 1 (a1.map (AV.int .i64))) [x72.toNat * 1] 1 false (.int .i64 (rd a1 x72.toNat)) := (.row (llt hc99) rfl (.nil rfl rfl rfl))
        refine a_val (v := (.int .i64 (rd a1 x72.toNat))) (u := []) (ld_ref (i := ⟨.int .i64, 1, 8, (.int .i64 0)⟩) rfl rfl hl100) hl100.c rfl ?_
        refine d_next (by kernel_rfl) ?_
        refine d_cons ?_
        obtain ⟨r101, hr102, h⟩ := bind_some h
        refine a_call (args := [(.int .i64 (rd a0 x72.toNat)), (.int .i64 (rd a1 x72.toNat))]) (u := []) (r := (.int .i64 r101)) rfl rfl (cmp_Compare_int64_ok (rd a0 x72.toNat) (rd a1 x72.toNat) r101 hr102) rfl ?_
        refine d_next (by kernel_rfl) ?_
        refine d_cons ?_
        refine a_val (v := (.int .i64 r101)) (u := []) rfl trivial rfl ?_
        refine d_next (by kernel_rfl) ?_
        refine d_nil ?_
        refine a_next (σ' := ⟨[(0, (eSi64 a0)), (1, (eSi64 a1)), (6, (.int .i64 x72)), (7, (.int .i64 r101))], []⟩) (by kernel_rfl) ?_
        refine a_seq ?_
        refine a_region ?_
        refine a_val (v := (.int .i64 r101)) (u := []) rfl trivial rfl ?_
        refine a_val (v := (.bool (r101 != 0))) (u := []) rfl trivial rfl ?_
        refine a_nil ?_
        refine a_next (σ' := ⟨[(0, (eSi64 a0)), (1, (eSi64 a1)), (6, (.int .i64 x72)), (7, (.int .i64 r101)), (33, (.bool (r101 != 0)))], []⟩) (by kernel_rfl) ?_
        cases hb103 : (r101 != 0)
        · have h := ite_f hb103 h
          refine a_cond_f rfl ?_
          refine a_skip ?_
          refine b_norm ?_
          refine a_next (σ' := ⟨[(0, (eSi64 a0)), (1, (eSi64 a1)), (6, (.int .i64 x72))], []⟩) (by kernel_rfl) ?_
          refine a_region ?_
          refine a_val (v := (.int .i64 x72)) (u := []) rfl trivial rfl ?_
          refine a_val (v := (.int .i64 (IntKind.i64.wrap (x72 - 1)))) (u := []) rfl trivial rfl ?_
          refine a_val (v := (.int .i64 (IntKind.i64.wrap (x72 - 1)))) (u := []) rfl trivial rfl ?_
          refine a_nil ?_
          cases h
          exact a_again (by kernel_rfl) hX89
        · have h := ite_t hb103 h
          refine a_cond_t rfl ?_
          refine a_seq ?_
          refine a_region ?_
          refine a_val (v := (.int .i64 r101)) (u := []) rfl trivial rfl ?_
          refine a_val (v := (.int .i64 r101)) (u := []) rfl trivial rfl ?_
          refine a_nil ?_
          refine a_next rfl ?_
          refine a_ret ?_
          refine b_ret ?_
          refine t_ret ?_
          cases h
          have h := hX89
          refine t_ret ?_
          refine b_ret ?_
          refine t_ret ?_
          cases h
          have h := hk55
          refine ⟨.inr rfl, ?_⟩
          rw [Try.results115]
          cases h
          exact ⟨_, _, _, _, _, rfl, trivial, .inl ⟨rfl, .inl rfl⟩, rfl, rfl⟩
  · have h := ite_t hb3 h
    refine a_cond_t rfl ?_
    refine a_seq ?_
    refine a_region ?_
    refine a_val (v := (.int .i64 r1)) (u := []) rfl trivial rfl ?_
    refine a_val (v := (.int .i64 r1)) (u := []) rfl trivial rfl ?_
    refine a_nil ?_
    refine a_next rfl ?_
    refine a_ret ?_
    refine t_ret ?_
    refine ⟨.inr rfl, ?_⟩
    rw [Try.results115]
    cases h
    exact ⟨_, _, _, _, _, rfl, trivial, .inl ⟨rfl, .inl rfl⟩, rfl, rfl⟩
def impl_prime_factors_c1_c : ACode := (.seq (.region 0 [⟨some 2, .box 71 (.tmp 0), none, []⟩, ⟨some 3, .box 71 (.tmp 1), none, []⟩, ⟨some 4, .asg 0 (.const (.int .i64 0)) 3, none, []⟩] false) (.seq (.region 1 [⟨some 5, .fieldAddr 71 (.tmp 2) 0, none, []⟩, ⟨some 6, .load 65 (.tmp 5), none, []⟩, ⟨some 7, .fieldAddr 71 (.tmp 3) 0, none, []⟩, ⟨some 8, .load 65 (.tmp 7), none, []⟩, ⟨some 9, .call 0 (.func 115) [(.tmp 6), (.tmp 8)], none, []⟩, ⟨some 4, .asg 0 (.tmp 9) 3, none, []⟩] false) .ret))
def impl_prime_factors_c1_L : Live := [(0, [0, 1]), (1, [2, 3])]
theorem impl_prime_factors_c1_body : Try.f114.body = some (Try.f114.body.getD .skip) := by kernel_rfl
theorem impl_prime_factors_c1_strip : strip [] (Try.f114.body.getD .skip) = impl_prime_factors_c1_c := by kernel_rfl
noncomputable def impl_prime_factors_c1 (a0 : ((List Int) × Int)) (a1 : ((List Int) × Int)) : Option Int :=
  (Option.bind (impl_compare a0.1 a1.1) fun r3 => (some r3))
set_option maxHeartbeats 16000000 in
theorem impl_prime_factors_c1_ok (a0 : ((List Int) × Int)) (a1 : ((List Int) × Int)) (r : Int) (h : impl_prime_factors_c1 a0 a1 = some r) : Den Try.prog 114 [(eT_Si64_i64_Z a0), (eT_Si64_i64_Z a1)] { r := (.int .i64 r) } := by
  refine den_of (rs := [(.int .i64 r)]) (ac := impl_prime_factors_c1_c) (L := impl_prime_factors_c1_L) (n := 10) (m := []) good Try.func114 impl_prime_factors_c1_body (by kernel_rfl) Try.ntmps114 rfl rfl impl_prime_factors_c1_strip rfl rfl ?_
  refine a_st (σ' := ⟨[(0, (eT_Si64_i64_Z a0)), (1, (eT_Si64_i64_Z a1))], []⟩) (by kernel_rfl) ?_
  unfold impl_prime_factors_c1_c
  refine a_seq ?_
  refine a_region ?_
  refine a_val (v := (.own 1200 [] [])) (u := [(1200, some ⟨(eT_Si64_i64_Z a0), false⟩)]) rfl trivial rfl ?_
  refine a_val (v := (.own 1300 [] [])) (u := [(1300, some ⟨(eT_Si64_i64_Z a1), false⟩)]) rfl trivial rfl ?_
  refine a_val (v := (.int .i64 0)) (u := []) rfl trivial rfl ?_
  refine a_nil ?_
  refine a_next (σ' := ⟨[(2, (.own 2 [] [])), (3, (.own 3 [] []))], [(2, some ⟨(eT_Si64_i64_Z a0), false⟩), (3, some ⟨(eT_Si64_i64_Z a1), false⟩)]⟩) (by kernel_rfl) ?_
  refine a_seq ?_
  refine a_region ?_
  refine a_val (v := (.own 2 [0] [0])) (u := []) rfl (Nat.le_of_ble_eq_true rfl) rfl ?_
  have hl1 : LdOk [0] (eT_Si64_i64_Z a0) [0] 1 false (eSi64 a0.1) := (.fld rfl rfl rfl rfl (.nil rfl rfl rfl))
  refine a_val (v := (eSi64 a0.1)) (u := []) (ld_own (i := ⟨.slice 2, 1, 24, (eSi64 [])⟩) rfl rfl rfl hl1) hl1.c rfl ?_
  refine a_val (v := (.own 3 [0] [0])) (u := []) rfl (Nat.le_of_ble_eq_true rfl) rfl ?_
  have hl2 : LdOk [0] (eT_Si64_i64_Z a1) [0] 1 false (eSi64 a1.1) := (.fld rfl rfl rfl rfl (.nil rfl rfl rfl))
  refine a_val (v := (eSi64 a1.1)) (u := []) (ld_own (i := ⟨.slice 2, 1, 24, (eSi64 [])⟩) rfl rfl rfl hl2) hl2.c rfl ?_
  obtain ⟨r3, hr4, h⟩ := bind_some h
  refine a_call (args := [(eSi64 a0.1), (eSi64 a1.1)]) (u := []) (r := (.int .i64 r3)) rfl rfl (impl_compare_ok a0.1 a1.1 r3 hr4) rfl ?_
  refine a_val (v := (.int .i64 r3)) (u := []) rfl trivial rfl ?_
  refine a_nil ?_
  refine a_next rfl ?_
  refine a_ret ?_
  refine ⟨.inr rfl, ?_⟩
  rw [Try.results114]
  cases h
  exact ⟨_, _, _, _, _, rfl, trivial, .inl ⟨rfl, .inl rfl⟩, rfl, rfl⟩
end Go.Proofs.Ytcgohoclbjgmkaa
