/- Functions of the program: plain Lean functions, and that the program computes them. Printed by gen.py. -/
import Derived.Test.YtdhcpekngpndnaaFnT
import Derived.Test.YtdhcpekngpndnaaFn3
namespace Go.Proofs.Ytdhcpekngpndnaa
open Go.Abs Go.Proofs
set_option linter.unusedSimpArgs false
set_option linter.unusedVariables false
set_option maxHeartbeats 16000000
attribute [local irreducible] Abs.acode Abs.aops Abs.aopsT Abs.thenK Abs.blockK

def impl_row_at_c : ACode := (.seq (.region 0 [q 4 (.asg 0 (.const (.int .i64 0)) 2)] false) (.seq (.seq (.region 1 [q 5 (.mov (t 1)), q 6 (.mov (t 0)), q 7 (.blt 0 .len [(t 6)] [66]), q 8 (.bin .lss 3 (t 5) (t 7))] false) (.cond (t 8) (.seq (.region 2 [q 9 (.mov (t 0)), q 10 (.mov (t 1)), q 11 (.indexAddr 66 (t 9) (t 10)), q 12 (.load 2 (t 11)), q 4 (.asg 0 (t 12) 2)] false) .ret) .skip)) (.seq (.region 3 [q 4 (.asg 0 (.const (.int .i64 0)) 2)] false) .ret)))
def impl_row_at_L : Live := [(0, [0, 1]), (1, [0, 1]), (2, [0, 1]), (3, []), (100008, [0, 1, 8])]
noncomputable def impl_row_at (a0 : (List Int)) (a1 : Int) : Option Int :=
  (if (decide (a1 < (a0.length : Int))) then (ifp (0 ≤ a1 ∧ a1 < ((a0.length : Nat) : Int)) ((some (rd a0 a1.toNat)))) else (some 0))
theorem impl_row_at_ok (a0 : (List Int)) (a1 : Int) (r : Int) (h : impl_row_at a0 a1 = some r) : Den Try.prog 149 [(eSi64 a0), (i6 a1)] { r := (i6 r) } := by
  refine den_of (rs := [(i6 r)]) (ac := impl_row_at_c) (L := impl_row_at_L) (n := 13) (m := []) (c := Try.f149.body.getD .skip) good Try.func149 (by kernel_rfl) (by kernel_rfl) Try.ntmps149 rfl rfl (by kernel_rfl) rfl rfl ?_
  refine a_st (σ' := ⟨[(0, (eSi64 a0)), (1, (i6 a1))], []⟩) (by kernel_rfl) ?_
  unfold impl_row_at_c
  refine sr (vp (i6 0) rfl (nx ⟨[(0, (eSi64 a0)), (1, (i6 a1))], []⟩ (by kernel_rfl) (a_seq (sr (vp (i6 a1) rfl (vp (eSi64 a0) rfl (vq (i6 (a0.length : Int)) (len_run rfl rfl) trivial (vp (.bool ((decide (a1 < (a0.length : Int))))) rfl (nx ⟨[(0, (eSi64 a0)), (1, (i6 a1)), (8, (.bool ((decide (a1 < (a0.length : Int))))))], []⟩ (by kernel_rfl) ?_)))))))))
  cases hb1 : (decide (a1 < (a0.length : Int)))
  · have h := ite_f hb1 h
    refine a_cond_f rfl (a_skip (a_next (σ' := ⟨[], []⟩) (by kernel_rfl) (sr (vp (i6 0) rfl (nx _ rfl (a_ret ?_))))))
    refine ⟨.inr rfl, ?_⟩
    rw [Try.results149]
    cases h
    exact ⟨_, _, _, _, _, rfl, trivial, .inl ⟨rfl, .inl rfl⟩, rfl, rfl⟩
  · have h := ite_t hb1 h
    refine a_cond_t rfl (sr (vp (eSi64 a0) rfl (vp (i6 a1) rfl ?_)))
    obtain ⟨hc2, h⟩ := ifp_some h
    refine vq (.ref (.row 1 (a0.map (AV.int .i64))) [a1.toNat] [a1.toNat * 1]) rfl (lmap hc2) ?_
    have hl3 : LdOk [a1.toNat] (.row 1 (a0.map (AV.int .i64))) [a1.toNat * 1] 1 false (i6 (rd a0 a1.toNat)) := (.row (llt hc2) rfl (.nil rfl rfl rfl))
    refine vq (i6 (rd a0 a1.toNat)) (ld_ref (i := ⟨.int .i64, 1, 8, (.int .i64 0)⟩) rfl rfl hl3) hl3.c (vp (i6 (rd a0 a1.toNat)) rfl (nx _ rfl (a_ret (t_ret ?_))))
    refine ⟨.inr rfl, ?_⟩
    rw [Try.results149]
    cases h
    exact ⟨_, _, _, _, _, rfl, trivial, .inl ⟨rfl, .inl rfl⟩, rfl, rfl⟩
def impl_prime_combine_c : ACode := (.seq (.region 0 [q 8 (.asg 1 (.const (.slice none 0 0)) 66)] false) (.seq (.region 1 [q 11 (.mov (t 1)), q 12 (.blt 0 .len [(t 11)] [66]), q 13 (.mov (t 2)), q 14 (.blt 0 .len [(t 13)] [66]), q 15 (.blt 0 .max [(t 12), (t 14)] [3, 3]), q 16 (.mkslice 66 (t 15) (t 15)), q 9 (.asg 2 (t 16) 66)] false) (.seq (.seq (.region 2 [q 17 (.mov (t 9)), q 18 (.blt 0 .len [(t 17)] [66]), q 19 (.mov (.const (.int .i64 0)))] false) (.block 0 (.loop (.seq (.region 3 [q 20 (.bin .lss 3 (t 19) (t 18))] false) (.seq (.cond (t 20) .skip (.exit 0)) (.seq (.block 1 (.seq (.region 4 [q 21 (.mov (t 19)), q 10 (.asg 0 (t 21) 3)] false) (.region 5 [q 22 (.mov (t 9)), q 23 (.mov (t 10)), q 24 (.mov (t 0)), q 25 (.mov (t 1)), q 26 (.mov (t 10)), q 27 (.call 0 (.func 149) [(t 25), (t 26)]), q 28 (.mov (t 3)), q 29 (.mov (t 2)), q 30 (.mov (t 10)), q 31 (.call 0 (.func 149) [(t 29), (t 30)]), q 32 (.bin .mul 2 (t 28) (t 31)), q 33 (.bin .add 2 (t 27) (t 32)), q 34 (.call 0 (.func 158) [(t 24), (t 33)]), q 35 (.indexAddr 66 (t 22) (t 23)), ⟨none, .store 2 (t 35) (t 34), none, []⟩] false))) (.region 6 [q 36 (.bin .add 3 (t 19) (.const (.int .i64 1))), q 19 (.mov (t 36))] false))))))) (.seq (.region 7 [q 37 (.mov (t 9)), q 38 (.call 0 (.func 142) [(t 37)]), q 8 (.asg 1 (t 38) 66)] false) .ret))))
def impl_prime_combine_L : Live := [(0, [0, 1, 2, 3]), (1, [0, 1, 2, 3]), (2, [0, 1, 2, 3, 9]), (3, [0, 1, 2, 3, 9, 18, 19]), (4, [0, 1, 2, 3, 9, 18, 19]), (5, [0, 1, 2, 3, 9, 10, 18, 19]), (6, [0, 1, 2, 3, 9, 18, 19]), (7, [9]), (100020, [0, 1, 2, 3, 9, 18, 19, 20])]
noncomputable def impl_prime_combine_l1 (x1 : Int) (a1 : (List Int)) (a2 : (List Int)) (a0 : Int) (a3 : Int) (x58 : Int) (x59 : (List Int)) : Option ((Int × (List Int)) ⊕ (List Int)) :=
  (letp ((decide (x58 < (((List.replicate x1.toNat (0 : Int)).length : Int))))) fun x74 => (if x74 then (Option.bind (impl_row_at a1 x58) fun r77 => (Option.bind (impl_row_at a2 x58) fun r79 => (Option.bind (impl_prime_reduce a0 (IntKind.i64.wrap (r77 + (IntKind.i64.wrap (a3 * r79))))) fun r81 => (ifp (0 ≤ x58 ∧ x58 < ((x59.length : Nat) : Int)) ((some (.inl ((IntKind.i64.wrap (x58 + 1), (x59.set x58.toNat r81)))))))))) else (some (.inr x59))))
noncomputable def impl_prime_combine (a0 : Int) (a1 : (List Int)) (a2 : (List Int)) (a3 : Int) : Option (List Int) :=
  (letp ((if (a2.length : Int) > (a1.length : Int) then (a2.length : Int) else (a1.length : Int))) fun x1 => (ifp (0 ≤ x1 ∧ x1 ≤ 140737488355328 ∧ 8 * x1 ≤ 140737488355328) ((Option.bind (α := (List Int)) ((loopM (fun s : (Int × (List Int)) => impl_prime_combine_l1 x1 a1 a2 a0 a3 s.1 s.2) (0, List.replicate x1.toNat (0 : Int)))) fun x43 => (Option.bind (impl_row_trimmed x43) fun r86 => (some r86))))))
theorem impl_prime_combine_ok (a0 : Int) (a1 : (List Int)) (a2 : (List Int)) (a3 : Int) (r : (List Int)) (h : impl_prime_combine a0 a1 a2 a3 = some r) : Den Try.prog 99 [(i6 a0), (eSi64 a1), (eSi64 a2), (i6 a3)] { r := (eSi64 r) } := by
  refine den_of (rs := [(eSi64 r)]) (ac := impl_prime_combine_c) (L := impl_prime_combine_L) (n := 39) (m := [(8, 1), (9, 2)]) (c := Try.f99.body.getD .skip) good Try.func99 (by kernel_rfl) (by kernel_rfl) Try.ntmps99 rfl rfl (by kernel_rfl) rfl rfl ?_
  refine a_st (σ' := ⟨[(0, (i6 a0)), (1, (eSi64 a1)), (2, (eSi64 a2)), (3, (i6 a3))], []⟩) (by kernel_rfl) ?_
  unfold impl_prime_combine_c
  refine sr (vp (eSi64 ([])) rfl (nx ⟨[(0, (i6 a0)), (1, (eSi64 a1)), (2, (eSi64 a2)), (3, (i6 a3))], []⟩ (by kernel_rfl) (sr (vp (eSi64 a1) rfl (vq (i6 (a1.length : Int)) (len_run rfl rfl) trivial (vp (eSi64 a2) rfl (vq (i6 (a2.length : Int)) (len_run rfl rfl) trivial ?_)))))))
  obtain ⟨x1, hx2, h⟩ := letp_some h
  refine a_val' (v := (i6 ((if (a2.length : Int) > (a1.length : Int) then (a2.length : Int) else (a1.length : Int))))) (v' := (i6 x1)) (u := []) (u' := []) rfl (congrArg (fun z => ((i6 z) : AV)) hx2) rfl trivial rfl ?_
  obtain ⟨hc3, h⟩ := ifp_some h
  refine vu (.osl 2600) [(2600, (bk (.row 1 ((List.replicate x1.toNat (0 : Int)).map (AV.int .i64)))))] (mk_run (i := ⟨.int .i64, 1, 8, (.int .i64 0)⟩) (f := (AV.int .i64)) (y := (0 : Int)) rfl rfl rfl rfl rfl rfl) ⟨rfl, hc3.1, hc3.2.1, hc3.2.2, (Nat.le_of_ble_eq_true rfl)⟩ rfl (vp (.osl 2600) rfl (nx ⟨[(0, (i6 a0)), (1, (eSi64 a1)), (2, (eSi64 a2)), (3, (i6 a3)), (9, (.osl 9))], [(9, (bk (.row 1 ((List.replicate x1.toNat (0 : Int)).map (AV.int .i64)))))]⟩ (by kernel_rfl) ?_))
  obtain ⟨y44, hy45, hk46⟩ := bind_some h
  clear h
  refine a_join (emb := fun (s : (List Int)) => ⟨[(9, (.osl 9))], [(9, (bk (.row 1 (s.map (AV.int .i64)))))]⟩) (pre := fun s => s = y44) ?_ ?_
  · rintro x43 rfl
    have h := hk46
    refine a_st (σ' := ⟨[(9, (.osl 9))], [(9, (bk (.row 1 (x43.map (AV.int .i64)))))]⟩) (by kernel_rfl) (sr (vp (.osl 9) rfl ?_))
    obtain ⟨r86, hr87, h⟩ := bind_some h
    refine a_call (args := [(eSi64 x43)]) (u := [(9, (bf (.row 1 (x43.map (AV.int .i64)))))]) (r := (eSi64 r86)) rfl rfl (impl_row_trimmed_ok x43 r86 hr87) rfl (vp (eSi64 r86) rfl (nx _ rfl (a_ret ?_)))
    refine ⟨.inr rfl, ?_⟩
    rw [Try.results99]
    cases h
    exact ⟨_, _, _, _, _, rfl, trivial, .inl ⟨rfl, .inl rfl⟩, rfl, rfl⟩
  · have h := hy45
    refine sr (vp (.osl 9) rfl (vq (i6 (((List.replicate x1.toNat (0 : Int)).length : Int))) (leno_run rfl rfl rfl) trivial (vp (i6 0) rfl (nx ⟨[(0, (i6 a0)), (1, (eSi64 a1)), (2, (eSi64 a2)), (3, (i6 a3)), (9, (.osl 9)), (18, (i6 (((List.replicate x1.toNat (0 : Int)).length : Int)))), (19, (i6 0))], [(9, (bk (.row 1 ((List.replicate x1.toNat (0 : Int)).map (AV.int .i64)))))]⟩ (by kernel_rfl) (a_block ?_)))))
    refine a_loop (emb := fun (s : (Int × (List Int))) => ⟨[(0, (i6 a0)), (1, (eSi64 a1)), (2, (eSi64 a2)), (3, (i6 a3)), (9, (.osl 9)), (18, (i6 (((List.replicate x1.toNat (0 : Int)).length : Int)))), (19, (i6 s.1))], [(9, (bk (.row 1 (s.2.map (AV.int .i64)))))]⟩) (body := (fun s : (Int × (List Int)) => impl_prime_combine_l1 x1 a1 a2 a0 a3 s.1 s.2)) (G := fun q => some q = some y44) h rfl ?_ (by kernel_rfl)
    rintro X71 ⟨x58, x59⟩ x72 h hX73
    have h : impl_prime_combine_l1 x1 a1 a2 a0 a3 x58 x59 = some x72 := h
    refine a_st (σ' := ⟨[(0, (i6 a0)), (1, (eSi64 a1)), (2, (eSi64 a2)), (3, (i6 a3)), (9, (.osl 9)), (18, (i6 (((List.replicate x1.toNat (0 : Int)).length : Int)))), (19, (i6 x58))], [(9, (bk (.row 1 (x59.map (AV.int .i64)))))]⟩) (by kernel_rfl) (sr ?_)
    obtain ⟨x74, hx75, h⟩ := letp_some h
    refine a_val' (v := (.bool ((decide (x58 < (((List.replicate x1.toNat (0 : Int)).length : Int))))))) (v' := (.bool x74)) (u := []) (u' := []) rfl (congrArg (fun z => ((.bool z) : AV)) hx75) rfl trivial rfl (nx ⟨[(0, (i6 a0)), (1, (eSi64 a1)), (2, (eSi64 a2)), (3, (i6 a3)), (9, (.osl 9)), (18, (i6 (((List.replicate x1.toNat (0 : Int)).length : Int)))), (19, (i6 x58)), (20, (.bool x74))], [(9, (bk (.row 1 (x59.map (AV.int .i64)))))]⟩ (by kernel_rfl) (a_seq ?_))
    cases hb76 : x74
    · have h := ite_f hb76 h
      refine a_cond_f rfl (a_exit (t_exit ?_))
      cases h
      have h := hX73
      refine t_exit (b_exit ?_)
      exact j_leaf x59 (Option.some.inj h) (by kernel_rfl)
    · have h := ite_t hb76 h
      refine a_cond_t rfl (a_skip (a_next (σ' := ⟨[(0, (i6 a0)), (1, (eSi64 a1)), (2, (eSi64 a2)), (3, (i6 a3)), (9, (.osl 9)), (18, (i6 (((List.replicate x1.toNat (0 : Int)).length : Int)))), (19, (i6 x58))], [(9, (bk (.row 1 (x59.map (AV.int .i64)))))]⟩) (by kernel_rfl) (a_seq (a_block (sr (vp (i6 x58) rfl (vp (i6 x58) rfl (nx ⟨[(0, (i6 a0)), (1, (eSi64 a1)), (2, (eSi64 a2)), (3, (i6 a3)), (9, (.osl 9)), (10, (i6 x58)), (18, (i6 (((List.replicate x1.toNat (0 : Int)).length : Int)))), (19, (i6 x58))], [(9, (bk (.row 1 (x59.map (AV.int .i64)))))]⟩ (by kernel_rfl) (a_region ?_)))))))))
      refine vp (.osl 9) rfl (vp (i6 x58) rfl (vp (i6 a0) rfl (vp (eSi64 a1) rfl (vp (i6 x58) rfl ?_))))
      obtain ⟨r77, hr78, h⟩ := bind_some h
      refine a_call (args := [(eSi64 a1), (i6 x58)]) (u := []) (r := (i6 r77)) rfl rfl (impl_row_at_ok a1 x58 r77 hr78) rfl (vp (i6 a3) rfl (vp (eSi64 a2) rfl (vp (i6 x58) rfl ?_)))
      obtain ⟨r79, hr80, h⟩ := bind_some h
      refine a_call (args := [(eSi64 a2), (i6 x58)]) (u := []) (r := (i6 r79)) rfl rfl (impl_row_at_ok a2 x58 r79 hr80) rfl (vp (i6 (IntKind.i64.wrap (a3 * r79))) rfl (vp (i6 (IntKind.i64.wrap (r77 + (IntKind.i64.wrap (a3 * r79))))) rfl ?_))
      obtain ⟨r81, hr82, h⟩ := bind_some h
      refine a_call (args := [(i6 a0), (i6 (IntKind.i64.wrap (r77 + (IntKind.i64.wrap (a3 * r79)))))]) (u := []) (r := (i6 r81)) rfl rfl (impl_prime_reduce_ok a0 (IntKind.i64.wrap (r77 + (IntKind.i64.wrap (a3 * r79)))) r81 hr82) rfl ?_
      obtain ⟨hc83, h⟩ := ifp_some h
      refine vq (.own 9 [x58.toNat] [x58.toNat * 1]) rfl (lmap hc83) ?_
      have hs84 : StOk [x58.toNat] (.row 1 (x59.map (AV.int .i64))) [x58.toNat * 1] 1 (i6 r81) (.row 1 ((x59.set x58.toNat r81).map (AV.int .i64))) := (.row (y := r81) (llt hc83) rfl (.nil rfl rfl rfl rfl))
      refine vu .top [(9, (bk (.row 1 ((x59.set x58.toNat r81).map (AV.int .i64)))))] (st_own (i := ⟨.int .i64, 1, 8, (.int .i64 0)⟩) rfl rfl (fun _ => rfl) rfl hs84) (hs84.c rfl) rfl (a_nil (b_norm (a_next (σ' := ⟨[(0, (i6 a0)), (1, (eSi64 a1)), (2, (eSi64 a2)), (3, (i6 a3)), (9, (.osl 9)), (18, (i6 (((List.replicate x1.toNat (0 : Int)).length : Int)))), (19, (i6 x58))], [(9, (bk (.row 1 ((x59.set x58.toNat r81).map (AV.int .i64)))))]⟩) (by kernel_rfl) (a_region (vp (i6 (IntKind.i64.wrap (x58 + 1))) rfl (vp (i6 (IntKind.i64.wrap (x58 + 1))) rfl (a_nil ?_)))))))
      cases h
      exact a_again (by kernel_rfl) hX73
def impl_letter_c : ACode := (.seq (.region 0 [q 0 (.asg 1 (.const (.slice none 0 0)) 66)] false) (.seq (.region 1 [q 1 (.bslice 0 66 2 [(0, (.const (.int .i64 0))), (1, (.const (.int .i64 1)))]), q 0 (.asg 1 (t 1) 66)] false) .ret))
def impl_letter_L : Live := [(0, []), (1, [])]
noncomputable def impl_letter  : Option (List Int) :=
  (some ([0, 1]))
theorem impl_letter_ok  (r : (List Int)) (h : impl_letter = some r) : Den Try.prog 183 [] { r := (eSi64 r) } := by
  refine den_of (rs := [(eSi64 r)]) (ac := impl_letter_c) (L := impl_letter_L) (n := 2) (m := [(0, 1)]) (c := Try.f183.body.getD .skip) good Try.func183 (by kernel_rfl) (by kernel_rfl) Try.ntmps183 rfl rfl (by kernel_rfl) rfl rfl ?_
  refine a_st (σ' := ⟨[], []⟩) (by kernel_rfl) ?_
  unfold impl_letter_c
  refine sr (vp (eSi64 ([])) rfl (nx ⟨[], []⟩ (by kernel_rfl) (sr (vq (.sl 1 true (([0, 1]).map (AV.int .i64))) rfl ⟨(Nat.le_of_ble_eq_true rfl), (Nat.le_of_ble_eq_true rfl), (all_cons ⟨(Nat.le_of_ble_eq_true rfl), rfl⟩ (all_cons ⟨(Nat.le_of_ble_eq_true rfl), rfl⟩ all_nil))⟩ (vq (eSi64 ([0, 1])) (asg_tight (i := ⟨.int .i64, 1, 8, (.int .i64 0)⟩) (f := (AV.int .i64)) (l := [0, 1]) rfl rfl rfl) trivial (nx _ rfl (a_ret ?_)))))))
  refine ⟨.inr rfl, ?_⟩
  rw [Try.results183]
  cases h
  exact ⟨_, _, _, _, _, rfl, trivial, .inl ⟨rfl, .inl rfl⟩, rfl, rfl⟩
def impl_prime_times_c : ACode := (.seq (.region 0 [q 6 (.asg 1 (.const (.slice none 0 0)) 66)] false) (.seq (.seq (.region 1 [q 14 (.mov (t 1)), q 15 (.blt 0 .len [(t 14)] [66]), q 16 (.bin .eql 3 (t 15) (.const (.int .i64 0))), q 17 (.mov (t 16)), ⟨some 18, .mov (t 2), some (17, false), []⟩, ⟨some 19, .blt 0 .len [(t 18)] [66], some (17, false), []⟩, ⟨some 20, .bin .eql 3 (t 19) (.const (.int .i64 0)), some (17, false), []⟩, q 21 (.pick (t 17) (.const (.bool true)) (t 20))] false) (.cond (t 21) (.seq (.region 2 [q 6 (.asg 1 (.const (.slice none 0 0)) 66)] false) .ret) .skip)) (.seq (.region 3 [q 22 (.mov (t 1)), q 23 (.blt 0 .len [(t 22)] [66]), q 24 (.mov (t 2)), q 25 (.blt 0 .len [(t 24)] [66]), q 26 (.bin .add 3 (t 23) (t 25)), q 27 (.bin .sub 3 (t 26) (.const (.int .i64 1))), q 28 (.mkslice 66 (t 27) (t 27)), q 7 (.asg 2 (t 28) 66)] false) (.seq (.seq (.region 4 [q 29 (.mov (t 1)), q 30 (.blt 0 .len [(t 29)] [66]), q 31 (.mov (.const (.int .i64 0)))] false) (.block 0 (.loop (.seq (.region 5 [q 32 (.bin .lss 3 (t 31) (t 30))] false) (.seq (.cond (t 32) .skip (.exit 0)) (.seq (.block 1 (.seq (.region 6 [q 33 (.mov (t 31)), q 34 (.indexAddr 66 (t 29) (t 31)), q 35 (.load 2 (t 34)), q 8 (.asg 0 (t 33) 3), q 9 (.asg 0 (t 35) 2)] false) (.seq (.region 7 [q 36 (.mov (t 2)), q 37 (.blt 0 .len [(t 36)] [66]), q 38 (.mov (.const (.int .i64 0)))] false) (.block 2 (.loop (.seq (.region 8 [q 39 (.bin .lss 3 (t 38) (t 37))] false) (.seq (.cond (t 39) .skip (.exit 2)) (.seq (.block 3 (.seq (.region 9 [q 40 (.mov (t 38)), q 41 (.indexAddr 66 (t 36) (t 38)), q 42 (.load 2 (t 41)), q 10 (.asg 0 (t 40) 3), q 11 (.asg 0 (t 42) 2)] false) (.region 10 [q 43 (.mov (t 7)), q 44 (.mov (t 8)), q 45 (.mov (t 10)), q 46 (.bin .add 3 (t 44) (t 45)), q 47 (.indexAddr 66 (t 43) (t 46)), q 48 (.load 2 (t 47)), q 49 (.mov (t 9)), q 50 (.mov (t 11)), q 51 (.bin .mul 2 (t 49) (t 50)), q 52 (.bin .add 2 (t 48) (t 51)), q 53 (.indexAddr 66 (t 43) (t 46)), ⟨none, .store 2 (t 53) (t 52), none, []⟩] false))) (.region 11 [q 54 (.bin .add 3 (t 38) (.const (.int .i64 1))), q 38 (.mov (t 54))] false))))))))) (.region 12 [q 55 (.bin .add 3 (t 31) (.const (.int .i64 1))), q 31 (.mov (t 55))] false))))))) (.seq (.seq (.region 13 [q 56 (.mov (t 7)), q 57 (.blt 0 .len [(t 56)] [66]), q 58 (.mov (.const (.int .i64 0)))] false) (.block 4 (.loop (.seq (.region 14 [q 59 (.bin .lss 3 (t 58) (t 57))] false) (.seq (.cond (t 59) .skip (.exit 4)) (.seq (.block 5 (.seq (.region 15 [q 60 (.mov (t 58)), q 61 (.indexAddr 66 (t 56) (t 58)), q 62 (.load 2 (t 61)), q 12 (.asg 0 (t 60) 3), q 13 (.asg 0 (t 62) 2)] false) (.region 16 [q 63 (.mov (t 7)), q 64 (.mov (t 12)), q 65 (.mov (t 13)), q 66 (.mov (t 0)), q 67 (.bin .rem 2 (t 65) (t 66)), q 68 (.indexAddr 66 (t 63) (t 64)), ⟨none, .store 2 (t 68) (t 67), none, []⟩] false))) (.region 17 [q 69 (.bin .add 3 (t 58) (.const (.int .i64 1))), q 58 (.mov (t 69))] false))))))) (.seq (.region 18 [q 70 (.mov (t 7)), q 71 (.call 0 (.func 142) [(t 70)]), q 6 (.asg 1 (t 71) 66)] false) .ret))))))
def impl_prime_times_L : Live := [(0, [0, 1, 2]), (1, [0, 1, 2]), (2, []), (3, [0, 1, 2]), (4, [0, 1, 2, 7]), (5, [0, 2, 7, 29, 30, 31]), (6, [0, 2, 7, 29, 30, 31]), (7, [0, 2, 7, 8, 9, 29, 30, 31]), (8, [0, 2, 7, 8, 9, 29, 30, 31, 36, 37, 38]), (9, [0, 2, 7, 8, 9, 29, 30, 31, 36, 37, 38]), (10, [0, 2, 7, 8, 9, 10, 11, 29, 30, 31, 36, 37, 38]), (11, [0, 2, 7, 8, 9, 29, 30, 31, 36, 37, 38]), (12, [0, 2, 7, 29, 30, 31]), (13, [0, 7]), (14, [0, 7, 56, 57, 58]), (15, [0, 7, 56, 57, 58]), (16, [0, 7, 12, 13, 56, 57, 58]), (17, [0, 7, 56, 57, 58]), (18, [7]), (100021, [0, 1, 2, 21]), (100032, [0, 2, 7, 29, 30, 31, 32]), (100039, [0, 2, 7, 8, 9, 29, 30, 31, 36, 37, 38, 39]), (100059, [0, 7, 56, 57, 58, 59])]
noncomputable def impl_prime_times_l2 (a2 : (List Int)) (x353 : Int) (a1 : (List Int)) (x492 : Int) (x493 : (List Int)) : Option ((Int × (List Int)) ⊕ (List Int)) :=
  (if (decide (x492 < (a2.length : Int))) then (ifp (0 ≤ x492 ∧ x492 < ((a2.length : Nat) : Int)) ((ifp (0 ≤ IntKind.i64.wrap (x353 + x492) ∧ IntKind.i64.wrap (x353 + x492) < ((x493.length : Nat) : Int)) ((letp (IntKind.i64.wrap (((rd x493 (IntKind.i64.wrap (x353 + x492)).toNat)) + (IntKind.i64.wrap ((rd a1 x353.toNat) * (rd a2 x492.toNat))))) fun x511 => (ifp (0 ≤ IntKind.i64.wrap (x353 + x492) ∧ IntKind.i64.wrap (x353 + x492) < ((x493.length : Nat) : Int)) ((some (.inl ((IntKind.i64.wrap (x492 + 1), (x493.set (IntKind.i64.wrap (x353 + x492)).toNat x511)))))))))))) else (some (.inr x493)))
noncomputable def impl_prime_times_l1 (a1 : (List Int)) (a2 : (List Int)) (x353 : Int) (x354 : (List Int)) : Option ((Int × (List Int)) ⊕ (List Int)) :=
  (if (decide (x353 < (a1.length : Int))) then (Option.bind (α := (List Int)) ((ifp (0 ≤ x353 ∧ x353 < ((a1.length : Nat) : Int)) ((loopM (fun s : (Int × (List Int)) => impl_prime_times_l2 a2 x353 a1 s.1 s.2) (0, x354))))) fun x475 => (some (.inl ((IntKind.i64.wrap (x353 + 1), x475))))) else (some (.inr x354)))
noncomputable def impl_prime_times_l3 (x262 : (List Int)) (a0 : Int) (x551 : Int) (x552 : (List Int)) : Option ((Int × (List Int)) ⊕ (List Int)) :=
  (if (decide (x551 < (x262.length : Int))) then (ifp (0 ≤ x551 ∧ x551 < ((x552.length : Nat) : Int)) ((ifp (a0 ≠ 0) ((ifp (0 ≤ x551 ∧ x551 < ((x552.length : Nat) : Int)) ((some (.inl ((IntKind.i64.wrap (x551 + 1), (x552.set x551.toNat (Int.tmod (rd x552 x551.toNat) a0)))))))))))) else (some (.inr x552)))
noncomputable def impl_prime_times (a0 : Int) (a1 : (List Int)) (a2 : (List Int)) : Option (List Int) :=
  (Option.bind (α := Bool) ((if ((a1.length : Int) == 0) then (some true) else (some (((a2.length : Int) == 0))))) fun x2 => (if x2 then (some ([])) else (letp (IntKind.i64.wrap ((IntKind.i64.wrap ((a1.length : Int) + (a2.length : Int))) - 1)) fun x8 => (ifp (0 ≤ x8 ∧ x8 ≤ 140737488355328 ∧ 8 * x8 ≤ 140737488355328) ((Option.bind (α := (List Int)) ((loopM (fun s : (Int × (List Int)) => impl_prime_times_l1 a1 a2 s.1 s.2) (0, List.replicate x8.toNat (0 : Int)))) fun x262 => (Option.bind (α := (List Int)) ((loopM (fun s : (Int × (List Int)) => impl_prime_times_l3 x262 a0 s.1 s.2) (0, x262))) fun x541 => (Option.bind (impl_row_trimmed x541) fun r569 => (some r569)))))))))
theorem impl_prime_times_ok (a0 : Int) (a1 : (List Int)) (a2 : (List Int)) (r : (List Int)) (h : impl_prime_times a0 a1 a2 = some r) : Den Try.prog 101 [(i6 a0), (eSi64 a1), (eSi64 a2)] { r := (eSi64 r) } := by
  refine den_of (rs := [(eSi64 r)]) (ac := impl_prime_times_c) (L := impl_prime_times_L) (n := 72) (m := [(6, 1), (7, 2)]) (c := Try.f101.body.getD .skip) good Try.func101 (by kernel_rfl) (by kernel_rfl) Try.ntmps101 rfl rfl (by kernel_rfl) rfl rfl ?_
  refine a_st (σ' := ⟨[(0, (i6 a0)), (1, (eSi64 a1)), (2, (eSi64 a2))], []⟩) (by kernel_rfl) ?_
  unfold impl_prime_times_c
  refine sr (vp (eSi64 ([])) rfl (nx ⟨[(0, (i6 a0)), (1, (eSi64 a1)), (2, (eSi64 a2))], []⟩ (by kernel_rfl) (a_seq ?_)))
  obtain ⟨y3, hy4, hk5⟩ := bind_some h
  clear h
  refine a_join (emb := fun (s : Bool) => ⟨[(0, (i6 a0)), (1, (eSi64 a1)), (2, (eSi64 a2)), (21, (.bool s))], []⟩) (pre := fun s => s = y3) ?_ ?_
  · rintro x2 rfl
    have h := hk5
    refine a_st (σ' := ⟨[(0, (i6 a0)), (1, (eSi64 a1)), (2, (eSi64 a2)), (21, (.bool x2))], []⟩) (by kernel_rfl) ?_
    cases hb7 : x2
    · have h := ite_f hb7 h
      refine a_cond_f rfl (a_skip (a_next (σ' := ⟨[(0, (i6 a0)), (1, (eSi64 a1)), (2, (eSi64 a2))], []⟩) (by kernel_rfl) (sr (vp (eSi64 a1) rfl (vq (i6 (a1.length : Int)) (len_run rfl rfl) trivial (vp (eSi64 a2) rfl (vq (i6 (a2.length : Int)) (len_run rfl rfl) trivial (vp (i6 (IntKind.i64.wrap ((a1.length : Int) + (a2.length : Int)))) rfl ?_))))))))
      obtain ⟨x8, hx9, h⟩ := letp_some h
      refine a_val' (v := (i6 (IntKind.i64.wrap ((IntKind.i64.wrap ((a1.length : Int) + (a2.length : Int))) - 1)))) (v' := (i6 x8)) (u := []) (u' := []) rfl (congrArg (fun z => ((i6 z) : AV)) hx9) rfl trivial rfl ?_
      obtain ⟨hc10, h⟩ := ifp_some h
      refine vu (.osl 3800) [(3800, (bk (.row 1 ((List.replicate x8.toNat (0 : Int)).map (AV.int .i64)))))] (mk_run (i := ⟨.int .i64, 1, 8, (.int .i64 0)⟩) (f := (AV.int .i64)) (y := (0 : Int)) rfl rfl rfl rfl rfl rfl) ⟨rfl, hc10.1, hc10.2.1, hc10.2.2, (Nat.le_of_ble_eq_true rfl)⟩ rfl (vp (.osl 3800) rfl (nx ⟨[(0, (i6 a0)), (1, (eSi64 a1)), (2, (eSi64 a2)), (7, (.osl 7))], [(7, (bk (.row 1 ((List.replicate x8.toNat (0 : Int)).map (AV.int .i64)))))]⟩ (by kernel_rfl) ?_))
      obtain ⟨y263, hy264, hk265⟩ := bind_some h
      clear h
      refine a_join (emb := fun (s : (List Int)) => ⟨[(0, (i6 a0)), (7, (.osl 7))], [(7, (bk (.row 1 (s.map (AV.int .i64)))))]⟩) (pre := fun s => s = y263) ?_ ?_
      · rintro x262 rfl
        have h := hk265
        refine a_st (σ' := ⟨[(0, (i6 a0)), (7, (.osl 7))], [(7, (bk (.row 1 (x262.map (AV.int .i64)))))]⟩) (by kernel_rfl) ?_
        obtain ⟨y542, hy543, hk544⟩ := bind_some h
        clear h
        refine a_join (emb := fun (s : (List Int)) => ⟨[(7, (.osl 7))], [(7, (bk (.row 1 (s.map (AV.int .i64)))))]⟩) (pre := fun s => s = y542) ?_ ?_
        · rintro x541 rfl
          have h := hk544
          refine a_st (σ' := ⟨[(7, (.osl 7))], [(7, (bk (.row 1 (x541.map (AV.int .i64)))))]⟩) (by kernel_rfl) (sr (vp (.osl 7) rfl ?_))
          obtain ⟨r569, hr570, h⟩ := bind_some h
          refine a_call (args := [(eSi64 x541)]) (u := [(7, (bf (.row 1 (x541.map (AV.int .i64)))))]) (r := (eSi64 r569)) rfl rfl (impl_row_trimmed_ok x541 r569 hr570) rfl (vp (eSi64 r569) rfl (nx _ rfl (a_ret ?_)))
          refine ⟨.inr rfl, ?_⟩
          rw [Try.results101]
          cases h
          exact ⟨_, _, _, _, _, rfl, trivial, .inl ⟨rfl, .inl rfl⟩, rfl, rfl⟩
        · have h := hy543
          refine sr (vp (.osl 7) rfl (vq (i6 (x262.length : Int)) (leno_run rfl rfl rfl) trivial (vp (i6 0) rfl (nx ⟨[(0, (i6 a0)), (7, (.osl 7)), (56, (.osl 7)), (57, (i6 (x262.length : Int))), (58, (i6 0))], [(7, (bk (.row 1 (x262.map (AV.int .i64)))))]⟩ (by kernel_rfl) (a_block ?_)))))
          refine a_loop (emb := fun (s : (Int × (List Int))) => ⟨[(0, (i6 a0)), (7, (.osl 7)), (56, (.osl 7)), (57, (i6 (x262.length : Int))), (58, (i6 s.1))], [(7, (bk (.row 1 (s.2.map (AV.int .i64)))))]⟩) (body := (fun s : (Int × (List Int)) => impl_prime_times_l3 x262 a0 s.1 s.2)) (G := fun q => some q = some y542) h rfl ?_ (by kernel_rfl)
          rintro X559 ⟨x551, x552⟩ x560 h hX561
          have h : impl_prime_times_l3 x262 a0 x551 x552 = some x560 := h
          refine a_st (σ' := ⟨[(0, (i6 a0)), (7, (.osl 7)), (56, (.osl 7)), (57, (i6 (x262.length : Int))), (58, (i6 x551))], [(7, (bk (.row 1 (x552.map (AV.int .i64)))))]⟩) (by kernel_rfl) (sr (vp (.bool ((decide (x551 < (x262.length : Int))))) rfl (nx ⟨[(0, (i6 a0)), (7, (.osl 7)), (56, (.osl 7)), (57, (i6 (x262.length : Int))), (58, (i6 x551)), (59, (.bool ((decide (x551 < (x262.length : Int))))))], [(7, (bk (.row 1 (x552.map (AV.int .i64)))))]⟩ (by kernel_rfl) (a_seq ?_))))
          cases hb562 : (decide (x551 < (x262.length : Int)))
          · have h := ite_f hb562 h
            refine a_cond_f rfl (a_exit (t_exit ?_))
            cases h
            have h := hX561
            refine t_exit (b_exit ?_)
            exact j_leaf x552 (Option.some.inj h) (by kernel_rfl)
          · have h := ite_t hb562 h
            refine a_cond_t rfl (a_skip (a_next (σ' := ⟨[(0, (i6 a0)), (7, (.osl 7)), (56, (.osl 7)), (57, (i6 (x262.length : Int))), (58, (i6 x551))], [(7, (bk (.row 1 (x552.map (AV.int .i64)))))]⟩) (by kernel_rfl) (a_seq (a_block (sr (vp (i6 x551) rfl ?_))))))
            obtain ⟨hc563, h⟩ := ifp_some h
            refine vq (.own 7 [x551.toNat] [x551.toNat * 1]) rfl (lmap hc563) ?_
            have hl564 : LdOk [x551.toNat] (.row 1 (x552.map (AV.int .i64))) [x551.toNat * 1] 1 false (i6 (rd x552 x551.toNat)) := (.row (llt hc563) rfl (.nil rfl rfl rfl))
            refine vq (i6 (rd x552 x551.toNat)) (ld_own (i := ⟨.int .i64, 1, 8, (.int .i64 0)⟩) rfl rfl rfl hl564) hl564.c (vp (i6 x551) rfl (vp (i6 (rd x552 x551.toNat)) rfl (nx ⟨[(0, (i6 a0)), (7, (.osl 7)), (12, (i6 x551)), (13, (i6 (rd x552 x551.toNat))), (56, (.osl 7)), (57, (i6 (x262.length : Int))), (58, (i6 x551))], [(7, (bk (.row 1 (x552.map (AV.int .i64)))))]⟩ (by kernel_rfl) (a_region (vp (.osl 7) rfl (vp (i6 x551) rfl (vp (i6 (rd x552 x551.toNat)) rfl (vp (i6 a0) rfl ?_))))))))
            obtain ⟨hc565, h⟩ := ifp_some h
            refine vq (i6 (Int.tmod (rd x552 x551.toNat) a0)) rfl hc565 ?_
            obtain ⟨hc566, h⟩ := ifp_some h
            refine vq (.own 7 [x551.toNat] [x551.toNat * 1]) rfl (lmap hc566) ?_
            have hs567 : StOk [x551.toNat] (.row 1 (x552.map (AV.int .i64))) [x551.toNat * 1] 1 (i6 (Int.tmod (rd x552 x551.toNat) a0)) (.row 1 (((x552.set x551.toNat (Int.tmod (rd x552 x551.toNat) a0))).map (AV.int .i64))) := (.row (y := Int.tmod (rd x552 x551.toNat) a0) (llt hc566) rfl (.nil rfl rfl rfl rfl))
            refine vu .top [(7, (bk (.row 1 (((x552.set x551.toNat (Int.tmod (rd x552 x551.toNat) a0))).map (AV.int .i64)))))] (st_own (i := ⟨.int .i64, 1, 8, (.int .i64 0)⟩) rfl rfl (fun _ => rfl) rfl hs567) (hs567.c rfl) rfl (a_nil (b_norm (a_next (σ' := ⟨[(0, (i6 a0)), (7, (.osl 7)), (56, (.osl 7)), (57, (i6 (x262.length : Int))), (58, (i6 x551))], [(7, (bk (.row 1 (((x552.set x551.toNat (Int.tmod (rd x552 x551.toNat) a0))).map (AV.int .i64)))))]⟩) (by kernel_rfl) (a_region (vp (i6 (IntKind.i64.wrap (x551 + 1))) rfl (vp (i6 (IntKind.i64.wrap (x551 + 1))) rfl (a_nil ?_)))))))
            cases h
            exact a_again (by kernel_rfl) hX561
      · have h := hy264
        refine sr (vp (eSi64 a1) rfl (vq (i6 (a1.length : Int)) (len_run rfl rfl) trivial (vp (i6 0) rfl (nx ⟨[(0, (i6 a0)), (2, (eSi64 a2)), (7, (.osl 7)), (29, (eSi64 a1)), (30, (i6 (a1.length : Int))), (31, (i6 0))], [(7, (bk (.row 1 ((List.replicate x8.toNat (0 : Int)).map (AV.int .i64)))))]⟩ (by kernel_rfl) (a_block ?_)))))
        refine a_loop (emb := fun (s : (Int × (List Int))) => ⟨[(0, (i6 a0)), (2, (eSi64 a2)), (7, (.osl 7)), (29, (eSi64 a1)), (30, (i6 (a1.length : Int))), (31, (i6 s.1))], [(7, (bk (.row 1 (s.2.map (AV.int .i64)))))]⟩) (body := (fun s : (Int × (List Int)) => impl_prime_times_l1 a1 a2 s.1 s.2)) (G := fun q => some q = some y263) h rfl ?_ (by kernel_rfl)
        rintro X434 ⟨x353, x354⟩ x435 h hX436
        have h : impl_prime_times_l1 a1 a2 x353 x354 = some x435 := h
        refine a_st (σ' := ⟨[(0, (i6 a0)), (2, (eSi64 a2)), (7, (.osl 7)), (29, (eSi64 a1)), (30, (i6 (a1.length : Int))), (31, (i6 x353))], [(7, (bk (.row 1 (x354.map (AV.int .i64)))))]⟩) (by kernel_rfl) (sr (vp (.bool ((decide (x353 < (a1.length : Int))))) rfl (nx ⟨[(0, (i6 a0)), (2, (eSi64 a2)), (7, (.osl 7)), (29, (eSi64 a1)), (30, (i6 (a1.length : Int))), (31, (i6 x353)), (32, (.bool ((decide (x353 < (a1.length : Int))))))], [(7, (bk (.row 1 (x354.map (AV.int .i64)))))]⟩ (by kernel_rfl) (a_seq ?_))))
        cases hb437 : (decide (x353 < (a1.length : Int)))
        · have h := ite_f hb437 h
          refine a_cond_f rfl (a_exit (t_exit ?_))
          cases h
          have h := hX436
          refine t_exit (b_exit ?_)
          exact j_leaf x354 (Option.some.inj h) (by kernel_rfl)
        · have h := ite_t hb437 h
          refine a_cond_t rfl (a_skip (a_next (σ' := ⟨[(0, (i6 a0)), (2, (eSi64 a2)), (7, (.osl 7)), (29, (eSi64 a1)), (30, (i6 (a1.length : Int))), (31, (i6 x353))], [(7, (bk (.row 1 (x354.map (AV.int .i64)))))]⟩) (by kernel_rfl) ?_))
          obtain ⟨y476, hy477, hk478⟩ := bind_some h
          clear h
          refine a_join (emb := fun (s : (List Int)) => ⟨[(0, (i6 a0)), (2, (eSi64 a2)), (7, (.osl 7)), (29, (eSi64 a1)), (30, (i6 (a1.length : Int))), (31, (i6 x353))], [(7, (bk (.row 1 (s.map (AV.int .i64)))))]⟩) (pre := fun s => s = y476) ?_ ?_
          · rintro x475 rfl
            have h := hk478
            refine a_st (σ' := ⟨[(0, (i6 a0)), (2, (eSi64 a2)), (7, (.osl 7)), (29, (eSi64 a1)), (30, (i6 (a1.length : Int))), (31, (i6 x353))], [(7, (bk (.row 1 (x475.map (AV.int .i64)))))]⟩) (by kernel_rfl) (a_region (vp (i6 (IntKind.i64.wrap (x353 + 1))) rfl (vp (i6 (IntKind.i64.wrap (x353 + 1))) rfl (a_nil ?_))))
            cases h
            exact a_again (by kernel_rfl) hX436
          · have h := hy477
            refine a_block (sr (vp (i6 x353) rfl ?_))
            obtain ⟨hc479, h⟩ := ifp_some h
            refine vq (.ref (.row 1 (a1.map (AV.int .i64))) [x353.toNat] [x353.toNat * 1]) rfl (lmap hc479) ?_
            have hl480 : LdOk [x353.toNat] (.row 1 (a1.map (AV.int .i64))) [x353.toNat * 1] 1 false (i6 (rd a1 x353.toNat)) := (.row (llt hc479) rfl (.nil rfl rfl rfl))
            refine vq (i6 (rd a1 x353.toNat)) (ld_ref (i := ⟨.int .i64, 1, 8, (.int .i64 0)⟩) rfl rfl hl480) hl480.c (vp (i6 x353) rfl (vp (i6 (rd a1 x353.toNat)) rfl (nx ⟨[(0, (i6 a0)), (2, (eSi64 a2)), (7, (.osl 7)), (8, (i6 x353)), (9, (i6 (rd a1 x353.toNat))), (29, (eSi64 a1)), (30, (i6 (a1.length : Int))), (31, (i6 x353))], [(7, (bk (.row 1 (x354.map (AV.int .i64)))))]⟩ (by kernel_rfl) (sr (vp (eSi64 a2) rfl (vq (i6 (a2.length : Int)) (len_run rfl rfl) trivial (vp (i6 0) rfl (nx ⟨[(0, (i6 a0)), (2, (eSi64 a2)), (7, (.osl 7)), (8, (i6 x353)), (9, (i6 (rd a1 x353.toNat))), (29, (eSi64 a1)), (30, (i6 (a1.length : Int))), (31, (i6 x353)), (36, (eSi64 a2)), (37, (i6 (a2.length : Int))), (38, (i6 0))], [(7, (bk (.row 1 (x354.map (AV.int .i64)))))]⟩ (by kernel_rfl) (a_block ?_)))))))))
            refine a_loop (emb := fun (s : (Int × (List Int))) => ⟨[(0, (i6 a0)), (2, (eSi64 a2)), (7, (.osl 7)), (8, (i6 x353)), (9, (i6 (rd a1 x353.toNat))), (29, (eSi64 a1)), (30, (i6 (a1.length : Int))), (31, (i6 x353)), (36, (eSi64 a2)), (37, (i6 (a2.length : Int))), (38, (i6 s.1))], [(7, (bk (.row 1 (s.2.map (AV.int .i64)))))]⟩) (body := (fun s : (Int × (List Int)) => impl_prime_times_l2 a2 x353 a1 s.1 s.2)) (G := fun q => some q = some y476) h rfl ?_ (by kernel_rfl)
            rintro X503 ⟨x492, x493⟩ x504 h hX505
            have h : impl_prime_times_l2 a2 x353 a1 x492 x493 = some x504 := h
            refine a_st (σ' := ⟨[(0, (i6 a0)), (2, (eSi64 a2)), (7, (.osl 7)), (8, (i6 x353)), (9, (i6 (rd a1 x353.toNat))), (29, (eSi64 a1)), (30, (i6 (a1.length : Int))), (31, (i6 x353)), (36, (eSi64 a2)), (37, (i6 (a2.length : Int))), (38, (i6 x492))], [(7, (bk (.row 1 (x493.map (AV.int .i64)))))]⟩) (by kernel_rfl) (sr (vp (.bool ((decide (x492 < (a2.length : Int))))) rfl (nx ⟨[(0, (i6 a0)), (2, (eSi64 a2)), (7, (.osl 7)), (8, (i6 x353)), (9, (i6 (rd a1 x353.toNat))), (29, (eSi64 a1)), (30, (i6 (a1.length : Int))), (31, (i6 x353)), (36, (eSi64 a2)), (37, (i6 (a2.length : Int))), (38, (i6 x492)), (39, (.bool ((decide (x492 < (a2.length : Int))))))], [(7, (bk (.row 1 (x493.map (AV.int .i64)))))]⟩ (by kernel_rfl) (a_seq ?_))))
            cases hb506 : (decide (x492 < (a2.length : Int)))
            · have h := ite_f hb506 h
              refine a_cond_f rfl (a_exit (t_exit ?_))
              cases h
              have h := hX505
              refine t_exit (b_exit (b_norm ?_))
              exact j_leaf x493 (Option.some.inj h) (by kernel_rfl)
            · have h := ite_t hb506 h
              refine a_cond_t rfl (a_skip (a_next (σ' := ⟨[(0, (i6 a0)), (2, (eSi64 a2)), (7, (.osl 7)), (8, (i6 x353)), (9, (i6 (rd a1 x353.toNat))), (29, (eSi64 a1)), (30, (i6 (a1.length : Int))), (31, (i6 x353)), (36, (eSi64 a2)), (37, (i6 (a2.length : Int))), (38, (i6 x492))], [(7, (bk (.row 1 (x493.map (AV.int .i64)))))]⟩) (by kernel_rfl) (a_seq (a_block (sr (vp (i6 x492) rfl ?_))))))
              obtain ⟨hc507, h⟩ := ifp_some h
              refine vq (.ref (.row 1 (a2.map (AV.int .i64))) [x492.toNat] [x492.toNat * 1]) rfl (lmap hc507) ?_
              have hl508 : LdOk [x492.toNat] (.row 1 (a2.map (AV.int .i64))) [x492.toNat * 1] 1 false (i6 (rd a2 x492.toNat)) := (.row (llt hc507) rfl (.nil rfl rfl rfl))
              refine vq (i6 (rd a2 x492.toNat)) (ld_ref (i := ⟨.int .i64, 1, 8, (.int .i64 0)⟩) rfl rfl hl508) hl508.c (vp (i6 x492) rfl (vp (i6 (rd a2 x492.toNat)) rfl (nx ⟨[(0, (i6 a0)), (2, (eSi64 a2)), (7, (.osl 7)), (8, (i6 x353)), (9, (i6 (rd a1 x353.toNat))), (10, (i6 x492)), (11, (i6 (rd a2 x492.toNat))), (29, (eSi64 a1)), (30, (i6 (a1.length : Int))), (31, (i6 x353)), (36, (eSi64 a2)), (37, (i6 (a2.length : Int))), (38, (i6 x492))], [(7, (bk (.row 1 (x493.map (AV.int .i64)))))]⟩ (by kernel_rfl) (a_region (vp (.osl 7) rfl (vp (i6 x353) rfl (vp (i6 x492) rfl (vp (i6 (IntKind.i64.wrap (x353 + x492))) rfl ?_))))))))
              obtain ⟨hc509, h⟩ := ifp_some h
              refine vq (.own 7 [(IntKind.i64.wrap (x353 + x492)).toNat] [(IntKind.i64.wrap (x353 + x492)).toNat * 1]) rfl (lmap hc509) ?_
              have hl510 : LdOk [(IntKind.i64.wrap (x353 + x492)).toNat] (.row 1 (x493.map (AV.int .i64))) [(IntKind.i64.wrap (x353 + x492)).toNat * 1] 1 false (i6 ((rd x493 (IntKind.i64.wrap (x353 + x492)).toNat))) := (.row (llt hc509) rfl (.nil rfl rfl rfl))
              refine vq (i6 ((rd x493 (IntKind.i64.wrap (x353 + x492)).toNat))) (ld_own (i := ⟨.int .i64, 1, 8, (.int .i64 0)⟩) rfl rfl rfl hl510) hl510.c (vp (i6 (rd a1 x353.toNat)) rfl (vp (i6 (rd a2 x492.toNat)) rfl (vp (i6 (IntKind.i64.wrap ((rd a1 x353.toNat) * (rd a2 x492.toNat)))) rfl ?_)))
              obtain ⟨x511, hx512, h⟩ := letp_some h
              refine a_val' (v := (i6 (IntKind.i64.wrap (((rd x493 (IntKind.i64.wrap (x353 + x492)).toNat)) + (IntKind.i64.wrap ((rd a1 x353.toNat) * (rd a2 x492.toNat))))))) (v' := (i6 x511)) (u := []) (u' := []) rfl (congrArg (fun z => ((i6 z) : AV)) hx512) rfl trivial rfl ?_
              obtain ⟨hc513, h⟩ := ifp_some h
              refine vq (.own 7 [(IntKind.i64.wrap (x353 + x492)).toNat] [(IntKind.i64.wrap (x353 + x492)).toNat * 1]) rfl (lmap hc513) ?_
              have hs514 : StOk [(IntKind.i64.wrap (x353 + x492)).toNat] (.row 1 (x493.map (AV.int .i64))) [(IntKind.i64.wrap (x353 + x492)).toNat * 1] 1 (i6 x511) (.row 1 (((x493.set (IntKind.i64.wrap (x353 + x492)).toNat x511)).map (AV.int .i64))) := (.row (y := x511) (llt hc513) rfl (.nil rfl rfl rfl rfl))
              refine vu .top [(7, (bk (.row 1 (((x493.set (IntKind.i64.wrap (x353 + x492)).toNat x511)).map (AV.int .i64)))))] (st_own (i := ⟨.int .i64, 1, 8, (.int .i64 0)⟩) rfl rfl (fun _ => rfl) rfl hs514) (hs514.c rfl) rfl (a_nil (b_norm (a_next (σ' := ⟨[(0, (i6 a0)), (2, (eSi64 a2)), (7, (.osl 7)), (8, (i6 x353)), (9, (i6 (rd a1 x353.toNat))), (29, (eSi64 a1)), (30, (i6 (a1.length : Int))), (31, (i6 x353)), (36, (eSi64 a2)), (37, (i6 (a2.length : Int))), (38, (i6 x492))], [(7, (bk (.row 1 (((x493.set (IntKind.i64.wrap (x353 + x492)).toNat x511)).map (AV.int .i64)))))]⟩) (by kernel_rfl) (a_region (vp (i6 (IntKind.i64.wrap (x492 + 1))) rfl (vp (i6 (IntKind.i64.wrap (x492 + 1))) rfl (a_nil ?_)))))))
              cases h
              exact a_again (by kernel_rfl) hX505
    · have h := ite_t hb7 h
      refine a_cond_t rfl (sr (vp (eSi64 ([])) rfl (nx _ rfl (a_ret (t_ret ?_)))))
      refine ⟨.inr rfl, ?_⟩
      rw [Try.results101]
      cases h
      exact ⟨_, _, _, _, _, rfl, trivial, .inl ⟨rfl, .inl rfl⟩, rfl, rfl⟩
  · have h := hy4
    refine a_region (vp (eSi64 a1) rfl (vq (i6 (a1.length : Int)) (len_run rfl rfl) trivial (vp (.bool (((a1.length : Int) == 0))) rfl (vp (.bool (((a1.length : Int) == 0))) rfl ?_))))
    cases hb6 : ((a1.length : Int) == 0)
    · have h := ite_f hb6 h
      refine gp (eSi64 a2) rfl rfl (gq (i6 (a2.length : Int)) rfl (len_run rfl rfl) trivial (gp (.bool (((a2.length : Int) == 0))) rfl rfl (vp (.bool (((a2.length : Int) == 0))) rfl (a_nil ?_))))
      exact j_leaf (((a2.length : Int) == 0)) (Option.some.inj h) (by kernel_rfl)
    · have h := ite_t hb6 h
      refine a_gskip rfl (a_gskip rfl (a_gskip rfl (vp (.bool true) rfl (a_nil ?_))))
      exact j_leaf true (Option.some.inj h) (by kernel_rfl)
def impl_prime_power_c : ACode := (.seq (.region 0 [q 8 (.asg 1 (.const (.slice none 0 0)) 66)] false) (.seq (.region 1 [q 11 (.mov (t 0)), q 12 (.bslice 0 66 1 [(0, (.const (.int .i64 1)))]), q 13 (.mov (t 3)), q 14 (.call 0 (.func 100) [(t 11), (t 12), (t 13)]), q 15 (.mov (t 0)), q 16 (.mov (t 1)), q 17 (.mov (t 3)), q 18 (.call 0 (.func 100) [(t 15), (t 16), (t 17)]), q 9 (.asg 1 (t 14) 66), q 10 (.asg 1 (t 18) 66)] false) (.seq (.block 0 (.loop (.seq (.seq (.region 2 [q 19 (.mov (t 2)), q 20 (.bin .gtr 2 (t 19) (.const (.int .i64 0)))] false) (.cond (t 20) .skip (.exit 0))) (.seq (.block 1 (.seq (.seq (.region 4 [q 23 (.mov (t 2)), q 24 (.bin .and 2 (t 23) (.const (.int .i64 1))), q 25 (.bin .eql 2 (t 24) (.const (.int .i64 1)))] false) (.cond (t 25) (.region 5 [q 26 (.mov (t 0)), q 27 (.mov (t 0)), q 28 (.mov (t 9)), q 29 (.mov (t 10)), q 30 (.call 0 (.func 101) [(t 27), (t 28), (t 29)]), q 31 (.mov (t 3)), q 32 (.call 0 (.func 100) [(t 26), (t 30), (t 31)]), q 9 (.asg 1 (t 32) 66)] false) .skip)) (.region 6 [q 33 (.mov (t 0)), q 34 (.mov (t 0)), q 35 (.mov (t 10)), q 36 (.mov (t 10)), q 37 (.call 0 (.func 101) [(t 34), (t 35), (t 36)]), q 38 (.mov (t 3)), q 39 (.call 0 (.func 100) [(t 33), (t 37), (t 38)]), q 10 (.asg 1 (t 39) 66)] false))) (.region 3 [q 21 (.mov (t 2)), q 22 (.bin .shr 2 (t 21) (.const (.int .u64 1))), q 2 (.asg 0 (t 22) 2)] false))))) (.seq (.region 7 [q 40 (.mov (t 9)), q 8 (.asg 1 (t 40) 66)] false) .ret))))
def impl_prime_power_L : Live := [(0, [0, 1, 2, 3]), (1, [0, 1, 2, 3]), (2, [0, 2, 3, 9, 10]), (3, [0, 2, 3, 9, 10]), (4, [0, 2, 3, 9, 10]), (5, [0, 2, 3, 9, 10]), (6, [0, 2, 3, 9, 10]), (7, [9]), (100020, [0, 2, 3, 9, 10, 20]), (100025, [0, 2, 3, 9, 10, 25])]
noncomputable def impl_prime_power_l1 (a0 : Int) (a3 : (List Int)) (x108 : Int) (x109 : (List Int)) (x110 : (List Int)) : Option ((Int × (List Int) × (List Int)) ⊕ (List Int)) :=
  (if (decide (x108 > 0)) then (Option.bind (α := (List Int)) ((letp (IntKind.i64.wrap (BitVec.ofInt IntKind.i64.bits x108 &&& BitVec.ofInt IntKind.i64.bits 1).toNat) fun x149 => (if (x149 == 1) then (Option.bind (impl_prime_times a0 x109 x110) fun r152 => (Option.bind (impl_prime_rest a0 r152 a3) fun r154 => (some r154))) else (some x109)))) fun x145 => (Option.bind (impl_prime_times a0 x110 x110) fun r156 => (Option.bind (impl_prime_rest a0 r156 a3) fun r158 => (some (.inl ((Int.fdiv x108 (2 ^ (min (1 : Int).toNat IntKind.i64.bits)), x145, r158))))))) else (some (.inr x109)))
noncomputable def impl_prime_power (a0 : Int) (a1 : (List Int)) (a2 : Int) (a3 : (List Int)) : Option (List Int) :=
  (Option.bind (impl_prime_rest a0 ([1]) a3) fun r1 => (Option.bind (impl_prime_rest a0 a1 a3) fun r3 => (Option.bind (α := (List Int)) ((loopM (fun s : (Int × (List Int) × (List Int)) => impl_prime_power_l1 a0 a3 s.1 s.2.1 s.2.2) (a2, r1, r3))) fun x81 => (some x81))))
theorem impl_prime_power_ok (a0 : Int) (a1 : (List Int)) (a2 : Int) (a3 : (List Int)) (r : (List Int)) (h : impl_prime_power a0 a1 a2 a3 = some r) : Den Try.prog 115 [(i6 a0), (eSi64 a1), (i6 a2), (eSi64 a3)] { r := (eSi64 r) } := by
  refine den_of (rs := [(eSi64 r)]) (ac := impl_prime_power_c) (L := impl_prime_power_L) (n := 41) (m := [(8, 1), (9, 1), (10, 1)]) (c := Try.f115.body.getD .skip) good Try.func115 (by kernel_rfl) (by kernel_rfl) Try.ntmps115 rfl rfl (by kernel_rfl) rfl rfl ?_
  refine a_st (σ' := ⟨[(0, (i6 a0)), (1, (eSi64 a1)), (2, (i6 a2)), (3, (eSi64 a3))], []⟩) (by kernel_rfl) ?_
  unfold impl_prime_power_c
  refine sr (vp (eSi64 ([])) rfl (nx ⟨[(0, (i6 a0)), (1, (eSi64 a1)), (2, (i6 a2)), (3, (eSi64 a3))], []⟩ (by kernel_rfl) (sr (vp (i6 a0) rfl (vq (.sl 1 true (([1]).map (AV.int .i64))) rfl ⟨(Nat.le_of_ble_eq_true rfl), (Nat.le_of_ble_eq_true rfl), (all_cons ⟨(Nat.le_of_ble_eq_true rfl), rfl⟩ all_nil)⟩ (vp (eSi64 a3) rfl ?_))))))
  obtain ⟨r1, hr2, h⟩ := bind_some h
  refine a_call (args := [(i6 a0), (.sl 1 true (([1]).map (AV.int .i64))), (eSi64 a3)]) (u := []) (r := (eSi64 r1)) rfl rfl (Den.args (impl_prime_rest_ok a0 ([1]) a3 r1 hr2) rfl rfl (.cons (.refl _) (.cons (.loose _) (.cons (.refl _) .nil)))) rfl (vp (i6 a0) rfl (vp (eSi64 a1) rfl (vp (eSi64 a3) rfl ?_)))
  obtain ⟨r3, hr4, h⟩ := bind_some h
  refine a_call (args := [(i6 a0), (eSi64 a1), (eSi64 a3)]) (u := []) (r := (eSi64 r3)) rfl rfl (impl_prime_rest_ok a0 a1 a3 r3 hr4) rfl (vp (eSi64 r1) rfl (vp (eSi64 r3) rfl (nx ⟨[(0, (i6 a0)), (2, (i6 a2)), (3, (eSi64 a3)), (9, (eSi64 r1)), (10, (eSi64 r3))], []⟩ (by kernel_rfl) ?_)))
  obtain ⟨y82, hy83, hk84⟩ := bind_some h
  clear h
  refine a_join (emb := fun (s : (List Int)) => ⟨[(9, (eSi64 s))], []⟩) (pre := fun s => s = y82) ?_ ?_
  · rintro x81 rfl
    have h := hk84
    refine a_st (σ' := ⟨[(9, (eSi64 x81))], []⟩) (by kernel_rfl) (sr (vp (eSi64 x81) rfl (vp (eSi64 x81) rfl (nx _ rfl (a_ret ?_)))))
    refine ⟨.inr rfl, ?_⟩
    rw [Try.results115]
    cases h
    exact ⟨_, _, _, _, _, rfl, trivial, .inl ⟨rfl, .inl rfl⟩, rfl, rfl⟩
  · have h := hy83
    refine a_block ?_
    refine a_loop (emb := fun (s : (Int × (List Int) × (List Int))) => ⟨[(0, (i6 a0)), (2, (i6 s.1)), (3, (eSi64 a3)), (9, (eSi64 s.2.1)), (10, (eSi64 s.2.2))], []⟩) (body := (fun s : (Int × (List Int) × (List Int)) => impl_prime_power_l1 a0 a3 s.1 s.2.1 s.2.2)) (G := fun q => some q = some y82) h rfl ?_ (by kernel_rfl)
    rintro X134 ⟨x108, x109, x110⟩ x135 h hX136
    have h : impl_prime_power_l1 a0 a3 x108 x109 x110 = some x135 := h
    refine a_st (σ' := ⟨[(0, (i6 a0)), (2, (i6 x108)), (3, (eSi64 a3)), (9, (eSi64 x109)), (10, (eSi64 x110))], []⟩) (by kernel_rfl) (a_seq (sr (vp (i6 x108) rfl (vp (.bool ((decide (x108 > 0)))) rfl (nx ⟨[(0, (i6 a0)), (2, (i6 x108)), (3, (eSi64 a3)), (9, (eSi64 x109)), (10, (eSi64 x110)), (20, (.bool ((decide (x108 > 0)))))], []⟩ (by kernel_rfl) ?_)))))
    cases hb137 : (decide (x108 > 0))
    · have h := ite_f hb137 h
      refine a_cond_f rfl (a_exit (t_exit ?_))
      cases h
      have h := hX136
      refine t_exit (b_exit ?_)
      exact j_leaf x109 (Option.some.inj h) (by kernel_rfl)
    · have h := ite_t hb137 h
      refine a_cond_t rfl (a_skip (a_next (σ' := ⟨[(0, (i6 a0)), (2, (i6 x108)), (3, (eSi64 a3)), (9, (eSi64 x109)), (10, (eSi64 x110))], []⟩) (by kernel_rfl) (a_seq (a_block ?_))))
      obtain ⟨y146, hy147, hk148⟩ := bind_some h
      clear h
      refine a_join (emb := fun (s : (List Int)) => ⟨[(0, (i6 a0)), (2, (i6 x108)), (3, (eSi64 a3)), (9, (eSi64 s)), (10, (eSi64 x110))], []⟩) (pre := fun s => s = y146) ?_ ?_
      · rintro x145 rfl
        have h := hk148
        refine a_st (σ' := ⟨[(0, (i6 a0)), (2, (i6 x108)), (3, (eSi64 a3)), (9, (eSi64 x145)), (10, (eSi64 x110))], []⟩) (by kernel_rfl) (a_region (vp (i6 a0) rfl (vp (i6 a0) rfl (vp (eSi64 x110) rfl (vp (eSi64 x110) rfl ?_)))))
        obtain ⟨r156, hr157, h⟩ := bind_some h
        refine a_call (args := [(i6 a0), (eSi64 x110), (eSi64 x110)]) (u := []) (r := (eSi64 r156)) rfl rfl (impl_prime_times_ok a0 x110 x110 r156 hr157) rfl (vp (eSi64 a3) rfl ?_)
        obtain ⟨r158, hr159, h⟩ := bind_some h
        refine a_call (args := [(i6 a0), (eSi64 r156), (eSi64 a3)]) (u := []) (r := (eSi64 r158)) rfl rfl (impl_prime_rest_ok a0 r156 a3 r158 hr159) rfl (vp (eSi64 r158) rfl (a_nil (b_norm (a_next (σ' := ⟨[(0, (i6 a0)), (2, (i6 x108)), (3, (eSi64 a3)), (9, (eSi64 x145)), (10, (eSi64 r158))], []⟩) (by kernel_rfl) (a_region (vp (i6 x108) rfl (vq (i6 (Int.fdiv x108 (2 ^ (min (1 : Int).toNat IntKind.i64.bits)))) rfl (by decide) (vp (i6 (Int.fdiv x108 (2 ^ (min (1 : Int).toNat IntKind.i64.bits)))) rfl (a_nil ?_)))))))))
        cases h
        exact a_again (by kernel_rfl) hX136
      · have h := hy147
        refine sr (vp (i6 x108) rfl ?_)
        obtain ⟨x149, hx150, h⟩ := letp_some h
        refine a_val' (v := (i6 (IntKind.i64.wrap (BitVec.ofInt IntKind.i64.bits x108 &&& BitVec.ofInt IntKind.i64.bits 1).toNat))) (v' := (i6 x149)) (u := []) (u' := []) rfl (congrArg (fun z => ((i6 z) : AV)) hx150) rfl trivial rfl (vp (.bool (x149 == 1)) rfl (nx ⟨[(0, (i6 a0)), (2, (i6 x108)), (3, (eSi64 a3)), (9, (eSi64 x109)), (10, (eSi64 x110)), (25, (.bool (x149 == 1)))], []⟩ (by kernel_rfl) ?_))
        cases hb151 : (x149 == 1)
        · have h := ite_f hb151 h
          refine a_cond_f rfl (a_skip ?_)
          exact j_leaf x109 (Option.some.inj h) (by kernel_rfl)
        · have h := ite_t hb151 h
          refine a_cond_t rfl (a_region (vp (i6 a0) rfl (vp (i6 a0) rfl (vp (eSi64 x109) rfl (vp (eSi64 x110) rfl ?_)))))
          obtain ⟨r152, hr153, h⟩ := bind_some h
          refine a_call (args := [(i6 a0), (eSi64 x109), (eSi64 x110)]) (u := []) (r := (eSi64 r152)) rfl rfl (impl_prime_times_ok a0 x109 x110 r152 hr153) rfl (vp (eSi64 a3) rfl ?_)
          obtain ⟨r154, hr155, h⟩ := bind_some h
          refine a_call (args := [(i6 a0), (eSi64 r152), (eSi64 a3)]) (u := []) (r := (eSi64 r154)) rfl rfl (impl_prime_rest_ok a0 r152 a3 r154 hr155) rfl (vp (eSi64 r154) rfl (a_nil ?_))
          exact j_leaf r154 (Option.some.inj h) (by kernel_rfl)
def impl_prime_step_c : ACode := (.seq (.region 0 [q 6 (.asg 1 (.const (.slice none 0 0)) 66)] false) (.seq (.region 1 [q 7 (.mov (t 0)), q 8 (.mov (t 0)), q 9 (.mov (t 0)), q 10 (.call 0 (.func 183) []), q 11 (.mov (t 1)), q 12 (.call 0 (.func 101) [(t 9), (t 10), (t 11)]), q 13 (.mov (t 0)), q 14 (.mov (t 1)), q 15 (.mov (t 0)), q 16 (.mov (t 2)), q 17 (.call 0 (.func 115) [(t 13), (t 14), (t 15), (t 16)]), q 18 (.call 0 (.func 99) [(t 8), (t 12), (t 17), (.const (.int .i64 1))]), q 19 (.mov (t 2)), q 20 (.call 0 (.func 100) [(t 7), (t 18), (t 19)]), q 6 (.asg 1 (t 20) 66)] false) .ret))
def impl_prime_step_L : Live := [(0, [0, 1, 2]), (1, [0, 1, 2])]
noncomputable def impl_prime_step (a0 : Int) (a1 : (List Int)) (a2 : (List Int)) : Option (List Int) :=
  (Option.bind (impl_letter) fun r1 => (Option.bind (impl_prime_times a0 r1 a1) fun r3 => (Option.bind (impl_prime_power a0 a1 a0 a2) fun r5 => (Option.bind (impl_prime_combine a0 r3 r5 1) fun r7 => (Option.bind (impl_prime_rest a0 r7 a2) fun r9 => (some r9))))))
theorem impl_prime_step_ok (a0 : Int) (a1 : (List Int)) (a2 : (List Int)) (r : (List Int)) (h : impl_prime_step a0 a1 a2 = some r) : Den Try.prog 146 [(i6 a0), (eSi64 a1), (eSi64 a2)] { r := (eSi64 r) } := by
  refine den_of (rs := [(eSi64 r)]) (ac := impl_prime_step_c) (L := impl_prime_step_L) (n := 21) (m := [(6, 1)]) (c := Try.f146.body.getD .skip) good Try.func146 (by kernel_rfl) (by kernel_rfl) Try.ntmps146 rfl rfl (by kernel_rfl) rfl rfl ?_
  refine a_st (σ' := ⟨[(0, (i6 a0)), (1, (eSi64 a1)), (2, (eSi64 a2))], []⟩) (by kernel_rfl) ?_
  unfold impl_prime_step_c
  refine sr (vp (eSi64 ([])) rfl (nx ⟨[(0, (i6 a0)), (1, (eSi64 a1)), (2, (eSi64 a2))], []⟩ (by kernel_rfl) (sr (vp (i6 a0) rfl (vp (i6 a0) rfl (vp (i6 a0) rfl ?_))))))
  obtain ⟨r1, hr2, h⟩ := bind_some h
  refine a_call (args := []) (u := []) (r := (eSi64 r1)) rfl rfl (impl_letter_ok r1 hr2) rfl (vp (eSi64 a1) rfl ?_)
  obtain ⟨r3, hr4, h⟩ := bind_some h
  refine a_call (args := [(i6 a0), (eSi64 r1), (eSi64 a1)]) (u := []) (r := (eSi64 r3)) rfl rfl (impl_prime_times_ok a0 r1 a1 r3 hr4) rfl (vp (i6 a0) rfl (vp (eSi64 a1) rfl (vp (i6 a0) rfl (vp (eSi64 a2) rfl ?_))))
  obtain ⟨r5, hr6, h⟩ := bind_some h
  refine a_call (args := [(i6 a0), (eSi64 a1), (i6 a0), (eSi64 a2)]) (u := []) (r := (eSi64 r5)) rfl rfl (impl_prime_power_ok a0 a1 a0 a2 r5 hr6) rfl ?_
  obtain ⟨r7, hr8, h⟩ := bind_some h
  refine a_call (args := [(i6 a0), (eSi64 r3), (eSi64 r5), (i6 1)]) (u := []) (r := (eSi64 r7)) rfl rfl (impl_prime_combine_ok a0 r3 r5 1 r7 hr8) rfl (vp (eSi64 a2) rfl ?_)
  obtain ⟨r9, hr10, h⟩ := bind_some h
  refine a_call (args := [(i6 a0), (eSi64 r7), (eSi64 a2)]) (u := []) (r := (eSi64 r9)) rfl rfl (impl_prime_rest_ok a0 r7 a2 r9 hr10) rfl (vp (eSi64 r9) rfl (nx _ rfl (a_ret ?_)))
  refine ⟨.inr rfl, ?_⟩
  rw [Try.results146]
  cases h
  exact ⟨_, _, _, _, _, rfl, trivial, .inl ⟨rfl, .inl rfl⟩, rfl, rfl⟩
def impl_prime_act_c : ACode := (.seq (.region 0 [q 8 (.asg 1 (.const (.slice none 0 0)) 66)] false) (.seq (.region 1 [q 12 (.mov (t 0)), q 13 (.mov (t 2)), q 14 (.mov (t 3)), q 15 (.call 0 (.func 100) [(t 12), (t 13), (t 14)]), q 2 (.asg 1 (t 15) 66)] false) (.seq (.region 2 [q 9 (.asg 1 (.const (.slice none 0 0)) 66)] false) (.seq (.seq (.region 3 [q 16 (.mov (t 1)), q 17 (.blt 0 .len [(t 16)] [66]), q 18 (.mov (.const (.int .i64 0)))] false) (.block 0 (.loop (.seq (.region 4 [q 19 (.bin .lss 3 (t 18) (t 17))] false) (.seq (.cond (t 19) .skip (.exit 0)) (.seq (.block 1 (.seq (.region 5 [q 20 (.indexAddr 66 (t 16) (t 18)), q 21 (.load 2 (t 20)), q 11 (.asg 0 (t 21) 2)] false) (.seq (.region 6 [q 22 (.mov (t 0)), q 23 (.mov (t 9)), q 24 (.mov (t 2)), q 25 (.mov (t 11)), q 26 (.call 0 (.func 99) [(t 22), (t 23), (t 24), (t 25)]), q 9 (.asg 1 (t 26) 66)] false) (.region 7 [q 27 (.mov (t 0)), q 28 (.mov (t 2)), q 29 (.mov (t 3)), q 30 (.call 0 (.func 146) [(t 27), (t 28), (t 29)]), q 2 (.asg 1 (t 30) 66)] false)))) (.region 8 [q 31 (.bin .add 3 (t 18) (.const (.int .i64 1))), q 18 (.mov (t 31))] false))))))) (.seq (.region 9 [q 32 (.mov (t 9)), q 8 (.asg 1 (t 32) 66)] false) .ret)))))
def impl_prime_act_L : Live := [(0, [0, 1, 2, 3]), (1, [0, 1, 2, 3]), (2, [0, 1, 2, 3]), (3, [0, 1, 2, 3, 9]), (4, [0, 2, 3, 9, 16, 17, 18]), (5, [0, 2, 3, 9, 16, 17, 18]), (6, [0, 2, 3, 9, 11, 16, 17, 18]), (7, [0, 2, 3, 9, 16, 17, 18]), (8, [0, 2, 3, 9, 16, 17, 18]), (9, [9]), (100019, [0, 2, 3, 9, 16, 17, 18, 19])]
noncomputable def impl_prime_act_l1 (a1 : (List Int)) (a0 : Int) (a3 : (List Int)) (x42 : (List Int)) (x43 : (List Int)) (x44 : Int) : Option (((List Int) × (List Int) × Int) ⊕ (List Int)) :=
  (if (decide (x44 < (a1.length : Int))) then (ifp (0 ≤ x44 ∧ x44 < ((a1.length : Nat) : Int)) ((Option.bind (impl_prime_combine a0 x43 x42 (rd a1 x44.toNat)) fun r58 => (Option.bind (impl_prime_step a0 x42 a3) fun r60 => (some (.inl ((r60, r58, IntKind.i64.wrap (x44 + 1))))))))) else (some (.inr x43)))
noncomputable def impl_prime_act (a0 : Int) (a1 : (List Int)) (a2 : (List Int)) (a3 : (List Int)) : Option (List Int) :=
  (Option.bind (impl_prime_rest a0 a2 a3) fun r1 => (Option.bind (α := (List Int)) ((loopM (fun s : ((List Int) × (List Int) × Int) => impl_prime_act_l1 a1 a0 a3 s.1 s.2.1 s.2.2) (r1, [], 0))) fun x31 => (some x31)))
theorem impl_prime_act_ok (a0 : Int) (a1 : (List Int)) (a2 : (List Int)) (a3 : (List Int)) (r : (List Int)) (h : impl_prime_act a0 a1 a2 a3 = some r) : Den Try.prog 80 [(i6 a0), (eSi64 a1), (eSi64 a2), (eSi64 a3)] { r := (eSi64 r) } := by
  refine den_of (rs := [(eSi64 r)]) (ac := impl_prime_act_c) (L := impl_prime_act_L) (n := 33) (m := [(2, 1), (8, 1), (9, 1)]) (c := Try.f80.body.getD .skip) good Try.func80 (by kernel_rfl) (by kernel_rfl) Try.ntmps80 rfl rfl (by kernel_rfl) rfl rfl ?_
  refine a_st (σ' := ⟨[(0, (i6 a0)), (1, (eSi64 a1)), (2, (eSi64 a2)), (3, (eSi64 a3))], []⟩) (by kernel_rfl) ?_
  unfold impl_prime_act_c
  refine sr (vp (eSi64 ([])) rfl (nx ⟨[(0, (i6 a0)), (1, (eSi64 a1)), (2, (eSi64 a2)), (3, (eSi64 a3))], []⟩ (by kernel_rfl) (sr (vp (i6 a0) rfl (vp (eSi64 a2) rfl (vp (eSi64 a3) rfl ?_))))))
  obtain ⟨r1, hr2, h⟩ := bind_some h
  refine a_call (args := [(i6 a0), (eSi64 a2), (eSi64 a3)]) (u := []) (r := (eSi64 r1)) rfl rfl (impl_prime_rest_ok a0 a2 a3 r1 hr2) rfl (vp (eSi64 r1) rfl (nx ⟨[(0, (i6 a0)), (1, (eSi64 a1)), (2, (eSi64 r1)), (3, (eSi64 a3))], []⟩ (by kernel_rfl) (sr (vp (eSi64 ([])) rfl (nx ⟨[(0, (i6 a0)), (1, (eSi64 a1)), (2, (eSi64 r1)), (3, (eSi64 a3)), (9, (eSi64 ([])))], []⟩ (by kernel_rfl) ?_)))))
  obtain ⟨y32, hy33, hk34⟩ := bind_some h
  clear h
  refine a_join (emb := fun (s : (List Int)) => ⟨[(9, (eSi64 s))], []⟩) (pre := fun s => s = y32) ?_ ?_
  · rintro x31 rfl
    have h := hk34
    refine a_st (σ' := ⟨[(9, (eSi64 x31))], []⟩) (by kernel_rfl) (sr (vp (eSi64 x31) rfl (vp (eSi64 x31) rfl (nx _ rfl (a_ret ?_)))))
    refine ⟨.inr rfl, ?_⟩
    rw [Try.results80]
    cases h
    exact ⟨_, _, _, _, _, rfl, trivial, .inl ⟨rfl, .inl rfl⟩, rfl, rfl⟩
  · have h := hy33
    refine sr (vp (eSi64 a1) rfl (vq (i6 (a1.length : Int)) (len_run rfl rfl) trivial (vp (i6 0) rfl (nx ⟨[(0, (i6 a0)), (2, (eSi64 r1)), (3, (eSi64 a3)), (9, (eSi64 ([]))), (16, (eSi64 a1)), (17, (i6 (a1.length : Int))), (18, (i6 0))], []⟩ (by kernel_rfl) (a_block ?_)))))
    refine a_loop (emb := fun (s : ((List Int) × (List Int) × Int)) => ⟨[(0, (i6 a0)), (2, (eSi64 s.1)), (3, (eSi64 a3)), (9, (eSi64 s.2.1)), (16, (eSi64 a1)), (17, (i6 (a1.length : Int))), (18, (i6 s.2.2))], []⟩) (body := (fun s : ((List Int) × (List Int) × Int) => impl_prime_act_l1 a1 a0 a3 s.1 s.2.1 s.2.2)) (G := fun q => some q = some y32) h rfl ?_ (by kernel_rfl)
    rintro X52 ⟨x42, x43, x44⟩ x53 h hX54
    have h : impl_prime_act_l1 a1 a0 a3 x42 x43 x44 = some x53 := h
    refine a_st (σ' := ⟨[(0, (i6 a0)), (2, (eSi64 x42)), (3, (eSi64 a3)), (9, (eSi64 x43)), (16, (eSi64 a1)), (17, (i6 (a1.length : Int))), (18, (i6 x44))], []⟩) (by kernel_rfl) (sr (vp (.bool ((decide (x44 < (a1.length : Int))))) rfl (nx ⟨[(0, (i6 a0)), (2, (eSi64 x42)), (3, (eSi64 a3)), (9, (eSi64 x43)), (16, (eSi64 a1)), (17, (i6 (a1.length : Int))), (18, (i6 x44)), (19, (.bool ((decide (x44 < (a1.length : Int))))))], []⟩ (by kernel_rfl) (a_seq ?_))))
    cases hb55 : (decide (x44 < (a1.length : Int)))
    · have h := ite_f hb55 h
      refine a_cond_f rfl (a_exit (t_exit ?_))
      cases h
      have h := hX54
      refine t_exit (b_exit ?_)
      exact j_leaf x43 (Option.some.inj h) (by kernel_rfl)
    · have h := ite_t hb55 h
      refine a_cond_t rfl (a_skip (a_next (σ' := ⟨[(0, (i6 a0)), (2, (eSi64 x42)), (3, (eSi64 a3)), (9, (eSi64 x43)), (16, (eSi64 a1)), (17, (i6 (a1.length : Int))), (18, (i6 x44))], []⟩) (by kernel_rfl) (a_seq (a_block (sr ?_)))))
      obtain ⟨hc56, h⟩ := ifp_some h
      refine vq (.ref (.row 1 (a1.map (AV.int .i64))) [x44.toNat] [x44.toNat * 1]) rfl (lmap hc56) ?_
      have hl57 : LdOk [x44.toNat] (.row 1 (a1.map (AV.int .i64))) [x44.toNat * 1] 1 false (i6 (rd a1 x44.toNat)) := (.row (llt hc56) rfl (.nil rfl rfl rfl))
      refine vq (i6 (rd a1 x44.toNat)) (ld_ref (i := ⟨.int .i64, 1, 8, (.int .i64 0)⟩) rfl rfl hl57) hl57.c (vp (i6 (rd a1 x44.toNat)) rfl (nx ⟨[(0, (i6 a0)), (2, (eSi64 x42)), (3, (eSi64 a3)), (9, (eSi64 x43)), (11, (i6 (rd a1 x44.toNat))), (16, (eSi64 a1)), (17, (i6 (a1.length : Int))), (18, (i6 x44))], []⟩ (by kernel_rfl) (sr (vp (i6 a0) rfl (vp (eSi64 x43) rfl (vp (eSi64 x42) rfl (vp (i6 (rd a1 x44.toNat)) rfl ?_)))))))
      obtain ⟨r58, hr59, h⟩ := bind_some h
      refine a_call (args := [(i6 a0), (eSi64 x43), (eSi64 x42), (i6 (rd a1 x44.toNat))]) (u := []) (r := (eSi64 r58)) rfl rfl (impl_prime_combine_ok a0 x43 x42 (rd a1 x44.toNat) r58 hr59) rfl (vp (eSi64 r58) rfl (nx ⟨[(0, (i6 a0)), (2, (eSi64 x42)), (3, (eSi64 a3)), (9, (eSi64 r58)), (16, (eSi64 a1)), (17, (i6 (a1.length : Int))), (18, (i6 x44))], []⟩ (by kernel_rfl) (a_region (vp (i6 a0) rfl (vp (eSi64 x42) rfl (vp (eSi64 a3) rfl ?_))))))
      obtain ⟨r60, hr61, h⟩ := bind_some h
      refine a_call (args := [(i6 a0), (eSi64 x42), (eSi64 a3)]) (u := []) (r := (eSi64 r60)) rfl rfl (impl_prime_step_ok a0 x42 a3 r60 hr61) rfl (vp (eSi64 r60) rfl (a_nil (b_norm (a_next (σ' := ⟨[(0, (i6 a0)), (2, (eSi64 r60)), (3, (eSi64 a3)), (9, (eSi64 r58)), (16, (eSi64 a1)), (17, (i6 (a1.length : Int))), (18, (i6 x44))], []⟩) (by kernel_rfl) (a_region (vp (i6 (IntKind.i64.wrap (x44 + 1))) rfl (vp (i6 (IntKind.i64.wrap (x44 + 1))) rfl (a_nil ?_))))))))
      cases h
      exact a_again (by kernel_rfl) hX54
def impl_prime_scale_c : ACode := (.seq (.region 0 [q 6 (.asg 1 (.const (.slice none 0 0)) 66)] false) (.seq (.region 1 [q 7 (.mov (t 0)), q 8 (.mov (t 1)), q 9 (.mov (t 2)), q 10 (.call 0 (.func 99) [(t 7), (.const (.slice none 0 0)), (t 8), (t 9)]), q 6 (.asg 1 (t 10) 66)] false) .ret))
def impl_prime_scale_L : Live := [(0, [0, 1, 2]), (1, [0, 1, 2])]
noncomputable def impl_prime_scale (a0 : Int) (a1 : (List Int)) (a2 : Int) : Option (List Int) :=
  (Option.bind (impl_prime_combine a0 ([]) a1 a2) fun r1 => (some r1))
theorem impl_prime_scale_ok (a0 : Int) (a1 : (List Int)) (a2 : Int) (r : (List Int)) (h : impl_prime_scale a0 a1 a2 = some r) : Den Try.prog 150 [(i6 a0), (eSi64 a1), (i6 a2)] { r := (eSi64 r) } := by
  refine den_of (rs := [(eSi64 r)]) (ac := impl_prime_scale_c) (L := impl_prime_scale_L) (n := 11) (m := [(6, 1)]) (c := Try.f150.body.getD .skip) good Try.func150 (by kernel_rfl) (by kernel_rfl) Try.ntmps150 rfl rfl (by kernel_rfl) rfl rfl ?_
  refine a_st (σ' := ⟨[(0, (i6 a0)), (1, (eSi64 a1)), (2, (i6 a2))], []⟩) (by kernel_rfl) ?_
  unfold impl_prime_scale_c
  refine sr (vp (eSi64 ([])) rfl (nx ⟨[(0, (i6 a0)), (1, (eSi64 a1)), (2, (i6 a2))], []⟩ (by kernel_rfl) (sr (vp (i6 a0) rfl (vp (eSi64 a1) rfl (vp (i6 a2) rfl ?_))))))
  obtain ⟨r1, hr2, h⟩ := bind_some h
  refine a_call (args := [(i6 a0), (.sl 0 true []), (eSi64 a1), (i6 a2)]) (u := []) (r := (eSi64 r1)) rfl rfl (Den.args (impl_prime_combine_ok a0 ([]) a1 a2 r1 hr2) rfl rfl (.cons (.refl _) (.cons (.nil _ _ _ _ (fun _ => rfl)) (.cons (.refl _) (.cons (.refl _) .nil))))) rfl (vp (eSi64 r1) rfl (nx _ rfl (a_ret ?_)))
  refine ⟨.inr rfl, ?_⟩
  rw [Try.results150]
  cases h
  exact ⟨_, _, _, _, _, rfl, trivial, .inl ⟨rfl, .inl rfl⟩, rfl, rfl⟩
def math_bits_Len64_c : ACode := (.seq (.region 0 [q 2 (.asg 0 (.const (.int .i64 0)) 3)] false) (.seq (.seq (.region 1 [q 3 (.mov (t 0)), q 4 (.bin .geq 192 (t 3) (.const (.int .u64 4294967296)))] false) (.cond (t 4) (.seq (.region 2 [q 5 (.mov (t 0)), q 6 (.bin .shr 192 (t 5) (.const (.int .u64 32))), q 0 (.asg 0 (t 6) 192)] false) (.region 3 [q 2 (.asg 0 (.const (.int .i64 32)) 3)] false)) .skip)) (.seq (.seq (.region 4 [q 7 (.mov (t 0)), q 8 (.bin .geq 192 (t 7) (.const (.int .u64 65536)))] false) (.cond (t 8) (.seq (.region 5 [q 9 (.mov (t 0)), q 10 (.bin .shr 192 (t 9) (.const (.int .u64 16))), q 0 (.asg 0 (t 10) 192)] false) (.region 6 [q 11 (.mov (t 2)), q 12 (.bin .add 3 (t 11) (.const (.int .i64 16))), q 2 (.asg 0 (t 12) 3)] false)) .skip)) (.seq (.seq (.region 7 [q 13 (.mov (t 0)), q 14 (.bin .geq 192 (t 13) (.const (.int .u64 256)))] false) (.cond (t 14) (.seq (.region 8 [q 15 (.mov (t 0)), q 16 (.bin .shr 192 (t 15) (.const (.int .u64 8))), q 0 (.asg 0 (t 16) 192)] false) (.region 9 [q 17 (.mov (t 2)), q 18 (.bin .add 3 (t 17) (.const (.int .i64 8))), q 2 (.asg 0 (t 18) 3)] false)) .skip)) (.seq (.region 10 [q 19 (.mov (t 2)), q 20 (.mov (t 0)), q 21 (.conv 192 5 (t 20)), q 22 (.index 9 (.const (.string ⟨#[0, 1, 2, 2, 3, 3, 3, 3, 4, 4, 4, 4, 4, 4, 4, 4, 5, 5, 5, 5, 5, 5, 5, 5, 5, 5, 5, 5, 5, 5, 5, 5, 6, 6, 6, 6, 6, 6, 6, 6, 6, 6, 6, 6, 6, 6, 6, 6, 6, 6, 6, 6, 6, 6, 6, 6, 6, 6, 6, 6, 6, 6, 6, 6, 7, 7, 7, 7, 7, 7, 7, 7, 7, 7, 7, 7, 7, 7, 7, 7, 7, 7, 7, 7, 7, 7, 7, 7, 7, 7, 7, 7, 7, 7, 7, 7, 7, 7, 7, 7, 7, 7, 7, 7, 7, 7, 7, 7, 7, 7, 7, 7, 7, 7, 7, 7, 7, 7, 7, 7, 7, 7, 7, 7, 7, 7, 7, 7, 8, 8, 8, 8, 8, 8, 8, 8, 8, 8, 8, 8, 8, 8, 8, 8, 8, 8, 8, 8, 8, 8, 8, 8, 8, 8, 8, 8, 8, 8, 8, 8, 8, 8, 8, 8, 8, 8, 8, 8, 8, 8, 8, 8, 8, 8, 8, 8, 8, 8, 8, 8, 8, 8, 8, 8, 8, 8, 8, 8, 8, 8, 8, 8, 8, 8, 8, 8, 8, 8, 8, 8, 8, 8, 8, 8, 8, 8, 8, 8, 8, 8, 8, 8, 8, 8, 8, 8, 8, 8, 8, 8, 8, 8, 8, 8, 8, 8, 8, 8, 8, 8, 8, 8, 8, 8, 8, 8, 8, 8, 8, 8, 8, 8, 8, 8, 8, 8, 8, 8, 8, 8, 8, 8, 8, 8, 8, 8]⟩)) (t 21)), q 23 (.conv 5 3 (t 22)), q 24 (.bin .add 3 (t 19) (t 23)), q 2 (.asg 0 (t 24) 3)] false) .ret)))))
def math_bits_Len64_L : Live := [(0, [0]), (1, [0, 2]), (2, [0]), (3, [0]), (4, [0, 2]), (5, [0, 2]), (6, [0, 2]), (7, [0, 2]), (8, [0, 2]), (9, [0, 2]), (10, [0, 2]), (100004, [0, 2, 4]), (100008, [0, 2, 8]), (100014, [0, 2, 14])]
noncomputable def math_bits_Len64 (a0 : Int) : Option Int :=
  (if (decide (a0 ≥ 4294967296)) then none else (if (decide (a0 ≥ 65536)) then none else (if (decide (a0 ≥ 256)) then none else (ifp (0 ≤ IntKind.u8.wrap a0 ∧ IntKind.u8.wrap a0 < (((⟨#[0, 1, 2, 2, 3, 3, 3, 3, 4, 4, 4, 4, 4, 4, 4, 4, 5, 5, 5, 5, 5, 5, 5, 5, 5, 5, 5, 5, 5, 5, 5, 5, 6, 6, 6, 6, 6, 6, 6, 6, 6, 6, 6, 6, 6, 6, 6, 6, 6, 6, 6, 6, 6, 6, 6, 6, 6, 6, 6, 6, 6, 6, 6, 6, 7, 7, 7, 7, 7, 7, 7, 7, 7, 7, 7, 7, 7, 7, 7, 7, 7, 7, 7, 7, 7, 7, 7, 7, 7, 7, 7, 7, 7, 7, 7, 7, 7, 7, 7, 7, 7, 7, 7, 7, 7, 7, 7, 7, 7, 7, 7, 7, 7, 7, 7, 7, 7, 7, 7, 7, 7, 7, 7, 7, 7, 7, 7, 7, 8, 8, 8, 8, 8, 8, 8, 8, 8, 8, 8, 8, 8, 8, 8, 8, 8, 8, 8, 8, 8, 8, 8, 8, 8, 8, 8, 8, 8, 8, 8, 8, 8, 8, 8, 8, 8, 8, 8, 8, 8, 8, 8, 8, 8, 8, 8, 8, 8, 8, 8, 8, 8, 8, 8, 8, 8, 8, 8, 8, 8, 8, 8, 8, 8, 8, 8, 8, 8, 8, 8, 8, 8, 8, 8, 8, 8, 8, 8, 8, 8, 8, 8, 8, 8, 8, 8, 8, 8, 8, 8, 8, 8, 8, 8, 8, 8, 8, 8, 8, 8, 8, 8, 8, 8, 8, 8, 8, 8, 8, 8, 8, 8, 8, 8, 8, 8, 8, 8, 8, 8, 8, 8, 8, 8, 8, 8, 8]⟩ : ByteArray).size : Nat) : Int)) ((letp (((((⟨#[0, 1, 2, 2, 3, 3, 3, 3, 4, 4, 4, 4, 4, 4, 4, 4, 5, 5, 5, 5, 5, 5, 5, 5, 5, 5, 5, 5, 5, 5, 5, 5, 6, 6, 6, 6, 6, 6, 6, 6, 6, 6, 6, 6, 6, 6, 6, 6, 6, 6, 6, 6, 6, 6, 6, 6, 6, 6, 6, 6, 6, 6, 6, 6, 7, 7, 7, 7, 7, 7, 7, 7, 7, 7, 7, 7, 7, 7, 7, 7, 7, 7, 7, 7, 7, 7, 7, 7, 7, 7, 7, 7, 7, 7, 7, 7, 7, 7, 7, 7, 7, 7, 7, 7, 7, 7, 7, 7, 7, 7, 7, 7, 7, 7, 7, 7, 7, 7, 7, 7, 7, 7, 7, 7, 7, 7, 7, 7, 8, 8, 8, 8, 8, 8, 8, 8, 8, 8, 8, 8, 8, 8, 8, 8, 8, 8, 8, 8, 8, 8, 8, 8, 8, 8, 8, 8, 8, 8, 8, 8, 8, 8, 8, 8, 8, 8, 8, 8, 8, 8, 8, 8, 8, 8, 8, 8, 8, 8, 8, 8, 8, 8, 8, 8, 8, 8, 8, 8, 8, 8, 8, 8, 8, 8, 8, 8, 8, 8, 8, 8, 8, 8, 8, 8, 8, 8, 8, 8, 8, 8, 8, 8, 8, 8, 8, 8, 8, 8, 8, 8, 8, 8, 8, 8, 8, 8, 8, 8, 8, 8, 8, 8, 8, 8, 8, 8, 8, 8, 8, 8, 8, 8, 8, 8, 8, 8, 8, 8, 8, 8, 8, 8, 8, 8, 8, 8]⟩ : ByteArray)).data.toList.getD (IntKind.u8.wrap a0).toNat 0).toNat : Int)) fun x8 => (some (IntKind.i64.wrap (0 + (IntKind.i64.wrap x8))))))))))
theorem math_bits_Len64_ok (a0 : Int) (r : Int) (h : math_bits_Len64 a0 = some r) : Den Try.prog 211 [(.int .u64 a0)] { r := (i6 r) } := by
  refine den_of (rs := [(i6 r)]) (ac := math_bits_Len64_c) (L := math_bits_Len64_L) (n := 25) (m := []) (c := Try.f211.body.getD .skip) good Try.func211 (by kernel_rfl) (by kernel_rfl) Try.ntmps211 rfl rfl (by kernel_rfl) rfl rfl ?_
  refine a_st (σ' := ⟨[(0, (.int .u64 a0))], []⟩) (by kernel_rfl) ?_
  unfold math_bits_Len64_c
  refine sr (vp (i6 0) rfl (nx ⟨[(0, (.int .u64 a0)), (2, (i6 0))], []⟩ (by kernel_rfl) (a_seq (sr (vp (.int .u64 a0) rfl (vp (.bool ((decide (a0 ≥ 4294967296)))) rfl (nx ⟨[(0, (.int .u64 a0)), (2, (i6 0)), (4, (.bool ((decide (a0 ≥ 4294967296)))))], []⟩ (by kernel_rfl) ?_)))))))
  cases hb2 : (decide (a0 ≥ 4294967296))
  · have h := ite_f hb2 h
    refine a_cond_f rfl (a_skip (a_next (σ' := ⟨[(0, (.int .u64 a0)), (2, (i6 0))], []⟩) (by kernel_rfl) (a_seq (sr (vp (.int .u64 a0) rfl (vp (.bool ((decide (a0 ≥ 65536)))) rfl (nx ⟨[(0, (.int .u64 a0)), (2, (i6 0)), (8, (.bool ((decide (a0 ≥ 65536)))))], []⟩ (by kernel_rfl) ?_)))))))
    cases hb4 : (decide (a0 ≥ 65536))
    · have h := ite_f hb4 h
      refine a_cond_f rfl (a_skip (a_next (σ' := ⟨[(0, (.int .u64 a0)), (2, (i6 0))], []⟩) (by kernel_rfl) (a_seq (sr (vp (.int .u64 a0) rfl (vp (.bool ((decide (a0 ≥ 256)))) rfl (nx ⟨[(0, (.int .u64 a0)), (2, (i6 0)), (14, (.bool ((decide (a0 ≥ 256)))))], []⟩ (by kernel_rfl) ?_)))))))
      cases hb6 : (decide (a0 ≥ 256))
      · have h := ite_f hb6 h
        refine a_cond_f rfl (a_skip (a_next (σ' := ⟨[(0, (.int .u64 a0)), (2, (i6 0))], []⟩) (by kernel_rfl) (sr (vp (i6 0) rfl (vp (.int .u64 a0) rfl (vp (b8 (IntKind.u8.wrap a0)) rfl ?_))))))
        obtain ⟨hc7, h⟩ := ifp_some h
        obtain ⟨x8, hx9, h⟩ := letp_some h
        refine a_val' (v := (b8 (((((⟨#[0, 1, 2, 2, 3, 3, 3, 3, 4, 4, 4, 4, 4, 4, 4, 4, 5, 5, 5, 5, 5, 5, 5, 5, 5, 5, 5, 5, 5, 5, 5, 5, 6, 6, 6, 6, 6, 6, 6, 6, 6, 6, 6, 6, 6, 6, 6, 6, 6, 6, 6, 6, 6, 6, 6, 6, 6, 6, 6, 6, 6, 6, 6, 6, 7, 7, 7, 7, 7, 7, 7, 7, 7, 7, 7, 7, 7, 7, 7, 7, 7, 7, 7, 7, 7, 7, 7, 7, 7, 7, 7, 7, 7, 7, 7, 7, 7, 7, 7, 7, 7, 7, 7, 7, 7, 7, 7, 7, 7, 7, 7, 7, 7, 7, 7, 7, 7, 7, 7, 7, 7, 7, 7, 7, 7, 7, 7, 7, 8, 8, 8, 8, 8, 8, 8, 8, 8, 8, 8, 8, 8, 8, 8, 8, 8, 8, 8, 8, 8, 8, 8, 8, 8, 8, 8, 8, 8, 8, 8, 8, 8, 8, 8, 8, 8, 8, 8, 8, 8, 8, 8, 8, 8, 8, 8, 8, 8, 8, 8, 8, 8, 8, 8, 8, 8, 8, 8, 8, 8, 8, 8, 8, 8, 8, 8, 8, 8, 8, 8, 8, 8, 8, 8, 8, 8, 8, 8, 8, 8, 8, 8, 8, 8, 8, 8, 8, 8, 8, 8, 8, 8, 8, 8, 8, 8, 8, 8, 8, 8, 8, 8, 8, 8, 8, 8, 8, 8, 8, 8, 8, 8, 8, 8, 8, 8, 8, 8, 8, 8, 8, 8, 8, 8, 8, 8, 8]⟩ : ByteArray)).data.toList.getD (IntKind.u8.wrap a0).toNat 0).toNat : Int)))) (v' := (b8 x8)) (u := []) (u' := []) rfl (congrArg (fun z => ((b8 z) : AV)) hx9) rfl hc7 rfl (vp (i6 (IntKind.i64.wrap x8)) rfl (vp (i6 (IntKind.i64.wrap (0 + (IntKind.i64.wrap x8)))) rfl (vp (i6 (IntKind.i64.wrap (0 + (IntKind.i64.wrap x8)))) rfl (nx _ rfl (a_ret ?_)))))
        refine ⟨.inr rfl, ?_⟩
        rw [Try.results211]
        cases h
        exact ⟨_, _, _, _, _, rfl, trivial, .inl ⟨rfl, .inl rfl⟩, rfl, rfl⟩
      · have h := ite_t hb6 h
        cases h
    · have h := ite_t hb4 h
      cases h
  · have h := ite_t hb2 h
    cases h
def math_bits_Len_c : ACode := (.seq (.region 0 [q 2 (.asg 0 (.const (.int .i64 0)) 3)] false) (.seq (.cond (.const (.bool false)) (.seq (.region 1 [q 3 (.mov (t 0)), q 4 (.conv 161 190 (t 3)), q 5 (.call 0 (.func 210) [(t 4)]), q 2 (.asg 0 (t 5) 3)] false) .ret) .skip) (.seq (.region 2 [q 6 (.mov (t 0)), q 7 (.call 0 (.func 211) [(t 6)]), q 2 (.asg 0 (t 7) 3)] false) .ret)))
def math_bits_Len_L : Live := [(0, [0]), (1, [0]), (2, [0])]
noncomputable def math_bits_Len (a0 : Int) : Option Int :=
  (Option.bind (math_bits_Len64 a0) fun r1 => (some r1))
theorem math_bits_Len_ok (a0 : Int) (r : Int) (h : math_bits_Len a0 = some r) : Den Try.prog 185 [(.int .u64 a0)] { r := (i6 r) } := by
  refine den_of (rs := [(i6 r)]) (ac := math_bits_Len_c) (L := math_bits_Len_L) (n := 8) (m := []) (c := Try.f185.body.getD .skip) good Try.func185 (by kernel_rfl) (by kernel_rfl) Try.ntmps185 rfl rfl (by kernel_rfl) rfl rfl ?_
  refine a_st (σ' := ⟨[(0, (.int .u64 a0))], []⟩) (by kernel_rfl) ?_
  unfold math_bits_Len_c
  refine sr (vp (i6 0) rfl (nx _ rfl (a_seq (a_cond_f rfl (a_skip (a_next (σ' := ⟨[(0, (.int .u64 a0))], []⟩) (by kernel_rfl) (sr (vp (.int .u64 a0) rfl ?_))))))))
  obtain ⟨r1, hr2, h⟩ := bind_some h
  refine a_call (args := [(.int .u64 a0)]) (u := []) (r := (i6 r1)) rfl rfl (math_bits_Len64_ok a0 r1 hr2) rfl (vp (i6 r1) rfl (nx _ rfl (a_ret ?_)))
  refine ⟨.inr rfl, ?_⟩
  rw [Try.results185]
  cases h
  exact ⟨_, _, _, _, _, rfl, trivial, .inl ⟨rfl, .inl rfl⟩, rfl, rfl⟩
def impl_prime_reducedList_c1_c : ACode := (.seq (.region 0 [q 4 (.asg 0 (.const (.int .i64 0)) 3)] false) (.seq (.region 1 [q 5 (.mov (t 1)), q 6 (.blt 0 .len [(t 5)] [66]), q 7 (.mov (t 0)), q 8 (.blt 0 .len [(t 7)] [66]), q 9 (.bin .sub 3 (t 6) (t 8)), q 4 (.asg 0 (t 9) 3)] false) .ret))
def impl_prime_reducedList_c1_L : Live := [(0, [0, 1]), (1, [0, 1])]
noncomputable def impl_prime_reducedList_c1 (a0 : (List Int)) (a1 : (List Int)) : Option Int :=
  (some (IntKind.i64.wrap ((a1.length : Int) - (a0.length : Int))))
theorem impl_prime_reducedList_c1_ok (a0 : (List Int)) (a1 : (List Int)) (r : Int) (h : impl_prime_reducedList_c1 a0 a1 = some r) : Den Try.prog 153 [(eSi64 a0), (eSi64 a1)] { r := (i6 r) } := by
  refine den_of (rs := [(i6 r)]) (ac := impl_prime_reducedList_c1_c) (L := impl_prime_reducedList_c1_L) (n := 10) (m := []) (c := Try.f153.body.getD .skip) good Try.func153 (by kernel_rfl) (by kernel_rfl) Try.ntmps153 rfl rfl (by kernel_rfl) rfl rfl ?_
  refine a_st (σ' := ⟨[(0, (eSi64 a0)), (1, (eSi64 a1))], []⟩) (by kernel_rfl) ?_
  unfold impl_prime_reducedList_c1_c
  refine sr (vp (i6 0) rfl (nx ⟨[(0, (eSi64 a0)), (1, (eSi64 a1))], []⟩ (by kernel_rfl) (sr (vp (eSi64 a1) rfl (vq (i6 (a1.length : Int)) (len_run rfl rfl) trivial (vp (eSi64 a0) rfl (vq (i6 (a0.length : Int)) (len_run rfl rfl) trivial (vp (i6 (IntKind.i64.wrap ((a1.length : Int) - (a0.length : Int)))) rfl (vp (i6 (IntKind.i64.wrap ((a1.length : Int) - (a0.length : Int)))) rfl ?_)))))))))
  refine nx _ rfl (a_ret ?_)
  refine ⟨.inr rfl, ?_⟩
  rw [Try.results153]
  cases h
  exact ⟨_, _, _, _, _, rfl, trivial, .inl ⟨rfl, .inl rfl⟩, rfl, rfl⟩
def slices_insertionSortCmpFunc_impl_row_of_mut_impl_prime_reducedList_c1_c : ACode := (.seq (.region 0 [q 10 (.mov (t 1)), q 11 (.bin .add 3 (t 10) (.const (.int .i64 1))), q 8 (.asg 0 (t 11) 3)] false) (.block 0 (.loop (.seq (.seq (.region 1 [q 12 (.mov (t 8)), q 13 (.mov (t 2)), q 14 (.bin .lss 3 (t 12) (t 13))] false) (.cond (t 14) .skip (.exit 0))) (.seq (.block 1 (.seq (.region 3 [q 17 (.mov (t 8)), q 9 (.asg 0 (t 17) 3)] false) (.block 2 (.loop (.seq (.seq (.region 4 [q 18 (.mov (t 9)), q 19 (.mov (t 1)), ⟨some 20, .bin .gtr 3 (t 18) (t 19), none, [0, 1]⟩, ⟨some 21, .mov (t 20), none, [2]⟩, ⟨some 22, .mov (t 3), some (21, true), [3]⟩, ⟨some 23, .mov (t 0), some (21, true), [3]⟩, ⟨some 24, .mov (t 9), some (21, true), [3]⟩, ⟨some 25, .indexAddr 82 (t 23) (t 24), some (21, true), [5, 6, 3]⟩, ⟨some 26, .load 66 (t 25), some (21, true), [7, 3]⟩, ⟨some 27, .mov (t 0), some (21, true), [3]⟩, ⟨some 28, .mov (t 9), some (21, true), [3]⟩, ⟨some 29, .bin .sub 3 (t 28) (.const (.int .i64 1)), some (21, true), [10, 3]⟩, ⟨some 30, .indexAddr 82 (t 27) (t 29), some (21, true), [9, 11, 3]⟩, ⟨some 31, .load 66 (t 30), some (21, true), [12, 3]⟩, ⟨some 32, .call 0 (t 22) [(t 26), (t 31)], some (21, true), [4, 8, 13, 3, 3]⟩, ⟨some 33, .bin .lss 3 (t 32) (.const (.int .i64 0)), some (21, true), [14, 3]⟩, ⟨some 34, .pick (t 21) (t 33) (.const (.bool false)), none, [3, 15]⟩] true) (.cond (t 34) .skip (.exit 2))) (.seq (.block 3 (.region 6 [q 37 (.mov (t 0)), q 38 (.mov (t 9)), q 39 (.mov (t 0)), q 40 (.mov (t 9)), ⟨some 41, .bin .sub 3 (t 40) (.const (.int .i64 1)), none, [3]⟩, q 42 (.mov (t 0)), q 43 (.mov (t 9)), ⟨some 44, .bin .sub 3 (t 43) (.const (.int .i64 1)), none, [6]⟩, ⟨some 45, .indexAddr 82 (t 42) (t 44), none, [5, 7]⟩, ⟨some 46, .load 66 (t 45), none, [8]⟩, q 47 (.mov (t 0)), q 48 (.mov (t 9)), ⟨some 49, .indexAddr 82 (t 47) (t 48), none, [10, 11]⟩, ⟨some 50, .load 66 (t 49), none, [12]⟩, ⟨some 51, .indexAddr 82 (t 37) (t 38), none, [0, 1, 0, 1, 5, 6, 7, 8, 9, 13]⟩, ⟨none, .store 66 (t 51) (t 46), none, [14, 9, 0, 1, 5, 6, 7, 8, 9, 13]⟩, ⟨some 52, .indexAddr 82 (t 39) (t 41), none, [2, 4, 0, 1, 2, 3, 4, 5, 6, 7, 8, 9, 10, 11, 12, 13, 14, 15]⟩, ⟨none, .store 66 (t 52) (t 50), none, [16, 13, 15, 0, 1, 2, 3, 4, 5, 6, 7, 8, 9, 10, 11, 12, 13, 14, 15]⟩] true)) (.region 5 [q 35 (.mov (t 9)), q 36 (.bin .sub 3 (t 35) (.const (.int .i64 1))), q 9 (.asg 0 (t 36) 3)] false))))))) (.region 2 [q 15 (.mov (t 8)), q 16 (.bin .add 3 (t 15) (.const (.int .i64 1))), q 8 (.asg 0 (t 16) 3)] false))))))
def slices_insertionSortCmpFunc_impl_row_of_mut_impl_prime_reducedList_c1_L : Live := [(0, [0, 1, 2, 3]), (1, [0, 1, 2, 3, 8]), (2, [0, 1, 2, 3, 8]), (3, [0, 1, 2, 3, 8]), (4, [0, 1, 2, 3, 8, 9]), (5, [0, 1, 2, 3, 8, 9]), (6, [0, 1, 2, 3, 8, 9]), (100014, [0, 1, 2, 3, 8, 14]), (100034, [0, 1, 2, 3, 8, 9, 34])]
noncomputable def slices_insertionSortCmpFunc_impl_row_of_mut_impl_prime_reducedList_c1_l2 (a1 : Int) (x859 : Int) (x860 : (List (List Int))) : Option ((Int × (List (List Int))) ⊕ (List (List Int))) :=
  (Option.bind (α := Bool) ((if (decide (x859 > a1)) then (ifp (0 ≤ x859 ∧ x859 < ((x860.length : Nat) : Int)) ((ifp (0 ≤ IntKind.i64.wrap (x859 - 1) ∧ IntKind.i64.wrap (x859 - 1) < ((x860.length : Nat) : Int)) ((Option.bind (impl_prime_reducedList_c1 (rd x860 x859.toNat) ((rd x860 (IntKind.i64.wrap (x859 - 1)).toNat))) fun r943 => (some ((decide (r943 < 0))))))))) else (some false))) fun x927 => (if x927 then (ifp (0 ≤ IntKind.i64.wrap (x859 - 1) ∧ IntKind.i64.wrap (x859 - 1) < ((x860.length : Nat) : Int)) ((ifp (0 ≤ x859 ∧ x859 < ((x860.length : Nat) : Int)) ((ifp (0 ≤ x859 ∧ x859 < ((x860.length : Nat) : Int)) ((ifp (0 ≤ IntKind.i64.wrap (x859 - 1) ∧ IntKind.i64.wrap (x859 - 1) < ((((x860.set x859.toNat ((rd x860 (IntKind.i64.wrap (x859 - 1)).toNat)))).length : Nat) : Int)) ((some (.inl ((IntKind.i64.wrap (x859 - 1), (((x860.set x859.toNat ((rd x860 (IntKind.i64.wrap (x859 - 1)).toNat)))).set (IntKind.i64.wrap (x859 - 1)).toNat (rd x860 x859.toNat)))))))))))))) else (some (.inr x860))))
noncomputable def slices_insertionSortCmpFunc_impl_row_of_mut_impl_prime_reducedList_c1_l1 (a2 : Int) (a1 : Int) (x336 : Int) (x337 : (List (List Int))) : Option ((Int × (List (List Int))) ⊕ (List (List Int))) :=
  (if (decide (x336 < a2)) then (Option.bind (α := (List (List Int))) ((loopM (fun s : (Int × (List (List Int))) => slices_insertionSortCmpFunc_impl_row_of_mut_impl_prime_reducedList_c1_l2 a1 s.1 s.2) (x336, x337))) fun x806 => (some (.inl ((IntKind.i64.wrap (x336 + 1), x806))))) else (some (.inr x337)))
noncomputable def slices_insertionSortCmpFunc_impl_row_of_mut_impl_prime_reducedList_c1 (a0 : (List (List Int))) (a1 : Int) (a2 : Int) : Option (List (List Int)) :=
  (loopM (fun s : (Int × (List (List Int))) => slices_insertionSortCmpFunc_impl_row_of_mut_impl_prime_reducedList_c1_l1 a2 a1 s.1 s.2) (IntKind.i64.wrap (a1 + 1), a0))
theorem slices_insertionSortCmpFunc_impl_row_of_mut_impl_prime_reducedList_c1_ok (a0 : (List (List Int))) (a1 : Int) (a2 : Int) (r : (List (List Int))) (h : slices_insertionSortCmpFunc_impl_row_of_mut_impl_prime_reducedList_c1 a0 a1 a2 = some r) : Den Try.prog 202 [(.mutsl 1 (a0.map eSi64)), (i6 a1), (i6 a2), (.clo 153 [] [])] { r := (.tuple []), ms := [(.row 1 (r.map eSi64))], fs := [] } := by
  refine den_ofX (rs := []) (ac := slices_insertionSortCmpFunc_impl_row_of_mut_impl_prime_reducedList_c1_c) (L := slices_insertionSortCmpFunc_impl_row_of_mut_impl_prime_reducedList_c1_L) (n := 53) (m := []) (c := Try.f202.body.getD .skip) good Try.func202 (by kernel_rfl) (by kernel_rfl) Try.ntmps202 rfl rfl (by kernel_rfl) rfl ?_
  refine a_st (σ' := ⟨[(0, (.osl 1000000)), (1, (i6 a1)), (2, (i6 a2)), (3, (.clo 153 [] []))], [(1000000, (bk (.row 1 (a0.map eSi64))))]⟩) (by kernel_rfl) ?_
  unfold slices_insertionSortCmpFunc_impl_row_of_mut_impl_prime_reducedList_c1_c
  refine sr (vp (i6 a1) rfl (vp (i6 (IntKind.i64.wrap (a1 + 1))) rfl (vp (i6 (IntKind.i64.wrap (a1 + 1))) rfl (nx ⟨[(0, (.osl 1000000)), (1, (i6 a1)), (2, (i6 a2)), (3, (.clo 153 [] [])), (8, (i6 (IntKind.i64.wrap (a1 + 1))))], [(1000000, (bk (.row 1 (a0.map eSi64))))]⟩ (by kernel_rfl) (a_block ?_)))))
  refine a_loop (emb := fun (s : (Int × (List (List Int)))) => ⟨[(0, (.osl 1000000)), (1, (i6 a1)), (2, (i6 a2)), (3, (.clo 153 [] [])), (8, (i6 s.1))], [(1000000, (bk (.row 1 (s.2.map eSi64))))]⟩) (body := (fun s : (Int × (List (List Int))) => slices_insertionSortCmpFunc_impl_row_of_mut_impl_prime_reducedList_c1_l1 a2 a1 s.1 s.2)) (G := fun q => some q = some r) h rfl ?_ (by kernel_rfl)
  rintro X649 ⟨x336, x337⟩ x650 h hX651
  have h : slices_insertionSortCmpFunc_impl_row_of_mut_impl_prime_reducedList_c1_l1 a2 a1 x336 x337 = some x650 := h
  refine a_st (σ' := ⟨[(0, (.osl 1000000)), (1, (i6 a1)), (2, (i6 a2)), (3, (.clo 153 [] [])), (8, (i6 x336))], [(1000000, (bk (.row 1 (x337.map eSi64))))]⟩) (by kernel_rfl) (a_seq (sr (vp (i6 x336) rfl (vp (i6 a2) rfl (vp (.bool ((decide (x336 < a2)))) rfl (nx ⟨[(0, (.osl 1000000)), (1, (i6 a1)), (2, (i6 a2)), (3, (.clo 153 [] [])), (8, (i6 x336)), (14, (.bool ((decide (x336 < a2)))))], [(1000000, (bk (.row 1 (x337.map eSi64))))]⟩ (by kernel_rfl) ?_))))))
  cases hb652 : (decide (x336 < a2))
  · have h := ite_f hb652 h
    refine a_cond_f rfl (a_exit (t_exit ?_))
    cases h
    have h := hX651
    refine t_exit (b_exit ?_)
    refine ⟨.inl rfl, ?_⟩
    rw [Try.results202]
    cases h
    exact ⟨[], ⟨rfl, rfl, rfl⟩, rfl, ⟨_, _, rfl, rfl, rfl⟩⟩
  · have h := ite_t hb652 h
    refine a_cond_t rfl (a_skip (a_next (σ' := ⟨[(0, (.osl 1000000)), (1, (i6 a1)), (2, (i6 a2)), (3, (.clo 153 [] [])), (8, (i6 x336))], [(1000000, (bk (.row 1 (x337.map eSi64))))]⟩) (by kernel_rfl) ?_))
    obtain ⟨y807, hy808, hk809⟩ := bind_some h
    clear h
    refine a_join (emb := fun (s : (List (List Int))) => ⟨[(0, (.osl 1000000)), (1, (i6 a1)), (2, (i6 a2)), (3, (.clo 153 [] [])), (8, (i6 x336))], [(1000000, (bk (.row 1 (s.map eSi64))))]⟩) (pre := fun s => s = y807) ?_ ?_
    · rintro x806 rfl
      have h := hk809
      refine a_st (σ' := ⟨[(0, (.osl 1000000)), (1, (i6 a1)), (2, (i6 a2)), (3, (.clo 153 [] [])), (8, (i6 x336))], [(1000000, (bk (.row 1 (x806.map eSi64))))]⟩) (by kernel_rfl) (a_region (vp (i6 x336) rfl (vp (i6 (IntKind.i64.wrap (x336 + 1))) rfl (vp (i6 (IntKind.i64.wrap (x336 + 1))) rfl (a_nil ?_)))))
      cases h
      exact a_again (by kernel_rfl) hX651
    · have h := hy808
      refine a_block (sr (vp (i6 x336) rfl (vp (i6 x336) rfl (nx ⟨[(0, (.osl 1000000)), (1, (i6 a1)), (2, (i6 a2)), (3, (.clo 153 [] [])), (8, (i6 x336)), (9, (i6 x336))], [(1000000, (bk (.row 1 (x337.map eSi64))))]⟩ (by kernel_rfl) (a_block ?_)))))
      refine a_loop (emb := fun (s : (Int × (List (List Int)))) => ⟨[(0, (.osl 1000000)), (1, (i6 a1)), (2, (i6 a2)), (3, (.clo 153 [] [])), (8, (i6 x336)), (9, (i6 s.1))], [(1000000, (bk (.row 1 (s.2.map eSi64))))]⟩) (body := (fun s : (Int × (List (List Int))) => slices_insertionSortCmpFunc_impl_row_of_mut_impl_prime_reducedList_c1_l2 a1 s.1 s.2)) (G := fun q => some q = some y807) h rfl ?_ (by kernel_rfl)
      rintro X910 ⟨x859, x860⟩ x911 h hX912
      have h : slices_insertionSortCmpFunc_impl_row_of_mut_impl_prime_reducedList_c1_l2 a1 x859 x860 = some x911 := h
      refine a_st (σ' := ⟨[(0, (.osl 1000000)), (1, (i6 a1)), (2, (i6 a2)), (3, (.clo 153 [] [])), (8, (i6 x336)), (9, (i6 x859))], [(1000000, (bk (.row 1 (x860.map eSi64))))]⟩) (by kernel_rfl) (a_seq ?_)
      obtain ⟨y928, hy929, hk930⟩ := bind_some h
      clear h
      refine a_join (emb := fun (s : Bool) => ⟨[(0, (.osl 1000000)), (1, (i6 a1)), (2, (i6 a2)), (3, (.clo 153 [] [])), (8, (i6 x336)), (9, (i6 x859)), (34, (.bool s))], [(1000000, (bk (.row 1 (x860.map eSi64))))]⟩) (pre := fun s => s = y928) ?_ ?_
      · rintro x927 rfl
        have h := hk930
        refine a_st (σ' := ⟨[(0, (.osl 1000000)), (1, (i6 a1)), (2, (i6 a2)), (3, (.clo 153 [] [])), (8, (i6 x336)), (9, (i6 x859)), (34, (.bool x927))], [(1000000, (bk (.row 1 (x860.map eSi64))))]⟩) (by kernel_rfl) ?_
        cases hb945 : x927
        · have h := ite_f hb945 h
          refine a_cond_f rfl (a_exit (t_exit ?_))
          cases h
          have h := hX912
          refine t_exit (b_exit (b_norm ?_))
          exact j_leaf x860 (Option.some.inj h) (by kernel_rfl)
        · have h := ite_t hb945 h
          refine a_cond_t rfl (a_skip (a_next (σ' := ⟨[(0, (.osl 1000000)), (1, (i6 a1)), (2, (i6 a2)), (3, (.clo 153 [] [])), (8, (i6 x336)), (9, (i6 x859))], [(1000000, (bk (.row 1 (x860.map eSi64))))]⟩) (by kernel_rfl) (a_seq (a_block (a_draw [⟨[], [], [1000000], []⟩, ⟨[], [], [], []⟩, ⟨[], [], [1000000], []⟩, ⟨[], [], [], []⟩, ⟨[], [], [], [3]⟩, ⟨[], [], [1000000], []⟩, ⟨[], [], [], []⟩, ⟨[], [], [], [6]⟩, ⟨[1000000], [], [1000000], [5, 6, 7]⟩, ⟨[1000000], [], [], [5, 6, 7, 8]⟩, ⟨[], [], [1000000], []⟩, ⟨[], [], [], []⟩, ⟨[1000000], [], [1000000], [10, 11]⟩, ⟨[1000000], [], [], [10, 11, 12]⟩, ⟨[1000000], [], [1000000], [0, 1, 5, 6, 7, 8, 9, 10, 11, 12, 13]⟩, ⟨[1000000], [1000000], [], [0, 1, 5, 6, 7, 8, 9, 10, 11, 12, 13, 14]⟩, ⟨[1000000], [], [1000000], [0, 1, 2, 3, 4, 5, 6, 7, 8, 9, 10, 11, 12, 13, 14, 15]⟩, ⟨[1000000], [1000000], [], [0, 1, 2, 3, 4, 5, 6, 7, 8, 9, 10, 11, 12, 13, 14, 15, 16]⟩] (by kernel_rfl) (dp (.osl 1000000) rfl (by kernel_rfl) (dp (i6 x859) rfl (by kernel_rfl) (dp (.osl 1000000) rfl (by kernel_rfl) (dp (i6 x859) rfl (by kernel_rfl) ?_)))))))))
          refine dp (i6 (IntKind.i64.wrap (x859 - 1))) rfl (by kernel_rfl) (dp (.osl 1000000) rfl (by kernel_rfl) (dp (i6 x859) rfl (by kernel_rfl) (dp (i6 (IntKind.i64.wrap (x859 - 1))) rfl (by kernel_rfl) (d_cons ?_))))
          obtain ⟨hc954, h⟩ := ifp_some h
          refine vq (.own 1000000 [(IntKind.i64.wrap (x859 - 1)).toNat] [(IntKind.i64.wrap (x859 - 1)).toNat * 1]) rfl (lmap hc954) (d_next (by kernel_rfl) (d_cons ?_))
          have hl955 : LdOk [(IntKind.i64.wrap (x859 - 1)).toNat] (.row 1 (x860.map eSi64)) [(IntKind.i64.wrap (x859 - 1)).toNat * 1] 1 false (eSi64 ((rd x860 (IntKind.i64.wrap (x859 - 1)).toNat))) := (.row (llt hc954) rfl (.nil rfl rfl rfl))
          refine vq (eSi64 ((rd x860 (IntKind.i64.wrap (x859 - 1)).toNat))) (ld_own (i := ⟨.slice 2, 1, 24, (eSi64 [])⟩) rfl rfl rfl hl955) hl955.c (d_next (by kernel_rfl) (dp (.osl 1000000) rfl (by kernel_rfl) (dp (i6 x859) rfl (by kernel_rfl) (d_cons ?_))))
          obtain ⟨hc956, h⟩ := ifp_some h
          refine vq (.own 1000000 [x859.toNat] [x859.toNat * 1]) rfl (lmap hc956) (d_next (by kernel_rfl) (d_cons ?_))
          have hl957 : LdOk [x859.toNat] (.row 1 (x860.map eSi64)) [x859.toNat * 1] 1 false (eSi64 (rd x860 x859.toNat)) := (.row (llt hc956) rfl (.nil rfl rfl rfl))
          refine vq (eSi64 (rd x860 x859.toNat)) (ld_own (i := ⟨.slice 2, 1, 24, (eSi64 [])⟩) rfl rfl rfl hl957) hl957.c (d_next (by kernel_rfl) (d_cons ?_))
          obtain ⟨hc958, h⟩ := ifp_some h
          refine vq (.own 1000000 [x859.toNat] [x859.toNat * 1]) rfl (lmap hc958) (d_next (by kernel_rfl) (d_cons ?_))
          have hs959 : StOk [x859.toNat] (.row 1 (x860.map eSi64)) [x859.toNat * 1] 1 (eSi64 ((rd x860 (IntKind.i64.wrap (x859 - 1)).toNat))) (.row 1 (((x860.set x859.toNat ((rd x860 (IntKind.i64.wrap (x859 - 1)).toNat)))).map eSi64)) := (.row (y := (rd x860 (IntKind.i64.wrap (x859 - 1)).toNat)) (llt hc958) rfl (.nil rfl rfl rfl rfl))
          refine vu .top [(1000000, (bk (.row 1 (((x860.set x859.toNat ((rd x860 (IntKind.i64.wrap (x859 - 1)).toNat)))).map eSi64))))] (st_own (i := ⟨.slice 2, 1, 24, (eSi64 [])⟩) rfl rfl (fun _ => rfl) rfl hs959) (hs959.c rfl) rfl (d_next (by kernel_rfl) (d_cons ?_))
          obtain ⟨hc960, h⟩ := ifp_some h
          refine vq (.own 1000000 [(IntKind.i64.wrap (x859 - 1)).toNat] [(IntKind.i64.wrap (x859 - 1)).toNat * 1]) rfl (lmap hc960) (d_next (by kernel_rfl) (d_cons ?_))
          have hs961 : StOk [(IntKind.i64.wrap (x859 - 1)).toNat] (.row 1 (((x860.set x859.toNat ((rd x860 (IntKind.i64.wrap (x859 - 1)).toNat)))).map eSi64)) [(IntKind.i64.wrap (x859 - 1)).toNat * 1] 1 (eSi64 (rd x860 x859.toNat)) (.row 1 (((((x860.set x859.toNat ((rd x860 (IntKind.i64.wrap (x859 - 1)).toNat)))).set (IntKind.i64.wrap (x859 - 1)).toNat (rd x860 x859.toNat))).map eSi64)) := (.row (y := (rd x860 x859.toNat)) (llt hc960) rfl (.nil rfl rfl rfl rfl))
          refine vu .top [(1000000, (bk (.row 1 (((((x860.set x859.toNat ((rd x860 (IntKind.i64.wrap (x859 - 1)).toNat)))).set (IntKind.i64.wrap (x859 - 1)).toNat (rd x860 x859.toNat))).map eSi64))))] (st_own (i := ⟨.slice 2, 1, 24, (eSi64 [])⟩) rfl rfl (fun _ => rfl) rfl hs961) (hs961.c rfl) rfl (d_next (by kernel_rfl) (d_nil (b_norm (a_next (σ' := ⟨[(0, (.osl 1000000)), (1, (i6 a1)), (2, (i6 a2)), (3, (.clo 153 [] [])), (8, (i6 x336)), (9, (i6 x859))], [(1000000, (bk (.row 1 (((((x860.set x859.toNat ((rd x860 (IntKind.i64.wrap (x859 - 1)).toNat)))).set (IntKind.i64.wrap (x859 - 1)).toNat (rd x860 x859.toNat))).map eSi64))))]⟩) (by kernel_rfl) (a_region (vp (i6 x859) rfl (vp (i6 (IntKind.i64.wrap (x859 - 1))) rfl (vp (i6 (IntKind.i64.wrap (x859 - 1))) rfl (a_nil ?_)))))))))
          cases h
          exact a_again (by kernel_rfl) hX912
      · have h := hy929
        refine a_draw [⟨[], [], [], []⟩, ⟨[], [], [], []⟩, ⟨[], [], [], [0, 1]⟩, ⟨[], [], [], [0, 1, 2]⟩, ⟨[], [], [], [0, 1, 2, 3]⟩, ⟨[], [], [1000000], [0, 1, 2, 3]⟩, ⟨[], [], [], [0, 1, 2, 3]⟩, ⟨[1000000], [], [1000000], [0, 1, 2, 3, 5, 6]⟩, ⟨[1000000], [], [], [0, 1, 2, 3, 5, 6, 7]⟩, ⟨[], [], [1000000], [0, 1, 2, 3]⟩, ⟨[], [], [], [0, 1, 2, 3]⟩, ⟨[], [], [], [0, 1, 2, 3, 10]⟩, ⟨[1000000], [], [1000000], [0, 1, 2, 3, 9, 10, 11]⟩, ⟨[1000000], [], [], [0, 1, 2, 3, 9, 10, 11, 12]⟩, ⟨[], [], [], [0, 1, 2, 3, 4, 5, 6, 7, 8, 9, 10, 11, 12, 13]⟩, ⟨[], [], [], [0, 1, 2, 3, 4, 5, 6, 7, 8, 9, 10, 11, 12, 13, 14]⟩, ⟨[], [], [], [0, 1, 2, 3, 4, 5, 6, 7, 8, 9, 10, 11, 12, 13, 14, 15]⟩] (by kernel_rfl) (dp (i6 x859) rfl (by kernel_rfl) (dp (i6 a1) rfl (by kernel_rfl) (dp (.bool ((decide (x859 > a1)))) rfl (by kernel_rfl) (dp (.bool ((decide (x859 > a1)))) rfl (by kernel_rfl) ?_))))
        cases hb938 : (decide (x859 > a1))
        · have h := ite_f hb938 h
          refine dk rfl (by kernel_rfl) (dk rfl (by kernel_rfl) (dk rfl (by kernel_rfl) (dk rfl (by kernel_rfl) (dk rfl (by kernel_rfl) (dk rfl (by kernel_rfl) (dk rfl (by kernel_rfl) (dk rfl (by kernel_rfl) (dk rfl (by kernel_rfl) (dk rfl (by kernel_rfl) ?_)))))))))
          refine dk rfl (by kernel_rfl) (dk rfl (by kernel_rfl) (dp (.bool false) rfl (by kernel_rfl) (d_nil ?_)))
          exact j_leaf false (Option.some.inj h) (by kernel_rfl)
        · have h := ite_t hb938 h
          refine dg (.clo 153 [] []) rfl rfl (by kernel_rfl) (dg (.osl 1000000) rfl rfl (by kernel_rfl) (dg (i6 x859) rfl rfl (by kernel_rfl) (d_cons ?_)))
          obtain ⟨hc939, h⟩ := ifp_some h
          refine gq (.own 1000000 [x859.toNat] [x859.toNat * 1]) rfl rfl (lmap hc939) (d_next (by kernel_rfl) (d_cons ?_))
          have hl940 : LdOk [x859.toNat] (.row 1 (x860.map eSi64)) [x859.toNat * 1] 1 false (eSi64 (rd x860 x859.toNat)) := (.row (llt hc939) rfl (.nil rfl rfl rfl))
          refine gq (eSi64 (rd x860 x859.toNat)) rfl (ld_own (i := ⟨.slice 2, 1, 24, (eSi64 [])⟩) rfl rfl rfl hl940) hl940.c (d_next (by kernel_rfl) (dg (.osl 1000000) rfl rfl (by kernel_rfl) (dg (i6 x859) rfl rfl (by kernel_rfl) (dg (i6 (IntKind.i64.wrap (x859 - 1))) rfl rfl (by kernel_rfl) (d_cons ?_)))))
          obtain ⟨hc941, h⟩ := ifp_some h
          refine gq (.own 1000000 [(IntKind.i64.wrap (x859 - 1)).toNat] [(IntKind.i64.wrap (x859 - 1)).toNat * 1]) rfl rfl (lmap hc941) (d_next (by kernel_rfl) (d_cons ?_))
          have hl942 : LdOk [(IntKind.i64.wrap (x859 - 1)).toNat] (.row 1 (x860.map eSi64)) [(IntKind.i64.wrap (x859 - 1)).toNat * 1] 1 false (eSi64 ((rd x860 (IntKind.i64.wrap (x859 - 1)).toNat))) := (.row (llt hc941) rfl (.nil rfl rfl rfl))
          refine gq (eSi64 ((rd x860 (IntKind.i64.wrap (x859 - 1)).toNat))) rfl (ld_own (i := ⟨.slice 2, 1, 24, (eSi64 [])⟩) rfl rfl rfl hl942) hl942.c (d_next (by kernel_rfl) (d_cons ?_))
          obtain ⟨r943, hr944, h⟩ := bind_some h
          refine a_gcall rfl (args := [(eSi64 (rd x860 x859.toNat)), (eSi64 ((rd x860 (IntKind.i64.wrap (x859 - 1)).toNat)))]) (u := []) (r := (i6 r943)) rfl rfl (impl_prime_reducedList_c1_ok (rd x860 x859.toNat) ((rd x860 (IntKind.i64.wrap (x859 - 1)).toNat)) r943 hr944) rfl (d_next (by kernel_rfl) (dg (.bool ((decide (r943 < 0)))) rfl rfl (by kernel_rfl) (dp (.bool ((decide (r943 < 0)))) rfl (by kernel_rfl) (d_nil ?_))))
          exact j_leaf ((decide (r943 < 0))) (Option.some.inj h) (by kernel_rfl)
def slices_pdqsortCmpFunc_impl_row_of_mut_impl_prime_reducedList_c1_c : ACode := (.seq (.region 0 [q 10 (.asg 0 (.const (.bool true)) 4)] false) (.seq (.region 1 [q 11 (.asg 0 (.const (.bool true)) 4)] false) (.block 0 (.loop (.block 1 (.seq (.region 2 [q 21 (.mov (t 2)), q 22 (.mov (t 1)), q 23 (.bin .sub 3 (t 21) (t 22)), q 12 (.asg 0 (t 23) 3)] false) (.seq (.seq (.region 3 [q 24 (.mov (t 12)), q 25 (.bin .leq 3 (t 24) (.const (.int .i64 12)))] false) (.cond (t 25) (.seq (.region 4 [q 26 (.mov (t 0)), q 27 (.mov (t 1)), q 28 (.mov (t 2)), q 29 (.mov (t 4)), q 30 (.call 1 (.func 202) [(t 26), (t 27), (t 28), (t 29)])] false) .ret) .skip)) (.seq (.seq (.region 5 [q 31 (.mov (t 3)), q 32 (.bin .eql 3 (t 31) (.const (.int .i64 0)))] false) (.cond (t 32) (.seq (.region 6 [q 33 (.mov (t 0)), q 34 (.mov (t 1)), q 35 (.mov (t 2)), q 36 (.mov (t 4)), q 37 (.call 1 (.func 203) [(t 33), (t 34), (t 35), (t 36)])] false) .ret) .skip)) (.seq (.seq (.region 7 [q 38 (.mov (t 10)), q 39 (.un .not (t 38))] false) (.cond (t 39) (.seq (.region 8 [q 40 (.mov (t 0)), q 41 (.mov (t 1)), q 42 (.mov (t 2)), q 43 (.mov (t 4)), q 44 (.call 1 (.func 204) [(t 40), (t 41), (t 42), (t 43)])] false) (.region 9 [q 45 (.mov (t 3)), q 46 (.bin .sub 3 (t 45) (.const (.int .i64 1))), q 3 (.asg 0 (t 46) 3)] false)) .skip)) (.seq (.region 10 [q 48 (.mov (t 0)), q 49 (.mov (t 1)), q 50 (.mov (t 2)), q 51 (.mov (t 4)), q 52 (.call 0 (.func 205) [(t 48), (t 49), (t 50), (t 51)]), q 47 (.mov (t 52)), q 53 (.extract (t 47) 0), q 54 (.extract (t 47) 1), q 13 (.asg 0 (t 53) 3), q 14 (.asg 0 (t 54) 182)] false) (.seq (.seq (.region 11 [q 55 (.mov (t 14)), q 56 (.bin .eql 182 (t 55) (.const (.int .i64 2)))] false) (.cond (t 56) (.seq (.region 12 [q 57 (.mov (t 0)), q 58 (.mov (t 1)), q 59 (.mov (t 2)), q 60 (.mov (t 4)), q 61 (.call 1 (.func 206) [(t 57), (t 58), (t 59), (t 60)])] false) (.seq (.region 13 [q 62 (.mov (t 2)), q 63 (.bin .sub 3 (t 62) (.const (.int .i64 1))), q 64 (.mov (t 13)), q 65 (.mov (t 1)), q 66 (.bin .sub 3 (t 64) (t 65)), q 67 (.bin .sub 3 (t 63) (t 66)), q 13 (.asg 0 (t 67) 3)] false) (.region 14 [q 14 (.asg 0 (.const (.int .i64 1)) 182)] false))) .skip)) (.seq (.seq (.region 15 [q 68 (.mov (t 10)), q 69 (.mov (t 68)), ⟨some 70, .mov (t 11), some (69, true), []⟩, q 71 (.pick (t 69) (t 70) (.const (.bool false))), q 72 (.mov (t 71)), ⟨some 73, .mov (t 14), some (72, true), []⟩, ⟨some 74, .bin .eql 182 (t 73) (.const (.int .i64 1)), some (72, true), []⟩, q 75 (.pick (t 72) (t 74) (.const (.bool false)))] false) (.cond (t 75) (.seq (.region 16 [q 76 (.mov (t 0)), q 77 (.mov (t 1)), q 78 (.mov (t 2)), q 79 (.mov (t 4)), q 80 (.call 1 (.func 207) [(t 76), (t 77), (t 78), (t 79)])] false) (.cond (t 80) .ret .skip)) .skip)) (.seq (.seq (.region 17 [q 81 (.mov (t 1)), ⟨some 82, .bin .gtr 3 (t 81) (.const (.int .i64 0)), none, [0]⟩, ⟨some 83, .mov (t 82), none, [1]⟩, ⟨some 84, .mov (t 4), some (83, true), [2]⟩, ⟨some 85, .mov (t 0), some (83, true), [2]⟩, ⟨some 86, .mov (t 1), some (83, true), [2]⟩, ⟨some 87, .bin .sub 3 (t 86) (.const (.int .i64 1)), some (83, true), [5, 2]⟩, ⟨some 88, .indexAddr 82 (t 85) (t 87), some (83, true), [4, 6, 2]⟩, ⟨some 89, .load 66 (t 88), some (83, true), [7, 2]⟩, ⟨some 90, .mov (t 0), some (83, true), [2]⟩, ⟨some 91, .mov (t 13), some (83, true), [2]⟩, ⟨some 92, .indexAddr 82 (t 90) (t 91), some (83, true), [9, 10, 2]⟩, ⟨some 93, .load 66 (t 92), some (83, true), [11, 2]⟩, ⟨some 94, .call 0 (t 84) [(t 89), (t 93)], some (83, true), [3, 8, 12, 2, 2]⟩, ⟨some 95, .bin .lss 3 (t 94) (.const (.int .i64 0)), some (83, true), [13, 2]⟩, ⟨some 96, .un .not (t 95), some (83, true), [14, 2]⟩, ⟨some 97, .pick (t 83) (t 96) (.const (.bool false)), none, [2, 15]⟩] true) (.cond (t 97) (.seq (.region 18 [q 98 (.mov (t 0)), q 99 (.mov (t 1)), q 100 (.mov (t 2)), q 101 (.mov (t 13)), q 102 (.mov (t 4)), q 103 (.call 1 (.func 208) [(t 98), (t 99), (t 100), (t 101), (t 102)]), q 15 (.asg 0 (t 103) 3)] false) (.seq (.region 19 [q 104 (.mov (t 15)), q 1 (.asg 0 (t 104) 3)] false) (.exit 1))) .skip)) (.seq (.region 20 [q 106 (.mov (t 0)), q 107 (.mov (t 1)), q 108 (.mov (t 2)), q 109 (.mov (t 13)), q 110 (.mov (t 4)), q 111 (.call 1 (.func 209) [(t 106), (t 107), (t 108), (t 109), (t 110)]), q 105 (.mov (t 111)), q 112 (.extract (t 105) 0), q 113 (.extract (t 105) 1), q 16 (.asg 0 (t 112) 3), q 17 (.asg 0 (t 113) 4)] false) (.seq (.region 21 [q 114 (.mov (t 17)), q 11 (.asg 0 (t 114) 4)] false) (.seq (.region 22 [q 115 (.mov (t 16)), q 116 (.mov (t 1)), q 117 (.bin .sub 3 (t 115) (t 116)), q 118 (.mov (t 2)), q 119 (.mov (t 16)), q 120 (.bin .sub 3 (t 118) (t 119)), q 18 (.asg 0 (t 117) 3), q 19 (.asg 0 (t 120) 3)] false) (.seq (.region 23 [q 121 (.mov (t 12)), q 122 (.bin .quo 3 (t 121) (.const (.int .i64 8))), q 20 (.asg 0 (t 122) 3)] false) (.seq (.region 24 [q 123 (.mov (t 18)), q 124 (.mov (t 19)), q 125 (.bin .lss 3 (t 123) (t 124))] false) (.cond (t 125) (.seq (.region 25 [q 126 (.mov (t 18)), q 127 (.mov (t 20)), q 128 (.bin .geq 3 (t 126) (t 127)), q 10 (.asg 0 (t 128) 4)] false) (.seq (.region 26 [q 129 (.mov (t 0)), q 130 (.mov (t 1)), q 131 (.mov (t 16)), q 132 (.mov (t 3)), q 133 (.mov (t 4)), q 134 (.call 1 (.func 184) [(t 129), (t 130), (t 131), (t 132), (t 133)])] false) (.region 27 [q 135 (.mov (t 16)), q 136 (.bin .add 3 (t 135) (.const (.int .i64 1))), q 1 (.asg 0 (t 136) 3)] false))) (.seq (.region 28 [q 137 (.mov (t 19)), q 138 (.mov (t 20)), q 139 (.bin .geq 3 (t 137) (t 138)), q 10 (.asg 0 (t 139) 4)] false) (.seq (.region 29 [q 140 (.mov (t 0)), q 141 (.mov (t 16)), q 142 (.bin .add 3 (t 141) (.const (.int .i64 1))), q 143 (.mov (t 2)), q 144 (.mov (t 3)), q 145 (.mov (t 4)), q 146 (.call 1 (.func 184) [(t 140), (t 142), (t 143), (t 144), (t 145)])] false) (.region 30 [q 147 (.mov (t 16)), q 2 (.asg 0 (t 147) 3)] false))))))))))))))))))))))
def slices_pdqsortCmpFunc_impl_row_of_mut_impl_prime_reducedList_c1_L : Live := [(0, [0, 1, 2, 3, 4]), (1, [0, 1, 2, 3, 4, 10]), (2, [0, 1, 2, 3, 4, 10, 11]), (3, [0, 1, 2, 3, 4, 10, 11, 12]), (4, [0, 1, 2, 4]), (5, [0, 1, 2, 3, 4, 10, 11, 12]), (6, [0, 1, 2, 4]), (7, [0, 1, 2, 3, 4, 10, 11, 12]), (8, [0, 1, 2, 3, 4, 10, 11, 12]), (9, [0, 1, 2, 3, 4, 10, 11, 12]), (10, [0, 1, 2, 3, 4, 10, 11, 12]), (11, [0, 1, 2, 3, 4, 10, 11, 12, 13, 14]), (12, [0, 1, 2, 3, 4, 10, 11, 12, 13]), (13, [0, 1, 2, 3, 4, 10, 11, 12, 13]), (14, [0, 1, 2, 3, 4, 10, 11, 12, 13]), (15, [0, 1, 2, 3, 4, 10, 11, 12, 13, 14]), (16, [0, 1, 2, 3, 4, 10, 11, 12, 13]), (17, [0, 1, 2, 3, 4, 10, 11, 12, 13]), (18, [0, 1, 2, 3, 4, 10, 11, 13]), (19, [0, 2, 3, 4, 10, 11, 15]), (20, [0, 1, 2, 3, 4, 12, 13]), (21, [0, 1, 2, 3, 4, 12, 16, 17]), (22, [0, 1, 2, 3, 4, 11, 12, 16]), (23, [0, 1, 2, 3, 4, 11, 12, 16, 18, 19]), (24, [0, 1, 2, 3, 4, 11, 16, 18, 19, 20]), (25, [0, 1, 2, 3, 4, 11, 16, 18, 20]), (26, [0, 1, 2, 3, 4, 10, 11, 16]), (27, [0, 2, 3, 4, 10, 11, 16]), (28, [0, 1, 2, 3, 4, 11, 16, 19, 20]), (29, [0, 1, 2, 3, 4, 10, 11, 16]), (30, [0, 1, 3, 4, 10, 11, 16]), (100025, [0, 1, 2, 3, 4, 10, 11, 12, 25]), (100032, [0, 1, 2, 3, 4, 10, 11, 12, 32]), (100039, [0, 1, 2, 3, 4, 10, 11, 12, 39]), (100056, [0, 1, 2, 3, 4, 10, 11, 12, 13, 14, 56]), (100075, [0, 1, 2, 3, 4, 10, 11, 12, 13, 75]), (100080, [0, 1, 2, 3, 4, 10, 11, 12, 13, 80]), (100097, [0, 1, 2, 3, 4, 10, 11, 12, 13, 97]), (100125, [0, 1, 2, 3, 4, 11, 16, 18, 19, 20, 125])]
noncomputable def slices_pdqsortCmpFunc_impl_row_of_mut_impl_prime_reducedList_c1_l1 (a2 : Int) (a1 : Int) (a0 : (List (List Int))) (_u : Unit) : Option (Unit ⊕ (List (List Int))) :=
  (if (decide ((IntKind.i64.wrap (a2 - a1)) ≤ 12)) then (Option.bind (slices_insertionSortCmpFunc_impl_row_of_mut_impl_prime_reducedList_c1 a0 a1 a2) fun r9 => (ifp (r9.length = a0.length) ((some (.inr r9))))) else none)
noncomputable def slices_pdqsortCmpFunc_impl_row_of_mut_impl_prime_reducedList_c1 (a0 : (List (List Int))) (a1 : Int) (a2 : Int) (a3 : Int) : Option (List (List Int)) :=
  (loopM (fun s : Unit => slices_pdqsortCmpFunc_impl_row_of_mut_impl_prime_reducedList_c1_l1 a2 a1 a0 ()) ())
theorem slices_pdqsortCmpFunc_impl_row_of_mut_impl_prime_reducedList_c1_ok (a0 : (List (List Int))) (a1 : Int) (a2 : Int) (a3 : Int) (r : (List (List Int))) (h : slices_pdqsortCmpFunc_impl_row_of_mut_impl_prime_reducedList_c1 a0 a1 a2 a3 = some r) : Den Try.prog 184 [(.mutsl 1 (a0.map eSi64)), (i6 a1), (i6 a2), (i6 a3), (.clo 153 [] [])] { r := (.tuple []), ms := [(.row 1 (r.map eSi64))], fs := [] } := by
  refine den_ofX (rs := []) (ac := slices_pdqsortCmpFunc_impl_row_of_mut_impl_prime_reducedList_c1_c) (L := slices_pdqsortCmpFunc_impl_row_of_mut_impl_prime_reducedList_c1_L) (n := 148) (m := [(30, 1), (37, 1), (44, 1), (61, 1), (80, 1), (103, 1), (111, 1), (134, 1), (146, 1)]) (c := Try.f184.body.getD .skip) good Try.func184 (by kernel_rfl) (by kernel_rfl) Try.ntmps184 rfl rfl (by kernel_rfl) rfl ?_
  refine a_st (σ' := ⟨[(0, (.osl 1000000)), (1, (i6 a1)), (2, (i6 a2)), (3, (i6 a3)), (4, (.clo 153 [] []))], [(1000000, (bk (.row 1 (a0.map eSi64))))]⟩) (by kernel_rfl) ?_
  unfold slices_pdqsortCmpFunc_impl_row_of_mut_impl_prime_reducedList_c1_c
  refine sr (vp (.bool true) rfl (nx ⟨[(0, (.osl 1000000)), (1, (i6 a1)), (2, (i6 a2)), (3, (i6 a3)), (4, (.clo 153 [] [])), (10, (.bool true))], [(1000000, (bk (.row 1 (a0.map eSi64))))]⟩ (by kernel_rfl) (sr (vp (.bool true) rfl (nx ⟨[(0, (.osl 1000000)), (1, (i6 a1)), (2, (i6 a2)), (3, (i6 a3)), (4, (.clo 153 [] [])), (10, (.bool true)), (11, (.bool true))], [(1000000, (bk (.row 1 (a0.map eSi64))))]⟩ (by kernel_rfl) (a_block ?_))))))
  refine a_loop (emb := fun (s : Unit) => ⟨[(0, (.osl 1000000)), (1, (i6 a1)), (2, (i6 a2)), (3, (i6 a3)), (4, (.clo 153 [] [])), (10, (.bool true)), (11, (.bool true))], [(1000000, (bk (.row 1 (a0.map eSi64))))]⟩) (body := (fun s : Unit => slices_pdqsortCmpFunc_impl_row_of_mut_impl_prime_reducedList_c1_l1 a2 a1 a0 ())) (G := fun q => some q = some r) h rfl ?_ (by kernel_rfl)
  rintro X5 _ x6 h hX7
  have h : slices_pdqsortCmpFunc_impl_row_of_mut_impl_prime_reducedList_c1_l1 a2 a1 a0 () = some x6 := h
  refine a_st (σ' := ⟨[(0, (.osl 1000000)), (1, (i6 a1)), (2, (i6 a2)), (3, (i6 a3)), (4, (.clo 153 [] [])), (10, (.bool true)), (11, (.bool true))], [(1000000, (bk (.row 1 (a0.map eSi64))))]⟩) (by kernel_rfl) (a_block (sr (vp (i6 a2) rfl (vp (i6 a1) rfl (vp (i6 (IntKind.i64.wrap (a2 - a1))) rfl (vp (i6 (IntKind.i64.wrap (a2 - a1))) rfl (nx ⟨[(0, (.osl 1000000)), (1, (i6 a1)), (2, (i6 a2)), (3, (i6 a3)), (4, (.clo 153 [] [])), (10, (.bool true)), (11, (.bool true)), (12, (i6 (IntKind.i64.wrap (a2 - a1))))], [(1000000, (bk (.row 1 (a0.map eSi64))))]⟩ (by kernel_rfl) (a_seq (sr ?_)))))))))
  refine vp (i6 (IntKind.i64.wrap (a2 - a1))) rfl (vp (.bool ((decide ((IntKind.i64.wrap (a2 - a1)) ≤ 12)))) rfl (nx ⟨[(0, (.osl 1000000)), (1, (i6 a1)), (2, (i6 a2)), (3, (i6 a3)), (4, (.clo 153 [] [])), (10, (.bool true)), (11, (.bool true)), (12, (i6 (IntKind.i64.wrap (a2 - a1)))), (25, (.bool ((decide ((IntKind.i64.wrap (a2 - a1)) ≤ 12)))))], [(1000000, (bk (.row 1 (a0.map eSi64))))]⟩ (by kernel_rfl) ?_))
  cases hb8 : (decide ((IntKind.i64.wrap (a2 - a1)) ≤ 12))
  · have h := ite_f hb8 h
    cases h
  · have h := ite_t hb8 h
    refine a_cond_t rfl (sr (vp (.osl 1000000) rfl (vp (i6 a1) rfl (vp (i6 a2) rfl (vp (.clo 153 [] []) rfl ?_)))))
    obtain ⟨r9, hr10, h⟩ := bind_some h
    obtain ⟨hl11, h⟩ := ifp_some h
    refine a_callM (args := [(.mutsl 1 (a0.map eSi64)), (i6 a1), (i6 a2), (.clo 153 [] [])]) (i := 0) (id := 1000000) (r := (.tuple [])) (c := (.row 1 (r9.map eSi64))) rfl rfl (slices_insertionSortCmpFunc_impl_row_of_mut_impl_prime_reducedList_c1_ok a0 a1 a2 r9 hr10) rfl (shape_map hl11) (nx _ rfl (a_ret (t_ret (b_ret ?_))))
    cases h
    have h := hX7
    refine t_ret (b_ret ?_)
    refine ⟨.inr rfl, ?_⟩
    rw [Try.results184]
    cases h
    exact ⟨[], ⟨rfl, rfl, rfl⟩, rfl, ⟨_, _, rfl, rfl, rfl⟩⟩
def slices_SortFunc_impl_row_impl_row_of_mut_impl_prime_reducedList_c1_c : ACode := (.seq (.region 0 [q 5 (.mov (t 0)), q 6 (.blt 0 .len [(t 5)] [82]), q 4 (.asg 0 (t 6) 3)] false) (.region 1 [q 7 (.mov (t 0)), q 8 (.mov (t 4)), q 9 (.mov (t 4)), q 10 (.conv 3 161 (t 9)), q 11 (.call 0 (.func 185) [(t 10)]), q 12 (.mov (t 1)), q 13 (.call 1 (.func 184) [(t 7), (.const (.int .i64 0)), (t 8), (t 11), (t 12)])] false))
def slices_SortFunc_impl_row_impl_row_of_mut_impl_prime_reducedList_c1_L : Live := [(0, [0, 1]), (1, [0, 1, 4])]
noncomputable def slices_SortFunc_impl_row_impl_row_of_mut_impl_prime_reducedList_c1 (a0 : (List (List Int))) : Option (List (List Int)) :=
  (Option.bind (math_bits_Len (IntKind.u64.wrap (a0.length : Int))) fun r1 => (Option.bind (slices_pdqsortCmpFunc_impl_row_of_mut_impl_prime_reducedList_c1 a0 0 (a0.length : Int) r1) fun r3 => (ifp (r3.length = a0.length) (some r3))))
theorem slices_SortFunc_impl_row_impl_row_of_mut_impl_prime_reducedList_c1_ok (a0 : (List (List Int))) (r : (List (List Int))) (h : slices_SortFunc_impl_row_impl_row_of_mut_impl_prime_reducedList_c1 a0 = some r) : Den Try.prog 152 [(.mutsl 1 (a0.map eSi64)), (.clo 153 [] [])] { r := (.tuple []), ms := [(.row 1 (r.map eSi64))], fs := [] } := by
  refine den_ofX (rs := []) (ac := slices_SortFunc_impl_row_impl_row_of_mut_impl_prime_reducedList_c1_c) (L := slices_SortFunc_impl_row_impl_row_of_mut_impl_prime_reducedList_c1_L) (n := 14) (m := [(13, 1)]) (c := Try.f152.body.getD .skip) good Try.func152 (by kernel_rfl) (by kernel_rfl) Try.ntmps152 rfl rfl (by kernel_rfl) rfl ?_
  refine a_st (σ' := ⟨[(0, (.osl 1000000)), (1, (.clo 153 [] []))], [(1000000, (bk (.row 1 (a0.map eSi64))))]⟩) (by kernel_rfl) ?_
  unfold slices_SortFunc_impl_row_impl_row_of_mut_impl_prime_reducedList_c1_c
  refine sr (vp (.osl 1000000) rfl (vq (i6 (a0.length : Int)) (leno_run rfl rfl rfl) trivial (vp (i6 (a0.length : Int)) rfl (nx ⟨[(0, (.osl 1000000)), (1, (.clo 153 [] [])), (4, (i6 (a0.length : Int)))], [(1000000, (bk (.row 1 (a0.map eSi64))))]⟩ (by kernel_rfl) (a_region (vp (.osl 1000000) rfl (vp (i6 (a0.length : Int)) rfl (vp (i6 (a0.length : Int)) rfl (vp (.int .u64 (IntKind.u64.wrap (a0.length : Int))) rfl ?_)))))))))
  obtain ⟨r1, hr2, h⟩ := bind_some h
  refine a_call (args := [(.int .u64 (IntKind.u64.wrap (a0.length : Int)))]) (u := []) (r := (i6 r1)) rfl rfl (math_bits_Len_ok (IntKind.u64.wrap (a0.length : Int)) r1 hr2) rfl (vp (.clo 153 [] []) rfl ?_)
  obtain ⟨r3, hr4, h⟩ := bind_some h
  obtain ⟨hl5, h⟩ := ifp_some h
  refine a_callM (args := [(.mutsl 1 (a0.map eSi64)), (i6 0), (i6 (a0.length : Int)), (i6 r1), (.clo 153 [] [])]) (i := 0) (id := 1000000) (r := (.tuple [])) (c := (.row 1 (r3.map eSi64))) rfl rfl (slices_pdqsortCmpFunc_impl_row_of_mut_impl_prime_reducedList_c1_ok a0 0 (a0.length : Int) r1 r3 hr4) rfl (shape_map hl5) (a_nil ?_)
  refine ⟨.inl rfl, ?_⟩
  rw [Try.results152]
  cases h
  exact ⟨[], ⟨rfl, rfl, rfl⟩, rfl, ⟨_, _, rfl, rfl, rfl⟩⟩
end Go.Proofs.Ytdhcpekngpndnaa
