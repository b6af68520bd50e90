/- Functions of the program: plain Lean functions, and that the program computes them. Printed by gen.py. -/
import Derived.Test.YtdhcpekngpndnaaFnT
import Derived.Test.YtdhcpekngpndnaaFn2
namespace Go.Proofs.Ytdhcpekngpndnaa
open Go.Abs Go.Proofs
set_option linter.unusedSimpArgs false
set_option linter.unusedVariables false
set_option maxHeartbeats 16000000
attribute [local irreducible] Abs.acode Abs.aops Abs.aopsT Abs.thenK Abs.blockK

def impl_prime_combine_c : ACode := (.seq (.region 0 [q 8 (.asg 1 (.const (.slice none 0 0)) 66)] false) (.seq (.region 1 [q 11 (.mov (t 1)), q 12 (.blt 0 .len [(t 11)] [66]), q 13 (.mov (t 2)), q 14 (.blt 0 .len [(t 13)] [66]), q 15 (.blt 0 .max [(t 12), (t 14)] [3, 3]), q 16 (.mkslice 66 (t 15) (t 15)), q 9 (.asg 2 (t 16) 66)] false) (.seq (.seq (.region 2 [q 17 (.mov (t 9)), q 18 (.blt 0 .len [(t 17)] [66]), q 19 (.mov (.const (.int .i64 0)))] false) (.block 0 (.loop (.seq (.region 3 [q 20 (.bin .lss 3 (t 19) (t 18))] false) (.seq (.cond (t 20) .skip (.exit 0)) (.seq (.block 1 (.seq (.region 4 [q 21 (.mov (t 19)), q 10 (.asg 0 (t 21) 3)] false) (.region 5 [q 22 (.mov (t 9)), q 23 (.mov (t 10)), q 24 (.mov (t 0)), q 25 (.mov (t 1)), q 26 (.mov (t 10)), q 27 (.call 0 (.func 149) [(t 25), (t 26)]), q 28 (.mov (t 3)), q 29 (.mov (t 2)), q 30 (.mov (t 10)), q 31 (.call 0 (.func 149) [(t 29), (t 30)]), q 32 (.bin .mul 2 (t 28) (t 31)), q 33 (.bin .add 2 (t 27) (t 32)), q 34 (.call 0 (.func 158) [(t 24), (t 33)]), q 35 (.indexAddr 66 (t 22) (t 23)), ⟨none, .store 2 (t 35) (t 34), none, []⟩] false))) (.region 6 [q 36 (.bin .add 3 (t 19) (.const (.int .i64 1))), q 19 (.mov (t 36))] false))))))) (.seq (.region 7 [q 37 (.mov (t 9)), q 38 (.call 0 (.func 142) [(t 37)]), q 8 (.asg 1 (t 38) 66)] false) .ret))))
def impl_prime_combine_L : Live := [(0, [0, 1, 2, 3]), (1, [0, 1, 2, 3]), (2, [0, 1, 2, 3, 9]), (3, [0, 1, 2, 3, 9, 18, 19]), (4, [0, 1, 2, 3, 9, 18, 19]), (5, [0, 1, 2, 3, 9, 10, 18, 19]), (6, [0, 1, 2, 3, 9, 18, 19]), (7, [9]), (100020, [0, 1, 2, 3, 9, 18, 19, 20])]
noncomputable def impl_prime_combine_l1 (x1 : Int) (a1 : (List Int)) (a2 : (List Int)) (a0 : Int) (a3 : Int) (x58 : Int) (x59 : (List Int)) : Option ((Int × (List Int)) ⊕ (List Int)) :=
  (letp ((decide (x58 < (((List.replicate x1.toNat (0 : Int)).length : Int))))) fun x74 => (if x74 then (Option.bind (impl_row_at a1 x58) fun r77 => (Option.bind (impl_row_at a2 x58) fun r79 => (Option.bind (impl_prime_reduce a0 (IntKind.i64.wrap (r77 + (IntKind.i64.wrap (a3 * r79))))) fun r81 => (ifp (0 ≤ x58 ∧ x58 < ((x59.length : Nat) : Int)) ((some (.inl ((IntKind.i64.wrap (x58 + 1), (x59.set x58.toNat r81)))))))))) else (some (.inr x59))))
noncomputable def impl_prime_combine (a0 : Int) (a1 : (List Int)) (a2 : (List Int)) (a3 : Int) : Option (List Int) :=
  (letp ((if (a2.length : Int) > (a1.length : Int) then (a2.length : Int) else (a1.length : Int))) fun x1 => (ifp (0 ≤ x1 ∧ x1 ≤ 140737488355328 ∧ 8 * x1 ≤ 140737488355328) ((Option.bind (α := (List Int)) ((loopM (fun s : (Int × (List Int)) => impl_prime_combine_l1 x1 a1 a2 a0 a3 s.1 s.2) (0, List.replicate x1.toNat (0 : Int)))) fun x43 => (Option.bind (impl_row_trimmed x43) fun r86 => (some r86))))))
theorem impl_prime_combine_ok (a0 : Int) (a1 : (List Int)) (a2 : (List Int)) (a3 : Int) (r : (List Int)) (h : impl_prime_combine a0 a1 a2 a3 = some r) : Den Try.prog 99 [(i6 a0), (eSi64 a1), (eSi64 a2), (i6 a3)] { r := (eSi64 r) } := by
  refine den_of (rs := [(eSi64 r)]) (ac := impl_prime_combine_c) (L := impl_prime_combine_L) (n := 39) (m := [(8, 1), (9, 2)]) (c := Try.f99.body.getD .skip) good Try.func99 (by kernel_rfl) (by kernel_rfl) Try.ntmps99 rfl rfl (by kernel_rfl) rfl rfl ?_
  refine a_st (σ' := ⟨[(0, (i6 a0)), (1, (eSi64 a1)), (2, (eSi64 a2)), (3, (i6 a3))], []⟩) (by kernel_rfl) ?_
  unfold impl_prime_combine_c
  refine sr (vp (eSi64 ([])) rfl (nx ⟨[(0, (i6 a0)), (1, (eSi64 a1)), (2, (eSi64 a2)), (3, (i6 a3))], []⟩ (by kernel_rfl) (sr (vp (eSi64 a1) rfl (vq (i6 (a1.length : Int)) (len_run rfl rfl) trivial (vp (eSi64 a2) rfl (vq (i6 (a2.length : Int)) (len_run rfl rfl) trivial ?_)))))))
  obtain ⟨x1, hx2, h⟩ := letp_some h
  refine a_val' (v := (i6 ((if (a2.length : Int) > (a1.length : Int) then (a2.length : Int) else (a1.length : Int))))) (v' := (i6 x1)) (u := []) (u' := []) rfl (congrArg (fun z => ((i6 z) : AV)) hx2) rfl trivial rfl ?_
  obtain ⟨hc3, h⟩ := ifp_some h
  refine vu (.osl 2600) [(2600, (bk (.row 1 ((List.replicate x1.toNat (0 : Int)).map (AV.int .i64)))))] (mk_run (i := ⟨.int .i64, 1, 8, (.int .i64 0)⟩) (f := (AV.int .i64)) (y := (0 : Int)) rfl rfl rfl rfl rfl rfl) ⟨rfl, hc3.1, hc3.2.1, hc3.2.2, (Nat.le_of_ble_eq_true rfl)⟩ rfl (vp (.osl 2600) rfl (nx ⟨[(0, (i6 a0)), (1, (eSi64 a1)), (2, (eSi64 a2)), (3, (i6 a3)), (9, (.osl 9))], [(9, (bk (.row 1 ((List.replicate x1.toNat (0 : Int)).map (AV.int .i64)))))]⟩ (by kernel_rfl) ?_))
  obtain ⟨y44, hy45, hk46⟩ := bind_some h
  clear h
  refine a_join (emb := fun (s : (List Int)) => ⟨[(9, (.osl 9))], [(9, (bk (.row 1 (s.map (AV.int .i64)))))]⟩) (pre := fun s => s = y44) ?_ ?_
  · rintro x43 rfl
    have h := hk46
    refine a_st (σ' := ⟨[(9, (.osl 9))], [(9, (bk (.row 1 (x43.map (AV.int .i64)))))]⟩) (by kernel_rfl) (sr (vp (.osl 9) rfl ?_))
    obtain ⟨r86, hr87, h⟩ := bind_some h
    refine a_call (args := [(eSi64 x43)]) (u := [(9, (bf (.row 1 (x43.map (AV.int .i64)))))]) (r := (eSi64 r86)) rfl rfl (impl_row_trimmed_ok x43 r86 hr87) rfl (vp (eSi64 r86) rfl (nx _ rfl (a_ret ?_)))
    refine ⟨.inr rfl, ?_⟩
    rw [Try.results99]
    cases h
    exact ⟨_, _, _, _, _, rfl, trivial, .inl ⟨rfl, .inl rfl⟩, rfl, rfl⟩
  · have h := hy45
    refine sr (vp (.osl 9) rfl (vq (i6 (((List.replicate x1.toNat (0 : Int)).length : Int))) (leno_run rfl rfl rfl) trivial (vp (i6 0) rfl (nx ⟨[(0, (i6 a0)), (1, (eSi64 a1)), (2, (eSi64 a2)), (3, (i6 a3)), (9, (.osl 9)), (18, (i6 (((List.replicate x1.toNat (0 : Int)).length : Int)))), (19, (i6 0))], [(9, (bk (.row 1 ((List.replicate x1.toNat (0 : Int)).map (AV.int .i64)))))]⟩ (by kernel_rfl) (a_block ?_)))))
    refine a_loop (emb := fun (s : (Int × (List Int))) => ⟨[(0, (i6 a0)), (1, (eSi64 a1)), (2, (eSi64 a2)), (3, (i6 a3)), (9, (.osl 9)), (18, (i6 (((List.replicate x1.toNat (0 : Int)).length : Int)))), (19, (i6 s.1))], [(9, (bk (.row 1 (s.2.map (AV.int .i64)))))]⟩) (body := (fun s : (Int × (List Int)) => impl_prime_combine_l1 x1 a1 a2 a0 a3 s.1 s.2)) (G := fun q => some q = some y44) h rfl ?_ (by kernel_rfl)
    rintro X71 ⟨x58, x59⟩ x72 h hX73
    have h : impl_prime_combine_l1 x1 a1 a2 a0 a3 x58 x59 = some x72 := h
    refine a_st (σ' := ⟨[(0, (i6 a0)), (1, (eSi64 a1)), (2, (eSi64 a2)), (3, (i6 a3)), (9, (.osl 9)), (18, (i6 (((List.replicate x1.toNat (0 : Int)).length : Int)))), (19, (i6 x58))], [(9, (bk (.row 1 (x59.map (AV.int .i64)))))]⟩) (by kernel_rfl) (sr ?_)
    obtain ⟨x74, hx75, h⟩ := letp_some h
    refine a_val' (v := (.bool ((decide (x58 < (((List.replicate x1.toNat (0 : Int)).length : Int))))))) (v' := (.bool x74)) (u := []) (u' := []) rfl (congrArg (fun z => ((.bool z) : AV)) hx75) rfl trivial rfl (nx ⟨[(0, (i6 a0)), (1, (eSi64 a1)), (2, (eSi64 a2)), (3, (i6 a3)), (9, (.osl 9)), (18, (i6 (((List.replicate x1.toNat (0 : Int)).length : Int)))), (19, (i6 x58)), (20, (.bool x74))], [(9, (bk (.row 1 (x59.map (AV.int .i64)))))]⟩ (by kernel_rfl) (a_seq ?_))
    cases hb76 : x74
    · have h := ite_f hb76 h
      refine a_cond_f rfl (a_exit (t_exit ?_))
      cases h
      have h := hX73
      refine t_exit (b_exit ?_)
      exact j_leaf x59 (Option.some.inj h) (by kernel_rfl)
    · have h := ite_t hb76 h
      refine a_cond_t rfl (a_skip (a_next (σ' := ⟨[(0, (i6 a0)), (1, (eSi64 a1)), (2, (eSi64 a2)), (3, (i6 a3)), (9, (.osl 9)), (18, (i6 (((List.replicate x1.toNat (0 : Int)).length : Int)))), (19, (i6 x58))], [(9, (bk (.row 1 (x59.map (AV.int .i64)))))]⟩) (by kernel_rfl) (a_seq (a_block (sr (vp (i6 x58) rfl (vp (i6 x58) rfl (nx ⟨[(0, (i6 a0)), (1, (eSi64 a1)), (2, (eSi64 a2)), (3, (i6 a3)), (9, (.osl 9)), (10, (i6 x58)), (18, (i6 (((List.replicate x1.toNat (0 : Int)).length : Int)))), (19, (i6 x58))], [(9, (bk (.row 1 (x59.map (AV.int .i64)))))]⟩ (by kernel_rfl) (a_region ?_)))))))))
      refine vp (.osl 9) rfl (vp (i6 x58) rfl (vp (i6 a0) rfl (vp (eSi64 a1) rfl (vp (i6 x58) rfl ?_))))
      obtain ⟨r77, hr78, h⟩ := bind_some h
      refine a_call (args := [(eSi64 a1), (i6 x58)]) (u := []) (r := (i6 r77)) rfl rfl (impl_row_at_ok a1 x58 r77 hr78) rfl (vp (i6 a3) rfl (vp (eSi64 a2) rfl (vp (i6 x58) rfl ?_)))
      obtain ⟨r79, hr80, h⟩ := bind_some h
      refine a_call (args := [(eSi64 a2), (i6 x58)]) (u := []) (r := (i6 r79)) rfl rfl (impl_row_at_ok a2 x58 r79 hr80) rfl (vp (i6 (IntKind.i64.wrap (a3 * r79))) rfl (vp (i6 (IntKind.i64.wrap (r77 + (IntKind.i64.wrap (a3 * r79))))) rfl ?_))
      obtain ⟨r81, hr82, h⟩ := bind_some h
      refine a_call (args := [(i6 a0), (i6 (IntKind.i64.wrap (r77 + (IntKind.i64.wrap (a3 * r79)))))]) (u := []) (r := (i6 r81)) rfl rfl (impl_prime_reduce_ok a0 (IntKind.i64.wrap (r77 + (IntKind.i64.wrap (a3 * r79)))) r81 hr82) rfl ?_
      obtain ⟨hc83, h⟩ := ifp_some h
      refine vq (.own 9 [x58.toNat] [x58.toNat * 1]) rfl (lmap hc83) ?_
      have hs84 : StOk [x58.toNat] (.row 1 (x59.map (AV.int .i64))) [x58.toNat * 1] 1 (i6 r81) (.row 1 ((x59.set x58.toNat r81).map (AV.int .i64))) := (.row (y := r81) (llt hc83) rfl (.nil rfl rfl rfl rfl))
      refine vu .top [(9, (bk (.row 1 ((x59.set x58.toNat r81).map (AV.int .i64)))))] (st_own (i := ⟨.int .i64, 1, 8, (.int .i64 0)⟩) rfl rfl (fun _ => rfl) rfl hs84) (hs84.c rfl) rfl (a_nil (b_norm (a_next (σ' := ⟨[(0, (i6 a0)), (1, (eSi64 a1)), (2, (eSi64 a2)), (3, (i6 a3)), (9, (.osl 9)), (18, (i6 (((List.replicate x1.toNat (0 : Int)).length : Int)))), (19, (i6 x58))], [(9, (bk (.row 1 ((x59.set x58.toNat r81).map (AV.int .i64)))))]⟩) (by kernel_rfl) (a_region (vp (i6 (IntKind.i64.wrap (x58 + 1))) rfl (vp (i6 (IntKind.i64.wrap (x58 + 1))) rfl (a_nil ?_)))))))
      cases h
      exact a_again (by kernel_rfl) hX73
def impl_row_degree_c : ACode := (.seq (.region 0 [q 2 (.asg 0 (.const (.int .i64 0)) 2)] false) (.seq (.region 1 [q 3 (.mov (t 0)), q 4 (.blt 0 .len [(t 3)] [66]), q 5 (.bin .sub 2 (t 4) (.const (.int .i64 1))), q 2 (.asg 0 (t 5) 2)] false) .ret))
def impl_row_degree_L : Live := [(0, [0]), (1, [0])]
noncomputable def impl_row_degree (a0 : (List Int)) : Option Int :=
  (some (IntKind.i64.wrap ((a0.length : Int) - 1)))
theorem impl_row_degree_ok (a0 : (List Int)) (r : Int) (h : impl_row_degree a0 = some r) : Den Try.prog 69 [(eSi64 a0)] { r := (i6 r) } := by
  refine den_of (rs := [(i6 r)]) (ac := impl_row_degree_c) (L := impl_row_degree_L) (n := 6) (m := []) (c := Try.f69.body.getD .skip) good Try.func69 (by kernel_rfl) (by kernel_rfl) Try.ntmps69 rfl rfl (by kernel_rfl) rfl rfl ?_
  refine a_st (σ' := ⟨[(0, (eSi64 a0))], []⟩) (by kernel_rfl) ?_
  unfold impl_row_degree_c
  refine sr (vp (i6 0) rfl (nx ⟨[(0, (eSi64 a0))], []⟩ (by kernel_rfl) (sr (vp (eSi64 a0) rfl (vq (i6 (a0.length : Int)) (len_run rfl rfl) trivial (vp (i6 (IntKind.i64.wrap ((a0.length : Int) - 1))) rfl (vp (i6 (IntKind.i64.wrap ((a0.length : Int) - 1))) rfl (nx _ rfl (a_ret ?_)))))))))
  refine ⟨.inr rfl, ?_⟩
  rw [Try.results69]
  cases h
  exact ⟨_, _, _, _, _, rfl, trivial, .inl ⟨rfl, .inl rfl⟩, rfl, rfl⟩
def impl_row_fits_c : ACode := (.seq (.region 0 [q 2 (.asg 0 (.const (.bool false)) 4)] false) (.seq (.region 1 [q 3 (.mov (t 0)), q 4 (.call 0 (.func 69) [(t 3)]), q 5 (.bin .leq 2 (t 4) (.const (.int .i64 63))), q 2 (.asg 0 (t 5) 4)] false) .ret))
def impl_row_fits_L : Live := [(0, [0]), (1, [0])]
noncomputable def impl_row_fits (a0 : (List Int)) : Option Bool :=
  (Option.bind (impl_row_degree a0) fun r1 => (some ((decide (r1 ≤ 63)))))
theorem impl_row_fits_ok (a0 : (List Int)) (r : Bool) (h : impl_row_fits a0 = some r) : Den Try.prog 140 [(eSi64 a0)] { r := (.bool r) } := by
  refine den_of (rs := [(.bool r)]) (ac := impl_row_fits_c) (L := impl_row_fits_L) (n := 6) (m := []) (c := Try.f140.body.getD .skip) good Try.func140 (by kernel_rfl) (by kernel_rfl) Try.ntmps140 rfl rfl (by kernel_rfl) rfl rfl ?_
  refine a_st (σ' := ⟨[(0, (eSi64 a0))], []⟩) (by kernel_rfl) ?_
  unfold impl_row_fits_c
  refine sr (vp (.bool false) rfl (nx ⟨[(0, (eSi64 a0))], []⟩ (by kernel_rfl) (sr (vp (eSi64 a0) rfl ?_))))
  obtain ⟨r1, hr2, h⟩ := bind_some h
  refine a_call (args := [(eSi64 a0)]) (u := []) (r := (i6 r1)) rfl rfl (impl_row_degree_ok a0 r1 hr2) rfl (vp (.bool ((decide (r1 ≤ 63)))) rfl (vp (.bool ((decide (r1 ≤ 63)))) rfl (nx _ rfl (a_ret ?_))))
  refine ⟨.inr rfl, ?_⟩
  rw [Try.results140]
  cases h
  exact ⟨_, _, _, _, _, rfl, trivial, .inl ⟨rfl, .inl rfl⟩, rfl, rfl⟩
def impl_prime_convergents_c : ACode := (.seq (.region 0 [q 4 (.asg 1 (.const (.slice none 0 0)) 82), q 5 (.asg 1 (.const (.slice none 0 0)) 82)] false) (.seq (.region 1 [q 14 (.bslice 0 66 1 [(0, (.const (.int .i64 1)))]), q 6 (.asg 1 (t 14) 66), q 7 (.asg 1 (.const (.slice none 0 0)) 66)] false) (.seq (.region 2 [q 15 (.bslice 0 66 1 [(0, (.const (.int .i64 1)))]), q 8 (.asg 1 (.const (.slice none 0 0)) 66), q 9 (.asg 1 (t 15) 66)] false) (.seq (.region 3 [q 10 (.asg 2 (.const (.slice none 0 0)) 82), q 11 (.asg 2 (.const (.slice none 0 0)) 82)] false) (.seq (.seq (.region 4 [q 16 (.mov (t 1)), q 17 (.blt 0 .len [(t 16)] [82]), q 18 (.mov (.const (.int .i64 0)))] false) (.block 0 (.loop (.seq (.region 5 [q 19 (.bin .lss 3 (t 18) (t 17))] false) (.seq (.cond (t 19) .skip (.exit 0)) (.seq (.block 1 (.seq (.region 6 [q 20 (.indexAddr 82 (t 16) (t 18)), q 21 (.load 66 (t 20)), q 13 (.asg 1 (t 21) 66)] false) (.seq (.region 7 [q 22 (.mov (t 0)), q 23 (.mov (t 0)), q 24 (.mov (t 13)), q 25 (.mov (t 6)), q 26 (.call 0 (.func 101) [(t 23), (t 24), (t 25)]), q 27 (.mov (t 8)), q 28 (.call 0 (.func 99) [(t 22), (t 26), (t 27), (.const (.int .i64 1))]), q 29 (.mov (t 6)), q 6 (.asg 1 (t 28) 66), q 8 (.asg 1 (t 29) 66)] false) (.seq (.region 8 [q 30 (.mov (t 0)), q 31 (.mov (t 0)), q 32 (.mov (t 13)), q 33 (.mov (t 7)), q 34 (.call 0 (.func 101) [(t 31), (t 32), (t 33)]), q 35 (.mov (t 9)), q 36 (.call 0 (.func 99) [(t 30), (t 34), (t 35), (.const (.int .i64 1))]), q 37 (.mov (t 7)), q 7 (.asg 1 (t 36) 66), q 9 (.asg 1 (t 37) 66)] false) (.seq (.seq (.region 9 [q 38 (.mov (t 6)), q 39 (.call 0 (.func 140) [(t 38)]), q 40 (.un .not (t 39)), q 41 (.mov (t 40)), ⟨some 42, .mov (t 7), some (41, false), []⟩, ⟨some 43, .call 0 (.func 140) [(t 42)], some (41, false), []⟩, ⟨some 44, .un .not (t 43), some (41, false), []⟩, q 45 (.pick (t 41) (.const (.bool true)) (t 44))] false) (.cond (t 45) (.exit 0) .skip)) (.region 10 [q 46 (.mov (t 10)), q 47 (.mov (t 6)), q 48 (.bslice 0 82 1 [(0, (t 47))]), q 49 (.blt 0 .append [(t 46), (t 48)] [82, 82]), q 50 (.mov (t 11)), q 51 (.mov (t 7)), q 52 (.bslice 0 82 1 [(0, (t 51))]), q 53 (.blt 0 .append [(t 50), (t 52)] [82, 82]), q 10 (.asg 2 (t 49) 82), q 11 (.asg 2 (t 53) 82)] false)))))) (.region 11 [q 54 (.bin .add 3 (t 18) (.const (.int .i64 1))), q 18 (.mov (t 54))] false))))))) (.seq (.region 12 [q 55 (.mov (t 10)), q 56 (.mov (t 11)), q 4 (.asg 1 (t 55) 82), q 5 (.asg 1 (t 56) 82)] false) .ret))))))
def impl_prime_convergents_L : Live := [(0, [0, 1]), (1, [0, 1]), (2, [0, 1, 6, 7]), (3, [0, 1, 6, 7, 8, 9]), (4, [0, 1, 6, 7, 8, 9, 10, 11]), (5, [0, 6, 7, 8, 9, 10, 11, 16, 17, 18]), (6, [0, 6, 7, 8, 9, 10, 11, 16, 17, 18]), (7, [0, 6, 7, 8, 9, 10, 11, 13, 16, 17, 18]), (8, [0, 6, 7, 8, 9, 10, 11, 13, 16, 17, 18]), (9, [0, 6, 7, 8, 9, 10, 11, 16, 17, 18]), (10, [0, 6, 7, 8, 9, 10, 11, 16, 17, 18]), (11, [0, 6, 7, 8, 9, 10, 11, 16, 17, 18]), (12, [10, 11]), (100019, [0, 6, 7, 8, 9, 10, 11, 16, 17, 18, 19]), (100045, [0, 6, 7, 8, 9, 10, 11, 16, 17, 18, 45])]
noncomputable def impl_prime_convergents_l1 (a1 : (List (List Int))) (a0 : Int) (x129 : (List Int)) (x130 : (List Int)) (x131 : (List Int)) (x132 : (List Int)) (x133 : Int) (x134 : (List (List Int))) (x135 : (List (List Int))) : Option (((List Int) × (List Int) × (List Int) × (List Int) × Int × (List (List Int)) × (List (List Int))) ⊕ ((List (List Int)) × (List (List Int)))) :=
  (if (decide (x133 < (a1.length : Int))) then (ifp (0 ≤ x133 ∧ x133 < ((a1.length : Nat) : Int)) ((Option.bind (impl_prime_times a0 (rd a1 x133.toNat) x129) fun r170 => (Option.bind (impl_prime_combine a0 r170 x131 1) fun r172 => (Option.bind (impl_prime_times a0 (rd a1 x133.toNat) x130) fun r174 => (Option.bind (impl_prime_combine a0 r174 x132 1) fun r176 => (Option.bind (α := Bool) ((Option.bind (impl_row_fits r172) fun r187 => (if (!r187) then (some true) else (Option.bind (impl_row_fits r176) fun r190 => (some (!r190)))))) fun x183 => (if x183 then (some (.inr (x134, x135))) else (ifp ((x134.length + ([r172] : List (List Int)).length) * 24 ≤ 140737488355328) ((ifp ((x135.length + ([r176] : List (List Int)).length) * 24 ≤ 140737488355328) ((some (.inl ((r172, r176, x129, x130, IntKind.i64.wrap (x133 + 1), (x134 ++ ([r172])), (x135 ++ ([r176])))))))))))))))))) else (some (.inr (x134, x135))))
noncomputable def impl_prime_convergents (a0 : Int) (a1 : (List (List Int))) : Option ((List (List Int)) × (List (List Int))) :=
  (Option.bind (α := ((List (List Int)) × (List (List Int)))) ((loopM (fun s : ((List Int) × (List Int) × (List Int) × (List Int) × Int × (List (List Int)) × (List (List Int))) => impl_prime_convergents_l1 a1 a0 s.1 s.2.1 s.2.2.1 s.2.2.2.1 s.2.2.2.2.1 s.2.2.2.2.2.1 s.2.2.2.2.2.2) ([1], [], [], [1], 0, [], []))) fun ⟨x96, x97⟩ => (some (x96, x97)))
theorem impl_prime_convergents_ok (a0 : Int) (a1 : (List (List Int))) (r : ((List (List Int)) × (List (List Int)))) (h : impl_prime_convergents a0 a1 = some r) : Den Try.prog 62 [(i6 a0), (eSSi64 a1)] { r := (.tuple [(eSSi64 r.1), (eSSi64 r.2)]) } := by
  refine den_of (rs := [(eSSi64 r.1), (eSSi64 r.2)]) (ac := impl_prime_convergents_c) (L := impl_prime_convergents_L) (n := 57) (m := [(4, 1), (5, 1), (6, 1), (7, 1), (8, 1), (9, 1), (10, 2), (11, 2), (13, 1)]) (c := Try.f62.body.getD .skip) good Try.func62 (by kernel_rfl) (by kernel_rfl) Try.ntmps62 rfl rfl (by kernel_rfl) rfl rfl ?_
  refine a_st (σ' := ⟨[(0, (i6 a0)), (1, (eSSi64 a1))], []⟩) (by kernel_rfl) ?_
  unfold impl_prime_convergents_c
  refine sr (vp (eSSi64 ([])) rfl (vp (eSSi64 ([])) rfl (nx ⟨[(0, (i6 a0)), (1, (eSSi64 a1))], []⟩ (by kernel_rfl) (sr (vq (.sl 1 true (([1]).map (AV.int .i64))) rfl ⟨(Nat.le_of_ble_eq_true rfl), (Nat.le_of_ble_eq_true rfl), (all_cons ⟨(Nat.le_of_ble_eq_true rfl), rfl⟩ all_nil)⟩ (vq (eSi64 ([1])) (asg_tight (i := ⟨.int .i64, 1, 8, (.int .i64 0)⟩) (f := (AV.int .i64)) (l := [1]) rfl rfl rfl) trivial (vp (eSi64 ([])) rfl (nx ⟨[(0, (i6 a0)), (1, (eSSi64 a1)), (6, (eSi64 ([1]))), (7, (eSi64 ([])))], []⟩ (by kernel_rfl) (sr ?_)))))))))
  refine vq (.sl 1 true (([1]).map (AV.int .i64))) rfl ⟨(Nat.le_of_ble_eq_true rfl), (Nat.le_of_ble_eq_true rfl), (all_cons ⟨(Nat.le_of_ble_eq_true rfl), rfl⟩ all_nil)⟩ (vp (eSi64 ([])) rfl (vq (eSi64 ([1])) (asg_tight (i := ⟨.int .i64, 1, 8, (.int .i64 0)⟩) (f := (AV.int .i64)) (l := [1]) rfl rfl rfl) trivial (nx ⟨[(0, (i6 a0)), (1, (eSSi64 a1)), (6, (eSi64 ([1]))), (7, (eSi64 ([]))), (8, (eSi64 ([]))), (9, (eSi64 ([1])))], []⟩ (by kernel_rfl) (sr (vu (.osl 2000) [(2000, (bk (.row 1 (([]).map eSi64))))] rfl trivial rfl (vu (.osl 2100) [(2100, (bk (.row 1 (([]).map eSi64))))] rfl trivial rfl (nx ⟨[(0, (i6 a0)), (1, (eSSi64 a1)), (6, (eSi64 ([1]))), (7, (eSi64 ([]))), (8, (eSi64 ([]))), (9, (eSi64 ([1]))), (10, (.osl 10)), (11, (.osl 11))], [(10, (bk (.row 1 (([]).map eSi64)))), (11, (bk (.row 1 (([]).map eSi64))))]⟩ (by kernel_rfl) ?_)))))))
  obtain ⟨y98, hy99, hk100⟩ := bind_some h
  clear h
  refine a_join (emb := fun (s : ((List (List Int)) × (List (List Int)))) => ⟨[(10, (.osl 10)), (11, (.osl 11))], [(10, (bk (.row 1 (s.1.map eSi64)))), (11, (bk (.row 1 (s.2.map eSi64))))]⟩) (pre := fun s => s = y98) ?_ ?_
  · rintro ⟨x96, x97⟩ rfl
    have h := hk100
    refine a_st (σ' := ⟨[(10, (.osl 10)), (11, (.osl 11))], [(10, (bk (.row 1 (x96.map eSi64)))), (11, (bk (.row 1 (x97.map eSi64))))]⟩) (by kernel_rfl) (sr (vp (.osl 10) rfl (vp (.osl 11) rfl (vu (eSSi64 x96) [(10, (bf (.row 1 (x96.map eSi64))))] rfl trivial rfl (vu (eSSi64 x97) [(11, (bf (.row 1 (x97.map eSi64))))] rfl trivial rfl (nx _ rfl (a_ret ?_)))))))
    refine ⟨.inr rfl, ?_⟩
    rw [Try.results62]
    cases h
    exact ⟨_, _, _, _, _, rfl, trivial, .inl ⟨rfl, .inl rfl⟩, rfl, ⟨_, _, _, _, _, rfl, trivial, .inl ⟨rfl, .inl rfl⟩, rfl, rfl⟩⟩
  · have h := hy99
    refine sr (vp (eSSi64 a1) rfl (vq (i6 (a1.length : Int)) (len_run rfl rfl) trivial (vp (i6 0) rfl (nx ⟨[(0, (i6 a0)), (6, (eSi64 ([1]))), (7, (eSi64 ([]))), (8, (eSi64 ([]))), (9, (eSi64 ([1]))), (10, (.osl 10)), (11, (.osl 11)), (16, (eSSi64 a1)), (17, (i6 (a1.length : Int))), (18, (i6 0))], [(10, (bk (.row 1 (([]).map eSi64)))), (11, (bk (.row 1 (([]).map eSi64))))]⟩ (by kernel_rfl) (a_block ?_)))))
    refine a_loop (emb := fun (s : ((List Int) × (List Int) × (List Int) × (List Int) × Int × (List (List Int)) × (List (List Int)))) => ⟨[(0, (i6 a0)), (6, (eSi64 s.1)), (7, (eSi64 s.2.1)), (8, (eSi64 s.2.2.1)), (9, (eSi64 s.2.2.2.1)), (10, (.osl 10)), (11, (.osl 11)), (16, (eSSi64 a1)), (17, (i6 (a1.length : Int))), (18, (i6 s.2.2.2.2.1))], [(10, (bk (.row 1 (s.2.2.2.2.2.1.map eSi64)))), (11, (bk (.row 1 (s.2.2.2.2.2.2.map eSi64))))]⟩) (body := (fun s : ((List Int) × (List Int) × (List Int) × (List Int) × Int × (List (List Int)) × (List (List Int))) => impl_prime_convergents_l1 a1 a0 s.1 s.2.1 s.2.2.1 s.2.2.2.1 s.2.2.2.2.1 s.2.2.2.2.2.1 s.2.2.2.2.2.2)) (G := fun q => some q = some y98) h rfl ?_ (by kernel_rfl)
    rintro X164 ⟨x129, x130, x131, x132, x133, x134, x135⟩ x165 h hX166
    have h : impl_prime_convergents_l1 a1 a0 x129 x130 x131 x132 x133 x134 x135 = some x165 := h
    refine a_st (σ' := ⟨[(0, (i6 a0)), (6, (eSi64 x129)), (7, (eSi64 x130)), (8, (eSi64 x131)), (9, (eSi64 x132)), (10, (.osl 10)), (11, (.osl 11)), (16, (eSSi64 a1)), (17, (i6 (a1.length : Int))), (18, (i6 x133))], [(10, (bk (.row 1 (x134.map eSi64)))), (11, (bk (.row 1 (x135.map eSi64))))]⟩) (by kernel_rfl) (sr (vp (.bool ((decide (x133 < (a1.length : Int))))) rfl (nx ⟨[(0, (i6 a0)), (6, (eSi64 x129)), (7, (eSi64 x130)), (8, (eSi64 x131)), (9, (eSi64 x132)), (10, (.osl 10)), (11, (.osl 11)), (16, (eSSi64 a1)), (17, (i6 (a1.length : Int))), (18, (i6 x133)), (19, (.bool ((decide (x133 < (a1.length : Int))))))], [(10, (bk (.row 1 (x134.map eSi64)))), (11, (bk (.row 1 (x135.map eSi64))))]⟩ (by kernel_rfl) (a_seq ?_))))
    cases hb167 : (decide (x133 < (a1.length : Int)))
    · have h := ite_f hb167 h
      refine a_cond_f rfl (a_exit (t_exit ?_))
      cases h
      have h := hX166
      refine t_exit (b_exit ?_)
      exact j_leaf (x134, x135) (Option.some.inj h) (by kernel_rfl)
    · have h := ite_t hb167 h
      refine a_cond_t rfl (a_skip (a_next (σ' := ⟨[(0, (i6 a0)), (6, (eSi64 x129)), (7, (eSi64 x130)), (8, (eSi64 x131)), (9, (eSi64 x132)), (10, (.osl 10)), (11, (.osl 11)), (16, (eSSi64 a1)), (17, (i6 (a1.length : Int))), (18, (i6 x133))], [(10, (bk (.row 1 (x134.map eSi64)))), (11, (bk (.row 1 (x135.map eSi64))))]⟩) (by kernel_rfl) (a_seq (a_block (sr ?_)))))
      obtain ⟨hc168, h⟩ := ifp_some h
      refine vq (.ref (.row 1 (a1.map eSi64)) [x133.toNat] [x133.toNat * 1]) rfl (lmap hc168) ?_
      have hl169 : LdOk [x133.toNat] (.row 1 (a1.map eSi64)) [x133.toNat * 1] 1 false (eSi64 (rd a1 x133.toNat)) := (.row (llt hc168) rfl (.nil rfl rfl rfl))
      refine vq (eSi64 (rd a1 x133.toNat)) (ld_ref (i := ⟨.slice 2, 1, 24, (eSi64 [])⟩) rfl rfl hl169) hl169.c (vp (eSi64 (rd a1 x133.toNat)) rfl (nx ⟨[(0, (i6 a0)), (6, (eSi64 x129)), (7, (eSi64 x130)), (8, (eSi64 x131)), (9, (eSi64 x132)), (10, (.osl 10)), (11, (.osl 11)), (13, (eSi64 (rd a1 x133.toNat))), (16, (eSSi64 a1)), (17, (i6 (a1.length : Int))), (18, (i6 x133))], [(10, (bk (.row 1 (x134.map eSi64)))), (11, (bk (.row 1 (x135.map eSi64))))]⟩ (by kernel_rfl) (sr (vp (i6 a0) rfl (vp (i6 a0) rfl (vp (eSi64 (rd a1 x133.toNat)) rfl (vp (eSi64 x129) rfl ?_)))))))
      obtain ⟨r170, hr171, h⟩ := bind_some h
      refine a_call (args := [(i6 a0), (eSi64 (rd a1 x133.toNat)), (eSi64 x129)]) (u := []) (r := (eSi64 r170)) rfl rfl (impl_prime_times_ok a0 (rd a1 x133.toNat) x129 r170 hr171) rfl (vp (eSi64 x131) rfl ?_)
      obtain ⟨r172, hr173, h⟩ := bind_some h
      refine a_call (args := [(i6 a0), (eSi64 r170), (eSi64 x131), (i6 1)]) (u := []) (r := (eSi64 r172)) rfl rfl (impl_prime_combine_ok a0 r170 x131 1 r172 hr173) rfl (vp (eSi64 x129) rfl (vp (eSi64 r172) rfl (vp (eSi64 x129) rfl (nx ⟨[(0, (i6 a0)), (6, (eSi64 r172)), (7, (eSi64 x130)), (8, (eSi64 x129)), (9, (eSi64 x132)), (10, (.osl 10)), (11, (.osl 11)), (13, (eSi64 (rd a1 x133.toNat))), (16, (eSSi64 a1)), (17, (i6 (a1.length : Int))), (18, (i6 x133))], [(10, (bk (.row 1 (x134.map eSi64)))), (11, (bk (.row 1 (x135.map eSi64))))]⟩ (by kernel_rfl) (sr (vp (i6 a0) rfl (vp (i6 a0) rfl (vp (eSi64 (rd a1 x133.toNat)) rfl (vp (eSi64 x130) rfl ?_)))))))))
      obtain ⟨r174, hr175, h⟩ := bind_some h
      refine a_call (args := [(i6 a0), (eSi64 (rd a1 x133.toNat)), (eSi64 x130)]) (u := []) (r := (eSi64 r174)) rfl rfl (impl_prime_times_ok a0 (rd a1 x133.toNat) x130 r174 hr175) rfl (vp (eSi64 x132) rfl ?_)
      obtain ⟨r176, hr177, h⟩ := bind_some h
      refine a_call (args := [(i6 a0), (eSi64 r174), (eSi64 x132), (i6 1)]) (u := []) (r := (eSi64 r176)) rfl rfl (impl_prime_combine_ok a0 r174 x132 1 r176 hr177) rfl (vp (eSi64 x130) rfl (vp (eSi64 r176) rfl (vp (eSi64 x130) rfl (nx ⟨[(0, (i6 a0)), (6, (eSi64 r172)), (7, (eSi64 r176)), (8, (eSi64 x129)), (9, (eSi64 x130)), (10, (.osl 10)), (11, (.osl 11)), (16, (eSSi64 a1)), (17, (i6 (a1.length : Int))), (18, (i6 x133))], [(10, (bk (.row 1 (x134.map eSi64)))), (11, (bk (.row 1 (x135.map eSi64))))]⟩ (by kernel_rfl) (a_seq ?_)))))
      obtain ⟨y184, hy185, hk186⟩ := bind_some h
      clear h
      refine a_join (emb := fun (s : Bool) => ⟨[(0, (i6 a0)), (6, (eSi64 r172)), (7, (eSi64 r176)), (8, (eSi64 x129)), (9, (eSi64 x130)), (10, (.osl 10)), (11, (.osl 11)), (16, (eSSi64 a1)), (17, (i6 (a1.length : Int))), (18, (i6 x133)), (45, (.bool s))], [(10, (bk (.row 1 (x134.map eSi64)))), (11, (bk (.row 1 (x135.map eSi64))))]⟩) (pre := fun s => s = y184) ?_ ?_
      · rintro x183 rfl
        have h := hk186
        refine a_st (σ' := ⟨[(0, (i6 a0)), (6, (eSi64 r172)), (7, (eSi64 r176)), (8, (eSi64 x129)), (9, (eSi64 x130)), (10, (.osl 10)), (11, (.osl 11)), (16, (eSSi64 a1)), (17, (i6 (a1.length : Int))), (18, (i6 x133)), (45, (.bool x183))], [(10, (bk (.row 1 (x134.map eSi64)))), (11, (bk (.row 1 (x135.map eSi64))))]⟩) (by kernel_rfl) ?_
        cases hb192 : x183
        · have h := ite_f hb192 h
          refine a_cond_f rfl (a_skip (a_next (σ' := ⟨[(0, (i6 a0)), (6, (eSi64 r172)), (7, (eSi64 r176)), (8, (eSi64 x129)), (9, (eSi64 x130)), (10, (.osl 10)), (11, (.osl 11)), (16, (eSSi64 a1)), (17, (i6 (a1.length : Int))), (18, (i6 x133))], [(10, (bk (.row 1 (x134.map eSi64)))), (11, (bk (.row 1 (x135.map eSi64))))]⟩) (by kernel_rfl) (a_region (vp (.osl 10) rfl (vp (eSi64 r172) rfl (vq (.sl 1 true (([r172]).map eSi64)) rfl ⟨(Nat.le_of_ble_eq_true rfl), (Nat.le_of_ble_eq_true rfl), (all_cons ⟨(Nat.le_of_ble_eq_true rfl), rfl⟩ all_nil)⟩ ?_))))))
          obtain ⟨hc193, h⟩ := ifp_some h
          refine vu (.osl 5900) [(5900, (bk (.row 1 (((x134 ++ ([r172]))).map eSi64)))), (10, none)] (app_run (i := ⟨.slice 2, 1, 24, (eSi64 [])⟩) (f := eSi64) (l := x134) (l2 := [r172]) rfl rfl rfl rfl (fun _ => rfl) rfl rfl) (app_c (f := eSi64) (s := 1) (sz := 1) (by' := 24) (u := []) (id := 10) hc193 (.inr rfl) rfl rfl rfl) rfl (vp (.osl 11) rfl (vp (eSi64 r176) rfl (vq (.sl 1 true (([r176]).map eSi64)) rfl ⟨(Nat.le_of_ble_eq_true rfl), (Nat.le_of_ble_eq_true rfl), (all_cons ⟨(Nat.le_of_ble_eq_true rfl), rfl⟩ all_nil)⟩ ?_)))
          obtain ⟨hc194, h⟩ := ifp_some h
          refine vu (.osl 6300) [(6300, (bk (.row 1 (((x135 ++ ([r176]))).map eSi64)))), (11, none)] (app_run (i := ⟨.slice 2, 1, 24, (eSi64 [])⟩) (f := eSi64) (l := x135) (l2 := [r176]) rfl rfl rfl rfl (fun _ => rfl) rfl rfl) (app_c (f := eSi64) (s := 1) (sz := 1) (by' := 24) (u := []) (id := 11) hc194 (.inr rfl) rfl rfl rfl) rfl (vp (.osl 5900) rfl (vp (.osl 6300) rfl (a_nil (b_norm (a_next (σ' := ⟨[(0, (i6 a0)), (6, (eSi64 r172)), (7, (eSi64 r176)), (8, (eSi64 x129)), (9, (eSi64 x130)), (10, (.osl 10)), (11, (.osl 11)), (16, (eSSi64 a1)), (17, (i6 (a1.length : Int))), (18, (i6 x133))], [(10, (bk (.row 1 (((x134 ++ ([r172]))).map eSi64)))), (11, (bk (.row 1 (((x135 ++ ([r176]))).map eSi64))))]⟩) (by kernel_rfl) (a_region (vp (i6 (IntKind.i64.wrap (x133 + 1))) rfl (vp (i6 (IntKind.i64.wrap (x133 + 1))) rfl (a_nil ?_)))))))))
          cases h
          exact a_again (by kernel_rfl) hX166
        · have h := ite_t hb192 h
          refine a_cond_t rfl (a_exit (t_exit (b_other rfl (t_exit ?_))))
          cases h
          have h := hX166
          refine t_exit (b_exit ?_)
          exact j_leaf (x134, x135) (Option.some.inj h) (by kernel_rfl)
      · have h := hy185
        refine a_region (vp (eSi64 r172) rfl ?_)
        obtain ⟨r187, hr188, h⟩ := bind_some h
        refine a_call (args := [(eSi64 r172)]) (u := []) (r := (.bool r187)) rfl rfl (impl_row_fits_ok r172 r187 hr188) rfl (vp (.bool (!r187)) rfl (vp (.bool (!r187)) rfl ?_))
        cases hb189 : (!r187)
        · have h := ite_f hb189 h
          refine gp (eSi64 r176) rfl rfl ?_
          obtain ⟨r190, hr191, h⟩ := bind_some h
          refine a_gcall rfl (args := [(eSi64 r176)]) (u := []) (r := (.bool r190)) rfl rfl (impl_row_fits_ok r176 r190 hr191) rfl (gp (.bool (!r190)) rfl rfl (vp (.bool (!r190)) rfl (a_nil ?_)))
          exact j_leaf (!r190) (Option.some.inj h) (by kernel_rfl)
        · have h := ite_t hb189 h
          refine a_gskip rfl (a_gskip rfl (a_gskip rfl (vp (.bool true) rfl (a_nil ?_))))
          exact j_leaf true (Option.some.inj h) (by kernel_rfl)
def impl_row_poly_c : ACode := (.seq (.region 0 [q 2 (.alloc 26)] false) (.seq (.region 1 [q 3 (.alloc 26)] false) (.seq (.seq (.region 2 [q 6 (.mov (t 0)), q 7 (.blt 0 .len [(t 6)] [66]), q 8 (.mov (.const (.int .i64 0)))] false) (.block 0 (.loop (.seq (.region 3 [q 9 (.bin .lss 3 (t 8) (t 7))] false) (.seq (.cond (t 9) .skip (.exit 0)) (.seq (.block 1 (.seq (.region 4 [q 10 (.mov (t 8)), q 11 (.indexAddr 66 (t 6) (t 8)), q 12 (.load 2 (t 11)), q 4 (.asg 0 (t 10) 3), q 5 (.asg 0 (t 12) 2)] false) (.region 5 [q 13 (.mov (t 4)), q 14 (.mov (t 5)), q 15 (.conv 2 5 (t 14)), q 16 (.indexAddr 26 (t 3) (t 13)), ⟨none, .store 5 (t 16) (t 15), none, []⟩] false))) (.region 6 [q 17 (.bin .add 3 (t 8) (.const (.int .i64 1))), q 8 (.mov (t 17))] false))))))) (.seq (.region 7 [q 18 (.load 26 (t 3)), ⟨none, .store 26 (t 2) (t 18), none, []⟩] false) .ret))))
def impl_row_poly_L : Live := [(0, [0]), (1, [0, 2]), (2, [0, 2, 3]), (3, [2, 3, 6, 7, 8]), (4, [2, 3, 6, 7, 8]), (5, [2, 3, 4, 5, 6, 7, 8]), (6, [2, 3, 6, 7, 8]), (7, [2, 3]), (100009, [2, 3, 6, 7, 8, 9])]
noncomputable def impl_row_poly_l1 (a0 : (List Int)) (x31 : Int) (x32 : (Vec Int 64)) : Option ((Int × (Vec Int 64)) ⊕ (Vec Int 64)) :=
  (if (decide (x31 < (a0.length : Int))) then (ifp (0 ≤ x31 ∧ x31 < ((a0.length : Nat) : Int)) ((ifp (0 ≤ x31 ∧ x31 < ((64 : Nat) : Int)) ((some (.inl ((IntKind.i64.wrap (x31 + 1), (vset x32 x31.toNat (IntKind.u8.wrap (rd a0 x31.toNat))))))))))) else (some (.inr x32)))
noncomputable def impl_row_poly (a0 : (List Int)) : Option (Vec Int 64) :=
  (Option.bind (α := (Vec Int 64)) ((loopM (fun s : (Int × (Vec Int 64)) => impl_row_poly_l1 a0 s.1 s.2) (0, (vrep 64 (0 : Int))))) fun x22 => (some x22))
theorem impl_row_poly_ok (a0 : (List Int)) (r : (Vec Int 64)) (h : impl_row_poly a0 = some r) : Den Try.prog 131 [(eSi64 a0)] { r := (eA64u8 r) } := by
  refine den_of (rs := [(eA64u8 r)]) (ac := impl_row_poly_c) (L := impl_row_poly_L) (n := 19) (m := []) (c := Try.f131.body.getD .skip) good Try.func131 (by kernel_rfl) (by kernel_rfl) Try.ntmps131 rfl rfl (by kernel_rfl) rfl rfl ?_
  refine a_st (σ' := ⟨[(0, (eSi64 a0))], []⟩) (by kernel_rfl) ?_
  unfold impl_row_poly_c
  refine sr (vo 1200 (eA64u8 ((vrep 64 (0 : Int)))) rfl rfl (nx ⟨[(0, (eSi64 a0)), (2, (ow 2))], [(2, (bk (eA64u8 ((vrep 64 (0 : Int))))))]⟩ (by kernel_rfl) (sr (vo 1300 (eA64u8 ((vrep 64 (0 : Int)))) rfl rfl (nx ⟨[(0, (eSi64 a0)), (2, (ow 2)), (3, (ow 3))], [(2, (bk (eA64u8 ((vrep 64 (0 : Int)))))), (3, (bk (eA64u8 ((vrep 64 (0 : Int))))))]⟩ (by kernel_rfl) ?_)))))
  obtain ⟨y23, hy24, hk25⟩ := bind_some h
  clear h
  refine a_join (emb := fun (s : (Vec Int 64)) => ⟨[(2, (ow 2)), (3, (ow 3))], [(2, (bk (eA64u8 ((vrep 64 (0 : Int)))))), (3, (bk (eA64u8 s)))]⟩) (pre := fun s => s = y23) ?_ ?_
  · rintro x22 rfl
    have h := hk25
    refine a_st (σ' := ⟨[(2, (ow 2)), (3, (ow 3))], [(2, (bk (eA64u8 ((vrep 64 (0 : Int)))))), (3, (bk (eA64u8 x22)))]⟩) (by kernel_rfl) (sr (vl (eA64u8 x22) rfl rfl rfl rfl rfl rfl (vs (eA64u8 x22) rfl rfl (fun _ => rfl) rfl rfl rfl rfl rfl rfl (nx _ rfl (a_ret ?_)))))
    have hl49 : LdOk [] (eA64u8 x22) [] 64 true (eA64u8 x22) := (.nil rfl rfl rfl)
    refine ⟨.inr rfl, ?_⟩
    rw [Try.results131]
    cases h
    exact ⟨_, _, _, _, _, ld_own (i := ⟨.arr 64 5, 64, 64, (eA64u8 (vrep 64 (0 : Int)))⟩) rfl rfl rfl hl49, hl49.c, .inl ⟨rfl, .inl rfl⟩, rfl, rfl⟩
  · have h := hy24
    refine sr (vp (eSi64 a0) rfl (vq (i6 (a0.length : Int)) (len_run rfl rfl) trivial (vp (i6 0) rfl (nx ⟨[(2, (ow 2)), (3, (ow 3)), (6, (eSi64 a0)), (7, (i6 (a0.length : Int))), (8, (i6 0))], [(2, (bk (eA64u8 ((vrep 64 (0 : Int)))))), (3, (bk (eA64u8 ((vrep 64 (0 : Int))))))]⟩ (by kernel_rfl) (a_block ?_)))))
    refine a_loop (emb := fun (s : (Int × (Vec Int 64))) => ⟨[(2, (ow 2)), (3, (ow 3)), (6, (eSi64 a0)), (7, (i6 (a0.length : Int))), (8, (i6 s.1))], [(2, (bk (eA64u8 ((vrep 64 (0 : Int)))))), (3, (bk (eA64u8 s.2)))]⟩) (body := (fun s : (Int × (Vec Int 64)) => impl_row_poly_l1 a0 s.1 s.2)) (G := fun q => some q = some y23) h rfl ?_ (by kernel_rfl)
    rintro X38 ⟨x31, x32⟩ x39 h hX40
    have h : impl_row_poly_l1 a0 x31 x32 = some x39 := h
    refine a_st (σ' := ⟨[(2, (ow 2)), (3, (ow 3)), (6, (eSi64 a0)), (7, (i6 (a0.length : Int))), (8, (i6 x31))], [(2, (bk (eA64u8 ((vrep 64 (0 : Int)))))), (3, (bk (eA64u8 x32)))]⟩) (by kernel_rfl) (sr (vp (.bool ((decide (x31 < (a0.length : Int))))) rfl (nx ⟨[(2, (ow 2)), (3, (ow 3)), (6, (eSi64 a0)), (7, (i6 (a0.length : Int))), (8, (i6 x31)), (9, (.bool ((decide (x31 < (a0.length : Int))))))], [(2, (bk (eA64u8 ((vrep 64 (0 : Int)))))), (3, (bk (eA64u8 x32)))]⟩ (by kernel_rfl) (a_seq ?_))))
    cases hb41 : (decide (x31 < (a0.length : Int)))
    · have h := ite_f hb41 h
      refine a_cond_f rfl (a_exit (t_exit ?_))
      cases h
      have h := hX40
      refine t_exit (b_exit ?_)
      exact j_leaf x32 (Option.some.inj h) (by kernel_rfl)
    · have h := ite_t hb41 h
      refine a_cond_t rfl (a_skip (a_next (σ' := ⟨[(2, (ow 2)), (3, (ow 3)), (6, (eSi64 a0)), (7, (i6 (a0.length : Int))), (8, (i6 x31))], [(2, (bk (eA64u8 ((vrep 64 (0 : Int)))))), (3, (bk (eA64u8 x32)))]⟩) (by kernel_rfl) (a_seq (a_block (sr (vp (i6 x31) rfl ?_))))))
      obtain ⟨hc42, h⟩ := ifp_some h
      refine vq (.ref (.row 1 (a0.map (AV.int .i64))) [x31.toNat] [x31.toNat * 1]) rfl (lmap hc42) ?_
      have hl43 : LdOk [x31.toNat] (.row 1 (a0.map (AV.int .i64))) [x31.toNat * 1] 1 false (i6 (rd a0 x31.toNat)) := (.row (llt hc42) rfl (.nil rfl rfl rfl))
      refine vq (i6 (rd a0 x31.toNat)) (ld_ref (i := ⟨.int .i64, 1, 8, (.int .i64 0)⟩) rfl rfl hl43) hl43.c (vp (i6 x31) rfl (vp (i6 (rd a0 x31.toNat)) rfl (nx ⟨[(2, (ow 2)), (3, (ow 3)), (4, (i6 x31)), (5, (i6 (rd a0 x31.toNat))), (6, (eSi64 a0)), (7, (i6 (a0.length : Int))), (8, (i6 x31))], [(2, (bk (eA64u8 ((vrep 64 (0 : Int)))))), (3, (bk (eA64u8 x32)))]⟩ (by kernel_rfl) (a_region (vp (i6 x31) rfl (vp (i6 (rd a0 x31.toNat)) rfl (vp (b8 (IntKind.u8.wrap (rd a0 x31.toNat))) rfl ?_)))))))
      obtain ⟨hc44, h⟩ := ifp_some h
      refine vq (.own 3 [x31.toNat] [x31.toNat * 1]) rfl hc44 ?_
      have hs45 : StOk [x31.toNat] (eA64u8 x32) [x31.toNat * 1] 1 (b8 (IntKind.u8.wrap (rd a0 x31.toNat))) (eA64u8 ((vset x32 x31.toNat (IntKind.u8.wrap (rd a0 x31.toNat))))) := (.arr (y := IntKind.u8.wrap (rd a0 x31.toNat)) (vlt x32 hc44) rfl (.nil rfl rfl rfl rfl))
      refine vu .top [(3, (bk (eA64u8 ((vset x32 x31.toNat (IntKind.u8.wrap (rd a0 x31.toNat)))))))] (st_own (i := ⟨.int .u8, 1, 1, (.int .u8 0)⟩) rfl rfl (fun _ => rfl) rfl hs45) (hs45.c rfl) rfl (a_nil (b_norm (a_next (σ' := ⟨[(2, (ow 2)), (3, (ow 3)), (6, (eSi64 a0)), (7, (i6 (a0.length : Int))), (8, (i6 x31))], [(2, (bk (eA64u8 ((vrep 64 (0 : Int)))))), (3, (bk (eA64u8 ((vset x32 x31.toNat (IntKind.u8.wrap (rd a0 x31.toNat)))))))]⟩) (by kernel_rfl) (a_region (vp (i6 (IntKind.i64.wrap (x31 + 1))) rfl (vp (i6 (IntKind.i64.wrap (x31 + 1))) rfl (a_nil ?_)))))))
      cases h
      exact a_again (by kernel_rfl) hX40
def impl_polys_fresh_c : ACode := (.seq (.region 0 [q 2 (.asg 2 (.const (.slice none 0 0)) 38)] false) (.seq (.region 1 [q 3 (.asg 2 (.const (.slice none 0 0)) 38)] false) (.seq (.seq (.region 2 [q 6 (.mov (t 0)), q 7 (.blt 0 .len [(t 6)] [82]), q 8 (.mov (.const (.int .i64 0)))] false) (.block 0 (.loop (.seq (.region 3 [q 9 (.bin .lss 3 (t 8) (t 7))] false) (.seq (.cond (t 9) .skip (.exit 0)) (.seq (.block 1 (.seq (.region 4 [q 10 (.indexAddr 82 (t 6) (t 8)), q 11 (.load 66 (t 10)), q 5 (.asg 1 (t 11) 66)] false) (.region 5 [q 12 (.mov (t 3)), q 13 (.mov (t 5)), q 14 (.call 0 (.func 131) [(t 13)]), q 15 (.bslice 0 38 1 [(0, (t 14))]), q 16 (.blt 0 .append [(t 12), (t 15)] [38, 38]), q 3 (.asg 2 (t 16) 38)] false))) (.region 6 [q 17 (.bin .add 3 (t 8) (.const (.int .i64 1))), q 8 (.mov (t 17))] false))))))) (.seq (.region 7 [q 18 (.mov (t 3)), q 2 (.asg 2 (t 18) 38)] false) .ret))))
def impl_polys_fresh_L : Live := [(0, [0]), (1, [0]), (2, [0, 3]), (3, [3, 6, 7, 8]), (4, [3, 6, 7, 8]), (5, [3, 5, 6, 7, 8]), (6, [3, 6, 7, 8]), (7, [3]), (100009, [3, 6, 7, 8, 9])]
noncomputable def impl_polys_fresh_l1 (a0 : (List (List Int))) (x35 : Int) (x36 : (List (Vec Int 64))) : Option ((Int × (List (Vec Int 64))) ⊕ (List (Vec Int 64))) :=
  (if (decide (x35 < (a0.length : Int))) then (ifp (0 ≤ x35 ∧ x35 < ((a0.length : Nat) : Int)) ((Option.bind (impl_row_poly (rd a0 x35.toNat)) fun r49 => (ifp ((x36.length + ([r49] : List (Vec Int 64)).length) * 64 ≤ 140737488355328) ((some (.inl ((IntKind.i64.wrap (x35 + 1), (x36 ++ ([r49]))))))))))) else (some (.inr x36)))
noncomputable def impl_polys_fresh (a0 : (List (List Int))) : Option (List (Vec Int 64)) :=
  (Option.bind (α := (List (Vec Int 64))) ((loopM (fun s : (Int × (List (Vec Int 64))) => impl_polys_fresh_l1 a0 s.1 s.2) (0, []))) fun x25 => (some x25))
theorem impl_polys_fresh_ok (a0 : (List (List Int))) (r : (List (Vec Int 64))) (h : impl_polys_fresh a0 = some r) : Den Try.prog 64 [(eSSi64 a0)] { r := (.osl 2000000), ms := [], fs := [(64, r.map eA64u8)] } := by
  refine den_ofX (rs := [(.osl 2000000)]) (ac := impl_polys_fresh_c) (L := impl_polys_fresh_L) (n := 19) (m := [(2, 2), (3, 2), (5, 1)]) (c := Try.f64.body.getD .skip) good Try.func64 (by kernel_rfl) (by kernel_rfl) Try.ntmps64 rfl rfl (by kernel_rfl) rfl ?_
  refine a_st (σ' := ⟨[(0, (eSSi64 a0))], []⟩) (by kernel_rfl) ?_
  unfold impl_polys_fresh_c
  refine sr (vu (.osl 1200) [(1200, (bk (.row 64 (([]).map eA64u8))))] rfl trivial rfl (nx ⟨[(0, (eSSi64 a0))], []⟩ (by kernel_rfl) (sr (vu (.osl 1300) [(1300, (bk (.row 64 (([]).map eA64u8))))] rfl trivial rfl (nx ⟨[(0, (eSSi64 a0)), (3, (.osl 3))], [(3, (bk (.row 64 (([]).map eA64u8))))]⟩ (by kernel_rfl) ?_)))))
  obtain ⟨y26, hy27, hk28⟩ := bind_some h
  clear h
  refine a_join (emb := fun (s : (List (Vec Int 64))) => ⟨[(3, (.osl 3))], [(3, (bk (.row 64 (s.map eA64u8))))]⟩) (pre := fun s => s = y26) ?_ ?_
  · rintro x25 rfl
    have h := hk28
    refine a_st (σ' := ⟨[(3, (.osl 3))], [(3, (bk (.row 64 (x25.map eA64u8))))]⟩) (by kernel_rfl) (sr (vp (.osl 3) rfl (vp (.osl 3) rfl (nx _ rfl (a_ret ?_)))))
    refine ⟨.inr rfl, ?_⟩
    rw [Try.results64]
    cases h
    exact ⟨[some 3], ⟨_, _, _, _, _, rfl, trivial, rfl, .inr (.inl ⟨_, _, _, _, _, rfl, rfl, rfl, rfl, rfl, ⟨rfl, rfl, rfl⟩⟩)⟩, rfl, rfl⟩
  · have h := hy27
    refine sr (vp (eSSi64 a0) rfl (vq (i6 (a0.length : Int)) (len_run rfl rfl) trivial (vp (i6 0) rfl (nx ⟨[(3, (.osl 3)), (6, (eSSi64 a0)), (7, (i6 (a0.length : Int))), (8, (i6 0))], [(3, (bk (.row 64 (([]).map eA64u8))))]⟩ (by kernel_rfl) (a_block ?_)))))
    refine a_loop (emb := fun (s : (Int × (List (Vec Int 64)))) => ⟨[(3, (.osl 3)), (6, (eSSi64 a0)), (7, (i6 (a0.length : Int))), (8, (i6 s.1))], [(3, (bk (.row 64 (s.2.map eA64u8))))]⟩) (body := (fun s : (Int × (List (Vec Int 64))) => impl_polys_fresh_l1 a0 s.1 s.2)) (G := fun q => some q = some y26) h rfl ?_ (by kernel_rfl)
    rintro X43 ⟨x35, x36⟩ x44 h hX45
    have h : impl_polys_fresh_l1 a0 x35 x36 = some x44 := h
    refine a_st (σ' := ⟨[(3, (.osl 3)), (6, (eSSi64 a0)), (7, (i6 (a0.length : Int))), (8, (i6 x35))], [(3, (bk (.row 64 (x36.map eA64u8))))]⟩) (by kernel_rfl) (sr (vp (.bool ((decide (x35 < (a0.length : Int))))) rfl (nx ⟨[(3, (.osl 3)), (6, (eSSi64 a0)), (7, (i6 (a0.length : Int))), (8, (i6 x35)), (9, (.bool ((decide (x35 < (a0.length : Int))))))], [(3, (bk (.row 64 (x36.map eA64u8))))]⟩ (by kernel_rfl) (a_seq ?_))))
    cases hb46 : (decide (x35 < (a0.length : Int)))
    · have h := ite_f hb46 h
      refine a_cond_f rfl (a_exit (t_exit ?_))
      cases h
      have h := hX45
      refine t_exit (b_exit ?_)
      exact j_leaf x36 (Option.some.inj h) (by kernel_rfl)
    · have h := ite_t hb46 h
      refine a_cond_t rfl (a_skip (a_next (σ' := ⟨[(3, (.osl 3)), (6, (eSSi64 a0)), (7, (i6 (a0.length : Int))), (8, (i6 x35))], [(3, (bk (.row 64 (x36.map eA64u8))))]⟩) (by kernel_rfl) (a_seq (a_block (sr ?_)))))
      obtain ⟨hc47, h⟩ := ifp_some h
      refine vq (.ref (.row 1 (a0.map eSi64)) [x35.toNat] [x35.toNat * 1]) rfl (lmap hc47) ?_
      have hl48 : LdOk [x35.toNat] (.row 1 (a0.map eSi64)) [x35.toNat * 1] 1 false (eSi64 (rd a0 x35.toNat)) := (.row (llt hc47) rfl (.nil rfl rfl rfl))
      refine vq (eSi64 (rd a0 x35.toNat)) (ld_ref (i := ⟨.slice 2, 1, 24, (eSi64 [])⟩) rfl rfl hl48) hl48.c (vp (eSi64 (rd a0 x35.toNat)) rfl (nx ⟨[(3, (.osl 3)), (5, (eSi64 (rd a0 x35.toNat))), (6, (eSSi64 a0)), (7, (i6 (a0.length : Int))), (8, (i6 x35))], [(3, (bk (.row 64 (x36.map eA64u8))))]⟩ (by kernel_rfl) (a_region (vp (.osl 3) rfl (vp (eSi64 (rd a0 x35.toNat)) rfl ?_)))))
      obtain ⟨r49, hr50, h⟩ := bind_some h
      refine a_call (args := [(eSi64 (rd a0 x35.toNat))]) (u := []) (r := (eA64u8 r49)) rfl rfl (impl_row_poly_ok (rd a0 x35.toNat) r49 hr50) rfl (vq (.sl 64 true (([r49]).map eA64u8)) rfl ⟨(Nat.le_of_ble_eq_true rfl), (Nat.le_of_ble_eq_true rfl), (all_cons ⟨(Nat.le_of_ble_eq_true rfl), rfl⟩ all_nil)⟩ ?_)
      obtain ⟨hc51, h⟩ := ifp_some h
      refine vu (.osl 2600) [(2600, (bk (.row 64 (((x36 ++ ([r49]))).map eA64u8)))), (3, none)] (app_run (i := ⟨.arr 64 5, 64, 64, (eA64u8 (vrep 64 (0 : Int)))⟩) (f := eA64u8) (l := x36) (l2 := [r49]) rfl rfl rfl rfl (fun _ => rfl) rfl rfl) (app_c (f := eA64u8) (s := 64) (sz := 64) (by' := 64) (u := []) (id := 3) hc51 (.inr rfl) rfl rfl rfl) rfl (vp (.osl 2600) rfl (a_nil (b_norm (a_next (σ' := ⟨[(3, (.osl 3)), (6, (eSSi64 a0)), (7, (i6 (a0.length : Int))), (8, (i6 x35))], [(3, (bk (.row 64 (((x36 ++ ([r49]))).map eA64u8))))]⟩) (by kernel_rfl) (a_region (vp (i6 (IntKind.i64.wrap (x35 + 1))) rfl (vp (i6 (IntKind.i64.wrap (x35 + 1))) rfl (a_nil ?_))))))))
      cases h
      exact a_again (by kernel_rfl) hX45
def impl_ConvergentsOf_fresh_c : ACode := (.seq (.region 0 [q 4 (.asg 2 (.const (.slice none 0 0)) 38), q 5 (.asg 2 (.const (.slice none 0 0)) 38), q 6 (.asg 0 (.const (.int .i64 0)) 2)] false) (.seq (.seq (.region 1 [q 10 (.mov (t 0)), q 11 (.mov (t 1)), q 12 (.call 0 (.func 61) [(t 10), (t 11)]), q 7 (.asg 0 (t 12) 2)] false) (.seq (.region 2 [q 13 (.mov (t 7)), q 14 (.bin .neq 2 (t 13) (.const (.int .i64 0)))] false) (.cond (t 14) (.seq (.region 3 [q 15 (.mov (t 7)), q 4 (.asg 2 (.const (.slice none 0 0)) 38), q 5 (.asg 2 (.const (.slice none 0 0)) 38), q 6 (.asg 0 (t 15) 2)] false) .ret) .skip))) (.seq (.seq (.region 4 [q 16 (.mov (t 1)), q 17 (.blt 0 .len [(t 16)] [38]), q 18 (.bin .lss 3 (t 17) (.const (.int .i64 1))), q 19 (.mov (t 18)), ⟨some 20, .mov (t 1), some (19, false), []⟩, ⟨some 21, .blt 0 .len [(t 20)] [38], some (19, false), []⟩, ⟨some 22, .bin .gtr 3 (t 21) (.const (.int .i64 30)), some (19, false), []⟩, q 23 (.pick (t 19) (.const (.bool true)) (t 22))] false) (.cond (t 23) (.seq (.region 5 [q 4 (.asg 2 (.const (.slice none 0 0)) 38), q 5 (.asg 2 (.const (.slice none 0 0)) 38), q 6 (.asg 0 (.const (.int .i64 2)) 2)] false) .ret) .skip)) (.seq (.region 6 [q 25 (.mov (t 0)), q 26 (.mov (t 1)), q 27 (.call 0 (.func 63) [(t 26)]), q 28 (.call 0 (.func 62) [(t 25), (t 27)]), q 24 (.mov (t 28)), q 29 (.extract (t 24) 0), q 30 (.extract (t 24) 1), q 8 (.asg 1 (t 29) 82), q 9 (.asg 1 (t 30) 82)] false) (.seq (.seq (.region 7 [q 31 (.mov (t 8)), q 32 (.blt 0 .len [(t 31)] [82]), q 33 (.mov (t 1)), q 34 (.blt 0 .len [(t 33)] [38]), q 35 (.bin .lss 3 (t 32) (t 34))] false) (.cond (t 35) (.seq (.region 8 [q 4 (.asg 2 (.const (.slice none 0 0)) 38), q 5 (.asg 2 (.const (.slice none 0 0)) 38), q 6 (.asg 0 (.const (.int .i64 3)) 2)] false) .ret) .skip)) (.seq (.region 9 [q 36 (.mov (t 8)), q 37 (.call 0 (.func 64) [(t 36)]), q 38 (.mov (t 9)), q 39 (.call 0 (.func 64) [(t 38)]), q 4 (.asg 2 (t 37) 38), q 5 (.asg 2 (t 39) 38), q 6 (.asg 0 (.const (.int .i64 0)) 2)] false) .ret))))))
def impl_ConvergentsOf_fresh_L : Live := [(0, [0, 1]), (1, [0, 1]), (2, [0, 1, 7]), (3, [7]), (4, [0, 1]), (5, []), (6, [0, 1]), (7, [1, 8, 9]), (8, []), (9, [8, 9]), (100014, [0, 1, 7, 14]), (100023, [0, 1, 23]), (100035, [8, 9, 35])]
noncomputable def impl_ConvergentsOf_fresh (a0 : Int) (a1 : (List (Vec Int 64))) : Option ((List (Vec Int 64)) × (List (Vec Int 64)) × Int) :=
  (Option.bind (impl_polysCode a0 a1) fun r1 => (if (r1 != 0) then (some ([], [], r1)) else (Option.bind (α := Bool) ((if (decide ((a1.length : Int) < 1)) then (some true) else (some ((decide ((a1.length : Int) > 30)))))) fun x5 => (if x5 then (some ([], [], 2)) else (Option.bind (impl_rows a1) fun r11 => (Option.bind (impl_prime_convergents a0 r11) fun r13 => (if (decide ((r13.1.length : Int) < (a1.length : Int))) then (some ([], [], 3)) else (Option.bind (impl_polys_fresh r13.1) fun r16 => (Option.bind (impl_polys_fresh r13.2) fun r18 => (some (r16, r18, 0)))))))))))
theorem impl_ConvergentsOf_fresh_ok (a0 : Int) (a1 : (List (Vec Int 64))) (r : ((List (Vec Int 64)) × (List (Vec Int 64)) × Int)) (h : impl_ConvergentsOf_fresh a0 a1 = some r) : Den Try.prog 28 [(i6 a0), (eSA64u8 a1)] { r := (.tuple [(.osl 2000000), (.osl 2000001), (i6 r.2.2)]), ms := [], fs := [(64, r.1.map eA64u8), (64, r.2.1.map eA64u8)] } := by
  refine den_ofX (rs := [(.osl 2000000), (.osl 2000001), (i6 r.2.2)]) (ac := impl_ConvergentsOf_fresh_c) (L := impl_ConvergentsOf_fresh_L) (n := 40) (m := [(4, 2), (5, 2), (8, 1), (9, 1)]) (c := Try.f28.body.getD .skip) good Try.func28 (by kernel_rfl) (by kernel_rfl) Try.ntmps28 rfl rfl (by kernel_rfl) rfl ?_
  refine a_st (σ' := ⟨[(0, (i6 a0)), (1, (eSA64u8 a1))], []⟩) (by kernel_rfl) ?_
  unfold impl_ConvergentsOf_fresh_c
  refine sr (vu (.osl 1400) [(1400, (bk (.row 64 (([]).map eA64u8))))] rfl trivial rfl (vu (.osl 1500) [(1500, (bk (.row 64 (([]).map eA64u8))))] rfl trivial rfl (vp (i6 0) rfl (nx ⟨[(0, (i6 a0)), (1, (eSA64u8 a1))], []⟩ (by kernel_rfl) (a_seq (sr (vp (i6 a0) rfl (vp (eSA64u8 a1) rfl ?_))))))))
  obtain ⟨r1, hr2, h⟩ := bind_some h
  refine a_call (args := [(i6 a0), (eSA64u8 a1)]) (u := []) (r := (i6 r1)) rfl rfl (impl_polysCode_ok a0 a1 r1 hr2) rfl (vp (i6 r1) rfl (nx ⟨[(0, (i6 a0)), (1, (eSA64u8 a1)), (7, (i6 r1))], []⟩ (by kernel_rfl) (sr (vp (i6 r1) rfl (vp (.bool (r1 != 0)) rfl (nx ⟨[(0, (i6 a0)), (1, (eSA64u8 a1)), (7, (i6 r1)), (14, (.bool (r1 != 0)))], []⟩ (by kernel_rfl) ?_))))))
  cases hb3 : (r1 != 0)
  · have h := ite_f hb3 h
    refine a_cond_f rfl (a_skip (a_next (σ' := ⟨[(0, (i6 a0)), (1, (eSA64u8 a1))], []⟩) (by kernel_rfl) (a_seq ?_)))
    obtain ⟨y6, hy7, hk8⟩ := bind_some h
    clear h
    refine a_join (emb := fun (s : Bool) => ⟨[(0, (i6 a0)), (1, (eSA64u8 a1)), (23, (.bool s))], []⟩) (pre := fun s => s = y6) ?_ ?_
    · rintro x5 rfl
      have h := hk8
      refine a_st (σ' := ⟨[(0, (i6 a0)), (1, (eSA64u8 a1)), (23, (.bool x5))], []⟩) (by kernel_rfl) ?_
      cases hb10 : x5
      · have h := ite_f hb10 h
        refine a_cond_f rfl (a_skip (a_next (σ' := ⟨[(0, (i6 a0)), (1, (eSA64u8 a1))], []⟩) (by kernel_rfl) (sr (vp (i6 a0) rfl (vp (eSA64u8 a1) rfl ?_)))))
        obtain ⟨r11, hr12, h⟩ := bind_some h
        refine a_call (args := [(eSA64u8 a1)]) (u := []) (r := (eSSi64 r11)) rfl rfl (impl_rows_ok a1 r11 hr12) rfl ?_
        obtain ⟨r13, hr14, h⟩ := bind_some h
        refine a_call (args := [(i6 a0), (eSSi64 r11)]) (u := []) (r := (.tuple [(eSSi64 r13.1), (eSSi64 r13.2)])) rfl rfl (impl_prime_convergents_ok a0 r11 r13 hr14) rfl (vp (.tuple [(eSSi64 r13.1), (eSSi64 r13.2)]) rfl (vb (eSSi64 r13.1) rfl rfl (vb (eSSi64 r13.2) rfl rfl (vp (eSSi64 r13.1) rfl (vp (eSSi64 r13.2) rfl (nx ⟨[(1, (eSA64u8 a1)), (8, (eSSi64 r13.1)), (9, (eSSi64 r13.2))], []⟩ (by kernel_rfl) (a_seq (sr (vp (eSSi64 r13.1) rfl ?_)))))))))
        refine vq (i6 (r13.1.length : Int)) (len_run rfl rfl) trivial (vp (eSA64u8 a1) rfl (vq (i6 (a1.length : Int)) (len_run rfl rfl) trivial (vp (.bool ((decide ((r13.1.length : Int) < (a1.length : Int))))) rfl (nx ⟨[(8, (eSSi64 r13.1)), (9, (eSSi64 r13.2)), (35, (.bool ((decide ((r13.1.length : Int) < (a1.length : Int))))))], []⟩ (by kernel_rfl) ?_))))
        cases hb15 : (decide ((r13.1.length : Int) < (a1.length : Int)))
        · have h := ite_f hb15 h
          refine a_cond_f rfl (a_skip (a_next (σ' := ⟨[(8, (eSSi64 r13.1)), (9, (eSSi64 r13.2))], []⟩) (by kernel_rfl) (sr (vp (eSSi64 r13.1) rfl ?_))))
          obtain ⟨r16, hr17, h⟩ := bind_some h
          refine a_callF (args := [(eSSi64 r13.1)]) (u := []) (u2 := []) (r := (.osl 2000000)) (fs := [(64, r16.map eA64u8)]) rfl rfl (impl_polys_fresh_ok r13.1 r16 hr17) rfl rfl rfl (.inl rfl) rfl (vp (eSSi64 r13.2) rfl ?_)
          obtain ⟨r18, hr19, h⟩ := bind_some h
          refine a_callF (args := [(eSSi64 r13.2)]) (u := []) (u2 := []) (r := (.osl 2000000)) (fs := [(64, r18.map eA64u8)]) rfl rfl (impl_polys_fresh_ok r13.2 r18 hr19) rfl rfl rfl (.inl rfl) rfl (vp (.osl 4700) rfl (vp (.osl 4900) rfl (vp (i6 0) rfl (nx _ rfl (a_ret ?_)))))
          refine ⟨.inr rfl, ?_⟩
          rw [Try.results28]
          cases h
          exact ⟨[some 4700, some 4900], ⟨_, _, _, _, _, rfl, trivial, rfl, .inr (.inl ⟨_, _, _, _, _, rfl, rfl, rfl, rfl, rfl, ⟨_, _, _, _, _, rfl, trivial, rfl, .inr (.inl ⟨_, _, _, _, _, rfl, rfl, rfl, rfl, rfl, ⟨_, _, _, _, _, rfl, trivial, rfl, .inl ⟨rfl, .inl rfl, ⟨rfl, rfl, rfl⟩⟩⟩⟩)⟩⟩)⟩, rfl, rfl⟩
        · have h := ite_t hb15 h
          refine a_cond_t rfl (sr (vu (.osl 1400) [(1400, (bk (.row 64 (([]).map eA64u8))))] rfl trivial rfl (vu (.osl 1500) [(1500, (bk (.row 64 (([]).map eA64u8))))] rfl trivial rfl (vp (i6 3) rfl (nx _ rfl (a_ret (t_ret ?_)))))))
          refine ⟨.inr rfl, ?_⟩
          rw [Try.results28]
          cases h
          exact ⟨[some 1400, some 1500], ⟨_, _, _, _, _, rfl, trivial, rfl, .inr (.inl ⟨_, _, _, _, _, rfl, rfl, rfl, rfl, rfl, ⟨_, _, _, _, _, rfl, trivial, rfl, .inr (.inl ⟨_, _, _, _, _, rfl, rfl, rfl, rfl, rfl, ⟨_, _, _, _, _, rfl, trivial, rfl, .inl ⟨rfl, .inl rfl, ⟨rfl, rfl, rfl⟩⟩⟩⟩)⟩⟩)⟩, rfl, rfl⟩
      · have h := ite_t hb10 h
        refine a_cond_t rfl (sr (vu (.osl 1400) [(1400, (bk (.row 64 (([]).map eA64u8))))] rfl trivial rfl (vu (.osl 1500) [(1500, (bk (.row 64 (([]).map eA64u8))))] rfl trivial rfl (vp (i6 2) rfl (nx _ rfl (a_ret (t_ret ?_)))))))
        refine ⟨.inr rfl, ?_⟩
        rw [Try.results28]
        cases h
        exact ⟨[some 1400, some 1500], ⟨_, _, _, _, _, rfl, trivial, rfl, .inr (.inl ⟨_, _, _, _, _, rfl, rfl, rfl, rfl, rfl, ⟨_, _, _, _, _, rfl, trivial, rfl, .inr (.inl ⟨_, _, _, _, _, rfl, rfl, rfl, rfl, rfl, ⟨_, _, _, _, _, rfl, trivial, rfl, .inl ⟨rfl, .inl rfl, ⟨rfl, rfl, rfl⟩⟩⟩⟩)⟩⟩)⟩, rfl, rfl⟩
    · have h := hy7
      refine a_region (vp (eSA64u8 a1) rfl (vq (i6 (a1.length : Int)) (len_run rfl rfl) trivial (vp (.bool ((decide ((a1.length : Int) < 1)))) rfl (vp (.bool ((decide ((a1.length : Int) < 1)))) rfl ?_))))
      cases hb9 : (decide ((a1.length : Int) < 1))
      · have h := ite_f hb9 h
        refine gp (eSA64u8 a1) rfl rfl (gq (i6 (a1.length : Int)) rfl (len_run rfl rfl) trivial (gp (.bool ((decide ((a1.length : Int) > 30)))) rfl rfl (vp (.bool ((decide ((a1.length : Int) > 30)))) rfl (a_nil ?_))))
        exact j_leaf ((decide ((a1.length : Int) > 30))) (Option.some.inj h) (by kernel_rfl)
      · have h := ite_t hb9 h
        refine a_gskip rfl (a_gskip rfl (a_gskip rfl (vp (.bool true) rfl (a_nil ?_))))
        exact j_leaf true (Option.some.inj h) (by kernel_rfl)
  · have h := ite_t hb3 h
    refine a_cond_t rfl (sr (vp (i6 r1) rfl (vu (.osl 1400) [(1400, (bk (.row 64 (([]).map eA64u8))))] rfl trivial rfl (vu (.osl 1500) [(1500, (bk (.row 64 (([]).map eA64u8))))] rfl trivial rfl (vp (i6 r1) rfl (nx _ rfl (a_ret (t_ret ?_))))))))
    refine ⟨.inr rfl, ?_⟩
    rw [Try.results28]
    cases h
    exact ⟨[some 1400, some 1500], ⟨_, _, _, _, _, rfl, trivial, rfl, .inr (.inl ⟨_, _, _, _, _, rfl, rfl, rfl, rfl, rfl, ⟨_, _, _, _, _, rfl, trivial, rfl, .inr (.inl ⟨_, _, _, _, _, rfl, rfl, rfl, rfl, rfl, ⟨_, _, _, _, _, rfl, trivial, rfl, .inl ⟨rfl, .inl rfl, ⟨rfl, rfl, rfl⟩⟩⟩⟩)⟩⟩)⟩, rfl, rfl⟩
def laws_eqPoly_c : ACode := (.seq (.region 0 [q 2 (.box 26 (t 0)), q 3 (.box 26 (t 1)), q 4 (.asg 0 (.const (.bool false)) 4)] false) (.seq (.seq (.region 1 [q 5 (.asg 0 (.const (.int .i64 0)) 3)] false) (.block 0 (.loop (.seq (.seq (.region 2 [q 6 (.mov (t 5)), q 7 (.bin .lss 3 (t 6) (.const (.int .i64 64)))] false) (.cond (t 7) .skip (.exit 0))) (.seq (.block 1 (.seq (.region 4 [q 10 (.mov (t 5)), ⟨some 11, .indexAddr 26 (t 2) (t 10), none, [0]⟩, ⟨some 12, .load 5 (t 11), none, [1]⟩, q 13 (.mov (t 5)), ⟨some 14, .indexAddr 26 (t 3) (t 13), none, [3]⟩, ⟨some 15, .load 5 (t 14), none, [4]⟩, ⟨some 16, .bin .neq 5 (t 12) (t 15), none, [2, 5]⟩] true) (.cond (t 16) (.seq (.region 5 [q 4 (.asg 0 (.const (.bool false)) 4)] false) .ret) .skip))) (.region 3 [q 8 (.mov (t 5)), q 9 (.bin .add 3 (t 8) (.const (.int .i64 1))), q 5 (.asg 0 (t 9) 3)] false)))))) (.seq (.region 6 [q 4 (.asg 0 (.const (.bool true)) 4)] false) .ret)))
def laws_eqPoly_L : Live := [(0, [0, 1]), (1, [2, 3]), (2, [2, 3, 5]), (3, [2, 3, 5]), (4, [2, 3, 5]), (5, []), (6, []), (100007, [2, 3, 5, 7]), (100016, [2, 3, 5, 16])]
noncomputable def laws_eqPoly_l1 (a0 : (Vec Int 64)) (a1 : (Vec Int 64)) (x49 : Int) : Option (Int ⊕ (Unit ⊕ Bool)) :=
  (if (decide (x49 < 64)) then (ifp (0 ≤ x49 ∧ x49 < ((64 : Nat) : Int)) ((ifp (0 ≤ x49 ∧ x49 < ((64 : Nat) : Int)) ((if ((rd a0.1 x49.toNat) != (rd a1.1 x49.toNat)) then (some (.inr (.inr false))) else (some (.inl (IntKind.i64.wrap (x49 + 1))))))))) else (some (.inr (((.inl ()))))))
noncomputable def laws_eqPoly (a0 : (Vec Int 64)) (a1 : (Vec Int 64)) : Option Bool :=
  (Option.bind (α := (Unit ⊕ Bool)) ((loopM (fun s : Int => laws_eqPoly_l1 a0 a1 s) 0)) fun z => match z with | .inl _ => (some true) | .inr r74 => (some r74))
theorem laws_eqPoly_ok (a0 : (Vec Int 64)) (a1 : (Vec Int 64)) (r : Bool) (h : laws_eqPoly a0 a1 = some r) : Den Try.prog 34 [(eA64u8 a0), (eA64u8 a1)] { r := (.bool r) } := by
  refine den_of (rs := [(.bool r)]) (ac := laws_eqPoly_c) (L := laws_eqPoly_L) (n := 17) (m := []) (c := Try.f34.body.getD .skip) good Try.func34 (by kernel_rfl) (by kernel_rfl) Try.ntmps34 rfl rfl (by kernel_rfl) rfl rfl ?_
  refine a_st (σ' := ⟨[(0, (eA64u8 a0)), (1, (eA64u8 a1))], []⟩) (by kernel_rfl) ?_
  unfold laws_eqPoly_c
  refine sr (vo 1200 (eA64u8 a0) rfl rfl (vo 1300 (eA64u8 a1) rfl rfl (vp (.bool false) rfl (nx ⟨[(2, (ow 2)), (3, (ow 3))], [(2, (bk (eA64u8 a0))), (3, (bk (eA64u8 a1)))]⟩ (by kernel_rfl) ?_))))
  obtain ⟨y36, hy37, hk38⟩ := bind_some h
  clear h
  refine a_join (emb := fun (s : Unit) => ⟨[], []⟩) (pre := fun s => (.inl s) = y36) ?_ ?_
  · rintro _ rfl
    have h := hk38
    refine a_st (σ' := ⟨[], []⟩) (by kernel_rfl) (sr (vp (.bool true) rfl (nx _ rfl (a_ret ?_))))
    refine ⟨.inr rfl, ?_⟩
    rw [Try.results34]
    cases h
    exact ⟨_, _, _, _, _, rfl, trivial, .inl ⟨rfl, .inl rfl⟩, rfl, rfl⟩
  · have h := hy37
    refine sr (vp (i6 0) rfl (nx ⟨[(2, (ow 2)), (3, (ow 3)), (5, (i6 0))], [(2, (bk (eA64u8 a0))), (3, (bk (eA64u8 a1)))]⟩ (by kernel_rfl) (a_block ?_)))
    refine a_loop (emb := fun (s : Int) => ⟨[(2, (ow 2)), (3, (ow 3)), (5, (i6 s))], [(2, (bk (eA64u8 a0))), (3, (bk (eA64u8 a1)))]⟩) (body := (fun s : Int => laws_eqPoly_l1 a0 a1 s)) (G := fun q => some q = some y36) h rfl ?_ (by kernel_rfl)
    rintro X60 x49 x61 h hX62
    have h : laws_eqPoly_l1 a0 a1 x49 = some x61 := h
    refine a_st (σ' := ⟨[(2, (ow 2)), (3, (ow 3)), (5, (i6 x49))], [(2, (bk (eA64u8 a0))), (3, (bk (eA64u8 a1)))]⟩) (by kernel_rfl) (a_seq (sr (vp (i6 x49) rfl (vp (.bool ((decide (x49 < 64)))) rfl (nx ⟨[(2, (ow 2)), (3, (ow 3)), (5, (i6 x49)), (7, (.bool ((decide (x49 < 64)))))], [(2, (bk (eA64u8 a0))), (3, (bk (eA64u8 a1)))]⟩ (by kernel_rfl) ?_)))))
    cases hb63 : (decide (x49 < 64))
    · have h := ite_f hb63 h
      refine a_cond_f rfl (a_exit (t_exit ?_))
      cases h
      have h := hX62
      refine t_exit (b_exit ?_)
      exact j_leaf () (Option.some.inj h) (by kernel_rfl)
    · have h := ite_t hb63 h
      refine a_cond_t rfl (a_skip (a_next (σ' := ⟨[(2, (ow 2)), (3, (ow 3)), (5, (i6 x49))], [(2, (bk (eA64u8 a0))), (3, (bk (eA64u8 a1)))]⟩) (by kernel_rfl) (a_seq (a_block (a_seq (a_draw [⟨[], [], [], []⟩, ⟨[2], [], [2], [0]⟩, ⟨[2], [], [], [0, 1]⟩, ⟨[], [], [], []⟩, ⟨[3], [], [3], [3]⟩, ⟨[3], [], [], [3, 4]⟩, ⟨[], [], [], [0, 1, 2, 3, 4, 5]⟩] (by kernel_rfl) (dp (i6 x49) rfl (by kernel_rfl) (d_cons ?_))))))))
      obtain ⟨hc68, h⟩ := ifp_some h
      refine vq (.own 2 [x49.toNat] [x49.toNat * 1]) rfl hc68 (d_next (by kernel_rfl) (d_cons ?_))
      have hl69 : LdOk [x49.toNat] (eA64u8 a0) [x49.toNat * 1] 1 false (b8 (rd a0.1 x49.toNat)) := (.arr (vlt a0 hc68) rfl (.nil rfl rfl rfl))
      refine vq (b8 (rd a0.1 x49.toNat)) (ld_own (i := ⟨.int .u8, 1, 1, (.int .u8 0)⟩) rfl rfl rfl hl69) hl69.c (d_next (by kernel_rfl) (dp (i6 x49) rfl (by kernel_rfl) (d_cons ?_)))
      obtain ⟨hc70, h⟩ := ifp_some h
      refine vq (.own 3 [x49.toNat] [x49.toNat * 1]) rfl hc70 (d_next (by kernel_rfl) (d_cons ?_))
      have hl71 : LdOk [x49.toNat] (eA64u8 a1) [x49.toNat * 1] 1 false (b8 (rd a1.1 x49.toNat)) := (.arr (vlt a1 hc70) rfl (.nil rfl rfl rfl))
      refine vq (b8 (rd a1.1 x49.toNat)) (ld_own (i := ⟨.int .u8, 1, 1, (.int .u8 0)⟩) rfl rfl rfl hl71) hl71.c (d_next (by kernel_rfl) (dp (.bool (((rd a0.1 x49.toNat) != (rd a1.1 x49.toNat)))) rfl (by kernel_rfl) (d_nil (a_next (σ' := ⟨[(2, (ow 2)), (3, (ow 3)), (5, (i6 x49)), (16, (.bool (((rd a0.1 x49.toNat) != (rd a1.1 x49.toNat)))))], [(2, (bk (eA64u8 a0))), (3, (bk (eA64u8 a1)))]⟩) (by kernel_rfl) ?_))))
      cases hb72 : ((rd a0.1 x49.toNat) != (rd a1.1 x49.toNat))
      · have h := ite_f hb72 h
        refine a_cond_f rfl (a_skip (b_norm (a_next (σ' := ⟨[(2, (ow 2)), (3, (ow 3)), (5, (i6 x49))], [(2, (bk (eA64u8 a0))), (3, (bk (eA64u8 a1)))]⟩) (by kernel_rfl) (a_region (vp (i6 x49) rfl (vp (i6 (IntKind.i64.wrap (x49 + 1))) rfl (vp (i6 (IntKind.i64.wrap (x49 + 1))) rfl (a_nil ?_))))))))
        cases h
        exact a_again (by kernel_rfl) hX62
      · have h := ite_t hb72 h
        refine a_cond_t rfl (sr (vp (.bool false) rfl (nx _ rfl (a_ret (b_ret (t_ret ?_))))))
        cases h
        have h := hX62
        refine t_ret (b_ret (t_ret ?_))
        cases h
        have h := hk38
        refine ⟨.inr rfl, ?_⟩
        rw [Try.results34]
        cases h
        exact ⟨_, _, _, _, _, rfl, trivial, .inl ⟨rfl, .inl rfl⟩, rfl, rfl⟩
def laws_eqPolyS_c : ACode := (.seq (.region 0 [q 4 (.asg 0 (.const (.bool false)) 4)] false) (.seq (.seq (.region 1 [q 6 (.mov (t 0)), q 7 (.blt 0 .len [(t 6)] [38]), q 8 (.mov (t 1)), q 9 (.blt 0 .len [(t 8)] [38]), q 10 (.bin .neq 3 (t 7) (t 9))] false) (.cond (t 10) (.seq (.region 2 [q 4 (.asg 0 (.const (.bool false)) 4)] false) .ret) .skip)) (.seq (.seq (.region 3 [q 5 (.asg 0 (.const (.int .i64 0)) 3)] false) (.block 0 (.loop (.seq (.seq (.region 4 [q 11 (.mov (t 5)), q 12 (.mov (t 0)), q 13 (.blt 0 .len [(t 12)] [38]), q 14 (.bin .lss 3 (t 11) (t 13))] false) (.cond (t 14) .skip (.exit 0))) (.seq (.block 1 (.seq (.region 6 [q 17 (.mov (t 0)), q 18 (.mov (t 5)), ⟨some 19, .indexAddr 38 (t 17) (t 18), none, [0, 1]⟩, ⟨some 20, .load 26 (t 19), none, [2]⟩, q 21 (.mov (t 1)), q 22 (.mov (t 5)), ⟨some 23, .indexAddr 38 (t 21) (t 22), none, [4, 5]⟩, ⟨some 24, .load 26 (t 23), none, [6]⟩, ⟨some 25, .call 0 (.func 34) [(t 20), (t 24)], none, [3, 7]⟩, ⟨some 26, .un .not (t 25), none, [8]⟩] true) (.cond (t 26) (.seq (.region 7 [q 4 (.asg 0 (.const (.bool false)) 4)] false) .ret) .skip))) (.region 5 [q 15 (.mov (t 5)), q 16 (.bin .add 3 (t 15) (.const (.int .i64 1))), q 5 (.asg 0 (t 16) 3)] false)))))) (.seq (.region 8 [q 4 (.asg 0 (.const (.bool true)) 4)] false) .ret))))
def laws_eqPolyS_L : Live := [(0, [0, 1]), (1, [0, 1]), (2, []), (3, [0, 1]), (4, [0, 1, 5]), (5, [0, 1, 5]), (6, [0, 1, 5]), (7, []), (8, []), (100010, [0, 1, 10]), (100014, [0, 1, 5, 14]), (100026, [0, 1, 5, 26])]
noncomputable def laws_eqPolyS_l1 (a0 : (List (Vec Int 64))) (a1 : (List (Vec Int 64))) (x66 : Int) : Option (Int ⊕ (Unit ⊕ Bool)) :=
  (if (decide (x66 < (a0.length : Int))) then (ifp (0 ≤ x66 ∧ x66 < ((a0.length : Nat) : Int)) ((ifp (0 ≤ x66 ∧ x66 < ((a1.length : Nat) : Int)) ((Option.bind (laws_eqPoly (rd a0 x66.toNat) (rd a1 x66.toNat)) fun r95 => (if (!r95) then (some (.inr (.inr false))) else (some (.inl (IntKind.i64.wrap (x66 + 1)))))))))) else (some (.inr (((.inl ()))))))
noncomputable def laws_eqPolyS (a0 : (List (Vec Int 64))) (a1 : (List (Vec Int 64))) : Option Bool :=
  (if ((a0.length : Int) != (a1.length : Int)) then (some false) else (Option.bind (α := (Unit ⊕ Bool)) ((loopM (fun s : Int => laws_eqPolyS_l1 a0 a1 s) 0)) fun z => match z with | .inl _ => (some true) | .inr r99 => (some r99)))
theorem laws_eqPolyS_ok (a0 : (List (Vec Int 64))) (a1 : (List (Vec Int 64))) (r : Bool) (h : laws_eqPolyS a0 a1 = some r) : Den Try.prog 29 [(eSA64u8 a0), (eSA64u8 a1)] { r := (.bool r) } := by
  refine den_of (rs := [(.bool r)]) (ac := laws_eqPolyS_c) (L := laws_eqPolyS_L) (n := 27) (m := []) (c := Try.f29.body.getD .skip) good Try.func29 (by kernel_rfl) (by kernel_rfl) Try.ntmps29 rfl rfl (by kernel_rfl) rfl rfl ?_
  refine a_st (σ' := ⟨[(0, (eSA64u8 a0)), (1, (eSA64u8 a1))], []⟩) (by kernel_rfl) ?_
  unfold laws_eqPolyS_c
  refine sr (vp (.bool false) rfl (nx ⟨[(0, (eSA64u8 a0)), (1, (eSA64u8 a1))], []⟩ (by kernel_rfl) (a_seq (sr (vp (eSA64u8 a0) rfl (vq (i6 (a0.length : Int)) (len_run rfl rfl) trivial (vp (eSA64u8 a1) rfl (vq (i6 (a1.length : Int)) (len_run rfl rfl) trivial (vp (.bool (((a0.length : Int) != (a1.length : Int)))) rfl ?_)))))))))
  refine nx ⟨[(0, (eSA64u8 a0)), (1, (eSA64u8 a1)), (10, (.bool (((a0.length : Int) != (a1.length : Int)))))], []⟩ (by kernel_rfl) ?_
  cases hb1 : ((a0.length : Int) != (a1.length : Int))
  · have h := ite_f hb1 h
    refine a_cond_f rfl (a_skip (a_next (σ' := ⟨[(0, (eSA64u8 a0)), (1, (eSA64u8 a1))], []⟩) (by kernel_rfl) ?_))
    obtain ⟨y49, hy50, hk51⟩ := bind_some h
    clear h
    refine a_join (emb := fun (s : Unit) => ⟨[], []⟩) (pre := fun s => (.inl s) = y49) ?_ ?_
    · rintro _ rfl
      have h := hk51
      refine a_st (σ' := ⟨[], []⟩) (by kernel_rfl) (sr (vp (.bool true) rfl (nx _ rfl (a_ret ?_))))
      refine ⟨.inr rfl, ?_⟩
      rw [Try.results29]
      cases h
      exact ⟨_, _, _, _, _, rfl, trivial, .inl ⟨rfl, .inl rfl⟩, rfl, rfl⟩
    · have h := hy50
      refine sr (vp (i6 0) rfl (nx ⟨[(0, (eSA64u8 a0)), (1, (eSA64u8 a1)), (5, (i6 0))], []⟩ (by kernel_rfl) (a_block ?_)))
      refine a_loop (emb := fun (s : Int) => ⟨[(0, (eSA64u8 a0)), (1, (eSA64u8 a1)), (5, (i6 s))], []⟩) (body := (fun s : Int => laws_eqPolyS_l1 a0 a1 s)) (G := fun q => some q = some y49) h rfl ?_ (by kernel_rfl)
      rintro X81 x66 x82 h hX83
      have h : laws_eqPolyS_l1 a0 a1 x66 = some x82 := h
      refine a_st (σ' := ⟨[(0, (eSA64u8 a0)), (1, (eSA64u8 a1)), (5, (i6 x66))], []⟩) (by kernel_rfl) (a_seq (sr (vp (i6 x66) rfl (vp (eSA64u8 a0) rfl (vq (i6 (a0.length : Int)) (len_run rfl rfl) trivial (vp (.bool ((decide (x66 < (a0.length : Int))))) rfl (nx ⟨[(0, (eSA64u8 a0)), (1, (eSA64u8 a1)), (5, (i6 x66)), (14, (.bool ((decide (x66 < (a0.length : Int))))))], []⟩ (by kernel_rfl) ?_)))))))
      cases hb84 : (decide (x66 < (a0.length : Int)))
      · have h := ite_f hb84 h
        refine a_cond_f rfl (a_exit (t_exit ?_))
        cases h
        have h := hX83
        refine t_exit (b_exit ?_)
        exact j_leaf () (Option.some.inj h) (by kernel_rfl)
      · have h := ite_t hb84 h
        refine a_cond_t rfl (a_skip (a_next (σ' := ⟨[(0, (eSA64u8 a0)), (1, (eSA64u8 a1)), (5, (i6 x66))], []⟩) (by kernel_rfl) (a_seq (a_block (a_seq (a_draw [⟨[], [], [], []⟩, ⟨[], [], [], []⟩, ⟨[], [], [], [0, 1]⟩, ⟨[], [], [], [0, 1, 2]⟩, ⟨[], [], [], []⟩, ⟨[], [], [], []⟩, ⟨[], [], [], [4, 5]⟩, ⟨[], [], [], [4, 5, 6]⟩, ⟨[], [], [], [0, 1, 2, 3, 4, 5, 6, 7]⟩, ⟨[], [], [], [0, 1, 2, 3, 4, 5, 6, 7, 8]⟩] (by kernel_rfl) (dp (eSA64u8 a0) rfl (by kernel_rfl) (dp (i6 x66) rfl (by kernel_rfl) (d_cons ?_)))))))))
        obtain ⟨hc91, h⟩ := ifp_some h
        refine vq (.ref (.row 64 (a0.map eA64u8)) [x66.toNat] [x66.toNat * 64]) rfl (lmap hc91) (d_next (by kernel_rfl) (d_cons ?_))
        have hl92 : LdOk [x66.toNat] (.row 64 (a0.map eA64u8)) [x66.toNat * 64] 64 true (eA64u8 (rd a0 x66.toNat)) := (.row (llt hc91) rfl (.nil rfl rfl rfl))
        refine vq (eA64u8 (rd a0 x66.toNat)) (ld_ref (i := ⟨.arr 64 5, 64, 64, (eA64u8 (vrep 64 (0 : Int)))⟩) rfl rfl hl92) hl92.c (d_next (by kernel_rfl) (dp (eSA64u8 a1) rfl (by kernel_rfl) (dp (i6 x66) rfl (by kernel_rfl) (d_cons ?_))))
        obtain ⟨hc93, h⟩ := ifp_some h
        refine vq (.ref (.row 64 (a1.map eA64u8)) [x66.toNat] [x66.toNat * 64]) rfl (lmap hc93) (d_next (by kernel_rfl) (d_cons ?_))
        have hl94 : LdOk [x66.toNat] (.row 64 (a1.map eA64u8)) [x66.toNat * 64] 64 true (eA64u8 (rd a1 x66.toNat)) := (.row (llt hc93) rfl (.nil rfl rfl rfl))
        refine vq (eA64u8 (rd a1 x66.toNat)) (ld_ref (i := ⟨.arr 64 5, 64, 64, (eA64u8 (vrep 64 (0 : Int)))⟩) rfl rfl hl94) hl94.c (d_next (by kernel_rfl) (d_cons ?_))
        obtain ⟨r95, hr96, h⟩ := bind_some h
        refine a_call (args := [(eA64u8 (rd a0 x66.toNat)), (eA64u8 (rd a1 x66.toNat))]) (u := []) (r := (.bool r95)) rfl rfl (laws_eqPoly_ok (rd a0 x66.toNat) (rd a1 x66.toNat) r95 hr96) rfl (d_next (by kernel_rfl) (dp (.bool (!r95)) rfl (by kernel_rfl) (d_nil (a_next (σ' := ⟨[(0, (eSA64u8 a0)), (1, (eSA64u8 a1)), (5, (i6 x66)), (26, (.bool (!r95)))], []⟩) (by kernel_rfl) ?_))))
        cases hb97 : (!r95)
        · have h := ite_f hb97 h
          refine a_cond_f rfl (a_skip (b_norm (a_next (σ' := ⟨[(0, (eSA64u8 a0)), (1, (eSA64u8 a1)), (5, (i6 x66))], []⟩) (by kernel_rfl) (a_region (vp (i6 x66) rfl (vp (i6 (IntKind.i64.wrap (x66 + 1))) rfl (vp (i6 (IntKind.i64.wrap (x66 + 1))) rfl (a_nil ?_))))))))
          cases h
          exact a_again (by kernel_rfl) hX83
        · have h := ite_t hb97 h
          refine a_cond_t rfl (sr (vp (.bool false) rfl (nx _ rfl (a_ret (b_ret (t_ret ?_))))))
          cases h
          have h := hX83
          refine t_ret (b_ret (t_ret ?_))
          cases h
          have h := hk51
          refine ⟨.inr rfl, ?_⟩
          rw [Try.results29]
          cases h
          exact ⟨_, _, _, _, _, rfl, trivial, .inl ⟨rfl, .inl rfl⟩, rfl, rfl⟩
  · have h := ite_t hb1 h
    refine a_cond_t rfl (sr (vp (.bool false) rfl (nx _ rfl (a_ret (t_ret ?_)))))
    refine ⟨.inr rfl, ?_⟩
    rw [Try.results29]
    cases h
    exact ⟨_, _, _, _, _, rfl, trivial, .inl ⟨rfl, .inl rfl⟩, rfl, rfl⟩
def laws_markPolyS_of_mut_c : ACode := (.seq (.region 0 [q 4 (.asg 0 (.const (.int .i64 0)) 3)] false) (.seq (.seq (.region 1 [q 5 (.asg 0 (.const (.int .i64 0)) 3)] false) (.block 0 (.loop (.seq (.seq (.region 2 [q 7 (.mov (t 5)), q 8 (.mov (t 0)), q 9 (.blt 0 .len [(t 8)] [38]), q 10 (.bin .lss 3 (t 7) (t 9))] false) (.cond (t 10) .skip (.exit 0))) (.seq (.block 1 (.seq (.region 4 [q 6 (.asg 0 (.const (.int .i64 0)) 3)] false) (.block 2 (.loop (.seq (.seq (.region 5 [q 13 (.mov (t 6)), q 14 (.bin .lss 3 (t 13) (.const (.int .i64 64)))] false) (.cond (t 14) .skip (.exit 2))) (.seq (.block 3 (.seq (.region 7 [q 17 (.mov (t 0)), q 18 (.mov (t 5)), q 19 (.mov (t 6)), q 20 (.mov (t 1)), q 21 (.conv 3 5 (t 20)), q 22 (.indexAddr 38 (t 17) (t 18)), q 23 (.indexAddr 26 (t 22) (t 19)), ⟨none, .store 5 (t 23) (t 21), none, []⟩] false) (.region 8 [q 24 (.mov (t 1)), q 25 (.bin .add 3 (t 24) (.const (.int .i64 1))), q 1 (.asg 0 (t 25) 3)] false))) (.region 6 [q 15 (.mov (t 6)), q 16 (.bin .add 3 (t 15) (.const (.int .i64 1))), q 6 (.asg 0 (t 16) 3)] false))))))) (.region 3 [q 11 (.mov (t 5)), q 12 (.bin .add 3 (t 11) (.const (.int .i64 1))), q 5 (.asg 0 (t 12) 3)] false)))))) (.seq (.region 9 [q 26 (.mov (t 1)), q 4 (.asg 0 (t 26) 3)] false) .ret)))
def laws_markPolyS_of_mut_L : Live := [(0, [0, 1]), (1, [0, 1]), (2, [0, 1, 5]), (3, [0, 1, 5]), (4, [0, 1, 5]), (5, [0, 1, 5, 6]), (6, [0, 1, 5, 6]), (7, [0, 1, 5, 6]), (8, [0, 1, 5, 6]), (9, [1]), (100010, [0, 1, 5, 10]), (100014, [0, 1, 5, 6, 14])]
noncomputable def laws_markPolyS_of_mut_l2 (x190 : Int) (x268 : Int) (x269 : Int) (x270 : (List (Vec Int 64))) : Option ((Int × Int × (List (Vec Int 64))) ⊕ (Int × (List (Vec Int 64)))) :=
  (if (decide (x269 < 64)) then (ifp (0 ≤ x190 ∧ x190 < ((x270.length : Nat) : Int)) ((ifp (0 ≤ x269 ∧ x269 < ((64 : Nat) : Int)) ((some (.inl ((IntKind.i64.wrap (x268 + 1), IntKind.i64.wrap (x269 + 1), (x270.set x190.toNat ((vset (rd x270 x190.toNat) x269.toNat (IntKind.u8.wrap x268)))))))))))) else (some (.inr (x268, x270))))
noncomputable def laws_markPolyS_of_mut_l1  (x189 : Int) (x190 : Int) (x191 : (List (Vec Int 64))) : Option ((Int × Int × (List (Vec Int 64))) ⊕ (Int × (List (Vec Int 64)))) :=
  (if (decide (x190 < (x191.length : Int))) then (Option.bind (α := (Int × (List (Vec Int 64)))) ((loopM (fun s : (Int × Int × (List (Vec Int 64))) => laws_markPolyS_of_mut_l2 x190 s.1 s.2.1 s.2.2) (x189, 0, x191))) fun ⟨x259, x260⟩ => (some (.inl ((x259, IntKind.i64.wrap (x190 + 1), x260))))) else (some (.inr (x189, x191))))
noncomputable def laws_markPolyS_of_mut (a0 : (List (Vec Int 64))) (a1 : Int) : Option (Int × (List (Vec Int 64))) :=
  (Option.bind (α := (Int × (List (Vec Int 64)))) ((loopM (fun s : (Int × Int × (List (Vec Int 64))) => laws_markPolyS_of_mut_l1 s.1 s.2.1 s.2.2) (a1, 0, a0))) fun ⟨x140, x141⟩ => (some (x140, x141)))
theorem laws_markPolyS_of_mut_ok (a0 : (List (Vec Int 64))) (a1 : Int) (r : (Int × (List (Vec Int 64)))) (h : laws_markPolyS_of_mut a0 a1 = some r) : Den Try.prog 30 [(.mutsl 64 (a0.map eA64u8)), (i6 a1)] { r := (i6 r.1), ms := [(.row 64 (r.2.map eA64u8))], fs := [] } := by
  refine den_ofX (rs := [(i6 r.1)]) (ac := laws_markPolyS_of_mut_c) (L := laws_markPolyS_of_mut_L) (n := 27) (m := []) (c := Try.f30.body.getD .skip) good Try.func30 (by kernel_rfl) (by kernel_rfl) Try.ntmps30 rfl rfl (by kernel_rfl) rfl ?_
  refine a_st (σ' := ⟨[(0, (.osl 1000000)), (1, (i6 a1))], [(1000000, (bk (.row 64 (a0.map eA64u8))))]⟩) (by kernel_rfl) ?_
  unfold laws_markPolyS_of_mut_c
  refine sr (vp (i6 0) rfl (nx ⟨[(0, (.osl 1000000)), (1, (i6 a1))], [(1000000, (bk (.row 64 (a0.map eA64u8))))]⟩ (by kernel_rfl) ?_))
  obtain ⟨y142, hy143, hk144⟩ := bind_some h
  clear h
  refine a_join (emb := fun (s : (Int × (List (Vec Int 64)))) => ⟨[(1, (i6 s.1))], [(1000000, (bk (.row 64 (s.2.map eA64u8))))]⟩) (pre := fun s => s = y142) ?_ ?_
  · rintro ⟨x140, x141⟩ rfl
    have h := hk144
    refine a_st (σ' := ⟨[(1, (i6 x140))], [(1000000, (bk (.row 64 (x141.map eA64u8))))]⟩) (by kernel_rfl) (sr (vp (i6 x140) rfl (vp (i6 x140) rfl (nx _ rfl (a_ret ?_)))))
    refine ⟨.inr rfl, ?_⟩
    rw [Try.results30]
    cases h
    exact ⟨[], ⟨_, _, _, _, _, rfl, trivial, rfl, .inl ⟨rfl, .inl rfl, ⟨rfl, rfl, rfl⟩⟩⟩, rfl, ⟨_, _, rfl, rfl, rfl⟩⟩
  · have h := hy143
    refine sr (vp (i6 0) rfl (nx ⟨[(0, (.osl 1000000)), (1, (i6 a1)), (5, (i6 0))], [(1000000, (bk (.row 64 (a0.map eA64u8))))]⟩ (by kernel_rfl) (a_block ?_)))
    refine a_loop (emb := fun (s : (Int × Int × (List (Vec Int 64)))) => ⟨[(0, (.osl 1000000)), (1, (i6 s.1)), (5, (i6 s.2.1))], [(1000000, (bk (.row 64 (s.2.2.map eA64u8))))]⟩) (body := (fun s : (Int × Int × (List (Vec Int 64))) => laws_markPolyS_of_mut_l1 s.1 s.2.1 s.2.2)) (G := fun q => some q = some y142) h rfl ?_ (by kernel_rfl)
    rintro X236 ⟨x189, x190, x191⟩ x237 h hX238
    have h : laws_markPolyS_of_mut_l1 x189 x190 x191 = some x237 := h
    refine a_st (σ' := ⟨[(0, (.osl 1000000)), (1, (i6 x189)), (5, (i6 x190))], [(1000000, (bk (.row 64 (x191.map eA64u8))))]⟩) (by kernel_rfl) (a_seq (sr (vp (i6 x190) rfl (vp (.osl 1000000) rfl (vq (i6 (x191.length : Int)) (leno_run rfl rfl rfl) trivial (vp (.bool ((decide (x190 < (x191.length : Int))))) rfl (nx ⟨[(0, (.osl 1000000)), (1, (i6 x189)), (5, (i6 x190)), (10, (.bool ((decide (x190 < (x191.length : Int))))))], [(1000000, (bk (.row 64 (x191.map eA64u8))))]⟩ (by kernel_rfl) ?_)))))))
    cases hb239 : (decide (x190 < (x191.length : Int)))
    · have h := ite_f hb239 h
      refine a_cond_f rfl (a_exit (t_exit ?_))
      cases h
      have h := hX238
      refine t_exit (b_exit ?_)
      exact j_leaf (x189, x191) (Option.some.inj h) (by kernel_rfl)
    · have h := ite_t hb239 h
      refine a_cond_t rfl (a_skip (a_next (σ' := ⟨[(0, (.osl 1000000)), (1, (i6 x189)), (5, (i6 x190))], [(1000000, (bk (.row 64 (x191.map eA64u8))))]⟩) (by kernel_rfl) ?_))
      obtain ⟨y261, hy262, hk263⟩ := bind_some h
      clear h
      refine a_join (emb := fun (s : (Int × (List (Vec Int 64)))) => ⟨[(0, (.osl 1000000)), (1, (i6 s.1)), (5, (i6 x190))], [(1000000, (bk (.row 64 (s.2.map eA64u8))))]⟩) (pre := fun s => s = y261) ?_ ?_
      · rintro ⟨x259, x260⟩ rfl
        have h := hk263
        refine a_st (σ' := ⟨[(0, (.osl 1000000)), (1, (i6 x259)), (5, (i6 x190))], [(1000000, (bk (.row 64 (x260.map eA64u8))))]⟩) (by kernel_rfl) (a_region (vp (i6 x190) rfl (vp (i6 (IntKind.i64.wrap (x190 + 1))) rfl (vp (i6 (IntKind.i64.wrap (x190 + 1))) rfl (a_nil ?_)))))
        cases h
        exact a_again (by kernel_rfl) hX238
      · have h := hy262
        refine a_block (sr (vp (i6 0) rfl (nx ⟨[(0, (.osl 1000000)), (1, (i6 x189)), (5, (i6 x190)), (6, (i6 0))], [(1000000, (bk (.row 64 (x191.map eA64u8))))]⟩ (by kernel_rfl) (a_block ?_))))
        refine a_loop (emb := fun (s : (Int × Int × (List (Vec Int 64)))) => ⟨[(0, (.osl 1000000)), (1, (i6 s.1)), (5, (i6 x190)), (6, (i6 s.2.1))], [(1000000, (bk (.row 64 (s.2.2.map eA64u8))))]⟩) (body := (fun s : (Int × Int × (List (Vec Int 64))) => laws_markPolyS_of_mut_l2 x190 s.1 s.2.1 s.2.2)) (G := fun q => some q = some y261) h rfl ?_ (by kernel_rfl)
        rintro X275 ⟨x268, x269, x270⟩ x276 h hX277
        have h : laws_markPolyS_of_mut_l2 x190 x268 x269 x270 = some x276 := h
        refine a_st (σ' := ⟨[(0, (.osl 1000000)), (1, (i6 x268)), (5, (i6 x190)), (6, (i6 x269))], [(1000000, (bk (.row 64 (x270.map eA64u8))))]⟩) (by kernel_rfl) (a_seq (sr (vp (i6 x269) rfl (vp (.bool ((decide (x269 < 64)))) rfl (nx ⟨[(0, (.osl 1000000)), (1, (i6 x268)), (5, (i6 x190)), (6, (i6 x269)), (14, (.bool ((decide (x269 < 64)))))], [(1000000, (bk (.row 64 (x270.map eA64u8))))]⟩ (by kernel_rfl) ?_)))))
        cases hb278 : (decide (x269 < 64))
        · have h := ite_f hb278 h
          refine a_cond_f rfl (a_exit (t_exit ?_))
          cases h
          have h := hX277
          refine t_exit (b_exit (b_norm ?_))
          exact j_leaf (x268, x270) (Option.some.inj h) (by kernel_rfl)
        · have h := ite_t hb278 h
          refine a_cond_t rfl (a_skip (a_next (σ' := ⟨[(0, (.osl 1000000)), (1, (i6 x268)), (5, (i6 x190)), (6, (i6 x269))], [(1000000, (bk (.row 64 (x270.map eA64u8))))]⟩) (by kernel_rfl) (a_seq (a_block (sr (vp (.osl 1000000) rfl (vp (i6 x190) rfl (vp (i6 x269) rfl (vp (i6 x268) rfl ?_)))))))))
          refine vp (b8 (IntKind.u8.wrap x268)) rfl ?_
          obtain ⟨hc279, h⟩ := ifp_some h
          refine vq (.own 1000000 [x190.toNat] [x190.toNat * 64]) rfl (lmap hc279) ?_
          obtain ⟨hc280, h⟩ := ifp_some h
          refine vq (.own 1000000 [x190.toNat, x269.toNat] [x190.toNat * 64, x269.toNat * 1]) rfl hc280 ?_
          have hs281 : StOk [x190.toNat, x269.toNat] (.row 64 (x270.map eA64u8)) [x190.toNat * 64, x269.toNat * 1] 1 (b8 (IntKind.u8.wrap x268)) (.row 64 (((x270.set x190.toNat ((vset (rd x270 x190.toNat) x269.toNat (IntKind.u8.wrap x268))))).map eA64u8)) := (.row (y := (vset (rd x270 x190.toNat) x269.toNat (IntKind.u8.wrap x268))) (llt hc279) rfl (.arr (y := IntKind.u8.wrap x268) (vlt (rd x270 x190.toNat) hc280) rfl (.nil rfl rfl rfl rfl)))
          refine vu .top [(1000000, (bk (.row 64 (((x270.set x190.toNat ((vset (rd x270 x190.toNat) x269.toNat (IntKind.u8.wrap x268))))).map eA64u8))))] (st_own (i := ⟨.int .u8, 1, 1, (.int .u8 0)⟩) rfl rfl (fun _ => rfl) rfl hs281) (hs281.c rfl) rfl (nx ⟨[(0, (.osl 1000000)), (1, (i6 x268)), (5, (i6 x190)), (6, (i6 x269))], [(1000000, (bk (.row 64 (((x270.set x190.toNat ((vset (rd x270 x190.toNat) x269.toNat (IntKind.u8.wrap x268))))).map eA64u8))))]⟩ (by kernel_rfl) (a_region (vp (i6 x268) rfl (vp (i6 (IntKind.i64.wrap (x268 + 1))) rfl (vp (i6 (IntKind.i64.wrap (x268 + 1))) rfl (a_nil (b_norm (a_next (σ' := ⟨[(0, (.osl 1000000)), (1, (i6 (IntKind.i64.wrap (x268 + 1)))), (5, (i6 x190)), (6, (i6 x269))], [(1000000, (bk (.row 64 (((x270.set x190.toNat ((vset (rd x270 x190.toNat) x269.toNat (IntKind.u8.wrap x268))))).map eA64u8))))]⟩) (by kernel_rfl) (a_region ?_)))))))))
          refine vp (i6 x269) rfl (vp (i6 (IntKind.i64.wrap (x269 + 1))) rfl (vp (i6 (IntKind.i64.wrap (x269 + 1))) rfl (a_nil ?_)))
          cases h
          exact a_again (by kernel_rfl) hX277
def laws_heldPolyS_c : ACode := (.seq (.region 0 [q 4 (.asg 0 (.const (.int .i64 0)) 3)] false) (.seq (.seq (.region 1 [q 5 (.asg 0 (.const (.int .i64 0)) 3)] false) (.block 0 (.loop (.seq (.seq (.region 2 [q 7 (.mov (t 5)), q 8 (.mov (t 0)), q 9 (.blt 0 .len [(t 8)] [38]), q 10 (.bin .lss 3 (t 7) (t 9))] false) (.cond (t 10) .skip (.exit 0))) (.seq (.block 1 (.seq (.region 4 [q 6 (.asg 0 (.const (.int .i64 0)) 3)] false) (.block 2 (.loop (.seq (.seq (.region 5 [q 13 (.mov (t 6)), q 14 (.bin .lss 3 (t 13) (.const (.int .i64 64)))] false) (.cond (t 14) .skip (.exit 2))) (.seq (.block 3 (.seq (.seq (.region 7 [q 17 (.mov (t 0)), q 18 (.mov (t 5)), q 19 (.mov (t 6)), q 20 (.indexAddr 38 (t 17) (t 18)), q 21 (.indexAddr 26 (t 20) (t 19)), q 22 (.load 5 (t 21)), q 23 (.mov (t 1)), q 24 (.conv 3 5 (t 23)), q 25 (.bin .neq 5 (t 22) (t 24))] false) (.cond (t 25) (.seq (.region 8 [q 4 (.asg 0 (.const (.int .i64 (-1))) 3)] false) .ret) .skip)) (.region 9 [q 26 (.mov (t 1)), q 27 (.bin .add 3 (t 26) (.const (.int .i64 1))), q 1 (.asg 0 (t 27) 3)] false))) (.region 6 [q 15 (.mov (t 6)), q 16 (.bin .add 3 (t 15) (.const (.int .i64 1))), q 6 (.asg 0 (t 16) 3)] false))))))) (.region 3 [q 11 (.mov (t 5)), q 12 (.bin .add 3 (t 11) (.const (.int .i64 1))), q 5 (.asg 0 (t 12) 3)] false)))))) (.seq (.region 10 [q 28 (.mov (t 1)), q 4 (.asg 0 (t 28) 3)] false) .ret)))
def laws_heldPolyS_L : Live := [(0, [0, 1]), (1, [0, 1]), (2, [0, 1, 5]), (3, [0, 1, 5]), (4, [0, 1, 5]), (5, [0, 1, 5, 6]), (6, [0, 1, 5, 6]), (7, [0, 1, 5, 6]), (8, []), (9, [0, 1, 5, 6]), (10, [1]), (100010, [0, 1, 5, 10]), (100014, [0, 1, 5, 6, 14]), (100025, [0, 1, 5, 6, 25])]
noncomputable def laws_heldPolyS_l2 (x252 : Int) (a0 : (List (Vec Int 64))) (x355 : Int) (x356 : Int) : Option ((Int × Int) ⊕ (Int ⊕ Int)) :=
  (if (decide (x356 < 64)) then (ifp (0 ≤ x252 ∧ x252 < ((a0.length : Nat) : Int)) ((ifp (0 ≤ x356 ∧ x356 < ((64 : Nat) : Int)) ((letp ((((rd (rd a0 x252.toNat).1 x356.toNat)) != (IntKind.u8.wrap x355))) fun x371 => (if x371 then (some (.inr ((.inr (-1))))) else (some (.inl ((IntKind.i64.wrap (x355 + 1), IntKind.i64.wrap (x356 + 1))))))))))) else (some (.inr (.inl x355))))
noncomputable def laws_heldPolyS_l1 (a0 : (List (Vec Int 64))) (x251 : Int) (x252 : Int) : Option ((Int × Int) ⊕ (Int ⊕ Int)) :=
  (if (decide (x252 < (a0.length : Int))) then (Option.bind (α := (Int ⊕ Int)) ((loopM (fun s : (Int × Int) => laws_heldPolyS_l2 x252 a0 s.1 s.2) (x251, 0))) fun z => match z with | .inl x344 => (some (.inl ((x344, IntKind.i64.wrap (x252 + 1))))) | .inr r375 => (some (.inr (.inr r375)))) else (some (.inr (.inl x251))))
noncomputable def laws_heldPolyS (a0 : (List (Vec Int 64))) (a1 : Int) : Option Int :=
  (Option.bind (α := (Int ⊕ Int)) ((loopM (fun s : (Int × Int) => laws_heldPolyS_l1 a0 s.1 s.2) (a1, 0))) fun z => match z with | .inl x187 => (some x187) | .inr r377 => (some r377))
theorem laws_heldPolyS_ok (a0 : (List (Vec Int 64))) (a1 : Int) (r : Int) (h : laws_heldPolyS a0 a1 = some r) : Den Try.prog 31 [(eSA64u8 a0), (i6 a1)] { r := (i6 r) } := by
  refine den_of (rs := [(i6 r)]) (ac := laws_heldPolyS_c) (L := laws_heldPolyS_L) (n := 29) (m := []) (c := Try.f31.body.getD .skip) good Try.func31 (by kernel_rfl) (by kernel_rfl) Try.ntmps31 rfl rfl (by kernel_rfl) rfl rfl ?_
  refine a_st (σ' := ⟨[(0, (eSA64u8 a0)), (1, (i6 a1))], []⟩) (by kernel_rfl) ?_
  unfold laws_heldPolyS_c
  refine sr (vp (i6 0) rfl (nx ⟨[(0, (eSA64u8 a0)), (1, (i6 a1))], []⟩ (by kernel_rfl) ?_))
  obtain ⟨y188, hy189, hk190⟩ := bind_some h
  clear h
  refine a_join (emb := fun (s : Int) => ⟨[(1, (i6 s))], []⟩) (pre := fun s => (.inl s) = y188) ?_ ?_
  · rintro x187 rfl
    have h := hk190
    refine a_st (σ' := ⟨[(1, (i6 x187))], []⟩) (by kernel_rfl) (sr (vp (i6 x187) rfl (vp (i6 x187) rfl (nx _ rfl (a_ret ?_)))))
    refine ⟨.inr rfl, ?_⟩
    rw [Try.results31]
    cases h
    exact ⟨_, _, _, _, _, rfl, trivial, .inl ⟨rfl, .inl rfl⟩, rfl, rfl⟩
  · have h := hy189
    refine sr (vp (i6 0) rfl (nx ⟨[(0, (eSA64u8 a0)), (1, (i6 a1)), (5, (i6 0))], []⟩ (by kernel_rfl) (a_block ?_)))
    refine a_loop (emb := fun (s : (Int × Int)) => ⟨[(0, (eSA64u8 a0)), (1, (i6 s.1)), (5, (i6 s.2))], []⟩) (body := (fun s : (Int × Int) => laws_heldPolyS_l1 a0 s.1 s.2)) (G := fun q => some q = some y188) h rfl ?_ (by kernel_rfl)
    rintro X313 ⟨x251, x252⟩ x314 h hX315
    have h : laws_heldPolyS_l1 a0 x251 x252 = some x314 := h
    refine a_st (σ' := ⟨[(0, (eSA64u8 a0)), (1, (i6 x251)), (5, (i6 x252))], []⟩) (by kernel_rfl) (a_seq (sr (vp (i6 x252) rfl (vp (eSA64u8 a0) rfl (vq (i6 (a0.length : Int)) (len_run rfl rfl) trivial (vp (.bool ((decide (x252 < (a0.length : Int))))) rfl (nx ⟨[(0, (eSA64u8 a0)), (1, (i6 x251)), (5, (i6 x252)), (10, (.bool ((decide (x252 < (a0.length : Int))))))], []⟩ (by kernel_rfl) ?_)))))))
    cases hb316 : (decide (x252 < (a0.length : Int)))
    · have h := ite_f hb316 h
      refine a_cond_f rfl (a_exit (t_exit ?_))
      cases h
      have h := hX315
      refine t_exit (b_exit ?_)
      exact j_leaf x251 (Option.some.inj h) (by kernel_rfl)
    · have h := ite_t hb316 h
      refine a_cond_t rfl (a_skip (a_next (σ' := ⟨[(0, (eSA64u8 a0)), (1, (i6 x251)), (5, (i6 x252))], []⟩) (by kernel_rfl) ?_))
      obtain ⟨y345, hy346, hk347⟩ := bind_some h
      clear h
      refine a_join (emb := fun (s : Int) => ⟨[(0, (eSA64u8 a0)), (1, (i6 s)), (5, (i6 x252))], []⟩) (pre := fun s => (.inl s) = y345) ?_ ?_
      · rintro x344 rfl
        have h := hk347
        refine a_st (σ' := ⟨[(0, (eSA64u8 a0)), (1, (i6 x344)), (5, (i6 x252))], []⟩) (by kernel_rfl) (a_region (vp (i6 x252) rfl (vp (i6 (IntKind.i64.wrap (x252 + 1))) rfl (vp (i6 (IntKind.i64.wrap (x252 + 1))) rfl (a_nil ?_)))))
        cases h
        exact a_again (by kernel_rfl) hX315
      · have h := hy346
        refine a_block (sr (vp (i6 0) rfl (nx ⟨[(0, (eSA64u8 a0)), (1, (i6 x251)), (5, (i6 x252)), (6, (i6 0))], []⟩ (by kernel_rfl) (a_block ?_))))
        refine a_loop (emb := fun (s : (Int × Int)) => ⟨[(0, (eSA64u8 a0)), (1, (i6 s.1)), (5, (i6 x252)), (6, (i6 s.2))], []⟩) (body := (fun s : (Int × Int) => laws_heldPolyS_l2 x252 a0 s.1 s.2)) (G := fun q => some q = some y345) h rfl ?_ (by kernel_rfl)
        rintro X364 ⟨x355, x356⟩ x365 h hX366
        have h : laws_heldPolyS_l2 x252 a0 x355 x356 = some x365 := h
        refine a_st (σ' := ⟨[(0, (eSA64u8 a0)), (1, (i6 x355)), (5, (i6 x252)), (6, (i6 x356))], []⟩) (by kernel_rfl) (a_seq (sr (vp (i6 x356) rfl (vp (.bool ((decide (x356 < 64)))) rfl (nx ⟨[(0, (eSA64u8 a0)), (1, (i6 x355)), (5, (i6 x252)), (6, (i6 x356)), (14, (.bool ((decide (x356 < 64)))))], []⟩ (by kernel_rfl) ?_)))))
        cases hb367 : (decide (x356 < 64))
        · have h := ite_f hb367 h
          refine a_cond_f rfl (a_exit (t_exit ?_))
          cases h
          have h := hX366
          refine t_exit (b_exit (b_norm ?_))
          exact j_leaf x355 (Option.some.inj h) (by kernel_rfl)
        · have h := ite_t hb367 h
          refine a_cond_t rfl (a_skip (a_next (σ' := ⟨[(0, (eSA64u8 a0)), (1, (i6 x355)), (5, (i6 x252)), (6, (i6 x356))], []⟩) (by kernel_rfl) (a_seq (a_block (a_seq (sr (vp (eSA64u8 a0) rfl (vp (i6 x252) rfl (vp (i6 x356) rfl ?_)))))))))
          obtain ⟨hc368, h⟩ := ifp_some h
          refine vq (.ref (.row 64 (a0.map eA64u8)) [x252.toNat] [x252.toNat * 64]) rfl (lmap hc368) ?_
          obtain ⟨hc369, h⟩ := ifp_some h
          refine vq (.ref (.row 64 (a0.map eA64u8)) [x252.toNat, x356.toNat] [x252.toNat * 64, x356.toNat * 1]) rfl hc369 ?_
          have hl370 : LdOk [x252.toNat, x356.toNat] (.row 64 (a0.map eA64u8)) [x252.toNat * 64, x356.toNat * 1] 1 false (b8 ((rd (rd a0 x252.toNat).1 x356.toNat))) := (.row (llt hc368) rfl (.arr (vlt (rd a0 x252.toNat) hc369) rfl (.nil rfl rfl rfl)))
          refine vq (b8 ((rd (rd a0 x252.toNat).1 x356.toNat))) (ld_ref (i := ⟨.int .u8, 1, 1, (.int .u8 0)⟩) rfl rfl hl370) hl370.c (vp (i6 x355) rfl (vp (b8 (IntKind.u8.wrap x355)) rfl ?_))
          obtain ⟨x371, hx372, h⟩ := letp_some h
          refine a_val' (v := (.bool ((((rd (rd a0 x252.toNat).1 x356.toNat)) != (IntKind.u8.wrap x355))))) (v' := (.bool x371)) (u := []) (u' := []) rfl (congrArg (fun z => ((.bool z) : AV)) hx372) rfl trivial rfl (nx ⟨[(0, (eSA64u8 a0)), (1, (i6 x355)), (5, (i6 x252)), (6, (i6 x356)), (25, (.bool x371))], []⟩ (by kernel_rfl) ?_)
          cases hb373 : x371
          · have h := ite_f hb373 h
            refine a_cond_f rfl (a_skip (a_next (σ' := ⟨[(0, (eSA64u8 a0)), (1, (i6 x355)), (5, (i6 x252)), (6, (i6 x356))], []⟩) (by kernel_rfl) (a_region (vp (i6 x355) rfl (vp (i6 (IntKind.i64.wrap (x355 + 1))) rfl (vp (i6 (IntKind.i64.wrap (x355 + 1))) rfl (a_nil (b_norm (a_next (σ' := ⟨[(0, (eSA64u8 a0)), (1, (i6 (IntKind.i64.wrap (x355 + 1)))), (5, (i6 x252)), (6, (i6 x356))], []⟩) (by kernel_rfl) ?_)))))))))
            refine a_region (vp (i6 x356) rfl (vp (i6 (IntKind.i64.wrap (x356 + 1))) rfl (vp (i6 (IntKind.i64.wrap (x356 + 1))) rfl (a_nil ?_))))
            cases h
            exact a_again (by kernel_rfl) hX366
          · have h := ite_t hb373 h
            refine a_cond_t rfl (sr (vp (i6 (-1)) rfl (nx _ rfl (a_ret (t_ret (b_ret (t_ret ?_)))))))
            cases h
            have h := hX366
            refine t_ret (b_ret (b_ret (t_ret ?_)))
            cases h
            have h := hk347
            cases h
            have h := hX315
            refine t_ret (b_ret (t_ret ?_))
            cases h
            have h := hk190
            refine ⟨.inr rfl, ?_⟩
            rw [Try.results31]
            cases h
            exact ⟨_, _, _, _, _, rfl, trivial, .inl ⟨rfl, .inl rfl⟩, rfl, rfl⟩
def impl_polys_c : ACode := (.seq (.region 0 [q 2 (.asg 1 (.const (.slice none 0 0)) 38)] false) (.seq (.region 1 [q 3 (.asg 2 (.const (.slice none 0 0)) 38)] false) (.seq (.seq (.region 2 [q 6 (.mov (t 0)), q 7 (.blt 0 .len [(t 6)] [82]), q 8 (.mov (.const (.int .i64 0)))] false) (.block 0 (.loop (.seq (.region 3 [q 9 (.bin .lss 3 (t 8) (t 7))] false) (.seq (.cond (t 9) .skip (.exit 0)) (.seq (.block 1 (.seq (.region 4 [q 10 (.indexAddr 82 (t 6) (t 8)), q 11 (.load 66 (t 10)), q 5 (.asg 1 (t 11) 66)] false) (.region 5 [q 12 (.mov (t 3)), q 13 (.mov (t 5)), q 14 (.call 0 (.func 131) [(t 13)]), q 15 (.bslice 0 38 1 [(0, (t 14))]), q 16 (.blt 0 .append [(t 12), (t 15)] [38, 38]), q 3 (.asg 2 (t 16) 38)] false))) (.region 6 [q 17 (.bin .add 3 (t 8) (.const (.int .i64 1))), q 8 (.mov (t 17))] false))))))) (.seq (.region 7 [q 18 (.mov (t 3)), q 2 (.asg 1 (t 18) 38)] false) .ret))))
def impl_polys_L : Live := [(0, [0]), (1, [0]), (2, [0, 3]), (3, [3, 6, 7, 8]), (4, [3, 6, 7, 8]), (5, [3, 5, 6, 7, 8]), (6, [3, 6, 7, 8]), (7, [3]), (100009, [3, 6, 7, 8, 9])]
noncomputable def impl_polys_l1 (a0 : (List (List Int))) (x35 : Int) (x36 : (List (Vec Int 64))) : Option ((Int × (List (Vec Int 64))) ⊕ (List (Vec Int 64))) :=
  (if (decide (x35 < (a0.length : Int))) then (ifp (0 ≤ x35 ∧ x35 < ((a0.length : Nat) : Int)) ((Option.bind (impl_row_poly (rd a0 x35.toNat)) fun r49 => (ifp ((x36.length + ([r49] : List (Vec Int 64)).length) * 64 ≤ 140737488355328) ((some (.inl ((IntKind.i64.wrap (x35 + 1), (x36 ++ ([r49]))))))))))) else (some (.inr x36)))
noncomputable def impl_polys (a0 : (List (List Int))) : Option (List (Vec Int 64)) :=
  (Option.bind (α := (List (Vec Int 64))) ((loopM (fun s : (Int × (List (Vec Int 64))) => impl_polys_l1 a0 s.1 s.2) (0, []))) fun x25 => (some x25))
theorem impl_polys_ok (a0 : (List (List Int))) (r : (List (Vec Int 64))) (h : impl_polys a0 = some r) : Den Try.prog 64 [(eSSi64 a0)] { r := (eSA64u8 r) } := by
  refine den_of (rs := [(eSA64u8 r)]) (ac := impl_polys_c) (L := impl_polys_L) (n := 19) (m := [(2, 1), (3, 2), (5, 1)]) (c := Try.f64.body.getD .skip) good Try.func64 (by kernel_rfl) (by kernel_rfl) Try.ntmps64 rfl rfl (by kernel_rfl) rfl rfl ?_
  refine a_st (σ' := ⟨[(0, (eSSi64 a0))], []⟩) (by kernel_rfl) ?_
  unfold impl_polys_c
  refine sr (vp (eSA64u8 ([])) rfl (nx ⟨[(0, (eSSi64 a0))], []⟩ (by kernel_rfl) (sr (vu (.osl 1300) [(1300, (bk (.row 64 (([]).map eA64u8))))] rfl trivial rfl (nx ⟨[(0, (eSSi64 a0)), (3, (.osl 3))], [(3, (bk (.row 64 (([]).map eA64u8))))]⟩ (by kernel_rfl) ?_)))))
  obtain ⟨y26, hy27, hk28⟩ := bind_some h
  clear h
  refine a_join (emb := fun (s : (List (Vec Int 64))) => ⟨[(3, (.osl 3))], [(3, (bk (.row 64 (s.map eA64u8))))]⟩) (pre := fun s => s = y26) ?_ ?_
  · rintro x25 rfl
    have h := hk28
    refine a_st (σ' := ⟨[(3, (.osl 3))], [(3, (bk (.row 64 (x25.map eA64u8))))]⟩) (by kernel_rfl) (sr (vp (.osl 3) rfl (vu (eSA64u8 x25) [(3, (bf (.row 64 (x25.map eA64u8))))] rfl trivial rfl (nx _ rfl (a_ret ?_)))))
    refine ⟨.inr rfl, ?_⟩
    rw [Try.results64]
    cases h
    exact ⟨_, _, _, _, _, rfl, trivial, .inl ⟨rfl, .inl rfl⟩, rfl, rfl⟩
  · have h := hy27
    refine sr (vp (eSSi64 a0) rfl (vq (i6 (a0.length : Int)) (len_run rfl rfl) trivial (vp (i6 0) rfl (nx ⟨[(3, (.osl 3)), (6, (eSSi64 a0)), (7, (i6 (a0.length : Int))), (8, (i6 0))], [(3, (bk (.row 64 (([]).map eA64u8))))]⟩ (by kernel_rfl) (a_block ?_)))))
    refine a_loop (emb := fun (s : (Int × (List (Vec Int 64)))) => ⟨[(3, (.osl 3)), (6, (eSSi64 a0)), (7, (i6 (a0.length : Int))), (8, (i6 s.1))], [(3, (bk (.row 64 (s.2.map eA64u8))))]⟩) (body := (fun s : (Int × (List (Vec Int 64))) => impl_polys_l1 a0 s.1 s.2)) (G := fun q => some q = some y26) h rfl ?_ (by kernel_rfl)
    rintro X43 ⟨x35, x36⟩ x44 h hX45
    have h : impl_polys_l1 a0 x35 x36 = some x44 := h
    refine a_st (σ' := ⟨[(3, (.osl 3)), (6, (eSSi64 a0)), (7, (i6 (a0.length : Int))), (8, (i6 x35))], [(3, (bk (.row 64 (x36.map eA64u8))))]⟩) (by kernel_rfl) (sr (vp (.bool ((decide (x35 < (a0.length : Int))))) rfl (nx ⟨[(3, (.osl 3)), (6, (eSSi64 a0)), (7, (i6 (a0.length : Int))), (8, (i6 x35)), (9, (.bool ((decide (x35 < (a0.length : Int))))))], [(3, (bk (.row 64 (x36.map eA64u8))))]⟩ (by kernel_rfl) (a_seq ?_))))
    cases hb46 : (decide (x35 < (a0.length : Int)))
    · have h := ite_f hb46 h
      refine a_cond_f rfl (a_exit (t_exit ?_))
      cases h
      have h := hX45
      refine t_exit (b_exit ?_)
      exact j_leaf x36 (Option.some.inj h) (by kernel_rfl)
    · have h := ite_t hb46 h
      refine a_cond_t rfl (a_skip (a_next (σ' := ⟨[(3, (.osl 3)), (6, (eSSi64 a0)), (7, (i6 (a0.length : Int))), (8, (i6 x35))], [(3, (bk (.row 64 (x36.map eA64u8))))]⟩) (by kernel_rfl) (a_seq (a_block (sr ?_)))))
      obtain ⟨hc47, h⟩ := ifp_some h
      refine vq (.ref (.row 1 (a0.map eSi64)) [x35.toNat] [x35.toNat * 1]) rfl (lmap hc47) ?_
      have hl48 : LdOk [x35.toNat] (.row 1 (a0.map eSi64)) [x35.toNat * 1] 1 false (eSi64 (rd a0 x35.toNat)) := (.row (llt hc47) rfl (.nil rfl rfl rfl))
      refine vq (eSi64 (rd a0 x35.toNat)) (ld_ref (i := ⟨.slice 2, 1, 24, (eSi64 [])⟩) rfl rfl hl48) hl48.c (vp (eSi64 (rd a0 x35.toNat)) rfl (nx ⟨[(3, (.osl 3)), (5, (eSi64 (rd a0 x35.toNat))), (6, (eSSi64 a0)), (7, (i6 (a0.length : Int))), (8, (i6 x35))], [(3, (bk (.row 64 (x36.map eA64u8))))]⟩ (by kernel_rfl) (a_region (vp (.osl 3) rfl (vp (eSi64 (rd a0 x35.toNat)) rfl ?_)))))
      obtain ⟨r49, hr50, h⟩ := bind_some h
      refine a_call (args := [(eSi64 (rd a0 x35.toNat))]) (u := []) (r := (eA64u8 r49)) rfl rfl (impl_row_poly_ok (rd a0 x35.toNat) r49 hr50) rfl (vq (.sl 64 true (([r49]).map eA64u8)) rfl ⟨(Nat.le_of_ble_eq_true rfl), (Nat.le_of_ble_eq_true rfl), (all_cons ⟨(Nat.le_of_ble_eq_true rfl), rfl⟩ all_nil)⟩ ?_)
      obtain ⟨hc51, h⟩ := ifp_some h
      refine vu (.osl 2600) [(2600, (bk (.row 64 (((x36 ++ ([r49]))).map eA64u8)))), (3, none)] (app_run (i := ⟨.arr 64 5, 64, 64, (eA64u8 (vrep 64 (0 : Int)))⟩) (f := eA64u8) (l := x36) (l2 := [r49]) rfl rfl rfl rfl (fun _ => rfl) rfl rfl) (app_c (f := eA64u8) (s := 64) (sz := 64) (by' := 64) (u := []) (id := 3) hc51 (.inr rfl) rfl rfl rfl) rfl (vp (.osl 2600) rfl (a_nil (b_norm (a_next (σ' := ⟨[(3, (.osl 3)), (6, (eSSi64 a0)), (7, (i6 (a0.length : Int))), (8, (i6 x35))], [(3, (bk (.row 64 (((x36 ++ ([r49]))).map eA64u8))))]⟩) (by kernel_rfl) (a_region (vp (i6 (IntKind.i64.wrap (x35 + 1))) rfl (vp (i6 (IntKind.i64.wrap (x35 + 1))) rfl (a_nil ?_))))))))
      cases h
      exact a_again (by kernel_rfl) hX45
def impl_ConvergentsOf_c : ACode := (.seq (.region 0 [q 4 (.asg 1 (.const (.slice none 0 0)) 38), q 5 (.asg 1 (.const (.slice none 0 0)) 38), q 6 (.asg 0 (.const (.int .i64 0)) 2)] false) (.seq (.seq (.region 1 [q 10 (.mov (t 0)), q 11 (.mov (t 1)), q 12 (.call 0 (.func 61) [(t 10), (t 11)]), q 7 (.asg 0 (t 12) 2)] false) (.seq (.region 2 [q 13 (.mov (t 7)), q 14 (.bin .neq 2 (t 13) (.const (.int .i64 0)))] false) (.cond (t 14) (.seq (.region 3 [q 15 (.mov (t 7)), q 4 (.asg 1 (.const (.slice none 0 0)) 38), q 5 (.asg 1 (.const (.slice none 0 0)) 38), q 6 (.asg 0 (t 15) 2)] false) .ret) .skip))) (.seq (.seq (.region 4 [q 16 (.mov (t 1)), q 17 (.blt 0 .len [(t 16)] [38]), q 18 (.bin .lss 3 (t 17) (.const (.int .i64 1))), q 19 (.mov (t 18)), ⟨some 20, .mov (t 1), some (19, false), []⟩, ⟨some 21, .blt 0 .len [(t 20)] [38], some (19, false), []⟩, ⟨some 22, .bin .gtr 3 (t 21) (.const (.int .i64 30)), some (19, false), []⟩, q 23 (.pick (t 19) (.const (.bool true)) (t 22))] false) (.cond (t 23) (.seq (.region 5 [q 4 (.asg 1 (.const (.slice none 0 0)) 38), q 5 (.asg 1 (.const (.slice none 0 0)) 38), q 6 (.asg 0 (.const (.int .i64 2)) 2)] false) .ret) .skip)) (.seq (.region 6 [q 25 (.mov (t 0)), q 26 (.mov (t 1)), q 27 (.call 0 (.func 63) [(t 26)]), q 28 (.call 0 (.func 62) [(t 25), (t 27)]), q 24 (.mov (t 28)), q 29 (.extract (t 24) 0), q 30 (.extract (t 24) 1), q 8 (.asg 1 (t 29) 82), q 9 (.asg 1 (t 30) 82)] false) (.seq (.seq (.region 7 [q 31 (.mov (t 8)), q 32 (.blt 0 .len [(t 31)] [82]), q 33 (.mov (t 1)), q 34 (.blt 0 .len [(t 33)] [38]), q 35 (.bin .lss 3 (t 32) (t 34))] false) (.cond (t 35) (.seq (.region 8 [q 4 (.asg 1 (.const (.slice none 0 0)) 38), q 5 (.asg 1 (.const (.slice none 0 0)) 38), q 6 (.asg 0 (.const (.int .i64 3)) 2)] false) .ret) .skip)) (.seq (.region 9 [q 36 (.mov (t 8)), q 37 (.call 0 (.func 64) [(t 36)]), q 38 (.mov (t 9)), q 39 (.call 0 (.func 64) [(t 38)]), q 4 (.asg 1 (t 37) 38), q 5 (.asg 1 (t 39) 38), q 6 (.asg 0 (.const (.int .i64 0)) 2)] false) .ret))))))
def impl_ConvergentsOf_L : Live := [(0, [0, 1]), (1, [0, 1]), (2, [0, 1, 7]), (3, [7]), (4, [0, 1]), (5, []), (6, [0, 1]), (7, [1, 8, 9]), (8, []), (9, [8, 9]), (100014, [0, 1, 7, 14]), (100023, [0, 1, 23]), (100035, [8, 9, 35])]
noncomputable def impl_ConvergentsOf (a0 : Int) (a1 : (List (Vec Int 64))) : Option ((List (Vec Int 64)) × (List (Vec Int 64)) × Int) :=
  (Option.bind (impl_polysCode a0 a1) fun r1 => (if (r1 != 0) then (some ([], [], r1)) else (Option.bind (α := Bool) ((if (decide ((a1.length : Int) < 1)) then (some true) else (some ((decide ((a1.length : Int) > 30)))))) fun x5 => (if x5 then (some ([], [], 2)) else (Option.bind (impl_rows a1) fun r11 => (Option.bind (impl_prime_convergents a0 r11) fun r13 => (if (decide ((r13.1.length : Int) < (a1.length : Int))) then (some ([], [], 3)) else (Option.bind (impl_polys r13.1) fun r16 => (Option.bind (impl_polys r13.2) fun r18 => (some (r16, r18, 0)))))))))))
theorem impl_ConvergentsOf_ok (a0 : Int) (a1 : (List (Vec Int 64))) (r : ((List (Vec Int 64)) × (List (Vec Int 64)) × Int)) (h : impl_ConvergentsOf a0 a1 = some r) : Den Try.prog 28 [(i6 a0), (eSA64u8 a1)] { r := (.tuple [(eSA64u8 r.1), (eSA64u8 r.2.1), (i6 r.2.2)]) } := by
  refine den_of (rs := [(eSA64u8 r.1), (eSA64u8 r.2.1), (i6 r.2.2)]) (ac := impl_ConvergentsOf_c) (L := impl_ConvergentsOf_L) (n := 40) (m := [(4, 1), (5, 1), (8, 1), (9, 1)]) (c := Try.f28.body.getD .skip) good Try.func28 (by kernel_rfl) (by kernel_rfl) Try.ntmps28 rfl rfl (by kernel_rfl) rfl rfl ?_
  refine a_st (σ' := ⟨[(0, (i6 a0)), (1, (eSA64u8 a1))], []⟩) (by kernel_rfl) ?_
  unfold impl_ConvergentsOf_c
  refine sr (vp (eSA64u8 ([])) rfl (vp (eSA64u8 ([])) rfl (vp (i6 0) rfl (nx ⟨[(0, (i6 a0)), (1, (eSA64u8 a1))], []⟩ (by kernel_rfl) (a_seq (sr (vp (i6 a0) rfl (vp (eSA64u8 a1) rfl ?_))))))))
  obtain ⟨r1, hr2, h⟩ := bind_some h
  refine a_call (args := [(i6 a0), (eSA64u8 a1)]) (u := []) (r := (i6 r1)) rfl rfl (impl_polysCode_ok a0 a1 r1 hr2) rfl (vp (i6 r1) rfl (nx ⟨[(0, (i6 a0)), (1, (eSA64u8 a1)), (7, (i6 r1))], []⟩ (by kernel_rfl) (sr (vp (i6 r1) rfl (vp (.bool (r1 != 0)) rfl (nx ⟨[(0, (i6 a0)), (1, (eSA64u8 a1)), (7, (i6 r1)), (14, (.bool (r1 != 0)))], []⟩ (by kernel_rfl) ?_))))))
  cases hb3 : (r1 != 0)
  · have h := ite_f hb3 h
    refine a_cond_f rfl (a_skip (a_next (σ' := ⟨[(0, (i6 a0)), (1, (eSA64u8 a1))], []⟩) (by kernel_rfl) (a_seq ?_)))
    obtain ⟨y6, hy7, hk8⟩ := bind_some h
    clear h
    refine a_join (emb := fun (s : Bool) => ⟨[(0, (i6 a0)), (1, (eSA64u8 a1)), (23, (.bool s))], []⟩) (pre := fun s => s = y6) ?_ ?_
    · rintro x5 rfl
      have h := hk8
      refine a_st (σ' := ⟨[(0, (i6 a0)), (1, (eSA64u8 a1)), (23, (.bool x5))], []⟩) (by kernel_rfl) ?_
      cases hb10 : x5
      · have h := ite_f hb10 h
        refine a_cond_f rfl (a_skip (a_next (σ' := ⟨[(0, (i6 a0)), (1, (eSA64u8 a1))], []⟩) (by kernel_rfl) (sr (vp (i6 a0) rfl (vp (eSA64u8 a1) rfl ?_)))))
        obtain ⟨r11, hr12, h⟩ := bind_some h
        refine a_call (args := [(eSA64u8 a1)]) (u := []) (r := (eSSi64 r11)) rfl rfl (impl_rows_ok a1 r11 hr12) rfl ?_
        obtain ⟨r13, hr14, h⟩ := bind_some h
        refine a_call (args := [(i6 a0), (eSSi64 r11)]) (u := []) (r := (.tuple [(eSSi64 r13.1), (eSSi64 r13.2)])) rfl rfl (impl_prime_convergents_ok a0 r11 r13 hr14) rfl (vp (.tuple [(eSSi64 r13.1), (eSSi64 r13.2)]) rfl (vb (eSSi64 r13.1) rfl rfl (vb (eSSi64 r13.2) rfl rfl (vp (eSSi64 r13.1) rfl (vp (eSSi64 r13.2) rfl (nx ⟨[(1, (eSA64u8 a1)), (8, (eSSi64 r13.1)), (9, (eSSi64 r13.2))], []⟩ (by kernel_rfl) (a_seq (sr (vp (eSSi64 r13.1) rfl ?_)))))))))
        refine vq (i6 (r13.1.length : Int)) (len_run rfl rfl) trivial (vp (eSA64u8 a1) rfl (vq (i6 (a1.length : Int)) (len_run rfl rfl) trivial (vp (.bool ((decide ((r13.1.length : Int) < (a1.length : Int))))) rfl (nx ⟨[(8, (eSSi64 r13.1)), (9, (eSSi64 r13.2)), (35, (.bool ((decide ((r13.1.length : Int) < (a1.length : Int))))))], []⟩ (by kernel_rfl) ?_))))
        cases hb15 : (decide ((r13.1.length : Int) < (a1.length : Int)))
        · have h := ite_f hb15 h
          refine a_cond_f rfl (a_skip (a_next (σ' := ⟨[(8, (eSSi64 r13.1)), (9, (eSSi64 r13.2))], []⟩) (by kernel_rfl) (sr (vp (eSSi64 r13.1) rfl ?_))))
          obtain ⟨r16, hr17, h⟩ := bind_some h
          refine a_call (args := [(eSSi64 r13.1)]) (u := []) (r := (eSA64u8 r16)) rfl rfl (impl_polys_ok r13.1 r16 hr17) rfl (vp (eSSi64 r13.2) rfl ?_)
          obtain ⟨r18, hr19, h⟩ := bind_some h
          refine a_call (args := [(eSSi64 r13.2)]) (u := []) (r := (eSA64u8 r18)) rfl rfl (impl_polys_ok r13.2 r18 hr19) rfl (vp (eSA64u8 r16) rfl (vp (eSA64u8 r18) rfl (vp (i6 0) rfl (nx _ rfl (a_ret ?_)))))
          refine ⟨.inr rfl, ?_⟩
          rw [Try.results28]
          cases h
          exact ⟨_, _, _, _, _, rfl, trivial, .inl ⟨rfl, .inl rfl⟩, rfl, ⟨_, _, _, _, _, rfl, trivial, .inl ⟨rfl, .inl rfl⟩, rfl, ⟨_, _, _, _, _, rfl, trivial, .inl ⟨rfl, .inl rfl⟩, rfl, rfl⟩⟩⟩
        · have h := ite_t hb15 h
          refine a_cond_t rfl (sr (vp (eSA64u8 ([])) rfl (vp (eSA64u8 ([])) rfl (vp (i6 3) rfl (nx _ rfl (a_ret (t_ret ?_)))))))
          refine ⟨.inr rfl, ?_⟩
          rw [Try.results28]
          cases h
          exact ⟨_, _, _, _, _, rfl, trivial, .inl ⟨rfl, .inl rfl⟩, rfl, ⟨_, _, _, _, _, rfl, trivial, .inl ⟨rfl, .inl rfl⟩, rfl, ⟨_, _, _, _, _, rfl, trivial, .inl ⟨rfl, .inl rfl⟩, rfl, rfl⟩⟩⟩
      · have h := ite_t hb10 h
        refine a_cond_t rfl (sr (vp (eSA64u8 ([])) rfl (vp (eSA64u8 ([])) rfl (vp (i6 2) rfl (nx _ rfl (a_ret (t_ret ?_)))))))
        refine ⟨.inr rfl, ?_⟩
        rw [Try.results28]
        cases h
        exact ⟨_, _, _, _, _, rfl, trivial, .inl ⟨rfl, .inl rfl⟩, rfl, ⟨_, _, _, _, _, rfl, trivial, .inl ⟨rfl, .inl rfl⟩, rfl, ⟨_, _, _, _, _, rfl, trivial, .inl ⟨rfl, .inl rfl⟩, rfl, rfl⟩⟩⟩
    · have h := hy7
      refine a_region (vp (eSA64u8 a1) rfl (vq (i6 (a1.length : Int)) (len_run rfl rfl) trivial (vp (.bool ((decide ((a1.length : Int) < 1)))) rfl (vp (.bool ((decide ((a1.length : Int) < 1)))) rfl ?_))))
      cases hb9 : (decide ((a1.length : Int) < 1))
      · have h := ite_f hb9 h
        refine gp (eSA64u8 a1) rfl rfl (gq (i6 (a1.length : Int)) rfl (len_run rfl rfl) trivial (gp (.bool ((decide ((a1.length : Int) > 30)))) rfl rfl (vp (.bool ((decide ((a1.length : Int) > 30)))) rfl (a_nil ?_))))
        exact j_leaf ((decide ((a1.length : Int) > 30))) (Option.some.inj h) (by kernel_rfl)
      · have h := ite_t hb9 h
        refine a_gskip rfl (a_gskip rfl (a_gskip rfl (vp (.bool true) rfl (a_nil ?_))))
        exact j_leaf true (Option.some.inj h) (by kernel_rfl)
  · have h := ite_t hb3 h
    refine a_cond_t rfl (sr (vp (i6 r1) rfl (vp (eSA64u8 ([])) rfl (vp (eSA64u8 ([])) rfl (vp (i6 r1) rfl (nx _ rfl (a_ret (t_ret ?_))))))))
    refine ⟨.inr rfl, ?_⟩
    rw [Try.results28]
    cases h
    exact ⟨_, _, _, _, _, rfl, trivial, .inl ⟨rfl, .inl rfl⟩, rfl, ⟨_, _, _, _, _, rfl, trivial, .inl ⟨rfl, .inl rfl⟩, rfl, ⟨_, _, _, _, _, rfl, trivial, .inl ⟨rfl, .inl rfl⟩, rfl, rfl⟩⟩⟩
end Go.Proofs.Ytdhcpekngpndnaa
