/- Functions of the program: plain Lean functions, and that the program computes them. Printed by gen.py. -/
import Derived.Test.YtacebpbhddkelaaFnT
import Derived.Test.YtacebpbhddkelaaFn1
import Derived.Test.YtacebpbhddkelaaFn2
namespace Go.Proofs.Ytacebpbhddkelaa
open Go.Abs Go.Proofs
set_option linter.unusedSimpArgs false
set_option linter.unusedVariables false

def impl_row_at_c : ACode := (.seq (.region 0 [⟨some 4, .asg 0 (.const (.int .i64 0)) 2, none, []⟩] false) (.seq (.seq (.region 1 [⟨some 5, .mov (.tmp 1), none, []⟩, ⟨some 6, .mov (.tmp 0), none, []⟩, ⟨some 7, .blt 0 .len [(.tmp 6)] [66], none, []⟩, ⟨some 8, .bin .lss 3 (.tmp 5) (.tmp 7), none, []⟩] false) (.cond (.tmp 8) (.seq (.region 2 [⟨some 9, .mov (.tmp 0), none, []⟩, ⟨some 10, .mov (.tmp 1), none, []⟩, ⟨some 11, .indexAddr 66 (.tmp 9) (.tmp 10), none, []⟩, ⟨some 12, .load 2 (.tmp 11), none, []⟩, ⟨some 4, .asg 0 (.tmp 12) 2, none, []⟩] false) .ret) .skip)) (.seq (.region 3 [⟨some 4, .asg 0 (.const (.int .i64 0)) 2, none, []⟩] false) .ret)))
def impl_row_at_L : Live := [(0, [0, 1]), (1, [0, 1]), (2, [0, 1]), (3, []), (100008, [0, 1, 8])]
theorem impl_row_at_body : Try.f121.body = some (Try.f121.body.getD .skip) := by kernel_rfl
theorem impl_row_at_strip : strip [] (Try.f121.body.getD .skip) = impl_row_at_c := by kernel_rfl
noncomputable def impl_row_at (a0 : (List Int)) (a1 : Int) : Option Int :=
  (if (decide (a1 < (a0.length : Int))) then (ifp (0 ≤ a1 ∧ a1 < ((a0.length : Nat) : Int)) ((some (rd a0 a1.toNat)))) else (some 0))
set_option maxHeartbeats 16000000 in
theorem impl_row_at_ok (a0 : (List Int)) (a1 : Int) (r : Int) (h : impl_row_at a0 a1 = some r) : Den Try.prog 121 [(eSi64 a0), (.int .i64 a1)] { r := (.int .i64 r) } := by
  refine den_of (rs := [(.int .i64 r)]) (ac := impl_row_at_c) (L := impl_row_at_L) (n := 13) (m := []) good Try.func121 impl_row_at_body (by kernel_rfl) Try.ntmps121 rfl rfl impl_row_at_strip rfl rfl ?_
  refine a_st (σ' := ⟨[(0, (eSi64 a0)), (1, (.int .i64 a1))], []⟩) rfl ?_
  unfold impl_row_at_c
  refine a_seq ?_
  refine a_region ?_
  refine a_val (v := (.int .i64 0)) (u := []) rfl trivial rfl ?_
  refine a_nil ?_
  refine a_next (σ' := ⟨[(0, (eSi64 a0)), (1, (.int .i64 a1))], []⟩) rfl ?_
  refine a_seq ?_
  refine a_seq ?_
  refine a_region ?_
  refine a_val (v := (.int .i64 a1)) (u := []) rfl trivial rfl ?_
  refine a_val (v := (eSi64 a0)) (u := []) rfl trivial rfl ?_
  refine a_val (v := (.int .i64 (a0.length : Int))) (u := []) (len_run rfl rfl) trivial rfl ?_
  refine a_val (v := (.bool ((decide (a1 < (a0.length : Int)))))) (u := []) rfl trivial rfl ?_
  refine a_nil ?_
  refine a_next (σ' := ⟨[(0, (eSi64 a0)), (1, (.int .i64 a1)), (8, (.bool ((decide (a1 < (a0.length : Int))))))], []⟩) rfl ?_
  cases hb1 : (decide (a1 < (a0.length : Int)))
  · have h := ite_f hb1 h
    refine a_cond_f rfl ?_
    refine a_skip ?_
    refine a_next (σ' := ⟨[], []⟩) rfl ?_
    refine a_seq ?_
    refine a_region ?_
    refine a_val (v := (.int .i64 0)) (u := []) rfl trivial rfl ?_
    refine a_nil ?_
    refine a_next rfl ?_
    refine a_ret ?_
    refine ⟨.inr rfl, ?_⟩
    rw [Try.results121]
    cases h
    exact ⟨_, _, _, _, _, rfl, trivial, .inl ⟨rfl, .inl rfl⟩, rfl, rfl⟩
  · have h := ite_t hb1 h
    refine a_cond_t rfl ?_
    refine a_seq ?_
    refine a_region ?_
    refine a_val (v := (eSi64 a0)) (u := []) rfl trivial rfl ?_
    refine a_val (v := (.int .i64 a1)) (u := []) rfl trivial rfl ?_
    obtain ⟨hc2, h⟩ := ifp_some h
    refine a_val (v := (.ref (.row 1 (a0.map (AV.int .i64))) [a1.toNat] [a1.toNat * 1])) (u := []) rfl (lmap hc2) rfl ?_
    have hl3 : LdOk [a1.toNat] (.row 1 (a0.map (AV.int .i64))) [a1.toNat * 1] 1 false (.int .i64 (rd a0 a1.toNat)) := (.row (llt hc2) rfl (.nil rfl rfl rfl))
    refine a_val (v := (.int .i64 (rd a0 a1.toNat))) (u := []) (ld_ref (i := ⟨.int .i64, 1, 8, (.int .i64 0)⟩) rfl rfl hl3) hl3.c rfl ?_
    refine a_val (v := (.int .i64 (rd a0 a1.toNat))) (u := []) rfl trivial rfl ?_
    refine a_nil ?_
    refine a_next rfl ?_
    refine a_ret ?_
    refine t_ret ?_
    refine ⟨.inr rfl, ?_⟩
    rw [Try.results121]
    cases h
    exact ⟨_, _, _, _, _, rfl, trivial, .inl ⟨rfl, .inl rfl⟩, rfl, rfl⟩
def impl_prime_combine_c : ACode := (.seq (.region 0 [⟨some 8, .asg 1 (.const (.slice none 0 0)) 66, none, []⟩] false) (.seq (.region 1 [⟨some 11, .mov (.tmp 1), none, []⟩, ⟨some 12, .blt 0 .len [(.tmp 11)] [66], none, []⟩, ⟨some 13, .mov (.tmp 2), none, []⟩, ⟨some 14, .blt 0 .len [(.tmp 13)] [66], none, []⟩, ⟨some 15, .blt 0 .max [(.tmp 12), (.tmp 14)] [3, 3], none, []⟩, ⟨some 16, .mkslice 66 (.tmp 15) (.tmp 15), none, []⟩, ⟨some 9, .asg 2 (.tmp 16) 66, none, []⟩] false) (.seq (.seq (.region 2 [⟨some 17, .mov (.tmp 9), none, []⟩, ⟨some 18, .blt 0 .len [(.tmp 17)] [66], none, []⟩, ⟨some 19, .mov (.const (.int .i64 0)), none, []⟩] false) (.block 0 (.loop (.seq (.region 3 [⟨some 20, .bin .lss 3 (.tmp 19) (.tmp 18), none, []⟩] false) (.seq (.cond (.tmp 20) .skip (.exit 0)) (.seq (.block 1 (.seq (.region 4 [⟨some 21, .mov (.tmp 19), none, []⟩, ⟨some 10, .asg 0 (.tmp 21) 3, none, []⟩] false) (.region 5 [⟨some 22, .mov (.tmp 9), none, []⟩, ⟨some 23, .mov (.tmp 10), none, []⟩, ⟨some 24, .mov (.tmp 0), none, []⟩, ⟨some 25, .mov (.tmp 1), none, []⟩, ⟨some 26, .mov (.tmp 10), none, []⟩, ⟨some 27, .call 0 (.func 121) [(.tmp 25), (.tmp 26)], none, []⟩, ⟨some 28, .mov (.tmp 3), none, []⟩, ⟨some 29, .mov (.tmp 2), none, []⟩, ⟨some 30, .mov (.tmp 10), none, []⟩, ⟨some 31, .call 0 (.func 121) [(.tmp 29), (.tmp 30)], none, []⟩, ⟨some 32, .bin .mul 2 (.tmp 28) (.tmp 31), none, []⟩, ⟨some 33, .bin .add 2 (.tmp 27) (.tmp 32), none, []⟩, ⟨some 34, .call 0 (.func 110) [(.tmp 24), (.tmp 33)], none, []⟩, ⟨some 35, .indexAddr 66 (.tmp 22) (.tmp 23), none, []⟩, ⟨none, .store 2 (.tmp 35) (.tmp 34), none, []⟩] false))) (.region 6 [⟨some 36, .bin .add 3 (.tmp 19) (.const (.int .i64 1)), none, []⟩, ⟨some 19, .mov (.tmp 36), none, []⟩] false))))))) (.seq (.region 7 [⟨some 37, .mov (.tmp 9), none, []⟩, ⟨some 38, .call 0 (.func 111) [(.tmp 37)], none, []⟩, ⟨some 8, .asg 1 (.tmp 38) 66, none, []⟩] false) .ret))))
def impl_prime_combine_L : Live := [(0, [0, 1, 2, 3]), (1, [0, 1, 2, 3]), (2, [0, 1, 2, 3, 9]), (3, [0, 1, 2, 3, 9, 18, 19]), (4, [0, 1, 2, 3, 9, 18, 19]), (5, [0, 1, 2, 3, 9, 10, 18, 19]), (6, [0, 1, 2, 3, 9, 18, 19]), (7, [9]), (100020, [0, 1, 2, 3, 9, 18, 19, 20])]
theorem impl_prime_combine_body : Try.f125.body = some (Try.f125.body.getD .skip) := by kernel_rfl
theorem impl_prime_combine_strip : strip [(8, 1), (9, 2)] (Try.f125.body.getD .skip) = impl_prime_combine_c := by kernel_rfl
noncomputable def impl_prime_combine_l1 (x1 : Int) (a1 : (List Int)) (a2 : (List Int)) (a0 : Int) (a3 : Int) (x58 : Int) (x59 : (List Int)) : Option ((Int × (List Int)) ⊕ (List Int)) :=
  (letp ((decide (x58 < (((List.replicate x1.toNat (0 : Int)).length : Int))))) fun x74 => (if x74 then (Option.bind (impl_row_at a1 x58) fun r77 => (Option.bind (impl_row_at a2 x58) fun r79 => (Option.bind (impl_prime_reduce a0 (IntKind.i64.wrap (r77 + (IntKind.i64.wrap (a3 * r79))))) fun r81 => (ifp (0 ≤ x58 ∧ x58 < ((x59.length : Nat) : Int)) ((some (.inl ((IntKind.i64.wrap (x58 + 1), (x59.set x58.toNat r81)))))))))) else (some (.inr x59))))
noncomputable def impl_prime_combine (a0 : Int) (a1 : (List Int)) (a2 : (List Int)) (a3 : Int) : Option (List Int) :=
  (letp ((if (a2.length : Int) > (a1.length : Int) then (a2.length : Int) else (a1.length : Int))) fun x1 => (ifp (0 ≤ x1 ∧ x1 ≤ 140737488355328 ∧ 8 * x1 ≤ 140737488355328) ((Option.bind (α := (List Int)) ((loopM (fun s : (Int × (List Int)) => impl_prime_combine_l1 x1 a1 a2 a0 a3 s.1 s.2) (0, List.replicate x1.toNat (0 : Int)))) fun x43 => (Option.bind (impl_row_trimmed x43) fun r86 => (some r86))))))
set_option maxHeartbeats 16000000 in
theorem impl_prime_combine_ok (a0 : Int) (a1 : (List Int)) (a2 : (List Int)) (a3 : Int) (r : (List Int)) (h : impl_prime_combine a0 a1 a2 a3 = some r) : Den Try.prog 125 [(.int .i64 a0), (eSi64 a1), (eSi64 a2), (.int .i64 a3)] { r := (eSi64 r) } := by
  refine den_of (rs := [(eSi64 r)]) (ac := impl_prime_combine_c) (L := impl_prime_combine_L) (n := 39) (m := [(8, 1), (9, 2)]) good Try.func125 impl_prime_combine_body (by kernel_rfl) Try.ntmps125 rfl rfl impl_prime_combine_strip rfl rfl ?_
  refine a_st (σ' := ⟨[(0, (.int .i64 a0)), (1, (eSi64 a1)), (2, (eSi64 a2)), (3, (.int .i64 a3))], []⟩) rfl ?_
  unfold impl_prime_combine_c
  refine a_seq ?_
  refine a_region ?_
  refine a_val (v := (eSi64 ([]))) (u := []) rfl trivial rfl ?_
  refine a_nil ?_
  refine a_next (σ' := ⟨[(0, (.int .i64 a0)), (1, (eSi64 a1)), (2, (eSi64 a2)), (3, (.int .i64 a3))], []⟩) rfl ?_
  refine a_seq ?_
  refine a_region ?_
  refine a_val (v := (eSi64 a1)) (u := []) rfl trivial rfl ?_
  refine a_val (v := (.int .i64 (a1.length : Int))) (u := []) (len_run rfl rfl) trivial rfl ?_
  refine a_val (v := (eSi64 a2)) (u := []) rfl trivial rfl ?_
  refine a_val (v := (.int .i64 (a2.length : Int))) (u := []) (len_run rfl rfl) trivial rfl ?_
  obtain ⟨x1, hx2, h⟩ := letp_some h
  refine a_val' (v := (.int .i64 ((if (a2.length : Int) > (a1.length : Int) then (a2.length : Int) else (a1.length : Int))))) (v' := (.int .i64 x1)) (u := []) (u' := []) rfl (congrArg (fun z => ((.int .i64 z) : AV)) hx2) rfl trivial rfl ?_
  obtain ⟨hc3, h⟩ := ifp_some h
  refine a_val (v := (.osl 2600)) (u := [(2600, some ⟨(.row 1 ((List.replicate x1.toNat (0 : Int)).map (AV.int .i64))), false⟩)]) (mk_run (i := ⟨.int .i64, 1, 8, (.int .i64 0)⟩) (f := (AV.int .i64)) (y := (0 : Int)) rfl rfl rfl rfl rfl rfl) ⟨rfl, hc3.1, hc3.2.1, hc3.2.2, (Nat.le_of_ble_eq_true rfl)⟩ rfl ?_
  refine a_val (v := (.osl 2600)) (u := []) rfl trivial rfl ?_
  refine a_nil ?_
  refine a_next (σ' := ⟨[(0, (.int .i64 a0)), (1, (eSi64 a1)), (2, (eSi64 a2)), (3, (.int .i64 a3)), (9, (.osl 9))], [(9, some ⟨(.row 1 ((List.replicate x1.toNat (0 : Int)).map (AV.int .i64))), false⟩)]⟩) rfl ?_
  obtain ⟨y44, hy45, hk46⟩ := bind_some h
  clear h
  refine a_join (emb := fun (s : (List Int)) => ⟨[(9, (.osl 9))], [(9, some ⟨(.row 1 (s.map (AV.int .i64))), false⟩)]⟩) (pre := fun s => s = y44) ?_ ?_
  · rintro x43 rfl
    have h := hk46
    refine a_st (σ' := ⟨[(9, (.osl 9))], [(9, some ⟨(.row 1 (x43.map (AV.int .i64))), false⟩)]⟩) rfl ?_
    refine a_seq ?_
    refine a_region ?_
    refine a_val (v := (.osl 9)) (u := []) rfl trivial rfl ?_
    obtain ⟨r86, hr87, h⟩ := bind_some h
    refine a_call (args := [(eSi64 x43)]) (u := [(9, some ⟨(.row 1 (x43.map (AV.int .i64))), true⟩)]) (r := (eSi64 r86)) rfl rfl (impl_row_trimmed_ok x43 r86 hr87) rfl ?_
    refine a_val (v := (eSi64 r86)) (u := []) rfl trivial rfl ?_
    refine a_nil ?_
    refine a_next rfl ?_
    refine a_ret ?_
    refine ⟨.inr rfl, ?_⟩
    rw [Try.results125]
    cases h
    exact ⟨_, _, _, _, _, rfl, trivial, .inl ⟨rfl, .inl rfl⟩, rfl, rfl⟩
  · have h := hy45
    refine a_seq ?_
    refine a_region ?_
    refine a_val (v := (.osl 9)) (u := []) rfl trivial rfl ?_
    refine a_val (v := (.int .i64 (((List.replicate x1.toNat (0 : Int)).length : Int)))) (u := []) (leno_run rfl rfl rfl) trivial rfl ?_
    refine a_val (v := (.int .i64 0)) (u := []) rfl trivial rfl ?_
    refine a_nil ?_
    refine a_next (σ' := ⟨[(0, (.int .i64 a0)), (1, (eSi64 a1)), (2, (eSi64 a2)), (3, (.int .i64 a3)), (9, (.osl 9)), (18, (.int .i64 (((List.replicate x1.toNat (0 : Int)).length : Int)))), (19, (.int .i64 0))], [(9, some ⟨(.row 1 ((List.replicate x1.toNat (0 : Int)).map (AV.int .i64))), false⟩)]⟩) rfl ?_
    refine a_block ?_
    refine a_loop (emb := fun (s : (Int × (List Int))) => ⟨[(0, (.int .i64 a0)), (1, (eSi64 a1)), (2, (eSi64 a2)), (3, (.int .i64 a3)), (9, (.osl 9)), (18, (.int .i64 (((List.replicate x1.toNat (0 : Int)).length : Int)))), (19, (.int .i64 s.1))], [(9, some ⟨(.row 1 (s.2.map (AV.int .i64))), false⟩)]⟩) (body := (fun s : (Int × (List Int)) => impl_prime_combine_l1 x1 a1 a2 a0 a3 s.1 s.2)) (G := fun q => some q = some y44) h rfl ?_ rfl
    rintro X71 ⟨x58, x59⟩ x72 h hX73
    have h : impl_prime_combine_l1 x1 a1 a2 a0 a3 x58 x59 = some x72 := h
    refine a_st (σ' := ⟨[(0, (.int .i64 a0)), (1, (eSi64 a1)), (2, (eSi64 a2)), (3, (.int .i64 a3)), (9, (.osl 9)), (18, (.int .i64 (((List.replicate x1.toNat (0 : Int)).length : Int)))), (19, (.int .i64 x58))], [(9, some ⟨(.row 1 (x59.map (AV.int .i64))), false⟩)]⟩) rfl ?_
    refine a_seq ?_
    refine a_region ?_
    obtain ⟨x74, hx75, h⟩ := letp_some h
    refine a_val' (v := (.bool ((decide (x58 < (((List.replicate x1.toNat (0 : Int)).length : Int))))))) (v' := (.bool x74)) (u := []) (u' := []) rfl (congrArg (fun z => ((.bool z) : AV)) hx75) rfl trivial rfl ?_
    refine a_nil ?_
    refine a_next (σ' := ⟨[(0, (.int .i64 a0)), (1, (eSi64 a1)), (2, (eSi64 a2)), (3, (.int .i64 a3)), (9, (.osl 9)), (18, (.int .i64 (((List.replicate x1.toNat (0 : Int)).length : Int)))), (19, (.int .i64 x58)), (20, (.bool x74))], [(9, some ⟨(.row 1 (x59.map (AV.int .i64))), false⟩)]⟩) rfl ?_
    refine a_seq ?_
    cases hb76 : x74
    · have h := ite_f hb76 h
      refine a_cond_f rfl ?_
      refine a_exit ?_
      refine t_exit ?_
      cases h
      have h := hX73
      refine t_exit ?_
      refine b_exit ?_
      exact j_leaf x59 (Option.some.inj h) rfl
    · have h := ite_t hb76 h
      refine a_cond_t rfl ?_
      refine a_skip ?_
      refine a_next (σ' := ⟨[(0, (.int .i64 a0)), (1, (eSi64 a1)), (2, (eSi64 a2)), (3, (.int .i64 a3)), (9, (.osl 9)), (18, (.int .i64 (((List.replicate x1.toNat (0 : Int)).length : Int)))), (19, (.int .i64 x58))], [(9, some ⟨(.row 1 (x59.map (AV.int .i64))), false⟩)]⟩) rfl ?_
      refine a_seq ?_
      refine a_block ?_
      refine a_seq ?_
      refine a_region ?_
      refine a_val (v := (.int .i64 x58)) (u := []) rfl trivial rfl ?_
      refine a_val (v := (.int .i64 x58)) (u := []) rfl trivial rfl ?_
      refine a_nil ?_
      refine a_next (σ' := ⟨[(0, (.int .i64 a0)), (1, (eSi64 a1)), (2, (eSi64 a2)), (3, (.int .i64 a3)), (9, (.osl 9)), (10, (.int .i64 x58)), (18, (.int .i64 (((List.replicate x1.toNat (0 : Int)).length : Int)))), (19, (.int .i64 x58))], [(9, some ⟨(.row 1 (x59.map (AV.int .i64))), false⟩)]⟩) rfl ?_
      refine a_region ?_
      refine a_val (v := (.osl 9)) (u := []) rfl trivial rfl ?_
      refine a_val (v := (.int .i64 x58)) (u := []) rfl trivial rfl ?_
      refine a_val (v := (.int .i64 a0)) (u := []) rfl trivial rfl ?_
      refine a_val (v := (eSi64 a1)) (u := []) rfl trivial rfl ?_
      refine a_val (v := (.int .i64 x58)) (u := []) rfl trivial rfl ?_
      obtain ⟨r77, hr78, h⟩ := bind_some h
      refine a_call (args := [(eSi64 a1), (.int .i64 x58)]) (u := []) (r := (.int .i64 r77)) rfl rfl (impl_row_at_ok a1 x58 r77 hr78) rfl ?_
      refine a_val (v := (.int .i64 a3)) (u := []) rfl trivial rfl ?_
      refine a_val (v := (eSi64 a2)) (u := []) rfl trivial rfl ?_
      refine a_val (v := (.int .i64 x58)) (u := []) rfl trivial rfl ?_
      obtain ⟨r79, hr80, h⟩ := bind_some h
      refine a_call (args := [(eSi64 a2), (.int .i64 x58)]) (u := []) (r := (.int .i64 r79)) rfl rfl (impl_row_at_ok a2 x58 r79 hr80) rfl ?_
      refine a_val (v := (.int .i64 (IntKind.i64.wrap (a3 * r79)))) (u := []) rfl trivial rfl ?_
      refine a_val (v := (.int .i64 (IntKind.i64.wrap (r77 + (IntKind.i64.wrap (a3 * r79)))))) (u := []) rfl trivial rfl ?_
      obtain ⟨r81, hr82, h⟩ := bind_some h
      refine a_call (args := [(.int .i64 a0), (.int .i64 (IntKind.i64.wrap (r77 + (IntKind.i64.wrap (a3 * r79)))))]) (u := []) (r := (.int .i64 r81)) rfl rfl (impl_prime_reduce_ok a0 (IntKind.i64.wrap (r77 + (IntKind.i64.wrap (a3 * r79)))) r81 hr82) rfl ?_
      obtain ⟨hc83, h⟩ := ifp_some h
      refine a_val (v := (.own 9 [x58.toNat] [x58.toNat * 1])) (u := []) rfl (lmap hc83) rfl ?_
      have hs84 : StOk [x58.toNat] (.row 1 (x59.map (AV.int .i64))) [x58.toNat * 1] 1 (.int .i64 r81) (.row 1 ((x59.set x58.toNat r81).map (AV.int .i64))) := (.row (y := r81) (llt hc83) rfl (.nil rfl rfl rfl rfl))
      refine a_val (v := .top) (u := [(9, some ⟨(.row 1 ((x59.set x58.toNat r81).map (AV.int .i64))), false⟩)]) (st_own (i := ⟨.int .i64, 1, 8, (.int .i64 0)⟩) rfl rfl (fun _ => rfl) rfl hs84) (hs84.c rfl) rfl ?_
      refine a_nil ?_
      refine b_norm ?_
      refine a_next (σ' := ⟨[(0, (.int .i64 a0)), (1, (eSi64 a1)), (2, (eSi64 a2)), (3, (.int .i64 a3)), (9, (.osl 9)), (18, (.int .i64 (((List.replicate x1.toNat (0 : Int)).length : Int)))), (19, (.int .i64 x58))], [(9, some ⟨(.row 1 ((x59.set x58.toNat r81).map (AV.int .i64))), false⟩)]⟩) rfl ?_
      refine a_region ?_
      refine a_val (v := (.int .i64 (IntKind.i64.wrap (x58 + 1)))) (u := []) rfl trivial rfl ?_
      refine a_val (v := (.int .i64 (IntKind.i64.wrap (x58 + 1)))) (u := []) rfl trivial rfl ?_
      refine a_nil ?_
      cases h
      exact a_again rfl hX73
def impl_IsPoly_c : ACode := (.seq (.region 0 [⟨some 3, .box 23 (.tmp 1), none, []⟩, ⟨some 4, .asg 0 (.const (.bool false)) 4, none, []⟩] false) (.seq (.region 1 [⟨some 5, .mov (.tmp 0), none, []⟩, ⟨some 6, .call 0 (.func 59) [(.tmp 5)], none, []⟩, ⟨some 7, .mov (.tmp 6), none, []⟩, ⟨some 8, .mov (.tmp 0), some (7, true), []⟩, ⟨some 9, .load 23 (.tmp 3), some (7, true), []⟩, ⟨some 10, .call 0 (.func 106) [(.tmp 8), (.tmp 9)], some (7, true), []⟩, ⟨some 11, .pick (.tmp 7) (.tmp 10) (.const (.bool false)), none, []⟩, ⟨some 4, .asg 0 (.tmp 11) 4, none, []⟩] false) .ret))
def impl_IsPoly_L : Live := [(0, [0, 1]), (1, [0, 3])]
theorem impl_IsPoly_body : Try.f63.body = some (Try.f63.body.getD .skip) := by kernel_rfl
theorem impl_IsPoly_strip : strip [] (Try.f63.body.getD .skip) = impl_IsPoly_c := by kernel_rfl
noncomputable def impl_IsPoly (a0 : Int) (a1 : (Vec Int 64)) : Option Bool :=
  (Option.bind (impl_isPrime a0) fun r1 => (if r1 then (Option.bind (impl_isPoly a0 a1) fun r5 => (some r5)) else (some false)))
set_option maxHeartbeats 16000000 in
theorem impl_IsPoly_ok (a0 : Int) (a1 : (Vec Int 64)) (r : Bool) (h : impl_IsPoly a0 a1 = some r) : Den Try.prog 63 [(.int .i64 a0), (eA64u8 a1)] { r := (.bool r) } := by
  refine den_of (rs := [(.bool r)]) (ac := impl_IsPoly_c) (L := impl_IsPoly_L) (n := 12) (m := []) good Try.func63 impl_IsPoly_body (by kernel_rfl) Try.ntmps63 rfl rfl impl_IsPoly_strip rfl rfl ?_
  refine a_st (σ' := ⟨[(0, (.int .i64 a0)), (1, (eA64u8 a1))], []⟩) rfl ?_
  unfold impl_IsPoly_c
  refine a_seq ?_
  refine a_region ?_
  refine a_val (v := (.own 1300 [] [])) (u := [(1300, some ⟨(eA64u8 a1), false⟩)]) rfl trivial rfl ?_
  refine a_val (v := (.bool false)) (u := []) rfl trivial rfl ?_
  refine a_nil ?_
  refine a_next (σ' := ⟨[(0, (.int .i64 a0)), (3, (.own 3 [] []))], [(3, some ⟨(eA64u8 a1), false⟩)]⟩) rfl ?_
  refine a_seq ?_
  refine a_region ?_
  refine a_val (v := (.int .i64 a0)) (u := []) rfl trivial rfl ?_
  obtain ⟨r1, hr2, h⟩ := bind_some h
  refine a_call (args := [(.int .i64 a0)]) (u := []) (r := (.bool r1)) rfl rfl (impl_isPrime_ok a0 r1 hr2) rfl ?_
  refine a_val (v := (.bool r1)) (u := []) rfl trivial rfl ?_
  cases hb3 : r1
  · have h := ite_f hb3 h
    refine a_gskip rfl ?_
    refine a_gskip rfl ?_
    refine a_gskip rfl ?_
    refine a_val (v := (.bool false)) (u := []) rfl trivial rfl ?_
    refine a_val (v := (.bool false)) (u := []) rfl trivial rfl ?_
    refine a_nil ?_
    refine a_next rfl ?_
    refine a_ret ?_
    refine ⟨.inr rfl, ?_⟩
    rw [Try.results63]
    cases h
    exact ⟨_, _, _, _, _, rfl, trivial, .inl ⟨rfl, .inl rfl⟩, rfl, rfl⟩
  · have h := ite_t hb3 h
    refine a_gval rfl (v := (.int .i64 a0)) (u := []) rfl trivial rfl ?_
    have hl4 : LdOk [] (eA64u8 a1) [] 64 true (eA64u8 a1) := (.nil rfl rfl rfl)
    refine a_gval rfl (v := (eA64u8 a1)) (u := []) (ld_own (i := ⟨.arr 64 5, 64, 64, (eA64u8 (vrep 64 (0 : Int)))⟩) rfl rfl rfl hl4) hl4.c rfl ?_
    obtain ⟨r5, hr6, h⟩ := bind_some h
    refine a_gcall rfl (args := [(.int .i64 a0), (eA64u8 a1)]) (u := []) (r := (.bool r5)) rfl rfl (impl_isPoly_ok a0 a1 r5 hr6) rfl ?_
    refine a_val (v := (.bool r5)) (u := []) rfl trivial rfl ?_
    refine a_val (v := (.bool r5)) (u := []) rfl trivial rfl ?_
    refine a_nil ?_
    refine a_next rfl ?_
    refine a_ret ?_
    refine ⟨.inr rfl, ?_⟩
    rw [Try.results63]
    cases h
    exact ⟨_, _, _, _, _, rfl, trivial, .inl ⟨rfl, .inl rfl⟩, rfl, rfl⟩
end Go.Proofs.Ytacebpbhddkelaa
