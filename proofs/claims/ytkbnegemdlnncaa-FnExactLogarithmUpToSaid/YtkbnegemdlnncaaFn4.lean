/- Functions of the program: plain Lean functions, and that the program computes them. Printed by gen.py. -/
import Derived.Test.YtkbnegemdlnncaaFnT
import Derived.Test.YtkbnegemdlnncaaFn3
namespace Go.Proofs.Ytkbnegemdlnncaa
open Go.Abs Go.Proofs
set_option linter.unusedSimpArgs false
set_option linter.unusedVariables false
set_option maxHeartbeats 16000000
attribute [local irreducible] Abs.acode Abs.aops Abs.aopsT Abs.thenK Abs.blockK

def impl_rowOf_c : ACode := (.seq (.region 0 [q 1 (.box 25 (t 0)), q 2 (.asg 1 (.const (.slice none 0 0)) 80)] false) (.seq (.region 1 [q 3 (.asg 2 (.const (.slice none 0 0)) 80)] false) (.seq (.seq (.region 2 [q 6 (.load 25 (t 1)), q 7 (.mov (.const (.int .i64 0)))] false) (.block 0 (.loop (.seq (.region 3 [q 8 (.bin .lss 3 (t 7) (.const (.int .i64 64)))] false) (.seq (.cond (t 8) .skip (.exit 0)) (.seq (.block 1 (.seq (.region 4 [q 9 (.index 25 (t 6) (t 7)), q 5 (.asg 0 (t 9) 5)] false) (.region 5 [q 10 (.mov (t 3)), q 11 (.mov (t 5)), q 12 (.conv 5 2 (t 11)), q 13 (.bslice 0 80 1 [(0, (t 12))]), q 14 (.blt 0 .append [(t 10), (t 13)] [80, 80]), q 3 (.asg 2 (t 14) 80)] false))) (.region 6 [q 15 (.bin .add 3 (t 7) (.const (.int .i64 1))), q 7 (.mov (t 15))] false))))))) (.seq (.region 7 [q 16 (.mov (t 3)), q 17 (.call 0 (.func 180) [(t 16)]), q 2 (.asg 1 (t 17) 80)] false) .ret))))
def impl_rowOf_L : Live := [(0, [0]), (1, [1]), (2, [1, 3]), (3, [3, 6, 7]), (4, [3, 6, 7]), (5, [3, 5, 6, 7]), (6, [3, 6, 7]), (7, [3]), (100008, [3, 6, 7, 8])]
noncomputable def impl_rowOf_l1 (a0 : (Vec Int 64)) (x25 : Int) (x26 : (List Int)) : Option ((Int × (List Int)) ⊕ (List Int)) :=
  (if (decide (x25 < 64)) then (ifp (0 ≤ x25 ∧ x25 < ((64 : Nat) : Int)) ((ifp ((x26.length + ([IntKind.i64.wrap (rd a0.1 x25.toNat)] : List Int).length) * 8 ≤ 140737488355328) ((some (.inl ((IntKind.i64.wrap (x25 + 1), (x26 ++ ([IntKind.i64.wrap (rd a0.1 x25.toNat)])))))))))) else (some (.inr x26)))
noncomputable def impl_rowOf (a0 : (Vec Int 64)) : Option (List Int) :=
  (Option.bind (α := (List Int)) ((loopM (fun s : (Int × (List Int)) => impl_rowOf_l1 a0 s.1 s.2) (0, []))) fun x17 => (Option.bind (impl_row_trimmed x17) fun r37 => (some r37)))
theorem impl_rowOf_ok (a0 : (Vec Int 64)) (r : (List Int)) (h : impl_rowOf a0 = some r) : Den Try.prog 103 [(eA64u8 a0)] { r := (eSi64 r) } := by
  refine den_of (rs := [(eSi64 r)]) (ac := impl_rowOf_c) (L := impl_rowOf_L) (n := 18) (m := [(2, 1), (3, 2)]) (c := Try.f103.body.getD .skip) good Try.func103 (by kernel_rfl) (by kernel_rfl) Try.ntmps103 rfl rfl (by kernel_rfl) rfl rfl ?_
  refine a_st (σ' := ⟨[(0, (eA64u8 a0))], []⟩) (by kernel_rfl) ?_
  unfold impl_rowOf_c
  refine sr (vo 1100 (eA64u8 a0) rfl rfl (vp (eSi64 ([])) rfl (nx ⟨[(1, (ow 1))], [(1, (bk (eA64u8 a0)))]⟩ (by kernel_rfl) (sr (vu (.osl 1300) [(1300, (bk (.row 1 (([]).map (AV.int .i64)))))] rfl trivial rfl (nx ⟨[(1, (ow 1)), (3, (.osl 3))], [(1, (bk (eA64u8 a0))), (3, (bk (.row 1 (([]).map (AV.int .i64)))))]⟩ (by kernel_rfl) ?_))))))
  obtain ⟨y18, hy19, hk20⟩ := bind_some h
  clear h
  refine a_join (emb := fun (s : (List Int)) => ⟨[(3, (.osl 3))], [(3, (bk (.row 1 (s.map (AV.int .i64)))))]⟩) (pre := fun s => s = y18) ?_ ?_
  · rintro x17 rfl
    have h := hk20
    refine a_st (σ' := ⟨[(3, (.osl 3))], [(3, (bk (.row 1 (x17.map (AV.int .i64)))))]⟩) (by kernel_rfl) (sr (vp (.osl 3) rfl ?_))
    obtain ⟨r37, hr38, h⟩ := bind_some h
    refine a_call (args := [(eSi64 x17)]) (u := [(3, (bf (.row 1 (x17.map (AV.int .i64)))))]) (r := (eSi64 r37)) rfl rfl (impl_row_trimmed_ok x17 r37 hr38) rfl (vp (eSi64 r37) rfl (nx _ rfl (a_ret ?_)))
    refine ⟨.inr rfl, ?_⟩
    rw [Try.results103]
    cases h
    exact ⟨_, _, _, _, _, rfl, trivial, .inl ⟨rfl, .inl rfl⟩, rfl, rfl⟩
  · have h := hy19
    refine sr (vl (eA64u8 a0) rfl rfl rfl rfl rfl rfl (vp (i6 0) rfl (nx ⟨[(3, (.osl 3)), (6, (eA64u8 a0)), (7, (i6 0))], [(3, (bk (.row 1 (([]).map (AV.int .i64)))))]⟩ (by kernel_rfl) (a_block ?_))))
    refine a_loop (emb := fun (s : (Int × (List Int))) => ⟨[(3, (.osl 3)), (6, (eA64u8 a0)), (7, (i6 s.1))], [(3, (bk (.row 1 (s.2.map (AV.int .i64)))))]⟩) (body := (fun s : (Int × (List Int)) => impl_rowOf_l1 a0 s.1 s.2)) (G := fun q => some q = some y18) h rfl ?_ (by kernel_rfl)
    rintro X30 ⟨x25, x26⟩ x31 h hX32
    have h : impl_rowOf_l1 a0 x25 x26 = some x31 := h
    refine a_st (σ' := ⟨[(3, (.osl 3)), (6, (eA64u8 a0)), (7, (i6 x25))], [(3, (bk (.row 1 (x26.map (AV.int .i64)))))]⟩) (by kernel_rfl) (sr (vp (.bool ((decide (x25 < 64)))) rfl (nx ⟨[(3, (.osl 3)), (6, (eA64u8 a0)), (7, (i6 x25)), (8, (.bool ((decide (x25 < 64)))))], [(3, (bk (.row 1 (x26.map (AV.int .i64)))))]⟩ (by kernel_rfl) (a_seq ?_))))
    cases hb33 : (decide (x25 < 64))
    · have h := ite_f hb33 h
      refine a_cond_f rfl (a_exit (t_exit ?_))
      cases h
      have h := hX32
      refine t_exit (b_exit ?_)
      exact j_leaf x26 (Option.some.inj h) (by kernel_rfl)
    · have h := ite_t hb33 h
      refine a_cond_t rfl (a_skip (a_next (σ' := ⟨[(3, (.osl 3)), (6, (eA64u8 a0)), (7, (i6 x25))], [(3, (bk (.row 1 (x26.map (AV.int .i64)))))]⟩) (by kernel_rfl) (a_seq (a_block (sr ?_)))))
      obtain ⟨hc34, h⟩ := ifp_some h
      refine vq (b8 (rd a0.1 x25.toNat)) (ix_run (i := ⟨.int .u8, 1, 1, (.int .u8 0)⟩) (f := (AV.int .u8)) rfl rfl rfl rfl (vlt a0 hc34)) ⟨hc34.1, hc34.2, rfl, rfl, rfl, rfl⟩ (vp (b8 (rd a0.1 x25.toNat)) rfl (nx ⟨[(3, (.osl 3)), (5, (b8 (rd a0.1 x25.toNat))), (6, (eA64u8 a0)), (7, (i6 x25))], [(3, (bk (.row 1 (x26.map (AV.int .i64)))))]⟩ (by kernel_rfl) (a_region (vp (.osl 3) rfl (vp (b8 (rd a0.1 x25.toNat)) rfl (vp (i6 (IntKind.i64.wrap (rd a0.1 x25.toNat))) rfl (vq (.sl 1 true (([IntKind.i64.wrap (rd a0.1 x25.toNat)]).map (AV.int .i64))) rfl ⟨(Nat.le_of_ble_eq_true rfl), (Nat.le_of_ble_eq_true rfl), (all_cons ⟨(Nat.le_of_ble_eq_true rfl), rfl⟩ all_nil)⟩ ?_)))))))
      obtain ⟨hc35, h⟩ := ifp_some h
      refine vu (.osl 2400) [(2400, (bk (.row 1 (((x26 ++ ([IntKind.i64.wrap (rd a0.1 x25.toNat)]))).map (AV.int .i64))))), (3, none)] (app_run (i := ⟨.int .i64, 1, 8, (.int .i64 0)⟩) (f := (AV.int .i64)) (l := x26) (l2 := [IntKind.i64.wrap (rd a0.1 x25.toNat)]) rfl rfl rfl rfl (fun _ => rfl) rfl rfl) (app_c (f := (AV.int .i64)) (s := 1) (sz := 1) (by' := 8) (u := []) (id := 3) hc35 (.inr rfl) rfl rfl rfl) rfl (vp (.osl 2400) rfl (a_nil (b_norm (a_next (σ' := ⟨[(3, (.osl 3)), (6, (eA64u8 a0)), (7, (i6 x25))], [(3, (bk (.row 1 (((x26 ++ ([IntKind.i64.wrap (rd a0.1 x25.toNat)]))).map (AV.int .i64)))))]⟩) (by kernel_rfl) (a_region (vp (i6 (IntKind.i64.wrap (x25 + 1))) rfl (vp (i6 (IntKind.i64.wrap (x25 + 1))) rfl (a_nil ?_))))))))
      cases h
      exact a_again (by kernel_rfl) hX32
def impl_row_degree_c : ACode := (.seq (.region 0 [q 2 (.asg 0 (.const (.int .i64 0)) 2)] false) (.seq (.region 1 [q 3 (.mov (t 0)), q 4 (.blt 0 .len [(t 3)] [80]), q 5 (.bin .sub 2 (t 4) (.const (.int .i64 1))), q 2 (.asg 0 (t 5) 2)] false) .ret))
def impl_row_degree_L : Live := [(0, [0]), (1, [0])]
noncomputable def impl_row_degree (a0 : (List Int)) : Option Int :=
  (some (IntKind.i64.wrap ((a0.length : Int) - 1)))
theorem impl_row_degree_ok (a0 : (List Int)) (r : Int) (h : impl_row_degree a0 = some r) : Den Try.prog 114 [(eSi64 a0)] { r := (i6 r) } := by
  refine den_of (rs := [(i6 r)]) (ac := impl_row_degree_c) (L := impl_row_degree_L) (n := 6) (m := []) (c := Try.f114.body.getD .skip) good Try.func114 (by kernel_rfl) (by kernel_rfl) Try.ntmps114 rfl rfl (by kernel_rfl) rfl rfl ?_
  refine a_st (σ' := ⟨[(0, (eSi64 a0))], []⟩) (by kernel_rfl) ?_
  unfold impl_row_degree_c
  refine sr (vp (i6 0) rfl (nx ⟨[(0, (eSi64 a0))], []⟩ (by kernel_rfl) (sr (vp (eSi64 a0) rfl (vq (i6 (a0.length : Int)) (len_run rfl rfl) trivial (vp (i6 (IntKind.i64.wrap ((a0.length : Int) - 1))) rfl (vp (i6 (IntKind.i64.wrap ((a0.length : Int) - 1))) rfl (nx _ rfl (a_ret ?_)))))))))
  refine ⟨.inr rfl, ?_⟩
  rw [Try.results114]
  cases h
  exact ⟨_, _, _, _, _, rfl, trivial, .inl ⟨rfl, .inl rfl⟩, rfl, rfl⟩
def impl_prime_norm_c : ACode := (.seq (.region 0 [q 6 (.asg 0 (.const (.int .i64 0)) 2)] false) (.seq (.region 1 [q 7 (.asg 0 (.const (.int .i64 1)) 2)] false) (.seq (.seq (.region 2 [q 8 (.mov (t 1)), q 9 (.mov (.const (.int .i64 0)))] false) (.block 0 (.loop (.seq (.region 3 [q 10 (.bin .lss 2 (t 9) (t 8))] false) (.seq (.cond (t 10) .skip (.exit 0)) (.seq (.block 1 (.seq (.seq (.region 4 [q 11 (.mov (t 7)), q 12 (.mov (t 2)), q 13 (.bin .gtr 2 (t 11) (t 12))] false) (.cond (t 13) (.exit 0) .skip)) (.region 5 [q 14 (.mov (t 7)), q 15 (.mov (t 0)), q 16 (.bin .mul 2 (t 14) (t 15)), q 7 (.asg 0 (t 16) 2)] false))) (.region 6 [q 17 (.bin .add 2 (t 9) (.const (.int .i64 1))), q 9 (.mov (t 17))] false))))))) (.seq (.region 7 [q 18 (.mov (t 7)), q 6 (.asg 0 (t 18) 2)] false) .ret))))
def impl_prime_norm_L : Live := [(0, [0, 1, 2]), (1, [0, 1, 2]), (2, [0, 1, 2, 7]), (3, [0, 2, 7, 8, 9]), (4, [0, 2, 7, 8, 9]), (5, [0, 2, 7, 8, 9]), (6, [0, 2, 7, 8, 9]), (7, [7]), (100010, [0, 2, 7, 8, 9, 10]), (100013, [0, 2, 7, 8, 9, 13])]
noncomputable def impl_prime_norm_l1 (a1 : Int) (a2 : Int) (a0 : Int) (x19 : Int) (x20 : Int) : Option ((Int × Int) ⊕ Int) :=
  (if (decide (x20 < a1)) then (if (decide (x19 > a2)) then (some (.inr x19)) else (some (.inl ((IntKind.i64.wrap (x19 * a0), IntKind.i64.wrap (x20 + 1)))))) else (some (.inr x19)))
noncomputable def impl_prime_norm (a0 : Int) (a1 : Int) (a2 : Int) : Option Int :=
  (Option.bind (α := Int) ((loopM (fun s : (Int × Int) => impl_prime_norm_l1 a1 a2 a0 s.1 s.2) (1, 0))) fun x13 => (some x13))
theorem impl_prime_norm_ok (a0 : Int) (a1 : Int) (a2 : Int) (r : Int) (h : impl_prime_norm a0 a1 a2 = some r) : Den Try.prog 171 [(i6 a0), (i6 a1), (i6 a2)] { r := (i6 r) } := by
  refine den_of (rs := [(i6 r)]) (ac := impl_prime_norm_c) (L := impl_prime_norm_L) (n := 19) (m := []) (c := Try.f171.body.getD .skip) good Try.func171 (by kernel_rfl) (by kernel_rfl) Try.ntmps171 rfl rfl (by kernel_rfl) rfl rfl ?_
  refine a_st (σ' := ⟨[(0, (i6 a0)), (1, (i6 a1)), (2, (i6 a2))], []⟩) (by kernel_rfl) ?_
  unfold impl_prime_norm_c
  refine sr (vp (i6 0) rfl (nx ⟨[(0, (i6 a0)), (1, (i6 a1)), (2, (i6 a2))], []⟩ (by kernel_rfl) (sr (vp (i6 1) rfl (nx ⟨[(0, (i6 a0)), (1, (i6 a1)), (2, (i6 a2)), (7, (i6 1))], []⟩ (by kernel_rfl) ?_)))))
  obtain ⟨y14, hy15, hk16⟩ := bind_some h
  clear h
  refine a_join (emb := fun (s : Int) => ⟨[(7, (i6 s))], []⟩) (pre := fun s => s = y14) ?_ ?_
  · rintro x13 rfl
    have h := hk16
    refine a_st (σ' := ⟨[(7, (i6 x13))], []⟩) (by kernel_rfl) (sr (vp (i6 x13) rfl (vp (i6 x13) rfl (nx _ rfl (a_ret ?_)))))
    refine ⟨.inr rfl, ?_⟩
    rw [Try.results171]
    cases h
    exact ⟨_, _, _, _, _, rfl, trivial, .inl ⟨rfl, .inl rfl⟩, rfl, rfl⟩
  · have h := hy15
    refine sr (vp (i6 a1) rfl (vp (i6 0) rfl (nx ⟨[(0, (i6 a0)), (2, (i6 a2)), (7, (i6 1)), (8, (i6 a1)), (9, (i6 0))], []⟩ (by kernel_rfl) (a_block ?_))))
    refine a_loop (emb := fun (s : (Int × Int)) => ⟨[(0, (i6 a0)), (2, (i6 a2)), (7, (i6 s.1)), (8, (i6 a1)), (9, (i6 s.2))], []⟩) (body := (fun s : (Int × Int) => impl_prime_norm_l1 a1 a2 a0 s.1 s.2)) (G := fun q => some q = some y14) h rfl ?_ (by kernel_rfl)
    rintro X23 ⟨x19, x20⟩ x24 h hX25
    have h : impl_prime_norm_l1 a1 a2 a0 x19 x20 = some x24 := h
    refine a_st (σ' := ⟨[(0, (i6 a0)), (2, (i6 a2)), (7, (i6 x19)), (8, (i6 a1)), (9, (i6 x20))], []⟩) (by kernel_rfl) (sr (vp (.bool ((decide (x20 < a1)))) rfl (nx ⟨[(0, (i6 a0)), (2, (i6 a2)), (7, (i6 x19)), (8, (i6 a1)), (9, (i6 x20)), (10, (.bool ((decide (x20 < a1)))))], []⟩ (by kernel_rfl) (a_seq ?_))))
    cases hb26 : (decide (x20 < a1))
    · have h := ite_f hb26 h
      refine a_cond_f rfl (a_exit (t_exit ?_))
      cases h
      have h := hX25
      refine t_exit (b_exit ?_)
      exact j_leaf x19 (Option.some.inj h) (by kernel_rfl)
    · have h := ite_t hb26 h
      refine a_cond_t rfl (a_skip (a_next (σ' := ⟨[(0, (i6 a0)), (2, (i6 a2)), (7, (i6 x19)), (8, (i6 a1)), (9, (i6 x20))], []⟩) (by kernel_rfl) (a_seq (a_block (a_seq (sr (vp (i6 x19) rfl (vp (i6 a2) rfl (vp (.bool ((decide (x19 > a2)))) rfl ?_)))))))))
      refine nx ⟨[(0, (i6 a0)), (2, (i6 a2)), (7, (i6 x19)), (8, (i6 a1)), (9, (i6 x20)), (13, (.bool ((decide (x19 > a2)))))], []⟩ (by kernel_rfl) ?_
      cases hb27 : (decide (x19 > a2))
      · have h := ite_f hb27 h
        refine a_cond_f rfl (a_skip (a_next (σ' := ⟨[(0, (i6 a0)), (2, (i6 a2)), (7, (i6 x19)), (8, (i6 a1)), (9, (i6 x20))], []⟩) (by kernel_rfl) (a_region (vp (i6 x19) rfl (vp (i6 a0) rfl (vp (i6 (IntKind.i64.wrap (x19 * a0))) rfl (vp (i6 (IntKind.i64.wrap (x19 * a0))) rfl (a_nil (b_norm ?_)))))))))
        refine a_next (σ' := ⟨[(0, (i6 a0)), (2, (i6 a2)), (7, (i6 (IntKind.i64.wrap (x19 * a0)))), (8, (i6 a1)), (9, (i6 x20))], []⟩) (by kernel_rfl) (a_region (vp (i6 (IntKind.i64.wrap (x20 + 1))) rfl (vp (i6 (IntKind.i64.wrap (x20 + 1))) rfl (a_nil ?_))))
        cases h
        exact a_again (by kernel_rfl) hX25
      · have h := ite_t hb27 h
        refine a_cond_t rfl (a_exit (t_exit (b_other rfl (t_exit ?_))))
        cases h
        have h := hX25
        refine t_exit (b_exit ?_)
        exact j_leaf x19 (Option.some.inj h) (by kernel_rfl)
def impl_letter_c : ACode := (.seq (.region 0 [q 0 (.asg 1 (.const (.slice none 0 0)) 80)] false) (.seq (.region 1 [q 1 (.bslice 0 80 2 [(0, (.const (.int .i64 0))), (1, (.const (.int .i64 1)))]), q 0 (.asg 1 (t 1) 80)] false) .ret))
def impl_letter_L : Live := [(0, []), (1, [])]
noncomputable def impl_letter  : Option (List Int) :=
  (some ([0, 1]))
theorem impl_letter_ok  (r : (List Int)) (h : impl_letter = some r) : Den Try.prog 163 [] { r := (eSi64 r) } := by
  refine den_of (rs := [(eSi64 r)]) (ac := impl_letter_c) (L := impl_letter_L) (n := 2) (m := [(0, 1)]) (c := Try.f163.body.getD .skip) good Try.func163 (by kernel_rfl) (by kernel_rfl) Try.ntmps163 rfl rfl (by kernel_rfl) rfl rfl ?_
  refine a_st (σ' := ⟨[], []⟩) (by kernel_rfl) ?_
  unfold impl_letter_c
  refine sr (vp (eSi64 ([])) rfl (nx ⟨[], []⟩ (by kernel_rfl) (sr (vq (.sl 1 true (([0, 1]).map (AV.int .i64))) rfl ⟨(Nat.le_of_ble_eq_true rfl), (Nat.le_of_ble_eq_true rfl), (all_cons ⟨(Nat.le_of_ble_eq_true rfl), rfl⟩ (all_cons ⟨(Nat.le_of_ble_eq_true rfl), rfl⟩ all_nil))⟩ (vq (eSi64 ([0, 1])) (asg_tight (i := ⟨.int .i64, 1, 8, (.int .i64 0)⟩) (f := (AV.int .i64)) (l := [0, 1]) rfl rfl rfl) trivial (nx _ rfl (a_ret ?_)))))))
  refine ⟨.inr rfl, ?_⟩
  rw [Try.results163]
  cases h
  exact ⟨_, _, _, _, _, rfl, trivial, .inl ⟨rfl, .inl rfl⟩, rfl, rfl⟩
def impl_prime_spread_c : ACode := (.seq (.region 0 [q 6 (.asg 1 (.const (.slice none 0 0)) 80)] false) (.seq (.seq (.region 1 [q 11 (.mov (t 1)), q 12 (.blt 0 .len [(t 11)] [80]), q 13 (.bin .eql 3 (t 12) (.const (.int .i64 0)))] false) (.cond (t 13) (.seq (.region 2 [q 6 (.asg 1 (.const (.slice none 0 0)) 80)] false) .ret) .skip)) (.seq (.region 3 [q 14 (.mov (t 0)), q 15 (.mov (t 2)), q 16 (.call 0 (.func 171) [(t 14), (t 15), (.const (.int .i64 1099511627776))]), q 7 (.asg 0 (t 16) 2)] false) (.seq (.region 4 [q 17 (.mov (t 1)), q 18 (.call 0 (.func 114) [(t 17)]), q 19 (.mov (t 7)), q 20 (.bin .mul 2 (t 18) (t 19)), q 21 (.bin .add 2 (t 20) (.const (.int .i64 1))), q 22 (.mkslice 80 (t 21) (t 21)), q 8 (.asg 2 (t 22) 80)] false) (.seq (.seq (.region 5 [q 23 (.mov (t 1)), q 24 (.blt 0 .len [(t 23)] [80]), q 25 (.mov (.const (.int .i64 0)))] false) (.block 0 (.loop (.seq (.region 6 [q 26 (.bin .lss 3 (t 25) (t 24))] false) (.seq (.cond (t 26) .skip (.exit 0)) (.seq (.block 1 (.seq (.region 7 [q 27 (.mov (t 25)), q 28 (.indexAddr 80 (t 23) (t 25)), q 29 (.load 2 (t 28)), q 9 (.asg 0 (t 27) 3), q 10 (.asg 0 (t 29) 2)] false) (.region 8 [q 30 (.mov (t 8)), q 31 (.mov (t 9)), q 32 (.mov (t 7)), q 33 (.bin .mul 2 (t 31) (t 32)), q 34 (.mov (t 10)), q 35 (.indexAddr 80 (t 30) (t 33)), ⟨none, .store 2 (t 35) (t 34), none, []⟩] false))) (.region 9 [q 36 (.bin .add 3 (t 25) (.const (.int .i64 1))), q 25 (.mov (t 36))] false))))))) (.seq (.region 10 [q 37 (.mov (t 8)), q 6 (.asg 1 (t 37) 80)] false) .ret))))))
def impl_prime_spread_L : Live := [(0, [0, 1, 2]), (1, [0, 1, 2]), (2, []), (3, [0, 1, 2]), (4, [1, 7]), (5, [1, 7, 8]), (6, [7, 8, 23, 24, 25]), (7, [7, 8, 23, 24, 25]), (8, [7, 8, 9, 10, 23, 24, 25]), (9, [7, 8, 23, 24, 25]), (10, [8]), (100013, [0, 1, 2, 13]), (100026, [7, 8, 23, 24, 25, 26])]
noncomputable def impl_prime_spread_l1 (a1 : (List Int)) (r2 : Int) (x37 : Int) (x38 : (List Int)) : Option ((Int × (List Int)) ⊕ (List Int)) :=
  (if (decide (x37 < (a1.length : Int))) then (ifp (0 ≤ x37 ∧ x37 < ((a1.length : Nat) : Int)) ((ifp (0 ≤ IntKind.i64.wrap (x37 * r2) ∧ IntKind.i64.wrap (x37 * r2) < ((x38.length : Nat) : Int)) ((some (.inl ((IntKind.i64.wrap (x37 + 1), (x38.set (IntKind.i64.wrap (x37 * r2)).toNat (rd a1 x37.toNat)))))))))) else (some (.inr x38)))
noncomputable def impl_prime_spread (a0 : Int) (a1 : (List Int)) (a2 : Int) : Option (List Int) :=
  (if ((a1.length : Int) == 0) then (some ([])) else (Option.bind (impl_prime_norm a0 a2 1099511627776) fun r2 => (Option.bind (impl_row_degree a1) fun r4 => (ifp (0 ≤ IntKind.i64.wrap ((IntKind.i64.wrap (r4 * r2)) + 1) ∧ IntKind.i64.wrap ((IntKind.i64.wrap (r4 * r2)) + 1) ≤ 140737488355328 ∧ 8 * IntKind.i64.wrap ((IntKind.i64.wrap (r4 * r2)) + 1) ≤ 140737488355328) ((Option.bind (α := (List Int)) ((loopM (fun s : (Int × (List Int)) => impl_prime_spread_l1 a1 r2 s.1 s.2) (0, List.replicate (IntKind.i64.wrap ((IntKind.i64.wrap (r4 * r2)) + 1)).toNat (0 : Int)))) fun x28 => (some x28)))))))
theorem impl_prime_spread_ok (a0 : Int) (a1 : (List Int)) (a2 : Int) (r : (List Int)) (h : impl_prime_spread a0 a1 a2 = some r) : Den Try.prog 189 [(i6 a0), (eSi64 a1), (i6 a2)] { r := (eSi64 r) } := by
  refine den_of (rs := [(eSi64 r)]) (ac := impl_prime_spread_c) (L := impl_prime_spread_L) (n := 38) (m := [(6, 1), (8, 2)]) (c := Try.f189.body.getD .skip) good Try.func189 (by kernel_rfl) (by kernel_rfl) Try.ntmps189 rfl rfl (by kernel_rfl) rfl rfl ?_
  refine a_st (σ' := ⟨[(0, (i6 a0)), (1, (eSi64 a1)), (2, (i6 a2))], []⟩) (by kernel_rfl) ?_
  unfold impl_prime_spread_c
  refine sr (vp (eSi64 ([])) rfl (nx ⟨[(0, (i6 a0)), (1, (eSi64 a1)), (2, (i6 a2))], []⟩ (by kernel_rfl) (a_seq (sr (vp (eSi64 a1) rfl (vq (i6 (a1.length : Int)) (len_run rfl rfl) trivial (vp (.bool (((a1.length : Int) == 0))) rfl (nx ⟨[(0, (i6 a0)), (1, (eSi64 a1)), (2, (i6 a2)), (13, (.bool (((a1.length : Int) == 0))))], []⟩ (by kernel_rfl) ?_))))))))
  cases hb1 : ((a1.length : Int) == 0)
  · have h := ite_f hb1 h
    refine a_cond_f rfl (a_skip (a_next (σ' := ⟨[(0, (i6 a0)), (1, (eSi64 a1)), (2, (i6 a2))], []⟩) (by kernel_rfl) (sr (vp (i6 a0) rfl (vp (i6 a2) rfl ?_)))))
    obtain ⟨r2, hr3, h⟩ := bind_some h
    refine a_call (args := [(i6 a0), (i6 a2), (i6 1099511627776)]) (u := []) (r := (i6 r2)) rfl rfl (impl_prime_norm_ok a0 a2 1099511627776 r2 hr3) rfl (vp (i6 r2) rfl (nx ⟨[(1, (eSi64 a1)), (7, (i6 r2))], []⟩ (by kernel_rfl) (sr (vp (eSi64 a1) rfl ?_))))
    obtain ⟨r4, hr5, h⟩ := bind_some h
    refine a_call (args := [(eSi64 a1)]) (u := []) (r := (i6 r4)) rfl rfl (impl_row_degree_ok a1 r4 hr5) rfl (vp (i6 r2) rfl (vp (i6 (IntKind.i64.wrap (r4 * r2))) rfl (vp (i6 (IntKind.i64.wrap ((IntKind.i64.wrap (r4 * r2)) + 1))) rfl ?_)))
    obtain ⟨hc6, h⟩ := ifp_some h
    refine vu (.osl 3200) [(3200, (bk (.row 1 ((List.replicate (IntKind.i64.wrap ((IntKind.i64.wrap (r4 * r2)) + 1)).toNat (0 : Int)).map (AV.int .i64)))))] (mk_run (i := ⟨.int .i64, 1, 8, (.int .i64 0)⟩) (f := (AV.int .i64)) (y := (0 : Int)) rfl rfl rfl rfl rfl rfl) ⟨rfl, hc6.1, hc6.2.1, hc6.2.2, (Nat.le_of_ble_eq_true rfl)⟩ rfl (vp (.osl 3200) rfl (nx ⟨[(1, (eSi64 a1)), (7, (i6 r2)), (8, (.osl 8))], [(8, (bk (.row 1 ((List.replicate (IntKind.i64.wrap ((IntKind.i64.wrap (r4 * r2)) + 1)).toNat (0 : Int)).map (AV.int .i64)))))]⟩ (by kernel_rfl) ?_))
    obtain ⟨y29, hy30, hk31⟩ := bind_some h
    clear h
    refine a_join (emb := fun (s : (List Int)) => ⟨[(8, (.osl 8))], [(8, (bk (.row 1 (s.map (AV.int .i64)))))]⟩) (pre := fun s => s = y29) ?_ ?_
    · rintro x28 rfl
      have h := hk31
      refine a_st (σ' := ⟨[(8, (.osl 8))], [(8, (bk (.row 1 (x28.map (AV.int .i64)))))]⟩) (by kernel_rfl) (sr (vp (.osl 8) rfl (vu (eSi64 x28) [(8, (bf (.row 1 (x28.map (AV.int .i64)))))] rfl trivial rfl (nx _ rfl (a_ret ?_)))))
      refine ⟨.inr rfl, ?_⟩
      rw [Try.results189]
      cases h
      exact ⟨_, _, _, _, _, rfl, trivial, .inl ⟨rfl, .inl rfl⟩, rfl, rfl⟩
    · have h := hy30
      refine sr (vp (eSi64 a1) rfl (vq (i6 (a1.length : Int)) (len_run rfl rfl) trivial (vp (i6 0) rfl (nx ⟨[(7, (i6 r2)), (8, (.osl 8)), (23, (eSi64 a1)), (24, (i6 (a1.length : Int))), (25, (i6 0))], [(8, (bk (.row 1 ((List.replicate (IntKind.i64.wrap ((IntKind.i64.wrap (r4 * r2)) + 1)).toNat (0 : Int)).map (AV.int .i64)))))]⟩ (by kernel_rfl) (a_block ?_)))))
      refine a_loop (emb := fun (s : (Int × (List Int))) => ⟨[(7, (i6 r2)), (8, (.osl 8)), (23, (eSi64 a1)), (24, (i6 (a1.length : Int))), (25, (i6 s.1))], [(8, (bk (.row 1 (s.2.map (AV.int .i64)))))]⟩) (body := (fun s : (Int × (List Int)) => impl_prime_spread_l1 a1 r2 s.1 s.2)) (G := fun q => some q = some y29) h rfl ?_ (by kernel_rfl)
      rintro X44 ⟨x37, x38⟩ x45 h hX46
      have h : impl_prime_spread_l1 a1 r2 x37 x38 = some x45 := h
      refine a_st (σ' := ⟨[(7, (i6 r2)), (8, (.osl 8)), (23, (eSi64 a1)), (24, (i6 (a1.length : Int))), (25, (i6 x37))], [(8, (bk (.row 1 (x38.map (AV.int .i64)))))]⟩) (by kernel_rfl) (sr (vp (.bool ((decide (x37 < (a1.length : Int))))) rfl (nx ⟨[(7, (i6 r2)), (8, (.osl 8)), (23, (eSi64 a1)), (24, (i6 (a1.length : Int))), (25, (i6 x37)), (26, (.bool ((decide (x37 < (a1.length : Int))))))], [(8, (bk (.row 1 (x38.map (AV.int .i64)))))]⟩ (by kernel_rfl) (a_seq ?_))))
      cases hb47 : (decide (x37 < (a1.length : Int)))
      · have h := ite_f hb47 h
        refine a_cond_f rfl (a_exit (t_exit ?_))
        cases h
        have h := hX46
        refine t_exit (b_exit ?_)
        exact j_leaf x38 (Option.some.inj h) (by kernel_rfl)
      · have h := ite_t hb47 h
        refine a_cond_t rfl (a_skip (a_next (σ' := ⟨[(7, (i6 r2)), (8, (.osl 8)), (23, (eSi64 a1)), (24, (i6 (a1.length : Int))), (25, (i6 x37))], [(8, (bk (.row 1 (x38.map (AV.int .i64)))))]⟩) (by kernel_rfl) (a_seq (a_block (sr (vp (i6 x37) rfl ?_))))))
        obtain ⟨hc48, h⟩ := ifp_some h
        refine vq (.ref (.row 1 (a1.map (AV.int .i64))) [x37.toNat] [x37.toNat * 1]) rfl (lmap hc48) ?_
        have hl49 : LdOk [x37.toNat] (.row 1 (a1.map (AV.int .i64))) [x37.toNat * 1] 1 false (i6 (rd a1 x37.toNat)) := (.row (llt hc48) rfl (.nil rfl rfl rfl))
        refine vq (i6 (rd a1 x37.toNat)) (ld_ref (i := ⟨.int .i64, 1, 8, (.int .i64 0)⟩) rfl rfl hl49) hl49.c (vp (i6 x37) rfl (vp (i6 (rd a1 x37.toNat)) rfl (nx ⟨[(7, (i6 r2)), (8, (.osl 8)), (9, (i6 x37)), (10, (i6 (rd a1 x37.toNat))), (23, (eSi64 a1)), (24, (i6 (a1.length : Int))), (25, (i6 x37))], [(8, (bk (.row 1 (x38.map (AV.int .i64)))))]⟩ (by kernel_rfl) (a_region (vp (.osl 8) rfl (vp (i6 x37) rfl (vp (i6 r2) rfl (vp (i6 (IntKind.i64.wrap (x37 * r2))) rfl (vp (i6 (rd a1 x37.toNat)) rfl ?_)))))))))
        obtain ⟨hc50, h⟩ := ifp_some h
        refine vq (.own 8 [(IntKind.i64.wrap (x37 * r2)).toNat] [(IntKind.i64.wrap (x37 * r2)).toNat * 1]) rfl (lmap hc50) ?_
        have hs51 : StOk [(IntKind.i64.wrap (x37 * r2)).toNat] (.row 1 (x38.map (AV.int .i64))) [(IntKind.i64.wrap (x37 * r2)).toNat * 1] 1 (i6 (rd a1 x37.toNat)) (.row 1 (((x38.set (IntKind.i64.wrap (x37 * r2)).toNat (rd a1 x37.toNat))).map (AV.int .i64))) := (.row (y := (rd a1 x37.toNat)) (llt hc50) rfl (.nil rfl rfl rfl rfl))
        refine vu .top [(8, (bk (.row 1 (((x38.set (IntKind.i64.wrap (x37 * r2)).toNat (rd a1 x37.toNat))).map (AV.int .i64)))))] (st_own (i := ⟨.int .i64, 1, 8, (.int .i64 0)⟩) rfl rfl (fun _ => rfl) rfl hs51) (hs51.c rfl) rfl (a_nil (b_norm (a_next (σ' := ⟨[(7, (i6 r2)), (8, (.osl 8)), (23, (eSi64 a1)), (24, (i6 (a1.length : Int))), (25, (i6 x37))], [(8, (bk (.row 1 (((x38.set (IntKind.i64.wrap (x37 * r2)).toNat (rd a1 x37.toNat))).map (AV.int .i64)))))]⟩) (by kernel_rfl) (a_region (vp (i6 (IntKind.i64.wrap (x37 + 1))) rfl (vp (i6 (IntKind.i64.wrap (x37 + 1))) rfl (a_nil ?_)))))))
        cases h
        exact a_again (by kernel_rfl) hX46
  · have h := ite_t hb1 h
    refine a_cond_t rfl (sr (vp (eSi64 ([])) rfl (nx _ rfl (a_ret (t_ret ?_)))))
    refine ⟨.inr rfl, ?_⟩
    rw [Try.results189]
    cases h
    exact ⟨_, _, _, _, _, rfl, trivial, .inl ⟨rfl, .inl rfl⟩, rfl, rfl⟩
def impl_row_at_c : ACode := (.seq (.region 0 [q 4 (.asg 0 (.const (.int .i64 0)) 2)] false) (.seq (.seq (.region 1 [q 5 (.mov (t 1)), q 6 (.mov (t 0)), q 7 (.blt 0 .len [(t 6)] [80]), q 8 (.bin .lss 3 (t 5) (t 7))] false) (.cond (t 8) (.seq (.region 2 [q 9 (.mov (t 0)), q 10 (.mov (t 1)), q 11 (.indexAddr 80 (t 9) (t 10)), q 12 (.load 2 (t 11)), q 4 (.asg 0 (t 12) 2)] false) .ret) .skip)) (.seq (.region 3 [q 4 (.asg 0 (.const (.int .i64 0)) 2)] false) .ret)))
def impl_row_at_L : Live := [(0, [0, 1]), (1, [0, 1]), (2, [0, 1]), (3, []), (100008, [0, 1, 8])]
noncomputable def impl_row_at (a0 : (List Int)) (a1 : Int) : Option Int :=
  (if (decide (a1 < (a0.length : Int))) then (ifp (0 ≤ a1 ∧ a1 < ((a0.length : Nat) : Int)) ((some (rd a0 a1.toNat)))) else (some 0))
theorem impl_row_at_ok (a0 : (List Int)) (a1 : Int) (r : Int) (h : impl_row_at a0 a1 = some r) : Den Try.prog 164 [(eSi64 a0), (i6 a1)] { r := (i6 r) } := by
  refine den_of (rs := [(i6 r)]) (ac := impl_row_at_c) (L := impl_row_at_L) (n := 13) (m := []) (c := Try.f164.body.getD .skip) good Try.func164 (by kernel_rfl) (by kernel_rfl) Try.ntmps164 rfl rfl (by kernel_rfl) rfl rfl ?_
  refine a_st (σ' := ⟨[(0, (eSi64 a0)), (1, (i6 a1))], []⟩) (by kernel_rfl) ?_
  unfold impl_row_at_c
  refine sr (vp (i6 0) rfl (nx ⟨[(0, (eSi64 a0)), (1, (i6 a1))], []⟩ (by kernel_rfl) (a_seq (sr (vp (i6 a1) rfl (vp (eSi64 a0) rfl (vq (i6 (a0.length : Int)) (len_run rfl rfl) trivial (vp (.bool ((decide (a1 < (a0.length : Int))))) rfl (nx ⟨[(0, (eSi64 a0)), (1, (i6 a1)), (8, (.bool ((decide (a1 < (a0.length : Int))))))], []⟩ (by kernel_rfl) ?_)))))))))
  cases hb1 : (decide (a1 < (a0.length : Int)))
  · have h := ite_f hb1 h
    refine a_cond_f rfl (a_skip (a_next (σ' := ⟨[], []⟩) (by kernel_rfl) (sr (vp (i6 0) rfl (nx _ rfl (a_ret ?_))))))
    refine ⟨.inr rfl, ?_⟩
    rw [Try.results164]
    cases h
    exact ⟨_, _, _, _, _, rfl, trivial, .inl ⟨rfl, .inl rfl⟩, rfl, rfl⟩
  · have h := ite_t hb1 h
    refine a_cond_t rfl (sr (vp (eSi64 a0) rfl (vp (i6 a1) rfl ?_)))
    obtain ⟨hc2, h⟩ := ifp_some h
    refine vq (.ref (.row 1 (a0.map (AV.int .i64))) [a1.toNat] [a1.toNat * 1]) rfl (lmap hc2) ?_
    have hl3 : LdOk [a1.toNat] (.row 1 (a0.map (AV.int .i64))) [a1.toNat * 1] 1 false (i6 (rd a0 a1.toNat)) := (.row (llt hc2) rfl (.nil rfl rfl rfl))
    refine vq (i6 (rd a0 a1.toNat)) (ld_ref (i := ⟨.int .i64, 1, 8, (.int .i64 0)⟩) rfl rfl hl3) hl3.c (vp (i6 (rd a0 a1.toNat)) rfl (nx _ rfl (a_ret (t_ret ?_))))
    refine ⟨.inr rfl, ?_⟩
    rw [Try.results164]
    cases h
    exact ⟨_, _, _, _, _, rfl, trivial, .inl ⟨rfl, .inl rfl⟩, rfl, rfl⟩
def impl_prime_reduce_c : ACode := (.seq (.region 0 [q 4 (.asg 0 (.const (.int .i64 0)) 2)] false) (.seq (.region 1 [q 5 (.mov (t 1)), q 6 (.mov (t 0)), q 7 (.bin .rem 2 (t 5) (t 6)), q 8 (.mov (t 0)), q 9 (.bin .add 2 (t 7) (t 8)), q 10 (.mov (t 0)), q 11 (.bin .rem 2 (t 9) (t 10)), q 4 (.asg 0 (t 11) 2)] false) .ret))
def impl_prime_reduce_L : Live := [(0, [0, 1]), (1, [0, 1])]
noncomputable def impl_prime_reduce (a0 : Int) (a1 : Int) : Option Int :=
  (ifp (a0 ≠ 0) ((ifp (a0 ≠ 0) ((some (Int.tmod (IntKind.i64.wrap ((Int.tmod a1 a0) + a0)) a0))))))
theorem impl_prime_reduce_ok (a0 : Int) (a1 : Int) (r : Int) (h : impl_prime_reduce a0 a1 = some r) : Den Try.prog 183 [(i6 a0), (i6 a1)] { r := (i6 r) } := by
  refine den_of (rs := [(i6 r)]) (ac := impl_prime_reduce_c) (L := impl_prime_reduce_L) (n := 12) (m := []) (c := Try.f183.body.getD .skip) good Try.func183 (by kernel_rfl) (by kernel_rfl) Try.ntmps183 rfl rfl (by kernel_rfl) rfl rfl ?_
  refine a_st (σ' := ⟨[(0, (i6 a0)), (1, (i6 a1))], []⟩) (by kernel_rfl) ?_
  unfold impl_prime_reduce_c
  refine sr (vp (i6 0) rfl (nx ⟨[(0, (i6 a0)), (1, (i6 a1))], []⟩ (by kernel_rfl) (sr (vp (i6 a1) rfl (vp (i6 a0) rfl ?_)))))
  obtain ⟨hc1, h⟩ := ifp_some h
  refine vq (i6 (Int.tmod a1 a0)) rfl hc1 (vp (i6 a0) rfl (vp (i6 (IntKind.i64.wrap ((Int.tmod a1 a0) + a0))) rfl (vp (i6 a0) rfl ?_)))
  obtain ⟨hc2, h⟩ := ifp_some h
  refine vq (i6 (Int.tmod (IntKind.i64.wrap ((Int.tmod a1 a0) + a0)) a0)) rfl hc2 (vp (i6 (Int.tmod (IntKind.i64.wrap ((Int.tmod a1 a0) + a0)) a0)) rfl (nx _ rfl (a_ret ?_)))
  refine ⟨.inr rfl, ?_⟩
  rw [Try.results183]
  cases h
  exact ⟨_, _, _, _, _, rfl, trivial, .inl ⟨rfl, .inl rfl⟩, rfl, rfl⟩
def impl_prime_combine_c : ACode := (.seq (.region 0 [q 8 (.asg 1 (.const (.slice none 0 0)) 80)] false) (.seq (.region 1 [q 11 (.mov (t 1)), q 12 (.blt 0 .len [(t 11)] [80]), q 13 (.mov (t 2)), q 14 (.blt 0 .len [(t 13)] [80]), q 15 (.blt 0 .max [(t 12), (t 14)] [3, 3]), q 16 (.mkslice 80 (t 15) (t 15)), q 9 (.asg 2 (t 16) 80)] false) (.seq (.seq (.region 2 [q 17 (.mov (t 9)), q 18 (.blt 0 .len [(t 17)] [80]), q 19 (.mov (.const (.int .i64 0)))] false) (.block 0 (.loop (.seq (.region 3 [q 20 (.bin .lss 3 (t 19) (t 18))] false) (.seq (.cond (t 20) .skip (.exit 0)) (.seq (.block 1 (.seq (.region 4 [q 21 (.mov (t 19)), q 10 (.asg 0 (t 21) 3)] false) (.region 5 [q 22 (.mov (t 9)), q 23 (.mov (t 10)), q 24 (.mov (t 0)), q 25 (.mov (t 1)), q 26 (.mov (t 10)), q 27 (.call 0 (.func 164) [(t 25), (t 26)]), q 28 (.mov (t 3)), q 29 (.mov (t 2)), q 30 (.mov (t 10)), q 31 (.call 0 (.func 164) [(t 29), (t 30)]), q 32 (.bin .mul 2 (t 28) (t 31)), q 33 (.bin .add 2 (t 27) (t 32)), q 34 (.call 0 (.func 183) [(t 24), (t 33)]), q 35 (.indexAddr 80 (t 22) (t 23)), ⟨none, .store 2 (t 35) (t 34), none, []⟩] false))) (.region 6 [q 36 (.bin .add 3 (t 19) (.const (.int .i64 1))), q 19 (.mov (t 36))] false))))))) (.seq (.region 7 [q 37 (.mov (t 9)), q 38 (.call 0 (.func 180) [(t 37)]), q 8 (.asg 1 (t 38) 80)] false) .ret))))
def impl_prime_combine_L : Live := [(0, [0, 1, 2, 3]), (1, [0, 1, 2, 3]), (2, [0, 1, 2, 3, 9]), (3, [0, 1, 2, 3, 9, 18, 19]), (4, [0, 1, 2, 3, 9, 18, 19]), (5, [0, 1, 2, 3, 9, 10, 18, 19]), (6, [0, 1, 2, 3, 9, 18, 19]), (7, [9]), (100020, [0, 1, 2, 3, 9, 18, 19, 20])]
noncomputable def impl_prime_combine_l1 (x1 : Int) (a1 : (List Int)) (a2 : (List Int)) (a0 : Int) (a3 : Int) (x58 : Int) (x59 : (List Int)) : Option ((Int × (List Int)) ⊕ (List Int)) :=
  (letp ((decide (x58 < (((List.replicate x1.toNat (0 : Int)).length : Int))))) fun x74 => (if x74 then (Option.bind (impl_row_at a1 x58) fun r77 => (Option.bind (impl_row_at a2 x58) fun r79 => (Option.bind (impl_prime_reduce a0 (IntKind.i64.wrap (r77 + (IntKind.i64.wrap (a3 * r79))))) fun r81 => (ifp (0 ≤ x58 ∧ x58 < ((x59.length : Nat) : Int)) ((some (.inl ((IntKind.i64.wrap (x58 + 1), (x59.set x58.toNat r81)))))))))) else (some (.inr x59))))
noncomputable def impl_prime_combine (a0 : Int) (a1 : (List Int)) (a2 : (List Int)) (a3 : Int) : Option (List Int) :=
  (letp ((if (a2.length : Int) > (a1.length : Int) then (a2.length : Int) else (a1.length : Int))) fun x1 => (ifp (0 ≤ x1 ∧ x1 ≤ 140737488355328 ∧ 8 * x1 ≤ 140737488355328) ((Option.bind (α := (List Int)) ((loopM (fun s : (Int × (List Int)) => impl_prime_combine_l1 x1 a1 a2 a0 a3 s.1 s.2) (0, List.replicate x1.toNat (0 : Int)))) fun x43 => (Option.bind (impl_row_trimmed x43) fun r86 => (some r86))))))
theorem impl_prime_combine_ok (a0 : Int) (a1 : (List Int)) (a2 : (List Int)) (a3 : Int) (r : (List Int)) (h : impl_prime_combine a0 a1 a2 a3 = some r) : Den Try.prog 109 [(i6 a0), (eSi64 a1), (eSi64 a2), (i6 a3)] { r := (eSi64 r) } := by
  refine den_of (rs := [(eSi64 r)]) (ac := impl_prime_combine_c) (L := impl_prime_combine_L) (n := 39) (m := [(8, 1), (9, 2)]) (c := Try.f109.body.getD .skip) good Try.func109 (by kernel_rfl) (by kernel_rfl) Try.ntmps109 rfl rfl (by kernel_rfl) rfl rfl ?_
  refine a_st (σ' := ⟨[(0, (i6 a0)), (1, (eSi64 a1)), (2, (eSi64 a2)), (3, (i6 a3))], []⟩) (by kernel_rfl) ?_
  unfold impl_prime_combine_c
  refine sr (vp (eSi64 ([])) rfl (nx ⟨[(0, (i6 a0)), (1, (eSi64 a1)), (2, (eSi64 a2)), (3, (i6 a3))], []⟩ (by kernel_rfl) (sr (vp (eSi64 a1) rfl (vq (i6 (a1.length : Int)) (len_run rfl rfl) trivial (vp (eSi64 a2) rfl (vq (i6 (a2.length : Int)) (len_run rfl rfl) trivial ?_)))))))
  obtain ⟨x1, hx2, h⟩ := letp_some h
  refine a_val' (v := (i6 ((if (a2.length : Int) > (a1.length : Int) then (a2.length : Int) else (a1.length : Int))))) (v' := (i6 x1)) (u := []) (u' := []) rfl (congrArg (fun z => ((i6 z) : AV)) hx2) rfl trivial rfl ?_
  obtain ⟨hc3, h⟩ := ifp_some h
  refine vu (.osl 2600) [(2600, (bk (.row 1 ((List.replicate x1.toNat (0 : Int)).map (AV.int .i64)))))] (mk_run (i := ⟨.int .i64, 1, 8, (.int .i64 0)⟩) (f := (AV.int .i64)) (y := (0 : Int)) rfl rfl rfl rfl rfl rfl) ⟨rfl, hc3.1, hc3.2.1, hc3.2.2, (Nat.le_of_ble_eq_true rfl)⟩ rfl (vp (.osl 2600) rfl (nx ⟨[(0, (i6 a0)), (1, (eSi64 a1)), (2, (eSi64 a2)), (3, (i6 a3)), (9, (.osl 9))], [(9, (bk (.row 1 ((List.replicate x1.toNat (0 : Int)).map (AV.int .i64)))))]⟩ (by kernel_rfl) ?_))
  obtain ⟨y44, hy45, hk46⟩ := bind_some h
  clear h
  refine a_join (emb := fun (s : (List Int)) => ⟨[(9, (.osl 9))], [(9, (bk (.row 1 (s.map (AV.int .i64)))))]⟩) (pre := fun s => s = y44) ?_ ?_
  · rintro x43 rfl
    have h := hk46
    refine a_st (σ' := ⟨[(9, (.osl 9))], [(9, (bk (.row 1 (x43.map (AV.int .i64)))))]⟩) (by kernel_rfl) (sr (vp (.osl 9) rfl ?_))
    obtain ⟨r86, hr87, h⟩ := bind_some h
    refine a_call (args := [(eSi64 x43)]) (u := [(9, (bf (.row 1 (x43.map (AV.int .i64)))))]) (r := (eSi64 r86)) rfl rfl (impl_row_trimmed_ok x43 r86 hr87) rfl (vp (eSi64 r86) rfl (nx _ rfl (a_ret ?_)))
    refine ⟨.inr rfl, ?_⟩
    rw [Try.results109]
    cases h
    exact ⟨_, _, _, _, _, rfl, trivial, .inl ⟨rfl, .inl rfl⟩, rfl, rfl⟩
  · have h := hy45
    refine sr (vp (.osl 9) rfl (vq (i6 (((List.replicate x1.toNat (0 : Int)).length : Int))) (leno_run rfl rfl rfl) trivial (vp (i6 0) rfl (nx ⟨[(0, (i6 a0)), (1, (eSi64 a1)), (2, (eSi64 a2)), (3, (i6 a3)), (9, (.osl 9)), (18, (i6 (((List.replicate x1.toNat (0 : Int)).length : Int)))), (19, (i6 0))], [(9, (bk (.row 1 ((List.replicate x1.toNat (0 : Int)).map (AV.int .i64)))))]⟩ (by kernel_rfl) (a_block ?_)))))
    refine a_loop (emb := fun (s : (Int × (List Int))) => ⟨[(0, (i6 a0)), (1, (eSi64 a1)), (2, (eSi64 a2)), (3, (i6 a3)), (9, (.osl 9)), (18, (i6 (((List.replicate x1.toNat (0 : Int)).length : Int)))), (19, (i6 s.1))], [(9, (bk (.row 1 (s.2.map (AV.int .i64)))))]⟩) (body := (fun s : (Int × (List Int)) => impl_prime_combine_l1 x1 a1 a2 a0 a3 s.1 s.2)) (G := fun q => some q = some y44) h rfl ?_ (by kernel_rfl)
    rintro X71 ⟨x58, x59⟩ x72 h hX73
    have h : impl_prime_combine_l1 x1 a1 a2 a0 a3 x58 x59 = some x72 := h
    refine a_st (σ' := ⟨[(0, (i6 a0)), (1, (eSi64 a1)), (2, (eSi64 a2)), (3, (i6 a3)), (9, (.osl 9)), (18, (i6 (((List.replicate x1.toNat (0 : Int)).length : Int)))), (19, (i6 x58))], [(9, (bk (.row 1 (x59.map (AV.int .i64)))))]⟩) (by kernel_rfl) (sr ?_)
    obtain ⟨x74, hx75, h⟩ := letp_some h
    refine a_val' (v := (.bool ((decide (x58 < (((List.replicate x1.toNat (0 : Int)).length : Int))))))) (v' := (.bool x74)) (u := []) (u' := []) rfl (congrArg (fun z => ((.bool z) : AV)) hx75) rfl trivial rfl (nx ⟨[(0, (i6 a0)), (1, (eSi64 a1)), (2, (eSi64 a2)), (3, (i6 a3)), (9, (.osl 9)), (18, (i6 (((List.replicate x1.toNat (0 : Int)).length : Int)))), (19, (i6 x58)), (20, (.bool x74))], [(9, (bk (.row 1 (x59.map (AV.int .i64)))))]⟩ (by kernel_rfl) (a_seq ?_))
    cases hb76 : x74
    · have h := ite_f hb76 h
      refine a_cond_f rfl (a_exit (t_exit ?_))
      cases h
      have h := hX73
      refine t_exit (b_exit ?_)
      exact j_leaf x59 (Option.some.inj h) (by kernel_rfl)
    · have h := ite_t hb76 h
      refine a_cond_t rfl (a_skip (a_next (σ' := ⟨[(0, (i6 a0)), (1, (eSi64 a1)), (2, (eSi64 a2)), (3, (i6 a3)), (9, (.osl 9)), (18, (i6 (((List.replicate x1.toNat (0 : Int)).length : Int)))), (19, (i6 x58))], [(9, (bk (.row 1 (x59.map (AV.int .i64)))))]⟩) (by kernel_rfl) (a_seq (a_block (sr (vp (i6 x58) rfl (vp (i6 x58) rfl (nx ⟨[(0, (i6 a0)), (1, (eSi64 a1)), (2, (eSi64 a2)), (3, (i6 a3)), (9, (.osl 9)), (10, (i6 x58)), (18, (i6 (((List.replicate x1.toNat (0 : Int)).length : Int)))), (19, (i6 x58))], [(9, (bk (.row 1 (x59.map (AV.int .i64)))))]⟩ (by kernel_rfl) (a_region ?_)))))))))
      refine vp (.osl 9) rfl (vp (i6 x58) rfl (vp (i6 a0) rfl (vp (eSi64 a1) rfl (vp (i6 x58) rfl ?_))))
      obtain ⟨r77, hr78, h⟩ := bind_some h
      refine a_call (args := [(eSi64 a1), (i6 x58)]) (u := []) (r := (i6 r77)) rfl rfl (impl_row_at_ok a1 x58 r77 hr78) rfl (vp (i6 a3) rfl (vp (eSi64 a2) rfl (vp (i6 x58) rfl ?_)))
      obtain ⟨r79, hr80, h⟩ := bind_some h
      refine a_call (args := [(eSi64 a2), (i6 x58)]) (u := []) (r := (i6 r79)) rfl rfl (impl_row_at_ok a2 x58 r79 hr80) rfl (vp (i6 (IntKind.i64.wrap (a3 * r79))) rfl (vp (i6 (IntKind.i64.wrap (r77 + (IntKind.i64.wrap (a3 * r79))))) rfl ?_))
      obtain ⟨r81, hr82, h⟩ := bind_some h
      refine a_call (args := [(i6 a0), (i6 (IntKind.i64.wrap (r77 + (IntKind.i64.wrap (a3 * r79)))))]) (u := []) (r := (i6 r81)) rfl rfl (impl_prime_reduce_ok a0 (IntKind.i64.wrap (r77 + (IntKind.i64.wrap (a3 * r79)))) r81 hr82) rfl ?_
      obtain ⟨hc83, h⟩ := ifp_some h
      refine vq (.own 9 [x58.toNat] [x58.toNat * 1]) rfl (lmap hc83) ?_
      have hs84 : StOk [x58.toNat] (.row 1 (x59.map (AV.int .i64))) [x58.toNat * 1] 1 (i6 r81) (.row 1 ((x59.set x58.toNat r81).map (AV.int .i64))) := (.row (y := r81) (llt hc83) rfl (.nil rfl rfl rfl rfl))
      refine vu .top [(9, (bk (.row 1 ((x59.set x58.toNat r81).map (AV.int .i64)))))] (st_own (i := ⟨.int .i64, 1, 8, (.int .i64 0)⟩) rfl rfl (fun _ => rfl) rfl hs84) (hs84.c rfl) rfl (a_nil (b_norm (a_next (σ' := ⟨[(0, (i6 a0)), (1, (eSi64 a1)), (2, (eSi64 a2)), (3, (i6 a3)), (9, (.osl 9)), (18, (i6 (((List.replicate x1.toNat (0 : Int)).length : Int)))), (19, (i6 x58))], [(9, (bk (.row 1 ((x59.set x58.toNat r81).map (AV.int .i64)))))]⟩) (by kernel_rfl) (a_region (vp (i6 (IntKind.i64.wrap (x58 + 1))) rfl (vp (i6 (IntKind.i64.wrap (x58 + 1))) rfl (a_nil ?_)))))))
      cases h
      exact a_again (by kernel_rfl) hX73
def impl_prime_bracket_c : ACode := (.seq (.region 0 [q 6 (.asg 1 (.const (.slice none 0 0)) 80)] false) (.seq (.region 1 [q 7 (.mov (t 0)), q 8 (.mov (t 0)), q 9 (.call 0 (.func 163) []), q 10 (.mov (t 1)), q 11 (.call 0 (.func 189) [(t 8), (t 9), (t 10)]), q 12 (.mov (t 0)), q 13 (.call 0 (.func 163) []), q 14 (.mov (t 2)), q 15 (.call 0 (.func 189) [(t 12), (t 13), (t 14)]), q 16 (.call 0 (.func 109) [(t 7), (t 11), (t 15), (.const (.int .i64 (-1)))]), q 6 (.asg 1 (t 16) 80)] false) .ret))
def impl_prime_bracket_L : Live := [(0, [0, 1, 2]), (1, [0, 1, 2])]
noncomputable def impl_prime_bracket (a0 : Int) (a1 : Int) (a2 : Int) : Option (List Int) :=
  (Option.bind (impl_letter) fun r1 => (Option.bind (impl_prime_spread a0 r1 a1) fun r3 => (Option.bind (impl_letter) fun r5 => (Option.bind (impl_prime_spread a0 r5 a2) fun r7 => (Option.bind (impl_prime_combine a0 r3 r7 (-1)) fun r9 => (some r9))))))
theorem impl_prime_bracket_ok (a0 : Int) (a1 : Int) (a2 : Int) (r : (List Int)) (h : impl_prime_bracket a0 a1 a2 = some r) : Den Try.prog 125 [(i6 a0), (i6 a1), (i6 a2)] { r := (eSi64 r) } := by
  refine den_of (rs := [(eSi64 r)]) (ac := impl_prime_bracket_c) (L := impl_prime_bracket_L) (n := 17) (m := [(6, 1)]) (c := Try.f125.body.getD .skip) good Try.func125 (by kernel_rfl) (by kernel_rfl) Try.ntmps125 rfl rfl (by kernel_rfl) rfl rfl ?_
  refine a_st (σ' := ⟨[(0, (i6 a0)), (1, (i6 a1)), (2, (i6 a2))], []⟩) (by kernel_rfl) ?_
  unfold impl_prime_bracket_c
  refine sr (vp (eSi64 ([])) rfl (nx ⟨[(0, (i6 a0)), (1, (i6 a1)), (2, (i6 a2))], []⟩ (by kernel_rfl) (sr (vp (i6 a0) rfl (vp (i6 a0) rfl ?_)))))
  obtain ⟨r1, hr2, h⟩ := bind_some h
  refine a_call (args := []) (u := []) (r := (eSi64 r1)) rfl rfl (impl_letter_ok r1 hr2) rfl (vp (i6 a1) rfl ?_)
  obtain ⟨r3, hr4, h⟩ := bind_some h
  refine a_call (args := [(i6 a0), (eSi64 r1), (i6 a1)]) (u := []) (r := (eSi64 r3)) rfl rfl (impl_prime_spread_ok a0 r1 a1 r3 hr4) rfl (vp (i6 a0) rfl ?_)
  obtain ⟨r5, hr6, h⟩ := bind_some h
  refine a_call (args := []) (u := []) (r := (eSi64 r5)) rfl rfl (impl_letter_ok r5 hr6) rfl (vp (i6 a2) rfl ?_)
  obtain ⟨r7, hr8, h⟩ := bind_some h
  refine a_call (args := [(i6 a0), (eSi64 r5), (i6 a2)]) (u := []) (r := (eSi64 r7)) rfl rfl (impl_prime_spread_ok a0 r5 a2 r7 hr8) rfl ?_
  obtain ⟨r9, hr10, h⟩ := bind_some h
  refine a_call (args := [(i6 a0), (eSi64 r3), (eSi64 r7), (i6 (-1))]) (u := []) (r := (eSi64 r9)) rfl rfl (impl_prime_combine_ok a0 r3 r7 (-1) r9 hr10) rfl (vp (eSi64 r9) rfl (nx _ rfl (a_ret ?_)))
  refine ⟨.inr rfl, ?_⟩
  rw [Try.results125]
  cases h
  exact ⟨_, _, _, _, _, rfl, trivial, .inl ⟨rfl, .inl rfl⟩, rfl, rfl⟩
def impl_prime_second_c : ACode := (.seq (.region 0 [q 4 (.asg 1 (.const (.slice none 0 0)) 108)] false) (.seq (.region 1 [q 5 (.asg 2 (.const (.slice none 0 0)) 108)] false) (.seq (.seq (.region 2 [q 7 (.mov (t 1)), q 8 (.mov (.const (.int .i64 0)))] false) (.block 0 (.loop (.seq (.region 3 [q 9 (.bin .lss 2 (t 8) (t 7))] false) (.seq (.cond (t 9) .skip (.exit 0)) (.seq (.block 1 (.seq (.region 4 [q 10 (.mov (t 8)), q 6 (.asg 0 (t 10) 2)] false) (.region 5 [q 11 (.mov (t 5)), q 12 (.mov (t 0)), q 13 (.mov (t 6)), q 14 (.bin .add 2 (t 13) (.const (.int .i64 1))), q 15 (.call 0 (.func 125) [(t 12), (t 14), (.const (.int .i64 0))]), q 16 (.bslice 0 108 1 [(0, (t 15))]), q 17 (.blt 0 .append [(t 11), (t 16)] [108, 108]), q 5 (.asg 2 (t 17) 108)] false))) (.region 6 [q 18 (.bin .add 2 (t 8) (.const (.int .i64 1))), q 8 (.mov (t 18))] false))))))) (.seq (.region 7 [q 19 (.mov (t 5)), q 4 (.asg 1 (t 19) 108)] false) .ret))))
def impl_prime_second_L : Live := [(0, [0, 1]), (1, [0, 1]), (2, [0, 1, 5]), (3, [0, 5, 7, 8]), (4, [0, 5, 7, 8]), (5, [0, 5, 6, 7, 8]), (6, [0, 5, 7, 8]), (7, [5]), (100009, [0, 5, 7, 8, 9])]
noncomputable def impl_prime_second_l1 (a1 : Int) (a0 : Int) (x27 : Int) (x28 : (List (List Int))) : Option ((Int × (List (List Int))) ⊕ (List (List Int))) :=
  (if (decide (x27 < a1)) then (Option.bind (impl_prime_bracket a0 (IntKind.i64.wrap (x27 + 1)) 0) fun r37 => (ifp ((x28.length + ([r37] : List (List Int)).length) * 24 ≤ 140737488355328) ((some (.inl ((IntKind.i64.wrap (x27 + 1), (x28 ++ ([r37]))))))))) else (some (.inr x28)))
noncomputable def impl_prime_second (a0 : Int) (a1 : Int) : Option (List (List Int)) :=
  (Option.bind (α := (List (List Int))) ((loopM (fun s : (Int × (List (List Int))) => impl_prime_second_l1 a1 a0 s.1 s.2) (0, []))) fun x19 => (some x19))
theorem impl_prime_second_ok (a0 : Int) (a1 : Int) (r : (List (List Int))) (h : impl_prime_second a0 a1 = some r) : Den Try.prog 131 [(i6 a0), (i6 a1)] { r := (eSSi64 r) } := by
  refine den_of (rs := [(eSSi64 r)]) (ac := impl_prime_second_c) (L := impl_prime_second_L) (n := 20) (m := [(4, 1), (5, 2)]) (c := Try.f131.body.getD .skip) good Try.func131 (by kernel_rfl) (by kernel_rfl) Try.ntmps131 rfl rfl (by kernel_rfl) rfl rfl ?_
  refine a_st (σ' := ⟨[(0, (i6 a0)), (1, (i6 a1))], []⟩) (by kernel_rfl) ?_
  unfold impl_prime_second_c
  refine sr (vp (eSSi64 ([])) rfl (nx ⟨[(0, (i6 a0)), (1, (i6 a1))], []⟩ (by kernel_rfl) (sr (vu (.osl 1500) [(1500, (bk (.row 1 (([]).map eSi64))))] rfl trivial rfl (nx ⟨[(0, (i6 a0)), (1, (i6 a1)), (5, (.osl 5))], [(5, (bk (.row 1 (([]).map eSi64))))]⟩ (by kernel_rfl) ?_)))))
  obtain ⟨y20, hy21, hk22⟩ := bind_some h
  clear h
  refine a_join (emb := fun (s : (List (List Int))) => ⟨[(5, (.osl 5))], [(5, (bk (.row 1 (s.map eSi64))))]⟩) (pre := fun s => s = y20) ?_ ?_
  · rintro x19 rfl
    have h := hk22
    refine a_st (σ' := ⟨[(5, (.osl 5))], [(5, (bk (.row 1 (x19.map eSi64))))]⟩) (by kernel_rfl) (sr (vp (.osl 5) rfl (vu (eSSi64 x19) [(5, (bf (.row 1 (x19.map eSi64))))] rfl trivial rfl (nx _ rfl (a_ret ?_)))))
    refine ⟨.inr rfl, ?_⟩
    rw [Try.results131]
    cases h
    exact ⟨_, _, _, _, _, rfl, trivial, .inl ⟨rfl, .inl rfl⟩, rfl, rfl⟩
  · have h := hy21
    refine sr (vp (i6 a1) rfl (vp (i6 0) rfl (nx ⟨[(0, (i6 a0)), (5, (.osl 5)), (7, (i6 a1)), (8, (i6 0))], [(5, (bk (.row 1 (([]).map eSi64))))]⟩ (by kernel_rfl) (a_block ?_))))
    refine a_loop (emb := fun (s : (Int × (List (List Int)))) => ⟨[(0, (i6 a0)), (5, (.osl 5)), (7, (i6 a1)), (8, (i6 s.1))], [(5, (bk (.row 1 (s.2.map eSi64))))]⟩) (body := (fun s : (Int × (List (List Int))) => impl_prime_second_l1 a1 a0 s.1 s.2)) (G := fun q => some q = some y20) h rfl ?_ (by kernel_rfl)
    rintro X33 ⟨x27, x28⟩ x34 h hX35
    have h : impl_prime_second_l1 a1 a0 x27 x28 = some x34 := h
    refine a_st (σ' := ⟨[(0, (i6 a0)), (5, (.osl 5)), (7, (i6 a1)), (8, (i6 x27))], [(5, (bk (.row 1 (x28.map eSi64))))]⟩) (by kernel_rfl) (sr (vp (.bool ((decide (x27 < a1)))) rfl (nx ⟨[(0, (i6 a0)), (5, (.osl 5)), (7, (i6 a1)), (8, (i6 x27)), (9, (.bool ((decide (x27 < a1)))))], [(5, (bk (.row 1 (x28.map eSi64))))]⟩ (by kernel_rfl) (a_seq ?_))))
    cases hb36 : (decide (x27 < a1))
    · have h := ite_f hb36 h
      refine a_cond_f rfl (a_exit (t_exit ?_))
      cases h
      have h := hX35
      refine t_exit (b_exit ?_)
      exact j_leaf x28 (Option.some.inj h) (by kernel_rfl)
    · have h := ite_t hb36 h
      refine a_cond_t rfl (a_skip (a_next (σ' := ⟨[(0, (i6 a0)), (5, (.osl 5)), (7, (i6 a1)), (8, (i6 x27))], [(5, (bk (.row 1 (x28.map eSi64))))]⟩) (by kernel_rfl) (a_seq (a_block (sr (vp (i6 x27) rfl (vp (i6 x27) rfl (nx ⟨[(0, (i6 a0)), (5, (.osl 5)), (6, (i6 x27)), (7, (i6 a1)), (8, (i6 x27))], [(5, (bk (.row 1 (x28.map eSi64))))]⟩ (by kernel_rfl) (a_region ?_)))))))))
      refine vp (.osl 5) rfl (vp (i6 a0) rfl (vp (i6 x27) rfl (vp (i6 (IntKind.i64.wrap (x27 + 1))) rfl ?_)))
      obtain ⟨r37, hr38, h⟩ := bind_some h
      refine a_call (args := [(i6 a0), (i6 (IntKind.i64.wrap (x27 + 1))), (i6 0)]) (u := []) (r := (eSi64 r37)) rfl rfl (impl_prime_bracket_ok a0 (IntKind.i64.wrap (x27 + 1)) 0 r37 hr38) rfl (vq (.sl 1 true (([r37]).map eSi64)) rfl ⟨(Nat.le_of_ble_eq_true rfl), (Nat.le_of_ble_eq_true rfl), (all_cons ⟨(Nat.le_of_ble_eq_true rfl), rfl⟩ all_nil)⟩ ?_)
      obtain ⟨hc39, h⟩ := ifp_some h
      refine vu (.osl 2700) [(2700, (bk (.row 1 (((x28 ++ ([r37]))).map eSi64)))), (5, none)] (app_run (i := ⟨.slice 2, 1, 24, (eSi64 [])⟩) (f := eSi64) (l := x28) (l2 := [r37]) rfl rfl rfl rfl (fun _ => rfl) rfl rfl) (app_c (f := eSi64) (s := 1) (sz := 1) (by' := 24) (u := []) (id := 5) hc39 (.inr rfl) rfl rfl rfl) rfl (vp (.osl 2700) rfl (a_nil (b_norm (a_next (σ' := ⟨[(0, (i6 a0)), (5, (.osl 5)), (7, (i6 a1)), (8, (i6 x27))], [(5, (bk (.row 1 (((x28 ++ ([r37]))).map eSi64))))]⟩) (by kernel_rfl) (a_region (vp (i6 (IntKind.i64.wrap (x27 + 1))) rfl (vp (i6 (IntKind.i64.wrap (x27 + 1))) rfl (a_nil ?_))))))))
      cases h
      exact a_again (by kernel_rfl) hX35
def impl_prime_times_c : ACode := (.seq (.region 0 [q 6 (.asg 1 (.const (.slice none 0 0)) 80)] false) (.seq (.seq (.region 1 [q 14 (.mov (t 1)), q 15 (.blt 0 .len [(t 14)] [80]), q 16 (.bin .eql 3 (t 15) (.const (.int .i64 0))), q 17 (.mov (t 16)), ⟨some 18, .mov (t 2), some (17, false), []⟩, ⟨some 19, .blt 0 .len [(t 18)] [80], some (17, false), []⟩, ⟨some 20, .bin .eql 3 (t 19) (.const (.int .i64 0)), some (17, false), []⟩, q 21 (.pick (t 17) (.const (.bool true)) (t 20))] false) (.cond (t 21) (.seq (.region 2 [q 6 (.asg 1 (.const (.slice none 0 0)) 80)] false) .ret) .skip)) (.seq (.region 3 [q 22 (.mov (t 1)), q 23 (.blt 0 .len [(t 22)] [80]), q 24 (.mov (t 2)), q 25 (.blt 0 .len [(t 24)] [80]), q 26 (.bin .add 3 (t 23) (t 25)), q 27 (.bin .sub 3 (t 26) (.const (.int .i64 1))), q 28 (.mkslice 80 (t 27) (t 27)), q 7 (.asg 2 (t 28) 80)] false) (.seq (.seq (.region 4 [q 29 (.mov (t 1)), q 30 (.blt 0 .len [(t 29)] [80]), q 31 (.mov (.const (.int .i64 0)))] false) (.block 0 (.loop (.seq (.region 5 [q 32 (.bin .lss 3 (t 31) (t 30))] false) (.seq (.cond (t 32) .skip (.exit 0)) (.seq (.block 1 (.seq (.region 6 [q 33 (.mov (t 31)), q 34 (.indexAddr 80 (t 29) (t 31)), q 35 (.load 2 (t 34)), q 8 (.asg 0 (t 33) 3), q 9 (.asg 0 (t 35) 2)] false) (.seq (.region 7 [q 36 (.mov (t 2)), q 37 (.blt 0 .len [(t 36)] [80]), q 38 (.mov (.const (.int .i64 0)))] false) (.block 2 (.loop (.seq (.region 8 [q 39 (.bin .lss 3 (t 38) (t 37))] false) (.seq (.cond (t 39) .skip (.exit 2)) (.seq (.block 3 (.seq (.region 9 [q 40 (.mov (t 38)), q 41 (.indexAddr 80 (t 36) (t 38)), q 42 (.load 2 (t 41)), q 10 (.asg 0 (t 40) 3), q 11 (.asg 0 (t 42) 2)] false) (.region 10 [q 43 (.mov (t 7)), q 44 (.mov (t 8)), q 45 (.mov (t 10)), q 46 (.bin .add 3 (t 44) (t 45)), q 47 (.indexAddr 80 (t 43) (t 46)), q 48 (.load 2 (t 47)), q 49 (.mov (t 9)), q 50 (.mov (t 11)), q 51 (.bin .mul 2 (t 49) (t 50)), q 52 (.bin .add 2 (t 48) (t 51)), q 53 (.indexAddr 80 (t 43) (t 46)), ⟨none, .store 2 (t 53) (t 52), none, []⟩] false))) (.region 11 [q 54 (.bin .add 3 (t 38) (.const (.int .i64 1))), q 38 (.mov (t 54))] false))))))))) (.region 12 [q 55 (.bin .add 3 (t 31) (.const (.int .i64 1))), q 31 (.mov (t 55))] false))))))) (.seq (.seq (.region 13 [q 56 (.mov (t 7)), q 57 (.blt 0 .len [(t 56)] [80]), q 58 (.mov (.const (.int .i64 0)))] false) (.block 4 (.loop (.seq (.region 14 [q 59 (.bin .lss 3 (t 58) (t 57))] false) (.seq (.cond (t 59) .skip (.exit 4)) (.seq (.block 5 (.seq (.region 15 [q 60 (.mov (t 58)), q 61 (.indexAddr 80 (t 56) (t 58)), q 62 (.load 2 (t 61)), q 12 (.asg 0 (t 60) 3), q 13 (.asg 0 (t 62) 2)] false) (.region 16 [q 63 (.mov (t 7)), q 64 (.mov (t 12)), q 65 (.mov (t 13)), q 66 (.mov (t 0)), q 67 (.bin .rem 2 (t 65) (t 66)), q 68 (.indexAddr 80 (t 63) (t 64)), ⟨none, .store 2 (t 68) (t 67), none, []⟩] false))) (.region 17 [q 69 (.bin .add 3 (t 58) (.const (.int .i64 1))), q 58 (.mov (t 69))] false))))))) (.seq (.region 18 [q 70 (.mov (t 7)), q 71 (.call 0 (.func 180) [(t 70)]), q 6 (.asg 1 (t 71) 80)] false) .ret))))))
def impl_prime_times_L : Live := [(0, [0, 1, 2]), (1, [0, 1, 2]), (2, []), (3, [0, 1, 2]), (4, [0, 1, 2, 7]), (5, [0, 2, 7, 29, 30, 31]), (6, [0, 2, 7, 29, 30, 31]), (7, [0, 2, 7, 8, 9, 29, 30, 31]), (8, [0, 2, 7, 8, 9, 29, 30, 31, 36, 37, 38]), (9, [0, 2, 7, 8, 9, 29, 30, 31, 36, 37, 38]), (10, [0, 2, 7, 8, 9, 10, 11, 29, 30, 31, 36, 37, 38]), (11, [0, 2, 7, 8, 9, 29, 30, 31, 36, 37, 38]), (12, [0, 2, 7, 29, 30, 31]), (13, [0, 7]), (14, [0, 7, 56, 57, 58]), (15, [0, 7, 56, 57, 58]), (16, [0, 7, 12, 13, 56, 57, 58]), (17, [0, 7, 56, 57, 58]), (18, [7]), (100021, [0, 1, 2, 21]), (100032, [0, 2, 7, 29, 30, 31, 32]), (100039, [0, 2, 7, 8, 9, 29, 30, 31, 36, 37, 38, 39]), (100059, [0, 7, 56, 57, 58, 59])]
noncomputable def impl_prime_times_l2 (a2 : (List Int)) (x353 : Int) (a1 : (List Int)) (x492 : Int) (x493 : (List Int)) : Option ((Int × (List Int)) ⊕ (List Int)) :=
  (if (decide (x492 < (a2.length : Int))) then (ifp (0 ≤ x492 ∧ x492 < ((a2.length : Nat) : Int)) ((ifp (0 ≤ IntKind.i64.wrap (x353 + x492) ∧ IntKind.i64.wrap (x353 + x492) < ((x493.length : Nat) : Int)) ((letp (IntKind.i64.wrap (((rd x493 (IntKind.i64.wrap (x353 + x492)).toNat)) + (IntKind.i64.wrap ((rd a1 x353.toNat) * (rd a2 x492.toNat))))) fun x511 => (ifp (0 ≤ IntKind.i64.wrap (x353 + x492) ∧ IntKind.i64.wrap (x353 + x492) < ((x493.length : Nat) : Int)) ((some (.inl ((IntKind.i64.wrap (x492 + 1), (x493.set (IntKind.i64.wrap (x353 + x492)).toNat x511)))))))))))) else (some (.inr x493)))
noncomputable def impl_prime_times_l1 (a1 : (List Int)) (a2 : (List Int)) (x353 : Int) (x354 : (List Int)) : Option ((Int × (List Int)) ⊕ (List Int)) :=
  (if (decide (x353 < (a1.length : Int))) then (Option.bind (α := (List Int)) ((ifp (0 ≤ x353 ∧ x353 < ((a1.length : Nat) : Int)) ((loopM (fun s : (Int × (List Int)) => impl_prime_times_l2 a2 x353 a1 s.1 s.2) (0, x354))))) fun x475 => (some (.inl ((IntKind.i64.wrap (x353 + 1), x475))))) else (some (.inr x354)))
noncomputable def impl_prime_times_l3 (x262 : (List Int)) (a0 : Int) (x551 : Int) (x552 : (List Int)) : Option ((Int × (List Int)) ⊕ (List Int)) :=
  (if (decide (x551 < (x262.length : Int))) then (ifp (0 ≤ x551 ∧ x551 < ((x552.length : Nat) : Int)) ((ifp (a0 ≠ 0) ((ifp (0 ≤ x551 ∧ x551 < ((x552.length : Nat) : Int)) ((some (.inl ((IntKind.i64.wrap (x551 + 1), (x552.set x551.toNat (Int.tmod (rd x552 x551.toNat) a0)))))))))))) else (some (.inr x552)))
noncomputable def impl_prime_times (a0 : Int) (a1 : (List Int)) (a2 : (List Int)) : Option (List Int) :=
  (Option.bind (α := Bool) ((if ((a1.length : Int) == 0) then (some true) else (some (((a2.length : Int) == 0))))) fun x2 => (if x2 then (some ([])) else (letp (IntKind.i64.wrap ((IntKind.i64.wrap ((a1.length : Int) + (a2.length : Int))) - 1)) fun x8 => (ifp (0 ≤ x8 ∧ x8 ≤ 140737488355328 ∧ 8 * x8 ≤ 140737488355328) ((Option.bind (α := (List Int)) ((loopM (fun s : (Int × (List Int)) => impl_prime_times_l1 a1 a2 s.1 s.2) (0, List.replicate x8.toNat (0 : Int)))) fun x262 => (Option.bind (α := (List Int)) ((loopM (fun s : (Int × (List Int)) => impl_prime_times_l3 x262 a0 s.1 s.2) (0, x262))) fun x541 => (Option.bind (impl_row_trimmed x541) fun r569 => (some r569)))))))))
theorem impl_prime_times_ok (a0 : Int) (a1 : (List Int)) (a2 : (List Int)) (r : (List Int)) (h : impl_prime_times a0 a1 a2 = some r) : Den Try.prog 102 [(i6 a0), (eSi64 a1), (eSi64 a2)] { r := (eSi64 r) } := by
  refine den_of (rs := [(eSi64 r)]) (ac := impl_prime_times_c) (L := impl_prime_times_L) (n := 72) (m := [(6, 1), (7, 2)]) (c := Try.f102.body.getD .skip) good Try.func102 (by kernel_rfl) (by kernel_rfl) Try.ntmps102 rfl rfl (by kernel_rfl) rfl rfl ?_
  refine a_st (σ' := ⟨[(0, (i6 a0)), (1, (eSi64 a1)), (2, (eSi64 a2))], []⟩) (by kernel_rfl) ?_
  unfold impl_prime_times_c
  refine sr (vp (eSi64 ([])) rfl (nx ⟨[(0, (i6 a0)), (1, (eSi64 a1)), (2, (eSi64 a2))], []⟩ (by kernel_rfl) (a_seq ?_)))
  obtain ⟨y3, hy4, hk5⟩ := bind_some h
  clear h
  refine a_join (emb := fun (s : Bool) => ⟨[(0, (i6 a0)), (1, (eSi64 a1)), (2, (eSi64 a2)), (21, (.bool s))], []⟩) (pre := fun s => s = y3) ?_ ?_
  · rintro x2 rfl
    have h := hk5
    refine a_st (σ' := ⟨[(0, (i6 a0)), (1, (eSi64 a1)), (2, (eSi64 a2)), (21, (.bool x2))], []⟩) (by kernel_rfl) ?_
    cases hb7 : x2
    · have h := ite_f hb7 h
      refine a_cond_f rfl (a_skip (a_next (σ' := ⟨[(0, (i6 a0)), (1, (eSi64 a1)), (2, (eSi64 a2))], []⟩) (by kernel_rfl) (sr (vp (eSi64 a1) rfl (vq (i6 (a1.length : Int)) (len_run rfl rfl) trivial (vp (eSi64 a2) rfl (vq (i6 (a2.length : Int)) (len_run rfl rfl) trivial (vp (i6 (IntKind.i64.wrap ((a1.length : Int) + (a2.length : Int)))) rfl ?_))))))))
      obtain ⟨x8, hx9, h⟩ := letp_some h
      refine a_val' (v := (i6 (IntKind.i64.wrap ((IntKind.i64.wrap ((a1.length : Int) + (a2.length : Int))) - 1)))) (v' := (i6 x8)) (u := []) (u' := []) rfl (congrArg (fun z => ((i6 z) : AV)) hx9) rfl trivial rfl ?_
      obtain ⟨hc10, h⟩ := ifp_some h
      refine vu (.osl 3800) [(3800, (bk (.row 1 ((List.replicate x8.toNat (0 : Int)).map (AV.int .i64)))))] (mk_run (i := ⟨.int .i64, 1, 8, (.int .i64 0)⟩) (f := (AV.int .i64)) (y := (0 : Int)) rfl rfl rfl rfl rfl rfl) ⟨rfl, hc10.1, hc10.2.1, hc10.2.2, (Nat.le_of_ble_eq_true rfl)⟩ rfl (vp (.osl 3800) rfl (nx ⟨[(0, (i6 a0)), (1, (eSi64 a1)), (2, (eSi64 a2)), (7, (.osl 7))], [(7, (bk (.row 1 ((List.replicate x8.toNat (0 : Int)).map (AV.int .i64)))))]⟩ (by kernel_rfl) ?_))
      obtain ⟨y263, hy264, hk265⟩ := bind_some h
      clear h
      refine a_join (emb := fun (s : (List Int)) => ⟨[(0, (i6 a0)), (7, (.osl 7))], [(7, (bk (.row 1 (s.map (AV.int .i64)))))]⟩) (pre := fun s => s = y263) ?_ ?_
      · rintro x262 rfl
        have h := hk265
        refine a_st (σ' := ⟨[(0, (i6 a0)), (7, (.osl 7))], [(7, (bk (.row 1 (x262.map (AV.int .i64)))))]⟩) (by kernel_rfl) ?_
        obtain ⟨y542, hy543, hk544⟩ := bind_some h
        clear h
        refine a_join (emb := fun (s : (List Int)) => ⟨[(7, (.osl 7))], [(7, (bk (.row 1 (s.map (AV.int .i64)))))]⟩) (pre := fun s => s = y542) ?_ ?_
        · rintro x541 rfl
          have h := hk544
          refine a_st (σ' := ⟨[(7, (.osl 7))], [(7, (bk (.row 1 (x541.map (AV.int .i64)))))]⟩) (by kernel_rfl) (sr (vp (.osl 7) rfl ?_))
          obtain ⟨r569, hr570, h⟩ := bind_some h
          refine a_call (args := [(eSi64 x541)]) (u := [(7, (bf (.row 1 (x541.map (AV.int .i64)))))]) (r := (eSi64 r569)) rfl rfl (impl_row_trimmed_ok x541 r569 hr570) rfl (vp (eSi64 r569) rfl (nx _ rfl (a_ret ?_)))
          refine ⟨.inr rfl, ?_⟩
          rw [Try.results102]
          cases h
          exact ⟨_, _, _, _, _, rfl, trivial, .inl ⟨rfl, .inl rfl⟩, rfl, rfl⟩
        · have h := hy543
          refine sr (vp (.osl 7) rfl (vq (i6 (x262.length : Int)) (leno_run rfl rfl rfl) trivial (vp (i6 0) rfl (nx ⟨[(0, (i6 a0)), (7, (.osl 7)), (56, (.osl 7)), (57, (i6 (x262.length : Int))), (58, (i6 0))], [(7, (bk (.row 1 (x262.map (AV.int .i64)))))]⟩ (by kernel_rfl) (a_block ?_)))))
          refine a_loop (emb := fun (s : (Int × (List Int))) => ⟨[(0, (i6 a0)), (7, (.osl 7)), (56, (.osl 7)), (57, (i6 (x262.length : Int))), (58, (i6 s.1))], [(7, (bk (.row 1 (s.2.map (AV.int .i64)))))]⟩) (body := (fun s : (Int × (List Int)) => impl_prime_times_l3 x262 a0 s.1 s.2)) (G := fun q => some q = some y542) h rfl ?_ (by kernel_rfl)
          rintro X559 ⟨x551, x552⟩ x560 h hX561
          have h : impl_prime_times_l3 x262 a0 x551 x552 = some x560 := h
          refine a_st (σ' := ⟨[(0, (i6 a0)), (7, (.osl 7)), (56, (.osl 7)), (57, (i6 (x262.length : Int))), (58, (i6 x551))], [(7, (bk (.row 1 (x552.map (AV.int .i64)))))]⟩) (by kernel_rfl) (sr (vp (.bool ((decide (x551 < (x262.length : Int))))) rfl (nx ⟨[(0, (i6 a0)), (7, (.osl 7)), (56, (.osl 7)), (57, (i6 (x262.length : Int))), (58, (i6 x551)), (59, (.bool ((decide (x551 < (x262.length : Int))))))], [(7, (bk (.row 1 (x552.map (AV.int .i64)))))]⟩ (by kernel_rfl) (a_seq ?_))))
          cases hb562 : (decide (x551 < (x262.length : Int)))
          · have h := ite_f hb562 h
            refine a_cond_f rfl (a_exit (t_exit ?_))
            cases h
            have h := hX561
            refine t_exit (b_exit ?_)
            exact j_leaf x552 (Option.some.inj h) (by kernel_rfl)
          · have h := ite_t hb562 h
            refine a_cond_t rfl (a_skip (a_next (σ' := ⟨[(0, (i6 a0)), (7, (.osl 7)), (56, (.osl 7)), (57, (i6 (x262.length : Int))), (58, (i6 x551))], [(7, (bk (.row 1 (x552.map (AV.int .i64)))))]⟩) (by kernel_rfl) (a_seq (a_block (sr (vp (i6 x551) rfl ?_))))))
            obtain ⟨hc563, h⟩ := ifp_some h
            refine vq (.own 7 [x551.toNat] [x551.toNat * 1]) rfl (lmap hc563) ?_
            have hl564 : LdOk [x551.toNat] (.row 1 (x552.map (AV.int .i64))) [x551.toNat * 1] 1 false (i6 (rd x552 x551.toNat)) := (.row (llt hc563) rfl (.nil rfl rfl rfl))
            refine vq (i6 (rd x552 x551.toNat)) (ld_own (i := ⟨.int .i64, 1, 8, (.int .i64 0)⟩) rfl rfl rfl hl564) hl564.c (vp (i6 x551) rfl (vp (i6 (rd x552 x551.toNat)) rfl (nx ⟨[(0, (i6 a0)), (7, (.osl 7)), (12, (i6 x551)), (13, (i6 (rd x552 x551.toNat))), (56, (.osl 7)), (57, (i6 (x262.length : Int))), (58, (i6 x551))], [(7, (bk (.row 1 (x552.map (AV.int .i64)))))]⟩ (by kernel_rfl) (a_region (vp (.osl 7) rfl (vp (i6 x551) rfl (vp (i6 (rd x552 x551.toNat)) rfl (vp (i6 a0) rfl ?_))))))))
            obtain ⟨hc565, h⟩ := ifp_some h
            refine vq (i6 (Int.tmod (rd x552 x551.toNat) a0)) rfl hc565 ?_
            obtain ⟨hc566, h⟩ := ifp_some h
            refine vq (.own 7 [x551.toNat] [x551.toNat * 1]) rfl (lmap hc566) ?_
            have hs567 : StOk [x551.toNat] (.row 1 (x552.map (AV.int .i64))) [x551.toNat * 1] 1 (i6 (Int.tmod (rd x552 x551.toNat) a0)) (.row 1 (((x552.set x551.toNat (Int.tmod (rd x552 x551.toNat) a0))).map (AV.int .i64))) := (.row (y := Int.tmod (rd x552 x551.toNat) a0) (llt hc566) rfl (.nil rfl rfl rfl rfl))
            refine vu .top [(7, (bk (.row 1 (((x552.set x551.toNat (Int.tmod (rd x552 x551.toNat) a0))).map (AV.int .i64)))))] (st_own (i := ⟨.int .i64, 1, 8, (.int .i64 0)⟩) rfl rfl (fun _ => rfl) rfl hs567) (hs567.c rfl) rfl (a_nil (b_norm (a_next (σ' := ⟨[(0, (i6 a0)), (7, (.osl 7)), (56, (.osl 7)), (57, (i6 (x262.length : Int))), (58, (i6 x551))], [(7, (bk (.row 1 (((x552.set x551.toNat (Int.tmod (rd x552 x551.toNat) a0))).map (AV.int .i64)))))]⟩) (by kernel_rfl) (a_region (vp (i6 (IntKind.i64.wrap (x551 + 1))) rfl (vp (i6 (IntKind.i64.wrap (x551 + 1))) rfl (a_nil ?_)))))))
            cases h
            exact a_again (by kernel_rfl) hX561
      · have h := hy264
        refine sr (vp (eSi64 a1) rfl (vq (i6 (a1.length : Int)) (len_run rfl rfl) trivial (vp (i6 0) rfl (nx ⟨[(0, (i6 a0)), (2, (eSi64 a2)), (7, (.osl 7)), (29, (eSi64 a1)), (30, (i6 (a1.length : Int))), (31, (i6 0))], [(7, (bk (.row 1 ((List.replicate x8.toNat (0 : Int)).map (AV.int .i64)))))]⟩ (by kernel_rfl) (a_block ?_)))))
        refine a_loop (emb := fun (s : (Int × (List Int))) => ⟨[(0, (i6 a0)), (2, (eSi64 a2)), (7, (.osl 7)), (29, (eSi64 a1)), (30, (i6 (a1.length : Int))), (31, (i6 s.1))], [(7, (bk (.row 1 (s.2.map (AV.int .i64)))))]⟩) (body := (fun s : (Int × (List Int)) => impl_prime_times_l1 a1 a2 s.1 s.2)) (G := fun q => some q = some y263) h rfl ?_ (by kernel_rfl)
        rintro X434 ⟨x353, x354⟩ x435 h hX436
        have h : impl_prime_times_l1 a1 a2 x353 x354 = some x435 := h
        refine a_st (σ' := ⟨[(0, (i6 a0)), (2, (eSi64 a2)), (7, (.osl 7)), (29, (eSi64 a1)), (30, (i6 (a1.length : Int))), (31, (i6 x353))], [(7, (bk (.row 1 (x354.map (AV.int .i64)))))]⟩) (by kernel_rfl) (sr (vp (.bool ((decide (x353 < (a1.length : Int))))) rfl (nx ⟨[(0, (i6 a0)), (2, (eSi64 a2)), (7, (.osl 7)), (29, (eSi64 a1)), (30, (i6 (a1.length : Int))), (31, (i6 x353)), (32, (.bool ((decide (x353 < (a1.length : Int))))))], [(7, (bk (.row 1 (x354.map (AV.int .i64)))))]⟩ (by kernel_rfl) (a_seq ?_))))
        cases hb437 : (decide (x353 < (a1.length : Int)))
        · have h := ite_f hb437 h
          refine a_cond_f rfl (a_exit (t_exit ?_))
          cases h
          have h := hX436
          refine t_exit (b_exit ?_)
          exact j_leaf x354 (Option.some.inj h) (by kernel_rfl)
        · have h := ite_t hb437 h
          refine a_cond_t rfl (a_skip (a_next (σ' := ⟨[(0, (i6 a0)), (2, (eSi64 a2)), (7, (.osl 7)), (29, (eSi64 a1)), (30, (i6 (a1.length : Int))), (31, (i6 x353))], [(7, (bk (.row 1 (x354.map (AV.int .i64)))))]⟩) (by kernel_rfl) ?_))
          obtain ⟨y476, hy477, hk478⟩ := bind_some h
          clear h
          refine a_join (emb := fun (s : (List Int)) => ⟨[(0, (i6 a0)), (2, (eSi64 a2)), (7, (.osl 7)), (29, (eSi64 a1)), (30, (i6 (a1.length : Int))), (31, (i6 x353))], [(7, (bk (.row 1 (s.map (AV.int .i64)))))]⟩) (pre := fun s => s = y476) ?_ ?_
          · rintro x475 rfl
            have h := hk478
            refine a_st (σ' := ⟨[(0, (i6 a0)), (2, (eSi64 a2)), (7, (.osl 7)), (29, (eSi64 a1)), (30, (i6 (a1.length : Int))), (31, (i6 x353))], [(7, (bk (.row 1 (x475.map (AV.int .i64)))))]⟩) (by kernel_rfl) (a_region (vp (i6 (IntKind.i64.wrap (x353 + 1))) rfl (vp (i6 (IntKind.i64.wrap (x353 + 1))) rfl (a_nil ?_))))
            cases h
            exact a_again (by kernel_rfl) hX436
          · have h := hy477
            refine a_block (sr (vp (i6 x353) rfl ?_))
            obtain ⟨hc479, h⟩ := ifp_some h
            refine vq (.ref (.row 1 (a1.map (AV.int .i64))) [x353.toNat] [x353.toNat * 1]) rfl (lmap hc479) ?_
            have hl480 : LdOk [x353.toNat] (.row 1 (a1.map (AV.int .i64))) [x353.toNat * 1] 1 false (i6 (rd a1 x353.toNat)) := (.row (llt hc479) rfl (.nil rfl rfl rfl))
            refine vq (i6 (rd a1 x353.toNat)) (ld_ref (i := ⟨.int .i64, 1, 8, (.int .i64 0)⟩) rfl rfl hl480) hl480.c (vp (i6 x353) rfl (vp (i6 (rd a1 x353.toNat)) rfl (nx ⟨[(0, (i6 a0)), (2, (eSi64 a2)), (7, (.osl 7)), (8, (i6 x353)), (9, (i6 (rd a1 x353.toNat))), (29, (eSi64 a1)), (30, (i6 (a1.length : Int))), (31, (i6 x353))], [(7, (bk (.row 1 (x354.map (AV.int .i64)))))]⟩ (by kernel_rfl) (sr (vp (eSi64 a2) rfl (vq (i6 (a2.length : Int)) (len_run rfl rfl) trivial (vp (i6 0) rfl (nx ⟨[(0, (i6 a0)), (2, (eSi64 a2)), (7, (.osl 7)), (8, (i6 x353)), (9, (i6 (rd a1 x353.toNat))), (29, (eSi64 a1)), (30, (i6 (a1.length : Int))), (31, (i6 x353)), (36, (eSi64 a2)), (37, (i6 (a2.length : Int))), (38, (i6 0))], [(7, (bk (.row 1 (x354.map (AV.int .i64)))))]⟩ (by kernel_rfl) (a_block ?_)))))))))
            refine a_loop (emb := fun (s : (Int × (List Int))) => ⟨[(0, (i6 a0)), (2, (eSi64 a2)), (7, (.osl 7)), (8, (i6 x353)), (9, (i6 (rd a1 x353.toNat))), (29, (eSi64 a1)), (30, (i6 (a1.length : Int))), (31, (i6 x353)), (36, (eSi64 a2)), (37, (i6 (a2.length : Int))), (38, (i6 s.1))], [(7, (bk (.row 1 (s.2.map (AV.int .i64)))))]⟩) (body := (fun s : (Int × (List Int)) => impl_prime_times_l2 a2 x353 a1 s.1 s.2)) (G := fun q => some q = some y476) h rfl ?_ (by kernel_rfl)
            rintro X503 ⟨x492, x493⟩ x504 h hX505
            have h : impl_prime_times_l2 a2 x353 a1 x492 x493 = some x504 := h
            refine a_st (σ' := ⟨[(0, (i6 a0)), (2, (eSi64 a2)), (7, (.osl 7)), (8, (i6 x353)), (9, (i6 (rd a1 x353.toNat))), (29, (eSi64 a1)), (30, (i6 (a1.length : Int))), (31, (i6 x353)), (36, (eSi64 a2)), (37, (i6 (a2.length : Int))), (38, (i6 x492))], [(7, (bk (.row 1 (x493.map (AV.int .i64)))))]⟩) (by kernel_rfl) (sr (vp (.bool ((decide (x492 < (a2.length : Int))))) rfl (nx ⟨[(0, (i6 a0)), (2, (eSi64 a2)), (7, (.osl 7)), (8, (i6 x353)), (9, (i6 (rd a1 x353.toNat))), (29, (eSi64 a1)), (30, (i6 (a1.length : Int))), (31, (i6 x353)), (36, (eSi64 a2)), (37, (i6 (a2.length : Int))), (38, (i6 x492)), (39, (.bool ((decide (x492 < (a2.length : Int))))))], [(7, (bk (.row 1 (x493.map (AV.int .i64)))))]⟩ (by kernel_rfl) (a_seq ?_))))
            cases hb506 : (decide (x492 < (a2.length : Int)))
            · have h := ite_f hb506 h
              refine a_cond_f rfl (a_exit (t_exit ?_))
              cases h
              have h := hX505
              refine t_exit (b_exit (b_norm ?_))
              exact j_leaf x493 (Option.some.inj h) (by kernel_rfl)
            · have h := ite_t hb506 h
              refine a_cond_t rfl (a_skip (a_next (σ' := ⟨[(0, (i6 a0)), (2, (eSi64 a2)), (7, (.osl 7)), (8, (i6 x353)), (9, (i6 (rd a1 x353.toNat))), (29, (eSi64 a1)), (30, (i6 (a1.length : Int))), (31, (i6 x353)), (36, (eSi64 a2)), (37, (i6 (a2.length : Int))), (38, (i6 x492))], [(7, (bk (.row 1 (x493.map (AV.int .i64)))))]⟩) (by kernel_rfl) (a_seq (a_block (sr (vp (i6 x492) rfl ?_))))))
              obtain ⟨hc507, h⟩ := ifp_some h
              refine vq (.ref (.row 1 (a2.map (AV.int .i64))) [x492.toNat] [x492.toNat * 1]) rfl (lmap hc507) ?_
              have hl508 : LdOk [x492.toNat] (.row 1 (a2.map (AV.int .i64))) [x492.toNat * 1] 1 false (i6 (rd a2 x492.toNat)) := (.row (llt hc507) rfl (.nil rfl rfl rfl))
              refine vq (i6 (rd a2 x492.toNat)) (ld_ref (i := ⟨.int .i64, 1, 8, (.int .i64 0)⟩) rfl rfl hl508) hl508.c (vp (i6 x492) rfl (vp (i6 (rd a2 x492.toNat)) rfl (nx ⟨[(0, (i6 a0)), (2, (eSi64 a2)), (7, (.osl 7)), (8, (i6 x353)), (9, (i6 (rd a1 x353.toNat))), (10, (i6 x492)), (11, (i6 (rd a2 x492.toNat))), (29, (eSi64 a1)), (30, (i6 (a1.length : Int))), (31, (i6 x353)), (36, (eSi64 a2)), (37, (i6 (a2.length : Int))), (38, (i6 x492))], [(7, (bk (.row 1 (x493.map (AV.int .i64)))))]⟩ (by kernel_rfl) (a_region (vp (.osl 7) rfl (vp (i6 x353) rfl (vp (i6 x492) rfl (vp (i6 (IntKind.i64.wrap (x353 + x492))) rfl ?_))))))))
              obtain ⟨hc509, h⟩ := ifp_some h
              refine vq (.own 7 [(IntKind.i64.wrap (x353 + x492)).toNat] [(IntKind.i64.wrap (x353 + x492)).toNat * 1]) rfl (lmap hc509) ?_
              have hl510 : LdOk [(IntKind.i64.wrap (x353 + x492)).toNat] (.row 1 (x493.map (AV.int .i64))) [(IntKind.i64.wrap (x353 + x492)).toNat * 1] 1 false (i6 ((rd x493 (IntKind.i64.wrap (x353 + x492)).toNat))) := (.row (llt hc509) rfl (.nil rfl rfl rfl))
              refine vq (i6 ((rd x493 (IntKind.i64.wrap (x353 + x492)).toNat))) (ld_own (i := ⟨.int .i64, 1, 8, (.int .i64 0)⟩) rfl rfl rfl hl510) hl510.c (vp (i6 (rd a1 x353.toNat)) rfl (vp (i6 (rd a2 x492.toNat)) rfl (vp (i6 (IntKind.i64.wrap ((rd a1 x353.toNat) * (rd a2 x492.toNat)))) rfl ?_)))
              obtain ⟨x511, hx512, h⟩ := letp_some h
              refine a_val' (v := (i6 (IntKind.i64.wrap (((rd x493 (IntKind.i64.wrap (x353 + x492)).toNat)) + (IntKind.i64.wrap ((rd a1 x353.toNat) * (rd a2 x492.toNat))))))) (v' := (i6 x511)) (u := []) (u' := []) rfl (congrArg (fun z => ((i6 z) : AV)) hx512) rfl trivial rfl ?_
              obtain ⟨hc513, h⟩ := ifp_some h
              refine vq (.own 7 [(IntKind.i64.wrap (x353 + x492)).toNat] [(IntKind.i64.wrap (x353 + x492)).toNat * 1]) rfl (lmap hc513) ?_
              have hs514 : StOk [(IntKind.i64.wrap (x353 + x492)).toNat] (.row 1 (x493.map (AV.int .i64))) [(IntKind.i64.wrap (x353 + x492)).toNat * 1] 1 (i6 x511) (.row 1 (((x493.set (IntKind.i64.wrap (x353 + x492)).toNat x511)).map (AV.int .i64))) := (.row (y := x511) (llt hc513) rfl (.nil rfl rfl rfl rfl))
              refine vu .top [(7, (bk (.row 1 (((x493.set (IntKind.i64.wrap (x353 + x492)).toNat x511)).map (AV.int .i64)))))] (st_own (i := ⟨.int .i64, 1, 8, (.int .i64 0)⟩) rfl rfl (fun _ => rfl) rfl hs514) (hs514.c rfl) rfl (a_nil (b_norm (a_next (σ' := ⟨[(0, (i6 a0)), (2, (eSi64 a2)), (7, (.osl 7)), (8, (i6 x353)), (9, (i6 (rd a1 x353.toNat))), (29, (eSi64 a1)), (30, (i6 (a1.length : Int))), (31, (i6 x353)), (36, (eSi64 a2)), (37, (i6 (a2.length : Int))), (38, (i6 x492))], [(7, (bk (.row 1 (((x493.set (IntKind.i64.wrap (x353 + x492)).toNat x511)).map (AV.int .i64)))))]⟩) (by kernel_rfl) (a_region (vp (i6 (IntKind.i64.wrap (x492 + 1))) rfl (vp (i6 (IntKind.i64.wrap (x492 + 1))) rfl (a_nil ?_)))))))
              cases h
              exact a_again (by kernel_rfl) hX505
    · have h := ite_t hb7 h
      refine a_cond_t rfl (sr (vp (eSi64 ([])) rfl (nx _ rfl (a_ret (t_ret ?_)))))
      refine ⟨.inr rfl, ?_⟩
      rw [Try.results102]
      cases h
      exact ⟨_, _, _, _, _, rfl, trivial, .inl ⟨rfl, .inl rfl⟩, rfl, rfl⟩
  · have h := hy4
    refine a_region (vp (eSi64 a1) rfl (vq (i6 (a1.length : Int)) (len_run rfl rfl) trivial (vp (.bool (((a1.length : Int) == 0))) rfl (vp (.bool (((a1.length : Int) == 0))) rfl ?_))))
    cases hb6 : ((a1.length : Int) == 0)
    · have h := ite_f hb6 h
      refine gp (eSi64 a2) rfl rfl (gq (i6 (a2.length : Int)) rfl (len_run rfl rfl) trivial (gp (.bool (((a2.length : Int) == 0))) rfl rfl (vp (.bool (((a2.length : Int) == 0))) rfl (a_nil ?_))))
      exact j_leaf (((a2.length : Int) == 0)) (Option.some.inj h) (by kernel_rfl)
    · have h := ite_t hb6 h
      refine a_gskip rfl (a_gskip rfl (a_gskip rfl (vp (.bool true) rfl (a_nil ?_))))
      exact j_leaf true (Option.some.inj h) (by kernel_rfl)
def impl_prime_productRow_c : ACode := (.seq (.region 0 [q 4 (.asg 1 (.const (.slice none 0 0)) 80)] false) (.seq (.region 1 [q 8 (.bslice 0 80 1 [(0, (.const (.int .i64 1)))]), q 5 (.asg 1 (t 8) 80)] false) (.seq (.seq (.region 2 [q 9 (.mov (t 1)), q 10 (.blt 0 .len [(t 9)] [108]), q 11 (.mov (.const (.int .i64 0)))] false) (.block 0 (.loop (.seq (.region 3 [q 12 (.bin .lss 3 (t 11) (t 10))] false) (.seq (.cond (t 12) .skip (.exit 0)) (.seq (.block 1 (.seq (.region 4 [q 13 (.indexAddr 108 (t 9) (t 11)), q 14 (.load 80 (t 13)), q 7 (.asg 1 (t 14) 80)] false) (.region 5 [q 15 (.mov (t 0)), q 16 (.mov (t 5)), q 17 (.mov (t 7)), q 18 (.call 0 (.func 102) [(t 15), (t 16), (t 17)]), q 5 (.asg 1 (t 18) 80)] false))) (.region 6 [q 19 (.bin .add 3 (t 11) (.const (.int .i64 1))), q 11 (.mov (t 19))] false))))))) (.seq (.region 7 [q 20 (.mov (t 5)), q 4 (.asg 1 (t 20) 80)] false) .ret))))
def impl_prime_productRow_L : Live := [(0, [0, 1]), (1, [0, 1]), (2, [0, 1, 5]), (3, [0, 5, 9, 10, 11]), (4, [0, 5, 9, 10, 11]), (5, [0, 5, 7, 9, 10, 11]), (6, [0, 5, 9, 10, 11]), (7, [5]), (100012, [0, 5, 9, 10, 11, 12])]
noncomputable def impl_prime_productRow_l1 (a1 : (List (List Int))) (a0 : Int) (x31 : (List Int)) (x32 : Int) : Option (((List Int) × Int) ⊕ (List Int)) :=
  (if (decide (x32 < (a1.length : Int))) then (ifp (0 ≤ x32 ∧ x32 < ((a1.length : Nat) : Int)) ((Option.bind (impl_prime_times a0 x31 (rd a1 x32.toNat)) fun r44 => (some (.inl ((r44, IntKind.i64.wrap (x32 + 1)))))))) else (some (.inr x31)))
noncomputable def impl_prime_productRow (a0 : Int) (a1 : (List (List Int))) : Option (List Int) :=
  (Option.bind (α := (List Int)) ((loopM (fun s : ((List Int) × Int) => impl_prime_productRow_l1 a1 a0 s.1 s.2) ([1], 0))) fun x22 => (some x22))
theorem impl_prime_productRow_ok (a0 : Int) (a1 : (List (List Int))) (r : (List Int)) (h : impl_prime_productRow a0 a1 = some r) : Den Try.prog 205 [(i6 a0), (eSSi64 a1)] { r := (eSi64 r) } := by
  refine den_of (rs := [(eSi64 r)]) (ac := impl_prime_productRow_c) (L := impl_prime_productRow_L) (n := 21) (m := [(4, 1), (5, 1), (7, 1)]) (c := Try.f205.body.getD .skip) good Try.func205 (by kernel_rfl) (by kernel_rfl) Try.ntmps205 rfl rfl (by kernel_rfl) rfl rfl ?_
  refine a_st (σ' := ⟨[(0, (i6 a0)), (1, (eSSi64 a1))], []⟩) (by kernel_rfl) ?_
  unfold impl_prime_productRow_c
  refine sr (vp (eSi64 ([])) rfl (nx ⟨[(0, (i6 a0)), (1, (eSSi64 a1))], []⟩ (by kernel_rfl) (sr (vq (.sl 1 true (([1]).map (AV.int .i64))) rfl ⟨(Nat.le_of_ble_eq_true rfl), (Nat.le_of_ble_eq_true rfl), (all_cons ⟨(Nat.le_of_ble_eq_true rfl), rfl⟩ all_nil)⟩ (vq (eSi64 ([1])) (asg_tight (i := ⟨.int .i64, 1, 8, (.int .i64 0)⟩) (f := (AV.int .i64)) (l := [1]) rfl rfl rfl) trivial (nx ⟨[(0, (i6 a0)), (1, (eSSi64 a1)), (5, (eSi64 ([1])))], []⟩ (by kernel_rfl) ?_))))))
  obtain ⟨y23, hy24, hk25⟩ := bind_some h
  clear h
  refine a_join (emb := fun (s : (List Int)) => ⟨[(5, (eSi64 s))], []⟩) (pre := fun s => s = y23) ?_ ?_
  · rintro x22 rfl
    have h := hk25
    refine a_st (σ' := ⟨[(5, (eSi64 x22))], []⟩) (by kernel_rfl) (sr (vp (eSi64 x22) rfl (vp (eSi64 x22) rfl (nx _ rfl (a_ret ?_)))))
    refine ⟨.inr rfl, ?_⟩
    rw [Try.results205]
    cases h
    exact ⟨_, _, _, _, _, rfl, trivial, .inl ⟨rfl, .inl rfl⟩, rfl, rfl⟩
  · have h := hy24
    refine sr (vp (eSSi64 a1) rfl (vq (i6 (a1.length : Int)) (len_run rfl rfl) trivial (vp (i6 0) rfl (nx ⟨[(0, (i6 a0)), (5, (eSi64 ([1]))), (9, (eSSi64 a1)), (10, (i6 (a1.length : Int))), (11, (i6 0))], []⟩ (by kernel_rfl) (a_block ?_)))))
    refine a_loop (emb := fun (s : ((List Int) × Int)) => ⟨[(0, (i6 a0)), (5, (eSi64 s.1)), (9, (eSSi64 a1)), (10, (i6 (a1.length : Int))), (11, (i6 s.2))], []⟩) (body := (fun s : ((List Int) × Int) => impl_prime_productRow_l1 a1 a0 s.1 s.2)) (G := fun q => some q = some y23) h rfl ?_ (by kernel_rfl)
    rintro X38 ⟨x31, x32⟩ x39 h hX40
    have h : impl_prime_productRow_l1 a1 a0 x31 x32 = some x39 := h
    refine a_st (σ' := ⟨[(0, (i6 a0)), (5, (eSi64 x31)), (9, (eSSi64 a1)), (10, (i6 (a1.length : Int))), (11, (i6 x32))], []⟩) (by kernel_rfl) (sr (vp (.bool ((decide (x32 < (a1.length : Int))))) rfl (nx ⟨[(0, (i6 a0)), (5, (eSi64 x31)), (9, (eSSi64 a1)), (10, (i6 (a1.length : Int))), (11, (i6 x32)), (12, (.bool ((decide (x32 < (a1.length : Int))))))], []⟩ (by kernel_rfl) (a_seq ?_))))
    cases hb41 : (decide (x32 < (a1.length : Int)))
    · have h := ite_f hb41 h
      refine a_cond_f rfl (a_exit (t_exit ?_))
      cases h
      have h := hX40
      refine t_exit (b_exit ?_)
      exact j_leaf x31 (Option.some.inj h) (by kernel_rfl)
    · have h := ite_t hb41 h
      refine a_cond_t rfl (a_skip (a_next (σ' := ⟨[(0, (i6 a0)), (5, (eSi64 x31)), (9, (eSSi64 a1)), (10, (i6 (a1.length : Int))), (11, (i6 x32))], []⟩) (by kernel_rfl) (a_seq (a_block (sr ?_)))))
      obtain ⟨hc42, h⟩ := ifp_some h
      refine vq (.ref (.row 1 (a1.map eSi64)) [x32.toNat] [x32.toNat * 1]) rfl (lmap hc42) ?_
      have hl43 : LdOk [x32.toNat] (.row 1 (a1.map eSi64)) [x32.toNat * 1] 1 false (eSi64 (rd a1 x32.toNat)) := (.row (llt hc42) rfl (.nil rfl rfl rfl))
      refine vq (eSi64 (rd a1 x32.toNat)) (ld_ref (i := ⟨.slice 2, 1, 24, (eSi64 [])⟩) rfl rfl hl43) hl43.c (vp (eSi64 (rd a1 x32.toNat)) rfl (nx ⟨[(0, (i6 a0)), (5, (eSi64 x31)), (7, (eSi64 (rd a1 x32.toNat))), (9, (eSSi64 a1)), (10, (i6 (a1.length : Int))), (11, (i6 x32))], []⟩ (by kernel_rfl) (a_region (vp (i6 a0) rfl (vp (eSi64 x31) rfl (vp (eSi64 (rd a1 x32.toNat)) rfl ?_))))))
      obtain ⟨r44, hr45, h⟩ := bind_some h
      refine a_call (args := [(i6 a0), (eSi64 x31), (eSi64 (rd a1 x32.toNat))]) (u := []) (r := (eSi64 r44)) rfl rfl (impl_prime_times_ok a0 x31 (rd a1 x32.toNat) r44 hr45) rfl (vp (eSi64 r44) rfl (a_nil (b_norm (a_next (σ' := ⟨[(0, (i6 a0)), (5, (eSi64 r44)), (9, (eSSi64 a1)), (10, (i6 (a1.length : Int))), (11, (i6 x32))], []⟩) (by kernel_rfl) (a_region (vp (i6 (IntKind.i64.wrap (x32 + 1))) rfl (vp (i6 (IntKind.i64.wrap (x32 + 1))) rfl (a_nil ?_))))))))
      cases h
      exact a_again (by kernel_rfl) hX40
def impl_cut_bottom_of_s_impl_prime_second_c : ACode := (.seq (.region 0 [q 1 (.box 119 (t 0)), q 2 (.asg 1 (.const (.slice none 0 0)) 80), q 3 (.asg 0 (.const (.bool false)) 4)] false) (.seq (.region 1 [q 7 (.fieldAddr 119 (t 1) 2), ⟨some 8, .load 80 (t 7), none, [0]⟩, ⟨some 9, .call 0 (.func 114) [(t 8)], none, [1]⟩, q 10 (.fieldAddr 119 (t 1) 0), ⟨some 11, .load 81 (t 10), none, [3]⟩, q 12 (.fieldAddr 119 (t 1) 3), ⟨some 13, .load 2 (t 12), none, [5]⟩, ⟨some 14, .bin .sub 2 (t 13) (.const (.int .i64 1)), none, [6]⟩, ⟨some 15, .call 0 (.func 171) [(t 11), (t 14), (.const (.int .i64 1099511627776))], none, [4, 7, 2]⟩, ⟨some 16, .bin .mul 2 (t 9) (t 15), none, [2, 8]⟩, ⟨some 4, .asg 0 (t 16) 2, none, [9, 8, 0, 1, 2, 3, 4, 5, 6, 7, 8, 9]⟩] true) (.seq (.seq (.region 2 [q 17 (.fieldAddr 119 (t 1) 4), q 18 (.load 109 (t 17)), q 19 (.fieldAddr 119 (t 1) 3), q 20 (.load 2 (t 19)), q 21 (.bin .sub 2 (t 20) (.const (.int .i64 1))), q 22 (.call 0 (t 18) [(t 21)]), q 23 (.blt 0 .len [(t 22)] [108]), q 24 (.mov (.const (.int .i64 0)))] false) (.block 0 (.loop (.seq (.region 3 [q 25 (.bin .lss 3 (t 24) (t 23))] false) (.seq (.cond (t 25) .skip (.exit 0)) (.seq (.block 1 (.seq (.region 4 [q 26 (.indexAddr 108 (t 22) (t 24)), q 27 (.load 80 (t 26)), q 6 (.asg 1 (t 27) 80)] false) (.region 5 [q 28 (.mov (t 4)), q 29 (.mov (t 6)), q 30 (.call 0 (.func 114) [(t 29)]), q 31 (.bin .add 2 (t 28) (t 30)), q 4 (.asg 0 (t 31) 2)] false))) (.region 6 [q 32 (.bin .add 3 (t 24) (.const (.int .i64 1))), q 24 (.mov (t 32))] false))))))) (.seq (.seq (.region 7 [q 33 (.mov (t 4)), q 34 (.bin .gtr 2 (t 33) (.const (.int .i64 63)))] false) (.cond (t 34) (.seq (.region 8 [q 2 (.asg 1 (.const (.slice none 0 0)) 80), q 3 (.asg 0 (.const (.bool false)) 4)] false) .ret) .skip)) (.seq (.region 9 [q 35 (.fieldAddr 119 (t 1) 0), ⟨some 36, .load 81 (t 35), none, [0]⟩, q 37 (.fieldAddr 119 (t 1) 0), ⟨some 38, .load 81 (t 37), none, [2]⟩, q 39 (.fieldAddr 119 (t 1) 2), ⟨some 40, .load 80 (t 39), none, [4]⟩, q 41 (.fieldAddr 119 (t 1) 3), ⟨some 42, .load 2 (t 41), none, [6]⟩, ⟨some 43, .bin .sub 2 (t 42) (.const (.int .i64 1)), none, [7]⟩, ⟨some 44, .call 0 (.func 189) [(t 38), (t 40), (t 43)], none, [3, 5, 8]⟩, q 45 (.fieldAddr 119 (t 1) 0), ⟨some 46, .load 81 (t 45), none, [10]⟩, q 47 (.fieldAddr 119 (t 1) 4), ⟨some 48, .load 109 (t 47), none, [12]⟩, q 49 (.fieldAddr 119 (t 1) 3), ⟨some 50, .load 2 (t 49), none, [14]⟩, ⟨some 51, .bin .sub 2 (t 50) (.const (.int .i64 1)), none, [15]⟩, ⟨some 52, .call 0 (t 48) [(t 51)], none, [13, 16, 9]⟩, ⟨some 53, .call 0 (.func 205) [(t 46), (t 52)], none, [11, 17, 17]⟩, ⟨some 54, .call 0 (.func 102) [(t 36), (t 44), (t 53)], none, [1, 9, 18, 18]⟩, ⟨some 2, .asg 1 (t 54) 80, none, [19, 19, 0, 1, 2, 3, 4, 5, 6, 7, 8, 9, 10, 11, 12, 13, 14, 15, 16, 17, 18, 19]⟩, ⟨some 3, .asg 0 (.const (.bool true)) 4, none, [20, 0, 1, 2, 3, 4, 5, 6, 7, 8, 9, 10, 11, 12, 13, 14, 15, 16, 17, 18, 19, 20]⟩] true) .ret)))))
def impl_cut_bottom_of_s_impl_prime_second_L : Live := [(0, [0]), (1, [1]), (2, [1, 4]), (3, [1, 4, 22, 23, 24]), (4, [1, 4, 22, 23, 24]), (5, [1, 4, 6, 22, 23, 24]), (6, [1, 4, 22, 23, 24]), (7, [1, 4]), (8, []), (9, [1]), (100025, [1, 4, 22, 23, 24, 25]), (100034, [1, 34])]
noncomputable def impl_cut_bottom_of_s_impl_prime_second_l1 (r46 : (List (List Int))) (x53 : Int) (x54 : Int) : Option ((Int × Int) ⊕ Int) :=
  (if (decide (x54 < (r46.length : Int))) then (ifp (0 ≤ x54 ∧ x54 < ((r46.length : Nat) : Int)) ((Option.bind (impl_row_degree (rd r46 x54.toNat)) fun r66 => (some (.inl ((IntKind.i64.wrap (x53 + r66), IntKind.i64.wrap (x54 + 1)))))))) else (some (.inr x53)))
noncomputable def impl_cut_bottom_of_s_impl_prime_second (a0s0 : Int) (a0s1 : (List Int)) (a0s2 : (List Int)) (a0s3 : Int) (a0s4f0 : Int) : Option ((List Int) × Bool) :=
  (Option.bind (impl_row_degree a0s2) fun r9 => (Option.bind (impl_prime_norm a0s0 (IntKind.i64.wrap (a0s3 - 1)) 1099511627776) fun r13 => (Option.bind (α := Int) ((Option.bind (impl_prime_second a0s4f0 (IntKind.i64.wrap (a0s3 - 1))) fun r46 => (loopM (fun s : (Int × Int) => impl_cut_bottom_of_s_impl_prime_second_l1 r46 s.1 s.2) (IntKind.i64.wrap (r9 * r13), 0)))) fun x40 => (if (decide (x40 > 63)) then (some ([], false)) else (Option.bind (impl_prime_spread a0s0 a0s2 (IntKind.i64.wrap (a0s3 - 1))) fun r89 => (Option.bind (impl_prime_second a0s4f0 (IntKind.i64.wrap (a0s3 - 1))) fun r94 => (Option.bind (impl_prime_productRow a0s0 r94) fun r96 => (Option.bind (impl_prime_times a0s0 r89 r96) fun r98 => (some (r98, true))))))))))
theorem impl_cut_bottom_of_s_impl_prime_second_ok (a0s0 : Int) (a0s1 : (List Int)) (a0s2 : (List Int)) (a0s3 : Int) (a0s4f0 : Int) (r : ((List Int) × Bool)) (h : impl_cut_bottom_of_s_impl_prime_second a0s0 a0s1 a0s2 a0s3 a0s4f0 = some r) : Den Try.prog 193 [(.struct [1, 1, 1, 1, 1] [(i6 a0s0), (eSi64 a0s1), (eSi64 a0s2), (i6 a0s3), (.clo 131 [(i6 a0s4f0)] [])])] { r := (.tuple [(eSi64 r.1), (.bool r.2)]) } := by
  refine den_of (rs := [(eSi64 r.1), (.bool r.2)]) (ac := impl_cut_bottom_of_s_impl_prime_second_c) (L := impl_cut_bottom_of_s_impl_prime_second_L) (n := 55) (m := [(2, 1), (6, 1)]) (c := Try.f193.body.getD .skip) good Try.func193 (by kernel_rfl) (by kernel_rfl) Try.ntmps193 rfl rfl (by kernel_rfl) rfl rfl ?_
  refine a_st (σ' := ⟨[(0, (.struct [1, 1, 1, 1, 1] [(i6 a0s0), (eSi64 a0s1), (eSi64 a0s2), (i6 a0s3), (.clo 131 [(i6 a0s4f0)] [])]))], []⟩) (by kernel_rfl) ?_
  unfold impl_cut_bottom_of_s_impl_prime_second_c
  refine sr (vo 1100 (.struct [1, 1, 1, 1, 1] [(i6 a0s0), (eSi64 a0s1), (eSi64 a0s2), (i6 a0s3), (.clo 131 [(i6 a0s4f0)] [])]) rfl rfl (vp (eSi64 ([])) rfl (vp (.bool false) rfl (nx ⟨[(1, (ow 1))], [(1, (bk (.struct [1, 1, 1, 1, 1] [(i6 a0s0), (eSi64 a0s1), (eSi64 a0s2), (i6 a0s3), (.clo 131 [(i6 a0s4f0)] [])])))]⟩ (by kernel_rfl) (a_seq (a_draw [⟨[1], [], [1], []⟩, ⟨[1], [], [], [0]⟩, ⟨[], [], [], [0, 1]⟩, ⟨[1], [], [1], []⟩, ⟨[1], [], [], [3]⟩, ⟨[1], [], [1], []⟩, ⟨[1], [], [], [5]⟩, ⟨[], [], [], [5, 6]⟩, ⟨[], [], [], [0, 1, 2, 3, 4, 5, 6, 7]⟩, ⟨[], [], [], [0, 1, 2, 3, 4, 5, 6, 7, 8]⟩, ⟨[], [], [], [0, 1, 2, 3, 4, 5, 6, 7, 8, 9]⟩] (by kernel_rfl) (d_cons (vb (.own 1 [2] [2]) rfl rfl (d_next (by kernel_rfl) ?_)))))))))
  refine d_cons ?_
  have hl8 : LdOk [2] (.struct [1, 1, 1, 1, 1] [(i6 a0s0), (eSi64 a0s1), (eSi64 a0s2), (i6 a0s3), (.clo 131 [(i6 a0s4f0)] [])]) [2] 1 false (eSi64 a0s2) := (.fld rfl rfl rfl rfl (.nil rfl rfl rfl))
  refine vq (eSi64 a0s2) (ld_own (i := ⟨.slice 2, 1, 24, (eSi64 [])⟩) rfl rfl rfl hl8) hl8.c (d_next (by kernel_rfl) (d_cons ?_))
  obtain ⟨r9, hr10, h⟩ := bind_some h
  refine a_call (args := [(eSi64 a0s2)]) (u := []) (r := (i6 r9)) rfl rfl (impl_row_degree_ok a0s2 r9 hr10) rfl (d_next (by kernel_rfl) (d_cons (vb (.own 1 [0] [0]) rfl rfl (d_next (by kernel_rfl) (d_cons ?_)))))
  have hl11 : LdOk [0] (.struct [1, 1, 1, 1, 1] [(i6 a0s0), (eSi64 a0s1), (eSi64 a0s2), (i6 a0s3), (.clo 131 [(i6 a0s4f0)] [])]) [0] 1 false (i6 a0s0) := (.fld rfl rfl rfl rfl (.nil rfl rfl rfl))
  refine vq (i6 a0s0) (ld_own (i := ⟨.int .i64, 1, 8, (.int .i64 0)⟩) rfl rfl rfl hl11) hl11.c (d_next (by kernel_rfl) (d_cons (vb (.own 1 [3] [3]) rfl rfl (d_next (by kernel_rfl) (d_cons ?_)))))
  have hl12 : LdOk [3] (.struct [1, 1, 1, 1, 1] [(i6 a0s0), (eSi64 a0s1), (eSi64 a0s2), (i6 a0s3), (.clo 131 [(i6 a0s4f0)] [])]) [3] 1 false (i6 a0s3) := (.fld rfl rfl rfl rfl (.nil rfl rfl rfl))
  refine vq (i6 a0s3) (ld_own (i := ⟨.int .i64, 1, 8, (.int .i64 0)⟩) rfl rfl rfl hl12) hl12.c (d_next (by kernel_rfl) (dp (i6 (IntKind.i64.wrap (a0s3 - 1))) rfl (by kernel_rfl) (d_cons ?_)))
  obtain ⟨r13, hr14, h⟩ := bind_some h
  refine a_call (args := [(i6 a0s0), (i6 (IntKind.i64.wrap (a0s3 - 1))), (i6 1099511627776)]) (u := []) (r := (i6 r13)) rfl rfl (impl_prime_norm_ok a0s0 (IntKind.i64.wrap (a0s3 - 1)) 1099511627776 r13 hr14) rfl (d_next (by kernel_rfl) (dp (i6 (IntKind.i64.wrap (r9 * r13))) rfl (by kernel_rfl) (dp (i6 (IntKind.i64.wrap (r9 * r13))) rfl (by kernel_rfl) (d_nil (a_next (σ' := ⟨[(1, (ow 1)), (4, (i6 (IntKind.i64.wrap (r9 * r13))))], [(1, (bk (.struct [1, 1, 1, 1, 1] [(i6 a0s0), (eSi64 a0s1), (eSi64 a0s2), (i6 a0s3), (.clo 131 [(i6 a0s4f0)] [])])))]⟩) (by kernel_rfl) ?_)))))
  obtain ⟨y41, hy42, hk43⟩ := bind_some h
  clear h
  refine a_join (emb := fun (s : Int) => ⟨[(1, (ow 1)), (4, (i6 s))], [(1, (bk (.struct [1, 1, 1, 1, 1] [(i6 a0s0), (eSi64 a0s1), (eSi64 a0s2), (i6 a0s3), (.clo 131 [(i6 a0s4f0)] [])])))]⟩) (pre := fun s => s = y41) ?_ ?_
  · rintro x40 rfl
    have h := hk43
    refine a_st (σ' := ⟨[(1, (ow 1)), (4, (i6 x40))], [(1, (bk (.struct [1, 1, 1, 1, 1] [(i6 a0s0), (eSi64 a0s1), (eSi64 a0s2), (i6 a0s3), (.clo 131 [(i6 a0s4f0)] [])])))]⟩) (by kernel_rfl) (a_seq (sr (vp (i6 x40) rfl (vp (.bool ((decide (x40 > 63)))) rfl (nx ⟨[(1, (ow 1)), (34, (.bool ((decide (x40 > 63)))))], [(1, (bk (.struct [1, 1, 1, 1, 1] [(i6 a0s0), (eSi64 a0s1), (eSi64 a0s2), (i6 a0s3), (.clo 131 [(i6 a0s4f0)] [])])))]⟩ (by kernel_rfl) ?_)))))
    cases hb69 : (decide (x40 > 63))
    · have h := ite_f hb69 h
      refine a_cond_f rfl (a_skip (a_next (σ' := ⟨[(1, (ow 1))], [(1, (bk (.struct [1, 1, 1, 1, 1] [(i6 a0s0), (eSi64 a0s1), (eSi64 a0s2), (i6 a0s3), (.clo 131 [(i6 a0s4f0)] [])])))]⟩) (by kernel_rfl) (a_seq (a_draw [⟨[1], [], [1], []⟩, ⟨[1], [], [], [0]⟩, ⟨[1], [], [1], []⟩, ⟨[1], [], [], [2]⟩, ⟨[1], [], [1], []⟩, ⟨[1], [], [], [4]⟩, ⟨[1], [], [1], []⟩, ⟨[1], [], [], [6]⟩, ⟨[], [], [], [6, 7]⟩, ⟨[], [], [], [2, 3, 4, 5, 6, 7, 8]⟩, ⟨[1], [], [1], []⟩, ⟨[1], [], [], [10]⟩, ⟨[1], [], [1], []⟩, ⟨[1], [], [], [12]⟩, ⟨[1], [], [1], []⟩, ⟨[1], [], [], [14]⟩, ⟨[], [], [], [14, 15]⟩, ⟨[], [], [], [2, 3, 4, 5, 6, 7, 8, 9, 12, 13, 14, 15, 16]⟩, ⟨[], [], [], [2, 3, 4, 5, 6, 7, 8, 9, 10, 11, 12, 13, 14, 15, 16, 17]⟩, ⟨[], [], [], [0, 1, 2, 3, 4, 5, 6, 7, 8, 9, 10, 11, 12, 13, 14, 15, 16, 17, 18]⟩, ⟨[], [], [], [0, 1, 2, 3, 4, 5, 6, 7, 8, 9, 10, 11, 12, 13, 14, 15, 16, 17, 18, 19]⟩, ⟨[], [], [], [0, 1, 2, 3, 4, 5, 6, 7, 8, 9, 10, 11, 12, 13, 14, 15, 16, 17, 18, 19, 20]⟩] (by kernel_rfl) (d_cons (vb (.own 1 [0] [0]) rfl rfl (d_next (by kernel_rfl) (d_cons ?_))))))))
      have hl85 : LdOk [0] (.struct [1, 1, 1, 1, 1] [(i6 a0s0), (eSi64 a0s1), (eSi64 a0s2), (i6 a0s3), (.clo 131 [(i6 a0s4f0)] [])]) [0] 1 false (i6 a0s0) := (.fld rfl rfl rfl rfl (.nil rfl rfl rfl))
      refine vq (i6 a0s0) (ld_own (i := ⟨.int .i64, 1, 8, (.int .i64 0)⟩) rfl rfl rfl hl85) hl85.c (d_next (by kernel_rfl) (d_cons (vb (.own 1 [0] [0]) rfl rfl (d_next (by kernel_rfl) (d_cons ?_)))))
      have hl86 : LdOk [0] (.struct [1, 1, 1, 1, 1] [(i6 a0s0), (eSi64 a0s1), (eSi64 a0s2), (i6 a0s3), (.clo 131 [(i6 a0s4f0)] [])]) [0] 1 false (i6 a0s0) := (.fld rfl rfl rfl rfl (.nil rfl rfl rfl))
      refine vq (i6 a0s0) (ld_own (i := ⟨.int .i64, 1, 8, (.int .i64 0)⟩) rfl rfl rfl hl86) hl86.c (d_next (by kernel_rfl) (d_cons (vb (.own 1 [2] [2]) rfl rfl (d_next (by kernel_rfl) (d_cons ?_)))))
      have hl87 : LdOk [2] (.struct [1, 1, 1, 1, 1] [(i6 a0s0), (eSi64 a0s1), (eSi64 a0s2), (i6 a0s3), (.clo 131 [(i6 a0s4f0)] [])]) [2] 1 false (eSi64 a0s2) := (.fld rfl rfl rfl rfl (.nil rfl rfl rfl))
      refine vq (eSi64 a0s2) (ld_own (i := ⟨.slice 2, 1, 24, (eSi64 [])⟩) rfl rfl rfl hl87) hl87.c (d_next (by kernel_rfl) (d_cons (vb (.own 1 [3] [3]) rfl rfl (d_next (by kernel_rfl) (d_cons ?_)))))
      have hl88 : LdOk [3] (.struct [1, 1, 1, 1, 1] [(i6 a0s0), (eSi64 a0s1), (eSi64 a0s2), (i6 a0s3), (.clo 131 [(i6 a0s4f0)] [])]) [3] 1 false (i6 a0s3) := (.fld rfl rfl rfl rfl (.nil rfl rfl rfl))
      refine vq (i6 a0s3) (ld_own (i := ⟨.int .i64, 1, 8, (.int .i64 0)⟩) rfl rfl rfl hl88) hl88.c (d_next (by kernel_rfl) (dp (i6 (IntKind.i64.wrap (a0s3 - 1))) rfl (by kernel_rfl) (d_cons ?_)))
      obtain ⟨r89, hr90, h⟩ := bind_some h
      refine a_call (args := [(i6 a0s0), (eSi64 a0s2), (i6 (IntKind.i64.wrap (a0s3 - 1)))]) (u := []) (r := (eSi64 r89)) rfl rfl (impl_prime_spread_ok a0s0 a0s2 (IntKind.i64.wrap (a0s3 - 1)) r89 hr90) rfl (d_next (by kernel_rfl) (d_cons (vb (.own 1 [0] [0]) rfl rfl (d_next (by kernel_rfl) (d_cons ?_)))))
      have hl91 : LdOk [0] (.struct [1, 1, 1, 1, 1] [(i6 a0s0), (eSi64 a0s1), (eSi64 a0s2), (i6 a0s3), (.clo 131 [(i6 a0s4f0)] [])]) [0] 1 false (i6 a0s0) := (.fld rfl rfl rfl rfl (.nil rfl rfl rfl))
      refine vq (i6 a0s0) (ld_own (i := ⟨.int .i64, 1, 8, (.int .i64 0)⟩) rfl rfl rfl hl91) hl91.c (d_next (by kernel_rfl) (d_cons (vb (.own 1 [4] [4]) rfl rfl (d_next (by kernel_rfl) (d_cons ?_)))))
      have hl92 : LdOk [4] (.struct [1, 1, 1, 1, 1] [(i6 a0s0), (eSi64 a0s1), (eSi64 a0s2), (i6 a0s3), (.clo 131 [(i6 a0s4f0)] [])]) [4] 1 false (.clo 131 [(i6 a0s4f0)] []) := (.fld rfl rfl rfl rfl (.nil rfl rfl rfl))
      refine vq (.clo 131 [(i6 a0s4f0)] []) (ld_own (i := ⟨.other, 1, 8, (.raw .nilFunc)⟩) rfl rfl rfl hl92) hl92.c (d_next (by kernel_rfl) (d_cons (vb (.own 1 [3] [3]) rfl rfl (d_next (by kernel_rfl) (d_cons ?_)))))
      have hl93 : LdOk [3] (.struct [1, 1, 1, 1, 1] [(i6 a0s0), (eSi64 a0s1), (eSi64 a0s2), (i6 a0s3), (.clo 131 [(i6 a0s4f0)] [])]) [3] 1 false (i6 a0s3) := (.fld rfl rfl rfl rfl (.nil rfl rfl rfl))
      refine vq (i6 a0s3) (ld_own (i := ⟨.int .i64, 1, 8, (.int .i64 0)⟩) rfl rfl rfl hl93) hl93.c (d_next (by kernel_rfl) (dp (i6 (IntKind.i64.wrap (a0s3 - 1))) rfl (by kernel_rfl) (d_cons ?_)))
      obtain ⟨r94, hr95, h⟩ := bind_some h
      refine a_call (args := [(i6 a0s4f0), (i6 (IntKind.i64.wrap (a0s3 - 1)))]) (u := []) (r := (eSSi64 r94)) rfl rfl (impl_prime_second_ok a0s4f0 (IntKind.i64.wrap (a0s3 - 1)) r94 hr95) rfl (d_next (by kernel_rfl) (d_cons ?_))
      obtain ⟨r96, hr97, h⟩ := bind_some h
      refine a_call (args := [(i6 a0s0), (eSSi64 r94)]) (u := []) (r := (eSi64 r96)) rfl rfl (impl_prime_productRow_ok a0s0 r94 r96 hr97) rfl (d_next (by kernel_rfl) (d_cons ?_))
      obtain ⟨r98, hr99, h⟩ := bind_some h
      refine a_call (args := [(i6 a0s0), (eSi64 r89), (eSi64 r96)]) (u := []) (r := (eSi64 r98)) rfl rfl (impl_prime_times_ok a0s0 r89 r96 r98 hr99) rfl (d_next (by kernel_rfl) (dp (eSi64 r98) rfl (by kernel_rfl) (dp (.bool true) rfl (by kernel_rfl) (d_nil (a_next rfl (a_ret ?_))))))
      refine ⟨.inr rfl, ?_⟩
      rw [Try.results193]
      cases h
      exact ⟨_, _, _, _, _, rfl, trivial, .inl ⟨rfl, .inl rfl⟩, rfl, ⟨_, _, _, _, _, rfl, trivial, .inl ⟨rfl, .inl rfl⟩, rfl, rfl⟩⟩
    · have h := ite_t hb69 h
      refine a_cond_t rfl (sr (vp (eSi64 ([])) rfl (vp (.bool false) rfl (nx _ rfl (a_ret (t_ret ?_))))))
      refine ⟨.inr rfl, ?_⟩
      rw [Try.results193]
      cases h
      exact ⟨_, _, _, _, _, rfl, trivial, .inl ⟨rfl, .inl rfl⟩, rfl, ⟨_, _, _, _, _, rfl, trivial, .inl ⟨rfl, .inl rfl⟩, rfl, rfl⟩⟩
  · have h := hy42
    refine sr (vb (.own 1 [4] [4]) rfl rfl ?_)
    have hl44 : LdOk [4] (.struct [1, 1, 1, 1, 1] [(i6 a0s0), (eSi64 a0s1), (eSi64 a0s2), (i6 a0s3), (.clo 131 [(i6 a0s4f0)] [])]) [4] 1 false (.clo 131 [(i6 a0s4f0)] []) := (.fld rfl rfl rfl rfl (.nil rfl rfl rfl))
    refine vq (.clo 131 [(i6 a0s4f0)] []) (ld_own (i := ⟨.other, 1, 8, (.raw .nilFunc)⟩) rfl rfl rfl hl44) hl44.c (vb (.own 1 [3] [3]) rfl rfl ?_)
    have hl45 : LdOk [3] (.struct [1, 1, 1, 1, 1] [(i6 a0s0), (eSi64 a0s1), (eSi64 a0s2), (i6 a0s3), (.clo 131 [(i6 a0s4f0)] [])]) [3] 1 false (i6 a0s3) := (.fld rfl rfl rfl rfl (.nil rfl rfl rfl))
    refine vq (i6 a0s3) (ld_own (i := ⟨.int .i64, 1, 8, (.int .i64 0)⟩) rfl rfl rfl hl45) hl45.c (vp (i6 (IntKind.i64.wrap (a0s3 - 1))) rfl ?_)
    obtain ⟨r46, hr47, h⟩ := bind_some h
    refine a_call (args := [(i6 a0s4f0), (i6 (IntKind.i64.wrap (a0s3 - 1)))]) (u := []) (r := (eSSi64 r46)) rfl rfl (impl_prime_second_ok a0s4f0 (IntKind.i64.wrap (a0s3 - 1)) r46 hr47) rfl (vq (i6 (r46.length : Int)) (len_run rfl rfl) trivial (vp (i6 0) rfl (nx ⟨[(1, (ow 1)), (4, (i6 (IntKind.i64.wrap (r9 * r13)))), (22, (eSSi64 r46)), (23, (i6 (r46.length : Int))), (24, (i6 0))], [(1, (bk (.struct [1, 1, 1, 1, 1] [(i6 a0s0), (eSi64 a0s1), (eSi64 a0s2), (i6 a0s3), (.clo 131 [(i6 a0s4f0)] [])])))]⟩ (by kernel_rfl) (a_block ?_))))
    refine a_loop (emb := fun (s : (Int × Int)) => ⟨[(1, (ow 1)), (4, (i6 s.1)), (22, (eSSi64 r46)), (23, (i6 (r46.length : Int))), (24, (i6 s.2))], [(1, (bk (.struct [1, 1, 1, 1, 1] [(i6 a0s0), (eSi64 a0s1), (eSi64 a0s2), (i6 a0s3), (.clo 131 [(i6 a0s4f0)] [])])))]⟩) (body := (fun s : (Int × Int) => impl_cut_bottom_of_s_impl_prime_second_l1 r46 s.1 s.2)) (G := fun q => some q = some y41) h rfl ?_ (by kernel_rfl)
    rintro X60 ⟨x53, x54⟩ x61 h hX62
    have h : impl_cut_bottom_of_s_impl_prime_second_l1 r46 x53 x54 = some x61 := h
    refine a_st (σ' := ⟨[(1, (ow 1)), (4, (i6 x53)), (22, (eSSi64 r46)), (23, (i6 (r46.length : Int))), (24, (i6 x54))], [(1, (bk (.struct [1, 1, 1, 1, 1] [(i6 a0s0), (eSi64 a0s1), (eSi64 a0s2), (i6 a0s3), (.clo 131 [(i6 a0s4f0)] [])])))]⟩) (by kernel_rfl) (sr (vp (.bool ((decide (x54 < (r46.length : Int))))) rfl (nx ⟨[(1, (ow 1)), (4, (i6 x53)), (22, (eSSi64 r46)), (23, (i6 (r46.length : Int))), (24, (i6 x54)), (25, (.bool ((decide (x54 < (r46.length : Int))))))], [(1, (bk (.struct [1, 1, 1, 1, 1] [(i6 a0s0), (eSi64 a0s1), (eSi64 a0s2), (i6 a0s3), (.clo 131 [(i6 a0s4f0)] [])])))]⟩ (by kernel_rfl) (a_seq ?_))))
    cases hb63 : (decide (x54 < (r46.length : Int)))
    · have h := ite_f hb63 h
      refine a_cond_f rfl (a_exit (t_exit ?_))
      cases h
      have h := hX62
      refine t_exit (b_exit ?_)
      exact j_leaf x53 (Option.some.inj h) (by kernel_rfl)
    · have h := ite_t hb63 h
      refine a_cond_t rfl (a_skip (a_next (σ' := ⟨[(1, (ow 1)), (4, (i6 x53)), (22, (eSSi64 r46)), (23, (i6 (r46.length : Int))), (24, (i6 x54))], [(1, (bk (.struct [1, 1, 1, 1, 1] [(i6 a0s0), (eSi64 a0s1), (eSi64 a0s2), (i6 a0s3), (.clo 131 [(i6 a0s4f0)] [])])))]⟩) (by kernel_rfl) (a_seq (a_block (sr ?_)))))
      obtain ⟨hc64, h⟩ := ifp_some h
      refine vq (.ref (.row 1 (r46.map eSi64)) [x54.toNat] [x54.toNat * 1]) rfl (lmap hc64) ?_
      have hl65 : LdOk [x54.toNat] (.row 1 (r46.map eSi64)) [x54.toNat * 1] 1 false (eSi64 (rd r46 x54.toNat)) := (.row (llt hc64) rfl (.nil rfl rfl rfl))
      refine vq (eSi64 (rd r46 x54.toNat)) (ld_ref (i := ⟨.slice 2, 1, 24, (eSi64 [])⟩) rfl rfl hl65) hl65.c (vp (eSi64 (rd r46 x54.toNat)) rfl (nx ⟨[(1, (ow 1)), (4, (i6 x53)), (6, (eSi64 (rd r46 x54.toNat))), (22, (eSSi64 r46)), (23, (i6 (r46.length : Int))), (24, (i6 x54))], [(1, (bk (.struct [1, 1, 1, 1, 1] [(i6 a0s0), (eSi64 a0s1), (eSi64 a0s2), (i6 a0s3), (.clo 131 [(i6 a0s4f0)] [])])))]⟩ (by kernel_rfl) (a_region (vp (i6 x53) rfl (vp (eSi64 (rd r46 x54.toNat)) rfl ?_)))))
      obtain ⟨r66, hr67, h⟩ := bind_some h
      refine a_call (args := [(eSi64 (rd r46 x54.toNat))]) (u := []) (r := (i6 r66)) rfl rfl (impl_row_degree_ok (rd r46 x54.toNat) r66 hr67) rfl (vp (i6 (IntKind.i64.wrap (x53 + r66))) rfl (vp (i6 (IntKind.i64.wrap (x53 + r66))) rfl (a_nil (b_norm (a_next (σ' := ⟨[(1, (ow 1)), (4, (i6 (IntKind.i64.wrap (x53 + r66)))), (22, (eSSi64 r46)), (23, (i6 (r46.length : Int))), (24, (i6 x54))], [(1, (bk (.struct [1, 1, 1, 1, 1] [(i6 a0s0), (eSi64 a0s1), (eSi64 a0s2), (i6 a0s3), (.clo 131 [(i6 a0s4f0)] [])])))]⟩) (by kernel_rfl) (a_region (vp (i6 (IntKind.i64.wrap (x54 + 1))) rfl (vp (i6 (IntKind.i64.wrap (x54 + 1))) rfl (a_nil ?_)))))))))
      cases h
      exact a_again (by kernel_rfl) hX62
def slices_Clone_impl_row_int64_fresh_c : ACode := (.seq (.region 0 [q 2 (.asg 2 (.const (.slice none 0 0)) 80)] false) (.seq (.seq (.region 1 [q 3 (.mov (t 0)), q 4 (.bin .eql 80 (t 3) (.const (.slice none 0 0)))] false) (.cond (t 4) (.seq (.region 2 [q 2 (.asg 2 (.const (.slice none 0 0)) 80)] false) .ret) .skip)) (.seq (.region 3 [q 5 (.bslice 0 80 0 []), q 6 (.mov (t 0)), q 7 (.blt 0 .append [(t 5), (t 6)] [80, 80]), q 2 (.asg 2 (t 7) 80)] false) .ret)))
def slices_Clone_impl_row_int64_fresh_L : Live := [(0, [0]), (1, [0]), (2, []), (3, [0]), (100004, [0, 4])]
noncomputable def slices_Clone_impl_row_int64_fresh (a0 : (List Int)) : Option (List Int) :=
  (ifc (a0 = [] → ((some ([]))) = ((ifp ((([] : List Int).length + a0.length) * 8 ≤ 140737488355328) ((some ((([] : List Int) ++ a0))))))) ((ifp ((([] : List Int).length + a0.length) * 8 ≤ 140737488355328) ((some ((([] : List Int) ++ a0)))))))
theorem slices_Clone_impl_row_int64_fresh_ok (a0 : (List Int)) (r : (List Int)) (h : slices_Clone_impl_row_int64_fresh a0 = some r) : Den Try.prog 184 [(eSi64 a0)] { r := (.osl 2000000), ms := [], fs := [(1, r.map (AV.int .i64))] } := by
  refine den_ofX (rs := [(.osl 2000000)]) (ac := slices_Clone_impl_row_int64_fresh_c) (L := slices_Clone_impl_row_int64_fresh_L) (n := 8) (m := [(2, 2)]) (c := Try.f184.body.getD .skip) good Try.func184 (by kernel_rfl) (by kernel_rfl) Try.ntmps184 rfl rfl (by kernel_rfl) rfl ?_
  refine a_st (σ' := ⟨[(0, (eSi64 a0))], []⟩) (by kernel_rfl) ?_
  unfold slices_Clone_impl_row_int64_fresh_c
  refine sr (vu (.osl 1200) [(1200, (bk (.row 1 (([]).map (AV.int .i64)))))] rfl trivial rfl (nx ⟨[(0, (eSi64 a0))], []⟩ (by kernel_rfl) (a_seq (sr (vp (eSi64 a0) rfl ?_)))))
  obtain ⟨hq2, h⟩ := ifc_some h
  refine a_split (v := .bool true) (v' := .bool false) rfl rfl (fun hn3 => ?_) ?_
  · have h := (hq2 (List.map_eq_nil_iff.1 hn3)).trans h
    refine nx ⟨[(0, (eSi64 a0)), (4, (.bool true))], []⟩ (by kernel_rfl) (a_cond_t rfl (sr (vu (.osl 1200) [(1200, (bk (.row 1 (([]).map (AV.int .i64)))))] rfl trivial rfl (nx _ rfl (a_ret (t_ret ?_))))))
    refine ⟨.inr rfl, ?_⟩
    rw [Try.results184]
    cases h
    exact ⟨[some 1200], ⟨_, _, _, _, _, rfl, trivial, rfl, .inr (.inl ⟨_, _, _, _, _, rfl, rfl, rfl, rfl, rfl, ⟨rfl, rfl, rfl⟩⟩)⟩, rfl, rfl⟩
  · skip
    refine nx ⟨[(0, (eSi64 a0)), (4, (.bool false))], []⟩ (by kernel_rfl) (a_cond_f rfl (a_skip (a_next (σ' := ⟨[(0, (eSi64 a0))], []⟩) (by kernel_rfl) (sr (vq (.sl 1 true (([]).map (AV.int .i64))) rfl ⟨(Nat.le_of_ble_eq_true rfl), (Nat.le_of_ble_eq_true rfl), all_nil⟩ (vp (eSi64 a0) rfl ?_))))))
    obtain ⟨hc1, h⟩ := ifp_some h
    refine vu (.osl 1700) [(1700, (bk (.row 1 (((([] : List Int) ++ a0)).map (AV.int .i64)))))] (appt_run (i := ⟨.int .i64, 1, 8, (.int .i64 0)⟩) (f := (AV.int .i64)) (l := []) (l2 := a0) rfl rfl rfl rfl (fun _ => rfl) rfl) (appt_c (f := (AV.int .i64)) (s := 1) (sz := 1) (sz' := 1) (by' := 8) hc1 (.inl rfl) (.inl rfl) (.inr rfl) rfl rfl) rfl (vp (.osl 1700) rfl (nx _ rfl (a_ret ?_)))
    refine ⟨.inr rfl, ?_⟩
    rw [Try.results184]
    cases h
    exact ⟨[some 1700], ⟨_, _, _, _, _, rfl, trivial, rfl, .inr (.inl ⟨_, _, _, _, _, rfl, rfl, rfl, rfl, rfl, ⟨rfl, rfl, rfl⟩⟩)⟩, rfl, rfl⟩
def impl_row_lead_c : ACode := (.seq (.region 0 [q 2 (.asg 0 (.const (.int .i64 0)) 2)] false) (.seq (.seq (.region 1 [q 3 (.mov (t 0)), q 4 (.blt 0 .len [(t 3)] [80]), q 5 (.bin .eql 3 (t 4) (.const (.int .i64 0)))] false) (.cond (t 5) (.seq (.region 2 [q 2 (.asg 0 (.const (.int .i64 0)) 2)] false) .ret) .skip)) (.seq (.region 3 [q 6 (.mov (t 0)), q 7 (.mov (t 0)), q 8 (.blt 0 .len [(t 7)] [80]), q 9 (.bin .sub 3 (t 8) (.const (.int .i64 1))), q 10 (.indexAddr 80 (t 6) (t 9)), q 11 (.load 2 (t 10)), q 2 (.asg 0 (t 11) 2)] false) .ret)))
def impl_row_lead_L : Live := [(0, [0]), (1, [0]), (2, []), (3, [0]), (100005, [0, 5])]
noncomputable def impl_row_lead (a0 : (List Int)) : Option Int :=
  (if ((a0.length : Int) == 0) then (some 0) else (ifp (0 ≤ IntKind.i64.wrap ((a0.length : Int) - 1) ∧ IntKind.i64.wrap ((a0.length : Int) - 1) < ((a0.length : Nat) : Int)) ((some ((rd a0 (IntKind.i64.wrap ((a0.length : Int) - 1)).toNat))))))
theorem impl_row_lead_ok (a0 : (List Int)) (r : Int) (h : impl_row_lead a0 = some r) : Den Try.prog 186 [(eSi64 a0)] { r := (i6 r) } := by
  refine den_of (rs := [(i6 r)]) (ac := impl_row_lead_c) (L := impl_row_lead_L) (n := 12) (m := []) (c := Try.f186.body.getD .skip) good Try.func186 (by kernel_rfl) (by kernel_rfl) Try.ntmps186 rfl rfl (by kernel_rfl) rfl rfl ?_
  refine a_st (σ' := ⟨[(0, (eSi64 a0))], []⟩) (by kernel_rfl) ?_
  unfold impl_row_lead_c
  refine sr (vp (i6 0) rfl (nx ⟨[(0, (eSi64 a0))], []⟩ (by kernel_rfl) (a_seq (sr (vp (eSi64 a0) rfl (vq (i6 (a0.length : Int)) (len_run rfl rfl) trivial (vp (.bool (((a0.length : Int) == 0))) rfl (nx ⟨[(0, (eSi64 a0)), (5, (.bool (((a0.length : Int) == 0))))], []⟩ (by kernel_rfl) ?_))))))))
  cases hb1 : ((a0.length : Int) == 0)
  · have h := ite_f hb1 h
    refine a_cond_f rfl (a_skip (a_next (σ' := ⟨[(0, (eSi64 a0))], []⟩) (by kernel_rfl) (sr (vp (eSi64 a0) rfl (vp (eSi64 a0) rfl (vq (i6 (a0.length : Int)) (len_run rfl rfl) trivial (vp (i6 (IntKind.i64.wrap ((a0.length : Int) - 1))) rfl ?_)))))))
    obtain ⟨hc2, h⟩ := ifp_some h
    refine vq (.ref (.row 1 (a0.map (AV.int .i64))) [(IntKind.i64.wrap ((a0.length : Int) - 1)).toNat] [(IntKind.i64.wrap ((a0.length : Int) - 1)).toNat * 1]) rfl (lmap hc2) ?_
    have hl3 : LdOk [(IntKind.i64.wrap ((a0.length : Int) - 1)).toNat] (.row 1 (a0.map (AV.int .i64))) [(IntKind.i64.wrap ((a0.length : Int) - 1)).toNat * 1] 1 false (i6 ((rd a0 (IntKind.i64.wrap ((a0.length : Int) - 1)).toNat))) := (.row (llt hc2) rfl (.nil rfl rfl rfl))
    refine vq (i6 ((rd a0 (IntKind.i64.wrap ((a0.length : Int) - 1)).toNat))) (ld_ref (i := ⟨.int .i64, 1, 8, (.int .i64 0)⟩) rfl rfl hl3) hl3.c (vp (i6 ((rd a0 (IntKind.i64.wrap ((a0.length : Int) - 1)).toNat))) rfl (nx _ rfl (a_ret ?_)))
    refine ⟨.inr rfl, ?_⟩
    rw [Try.results186]
    cases h
    exact ⟨_, _, _, _, _, rfl, trivial, .inl ⟨rfl, .inl rfl⟩, rfl, rfl⟩
  · have h := ite_t hb1 h
    refine a_cond_t rfl (sr (vp (i6 0) rfl (nx _ rfl (a_ret (t_ret ?_)))))
    refine ⟨.inr rfl, ?_⟩
    rw [Try.results186]
    cases h
    exact ⟨_, _, _, _, _, rfl, trivial, .inl ⟨rfl, .inl rfl⟩, rfl, rfl⟩
def impl_prime_inverse_c : ACode := (.seq (.region 0 [q 4 (.asg 0 (.const (.int .i64 0)) 2)] false) (.seq (.region 1 [q 5 (.asg 0 (.const (.int .i64 1)) 2)] false) (.seq (.seq (.region 2 [q 6 (.mov (t 0)), q 7 (.bin .sub 2 (t 6) (.const (.int .i64 2))), q 8 (.mov (.const (.int .i64 0)))] false) (.block 0 (.loop (.seq (.region 3 [q 9 (.bin .lss 2 (t 8) (t 7))] false) (.seq (.cond (t 9) .skip (.exit 0)) (.seq (.block 1 (.region 4 [q 10 (.mov (t 5)), q 11 (.mov (t 1)), q 12 (.bin .mul 2 (t 10) (t 11)), q 13 (.mov (t 0)), q 14 (.bin .rem 2 (t 12) (t 13)), q 5 (.asg 0 (t 14) 2)] false)) (.region 5 [q 15 (.bin .add 2 (t 8) (.const (.int .i64 1))), q 8 (.mov (t 15))] false))))))) (.seq (.region 6 [q 16 (.mov (t 5)), q 4 (.asg 0 (t 16) 2)] false) .ret))))
def impl_prime_inverse_L : Live := [(0, [0, 1]), (1, [0, 1]), (2, [0, 1, 5]), (3, [0, 1, 5, 7, 8]), (4, [0, 1, 5, 7, 8]), (5, [0, 1, 5, 7, 8]), (6, [5]), (100009, [0, 1, 5, 7, 8, 9])]
noncomputable def impl_prime_inverse_l1 (a0 : Int) (a1 : Int) (x19 : Int) (x20 : Int) : Option ((Int × Int) ⊕ Int) :=
  (if (decide (x20 < (IntKind.i64.wrap (a0 - 2)))) then (ifp (a0 ≠ 0) ((some (.inl ((Int.tmod (IntKind.i64.wrap (x19 * a1)) a0, IntKind.i64.wrap (x20 + 1))))))) else (some (.inr x19)))
noncomputable def impl_prime_inverse (a0 : Int) (a1 : Int) : Option Int :=
  (Option.bind (α := Int) ((loopM (fun s : (Int × Int) => impl_prime_inverse_l1 a0 a1 s.1 s.2) (1, 0))) fun x13 => (some x13))
theorem impl_prime_inverse_ok (a0 : Int) (a1 : Int) (r : Int) (h : impl_prime_inverse a0 a1 = some r) : Den Try.prog 185 [(i6 a0), (i6 a1)] { r := (i6 r) } := by
  refine den_of (rs := [(i6 r)]) (ac := impl_prime_inverse_c) (L := impl_prime_inverse_L) (n := 17) (m := []) (c := Try.f185.body.getD .skip) good Try.func185 (by kernel_rfl) (by kernel_rfl) Try.ntmps185 rfl rfl (by kernel_rfl) rfl rfl ?_
  refine a_st (σ' := ⟨[(0, (i6 a0)), (1, (i6 a1))], []⟩) (by kernel_rfl) ?_
  unfold impl_prime_inverse_c
  refine sr (vp (i6 0) rfl (nx ⟨[(0, (i6 a0)), (1, (i6 a1))], []⟩ (by kernel_rfl) (sr (vp (i6 1) rfl (nx ⟨[(0, (i6 a0)), (1, (i6 a1)), (5, (i6 1))], []⟩ (by kernel_rfl) ?_)))))
  obtain ⟨y14, hy15, hk16⟩ := bind_some h
  clear h
  refine a_join (emb := fun (s : Int) => ⟨[(5, (i6 s))], []⟩) (pre := fun s => s = y14) ?_ ?_
  · rintro x13 rfl
    have h := hk16
    refine a_st (σ' := ⟨[(5, (i6 x13))], []⟩) (by kernel_rfl) (sr (vp (i6 x13) rfl (vp (i6 x13) rfl (nx _ rfl (a_ret ?_)))))
    refine ⟨.inr rfl, ?_⟩
    rw [Try.results185]
    cases h
    exact ⟨_, _, _, _, _, rfl, trivial, .inl ⟨rfl, .inl rfl⟩, rfl, rfl⟩
  · have h := hy15
    refine sr (vp (i6 a0) rfl (vp (i6 (IntKind.i64.wrap (a0 - 2))) rfl (vp (i6 0) rfl (nx ⟨[(0, (i6 a0)), (1, (i6 a1)), (5, (i6 1)), (7, (i6 (IntKind.i64.wrap (a0 - 2)))), (8, (i6 0))], []⟩ (by kernel_rfl) (a_block ?_)))))
    refine a_loop (emb := fun (s : (Int × Int)) => ⟨[(0, (i6 a0)), (1, (i6 a1)), (5, (i6 s.1)), (7, (i6 (IntKind.i64.wrap (a0 - 2)))), (8, (i6 s.2))], []⟩) (body := (fun s : (Int × Int) => impl_prime_inverse_l1 a0 a1 s.1 s.2)) (G := fun q => some q = some y14) h rfl ?_ (by kernel_rfl)
    rintro X23 ⟨x19, x20⟩ x24 h hX25
    have h : impl_prime_inverse_l1 a0 a1 x19 x20 = some x24 := h
    refine a_st (σ' := ⟨[(0, (i6 a0)), (1, (i6 a1)), (5, (i6 x19)), (7, (i6 (IntKind.i64.wrap (a0 - 2)))), (8, (i6 x20))], []⟩) (by kernel_rfl) (sr (vp (.bool ((decide (x20 < (IntKind.i64.wrap (a0 - 2)))))) rfl (nx ⟨[(0, (i6 a0)), (1, (i6 a1)), (5, (i6 x19)), (7, (i6 (IntKind.i64.wrap (a0 - 2)))), (8, (i6 x20)), (9, (.bool ((decide (x20 < (IntKind.i64.wrap (a0 - 2)))))))], []⟩ (by kernel_rfl) (a_seq ?_))))
    cases hb26 : (decide (x20 < (IntKind.i64.wrap (a0 - 2))))
    · have h := ite_f hb26 h
      refine a_cond_f rfl (a_exit (t_exit ?_))
      cases h
      have h := hX25
      refine t_exit (b_exit ?_)
      exact j_leaf x19 (Option.some.inj h) (by kernel_rfl)
    · have h := ite_t hb26 h
      refine a_cond_t rfl (a_skip (a_next (σ' := ⟨[(0, (i6 a0)), (1, (i6 a1)), (5, (i6 x19)), (7, (i6 (IntKind.i64.wrap (a0 - 2)))), (8, (i6 x20))], []⟩) (by kernel_rfl) (a_seq (a_block (a_region (vp (i6 x19) rfl (vp (i6 a1) rfl (vp (i6 (IntKind.i64.wrap (x19 * a1))) rfl (vp (i6 a0) rfl ?_)))))))))
      obtain ⟨hc27, h⟩ := ifp_some h
      refine vq (i6 (Int.tmod (IntKind.i64.wrap (x19 * a1)) a0)) rfl hc27 (vp (i6 (Int.tmod (IntKind.i64.wrap (x19 * a1)) a0)) rfl (a_nil (b_norm (a_next (σ' := ⟨[(0, (i6 a0)), (1, (i6 a1)), (5, (i6 (Int.tmod (IntKind.i64.wrap (x19 * a1)) a0))), (7, (i6 (IntKind.i64.wrap (a0 - 2)))), (8, (i6 x20))], []⟩) (by kernel_rfl) (a_region (vp (i6 (IntKind.i64.wrap (x20 + 1))) rfl (vp (i6 (IntKind.i64.wrap (x20 + 1))) rfl (a_nil ?_))))))))
      cases h
      exact a_again (by kernel_rfl) hX25
end Go.Proofs.Ytkbnegemdlnncaa
