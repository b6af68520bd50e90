/- Functions of the program: plain Lean functions, and that the program computes them. Printed by gen.py. -/
import Derived.Test.YtcgohoclbjgmkaaGreatFnT
import Derived.Test.YtcgohoclbjgmkaaGreatFn3
import Derived.Test.YtcgohoclbjgmkaaGreatFn4
namespace Go.Proofs.YtcgohoclbjgmkaaGreat
open Go.Abs Go.Proofs
set_option linter.unusedSimpArgs false
set_option linter.unusedVariables false
set_option maxHeartbeats 16000000
attribute [local irreducible] Abs.acode Abs.aops Abs.aopsT Abs.thenK Abs.blockK

def cmp_Compare_int64_c : ACode := (.seq (.region 0 [q 4 (.asg 0 (.const (.int .i64 0)) 3)] false) (.seq (.region 1 [q 7 (.mov (t 0)), q 8 (.call 0 (.func 103) [(t 7)]), q 5 (.asg 0 (t 8) 4)] false) (.seq (.region 2 [q 9 (.mov (t 1)), q 10 (.call 0 (.func 103) [(t 9)]), q 6 (.asg 0 (t 10) 4)] false) (.seq (.seq (.region 3 [q 11 (.mov (t 5))] false) (.cond (t 11) (.seq (.seq (.region 4 [q 12 (.mov (t 6))] false) (.cond (t 12) (.seq (.region 5 [q 4 (.asg 0 (.const (.int .i64 0)) 3)] false) .ret) .skip)) (.seq (.region 6 [q 4 (.asg 0 (.const (.int .i64 (-1))) 3)] false) .ret)) .skip)) (.seq (.seq (.region 7 [q 13 (.mov (t 6))] false) (.cond (t 13) (.seq (.region 8 [q 4 (.asg 0 (.const (.int .i64 1)) 3)] false) .ret) .skip)) (.seq (.seq (.region 9 [q 14 (.mov (t 0)), q 15 (.mov (t 1)), q 16 (.bin .lss 2 (t 14) (t 15))] false) (.cond (t 16) (.seq (.region 10 [q 4 (.asg 0 (.const (.int .i64 (-1))) 3)] false) .ret) .skip)) (.seq (.seq (.region 11 [q 17 (.mov (t 0)), q 18 (.mov (t 1)), q 19 (.bin .gtr 2 (t 17) (t 18))] false) (.cond (t 19) (.seq (.region 12 [q 4 (.asg 0 (.const (.int .i64 1)) 3)] false) .ret) .skip)) (.seq (.region 13 [q 4 (.asg 0 (.const (.int .i64 0)) 3)] false) .ret))))))))
def cmp_Compare_int64_L : Live := [(0, [0, 1]), (1, [0, 1]), (2, [0, 1, 5]), (3, [0, 1, 5, 6]), (4, [6]), (5, []), (6, []), (7, [0, 1, 6]), (8, []), (9, [0, 1]), (10, []), (11, [0, 1]), (12, []), (13, []), (100011, [0, 1, 6, 11]), (100012, [12]), (100013, [0, 1, 13]), (100016, [0, 1, 16]), (100019, [19])]
noncomputable def cmp_Compare_int64 (a0 : Int) (a1 : Int) : Option Int :=
  (Option.bind (cmp_isNaN_int64 a0) fun r1 => (Option.bind (cmp_isNaN_int64 a1) fun r3 => (if r1 then (if r3 then (some 0) else (some (-1))) else (if r3 then (some 1) else (if (decide (a0 < a1)) then (some (-1)) else (if (decide (a0 > a1)) then (some 1) else (some 0)))))))
theorem cmp_Compare_int64_ok (a0 : Int) (a1 : Int) (r : Int) (h : cmp_Compare_int64 a0 a1 = some r) : Den Tryz.prog 89 [(i6 a0), (i6 a1)] { r := (i6 r) } := by
  refine den_of (rs := [(i6 r)]) (ac := cmp_Compare_int64_c) (L := cmp_Compare_int64_L) (n := 20) (m := []) (c := Tryz.f89.body.getD .skip) good Tryz.func89 (by kernel_rfl) (by kernel_rfl) Tryz.ntmps89 rfl rfl (by kernel_rfl) rfl rfl ?_
  refine a_st (σ' := ⟨[(0, (i6 a0)), (1, (i6 a1))], []⟩) (by kernel_rfl) ?_
  unfold cmp_Compare_int64_c
  refine sr (vp (i6 0) rfl (nx ⟨[(0, (i6 a0)), (1, (i6 a1))], []⟩ (by kernel_rfl) (sr (vp (i6 a0) rfl ?_))))
  obtain ⟨r1, hr2, h⟩ := bind_some h
  refine a_call (args := [(i6 a0)]) (u := []) (r := (.bool r1)) rfl rfl (cmp_isNaN_int64_ok a0 r1 hr2) rfl (vp (.bool r1) rfl (nx ⟨[(0, (i6 a0)), (1, (i6 a1)), (5, (.bool r1))], []⟩ (by kernel_rfl) (sr (vp (i6 a1) rfl ?_))))
  obtain ⟨r3, hr4, h⟩ := bind_some h
  refine a_call (args := [(i6 a1)]) (u := []) (r := (.bool r3)) rfl rfl (cmp_isNaN_int64_ok a1 r3 hr4) rfl (vp (.bool r3) rfl (nx ⟨[(0, (i6 a0)), (1, (i6 a1)), (5, (.bool r1)), (6, (.bool r3))], []⟩ (by kernel_rfl) (a_seq (sr (vp (.bool r1) rfl (nx ⟨[(0, (i6 a0)), (1, (i6 a1)), (6, (.bool r3)), (11, (.bool r1))], []⟩ (by kernel_rfl) ?_))))))
  cases hb5 : r1
  · have h := ite_f hb5 h
    refine a_cond_f rfl (a_skip (a_next (σ' := ⟨[(0, (i6 a0)), (1, (i6 a1)), (6, (.bool r3))], []⟩) (by kernel_rfl) (a_seq (sr (vp (.bool r3) rfl (nx ⟨[(0, (i6 a0)), (1, (i6 a1)), (13, (.bool r3))], []⟩ (by kernel_rfl) ?_))))))
    cases hb6 : r3
    · have h := ite_f hb6 h
      refine a_cond_f rfl (a_skip (a_next (σ' := ⟨[(0, (i6 a0)), (1, (i6 a1))], []⟩) (by kernel_rfl) (a_seq (sr (vp (i6 a0) rfl (vp (i6 a1) rfl (vp (.bool ((decide (a0 < a1)))) rfl (nx ⟨[(0, (i6 a0)), (1, (i6 a1)), (16, (.bool ((decide (a0 < a1)))))], []⟩ (by kernel_rfl) ?_))))))))
      cases hb7 : (decide (a0 < a1))
      · have h := ite_f hb7 h
        refine a_cond_f rfl (a_skip (a_next (σ' := ⟨[(0, (i6 a0)), (1, (i6 a1))], []⟩) (by kernel_rfl) (a_seq (sr (vp (i6 a0) rfl (vp (i6 a1) rfl (vp (.bool ((decide (a0 > a1)))) rfl (nx ⟨[(19, (.bool ((decide (a0 > a1)))))], []⟩ (by kernel_rfl) ?_))))))))
        cases hb8 : (decide (a0 > a1))
        · have h := ite_f hb8 h
          refine a_cond_f rfl (a_skip (a_next (σ' := ⟨[], []⟩) (by kernel_rfl) (sr (vp (i6 0) rfl (nx _ rfl (a_ret ?_))))))
          refine ⟨.inr rfl, ?_⟩
          rw [Tryz.results89]
          cases h
          exact ⟨_, _, _, _, _, rfl, trivial, .inl ⟨rfl, .inl rfl⟩, rfl, rfl⟩
        · have h := ite_t hb8 h
          refine a_cond_t rfl (sr (vp (i6 1) rfl (nx _ rfl (a_ret (t_ret ?_)))))
          refine ⟨.inr rfl, ?_⟩
          rw [Tryz.results89]
          cases h
          exact ⟨_, _, _, _, _, rfl, trivial, .inl ⟨rfl, .inl rfl⟩, rfl, rfl⟩
      · have h := ite_t hb7 h
        refine a_cond_t rfl (sr (vp (i6 (-1)) rfl (nx _ rfl (a_ret (t_ret ?_)))))
        refine ⟨.inr rfl, ?_⟩
        rw [Tryz.results89]
        cases h
        exact ⟨_, _, _, _, _, rfl, trivial, .inl ⟨rfl, .inl rfl⟩, rfl, rfl⟩
    · have h := ite_t hb6 h
      refine a_cond_t rfl (sr (vp (i6 1) rfl (nx _ rfl (a_ret (t_ret ?_)))))
      refine ⟨.inr rfl, ?_⟩
      rw [Tryz.results89]
      cases h
      exact ⟨_, _, _, _, _, rfl, trivial, .inl ⟨rfl, .inl rfl⟩, rfl, rfl⟩
  · have h := ite_t hb5 h
    refine a_cond_t rfl (a_seq (sr (vp (.bool r3) rfl (nx ⟨[(12, (.bool r3))], []⟩ (by kernel_rfl) ?_))))
    cases hb9 : r3
    · have h := ite_f hb9 h
      refine a_cond_f rfl (a_skip (a_next (σ' := ⟨[], []⟩) (by kernel_rfl) (sr (vp (i6 (-1)) rfl (nx _ rfl (a_ret (t_ret ?_)))))))
      refine ⟨.inr rfl, ?_⟩
      rw [Tryz.results89]
      cases h
      exact ⟨_, _, _, _, _, rfl, trivial, .inl ⟨rfl, .inl rfl⟩, rfl, rfl⟩
    · have h := ite_t hb9 h
      refine a_cond_t rfl (sr (vp (i6 0) rfl (nx _ rfl (a_ret (t_ret (t_ret ?_))))))
      refine ⟨.inr rfl, ?_⟩
      rw [Tryz.results89]
      cases h
      exact ⟨_, _, _, _, _, rfl, trivial, .inl ⟨rfl, .inl rfl⟩, rfl, rfl⟩
def impl_compare_c : ACode := (.seq (.region 0 [q 4 (.asg 0 (.const (.int .i64 0)) 3)] false) (.seq (.seq (.region 1 [q 8 (.mov (t 0)), q 9 (.blt 0 .len [(t 8)] [40]), q 10 (.mov (t 1)), q 11 (.blt 0 .len [(t 10)] [40]), q 12 (.call 0 (.func 88) [(t 9), (t 11)]), q 5 (.asg 0 (t 12) 3)] false) (.seq (.region 2 [q 13 (.mov (t 5)), q 14 (.bin .neq 3 (t 13) (.const (.int .i64 0)))] false) (.cond (t 14) (.seq (.region 3 [q 15 (.mov (t 5)), q 4 (.asg 0 (t 15) 3)] false) .ret) .skip))) (.seq (.seq (.region 4 [q 16 (.mov (t 0)), q 17 (.blt 0 .len [(t 16)] [40]), q 18 (.bin .sub 3 (t 17) (.const (.int .i64 1))), q 6 (.asg 0 (t 18) 3)] false) (.block 0 (.loop (.seq (.seq (.region 5 [q 19 (.mov (t 6)), q 20 (.bin .geq 3 (t 19) (.const (.int .i64 0)))] false) (.cond (t 20) .skip (.exit 0))) (.seq (.block 1 (.seq (.region 7 [q 23 (.mov (t 0)), q 24 (.mov (t 6)), ⟨some 25, .indexAddr 40 (t 23) (t 24), none, [0, 1]⟩, ⟨some 26, .load 2 (t 25), none, [2]⟩, q 27 (.mov (t 1)), q 28 (.mov (t 6)), ⟨some 29, .indexAddr 40 (t 27) (t 28), none, [4, 5]⟩, ⟨some 30, .load 2 (t 29), none, [6]⟩, ⟨some 31, .call 0 (.func 89) [(t 26), (t 30)], none, [3, 7]⟩, ⟨some 7, .asg 0 (t 31) 3, none, [8, 8, 0, 1, 2, 3, 4, 5, 6, 7, 8]⟩] true) (.seq (.region 8 [q 32 (.mov (t 7)), q 33 (.bin .neq 3 (t 32) (.const (.int .i64 0)))] false) (.cond (t 33) (.seq (.region 9 [q 34 (.mov (t 7)), q 4 (.asg 0 (t 34) 3)] false) .ret) .skip)))) (.region 6 [q 21 (.mov (t 6)), q 22 (.bin .sub 3 (t 21) (.const (.int .i64 1))), q 6 (.asg 0 (t 22) 3)] false)))))) (.seq (.region 10 [q 4 (.asg 0 (.const (.int .i64 0)) 3)] false) .ret))))
def impl_compare_L : Live := [(0, [0, 1]), (1, [0, 1]), (2, [0, 1, 5]), (3, [5]), (4, [0, 1]), (5, [0, 1, 6]), (6, [0, 1, 6]), (7, [0, 1, 6]), (8, [0, 1, 6, 7]), (9, [7]), (10, []), (100014, [0, 1, 5, 14]), (100020, [0, 1, 6, 20]), (100033, [0, 1, 6, 7, 33])]
noncomputable def impl_compare_l1 (a0 : (List Int)) (a1 : (List Int)) (x72 : Int) : Option (Int ⊕ (Unit ⊕ Int)) :=
  (if (decide (x72 ≥ 0)) then (ifp (0 ≤ x72 ∧ x72 < ((a0.length : Nat) : Int)) ((ifp (0 ≤ x72 ∧ x72 < ((a1.length : Nat) : Int)) ((Option.bind (cmp_Compare_int64 (rd a0 x72.toNat) (rd a1 x72.toNat)) fun r101 => (if (r101 != 0) then (some (.inr (.inr r101))) else (some (.inl (IntKind.i64.wrap (x72 - 1)))))))))) else (some (.inr (((.inl ()))))))
noncomputable def impl_compare (a0 : (List Int)) (a1 : (List Int)) : Option Int :=
  (Option.bind (cmp_Compare_int (a0.length : Int) (a1.length : Int)) fun r1 => (if (r1 != 0) then (some r1) else (Option.bind (α := (Unit ⊕ Int)) ((loopM (fun s : Int => impl_compare_l1 a0 a1 s) (IntKind.i64.wrap ((a0.length : Int) - 1)))) fun z => match z with | .inl _ => (some 0) | .inr r105 => (some r105))))
theorem impl_compare_ok (a0 : (List Int)) (a1 : (List Int)) (r : Int) (h : impl_compare a0 a1 = some r) : Den Tryz.prog 73 [(eSi64 a0), (eSi64 a1)] { r := (i6 r) } := by
  refine den_of (rs := [(i6 r)]) (ac := impl_compare_c) (L := impl_compare_L) (n := 35) (m := []) (c := Tryz.f73.body.getD .skip) good Tryz.func73 (by kernel_rfl) (by kernel_rfl) Tryz.ntmps73 rfl rfl (by kernel_rfl) rfl rfl ?_
  refine a_st (σ' := ⟨[(0, (eSi64 a0)), (1, (eSi64 a1))], []⟩) (by kernel_rfl) ?_
  unfold impl_compare_c
  refine sr (vp (i6 0) rfl (nx ⟨[(0, (eSi64 a0)), (1, (eSi64 a1))], []⟩ (by kernel_rfl) (a_seq (sr (vp (eSi64 a0) rfl (vq (i6 (a0.length : Int)) (len_run rfl rfl) trivial (vp (eSi64 a1) rfl (vq (i6 (a1.length : Int)) (len_run rfl rfl) trivial ?_))))))))
  obtain ⟨r1, hr2, h⟩ := bind_some h
  refine a_call (args := [(i6 (a0.length : Int)), (i6 (a1.length : Int))]) (u := []) (r := (i6 r1)) rfl rfl (cmp_Compare_int_ok (a0.length : Int) (a1.length : Int) r1 hr2) rfl (vp (i6 r1) rfl (nx ⟨[(0, (eSi64 a0)), (1, (eSi64 a1)), (5, (i6 r1))], []⟩ (by kernel_rfl) (sr (vp (i6 r1) rfl (vp (.bool (r1 != 0)) rfl (nx ⟨[(0, (eSi64 a0)), (1, (eSi64 a1)), (5, (i6 r1)), (14, (.bool (r1 != 0)))], []⟩ (by kernel_rfl) ?_))))))
  cases hb3 : (r1 != 0)
  · have h := ite_f hb3 h
    refine a_cond_f rfl (a_skip (a_next (σ' := ⟨[(0, (eSi64 a0)), (1, (eSi64 a1))], []⟩) (by kernel_rfl) ?_))
    obtain ⟨y53, hy54, hk55⟩ := bind_some h
    clear h
    refine a_join (emb := fun (s : Unit) => ⟨[], []⟩) (pre := fun s => (.inl s) = y53) ?_ ?_
    · rintro _ rfl
      have h := hk55
      refine a_st (σ' := ⟨[], []⟩) (by kernel_rfl) (sr (vp (i6 0) rfl (nx _ rfl (a_ret ?_))))
      refine ⟨.inr rfl, ?_⟩
      rw [Tryz.results73]
      cases h
      exact ⟨_, _, _, _, _, rfl, trivial, .inl ⟨rfl, .inl rfl⟩, rfl, rfl⟩
    · have h := hy54
      refine sr (vp (eSi64 a0) rfl (vq (i6 (a0.length : Int)) (len_run rfl rfl) trivial (vp (i6 (IntKind.i64.wrap ((a0.length : Int) - 1))) rfl (vp (i6 (IntKind.i64.wrap ((a0.length : Int) - 1))) rfl (nx ⟨[(0, (eSi64 a0)), (1, (eSi64 a1)), (6, (i6 (IntKind.i64.wrap ((a0.length : Int) - 1))))], []⟩ (by kernel_rfl) (a_block ?_))))))
      refine a_loop (emb := fun (s : Int) => ⟨[(0, (eSi64 a0)), (1, (eSi64 a1)), (6, (i6 s))], []⟩) (body := (fun s : Int => impl_compare_l1 a0 a1 s)) (G := fun q => some q = some y53) h rfl ?_ (by kernel_rfl)
      rintro X87 x72 x88 h hX89
      have h : impl_compare_l1 a0 a1 x72 = some x88 := h
      refine a_st (σ' := ⟨[(0, (eSi64 a0)), (1, (eSi64 a1)), (6, (i6 x72))], []⟩) (by kernel_rfl) (a_seq (sr (vp (i6 x72) rfl (vp (.bool ((decide (x72 ≥ 0)))) rfl (nx ⟨[(0, (eSi64 a0)), (1, (eSi64 a1)), (6, (i6 x72)), (20, (.bool ((decide (x72 ≥ 0)))))], []⟩ (by kernel_rfl) ?_)))))
      cases hb90 : (decide (x72 ≥ 0))
      · have h := ite_f hb90 h
        refine a_cond_f rfl (a_exit (t_exit ?_))
        cases h
        have h := hX89
        refine t_exit (b_exit ?_)
        exact j_leaf () (Option.some.inj h) (by kernel_rfl)
      · have h := ite_t hb90 h
        refine a_cond_t rfl (a_skip (a_next (σ' := ⟨[(0, (eSi64 a0)), (1, (eSi64 a1)), (6, (i6 x72))], []⟩) (by kernel_rfl) (a_seq (a_block (a_seq (a_draw [⟨[], [], [], []⟩, ⟨[], [], [], []⟩, ⟨[], [], [], [0, 1]⟩, ⟨[], [], [], [0, 1, 2]⟩, ⟨[], [], [], []⟩, ⟨[], [], [], []⟩, ⟨[], [], [], [4, 5]⟩, ⟨[], [], [], [4, 5, 6]⟩, ⟨[], [], [], [0, 1, 2, 3, 4, 5, 6, 7]⟩, ⟨[], [], [], [0, 1, 2, 3, 4, 5, 6, 7, 8]⟩] (by kernel_rfl) (dp (eSi64 a0) rfl (by kernel_rfl) (dp (i6 x72) rfl (by kernel_rfl) (d_cons ?_)))))))))
        obtain ⟨hc97, h⟩ := ifp_some h
        refine vq (.ref (.row 1 (a0.map (AV.int .i64))) [x72.toNat] [x72.toNat * 1]) rfl (lmap hc97) (d_next (by kernel_rfl) (d_cons ?_))
        have hl98 : LdOk [x72.toNat] (.row 1 (a0.map (AV.int .i64))) [x72.toNat * 1] 1 false (i6 (rd a0 x72.toNat)) := (.row (llt hc97) rfl (.nil rfl rfl rfl))
        refine vq (i6 (rd a0 x72.toNat)) (ld_ref (i := ⟨.int .i64, 1, 8, (.int .i64 0)⟩) rfl rfl hl98) hl98.c (d_next (by kernel_rfl) (dp (eSi64 a1) rfl (by kernel_rfl) (dp (i6 x72) rfl (by kernel_rfl) (d_cons ?_))))
        obtain ⟨hc99, h⟩ := ifp_some h
        refine vq (.ref (.row 1 (a1.map (AV.int .i64))) [x72.toNat] [x72.toNat * 1]) rfl (lmap hc99) (d_next (by kernel_rfl) (d_cons ?_))
        have hl100 : LdOk [x72.toNat] (.row 1 (a1.map (AV.int .i64))) [x72.toNat * 1] 1 false (i6 (rd a1 x72.toNat)) := (.row (llt hc99) rfl (.nil rfl rfl rfl))
        refine vq (i6 (rd a1 x72.toNat)) (ld_ref (i := ⟨.int .i64, 1, 8, (.int .i64 0)⟩) rfl rfl hl100) hl100.c (d_next (by kernel_rfl) (d_cons ?_))
        obtain ⟨r101, hr102, h⟩ := bind_some h
        refine a_call (args := [(i6 (rd a0 x72.toNat)), (i6 (rd a1 x72.toNat))]) (u := []) (r := (i6 r101)) rfl rfl (cmp_Compare_int64_ok (rd a0 x72.toNat) (rd a1 x72.toNat) r101 hr102) rfl (d_next (by kernel_rfl) (dp (i6 r101) rfl (by kernel_rfl) (d_nil (a_next (σ' := ⟨[(0, (eSi64 a0)), (1, (eSi64 a1)), (6, (i6 x72)), (7, (i6 r101))], []⟩) (by kernel_rfl) (sr (vp (i6 r101) rfl (vp (.bool (r101 != 0)) rfl (nx ⟨[(0, (eSi64 a0)), (1, (eSi64 a1)), (6, (i6 x72)), (7, (i6 r101)), (33, (.bool (r101 != 0)))], []⟩ (by kernel_rfl) ?_))))))))
        cases hb103 : (r101 != 0)
        · have h := ite_f hb103 h
          refine a_cond_f rfl (a_skip (b_norm (a_next (σ' := ⟨[(0, (eSi64 a0)), (1, (eSi64 a1)), (6, (i6 x72))], []⟩) (by kernel_rfl) (a_region (vp (i6 x72) rfl (vp (i6 (IntKind.i64.wrap (x72 - 1))) rfl (vp (i6 (IntKind.i64.wrap (x72 - 1))) rfl (a_nil ?_))))))))
          cases h
          exact a_again (by kernel_rfl) hX89
        · have h := ite_t hb103 h
          refine a_cond_t rfl (sr (vp (i6 r101) rfl (vp (i6 r101) rfl (nx _ rfl (a_ret (b_ret (t_ret ?_)))))))
          cases h
          have h := hX89
          refine t_ret (b_ret (t_ret ?_))
          cases h
          have h := hk55
          refine ⟨.inr rfl, ?_⟩
          rw [Tryz.results73]
          cases h
          exact ⟨_, _, _, _, _, rfl, trivial, .inl ⟨rfl, .inl rfl⟩, rfl, rfl⟩
  · have h := ite_t hb3 h
    refine a_cond_t rfl (sr (vp (i6 r1) rfl (vp (i6 r1) rfl (nx _ rfl (a_ret (t_ret ?_))))))
    refine ⟨.inr rfl, ?_⟩
    rw [Tryz.results73]
    cases h
    exact ⟨_, _, _, _, _, rfl, trivial, .inl ⟨rfl, .inl rfl⟩, rfl, rfl⟩
def impl_prime_factors_c1_c : ACode := (.seq (.region 0 [q 2 (.box 75 (t 0)), q 3 (.box 75 (t 1)), q 4 (.asg 0 (.const (.int .i64 0)) 3)] false) (.seq (.region 1 [q 5 (.fieldAddr 75 (t 2) 0), q 6 (.load 40 (t 5)), q 7 (.fieldAddr 75 (t 3) 0), q 8 (.load 40 (t 7)), q 9 (.call 0 (.func 73) [(t 6), (t 8)]), q 4 (.asg 0 (t 9) 3)] false) .ret))
def impl_prime_factors_c1_L : Live := [(0, [0, 1]), (1, [2, 3])]
noncomputable def impl_prime_factors_c1 (a0 : ((List Int) × Int)) (a1 : ((List Int) × Int)) : Option Int :=
  (Option.bind (impl_compare a0.1 a1.1) fun r3 => (some r3))
theorem impl_prime_factors_c1_ok (a0 : ((List Int) × Int)) (a1 : ((List Int) × Int)) (r : Int) (h : impl_prime_factors_c1 a0 a1 = some r) : Den Tryz.prog 72 [(eT_Si64_i64_Z a0), (eT_Si64_i64_Z a1)] { r := (i6 r) } := by
  refine den_of (rs := [(i6 r)]) (ac := impl_prime_factors_c1_c) (L := impl_prime_factors_c1_L) (n := 10) (m := []) (c := Tryz.f72.body.getD .skip) good Tryz.func72 (by kernel_rfl) (by kernel_rfl) Tryz.ntmps72 rfl rfl (by kernel_rfl) rfl rfl ?_
  refine a_st (σ' := ⟨[(0, (eT_Si64_i64_Z a0)), (1, (eT_Si64_i64_Z a1))], []⟩) (by kernel_rfl) ?_
  unfold impl_prime_factors_c1_c
  refine sr (vo 1200 (eT_Si64_i64_Z a0) rfl rfl (vo 1300 (eT_Si64_i64_Z a1) rfl rfl (vp (i6 0) rfl (nx ⟨[(2, (ow 2)), (3, (ow 3))], [(2, (bk (eT_Si64_i64_Z a0))), (3, (bk (eT_Si64_i64_Z a1)))]⟩ (by kernel_rfl) (sr (vb (.own 2 [0] [0]) rfl rfl ?_))))))
  have hl1 : LdOk [0] (eT_Si64_i64_Z a0) [0] 1 false (eSi64 a0.1) := (.fld rfl rfl rfl rfl (.nil rfl rfl rfl))
  refine vq (eSi64 a0.1) (ld_own (i := ⟨.slice 2, 1, 24, (eSi64 [])⟩) rfl rfl rfl hl1) hl1.c (vb (.own 3 [0] [0]) rfl rfl ?_)
  have hl2 : LdOk [0] (eT_Si64_i64_Z a1) [0] 1 false (eSi64 a1.1) := (.fld rfl rfl rfl rfl (.nil rfl rfl rfl))
  refine vq (eSi64 a1.1) (ld_own (i := ⟨.slice 2, 1, 24, (eSi64 [])⟩) rfl rfl rfl hl2) hl2.c ?_
  obtain ⟨r3, hr4, h⟩ := bind_some h
  refine a_call (args := [(eSi64 a0.1), (eSi64 a1.1)]) (u := []) (r := (i6 r3)) rfl rfl (impl_compare_ok a0.1 a1.1 r3 hr4) rfl (vp (i6 r3) rfl (nx _ rfl (a_ret ?_)))
  refine ⟨.inr rfl, ?_⟩
  rw [Tryz.results72]
  cases h
  exact ⟨_, _, _, _, _, rfl, trivial, .inl ⟨rfl, .inl rfl⟩, rfl, rfl⟩
def slices_insertionSortCmpFunc_impl_factor_of_mut_impl_prime_factors_c1_c : ACode := (.seq (.region 0 [q 10 (.mov (t 1)), q 11 (.bin .add 3 (t 10) (.const (.int .i64 1))), q 8 (.asg 0 (t 11) 3)] false) (.block 0 (.loop (.seq (.seq (.region 1 [q 12 (.mov (t 8)), q 13 (.mov (t 2)), q 14 (.bin .lss 3 (t 12) (t 13))] false) (.cond (t 14) .skip (.exit 0))) (.seq (.block 1 (.seq (.region 3 [q 17 (.mov (t 8)), q 9 (.asg 0 (t 17) 3)] false) (.block 2 (.loop (.seq (.seq (.region 4 [q 18 (.mov (t 9)), q 19 (.mov (t 1)), ⟨some 20, .bin .gtr 3 (t 18) (t 19), none, [0, 1]⟩, ⟨some 21, .mov (t 20), none, [2]⟩, ⟨some 22, .mov (t 3), some (21, true), [3]⟩, ⟨some 23, .mov (t 0), some (21, true), [3]⟩, ⟨some 24, .mov (t 9), some (21, true), [3]⟩, ⟨some 25, .indexAddr 72 (t 23) (t 24), some (21, true), [5, 6, 3]⟩, ⟨some 26, .load 75 (t 25), some (21, true), [7, 3]⟩, ⟨some 27, .mov (t 0), some (21, true), [3]⟩, ⟨some 28, .mov (t 9), some (21, true), [3]⟩, ⟨some 29, .bin .sub 3 (t 28) (.const (.int .i64 1)), some (21, true), [10, 3]⟩, ⟨some 30, .indexAddr 72 (t 27) (t 29), some (21, true), [9, 11, 3]⟩, ⟨some 31, .load 75 (t 30), some (21, true), [12, 3]⟩, ⟨some 32, .call 0 (t 22) [(t 26), (t 31)], some (21, true), [4, 8, 13, 3, 3]⟩, ⟨some 33, .bin .lss 3 (t 32) (.const (.int .i64 0)), some (21, true), [14, 3]⟩, ⟨some 34, .pick (t 21) (t 33) (.const (.bool false)), none, [3, 15]⟩] true) (.cond (t 34) .skip (.exit 2))) (.seq (.block 3 (.region 6 [q 37 (.mov (t 0)), q 38 (.mov (t 9)), q 39 (.mov (t 0)), q 40 (.mov (t 9)), ⟨some 41, .bin .sub 3 (t 40) (.const (.int .i64 1)), none, [3]⟩, q 42 (.mov (t 0)), q 43 (.mov (t 9)), ⟨some 44, .bin .sub 3 (t 43) (.const (.int .i64 1)), none, [6]⟩, ⟨some 45, .indexAddr 72 (t 42) (t 44), none, [5, 7]⟩, ⟨some 46, .load 75 (t 45), none, [8]⟩, q 47 (.mov (t 0)), q 48 (.mov (t 9)), ⟨some 49, .indexAddr 72 (t 47) (t 48), none, [10, 11]⟩, ⟨some 50, .load 75 (t 49), none, [12]⟩, ⟨some 51, .indexAddr 72 (t 37) (t 38), none, [0, 1, 0, 1, 5, 6, 7, 8, 9, 13]⟩, ⟨none, .store 75 (t 51) (t 46), none, [14, 9, 0, 1, 5, 6, 7, 8, 9, 13]⟩, ⟨some 52, .indexAddr 72 (t 39) (t 41), none, [2, 4, 0, 1, 2, 3, 4, 5, 6, 7, 8, 9, 10, 11, 12, 13, 14, 15]⟩, ⟨none, .store 75 (t 52) (t 50), none, [16, 13, 15, 0, 1, 2, 3, 4, 5, 6, 7, 8, 9, 10, 11, 12, 13, 14, 15]⟩] true)) (.region 5 [q 35 (.mov (t 9)), q 36 (.bin .sub 3 (t 35) (.const (.int .i64 1))), q 9 (.asg 0 (t 36) 3)] false))))))) (.region 2 [q 15 (.mov (t 8)), q 16 (.bin .add 3 (t 15) (.const (.int .i64 1))), q 8 (.asg 0 (t 16) 3)] false))))))
def slices_insertionSortCmpFunc_impl_factor_of_mut_impl_prime_factors_c1_L : Live := [(0, [0, 1, 2, 3]), (1, [0, 1, 2, 3, 8]), (2, [0, 1, 2, 3, 8]), (3, [0, 1, 2, 3, 8]), (4, [0, 1, 2, 3, 8, 9]), (5, [0, 1, 2, 3, 8, 9]), (6, [0, 1, 2, 3, 8, 9]), (100014, [0, 1, 2, 3, 8, 14]), (100034, [0, 1, 2, 3, 8, 9, 34])]
noncomputable def slices_insertionSortCmpFunc_impl_factor_of_mut_impl_prime_factors_c1_l2 (a1 : Int) (x859 : Int) (x860 : (List ((List Int) × Int))) : Option ((Int × (List ((List Int) × Int))) ⊕ (List ((List Int) × Int))) :=
  (Option.bind (α := Bool) ((if (decide (x859 > a1)) then (ifp (0 ≤ x859 ∧ x859 < ((x860.length : Nat) : Int)) ((ifp (0 ≤ IntKind.i64.wrap (x859 - 1) ∧ IntKind.i64.wrap (x859 - 1) < ((x860.length : Nat) : Int)) ((Option.bind (impl_prime_factors_c1 (rd x860 x859.toNat) ((rd x860 (IntKind.i64.wrap (x859 - 1)).toNat))) fun r943 => (some ((decide (r943 < 0))))))))) else (some false))) fun x927 => (if x927 then (ifp (0 ≤ IntKind.i64.wrap (x859 - 1) ∧ IntKind.i64.wrap (x859 - 1) < ((x860.length : Nat) : Int)) ((ifp (0 ≤ x859 ∧ x859 < ((x860.length : Nat) : Int)) ((ifp (0 ≤ x859 ∧ x859 < ((x860.length : Nat) : Int)) ((ifp (0 ≤ IntKind.i64.wrap (x859 - 1) ∧ IntKind.i64.wrap (x859 - 1) < ((((x860.set x859.toNat ((rd x860 (IntKind.i64.wrap (x859 - 1)).toNat)))).length : Nat) : Int)) ((some (.inl ((IntKind.i64.wrap (x859 - 1), (((x860.set x859.toNat ((rd x860 (IntKind.i64.wrap (x859 - 1)).toNat)))).set (IntKind.i64.wrap (x859 - 1)).toNat (rd x860 x859.toNat)))))))))))))) else (some (.inr x860))))
noncomputable def slices_insertionSortCmpFunc_impl_factor_of_mut_impl_prime_factors_c1_l1 (a2 : Int) (a1 : Int) (x336 : Int) (x337 : (List ((List Int) × Int))) : Option ((Int × (List ((List Int) × Int))) ⊕ (List ((List Int) × Int))) :=
  (if (decide (x336 < a2)) then (Option.bind (α := (List ((List Int) × Int))) ((loopM (fun s : (Int × (List ((List Int) × Int))) => slices_insertionSortCmpFunc_impl_factor_of_mut_impl_prime_factors_c1_l2 a1 s.1 s.2) (x336, x337))) fun x806 => (some (.inl ((IntKind.i64.wrap (x336 + 1), x806))))) else (some (.inr x337)))
noncomputable def slices_insertionSortCmpFunc_impl_factor_of_mut_impl_prime_factors_c1 (a0 : (List ((List Int) × Int))) (a1 : Int) (a2 : Int) : Option (List ((List Int) × Int)) :=
  (loopM (fun s : (Int × (List ((List Int) × Int))) => slices_insertionSortCmpFunc_impl_factor_of_mut_impl_prime_factors_c1_l1 a2 a1 s.1 s.2) (IntKind.i64.wrap (a1 + 1), a0))
theorem slices_insertionSortCmpFunc_impl_factor_of_mut_impl_prime_factors_c1_ok (a0 : (List ((List Int) × Int))) (a1 : Int) (a2 : Int) (r : (List ((List Int) × Int))) (h : slices_insertionSortCmpFunc_impl_factor_of_mut_impl_prime_factors_c1 a0 a1 a2 = some r) : Den Tryz.prog 92 [(.mutsl 2 (a0.map eT_Si64_i64_Z)), (i6 a1), (i6 a2), (.clo 72 [] [])] { r := (.tuple []), ms := [(.row 2 (r.map eT_Si64_i64_Z))], fs := [] } := by
  refine den_ofX (rs := []) (ac := slices_insertionSortCmpFunc_impl_factor_of_mut_impl_prime_factors_c1_c) (L := slices_insertionSortCmpFunc_impl_factor_of_mut_impl_prime_factors_c1_L) (n := 53) (m := []) (c := Tryz.f92.body.getD .skip) good Tryz.func92 (by kernel_rfl) (by kernel_rfl) Tryz.ntmps92 rfl rfl (by kernel_rfl) rfl ?_
  refine a_st (σ' := ⟨[(0, (.osl 1000000)), (1, (i6 a1)), (2, (i6 a2)), (3, (.clo 72 [] []))], [(1000000, (bk (.row 2 (a0.map eT_Si64_i64_Z))))]⟩) (by kernel_rfl) ?_
  unfold slices_insertionSortCmpFunc_impl_factor_of_mut_impl_prime_factors_c1_c
  refine sr (vp (i6 a1) rfl (vp (i6 (IntKind.i64.wrap (a1 + 1))) rfl (vp (i6 (IntKind.i64.wrap (a1 + 1))) rfl (nx ⟨[(0, (.osl 1000000)), (1, (i6 a1)), (2, (i6 a2)), (3, (.clo 72 [] [])), (8, (i6 (IntKind.i64.wrap (a1 + 1))))], [(1000000, (bk (.row 2 (a0.map eT_Si64_i64_Z))))]⟩ (by kernel_rfl) (a_block ?_)))))
  refine a_loop (emb := fun (s : (Int × (List ((List Int) × Int)))) => ⟨[(0, (.osl 1000000)), (1, (i6 a1)), (2, (i6 a2)), (3, (.clo 72 [] [])), (8, (i6 s.1))], [(1000000, (bk (.row 2 (s.2.map eT_Si64_i64_Z))))]⟩) (body := (fun s : (Int × (List ((List Int) × Int))) => slices_insertionSortCmpFunc_impl_factor_of_mut_impl_prime_factors_c1_l1 a2 a1 s.1 s.2)) (G := fun q => some q = some r) h rfl ?_ (by kernel_rfl)
  rintro X649 ⟨x336, x337⟩ x650 h hX651
  have h : slices_insertionSortCmpFunc_impl_factor_of_mut_impl_prime_factors_c1_l1 a2 a1 x336 x337 = some x650 := h
  refine a_st (σ' := ⟨[(0, (.osl 1000000)), (1, (i6 a1)), (2, (i6 a2)), (3, (.clo 72 [] [])), (8, (i6 x336))], [(1000000, (bk (.row 2 (x337.map eT_Si64_i64_Z))))]⟩) (by kernel_rfl) (a_seq (sr (vp (i6 x336) rfl (vp (i6 a2) rfl (vp (.bool ((decide (x336 < a2)))) rfl (nx ⟨[(0, (.osl 1000000)), (1, (i6 a1)), (2, (i6 a2)), (3, (.clo 72 [] [])), (8, (i6 x336)), (14, (.bool ((decide (x336 < a2)))))], [(1000000, (bk (.row 2 (x337.map eT_Si64_i64_Z))))]⟩ (by kernel_rfl) ?_))))))
  cases hb652 : (decide (x336 < a2))
  · have h := ite_f hb652 h
    refine a_cond_f rfl (a_exit (t_exit ?_))
    cases h
    have h := hX651
    refine t_exit (b_exit ?_)
    refine ⟨.inl rfl, ?_⟩
    rw [Tryz.results92]
    cases h
    exact ⟨[], ⟨rfl, rfl, rfl⟩, rfl, ⟨_, _, rfl, rfl, rfl⟩⟩
  · have h := ite_t hb652 h
    refine a_cond_t rfl (a_skip (a_next (σ' := ⟨[(0, (.osl 1000000)), (1, (i6 a1)), (2, (i6 a2)), (3, (.clo 72 [] [])), (8, (i6 x336))], [(1000000, (bk (.row 2 (x337.map eT_Si64_i64_Z))))]⟩) (by kernel_rfl) ?_))
    obtain ⟨y807, hy808, hk809⟩ := bind_some h
    clear h
    refine a_join (emb := fun (s : (List ((List Int) × Int))) => ⟨[(0, (.osl 1000000)), (1, (i6 a1)), (2, (i6 a2)), (3, (.clo 72 [] [])), (8, (i6 x336))], [(1000000, (bk (.row 2 (s.map eT_Si64_i64_Z))))]⟩) (pre := fun s => s = y807) ?_ ?_
    · rintro x806 rfl
      have h := hk809
      refine a_st (σ' := ⟨[(0, (.osl 1000000)), (1, (i6 a1)), (2, (i6 a2)), (3, (.clo 72 [] [])), (8, (i6 x336))], [(1000000, (bk (.row 2 (x806.map eT_Si64_i64_Z))))]⟩) (by kernel_rfl) (a_region (vp (i6 x336) rfl (vp (i6 (IntKind.i64.wrap (x336 + 1))) rfl (vp (i6 (IntKind.i64.wrap (x336 + 1))) rfl (a_nil ?_)))))
      cases h
      exact a_again (by kernel_rfl) hX651
    · have h := hy808
      refine a_block (sr (vp (i6 x336) rfl (vp (i6 x336) rfl (nx ⟨[(0, (.osl 1000000)), (1, (i6 a1)), (2, (i6 a2)), (3, (.clo 72 [] [])), (8, (i6 x336)), (9, (i6 x336))], [(1000000, (bk (.row 2 (x337.map eT_Si64_i64_Z))))]⟩ (by kernel_rfl) (a_block ?_)))))
      refine a_loop (emb := fun (s : (Int × (List ((List Int) × Int)))) => ⟨[(0, (.osl 1000000)), (1, (i6 a1)), (2, (i6 a2)), (3, (.clo 72 [] [])), (8, (i6 x336)), (9, (i6 s.1))], [(1000000, (bk (.row 2 (s.2.map eT_Si64_i64_Z))))]⟩) (body := (fun s : (Int × (List ((List Int) × Int))) => slices_insertionSortCmpFunc_impl_factor_of_mut_impl_prime_factors_c1_l2 a1 s.1 s.2)) (G := fun q => some q = some y807) h rfl ?_ (by kernel_rfl)
      rintro X910 ⟨x859, x860⟩ x911 h hX912
      have h : slices_insertionSortCmpFunc_impl_factor_of_mut_impl_prime_factors_c1_l2 a1 x859 x860 = some x911 := h
      refine a_st (σ' := ⟨[(0, (.osl 1000000)), (1, (i6 a1)), (2, (i6 a2)), (3, (.clo 72 [] [])), (8, (i6 x336)), (9, (i6 x859))], [(1000000, (bk (.row 2 (x860.map eT_Si64_i64_Z))))]⟩) (by kernel_rfl) (a_seq ?_)
      obtain ⟨y928, hy929, hk930⟩ := bind_some h
      clear h
      refine a_join (emb := fun (s : Bool) => ⟨[(0, (.osl 1000000)), (1, (i6 a1)), (2, (i6 a2)), (3, (.clo 72 [] [])), (8, (i6 x336)), (9, (i6 x859)), (34, (.bool s))], [(1000000, (bk (.row 2 (x860.map eT_Si64_i64_Z))))]⟩) (pre := fun s => s = y928) ?_ ?_
      · rintro x927 rfl
        have h := hk930
        refine a_st (σ' := ⟨[(0, (.osl 1000000)), (1, (i6 a1)), (2, (i6 a2)), (3, (.clo 72 [] [])), (8, (i6 x336)), (9, (i6 x859)), (34, (.bool x927))], [(1000000, (bk (.row 2 (x860.map eT_Si64_i64_Z))))]⟩) (by kernel_rfl) ?_
        cases hb945 : x927
        · have h := ite_f hb945 h
          refine a_cond_f rfl (a_exit (t_exit ?_))
          cases h
          have h := hX912
          refine t_exit (b_exit (b_norm ?_))
          exact j_leaf x860 (Option.some.inj h) (by kernel_rfl)
        · have h := ite_t hb945 h
          refine a_cond_t rfl (a_skip (a_next (σ' := ⟨[(0, (.osl 1000000)), (1, (i6 a1)), (2, (i6 a2)), (3, (.clo 72 [] [])), (8, (i6 x336)), (9, (i6 x859))], [(1000000, (bk (.row 2 (x860.map eT_Si64_i64_Z))))]⟩) (by kernel_rfl) (a_seq (a_block (a_draw [⟨[], [], [1000000], []⟩, ⟨[], [], [], []⟩, ⟨[], [], [1000000], []⟩, ⟨[], [], [], []⟩, ⟨[], [], [], [3]⟩, ⟨[], [], [1000000], []⟩, ⟨[], [], [], []⟩, ⟨[], [], [], [6]⟩, ⟨[1000000], [], [1000000], [5, 6, 7]⟩, ⟨[1000000], [], [], [5, 6, 7, 8]⟩, ⟨[], [], [1000000], []⟩, ⟨[], [], [], []⟩, ⟨[1000000], [], [1000000], [10, 11]⟩, ⟨[1000000], [], [], [10, 11, 12]⟩, ⟨[1000000], [], [1000000], [0, 1, 5, 6, 7, 8, 9, 10, 11, 12, 13]⟩, ⟨[1000000], [1000000], [], [0, 1, 5, 6, 7, 8, 9, 10, 11, 12, 13, 14]⟩, ⟨[1000000], [], [1000000], [0, 1, 2, 3, 4, 5, 6, 7, 8, 9, 10, 11, 12, 13, 14, 15]⟩, ⟨[1000000], [1000000], [], [0, 1, 2, 3, 4, 5, 6, 7, 8, 9, 10, 11, 12, 13, 14, 15, 16]⟩] (by kernel_rfl) (dp (.osl 1000000) rfl (by kernel_rfl) (dp (i6 x859) rfl (by kernel_rfl) (dp (.osl 1000000) rfl (by kernel_rfl) (dp (i6 x859) rfl (by kernel_rfl) ?_)))))))))
          refine dp (i6 (IntKind.i64.wrap (x859 - 1))) rfl (by kernel_rfl) (dp (.osl 1000000) rfl (by kernel_rfl) (dp (i6 x859) rfl (by kernel_rfl) (dp (i6 (IntKind.i64.wrap (x859 - 1))) rfl (by kernel_rfl) (d_cons ?_))))
          obtain ⟨hc954, h⟩ := ifp_some h
          refine vq (.own 1000000 [(IntKind.i64.wrap (x859 - 1)).toNat] [(IntKind.i64.wrap (x859 - 1)).toNat * 2]) rfl (lmap hc954) (d_next (by kernel_rfl) (d_cons ?_))
          have hl955 : LdOk [(IntKind.i64.wrap (x859 - 1)).toNat] (.row 2 (x860.map eT_Si64_i64_Z)) [(IntKind.i64.wrap (x859 - 1)).toNat * 2] 2 true (eT_Si64_i64_Z ((rd x860 (IntKind.i64.wrap (x859 - 1)).toNat))) := (.row (llt hc954) rfl (.nil rfl rfl rfl))
          refine vq (eT_Si64_i64_Z ((rd x860 (IntKind.i64.wrap (x859 - 1)).toNat))) (ld_own (i := ⟨.struct [(0, 40), (1, 2)], 2, 32, (eT_Si64_i64_Z ([], (0 : Int)))⟩) rfl rfl rfl hl955) hl955.c (d_next (by kernel_rfl) (dp (.osl 1000000) rfl (by kernel_rfl) (dp (i6 x859) rfl (by kernel_rfl) (d_cons ?_))))
          obtain ⟨hc956, h⟩ := ifp_some h
          refine vq (.own 1000000 [x859.toNat] [x859.toNat * 2]) rfl (lmap hc956) (d_next (by kernel_rfl) (d_cons ?_))
          have hl957 : LdOk [x859.toNat] (.row 2 (x860.map eT_Si64_i64_Z)) [x859.toNat * 2] 2 true (eT_Si64_i64_Z (rd x860 x859.toNat)) := (.row (llt hc956) rfl (.nil rfl rfl rfl))
          refine vq (eT_Si64_i64_Z (rd x860 x859.toNat)) (ld_own (i := ⟨.struct [(0, 40), (1, 2)], 2, 32, (eT_Si64_i64_Z ([], (0 : Int)))⟩) rfl rfl rfl hl957) hl957.c (d_next (by kernel_rfl) (d_cons ?_))
          obtain ⟨hc958, h⟩ := ifp_some h
          refine vq (.own 1000000 [x859.toNat] [x859.toNat * 2]) rfl (lmap hc958) (d_next (by kernel_rfl) (d_cons ?_))
          have hs959 : StOk [x859.toNat] (.row 2 (x860.map eT_Si64_i64_Z)) [x859.toNat * 2] 2 (eT_Si64_i64_Z ((rd x860 (IntKind.i64.wrap (x859 - 1)).toNat))) (.row 2 (((x860.set x859.toNat ((rd x860 (IntKind.i64.wrap (x859 - 1)).toNat)))).map eT_Si64_i64_Z)) := (.row (y := (rd x860 (IntKind.i64.wrap (x859 - 1)).toNat)) (llt hc958) rfl (.nil rfl rfl rfl rfl))
          refine vu .top [(1000000, (bk (.row 2 (((x860.set x859.toNat ((rd x860 (IntKind.i64.wrap (x859 - 1)).toNat)))).map eT_Si64_i64_Z))))] (st_own (i := ⟨.struct [(0, 40), (1, 2)], 2, 32, (eT_Si64_i64_Z ([], (0 : Int)))⟩) rfl rfl (fun _ => rfl) rfl hs959) (hs959.c rfl) rfl (d_next (by kernel_rfl) (d_cons ?_))
          obtain ⟨hc960, h⟩ := ifp_some h
          refine vq (.own 1000000 [(IntKind.i64.wrap (x859 - 1)).toNat] [(IntKind.i64.wrap (x859 - 1)).toNat * 2]) rfl (lmap hc960) (d_next (by kernel_rfl) (d_cons ?_))
          have hs961 : StOk [(IntKind.i64.wrap (x859 - 1)).toNat] (.row 2 (((x860.set x859.toNat ((rd x860 (IntKind.i64.wrap (x859 - 1)).toNat)))).map eT_Si64_i64_Z)) [(IntKind.i64.wrap (x859 - 1)).toNat * 2] 2 (eT_Si64_i64_Z (rd x860 x859.toNat)) (.row 2 (((((x860.set x859.toNat ((rd x860 (IntKind.i64.wrap (x859 - 1)).toNat)))).set (IntKind.i64.wrap (x859 - 1)).toNat (rd x860 x859.toNat))).map eT_Si64_i64_Z)) := (.row (y := (rd x860 x859.toNat)) (llt hc960) rfl (.nil rfl rfl rfl rfl))
          refine vu .top [(1000000, (bk (.row 2 (((((x860.set x859.toNat ((rd x860 (IntKind.i64.wrap (x859 - 1)).toNat)))).set (IntKind.i64.wrap (x859 - 1)).toNat (rd x860 x859.toNat))).map eT_Si64_i64_Z))))] (st_own (i := ⟨.struct [(0, 40), (1, 2)], 2, 32, (eT_Si64_i64_Z ([], (0 : Int)))⟩) rfl rfl (fun _ => rfl) rfl hs961) (hs961.c rfl) rfl (d_next (by kernel_rfl) (d_nil (b_norm (a_next (σ' := ⟨[(0, (.osl 1000000)), (1, (i6 a1)), (2, (i6 a2)), (3, (.clo 72 [] [])), (8, (i6 x336)), (9, (i6 x859))], [(1000000, (bk (.row 2 (((((x860.set x859.toNat ((rd x860 (IntKind.i64.wrap (x859 - 1)).toNat)))).set (IntKind.i64.wrap (x859 - 1)).toNat (rd x860 x859.toNat))).map eT_Si64_i64_Z))))]⟩) (by kernel_rfl) (a_region (vp (i6 x859) rfl (vp (i6 (IntKind.i64.wrap (x859 - 1))) rfl (vp (i6 (IntKind.i64.wrap (x859 - 1))) rfl (a_nil ?_)))))))))
          cases h
          exact a_again (by kernel_rfl) hX912
      · have h := hy929
        refine a_draw [⟨[], [], [], []⟩, ⟨[], [], [], []⟩, ⟨[], [], [], [0, 1]⟩, ⟨[], [], [], [0, 1, 2]⟩, ⟨[], [], [], [0, 1, 2, 3]⟩, ⟨[], [], [1000000], [0, 1, 2, 3]⟩, ⟨[], [], [], [0, 1, 2, 3]⟩, ⟨[1000000], [], [1000000], [0, 1, 2, 3, 5, 6]⟩, ⟨[1000000], [], [], [0, 1, 2, 3, 5, 6, 7]⟩, ⟨[], [], [1000000], [0, 1, 2, 3]⟩, ⟨[], [], [], [0, 1, 2, 3]⟩, ⟨[], [], [], [0, 1, 2, 3, 10]⟩, ⟨[1000000], [], [1000000], [0, 1, 2, 3, 9, 10, 11]⟩, ⟨[1000000], [], [], [0, 1, 2, 3, 9, 10, 11, 12]⟩, ⟨[], [], [], [0, 1, 2, 3, 4, 5, 6, 7, 8, 9, 10, 11, 12, 13]⟩, ⟨[], [], [], [0, 1, 2, 3, 4, 5, 6, 7, 8, 9, 10, 11, 12, 13, 14]⟩, ⟨[], [], [], [0, 1, 2, 3, 4, 5, 6, 7, 8, 9, 10, 11, 12, 13, 14, 15]⟩] (by kernel_rfl) (dp (i6 x859) rfl (by kernel_rfl) (dp (i6 a1) rfl (by kernel_rfl) (dp (.bool ((decide (x859 > a1)))) rfl (by kernel_rfl) (dp (.bool ((decide (x859 > a1)))) rfl (by kernel_rfl) ?_))))
        cases hb938 : (decide (x859 > a1))
        · have h := ite_f hb938 h
          refine dk rfl (by kernel_rfl) (dk rfl (by kernel_rfl) (dk rfl (by kernel_rfl) (dk rfl (by kernel_rfl) (dk rfl (by kernel_rfl) (dk rfl (by kernel_rfl) (dk rfl (by kernel_rfl) (dk rfl (by kernel_rfl) (dk rfl (by kernel_rfl) (dk rfl (by kernel_rfl) ?_)))))))))
          refine dk rfl (by kernel_rfl) (dk rfl (by kernel_rfl) (dp (.bool false) rfl (by kernel_rfl) (d_nil ?_)))
          exact j_leaf false (Option.some.inj h) (by kernel_rfl)
        · have h := ite_t hb938 h
          refine dg (.clo 72 [] []) rfl rfl (by kernel_rfl) (dg (.osl 1000000) rfl rfl (by kernel_rfl) (dg (i6 x859) rfl rfl (by kernel_rfl) (d_cons ?_)))
          obtain ⟨hc939, h⟩ := ifp_some h
          refine gq (.own 1000000 [x859.toNat] [x859.toNat * 2]) rfl rfl (lmap hc939) (d_next (by kernel_rfl) (d_cons ?_))
          have hl940 : LdOk [x859.toNat] (.row 2 (x860.map eT_Si64_i64_Z)) [x859.toNat * 2] 2 true (eT_Si64_i64_Z (rd x860 x859.toNat)) := (.row (llt hc939) rfl (.nil rfl rfl rfl))
          refine gq (eT_Si64_i64_Z (rd x860 x859.toNat)) rfl (ld_own (i := ⟨.struct [(0, 40), (1, 2)], 2, 32, (eT_Si64_i64_Z ([], (0 : Int)))⟩) rfl rfl rfl hl940) hl940.c (d_next (by kernel_rfl) (dg (.osl 1000000) rfl rfl (by kernel_rfl) (dg (i6 x859) rfl rfl (by kernel_rfl) (dg (i6 (IntKind.i64.wrap (x859 - 1))) rfl rfl (by kernel_rfl) (d_cons ?_)))))
          obtain ⟨hc941, h⟩ := ifp_some h
          refine gq (.own 1000000 [(IntKind.i64.wrap (x859 - 1)).toNat] [(IntKind.i64.wrap (x859 - 1)).toNat * 2]) rfl rfl (lmap hc941) (d_next (by kernel_rfl) (d_cons ?_))
          have hl942 : LdOk [(IntKind.i64.wrap (x859 - 1)).toNat] (.row 2 (x860.map eT_Si64_i64_Z)) [(IntKind.i64.wrap (x859 - 1)).toNat * 2] 2 true (eT_Si64_i64_Z ((rd x860 (IntKind.i64.wrap (x859 - 1)).toNat))) := (.row (llt hc941) rfl (.nil rfl rfl rfl))
          refine gq (eT_Si64_i64_Z ((rd x860 (IntKind.i64.wrap (x859 - 1)).toNat))) rfl (ld_own (i := ⟨.struct [(0, 40), (1, 2)], 2, 32, (eT_Si64_i64_Z ([], (0 : Int)))⟩) rfl rfl rfl hl942) hl942.c (d_next (by kernel_rfl) (d_cons ?_))
          obtain ⟨r943, hr944, h⟩ := bind_some h
          refine a_gcall rfl (args := [(eT_Si64_i64_Z (rd x860 x859.toNat)), (eT_Si64_i64_Z ((rd x860 (IntKind.i64.wrap (x859 - 1)).toNat)))]) (u := []) (r := (i6 r943)) rfl rfl (impl_prime_factors_c1_ok (rd x860 x859.toNat) ((rd x860 (IntKind.i64.wrap (x859 - 1)).toNat)) r943 hr944) rfl (d_next (by kernel_rfl) (dg (.bool ((decide (r943 < 0)))) rfl rfl (by kernel_rfl) (dp (.bool ((decide (r943 < 0)))) rfl (by kernel_rfl) (d_nil ?_))))
          exact j_leaf ((decide (r943 < 0))) (Option.some.inj h) (by kernel_rfl)
def slices_pdqsortCmpFunc_impl_factor_of_mut_impl_prime_factors_c1_c : ACode := (.seq (.region 0 [q 10 (.asg 0 (.const (.bool true)) 4)] false) (.seq (.region 1 [q 11 (.asg 0 (.const (.bool true)) 4)] false) (.block 0 (.loop (.block 1 (.seq (.region 2 [q 21 (.mov (t 2)), q 22 (.mov (t 1)), q 23 (.bin .sub 3 (t 21) (t 22)), q 12 (.asg 0 (t 23) 3)] false) (.seq (.seq (.region 3 [q 24 (.mov (t 12)), q 25 (.bin .leq 3 (t 24) (.const (.int .i64 12)))] false) (.cond (t 25) (.seq (.region 4 [q 26 (.mov (t 0)), q 27 (.mov (t 1)), q 28 (.mov (t 2)), q 29 (.mov (t 4)), q 30 (.call 1 (.func 92) [(t 26), (t 27), (t 28), (t 29)])] false) .ret) .skip)) (.seq (.seq (.region 5 [q 31 (.mov (t 3)), q 32 (.bin .eql 3 (t 31) (.const (.int .i64 0)))] false) (.cond (t 32) (.seq (.region 6 [q 33 (.mov (t 0)), q 34 (.mov (t 1)), q 35 (.mov (t 2)), q 36 (.mov (t 4)), q 37 (.call 1 (.func 93) [(t 33), (t 34), (t 35), (t 36)])] false) .ret) .skip)) (.seq (.seq (.region 7 [q 38 (.mov (t 10)), q 39 (.un .not (t 38))] false) (.cond (t 39) (.seq (.region 8 [q 40 (.mov (t 0)), q 41 (.mov (t 1)), q 42 (.mov (t 2)), q 43 (.mov (t 4)), q 44 (.call 1 (.func 94) [(t 40), (t 41), (t 42), (t 43)])] false) (.region 9 [q 45 (.mov (t 3)), q 46 (.bin .sub 3 (t 45) (.const (.int .i64 1))), q 3 (.asg 0 (t 46) 3)] false)) .skip)) (.seq (.region 10 [q 48 (.mov (t 0)), q 49 (.mov (t 1)), q 50 (.mov (t 2)), q 51 (.mov (t 4)), q 52 (.call 0 (.func 95) [(t 48), (t 49), (t 50), (t 51)]), q 47 (.mov (t 52)), q 53 (.extract (t 47) 0), q 54 (.extract (t 47) 1), q 13 (.asg 0 (t 53) 3), q 14 (.asg 0 (t 54) 111)] false) (.seq (.seq (.region 11 [q 55 (.mov (t 14)), q 56 (.bin .eql 111 (t 55) (.const (.int .i64 2)))] false) (.cond (t 56) (.seq (.region 12 [q 57 (.mov (t 0)), q 58 (.mov (t 1)), q 59 (.mov (t 2)), q 60 (.mov (t 4)), q 61 (.call 1 (.func 96) [(t 57), (t 58), (t 59), (t 60)])] false) (.seq (.region 13 [q 62 (.mov (t 2)), q 63 (.bin .sub 3 (t 62) (.const (.int .i64 1))), q 64 (.mov (t 13)), q 65 (.mov (t 1)), q 66 (.bin .sub 3 (t 64) (t 65)), q 67 (.bin .sub 3 (t 63) (t 66)), q 13 (.asg 0 (t 67) 3)] false) (.region 14 [q 14 (.asg 0 (.const (.int .i64 1)) 111)] false))) .skip)) (.seq (.seq (.region 15 [q 68 (.mov (t 10)), q 69 (.mov (t 68)), ⟨some 70, .mov (t 11), some (69, true), []⟩, q 71 (.pick (t 69) (t 70) (.const (.bool false))), q 72 (.mov (t 71)), ⟨some 73, .mov (t 14), some (72, true), []⟩, ⟨some 74, .bin .eql 111 (t 73) (.const (.int .i64 1)), some (72, true), []⟩, q 75 (.pick (t 72) (t 74) (.const (.bool false)))] false) (.cond (t 75) (.seq (.region 16 [q 76 (.mov (t 0)), q 77 (.mov (t 1)), q 78 (.mov (t 2)), q 79 (.mov (t 4)), q 80 (.call 1 (.func 97) [(t 76), (t 77), (t 78), (t 79)])] false) (.cond (t 80) .ret .skip)) .skip)) (.seq (.seq (.region 17 [q 81 (.mov (t 1)), ⟨some 82, .bin .gtr 3 (t 81) (.const (.int .i64 0)), none, [0]⟩, ⟨some 83, .mov (t 82), none, [1]⟩, ⟨some 84, .mov (t 4), some (83, true), [2]⟩, ⟨some 85, .mov (t 0), some (83, true), [2]⟩, ⟨some 86, .mov (t 1), some (83, true), [2]⟩, ⟨some 87, .bin .sub 3 (t 86) (.const (.int .i64 1)), some (83, true), [5, 2]⟩, ⟨some 88, .indexAddr 72 (t 85) (t 87), some (83, true), [4, 6, 2]⟩, ⟨some 89, .load 75 (t 88), some (83, true), [7, 2]⟩, ⟨some 90, .mov (t 0), some (83, true), [2]⟩, ⟨some 91, .mov (t 13), some (83, true), [2]⟩, ⟨some 92, .indexAddr 72 (t 90) (t 91), some (83, true), [9, 10, 2]⟩, ⟨some 93, .load 75 (t 92), some (83, true), [11, 2]⟩, ⟨some 94, .call 0 (t 84) [(t 89), (t 93)], some (83, true), [3, 8, 12, 2, 2]⟩, ⟨some 95, .bin .lss 3 (t 94) (.const (.int .i64 0)), some (83, true), [13, 2]⟩, ⟨some 96, .un .not (t 95), some (83, true), [14, 2]⟩, ⟨some 97, .pick (t 83) (t 96) (.const (.bool false)), none, [2, 15]⟩] true) (.cond (t 97) (.seq (.region 18 [q 98 (.mov (t 0)), q 99 (.mov (t 1)), q 100 (.mov (t 2)), q 101 (.mov (t 13)), q 102 (.mov (t 4)), q 103 (.call 1 (.func 98) [(t 98), (t 99), (t 100), (t 101), (t 102)]), q 15 (.asg 0 (t 103) 3)] false) (.seq (.region 19 [q 104 (.mov (t 15)), q 1 (.asg 0 (t 104) 3)] false) (.exit 1))) .skip)) (.seq (.region 20 [q 106 (.mov (t 0)), q 107 (.mov (t 1)), q 108 (.mov (t 2)), q 109 (.mov (t 13)), q 110 (.mov (t 4)), q 111 (.call 1 (.func 99) [(t 106), (t 107), (t 108), (t 109), (t 110)]), q 105 (.mov (t 111)), q 112 (.extract (t 105) 0), q 113 (.extract (t 105) 1), q 16 (.asg 0 (t 112) 3), q 17 (.asg 0 (t 113) 4)] false) (.seq (.region 21 [q 114 (.mov (t 17)), q 11 (.asg 0 (t 114) 4)] false) (.seq (.region 22 [q 115 (.mov (t 16)), q 116 (.mov (t 1)), q 117 (.bin .sub 3 (t 115) (t 116)), q 118 (.mov (t 2)), q 119 (.mov (t 16)), q 120 (.bin .sub 3 (t 118) (t 119)), q 18 (.asg 0 (t 117) 3), q 19 (.asg 0 (t 120) 3)] false) (.seq (.region 23 [q 121 (.mov (t 12)), q 122 (.bin .quo 3 (t 121) (.const (.int .i64 8))), q 20 (.asg 0 (t 122) 3)] false) (.seq (.region 24 [q 123 (.mov (t 18)), q 124 (.mov (t 19)), q 125 (.bin .lss 3 (t 123) (t 124))] false) (.cond (t 125) (.seq (.region 25 [q 126 (.mov (t 18)), q 127 (.mov (t 20)), q 128 (.bin .geq 3 (t 126) (t 127)), q 10 (.asg 0 (t 128) 4)] false) (.seq (.region 26 [q 129 (.mov (t 0)), q 130 (.mov (t 1)), q 131 (.mov (t 16)), q 132 (.mov (t 3)), q 133 (.mov (t 4)), q 134 (.call 1 (.func 86) [(t 129), (t 130), (t 131), (t 132), (t 133)])] false) (.region 27 [q 135 (.mov (t 16)), q 136 (.bin .add 3 (t 135) (.const (.int .i64 1))), q 1 (.asg 0 (t 136) 3)] false))) (.seq (.region 28 [q 137 (.mov (t 19)), q 138 (.mov (t 20)), q 139 (.bin .geq 3 (t 137) (t 138)), q 10 (.asg 0 (t 139) 4)] false) (.seq (.region 29 [q 140 (.mov (t 0)), q 141 (.mov (t 16)), q 142 (.bin .add 3 (t 141) (.const (.int .i64 1))), q 143 (.mov (t 2)), q 144 (.mov (t 3)), q 145 (.mov (t 4)), q 146 (.call 1 (.func 86) [(t 140), (t 142), (t 143), (t 144), (t 145)])] false) (.region 30 [q 147 (.mov (t 16)), q 2 (.asg 0 (t 147) 3)] false))))))))))))))))))))))
def slices_pdqsortCmpFunc_impl_factor_of_mut_impl_prime_factors_c1_L : Live := [(0, [0, 1, 2, 3, 4]), (1, [0, 1, 2, 3, 4, 10]), (2, [0, 1, 2, 3, 4, 10, 11]), (3, [0, 1, 2, 3, 4, 10, 11, 12]), (4, [0, 1, 2, 4]), (5, [0, 1, 2, 3, 4, 10, 11, 12]), (6, [0, 1, 2, 4]), (7, [0, 1, 2, 3, 4, 10, 11, 12]), (8, [0, 1, 2, 3, 4, 10, 11, 12]), (9, [0, 1, 2, 3, 4, 10, 11, 12]), (10, [0, 1, 2, 3, 4, 10, 11, 12]), (11, [0, 1, 2, 3, 4, 10, 11, 12, 13, 14]), (12, [0, 1, 2, 3, 4, 10, 11, 12, 13]), (13, [0, 1, 2, 3, 4, 10, 11, 12, 13]), (14, [0, 1, 2, 3, 4, 10, 11, 12, 13]), (15, [0, 1, 2, 3, 4, 10, 11, 12, 13, 14]), (16, [0, 1, 2, 3, 4, 10, 11, 12, 13]), (17, [0, 1, 2, 3, 4, 10, 11, 12, 13]), (18, [0, 1, 2, 3, 4, 10, 11, 13]), (19, [0, 2, 3, 4, 10, 11, 15]), (20, [0, 1, 2, 3, 4, 12, 13]), (21, [0, 1, 2, 3, 4, 12, 16, 17]), (22, [0, 1, 2, 3, 4, 11, 12, 16]), (23, [0, 1, 2, 3, 4, 11, 12, 16, 18, 19]), (24, [0, 1, 2, 3, 4, 11, 16, 18, 19, 20]), (25, [0, 1, 2, 3, 4, 11, 16, 18, 20]), (26, [0, 1, 2, 3, 4, 10, 11, 16]), (27, [0, 2, 3, 4, 10, 11, 16]), (28, [0, 1, 2, 3, 4, 11, 16, 19, 20]), (29, [0, 1, 2, 3, 4, 10, 11, 16]), (30, [0, 1, 3, 4, 10, 11, 16]), (100025, [0, 1, 2, 3, 4, 10, 11, 12, 25]), (100032, [0, 1, 2, 3, 4, 10, 11, 12, 32]), (100039, [0, 1, 2, 3, 4, 10, 11, 12, 39]), (100056, [0, 1, 2, 3, 4, 10, 11, 12, 13, 14, 56]), (100075, [0, 1, 2, 3, 4, 10, 11, 12, 13, 75]), (100080, [0, 1, 2, 3, 4, 10, 11, 12, 13, 80]), (100097, [0, 1, 2, 3, 4, 10, 11, 12, 13, 97]), (100125, [0, 1, 2, 3, 4, 11, 16, 18, 19, 20, 125])]
noncomputable def slices_pdqsortCmpFunc_impl_factor_of_mut_impl_prime_factors_c1_l1 (a2 : Int) (a1 : Int) (a0 : (List ((List Int) × Int))) (_u : Unit) : Option (Unit ⊕ (List ((List Int) × Int))) :=
  (if (decide ((IntKind.i64.wrap (a2 - a1)) ≤ 12)) then (Option.bind (slices_insertionSortCmpFunc_impl_factor_of_mut_impl_prime_factors_c1 a0 a1 a2) fun r9 => (ifp (r9.length = a0.length) ((some (.inr r9))))) else none)
noncomputable def slices_pdqsortCmpFunc_impl_factor_of_mut_impl_prime_factors_c1 (a0 : (List ((List Int) × Int))) (a1 : Int) (a2 : Int) (a3 : Int) : Option (List ((List Int) × Int)) :=
  (loopM (fun s : Unit => slices_pdqsortCmpFunc_impl_factor_of_mut_impl_prime_factors_c1_l1 a2 a1 a0 ()) ())
theorem slices_pdqsortCmpFunc_impl_factor_of_mut_impl_prime_factors_c1_ok (a0 : (List ((List Int) × Int))) (a1 : Int) (a2 : Int) (a3 : Int) (r : (List ((List Int) × Int))) (h : slices_pdqsortCmpFunc_impl_factor_of_mut_impl_prime_factors_c1 a0 a1 a2 a3 = some r) : Den Tryz.prog 86 [(.mutsl 2 (a0.map eT_Si64_i64_Z)), (i6 a1), (i6 a2), (i6 a3), (.clo 72 [] [])] { r := (.tuple []), ms := [(.row 2 (r.map eT_Si64_i64_Z))], fs := [] } := by
  refine den_ofX (rs := []) (ac := slices_pdqsortCmpFunc_impl_factor_of_mut_impl_prime_factors_c1_c) (L := slices_pdqsortCmpFunc_impl_factor_of_mut_impl_prime_factors_c1_L) (n := 148) (m := [(30, 1), (37, 1), (44, 1), (61, 1), (80, 1), (103, 1), (111, 1), (134, 1), (146, 1)]) (c := Tryz.f86.body.getD .skip) good Tryz.func86 (by kernel_rfl) (by kernel_rfl) Tryz.ntmps86 rfl rfl (by kernel_rfl) rfl ?_
  refine a_st (σ' := ⟨[(0, (.osl 1000000)), (1, (i6 a1)), (2, (i6 a2)), (3, (i6 a3)), (4, (.clo 72 [] []))], [(1000000, (bk (.row 2 (a0.map eT_Si64_i64_Z))))]⟩) (by kernel_rfl) ?_
  unfold slices_pdqsortCmpFunc_impl_factor_of_mut_impl_prime_factors_c1_c
  refine sr (vp (.bool true) rfl (nx ⟨[(0, (.osl 1000000)), (1, (i6 a1)), (2, (i6 a2)), (3, (i6 a3)), (4, (.clo 72 [] [])), (10, (.bool true))], [(1000000, (bk (.row 2 (a0.map eT_Si64_i64_Z))))]⟩ (by kernel_rfl) (sr (vp (.bool true) rfl (nx ⟨[(0, (.osl 1000000)), (1, (i6 a1)), (2, (i6 a2)), (3, (i6 a3)), (4, (.clo 72 [] [])), (10, (.bool true)), (11, (.bool true))], [(1000000, (bk (.row 2 (a0.map eT_Si64_i64_Z))))]⟩ (by kernel_rfl) (a_block ?_))))))
  refine a_loop (emb := fun (s : Unit) => ⟨[(0, (.osl 1000000)), (1, (i6 a1)), (2, (i6 a2)), (3, (i6 a3)), (4, (.clo 72 [] [])), (10, (.bool true)), (11, (.bool true))], [(1000000, (bk (.row 2 (a0.map eT_Si64_i64_Z))))]⟩) (body := (fun s : Unit => slices_pdqsortCmpFunc_impl_factor_of_mut_impl_prime_factors_c1_l1 a2 a1 a0 ())) (G := fun q => some q = some r) h rfl ?_ (by kernel_rfl)
  rintro X5 _ x6 h hX7
  have h : slices_pdqsortCmpFunc_impl_factor_of_mut_impl_prime_factors_c1_l1 a2 a1 a0 () = some x6 := h
  refine a_st (σ' := ⟨[(0, (.osl 1000000)), (1, (i6 a1)), (2, (i6 a2)), (3, (i6 a3)), (4, (.clo 72 [] [])), (10, (.bool true)), (11, (.bool true))], [(1000000, (bk (.row 2 (a0.map eT_Si64_i64_Z))))]⟩) (by kernel_rfl) (a_block (sr (vp (i6 a2) rfl (vp (i6 a1) rfl (vp (i6 (IntKind.i64.wrap (a2 - a1))) rfl (vp (i6 (IntKind.i64.wrap (a2 - a1))) rfl (nx ⟨[(0, (.osl 1000000)), (1, (i6 a1)), (2, (i6 a2)), (3, (i6 a3)), (4, (.clo 72 [] [])), (10, (.bool true)), (11, (.bool true)), (12, (i6 (IntKind.i64.wrap (a2 - a1))))], [(1000000, (bk (.row 2 (a0.map eT_Si64_i64_Z))))]⟩ (by kernel_rfl) (a_seq (sr ?_)))))))))
  refine vp (i6 (IntKind.i64.wrap (a2 - a1))) rfl (vp (.bool ((decide ((IntKind.i64.wrap (a2 - a1)) ≤ 12)))) rfl (nx ⟨[(0, (.osl 1000000)), (1, (i6 a1)), (2, (i6 a2)), (3, (i6 a3)), (4, (.clo 72 [] [])), (10, (.bool true)), (11, (.bool true)), (12, (i6 (IntKind.i64.wrap (a2 - a1)))), (25, (.bool ((decide ((IntKind.i64.wrap (a2 - a1)) ≤ 12)))))], [(1000000, (bk (.row 2 (a0.map eT_Si64_i64_Z))))]⟩ (by kernel_rfl) ?_))
  cases hb8 : (decide ((IntKind.i64.wrap (a2 - a1)) ≤ 12))
  · have h := ite_f hb8 h
    cases h
  · have h := ite_t hb8 h
    refine a_cond_t rfl (sr (vp (.osl 1000000) rfl (vp (i6 a1) rfl (vp (i6 a2) rfl (vp (.clo 72 [] []) rfl ?_)))))
    obtain ⟨r9, hr10, h⟩ := bind_some h
    obtain ⟨hl11, h⟩ := ifp_some h
    refine a_callM (args := [(.mutsl 2 (a0.map eT_Si64_i64_Z)), (i6 a1), (i6 a2), (.clo 72 [] [])]) (i := 0) (id := 1000000) (r := (.tuple [])) (c := (.row 2 (r9.map eT_Si64_i64_Z))) rfl rfl (slices_insertionSortCmpFunc_impl_factor_of_mut_impl_prime_factors_c1_ok a0 a1 a2 r9 hr10) rfl (shape_map hl11) (nx _ rfl (a_ret (t_ret (b_ret ?_))))
    cases h
    have h := hX7
    refine t_ret (b_ret ?_)
    refine ⟨.inr rfl, ?_⟩
    rw [Tryz.results86]
    cases h
    exact ⟨[], ⟨rfl, rfl, rfl⟩, rfl, ⟨_, _, rfl, rfl, rfl⟩⟩
def slices_SortFunc_impl_factor_impl_factor_of_mut_impl_prime_factors_c1_c : ACode := (.seq (.region 0 [q 5 (.mov (t 0)), q 6 (.blt 0 .len [(t 5)] [72]), q 4 (.asg 0 (t 6) 3)] false) (.region 1 [q 7 (.mov (t 0)), q 8 (.mov (t 4)), q 9 (.mov (t 4)), q 10 (.conv 3 97 (t 9)), q 11 (.call 0 (.func 87) [(t 10)]), q 12 (.mov (t 1)), q 13 (.call 1 (.func 86) [(t 7), (.const (.int .i64 0)), (t 8), (t 11), (t 12)])] false))
def slices_SortFunc_impl_factor_impl_factor_of_mut_impl_prime_factors_c1_L : Live := [(0, [0, 1]), (1, [0, 1, 4])]
noncomputable def slices_SortFunc_impl_factor_impl_factor_of_mut_impl_prime_factors_c1 (a0 : (List ((List Int) × Int))) : Option (List ((List Int) × Int)) :=
  (Option.bind (math_bits_Len (IntKind.u64.wrap (a0.length : Int))) fun r1 => (Option.bind (slices_pdqsortCmpFunc_impl_factor_of_mut_impl_prime_factors_c1 a0 0 (a0.length : Int) r1) fun r3 => (ifp (r3.length = a0.length) (some r3))))
theorem slices_SortFunc_impl_factor_impl_factor_of_mut_impl_prime_factors_c1_ok (a0 : (List ((List Int) × Int))) (r : (List ((List Int) × Int))) (h : slices_SortFunc_impl_factor_impl_factor_of_mut_impl_prime_factors_c1 a0 = some r) : Den Tryz.prog 71 [(.mutsl 2 (a0.map eT_Si64_i64_Z)), (.clo 72 [] [])] { r := (.tuple []), ms := [(.row 2 (r.map eT_Si64_i64_Z))], fs := [] } := by
  refine den_ofX (rs := []) (ac := slices_SortFunc_impl_factor_impl_factor_of_mut_impl_prime_factors_c1_c) (L := slices_SortFunc_impl_factor_impl_factor_of_mut_impl_prime_factors_c1_L) (n := 14) (m := [(13, 1)]) (c := Tryz.f71.body.getD .skip) good Tryz.func71 (by kernel_rfl) (by kernel_rfl) Tryz.ntmps71 rfl rfl (by kernel_rfl) rfl ?_
  refine a_st (σ' := ⟨[(0, (.osl 1000000)), (1, (.clo 72 [] []))], [(1000000, (bk (.row 2 (a0.map eT_Si64_i64_Z))))]⟩) (by kernel_rfl) ?_
  unfold slices_SortFunc_impl_factor_impl_factor_of_mut_impl_prime_factors_c1_c
  refine sr (vp (.osl 1000000) rfl (vq (i6 (a0.length : Int)) (leno_run rfl rfl rfl) trivial (vp (i6 (a0.length : Int)) rfl (nx ⟨[(0, (.osl 1000000)), (1, (.clo 72 [] [])), (4, (i6 (a0.length : Int)))], [(1000000, (bk (.row 2 (a0.map eT_Si64_i64_Z))))]⟩ (by kernel_rfl) (a_region (vp (.osl 1000000) rfl (vp (i6 (a0.length : Int)) rfl (vp (i6 (a0.length : Int)) rfl (vp (.int .u64 (IntKind.u64.wrap (a0.length : Int))) rfl ?_)))))))))
  obtain ⟨r1, hr2, h⟩ := bind_some h
  refine a_call (args := [(.int .u64 (IntKind.u64.wrap (a0.length : Int)))]) (u := []) (r := (i6 r1)) rfl rfl (math_bits_Len_ok (IntKind.u64.wrap (a0.length : Int)) r1 hr2) rfl (vp (.clo 72 [] []) rfl ?_)
  obtain ⟨r3, hr4, h⟩ := bind_some h
  obtain ⟨hl5, h⟩ := ifp_some h
  refine a_callM (args := [(.mutsl 2 (a0.map eT_Si64_i64_Z)), (i6 0), (i6 (a0.length : Int)), (i6 r1), (.clo 72 [] [])]) (i := 0) (id := 1000000) (r := (.tuple [])) (c := (.row 2 (r3.map eT_Si64_i64_Z))) rfl rfl (slices_pdqsortCmpFunc_impl_factor_of_mut_impl_prime_factors_c1_ok a0 0 (a0.length : Int) r1 r3 hr4) rfl (shape_map hl5) (a_nil ?_)
  refine ⟨.inl rfl, ?_⟩
  rw [Tryz.results71]
  cases h
  exact ⟨[], ⟨rfl, rfl, rfl⟩, rfl, ⟨_, _, rfl, rfl, rfl⟩⟩
def impl_prime_factors_c : ACode := (.seq (.region 0 [q 4 (.asg 1 (.const (.slice none 0 0)) 72)] false) (.seq (.region 1 [q 5 (.asg 2 (.const (.slice none 0 0)) 72)] false) (.seq (.seq (.region 2 [q 6 (.asg 0 (.const (.int .i64 1)) 2)] false) (.block 0 (.loop (.seq (.seq (.region 3 [q 12 (.mov (t 1)), q 13 (.call 0 (.func 37) [(t 12)]), q 14 (.bin .gtr 2 (t 13) (.const (.int .i64 0)))] false) (.cond (t 14) .skip (.exit 0))) (.seq (.block 1 (.seq (.seq (.region 5 [q 17 (.mov (t 6)), q 18 (.bin .mul 2 (.const (.int .i64 2)) (t 17)), q 19 (.mov (t 1)), q 20 (.call 0 (.func 37) [(t 19)]), q 21 (.bin .gtr 2 (t 18) (t 20))] false) (.cond (t 21) (.seq (.region 6 [q 22 (.mov (t 5)), q 23 (.mov (t 0)), q 24 (.mov (t 1)), q 25 (.mov (t 0)), q 26 (.mov (t 1)), q 27 (.call 0 (.func 53) [(t 26)]), q 28 (.call 0 (.func 65) [(t 25), (t 27)]), q 29 (.call 0 (.func 64) [(t 23), (t 24), (t 28)]), q 30 (.build 75 [(0, (t 29)), (1, (.const (.int .i64 1)))]), q 31 (.bslice 0 72 1 [(0, (t 30))]), q 32 (.blt 0 .append [(t 22), (t 31)] [72, 72]), q 5 (.asg 2 (t 32) 72)] false) (.exit 0)) .skip)) (.seq (.region 7 [q 33 (.call 0 (.func 66) []), q 7 (.asg 1 (t 33) 40)] false) (.seq (.seq (.region 8 [q 34 (.mov (t 6)), q 35 (.mov (.const (.int .i64 0)))] false) (.block 2 (.loop (.seq (.region 9 [q 36 (.bin .lss 2 (t 35) (t 34))] false) (.seq (.cond (t 36) .skip (.exit 2)) (.seq (.block 3 (.region 10 [q 37 (.mov (t 0)), q 38 (.mov (t 7)), q 39 (.mov (t 0)), q 40 (.mov (t 1)), q 41 (.call 0 (.func 67) [(t 37), (t 38), (t 39), (t 40)]), q 7 (.asg 1 (t 41) 40)] false)) (.region 11 [q 42 (.bin .add 2 (t 35) (.const (.int .i64 1))), q 35 (.mov (t 42))] false))))))) (.seq (.region 12 [q 43 (.mov (t 0)), q 44 (.mov (t 0)), q 45 (.mov (t 7)), q 46 (.call 0 (.func 66) []), q 47 (.call 0 (.func 26) [(t 44), (t 45), (t 46), (.const (.int .i64 (-1)))]), q 48 (.mov (t 1)), q 49 (.call 0 (.func 68) [(t 43), (t 47), (t 48)]), q 8 (.asg 1 (t 49) 40)] false) (.block 4 (.loop (.seq (.seq (.region 13 [q 50 (.mov (t 8)), q 51 (.call 0 (.func 37) [(t 50)]), q 52 (.bin .gtr 2 (t 51) (.const (.int .i64 0)))] false) (.cond (t 52) .skip (.exit 4))) (.block 5 (.seq (.region 14 [q 53 (.mov (t 0)), q 54 (.mov (t 8)), q 55 (.mov (t 6)), q 56 (.call 0 (.func 69) [(t 53), (t 54), (t 55)]), q 9 (.asg 1 (t 56) 40)] false) (.seq (.region 15 [q 58 (.mov (t 0)), q 59 (.mov (t 1)), q 60 (.mov (t 9)), q 61 (.call 0 (.func 70) [(t 58), (t 59), (t 60)]), q 57 (.mov (t 61)), q 62 (.extract (t 57) 0), q 63 (.extract (t 57) 1), q 10 (.asg 1 (t 62) 40), q 11 (.asg 0 (t 63) 2)] false) (.seq (.region 16 [q 64 (.mov (t 10)), q 1 (.asg 1 (t 64) 40)] false) (.seq (.region 17 [q 66 (.mov (t 0)), q 67 (.mov (t 8)), q 68 (.mov (t 9)), q 69 (.call 0 (.func 70) [(t 66), (t 67), (t 68)]), q 65 (.mov (t 69)), q 70 (.extract (t 65) 0), q 71 (.extract (t 65) 1), q 8 (.asg 1 (t 70) 40)] false) (.region 18 [q 72 (.mov (t 5)), q 73 (.mov (t 9)), q 74 (.mov (t 11)), q 75 (.build 75 [(0, (t 73)), (1, (t 74))]), q 76 (.bslice 0 72 1 [(0, (t 75))]), q 77 (.blt 0 .append [(t 72), (t 76)] [72, 72]), q 5 (.asg 2 (t 77) 72)] false)))))))))))))) (.region 4 [q 15 (.mov (t 6)), q 16 (.bin .add 2 (t 15) (.const (.int .i64 1))), q 6 (.asg 0 (t 16) 2)] false)))))) (.seq (.region 19 [q 78 (.mov (t 5)), q 79 (.call 1 (.func 71) [(t 78), (.func 72)])] false) (.seq (.region 20 [q 80 (.mov (t 5)), q 4 (.asg 1 (t 80) 72)] false) .ret)))))
def impl_prime_factors_L : Live := [(0, [0, 1]), (1, [0, 1]), (2, [0, 1, 5]), (3, [0, 1, 5, 6]), (4, [0, 1, 5, 6]), (5, [0, 1, 5, 6]), (6, [0, 1, 5]), (7, [0, 1, 5, 6]), (8, [0, 1, 5, 6, 7]), (9, [0, 1, 5, 6, 7, 34, 35]), (10, [0, 1, 5, 6, 7, 34, 35]), (11, [0, 1, 5, 6, 7, 34, 35]), (12, [0, 1, 5, 6, 7]), (13, [0, 1, 5, 6, 8]), (14, [0, 1, 5, 6, 8]), (15, [0, 1, 5, 6, 8, 9]), (16, [0, 5, 6, 8, 9, 10, 11]), (17, [0, 1, 5, 6, 8, 9, 11]), (18, [0, 1, 5, 6, 8, 9, 11]), (19, [5]), (20, [5]), (100014, [0, 1, 5, 6, 14]), (100021, [0, 1, 5, 6, 21]), (100036, [0, 1, 5, 6, 7, 34, 35, 36]), (100052, [0, 1, 5, 6, 8, 52])]
noncomputable def impl_prime_factors_l2 (x761 : Int) (a0 : Int) (x760 : (List Int)) (x1077 : (List Int)) (x1078 : Int) : Option (((List Int) × Int) ⊕ (List Int)) :=
  (if (decide (x1078 < x761)) then (Option.bind (impl_prime_power a0 x1077 a0 x760) fun r1086 => (some (.inl ((r1086, IntKind.i64.wrap (x1078 + 1)))))) else (some (.inr x1077)))
noncomputable def impl_prime_factors_l3 (a0 : Int) (x761 : Int) (x1105 : (List Int)) (x1106 : (List Int)) (x1107 : (List ((List Int) × Int))) : Option (((List Int) × (List Int) × (List ((List Int) × Int))) ⊕ (((List Int) × (List ((List Int) × Int))) ⊕ (((List Int) × Int × (List ((List Int) × Int))) ⊕ (List ((List Int) × Int))))) :=
  (Option.bind (impl_row_degree x1106) fun r1121 => (if (decide (r1121 > 0)) then (Option.bind (impl_prime_withDegree a0 x1106 x761) fun r1124 => (Option.bind (impl_prime_strip a0 x1105 r1124) fun r1126 => (Option.bind (impl_prime_strip a0 x1106 r1124) fun r1128 => (ifp ((x1107.length + ([(r1124, r1126.2)] : List ((List Int) × Int)).length) * 32 ≤ 140737488355328) ((some (.inl ((r1126.1, r1128.1, (x1107 ++ ([(r1124, r1126.2)]))))))))))) else (some (.inr (((.inl (x1105, x1107))))))))
noncomputable def impl_prime_factors_l1 (a0 : Int) (x760 : (List Int)) (x761 : Int) (x762 : (List ((List Int) × Int))) : Option (((List Int) × Int × (List ((List Int) × Int))) ⊕ (List ((List Int) × Int))) :=
  (Option.bind (impl_row_degree x760) fun r953 => (if (decide (r953 > 0)) then (Option.bind (α := (((List Int) × (List ((List Int) × Int))) ⊕ (((List Int) × Int × (List ((List Int) × Int))) ⊕ (List ((List Int) × Int))))) ((Option.bind (impl_row_degree x760) fun r1050 => (if (decide ((IntKind.i64.wrap (2 * x761)) > r1050)) then (Option.bind (impl_row_lead x760) fun r1132 => (Option.bind (impl_prime_inverse a0 r1132) fun r1134 => (Option.bind (impl_prime_scale a0 x760 r1134) fun r1136 => (ifp ((x762.length + ([(r1136, 1)] : List ((List Int) × Int)).length) * 32 ≤ 140737488355328) ((some (.inr ((.inr (((x762 ++ ([(r1136, 1)]))))))))))))) else (Option.bind (impl_letter) fun r1053 => (Option.bind (α := (List Int)) ((loopM (fun s : ((List Int) × Int) => impl_prime_factors_l2 x761 a0 x760 s.1 s.2) (r1053, 0))) fun x1070 => (Option.bind (impl_letter) fun r1089 => (Option.bind (impl_prime_combine a0 x1070 r1089 (-1)) fun r1091 => (Option.bind (impl_prime_gcd a0 r1091 x760) fun r1093 => (loopM (fun s : ((List Int) × (List Int) × (List ((List Int) × Int))) => impl_prime_factors_l3 a0 x761 s.1 s.2.1 s.2.2) (x760, r1093, x762)))))))))) fun z => match z with | .inl ⟨x1045, x1046⟩ => (some (.inl ((x1045, IntKind.i64.wrap (x761 + 1), x1046)))) | .inr r1139 => (some r1139)) else (some (.inr x762))))
noncomputable def impl_prime_factors (a0 : Int) (a1 : (List Int)) : Option (List ((List Int) × Int)) :=
  (Option.bind (α := (List ((List Int) × Int))) ((loopM (fun s : ((List Int) × Int × (List ((List Int) × Int))) => impl_prime_factors_l1 a0 s.1 s.2.1 s.2.2) (a1, 1, []))) fun x569 => (Option.bind (slices_SortFunc_impl_factor_impl_factor_of_mut_impl_prime_factors_c1 x569) fun r1141 => (ifp (r1141.length = x569.length) (some r1141))))
theorem impl_prime_factors_ok (a0 : Int) (a1 : (List Int)) (r : (List ((List Int) × Int))) (h : impl_prime_factors a0 a1 = some r) : Den Tryz.prog 54 [(i6 a0), (eSi64 a1)] { r := (eST_Si64_i64_Z r) } := by
  refine den_of (rs := [(eST_Si64_i64_Z r)]) (ac := impl_prime_factors_c) (L := impl_prime_factors_L) (n := 81) (m := [(1, 1), (4, 1), (5, 2), (7, 1), (8, 1), (9, 1), (10, 1), (79, 1)]) (c := Tryz.f54.body.getD .skip) good Tryz.func54 (by kernel_rfl) (by kernel_rfl) Tryz.ntmps54 rfl rfl (by kernel_rfl) rfl rfl ?_
  refine a_st (σ' := ⟨[(0, (i6 a0)), (1, (eSi64 a1))], []⟩) (by kernel_rfl) ?_
  unfold impl_prime_factors_c
  refine sr (vp (eST_Si64_i64_Z ([])) rfl (nx ⟨[(0, (i6 a0)), (1, (eSi64 a1))], []⟩ (by kernel_rfl) (sr (vu (.osl 1500) [(1500, (bk (.row 2 (([]).map eT_Si64_i64_Z))))] rfl trivial rfl (nx ⟨[(0, (i6 a0)), (1, (eSi64 a1)), (5, (.osl 5))], [(5, (bk (.row 2 (([]).map eT_Si64_i64_Z))))]⟩ (by kernel_rfl) ?_)))))
  obtain ⟨y570, hy571, hk572⟩ := bind_some h
  clear h
  refine a_join (emb := fun (s : (List ((List Int) × Int))) => ⟨[(5, (.osl 5))], [(5, (bk (.row 2 (s.map eT_Si64_i64_Z))))]⟩) (pre := fun s => s = y570) ?_ ?_
  · rintro x569 rfl
    have h := hk572
    refine a_st (σ' := ⟨[(5, (.osl 5))], [(5, (bk (.row 2 (x569.map eT_Si64_i64_Z))))]⟩) (by kernel_rfl) (sr (vp (.osl 5) rfl ?_))
    obtain ⟨r1141, hr1142, h⟩ := bind_some h
    obtain ⟨hl1143, h⟩ := ifp_some h
    refine a_callM (args := [(.mutsl 2 (x569.map eT_Si64_i64_Z)), (.clo 72 [] [])]) (i := 0) (id := 5) (r := (.tuple [])) (c := (.row 2 (r1141.map eT_Si64_i64_Z))) rfl rfl (slices_SortFunc_impl_factor_impl_factor_of_mut_impl_prime_factors_c1_ok x569 r1141 hr1142) rfl (shape_map hl1143) (nx ⟨[(5, (.osl 5))], [(5, (bk (.row 2 (r1141.map eT_Si64_i64_Z))))]⟩ (by kernel_rfl) (sr (vp (.osl 5) rfl (vu (eST_Si64_i64_Z r1141) [(5, (bf (.row 2 (r1141.map eT_Si64_i64_Z))))] rfl trivial rfl (nx _ rfl (a_ret ?_))))))
    refine ⟨.inr rfl, ?_⟩
    rw [Tryz.results54]
    cases h
    exact ⟨_, _, _, _, _, rfl, trivial, .inl ⟨rfl, .inl rfl⟩, rfl, rfl⟩
  · have h := hy571
    refine sr (vp (i6 1) rfl (nx ⟨[(0, (i6 a0)), (1, (eSi64 a1)), (5, (.osl 5)), (6, (i6 1))], [(5, (bk (.row 2 (([]).map eT_Si64_i64_Z))))]⟩ (by kernel_rfl) (a_block ?_)))
    refine a_loop (emb := fun (s : ((List Int) × Int × (List ((List Int) × Int)))) => ⟨[(0, (i6 a0)), (1, (eSi64 s.1)), (5, (.osl 5)), (6, (i6 s.2.1))], [(5, (bk (.row 2 (s.2.2.map eT_Si64_i64_Z))))]⟩) (body := (fun s : ((List Int) × Int × (List ((List Int) × Int))) => impl_prime_factors_l1 a0 s.1 s.2.1 s.2.2)) (G := fun q => some q = some y570) h rfl ?_ (by kernel_rfl)
    rintro X950 ⟨x760, x761, x762⟩ x951 h hX952
    have h : impl_prime_factors_l1 a0 x760 x761 x762 = some x951 := h
    refine a_st (σ' := ⟨[(0, (i6 a0)), (1, (eSi64 x760)), (5, (.osl 5)), (6, (i6 x761))], [(5, (bk (.row 2 (x762.map eT_Si64_i64_Z))))]⟩) (by kernel_rfl) (a_seq (sr (vp (eSi64 x760) rfl ?_)))
    obtain ⟨r953, hr954, h⟩ := bind_some h
    refine a_call (args := [(eSi64 x760)]) (u := []) (r := (i6 r953)) rfl rfl (impl_row_degree_ok x760 r953 hr954) rfl (vp (.bool ((decide (r953 > 0)))) rfl (nx ⟨[(0, (i6 a0)), (1, (eSi64 x760)), (5, (.osl 5)), (6, (i6 x761)), (14, (.bool ((decide (r953 > 0)))))], [(5, (bk (.row 2 (x762.map eT_Si64_i64_Z))))]⟩ (by kernel_rfl) ?_))
    cases hb955 : (decide (r953 > 0))
    · have h := ite_f hb955 h
      refine a_cond_f rfl (a_exit (t_exit ?_))
      cases h
      have h := hX952
      refine t_exit (b_exit ?_)
      exact j_leaf x762 (Option.some.inj h) (by kernel_rfl)
    · have h := ite_t hb955 h
      refine a_cond_t rfl (a_skip (a_next (σ' := ⟨[(0, (i6 a0)), (1, (eSi64 x760)), (5, (.osl 5)), (6, (i6 x761))], [(5, (bk (.row 2 (x762.map eT_Si64_i64_Z))))]⟩) (by kernel_rfl) ?_))
      obtain ⟨y1047, hy1048, hk1049⟩ := bind_some h
      clear h
      refine a_join (emb := fun (s : ((List Int) × (List ((List Int) × Int)))) => ⟨[(0, (i6 a0)), (1, (eSi64 s.1)), (5, (.osl 5)), (6, (i6 x761))], [(5, (bk (.row 2 (s.2.map eT_Si64_i64_Z))))]⟩) (pre := fun s => (.inl s) = y1047) ?_ ?_
      · rintro ⟨x1045, x1046⟩ rfl
        have h := hk1049
        refine a_st (σ' := ⟨[(0, (i6 a0)), (1, (eSi64 x1045)), (5, (.osl 5)), (6, (i6 x761))], [(5, (bk (.row 2 (x1046.map eT_Si64_i64_Z))))]⟩) (by kernel_rfl) (a_region (vp (i6 x761) rfl (vp (i6 (IntKind.i64.wrap (x761 + 1))) rfl (vp (i6 (IntKind.i64.wrap (x761 + 1))) rfl (a_nil ?_)))))
        cases h
        exact a_again (by kernel_rfl) hX952
      · have h := hy1048
        refine a_block (a_seq (sr (vp (i6 x761) rfl (vp (i6 (IntKind.i64.wrap (2 * x761))) rfl (vp (eSi64 x760) rfl ?_)))))
        obtain ⟨r1050, hr1051, h⟩ := bind_some h
        refine a_call (args := [(eSi64 x760)]) (u := []) (r := (i6 r1050)) rfl rfl (impl_row_degree_ok x760 r1050 hr1051) rfl (vp (.bool ((decide ((IntKind.i64.wrap (2 * x761)) > r1050)))) rfl (nx ⟨[(0, (i6 a0)), (1, (eSi64 x760)), (5, (.osl 5)), (6, (i6 x761)), (21, (.bool ((decide ((IntKind.i64.wrap (2 * x761)) > r1050)))))], [(5, (bk (.row 2 (x762.map eT_Si64_i64_Z))))]⟩ (by kernel_rfl) ?_))
        cases hb1052 : (decide ((IntKind.i64.wrap (2 * x761)) > r1050))
        · have h := ite_f hb1052 h
          refine a_cond_f rfl (a_skip (a_next (σ' := ⟨[(0, (i6 a0)), (1, (eSi64 x760)), (5, (.osl 5)), (6, (i6 x761))], [(5, (bk (.row 2 (x762.map eT_Si64_i64_Z))))]⟩) (by kernel_rfl) (sr ?_)))
          obtain ⟨r1053, hr1054, h⟩ := bind_some h
          refine a_call (args := []) (u := []) (r := (eSi64 r1053)) rfl rfl (impl_letter_ok r1053 hr1054) rfl (vp (eSi64 r1053) rfl (nx ⟨[(0, (i6 a0)), (1, (eSi64 x760)), (5, (.osl 5)), (6, (i6 x761)), (7, (eSi64 r1053))], [(5, (bk (.row 2 (x762.map eT_Si64_i64_Z))))]⟩ (by kernel_rfl) ?_))
          obtain ⟨y1071, hy1072, hk1073⟩ := bind_some h
          clear h
          refine a_join (emb := fun (s : (List Int)) => ⟨[(0, (i6 a0)), (1, (eSi64 x760)), (5, (.osl 5)), (6, (i6 x761)), (7, (eSi64 s))], [(5, (bk (.row 2 (x762.map eT_Si64_i64_Z))))]⟩) (pre := fun s => s = y1071) ?_ ?_
          · rintro x1070 rfl
            have h := hk1073
            refine a_st (σ' := ⟨[(0, (i6 a0)), (1, (eSi64 x760)), (5, (.osl 5)), (6, (i6 x761)), (7, (eSi64 x1070))], [(5, (bk (.row 2 (x762.map eT_Si64_i64_Z))))]⟩) (by kernel_rfl) (sr (vp (i6 a0) rfl (vp (i6 a0) rfl (vp (eSi64 x1070) rfl ?_))))
            obtain ⟨r1089, hr1090, h⟩ := bind_some h
            refine a_call (args := []) (u := []) (r := (eSi64 r1089)) rfl rfl (impl_letter_ok r1089 hr1090) rfl ?_
            obtain ⟨r1091, hr1092, h⟩ := bind_some h
            refine a_call (args := [(i6 a0), (eSi64 x1070), (eSi64 r1089), (i6 (-1))]) (u := []) (r := (eSi64 r1091)) rfl rfl (impl_prime_combine_ok a0 x1070 r1089 (-1) r1091 hr1092) rfl (vp (eSi64 x760) rfl ?_)
            obtain ⟨r1093, hr1094, h⟩ := bind_some h
            refine a_call (args := [(i6 a0), (eSi64 r1091), (eSi64 x760)]) (u := []) (r := (eSi64 r1093)) rfl rfl (impl_prime_gcd_ok a0 r1091 x760 r1093 hr1094) rfl (vp (eSi64 r1093) rfl (nx ⟨[(0, (i6 a0)), (1, (eSi64 x760)), (5, (.osl 5)), (6, (i6 x761)), (8, (eSi64 r1093))], [(5, (bk (.row 2 (x762.map eT_Si64_i64_Z))))]⟩ (by kernel_rfl) (a_block ?_)))
            refine a_loop (emb := fun (s : ((List Int) × (List Int) × (List ((List Int) × Int)))) => ⟨[(0, (i6 a0)), (1, (eSi64 s.1)), (5, (.osl 5)), (6, (i6 x761)), (8, (eSi64 s.2.1))], [(5, (bk (.row 2 (s.2.2.map eT_Si64_i64_Z))))]⟩) (body := (fun s : ((List Int) × (List Int) × (List ((List Int) × Int))) => impl_prime_factors_l3 a0 x761 s.1 s.2.1 s.2.2)) (G := fun q => some q = some y1047) h rfl ?_ (by kernel_rfl)
            rintro X1118 ⟨x1105, x1106, x1107⟩ x1119 h hX1120
            have h : impl_prime_factors_l3 a0 x761 x1105 x1106 x1107 = some x1119 := h
            refine a_st (σ' := ⟨[(0, (i6 a0)), (1, (eSi64 x1105)), (5, (.osl 5)), (6, (i6 x761)), (8, (eSi64 x1106))], [(5, (bk (.row 2 (x1107.map eT_Si64_i64_Z))))]⟩) (by kernel_rfl) (a_seq (sr (vp (eSi64 x1106) rfl ?_)))
            obtain ⟨r1121, hr1122, h⟩ := bind_some h
            refine a_call (args := [(eSi64 x1106)]) (u := []) (r := (i6 r1121)) rfl rfl (impl_row_degree_ok x1106 r1121 hr1122) rfl (vp (.bool ((decide (r1121 > 0)))) rfl (nx ⟨[(0, (i6 a0)), (1, (eSi64 x1105)), (5, (.osl 5)), (6, (i6 x761)), (8, (eSi64 x1106)), (52, (.bool ((decide (r1121 > 0)))))], [(5, (bk (.row 2 (x1107.map eT_Si64_i64_Z))))]⟩ (by kernel_rfl) ?_))
            cases hb1123 : (decide (r1121 > 0))
            · have h := ite_f hb1123 h
              refine a_cond_f rfl (a_exit (t_exit ?_))
              cases h
              have h := hX1120
              refine t_exit (b_exit (b_norm ?_))
              exact j_leaf (x1105, x1107) (Option.some.inj h) (by kernel_rfl)
            · have h := ite_t hb1123 h
              refine a_cond_t rfl (a_skip (a_next (σ' := ⟨[(0, (i6 a0)), (1, (eSi64 x1105)), (5, (.osl 5)), (6, (i6 x761)), (8, (eSi64 x1106))], [(5, (bk (.row 2 (x1107.map eT_Si64_i64_Z))))]⟩) (by kernel_rfl) (a_block (sr (vp (i6 a0) rfl (vp (eSi64 x1106) rfl (vp (i6 x761) rfl ?_)))))))
              obtain ⟨r1124, hr1125, h⟩ := bind_some h
              refine a_call (args := [(i6 a0), (eSi64 x1106), (i6 x761)]) (u := []) (r := (eSi64 r1124)) rfl rfl (impl_prime_withDegree_ok a0 x1106 x761 r1124 hr1125) rfl (vp (eSi64 r1124) rfl (nx ⟨[(0, (i6 a0)), (1, (eSi64 x1105)), (5, (.osl 5)), (6, (i6 x761)), (8, (eSi64 x1106)), (9, (eSi64 r1124))], [(5, (bk (.row 2 (x1107.map eT_Si64_i64_Z))))]⟩ (by kernel_rfl) (sr (vp (i6 a0) rfl (vp (eSi64 x1105) rfl (vp (eSi64 r1124) rfl ?_))))))
              obtain ⟨r1126, hr1127, h⟩ := bind_some h
              refine a_call (args := [(i6 a0), (eSi64 x1105), (eSi64 r1124)]) (u := []) (r := (.tuple [(eSi64 r1126.1), (i6 r1126.2)])) rfl rfl (impl_prime_strip_ok a0 x1105 r1124 r1126 hr1127) rfl (vp (.tuple [(eSi64 r1126.1), (i6 r1126.2)]) rfl (vb (eSi64 r1126.1) rfl rfl (vb (i6 r1126.2) rfl rfl (vp (eSi64 r1126.1) rfl (vp (i6 r1126.2) rfl (nx ⟨[(0, (i6 a0)), (5, (.osl 5)), (6, (i6 x761)), (8, (eSi64 x1106)), (9, (eSi64 r1124)), (10, (eSi64 r1126.1)), (11, (i6 r1126.2))], [(5, (bk (.row 2 (x1107.map eT_Si64_i64_Z))))]⟩ (by kernel_rfl) (sr (vp (eSi64 r1126.1) rfl (vp (eSi64 r1126.1) rfl ?_)))))))))
              refine nx ⟨[(0, (i6 a0)), (1, (eSi64 r1126.1)), (5, (.osl 5)), (6, (i6 x761)), (8, (eSi64 x1106)), (9, (eSi64 r1124)), (11, (i6 r1126.2))], [(5, (bk (.row 2 (x1107.map eT_Si64_i64_Z))))]⟩ (by kernel_rfl) (sr (vp (i6 a0) rfl (vp (eSi64 x1106) rfl (vp (eSi64 r1124) rfl ?_))))
              obtain ⟨r1128, hr1129, h⟩ := bind_some h
              refine a_call (args := [(i6 a0), (eSi64 x1106), (eSi64 r1124)]) (u := []) (r := (.tuple [(eSi64 r1128.1), (i6 r1128.2)])) rfl rfl (impl_prime_strip_ok a0 x1106 r1124 r1128 hr1129) rfl (vp (.tuple [(eSi64 r1128.1), (i6 r1128.2)]) rfl (vb (eSi64 r1128.1) rfl rfl (vb (i6 r1128.2) rfl rfl (vp (eSi64 r1128.1) rfl (nx ⟨[(0, (i6 a0)), (1, (eSi64 r1126.1)), (5, (.osl 5)), (6, (i6 x761)), (8, (eSi64 r1128.1)), (9, (eSi64 r1124)), (11, (i6 r1126.2))], [(5, (bk (.row 2 (x1107.map eT_Si64_i64_Z))))]⟩ (by kernel_rfl) (a_region (vp (.osl 5) rfl (vp (eSi64 r1124) rfl (vp (i6 r1126.2) rfl ?_)))))))))
              refine vq (eT_Si64_i64_Z (r1124, r1126.2)) rfl ⟨rfl, (all_cons ⟨(Nat.le_of_ble_eq_true rfl), rfl⟩ (all_cons ⟨(Nat.le_of_ble_eq_true rfl), rfl⟩ all_nil))⟩ (vq (.sl 2 true (([(r1124, r1126.2)]).map eT_Si64_i64_Z)) rfl ⟨(Nat.le_of_ble_eq_true rfl), (Nat.le_of_ble_eq_true rfl), (all_cons ⟨(Nat.le_of_ble_eq_true rfl), rfl⟩ all_nil)⟩ ?_)
              obtain ⟨hc1130, h⟩ := ifp_some h
              refine vu (.osl 8700) [(8700, (bk (.row 2 (((x1107 ++ ([(r1124, r1126.2)]))).map eT_Si64_i64_Z)))), (5, none)] (app_run (i := ⟨.struct [(0, 40), (1, 2)], 2, 32, (eT_Si64_i64_Z ([], (0 : Int)))⟩) (f := eT_Si64_i64_Z) (l := x1107) (l2 := [(r1124, r1126.2)]) rfl rfl rfl rfl (fun _ => rfl) rfl rfl) (app_c (f := eT_Si64_i64_Z) (s := 2) (sz := 2) (by' := 32) (u := []) (id := 5) hc1130 (.inr rfl) rfl rfl rfl) rfl (vp (.osl 8700) rfl (a_nil (b_norm ?_)))
              cases h
              exact a_again (by kernel_rfl) hX1120
          · have h := hy1072
            refine sr (vp (i6 x761) rfl (vp (i6 0) rfl (nx ⟨[(0, (i6 a0)), (1, (eSi64 x760)), (5, (.osl 5)), (6, (i6 x761)), (7, (eSi64 r1053)), (34, (i6 x761)), (35, (i6 0))], [(5, (bk (.row 2 (x762.map eT_Si64_i64_Z))))]⟩ (by kernel_rfl) (a_block ?_))))
            refine a_loop (emb := fun (s : ((List Int) × Int)) => ⟨[(0, (i6 a0)), (1, (eSi64 x760)), (5, (.osl 5)), (6, (i6 x761)), (7, (eSi64 s.1)), (34, (i6 x761)), (35, (i6 s.2))], [(5, (bk (.row 2 (x762.map eT_Si64_i64_Z))))]⟩) (body := (fun s : ((List Int) × Int) => impl_prime_factors_l2 x761 a0 x760 s.1 s.2)) (G := fun q => some q = some y1071) h rfl ?_ (by kernel_rfl)
            rintro X1082 ⟨x1077, x1078⟩ x1083 h hX1084
            have h : impl_prime_factors_l2 x761 a0 x760 x1077 x1078 = some x1083 := h
            refine a_st (σ' := ⟨[(0, (i6 a0)), (1, (eSi64 x760)), (5, (.osl 5)), (6, (i6 x761)), (7, (eSi64 x1077)), (34, (i6 x761)), (35, (i6 x1078))], [(5, (bk (.row 2 (x762.map eT_Si64_i64_Z))))]⟩) (by kernel_rfl) (sr (vp (.bool ((decide (x1078 < x761)))) rfl (nx ⟨[(0, (i6 a0)), (1, (eSi64 x760)), (5, (.osl 5)), (6, (i6 x761)), (7, (eSi64 x1077)), (34, (i6 x761)), (35, (i6 x1078)), (36, (.bool ((decide (x1078 < x761)))))], [(5, (bk (.row 2 (x762.map eT_Si64_i64_Z))))]⟩ (by kernel_rfl) (a_seq ?_))))
            cases hb1085 : (decide (x1078 < x761))
            · have h := ite_f hb1085 h
              refine a_cond_f rfl (a_exit (t_exit ?_))
              cases h
              have h := hX1084
              refine t_exit (b_exit ?_)
              exact j_leaf x1077 (Option.some.inj h) (by kernel_rfl)
            · have h := ite_t hb1085 h
              refine a_cond_t rfl (a_skip (a_next (σ' := ⟨[(0, (i6 a0)), (1, (eSi64 x760)), (5, (.osl 5)), (6, (i6 x761)), (7, (eSi64 x1077)), (34, (i6 x761)), (35, (i6 x1078))], [(5, (bk (.row 2 (x762.map eT_Si64_i64_Z))))]⟩) (by kernel_rfl) (a_seq (a_block (a_region (vp (i6 a0) rfl (vp (eSi64 x1077) rfl (vp (i6 a0) rfl (vp (eSi64 x760) rfl ?_)))))))))
              obtain ⟨r1086, hr1087, h⟩ := bind_some h
              refine a_call (args := [(i6 a0), (eSi64 x1077), (i6 a0), (eSi64 x760)]) (u := []) (r := (eSi64 r1086)) rfl rfl (impl_prime_power_ok a0 x1077 a0 x760 r1086 hr1087) rfl (vp (eSi64 r1086) rfl (a_nil (b_norm (a_next (σ' := ⟨[(0, (i6 a0)), (1, (eSi64 x760)), (5, (.osl 5)), (6, (i6 x761)), (7, (eSi64 r1086)), (34, (i6 x761)), (35, (i6 x1078))], [(5, (bk (.row 2 (x762.map eT_Si64_i64_Z))))]⟩) (by kernel_rfl) (a_region (vp (i6 (IntKind.i64.wrap (x1078 + 1))) rfl (vp (i6 (IntKind.i64.wrap (x1078 + 1))) rfl (a_nil ?_))))))))
              cases h
              exact a_again (by kernel_rfl) hX1084
        · have h := ite_t hb1052 h
          refine a_cond_t rfl (sr (vp (.osl 5) rfl (vp (i6 a0) rfl (vp (eSi64 x760) rfl (vp (i6 a0) rfl (vp (eSi64 x760) rfl ?_))))))
          obtain ⟨r1132, hr1133, h⟩ := bind_some h
          refine a_call (args := [(eSi64 x760)]) (u := []) (r := (i6 r1132)) rfl rfl (impl_row_lead_ok x760 r1132 hr1133) rfl ?_
          obtain ⟨r1134, hr1135, h⟩ := bind_some h
          refine a_call (args := [(i6 a0), (i6 r1132)]) (u := []) (r := (i6 r1134)) rfl rfl (impl_prime_inverse_ok a0 r1132 r1134 hr1135) rfl ?_
          obtain ⟨r1136, hr1137, h⟩ := bind_some h
          refine a_call (args := [(i6 a0), (eSi64 x760), (i6 r1134)]) (u := []) (r := (eSi64 r1136)) rfl rfl (impl_prime_scale_ok a0 x760 r1134 r1136 hr1137) rfl (vq (eT_Si64_i64_Z (r1136, 1)) rfl ⟨rfl, (all_cons ⟨(Nat.le_of_ble_eq_true rfl), rfl⟩ (all_cons ⟨(Nat.le_of_ble_eq_true rfl), rfl⟩ all_nil))⟩ (vq (.sl 2 true (([(r1136, 1)]).map eT_Si64_i64_Z)) rfl ⟨(Nat.le_of_ble_eq_true rfl), (Nat.le_of_ble_eq_true rfl), (all_cons ⟨(Nat.le_of_ble_eq_true rfl), rfl⟩ all_nil)⟩ ?_))
          obtain ⟨hc1138, h⟩ := ifp_some h
          refine vu (.osl 4200) [(4200, (bk (.row 2 (((x762 ++ ([(r1136, 1)]))).map eT_Si64_i64_Z)))), (5, none)] (app_run (i := ⟨.struct [(0, 40), (1, 2)], 2, 32, (eT_Si64_i64_Z ([], (0 : Int)))⟩) (f := eT_Si64_i64_Z) (l := x762) (l2 := [(r1136, 1)]) rfl rfl rfl rfl (fun _ => rfl) rfl rfl) (app_c (f := eT_Si64_i64_Z) (s := 2) (sz := 2) (by' := 32) (u := []) (id := 5) hc1138 (.inr rfl) rfl rfl rfl) rfl (vp (.osl 4200) rfl (nx _ rfl (a_exit (t_exit (b_other rfl (t_exit ?_))))))
          cases h
          have h := hk1049
          cases h
          have h := hX952
          refine t_exit (b_exit ?_)
          exact j_leaf ((x762 ++ ([(r1136, 1)]))) (Option.some.inj h) (by kernel_rfl)
def impl_prime_isIrreducible_c : ACode := (.seq (.region 0 [q 4 (.asg 0 (.const (.bool false)) 4)] false) (.seq (.seq (.region 1 [q 6 (.mov (t 1)), q 7 (.call 0 (.func 53) [(t 6)]), q 8 (.bin .neq 2 (t 7) (.const (.int .i64 1))), q 9 (.mov (t 8)), ⟨some 10, .mov (t 1), some (9, false), []⟩, ⟨some 11, .call 0 (.func 37) [(t 10)], some (9, false), []⟩, ⟨some 12, .bin .lss 2 (t 11) (.const (.int .i64 1)), some (9, false), []⟩, q 13 (.pick (t 9) (.const (.bool true)) (t 12))] false) (.cond (t 13) (.seq (.region 2 [q 4 (.asg 0 (.const (.bool false)) 4)] false) .ret) .skip)) (.seq (.region 3 [q 14 (.mov (t 0)), q 15 (.mov (t 1)), q 16 (.call 0 (.func 54) [(t 14), (t 15)]), q 5 (.asg 1 (t 16) 72)] false) (.seq (.region 4 [q 17 (.mov (t 5)), q 18 (.blt 0 .len [(t 17)] [72]), q 19 (.bin .eql 3 (t 18) (.const (.int .i64 1))), q 20 (.mov (t 19)), ⟨some 21, .mov (t 5), some (20, true), []⟩, ⟨some 22, .indexAddr 72 (t 21) (.const (.int .i64 0)), some (20, true), []⟩, ⟨some 23, .fieldAddr 75 (t 22) 1, some (20, true), []⟩, ⟨some 24, .load 2 (t 23), some (20, true), []⟩, ⟨some 25, .bin .eql 2 (t 24) (.const (.int .i64 1)), some (20, true), []⟩, q 26 (.pick (t 20) (t 25) (.const (.bool false))), q 4 (.asg 0 (t 26) 4)] false) .ret))))
def impl_prime_isIrreducible_L : Live := [(0, [0, 1]), (1, [0, 1]), (2, []), (3, [0, 1]), (4, [5]), (100013, [0, 1, 13])]
noncomputable def impl_prime_isIrreducible (a0 : Int) (a1 : (List Int)) : Option Bool :=
  (Option.bind (α := Bool) ((Option.bind (impl_row_lead a1) fun r10 => (if (r10 != 1) then (some true) else (Option.bind (impl_row_degree a1) fun r13 => (some ((decide (r13 < 1)))))))) fun x6 => (if x6 then (some false) else (Option.bind (impl_prime_factors a0 a1) fun r16 => (if ((r16.length : Int) == 1) then (ifp (0 ≤ (0 : Int) ∧ (0 : Int) < ((r16.length : Nat) : Int)) ((some (((((rd r16 (0 : Int).toNat)).2) == 1))))) else (some false)))))
theorem impl_prime_isIrreducible_ok (a0 : Int) (a1 : (List Int)) (r : Bool) (h : impl_prime_isIrreducible a0 a1 = some r) : Den Tryz.prog 38 [(i6 a0), (eSi64 a1)] { r := (.bool r) } := by
  refine den_of (rs := [(.bool r)]) (ac := impl_prime_isIrreducible_c) (L := impl_prime_isIrreducible_L) (n := 27) (m := [(5, 1)]) (c := Tryz.f38.body.getD .skip) good Tryz.func38 (by kernel_rfl) (by kernel_rfl) Tryz.ntmps38 rfl rfl (by kernel_rfl) rfl rfl ?_
  refine a_st (σ' := ⟨[(0, (i6 a0)), (1, (eSi64 a1))], []⟩) (by kernel_rfl) ?_
  unfold impl_prime_isIrreducible_c
  refine sr (vp (.bool false) rfl (nx ⟨[(0, (i6 a0)), (1, (eSi64 a1))], []⟩ (by kernel_rfl) (a_seq ?_)))
  obtain ⟨y7, hy8, hk9⟩ := bind_some h
  clear h
  refine a_join (emb := fun (s : Bool) => ⟨[(0, (i6 a0)), (1, (eSi64 a1)), (13, (.bool s))], []⟩) (pre := fun s => s = y7) ?_ ?_
  · rintro x6 rfl
    have h := hk9
    refine a_st (σ' := ⟨[(0, (i6 a0)), (1, (eSi64 a1)), (13, (.bool x6))], []⟩) (by kernel_rfl) ?_
    cases hb15 : x6
    · have h := ite_f hb15 h
      refine a_cond_f rfl (a_skip (a_next (σ' := ⟨[(0, (i6 a0)), (1, (eSi64 a1))], []⟩) (by kernel_rfl) (sr (vp (i6 a0) rfl (vp (eSi64 a1) rfl ?_)))))
      obtain ⟨r16, hr17, h⟩ := bind_some h
      refine a_call (args := [(i6 a0), (eSi64 a1)]) (u := []) (r := (eST_Si64_i64_Z r16)) rfl rfl (impl_prime_factors_ok a0 a1 r16 hr17) rfl (vp (eST_Si64_i64_Z r16) rfl (nx ⟨[(5, (eST_Si64_i64_Z r16))], []⟩ (by kernel_rfl) (sr (vp (eST_Si64_i64_Z r16) rfl (vq (i6 (r16.length : Int)) (len_run rfl rfl) trivial (vp (.bool (((r16.length : Int) == 1))) rfl (vp (.bool (((r16.length : Int) == 1))) rfl ?_)))))))
      cases hb18 : ((r16.length : Int) == 1)
      · have h := ite_f hb18 h
        refine a_gskip rfl (a_gskip rfl (a_gskip rfl (a_gskip rfl (a_gskip rfl (vp (.bool false) rfl (vp (.bool false) rfl (nx _ rfl (a_ret ?_))))))))
        refine ⟨.inr rfl, ?_⟩
        rw [Tryz.results38]
        cases h
        exact ⟨_, _, _, _, _, rfl, trivial, .inl ⟨rfl, .inl rfl⟩, rfl, rfl⟩
      · have h := ite_t hb18 h
        refine gp (eST_Si64_i64_Z r16) rfl rfl ?_
        obtain ⟨hc19, h⟩ := ifp_some h
        refine gq (.ref (.row 2 (r16.map eT_Si64_i64_Z)) [(0 : Int).toNat] [(0 : Int).toNat * 2]) rfl rfl (lmap hc19) (gq (.ref (.row 2 (r16.map eT_Si64_i64_Z)) [(0 : Int).toNat, 1] [(0 : Int).toNat * 2, 1]) rfl rfl (Nat.le_of_ble_eq_true rfl) ?_)
        have hl20 : LdOk [(0 : Int).toNat, 1] (.row 2 (r16.map eT_Si64_i64_Z)) [(0 : Int).toNat * 2, 1] 1 false (i6 (((rd r16 (0 : Int).toNat)).2)) := (.row (llt hc19) rfl (.fld rfl rfl rfl rfl (.nil rfl rfl rfl)))
        refine gq (i6 (((rd r16 (0 : Int).toNat)).2)) rfl (ld_ref (i := ⟨.int .i64, 1, 8, (.int .i64 0)⟩) rfl rfl hl20) hl20.c (gp (.bool (((((rd r16 (0 : Int).toNat)).2) == 1))) rfl rfl (vp (.bool (((((rd r16 (0 : Int).toNat)).2) == 1))) rfl (vp (.bool (((((rd r16 (0 : Int).toNat)).2) == 1))) rfl (nx _ rfl (a_ret ?_)))))
        refine ⟨.inr rfl, ?_⟩
        rw [Tryz.results38]
        cases h
        exact ⟨_, _, _, _, _, rfl, trivial, .inl ⟨rfl, .inl rfl⟩, rfl, rfl⟩
    · have h := ite_t hb15 h
      refine a_cond_t rfl (sr (vp (.bool false) rfl (nx _ rfl (a_ret (t_ret ?_)))))
      refine ⟨.inr rfl, ?_⟩
      rw [Tryz.results38]
      cases h
      exact ⟨_, _, _, _, _, rfl, trivial, .inl ⟨rfl, .inl rfl⟩, rfl, rfl⟩
  · have h := hy8
    refine a_region (vp (eSi64 a1) rfl ?_)
    obtain ⟨r10, hr11, h⟩ := bind_some h
    refine a_call (args := [(eSi64 a1)]) (u := []) (r := (i6 r10)) rfl rfl (impl_row_lead_ok a1 r10 hr11) rfl (vp (.bool (r10 != 1)) rfl (vp (.bool (r10 != 1)) rfl ?_))
    cases hb12 : (r10 != 1)
    · have h := ite_f hb12 h
      refine gp (eSi64 a1) rfl rfl ?_
      obtain ⟨r13, hr14, h⟩ := bind_some h
      refine a_gcall rfl (args := [(eSi64 a1)]) (u := []) (r := (i6 r13)) rfl rfl (impl_row_degree_ok a1 r13 hr14) rfl (gp (.bool ((decide (r13 < 1)))) rfl rfl (vp (.bool ((decide (r13 < 1)))) rfl (a_nil ?_)))
      exact j_leaf ((decide (r13 < 1))) (Option.some.inj h) (by kernel_rfl)
    · have h := ite_t hb12 h
      refine a_gskip rfl (a_gskip rfl (a_gskip rfl (vp (.bool true) rfl (a_nil ?_))))
      exact j_leaf true (Option.some.inj h) (by kernel_rfl)
def impl_isField_c : ACode := (.seq (.region 0 [q 3 (.box 24 (t 1)), q 4 (.asg 0 (.const (.bool false)) 4)] false) (.seq (.region 1 [q 6 (.load 24 (t 3)), q 7 (.call 0 (.func 25) [(t 6)]), q 5 (.asg 1 (t 7) 40)] false) (.seq (.region 2 [q 8 (.mov (t 0)), q 9 (.load 24 (t 3)), q 10 (.call 0 (.func 35) [(t 8), (t 9)]), q 11 (.mov (t 10)), ⟨some 12, .mov (t 5), some (11, true), []⟩, ⟨some 13, .call 0 (.func 37) [(t 12)], some (11, true), []⟩, ⟨some 14, .call 0 (.func 36) [(t 13), (.const (.int .i64 1)), (.const (.int .i64 4))], some (11, true), []⟩, q 15 (.pick (t 11) (t 14) (.const (.bool false))), q 16 (.mov (t 15)), ⟨some 17, .mov (t 0), some (16, true), []⟩, ⟨some 18, .mov (t 5), some (16, true), []⟩, ⟨some 19, .call 0 (.func 38) [(t 17), (t 18)], some (16, true), []⟩, q 20 (.pick (t 16) (t 19) (.const (.bool false))), q 4 (.asg 0 (t 20) 4)] false) .ret)))
def impl_isField_L : Live := [(0, [0, 1]), (1, [0, 3]), (2, [0, 3, 5])]
noncomputable def impl_isField (a0 : Int) (a1 : (Vec Int 64)) : Option Bool :=
  (Option.bind (impl_rowOf a1) fun r2 => (Option.bind (impl_IsPoly a0 a1) fun r5 => (if r5 then (Option.bind (impl_row_degree r2) fun r8 => (Option.bind (impl_within r8 1 4) fun r10 => (if r10 then (Option.bind (impl_prime_isIrreducible a0 r2) fun r13 => (some r13)) else (some false)))) else (some false))))
theorem impl_isField_ok (a0 : Int) (a1 : (Vec Int 64)) (r : Bool) (h : impl_isField a0 a1 = some r) : Den Tryz.prog 20 [(i6 a0), (eA64u8 a1)] { r := (.bool r) } := by
  refine den_of (rs := [(.bool r)]) (ac := impl_isField_c) (L := impl_isField_L) (n := 21) (m := [(5, 1)]) (c := Tryz.f20.body.getD .skip) good Tryz.func20 (by kernel_rfl) (by kernel_rfl) Tryz.ntmps20 rfl rfl (by kernel_rfl) rfl rfl ?_
  refine a_st (σ' := ⟨[(0, (i6 a0)), (1, (eA64u8 a1))], []⟩) (by kernel_rfl) ?_
  unfold impl_isField_c
  refine sr (vo 1300 (eA64u8 a1) rfl rfl (vp (.bool false) rfl (nx ⟨[(0, (i6 a0)), (3, (ow 3))], [(3, (bk (eA64u8 a1)))]⟩ (by kernel_rfl) (sr (vl (eA64u8 a1) rfl rfl rfl rfl rfl rfl ?_)))))
  obtain ⟨r2, hr3, h⟩ := bind_some h
  refine a_call (args := [(eA64u8 a1)]) (u := []) (r := (eSi64 r2)) rfl rfl (impl_rowOf_ok a1 r2 hr3) rfl (vp (eSi64 r2) rfl (nx ⟨[(0, (i6 a0)), (3, (ow 3)), (5, (eSi64 r2))], [(3, (bk (eA64u8 a1)))]⟩ (by kernel_rfl) (sr (vp (i6 a0) rfl (vl (eA64u8 a1) rfl rfl rfl rfl rfl rfl ?_)))))
  obtain ⟨r5, hr6, h⟩ := bind_some h
  refine a_call (args := [(i6 a0), (eA64u8 a1)]) (u := []) (r := (.bool r5)) rfl rfl (impl_IsPoly_ok a0 a1 r5 hr6) rfl (vp (.bool r5) rfl ?_)
  cases hb7 : r5
  · have h := ite_f hb7 h
    refine a_gskip rfl (a_gskip rfl (a_gskip rfl (vp (.bool false) rfl (vp (.bool false) rfl (a_gskip rfl (a_gskip rfl (a_gskip rfl (vp (.bool false) rfl (vp (.bool false) rfl ?_)))))))))
    refine nx _ rfl (a_ret ?_)
    refine ⟨.inr rfl, ?_⟩
    rw [Tryz.results20]
    cases h
    exact ⟨_, _, _, _, _, rfl, trivial, .inl ⟨rfl, .inl rfl⟩, rfl, rfl⟩
  · have h := ite_t hb7 h
    refine gp (eSi64 r2) rfl rfl ?_
    obtain ⟨r8, hr9, h⟩ := bind_some h
    refine a_gcall rfl (args := [(eSi64 r2)]) (u := []) (r := (i6 r8)) rfl rfl (impl_row_degree_ok r2 r8 hr9) rfl ?_
    obtain ⟨r10, hr11, h⟩ := bind_some h
    refine a_gcall rfl (args := [(i6 r8), (i6 1), (i6 4)]) (u := []) (r := (.bool r10)) rfl rfl (impl_within_ok r8 1 4 r10 hr11) rfl (vp (.bool r10) rfl (vp (.bool r10) rfl ?_))
    cases hb12 : r10
    · have h := ite_f hb12 h
      refine a_gskip rfl (a_gskip rfl (a_gskip rfl (vp (.bool false) rfl (vp (.bool false) rfl (nx _ rfl (a_ret ?_))))))
      refine ⟨.inr rfl, ?_⟩
      rw [Tryz.results20]
      cases h
      exact ⟨_, _, _, _, _, rfl, trivial, .inl ⟨rfl, .inl rfl⟩, rfl, rfl⟩
    · have h := ite_t hb12 h
      refine gp (i6 a0) rfl rfl (gp (eSi64 r2) rfl rfl ?_)
      obtain ⟨r13, hr14, h⟩ := bind_some h
      refine a_gcall rfl (args := [(i6 a0), (eSi64 r2)]) (u := []) (r := (.bool r13)) rfl rfl (impl_prime_isIrreducible_ok a0 r2 r13 hr14) rfl (vp (.bool r13) rfl (vp (.bool r13) rfl (nx _ rfl (a_ret ?_))))
      refine ⟨.inr rfl, ?_⟩
      rw [Tryz.results20]
      cases h
      exact ⟨_, _, _, _, _, rfl, trivial, .inl ⟨rfl, .inl rfl⟩, rfl, rfl⟩
def impl_fieldOf_c : ACode := (.seq (.region 0 [q 3 (.box 24 (t 1)), q 4 (.alloc 42)] false) (.seq (.region 1 [q 5 (.mov (t 0)), q 6 (.load 24 (t 3)), q 7 (.call 0 (.func 25) [(t 6)]), q 8 (.build 42 [(0, (t 5)), (1, (t 7))]), ⟨none, .store 42 (t 4) (t 8), none, []⟩] false) .ret))
def impl_fieldOf_L : Live := [(0, [0, 1]), (1, [0, 3, 4])]
noncomputable def impl_fieldOf (a0 : Int) (a1 : (Vec Int 64)) : Option (Int × (List Int)) :=
  (Option.bind (impl_rowOf a1) fun r2 => (some (a0, r2)))
theorem impl_fieldOf_ok (a0 : Int) (a1 : (Vec Int 64)) (r : (Int × (List Int))) (h : impl_fieldOf a0 a1 = some r) : Den Tryz.prog 13 [(i6 a0), (eA64u8 a1)] { r := (eT_i64_Si64_Z r) } := by
  refine den_of (rs := [(eT_i64_Si64_Z r)]) (ac := impl_fieldOf_c) (L := impl_fieldOf_L) (n := 9) (m := []) (c := Tryz.f13.body.getD .skip) good Tryz.func13 (by kernel_rfl) (by kernel_rfl) Tryz.ntmps13 rfl rfl (by kernel_rfl) rfl rfl ?_
  refine a_st (σ' := ⟨[(0, (i6 a0)), (1, (eA64u8 a1))], []⟩) (by kernel_rfl) ?_
  unfold impl_fieldOf_c
  refine sr (vo 1300 (eA64u8 a1) rfl rfl (vo 1400 (eT_i64_Si64_Z (((0 : Int), []))) rfl rfl (nx ⟨[(0, (i6 a0)), (3, (ow 3)), (4, (ow 4))], [(3, (bk (eA64u8 a1))), (4, (bk (eT_i64_Si64_Z (((0 : Int), [])))))]⟩ (by kernel_rfl) (sr (vp (i6 a0) rfl (vl (eA64u8 a1) rfl rfl rfl rfl rfl rfl ?_))))))
  obtain ⟨r2, hr3, h⟩ := bind_some h
  refine a_call (args := [(eA64u8 a1)]) (u := []) (r := (eSi64 r2)) rfl rfl (impl_rowOf_ok a1 r2 hr3) rfl (vq (eT_i64_Si64_Z (a0, r2)) rfl ⟨rfl, (all_cons ⟨(Nat.le_of_ble_eq_true rfl), rfl⟩ (all_cons ⟨(Nat.le_of_ble_eq_true rfl), rfl⟩ all_nil))⟩ (vs (eT_i64_Si64_Z (a0, r2)) rfl rfl (fun _ => rfl) rfl rfl rfl rfl rfl rfl (nx _ rfl (a_ret ?_))))
  have hl5 : LdOk [] (eT_i64_Si64_Z (a0, r2)) [] 2 true (eT_i64_Si64_Z (a0, r2)) := (.nil rfl rfl rfl)
  refine ⟨.inr rfl, ?_⟩
  rw [Tryz.results13]
  cases h
  exact ⟨_, _, _, _, _, ld_own (i := ⟨.struct [(0, 38), (1, 40)], 2, 32, (eT_i64_Si64_Z ((0 : Int), []))⟩) rfl rfl rfl hl5, hl5.c, .inl ⟨rfl, .inl rfl⟩, rfl, rfl⟩
def impl_field_isResidue_c : ACode := (.seq (.region 0 [q 2 (.box 42 (t 0)), q 3 (.box 24 (t 1)), q 4 (.asg 0 (.const (.bool false)) 4)] false) (.seq (.region 1 [q 5 (.fieldAddr 42 (t 2) 0), ⟨some 6, .load 38 (t 5), none, [0]⟩, q 7 (.load 24 (t 3)), ⟨some 8, .call 0 (.func 52) [(t 6), (t 7)], none, [1, 2]⟩, ⟨some 9, .mov (t 8), none, [3, 3]⟩, ⟨some 10, .load 24 (t 3), some (9, true), [4]⟩, ⟨some 11, .call 0 (.func 25) [(t 10)], some (9, true), [5, 4, 4]⟩, ⟨some 12, .call 0 (.func 37) [(t 11)], some (9, true), [6, 6, 4]⟩, ⟨some 13, .fieldAddr 42 (t 2) 1, some (9, true), [4]⟩, ⟨some 14, .load 40 (t 13), some (9, true), [8, 4]⟩, ⟨some 15, .call 0 (.func 37) [(t 14)], some (9, true), [9, 7, 4]⟩, ⟨some 16, .bin .lss 2 (t 12) (t 15), some (9, true), [7, 10, 4]⟩, ⟨some 17, .pick (t 9) (t 16) (.const (.bool false)), none, [4, 11]⟩, ⟨some 4, .asg 0 (t 17) 4, none, [12, 10, 0, 1, 2, 3, 4, 5, 6, 7, 8, 9, 10, 11, 12]⟩] true) .ret))
def impl_field_isResidue_L : Live := [(0, [0, 1]), (1, [2, 3])]
noncomputable def impl_field_isResidue (a0 : (Int × (List Int))) (a1 : (Vec Int 64)) : Option Bool :=
  (Option.bind (impl_isPoly a0.1 a1) fun r16 => (if r16 then (Option.bind (impl_rowOf a1) fun r20 => (Option.bind (impl_row_degree r20) fun r22 => (Option.bind (impl_row_degree a0.2) fun r25 => (some ((decide (r22 < r25))))))) else (some false)))
theorem impl_field_isResidue_ok (a0 : (Int × (List Int))) (a1 : (Vec Int 64)) (r : Bool) (h : impl_field_isResidue a0 a1 = some r) : Den Tryz.prog 42 [(eT_i64_Si64_Z a0), (eA64u8 a1)] { r := (.bool r) } := by
  refine den_of (rs := [(.bool r)]) (ac := impl_field_isResidue_c) (L := impl_field_isResidue_L) (n := 18) (m := []) (c := Tryz.f42.body.getD .skip) good Tryz.func42 (by kernel_rfl) (by kernel_rfl) Tryz.ntmps42 rfl rfl (by kernel_rfl) rfl rfl ?_
  refine a_st (σ' := ⟨[(0, (eT_i64_Si64_Z a0)), (1, (eA64u8 a1))], []⟩) (by kernel_rfl) ?_
  unfold impl_field_isResidue_c
  refine sr (vo 1200 (eT_i64_Si64_Z a0) rfl rfl (vo 1300 (eA64u8 a1) rfl rfl (vp (.bool false) rfl (nx ⟨[(2, (ow 2)), (3, (ow 3))], [(2, (bk (eT_i64_Si64_Z a0))), (3, (bk (eA64u8 a1)))]⟩ (by kernel_rfl) (a_seq (a_draw [⟨[2], [], [2], []⟩, ⟨[2], [], [], [0]⟩, ⟨[3], [], [], []⟩, ⟨[], [], [], [0, 1, 2]⟩, ⟨[], [], [], [0, 1, 2, 3]⟩, ⟨[3], [], [], [0, 1, 2, 3, 4]⟩, ⟨[], [], [], [0, 1, 2, 3, 4, 5]⟩, ⟨[], [], [], [0, 1, 2, 3, 4, 5, 6]⟩, ⟨[2], [], [2], [0, 1, 2, 3, 4]⟩, ⟨[2], [], [], [0, 1, 2, 3, 4, 8]⟩, ⟨[], [], [], [0, 1, 2, 3, 4, 5, 6, 7, 8, 9]⟩, ⟨[], [], [], [0, 1, 2, 3, 4, 5, 6, 7, 8, 9, 10]⟩, ⟨[], [], [], [0, 1, 2, 3, 4, 5, 6, 7, 8, 9, 10, 11]⟩, ⟨[], [], [], [0, 1, 2, 3, 4, 5, 6, 7, 8, 9, 10, 11, 12]⟩] (by kernel_rfl) (d_cons (vb (.own 2 [0] [0]) rfl rfl (d_next (by kernel_rfl) ?_)))))))))
  refine d_cons ?_
  have hl14 : LdOk [0] (eT_i64_Si64_Z a0) [0] 1 false (i6 a0.1) := (.fld rfl rfl rfl rfl (.nil rfl rfl rfl))
  refine vq (i6 a0.1) (ld_own (i := ⟨.int .i64, 1, 8, (.int .i64 0)⟩) rfl rfl rfl hl14) hl14.c (d_next (by kernel_rfl) (d_cons (vl (eA64u8 a1) rfl rfl rfl rfl rfl rfl (d_next (by kernel_rfl) (d_cons ?_)))))
  obtain ⟨r16, hr17, h⟩ := bind_some h
  refine a_call (args := [(i6 a0.1), (eA64u8 a1)]) (u := []) (r := (.bool r16)) rfl rfl (impl_isPoly_ok a0.1 a1 r16 hr17) rfl (d_next (by kernel_rfl) (dp (.bool r16) rfl (by kernel_rfl) ?_))
  cases hb18 : r16
  · have h := ite_f hb18 h
    refine dk rfl (by kernel_rfl) (dk rfl (by kernel_rfl) (dk rfl (by kernel_rfl) (dk rfl (by kernel_rfl) (dk rfl (by kernel_rfl) (dk rfl (by kernel_rfl) (dk rfl (by kernel_rfl) (dp (.bool false) rfl (by kernel_rfl) (dp (.bool false) rfl (by kernel_rfl) (d_nil ?_)))))))))
    refine a_next rfl (a_ret ?_)
    refine ⟨.inr rfl, ?_⟩
    rw [Tryz.results42]
    cases h
    exact ⟨_, _, _, _, _, rfl, trivial, .inl ⟨rfl, .inl rfl⟩, rfl, rfl⟩
  · have h := ite_t hb18 h
    refine d_cons ?_
    have hl19 : LdOk [] (eA64u8 a1) [] 64 true (eA64u8 a1) := (.nil rfl rfl rfl)
    refine gq (eA64u8 a1) rfl (ld_own (i := ⟨.arr 64 5, 64, 64, (eA64u8 (vrep 64 (0 : Int)))⟩) rfl rfl rfl hl19) hl19.c (d_next (by kernel_rfl) (d_cons ?_))
    obtain ⟨r20, hr21, h⟩ := bind_some h
    refine a_gcall rfl (args := [(eA64u8 a1)]) (u := []) (r := (eSi64 r20)) rfl rfl (impl_rowOf_ok a1 r20 hr21) rfl (d_next (by kernel_rfl) (d_cons ?_))
    obtain ⟨r22, hr23, h⟩ := bind_some h
    refine a_gcall rfl (args := [(eSi64 r20)]) (u := []) (r := (i6 r22)) rfl rfl (impl_row_degree_ok r20 r22 hr23) rfl (d_next (by kernel_rfl) (d_cons (gq (.own 2 [1] [1]) rfl rfl (Nat.le_of_ble_eq_true rfl) (d_next (by kernel_rfl) (d_cons ?_)))))
    have hl24 : LdOk [1] (eT_i64_Si64_Z a0) [1] 1 false (eSi64 a0.2) := (.fld rfl rfl rfl rfl (.nil rfl rfl rfl))
    refine gq (eSi64 a0.2) rfl (ld_own (i := ⟨.slice 2, 1, 24, (eSi64 [])⟩) rfl rfl rfl hl24) hl24.c (d_next (by kernel_rfl) (d_cons ?_))
    obtain ⟨r25, hr26, h⟩ := bind_some h
    refine a_gcall rfl (args := [(eSi64 a0.2)]) (u := []) (r := (i6 r25)) rfl rfl (impl_row_degree_ok a0.2 r25 hr26) rfl (d_next (by kernel_rfl) (dg (.bool ((decide (r22 < r25)))) rfl rfl (by kernel_rfl) (dp (.bool ((decide (r22 < r25)))) rfl (by kernel_rfl) (dp (.bool ((decide (r22 < r25)))) rfl (by kernel_rfl) (d_nil (a_next rfl (a_ret ?_)))))))
    refine ⟨.inr rfl, ?_⟩
    rw [Tryz.results42]
    cases h
    exact ⟨_, _, _, _, _, rfl, trivial, .inl ⟨rfl, .inl rfl⟩, rfl, rfl⟩
def impl_areAll_impl_Poly__c1_of_p_isResidue_c : ACode := (.seq (.region 0 [q 2 (.box 24 (t 0)), q 3 (.asg 0 (.const (.bool false)) 4)] false) (.seq (.region 1 [q 4 (.load 59 (t 1)), q 5 (.load 24 (t 2)), q 6 (.call 0 (t 4) [(t 5)]), q 7 (.un .not (t 6)), q 3 (.asg 0 (t 7) 4)] false) .ret))
def impl_areAll_impl_Poly__c1_of_p_isResidue_L : Live := [(0, [0, 1]), (1, [1, 2])]
noncomputable def impl_areAll_impl_Poly__c1_of_p_isResidue (a0 : (Vec Int 64)) (a1f0 : (Int × (List Int))) : Option Bool :=
  (Option.bind (impl_field_isResidue a1f0 a0) fun r3 => (some (!r3)))
theorem impl_areAll_impl_Poly__c1_of_p_isResidue_ok (a0 : (Vec Int 64)) (a1f0 : (Int × (List Int))) (r : Bool) (h : impl_areAll_impl_Poly__c1_of_p_isResidue a0 a1f0 = some r) : Den Tryz.prog 57 [(eA64u8 a0), (.ref (.clo 42 [(eT_i64_Si64_Z a1f0)] []) [] [])] { r := (.bool r) } := by
  refine den_of (rs := [(.bool r)]) (ac := impl_areAll_impl_Poly__c1_of_p_isResidue_c) (L := impl_areAll_impl_Poly__c1_of_p_isResidue_L) (n := 8) (m := []) (c := Tryz.f57.body.getD .skip) good Tryz.func57 (by kernel_rfl) (by kernel_rfl) Tryz.ntmps57 rfl rfl (by kernel_rfl) rfl rfl ?_
  refine a_st (σ' := ⟨[(0, (eA64u8 a0)), (1, (.ref (.clo 42 [(eT_i64_Si64_Z a1f0)] []) [] []))], []⟩) (by kernel_rfl) ?_
  unfold impl_areAll_impl_Poly__c1_of_p_isResidue_c
  refine sr (vo 1200 (eA64u8 a0) rfl rfl (vp (.bool false) rfl (nx ⟨[(1, (.ref (.clo 42 [(eT_i64_Si64_Z a1f0)] []) [] [])), (2, (ow 2))], [(2, (bk (eA64u8 a0)))]⟩ (by kernel_rfl) (sr ?_))))
  have hl1 : LdOk [] (.clo 42 [(eT_i64_Si64_Z a1f0)] []) [] 1 false (.clo 42 [(eT_i64_Si64_Z a1f0)] []) := (.nil rfl rfl rfl)
  refine vq (.clo 42 [(eT_i64_Si64_Z a1f0)] []) (ld_ref (i := ⟨.other, 1, 8, (.raw .nilFunc)⟩) rfl rfl hl1) hl1.c (vl (eA64u8 a0) rfl rfl rfl rfl rfl rfl ?_)
  obtain ⟨r3, hr4, h⟩ := bind_some h
  refine a_call (args := [(eT_i64_Si64_Z a1f0), (eA64u8 a0)]) (u := []) (r := (.bool r3)) rfl rfl (impl_field_isResidue_ok a1f0 a0 r3 hr4) rfl (vp (.bool (!r3)) rfl (vp (.bool (!r3)) rfl (nx _ rfl (a_ret ?_))))
  refine ⟨.inr rfl, ?_⟩
  rw [Tryz.results57]
  cases h
  exact ⟨_, _, _, _, _, rfl, trivial, .inl ⟨rfl, .inl rfl⟩, rfl, rfl⟩
def slices_IndexFunc_impl_Poly_impl_Poly_of_impl_areAll_impl_Poly__c1_p_isResidue_c : ACode := (.seq (.region 0 [q 4 (.asg 0 (.const (.int .i64 0)) 3)] false) (.seq (.seq (.region 1 [q 6 (.mov (t 0)), q 7 (.blt 0 .len [(t 6)] [65]), q 8 (.mov (.const (.int .i64 0)))] false) (.block 0 (.loop (.seq (.region 2 [q 9 (.bin .lss 3 (t 8) (t 7))] false) (.seq (.cond (t 9) .skip (.exit 0)) (.seq (.block 1 (.seq (.region 3 [q 10 (.mov (t 8)), q 5 (.asg 0 (t 10) 3)] false) (.seq (.region 4 [q 11 (.mov (t 1)), q 12 (.mov (t 0)), q 13 (.mov (t 5)), q 14 (.indexAddr 65 (t 12) (t 13)), q 15 (.load 24 (t 14)), q 16 (.call 0 (t 11) [(t 15)])] false) (.cond (t 16) (.seq (.region 5 [q 17 (.mov (t 5)), q 4 (.asg 0 (t 17) 3)] false) .ret) .skip)))) (.region 6 [q 18 (.bin .add 3 (t 8) (.const (.int .i64 1))), q 8 (.mov (t 18))] false))))))) (.seq (.region 7 [q 4 (.asg 0 (.const (.int .i64 (-1))) 3)] false) .ret)))
def slices_IndexFunc_impl_Poly_impl_Poly_of_impl_areAll_impl_Poly__c1_p_isResidue_L : Live := [(0, [0, 1]), (1, [0, 1]), (2, [0, 1, 7, 8]), (3, [0, 1, 7, 8]), (4, [0, 1, 5, 7, 8]), (5, [5]), (6, [0, 1, 7, 8]), (7, []), (100009, [0, 1, 7, 8, 9]), (100016, [0, 1, 5, 7, 8, 16])]
noncomputable def slices_IndexFunc_impl_Poly_impl_Poly_of_impl_areAll_impl_Poly__c1_p_isResidue_l1 (a0 : (List (Vec Int 64))) (a1c0f0 : (Int × (List Int))) (x33 : Int) : Option (Int ⊕ (Unit ⊕ Int)) :=
  (if (decide (x33 < (a0.length : Int))) then (ifp (0 ≤ x33 ∧ x33 < ((a0.length : Nat) : Int)) ((Option.bind (impl_areAll_impl_Poly__c1_of_p_isResidue (rd a0 x33.toNat) a1c0f0) fun r46 => (if r46 then (some (.inr (.inr x33))) else (some (.inl (IntKind.i64.wrap (x33 + 1)))))))) else (some (.inr (((.inl ()))))))
noncomputable def slices_IndexFunc_impl_Poly_impl_Poly_of_impl_areAll_impl_Poly__c1_p_isResidue (a0 : (List (Vec Int 64))) (a1c0f0 : (Int × (List Int))) : Option Int :=
  (Option.bind (α := (Unit ⊕ Int)) ((loopM (fun s : Int => slices_IndexFunc_impl_Poly_impl_Poly_of_impl_areAll_impl_Poly__c1_p_isResidue_l1 a0 a1c0f0 s) 0)) fun z => match z with | .inl _ => (some (-1)) | .inr r50 => (some r50))
theorem slices_IndexFunc_impl_Poly_impl_Poly_of_impl_areAll_impl_Poly__c1_p_isResidue_ok (a0 : (List (Vec Int 64))) (a1c0f0 : (Int × (List Int))) (r : Int) (h : slices_IndexFunc_impl_Poly_impl_Poly_of_impl_areAll_impl_Poly__c1_p_isResidue a0 a1c0f0 = some r) : Den Tryz.prog 74 [(eSA64u8 a0), (.clo 57 [] [(.ref (.clo 42 [(eT_i64_Si64_Z a1c0f0)] []) [] [])])] { r := (i6 r) } := by
  refine den_of (rs := [(i6 r)]) (ac := slices_IndexFunc_impl_Poly_impl_Poly_of_impl_areAll_impl_Poly__c1_p_isResidue_c) (L := slices_IndexFunc_impl_Poly_impl_Poly_of_impl_areAll_impl_Poly__c1_p_isResidue_L) (n := 19) (m := []) (c := Tryz.f74.body.getD .skip) good Tryz.func74 (by kernel_rfl) (by kernel_rfl) Tryz.ntmps74 rfl rfl (by kernel_rfl) rfl rfl ?_
  refine a_st (σ' := ⟨[(0, (eSA64u8 a0)), (1, (.clo 57 [] [(.ref (.clo 42 [(eT_i64_Si64_Z a1c0f0)] []) [] [])]))], []⟩) (by kernel_rfl) ?_
  unfold slices_IndexFunc_impl_Poly_impl_Poly_of_impl_areAll_impl_Poly__c1_p_isResidue_c
  refine sr (vp (i6 0) rfl (nx ⟨[(0, (eSA64u8 a0)), (1, (.clo 57 [] [(.ref (.clo 42 [(eT_i64_Si64_Z a1c0f0)] []) [] [])]))], []⟩ (by kernel_rfl) ?_))
  obtain ⟨y24, hy25, hk26⟩ := bind_some h
  clear h
  refine a_join (emb := fun (s : Unit) => ⟨[], []⟩) (pre := fun s => (.inl s) = y24) ?_ ?_
  · rintro _ rfl
    have h := hk26
    refine a_st (σ' := ⟨[], []⟩) (by kernel_rfl) (sr (vp (i6 (-1)) rfl (nx _ rfl (a_ret ?_))))
    refine ⟨.inr rfl, ?_⟩
    rw [Tryz.results74]
    cases h
    exact ⟨_, _, _, _, _, rfl, trivial, .inl ⟨rfl, .inl rfl⟩, rfl, rfl⟩
  · have h := hy25
    refine sr (vp (eSA64u8 a0) rfl (vq (i6 (a0.length : Int)) (len_run rfl rfl) trivial (vp (i6 0) rfl (nx ⟨[(0, (eSA64u8 a0)), (1, (.clo 57 [] [(.ref (.clo 42 [(eT_i64_Si64_Z a1c0f0)] []) [] [])])), (7, (i6 (a0.length : Int))), (8, (i6 0))], []⟩ (by kernel_rfl) (a_block ?_)))))
    refine a_loop (emb := fun (s : Int) => ⟨[(0, (eSA64u8 a0)), (1, (.clo 57 [] [(.ref (.clo 42 [(eT_i64_Si64_Z a1c0f0)] []) [] [])])), (7, (i6 (a0.length : Int))), (8, (i6 s))], []⟩) (body := (fun s : Int => slices_IndexFunc_impl_Poly_impl_Poly_of_impl_areAll_impl_Poly__c1_p_isResidue_l1 a0 a1c0f0 s)) (G := fun q => some q = some y24) h rfl ?_ (by kernel_rfl)
    rintro X40 x33 x41 h hX42
    have h : slices_IndexFunc_impl_Poly_impl_Poly_of_impl_areAll_impl_Poly__c1_p_isResidue_l1 a0 a1c0f0 x33 = some x41 := h
    refine a_st (σ' := ⟨[(0, (eSA64u8 a0)), (1, (.clo 57 [] [(.ref (.clo 42 [(eT_i64_Si64_Z a1c0f0)] []) [] [])])), (7, (i6 (a0.length : Int))), (8, (i6 x33))], []⟩) (by kernel_rfl) (sr (vp (.bool ((decide (x33 < (a0.length : Int))))) rfl (nx ⟨[(0, (eSA64u8 a0)), (1, (.clo 57 [] [(.ref (.clo 42 [(eT_i64_Si64_Z a1c0f0)] []) [] [])])), (7, (i6 (a0.length : Int))), (8, (i6 x33)), (9, (.bool ((decide (x33 < (a0.length : Int))))))], []⟩ (by kernel_rfl) (a_seq ?_))))
    cases hb43 : (decide (x33 < (a0.length : Int)))
    · have h := ite_f hb43 h
      refine a_cond_f rfl (a_exit (t_exit ?_))
      cases h
      have h := hX42
      refine t_exit (b_exit ?_)
      exact j_leaf () (Option.some.inj h) (by kernel_rfl)
    · have h := ite_t hb43 h
      refine a_cond_t rfl (a_skip (a_next (σ' := ⟨[(0, (eSA64u8 a0)), (1, (.clo 57 [] [(.ref (.clo 42 [(eT_i64_Si64_Z a1c0f0)] []) [] [])])), (7, (i6 (a0.length : Int))), (8, (i6 x33))], []⟩) (by kernel_rfl) (a_seq (a_block (sr (vp (i6 x33) rfl (vp (i6 x33) rfl (nx ⟨[(0, (eSA64u8 a0)), (1, (.clo 57 [] [(.ref (.clo 42 [(eT_i64_Si64_Z a1c0f0)] []) [] [])])), (5, (i6 x33)), (7, (i6 (a0.length : Int))), (8, (i6 x33))], []⟩ (by kernel_rfl) (sr ?_)))))))))
      refine vp (.clo 57 [] [(.ref (.clo 42 [(eT_i64_Si64_Z a1c0f0)] []) [] [])]) rfl (vp (eSA64u8 a0) rfl (vp (i6 x33) rfl ?_))
      obtain ⟨hc44, h⟩ := ifp_some h
      refine vq (.ref (.row 64 (a0.map eA64u8)) [x33.toNat] [x33.toNat * 64]) rfl (lmap hc44) ?_
      have hl45 : LdOk [x33.toNat] (.row 64 (a0.map eA64u8)) [x33.toNat * 64] 64 true (eA64u8 (rd a0 x33.toNat)) := (.row (llt hc44) rfl (.nil rfl rfl rfl))
      refine vq (eA64u8 (rd a0 x33.toNat)) (ld_ref (i := ⟨.arr 64 5, 64, 64, (eA64u8 (vrep 64 (0 : Int)))⟩) rfl rfl hl45) hl45.c ?_
      obtain ⟨r46, hr47, h⟩ := bind_some h
      refine a_call (args := [(eA64u8 (rd a0 x33.toNat)), (.ref (.clo 42 [(eT_i64_Si64_Z a1c0f0)] []) [] [])]) (u := []) (r := (.bool r46)) rfl rfl (impl_areAll_impl_Poly__c1_of_p_isResidue_ok (rd a0 x33.toNat) a1c0f0 r46 hr47) rfl (nx ⟨[(0, (eSA64u8 a0)), (1, (.clo 57 [] [(.ref (.clo 42 [(eT_i64_Si64_Z a1c0f0)] []) [] [])])), (5, (i6 x33)), (7, (i6 (a0.length : Int))), (8, (i6 x33)), (16, (.bool r46))], []⟩ (by kernel_rfl) ?_)
      cases hb48 : r46
      · have h := ite_f hb48 h
        refine a_cond_f rfl (a_skip (b_norm (a_next (σ' := ⟨[(0, (eSA64u8 a0)), (1, (.clo 57 [] [(.ref (.clo 42 [(eT_i64_Si64_Z a1c0f0)] []) [] [])])), (7, (i6 (a0.length : Int))), (8, (i6 x33))], []⟩) (by kernel_rfl) (a_region (vp (i6 (IntKind.i64.wrap (x33 + 1))) rfl (vp (i6 (IntKind.i64.wrap (x33 + 1))) rfl (a_nil ?_)))))))
        cases h
        exact a_again (by kernel_rfl) hX42
      · have h := ite_t hb48 h
        refine a_cond_t rfl (sr (vp (i6 x33) rfl (vp (i6 x33) rfl (nx _ rfl (a_ret (b_ret (t_ret ?_)))))))
        cases h
        have h := hX42
        refine t_ret (b_ret (t_ret ?_))
        cases h
        have h := hk26
        refine ⟨.inr rfl, ?_⟩
        rw [Tryz.results74]
        cases h
        exact ⟨_, _, _, _, _, rfl, trivial, .inl ⟨rfl, .inl rfl⟩, rfl, rfl⟩
def slices_ContainsFunc_impl_Poly_impl_Poly_of_impl_areAll_impl_Poly__c1_p_isResidue_c : ACode := (.seq (.region 0 [q 4 (.asg 0 (.const (.bool false)) 4)] false) (.seq (.region 1 [q 5 (.mov (t 0)), q 6 (.mov (t 1)), q 7 (.call 0 (.func 74) [(t 5), (t 6)]), q 8 (.bin .geq 3 (t 7) (.const (.int .i64 0))), q 4 (.asg 0 (t 8) 4)] false) .ret))
def slices_ContainsFunc_impl_Poly_impl_Poly_of_impl_areAll_impl_Poly__c1_p_isResidue_L : Live := [(0, [0, 1]), (1, [0, 1])]
noncomputable def slices_ContainsFunc_impl_Poly_impl_Poly_of_impl_areAll_impl_Poly__c1_p_isResidue (a0 : (List (Vec Int 64))) (a1c0f0 : (Int × (List Int))) : Option Bool :=
  (Option.bind (slices_IndexFunc_impl_Poly_impl_Poly_of_impl_areAll_impl_Poly__c1_p_isResidue a0 a1c0f0) fun r1 => (some ((decide (r1 ≥ 0)))))
theorem slices_ContainsFunc_impl_Poly_impl_Poly_of_impl_areAll_impl_Poly__c1_p_isResidue_ok (a0 : (List (Vec Int 64))) (a1c0f0 : (Int × (List Int))) (r : Bool) (h : slices_ContainsFunc_impl_Poly_impl_Poly_of_impl_areAll_impl_Poly__c1_p_isResidue a0 a1c0f0 = some r) : Den Tryz.prog 56 [(eSA64u8 a0), (.clo 57 [] [(.ref (.clo 42 [(eT_i64_Si64_Z a1c0f0)] []) [] [])])] { r := (.bool r) } := by
  refine den_of (rs := [(.bool r)]) (ac := slices_ContainsFunc_impl_Poly_impl_Poly_of_impl_areAll_impl_Poly__c1_p_isResidue_c) (L := slices_ContainsFunc_impl_Poly_impl_Poly_of_impl_areAll_impl_Poly__c1_p_isResidue_L) (n := 9) (m := []) (c := Tryz.f56.body.getD .skip) good Tryz.func56 (by kernel_rfl) (by kernel_rfl) Tryz.ntmps56 rfl rfl (by kernel_rfl) rfl rfl ?_
  refine a_st (σ' := ⟨[(0, (eSA64u8 a0)), (1, (.clo 57 [] [(.ref (.clo 42 [(eT_i64_Si64_Z a1c0f0)] []) [] [])]))], []⟩) (by kernel_rfl) ?_
  unfold slices_ContainsFunc_impl_Poly_impl_Poly_of_impl_areAll_impl_Poly__c1_p_isResidue_c
  refine sr (vp (.bool false) rfl (nx ⟨[(0, (eSA64u8 a0)), (1, (.clo 57 [] [(.ref (.clo 42 [(eT_i64_Si64_Z a1c0f0)] []) [] [])]))], []⟩ (by kernel_rfl) (sr (vp (eSA64u8 a0) rfl (vp (.clo 57 [] [(.ref (.clo 42 [(eT_i64_Si64_Z a1c0f0)] []) [] [])]) rfl ?_)))))
  obtain ⟨r1, hr2, h⟩ := bind_some h
  refine a_call (args := [(eSA64u8 a0), (.clo 57 [] [(.ref (.clo 42 [(eT_i64_Si64_Z a1c0f0)] []) [] [])])]) (u := []) (r := (i6 r1)) rfl rfl (slices_IndexFunc_impl_Poly_impl_Poly_of_impl_areAll_impl_Poly__c1_p_isResidue_ok a0 a1c0f0 r1 hr2) rfl (vp (.bool ((decide (r1 ≥ 0)))) rfl (vp (.bool ((decide (r1 ≥ 0)))) rfl (nx _ rfl (a_ret ?_))))
  refine ⟨.inr rfl, ?_⟩
  rw [Tryz.results56]
  cases h
  exact ⟨_, _, _, _, _, rfl, trivial, .inl ⟨rfl, .inl rfl⟩, rfl, rfl⟩
def impl_areAll_impl_Poly_of_impl_field_isResidue_c : ACode := (.seq (.region 0 [q 3 (.box 59 (t 1)), q 4 (.asg 0 (.const (.bool false)) 4)] false) (.seq (.region 1 [q 5 (.mov (t 0)), q 6 (.mkfn 57 [] [(t 3)]), q 7 (.call 0 (.func 56) [(t 5), (t 6)]), q 8 (.un .not (t 7)), q 4 (.asg 0 (t 8) 4)] false) .ret))
def impl_areAll_impl_Poly_of_impl_field_isResidue_L : Live := [(0, [0, 1]), (1, [0, 3])]
noncomputable def impl_areAll_impl_Poly_of_impl_field_isResidue (a0 : (List (Vec Int 64))) (a1f0 : (Int × (List Int))) : Option Bool :=
  (Option.bind (slices_ContainsFunc_impl_Poly_impl_Poly_of_impl_areAll_impl_Poly__c1_p_isResidue a0 a1f0) fun r1 => (some (!r1)))
theorem impl_areAll_impl_Poly_of_impl_field_isResidue_ok (a0 : (List (Vec Int 64))) (a1f0 : (Int × (List Int))) (r : Bool) (h : impl_areAll_impl_Poly_of_impl_field_isResidue a0 a1f0 = some r) : Den Tryz.prog 41 [(eSA64u8 a0), (.clo 42 [(eT_i64_Si64_Z a1f0)] [])] { r := (.bool r) } := by
  refine den_of (rs := [(.bool r)]) (ac := impl_areAll_impl_Poly_of_impl_field_isResidue_c) (L := impl_areAll_impl_Poly_of_impl_field_isResidue_L) (n := 9) (m := []) (c := Tryz.f41.body.getD .skip) good Tryz.func41 (by kernel_rfl) (by kernel_rfl) Tryz.ntmps41 rfl rfl (by kernel_rfl) rfl rfl ?_
  refine a_st (σ' := ⟨[(0, (eSA64u8 a0)), (1, (.clo 42 [(eT_i64_Si64_Z a1f0)] []))], []⟩) (by kernel_rfl) ?_
  unfold impl_areAll_impl_Poly_of_impl_field_isResidue_c
  refine sr (vo 1300 (.clo 42 [(eT_i64_Si64_Z a1f0)] []) rfl rfl (vp (.bool false) rfl (nx ⟨[(0, (eSA64u8 a0)), (3, (ow 3))], [(3, (bk (.clo 42 [(eT_i64_Si64_Z a1f0)] [])))]⟩ (by kernel_rfl) (sr (vp (eSA64u8 a0) rfl (vu (.clo 57 [] [(.ref (.clo 42 [(eT_i64_Si64_Z a1f0)] []) [] [])]) [(3, (bf (.clo 42 [(eT_i64_Si64_Z a1f0)] [])))] rfl trivial rfl ?_))))))
  obtain ⟨r1, hr2, h⟩ := bind_some h
  refine a_call (args := [(eSA64u8 a0), (.clo 57 [] [(.ref (.clo 42 [(eT_i64_Si64_Z a1f0)] []) [] [])])]) (u := []) (r := (.bool r1)) rfl rfl (slices_ContainsFunc_impl_Poly_impl_Poly_of_impl_areAll_impl_Poly__c1_p_isResidue_ok a0 a1f0 r1 hr2) rfl (vp (.bool (!r1)) rfl (vp (.bool (!r1)) rfl (nx _ rfl (a_ret ?_))))
  refine ⟨.inr rfl, ?_⟩
  rw [Tryz.results41]
  cases h
  exact ⟨_, _, _, _, _, rfl, trivial, .inl ⟨rfl, .inl rfl⟩, rfl, rfl⟩
end Go.Proofs.YtcgohoclbjgmkaaGreat
