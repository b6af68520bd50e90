/- Functions of the program: plain Lean functions, and that the program computes them. Printed by gen.py. -/
import Derived.Test.YtpjdjfhbfcekaaaFnT
namespace Go.Proofs.Ytpjdjfhbfcekaaa
open Go.Abs Go.Proofs
set_option linter.unusedSimpArgs false
set_option linter.unusedVariables false
set_option maxHeartbeats 16000000
attribute [local irreducible] Abs.acode Abs.aops Abs.aopsT Abs.thenK Abs.blockK

def spec_l01Prime_c : ACode := (.seq (.region 0 [q 2 (.asg 0 (.const (.bool false)) 4)] false) (.seq (.region 1 [q 3 (.mov (t 0)), q 4 (.bin .eql 2 (t 3) (.const (.int .i64 2))), q 5 (.mov (t 4)), ⟨some 6, .mov (t 0), some (5, false), []⟩, ⟨some 7, .bin .eql 2 (t 6) (.const (.int .i64 3)), some (5, false), []⟩, q 8 (.pick (t 5) (.const (.bool true)) (t 7)), q 9 (.mov (t 8)), ⟨some 10, .mov (t 0), some (9, false), []⟩, ⟨some 11, .bin .eql 2 (t 10) (.const (.int .i64 5)), some (9, false), []⟩, q 12 (.pick (t 9) (.const (.bool true)) (t 11)), q 13 (.mov (t 12)), ⟨some 14, .mov (t 0), some (13, false), []⟩, ⟨some 15, .bin .eql 2 (t 14) (.const (.int .i64 7)), some (13, false), []⟩, q 16 (.pick (t 13) (.const (.bool true)) (t 15)), q 2 (.asg 0 (t 16) 4)] false) .ret))
def spec_l01Prime_L : Live := [(0, [0]), (1, [0])]
noncomputable def spec_l01Prime (a0 : Int) : Option Bool :=
  (if (a0 == 2) then (some true) else (if (a0 == 3) then (some true) else (if (a0 == 5) then (some true) else (some (a0 == 7)))))
theorem spec_l01Prime_ok (a0 : Int) (r : Bool) (h : spec_l01Prime a0 = some r) : Den Try.prog 9 [(i6 a0)] { r := (.bool r) } := by
  refine den_of (rs := [(.bool r)]) (ac := spec_l01Prime_c) (L := spec_l01Prime_L) (n := 17) (m := []) (c := Try.f9.body.getD .skip) good Try.func9 (by kernel_rfl) (by kernel_rfl) Try.ntmps9 rfl rfl (by kernel_rfl) rfl rfl ?_
  refine a_st (σ' := ⟨[(0, (i6 a0))], []⟩) (by kernel_rfl) ?_
  unfold spec_l01Prime_c
  refine sr (vp (.bool false) rfl (nx ⟨[(0, (i6 a0))], []⟩ (by kernel_rfl) (sr (vp (i6 a0) rfl (vp (.bool (a0 == 2)) rfl (vp (.bool (a0 == 2)) rfl ?_))))))
  cases hb1 : (a0 == 2)
  · have h := ite_f hb1 h
    refine gp (i6 a0) rfl rfl (gp (.bool (a0 == 3)) rfl rfl (vp (.bool (a0 == 3)) rfl (vp (.bool (a0 == 3)) rfl ?_)))
    cases hb2 : (a0 == 3)
    · have h := ite_f hb2 h
      refine gp (i6 a0) rfl rfl (gp (.bool (a0 == 5)) rfl rfl (vp (.bool (a0 == 5)) rfl (vp (.bool (a0 == 5)) rfl ?_)))
      cases hb3 : (a0 == 5)
      · have h := ite_f hb3 h
        refine gp (i6 a0) rfl rfl (gp (.bool (a0 == 7)) rfl rfl (vp (.bool (a0 == 7)) rfl (vp (.bool (a0 == 7)) rfl (nx _ rfl (a_ret ?_)))))
        refine ⟨.inr rfl, ?_⟩
        rw [Try.results9]
        cases h
        exact ⟨_, _, _, _, _, rfl, trivial, .inl ⟨rfl, .inl rfl⟩, rfl, rfl⟩
      · have h := ite_t hb3 h
        refine a_gskip rfl (a_gskip rfl (vp (.bool true) rfl (vp (.bool true) rfl (nx _ rfl (a_ret ?_)))))
        refine ⟨.inr rfl, ?_⟩
        rw [Try.results9]
        cases h
        exact ⟨_, _, _, _, _, rfl, trivial, .inl ⟨rfl, .inl rfl⟩, rfl, rfl⟩
    · have h := ite_t hb2 h
      refine a_gskip rfl (a_gskip rfl (vp (.bool true) rfl (vp (.bool true) rfl (a_gskip rfl (a_gskip rfl (vp (.bool true) rfl (vp (.bool true) rfl (nx _ rfl (a_ret ?_)))))))))
      refine ⟨.inr rfl, ?_⟩
      rw [Try.results9]
      cases h
      exact ⟨_, _, _, _, _, rfl, trivial, .inl ⟨rfl, .inl rfl⟩, rfl, rfl⟩
  · have h := ite_t hb1 h
    refine a_gskip rfl (a_gskip rfl (vp (.bool true) rfl (vp (.bool true) rfl (a_gskip rfl (a_gskip rfl (vp (.bool true) rfl (vp (.bool true) rfl (a_gskip rfl (a_gskip rfl ?_)))))))))
    refine vp (.bool true) rfl (vp (.bool true) rfl (nx _ rfl (a_ret ?_)))
    refine ⟨.inr rfl, ?_⟩
    rw [Try.results9]
    cases h
    exact ⟨_, _, _, _, _, rfl, trivial, .inl ⟨rfl, .inl rfl⟩, rfl, rfl⟩
def spec_l01In_c : ACode := (.seq (.region 0 [q 6 (.asg 0 (.const (.bool false)) 4)] false) (.seq (.region 1 [q 7 (.mov (t 0)), q 8 (.mov (t 1)), q 9 (.bin .geq 2 (t 7) (t 8)), q 10 (.mov (t 9)), ⟨some 11, .mov (t 0), some (10, true), []⟩, ⟨some 12, .mov (t 2), some (10, true), []⟩, ⟨some 13, .bin .leq 2 (t 11) (t 12), some (10, true), []⟩, q 14 (.pick (t 10) (t 13) (.const (.bool false))), q 6 (.asg 0 (t 14) 4)] false) .ret))
def spec_l01In_L : Live := [(0, [0, 1, 2]), (1, [0, 1, 2])]
noncomputable def spec_l01In (a0 : Int) (a1 : Int) (a2 : Int) : Option Bool :=
  (if (decide (a0 ≥ a1)) then (some ((decide (a0 ≤ a2)))) else (some false))
theorem spec_l01In_ok (a0 : Int) (a1 : Int) (a2 : Int) (r : Bool) (h : spec_l01In a0 a1 a2 = some r) : Den Try.prog 10 [(i6 a0), (i6 a1), (i6 a2)] { r := (.bool r) } := by
  refine den_of (rs := [(.bool r)]) (ac := spec_l01In_c) (L := spec_l01In_L) (n := 15) (m := []) (c := Try.f10.body.getD .skip) good Try.func10 (by kernel_rfl) (by kernel_rfl) Try.ntmps10 rfl rfl (by kernel_rfl) rfl rfl ?_
  refine a_st (σ' := ⟨[(0, (i6 a0)), (1, (i6 a1)), (2, (i6 a2))], []⟩) (by kernel_rfl) ?_
  unfold spec_l01In_c
  refine sr (vp (.bool false) rfl (nx ⟨[(0, (i6 a0)), (1, (i6 a1)), (2, (i6 a2))], []⟩ (by kernel_rfl) (sr (vp (i6 a0) rfl (vp (i6 a1) rfl (vp (.bool ((decide (a0 ≥ a1)))) rfl (vp (.bool ((decide (a0 ≥ a1)))) rfl ?_)))))))
  cases hb1 : (decide (a0 ≥ a1))
  · have h := ite_f hb1 h
    refine a_gskip rfl (a_gskip rfl (a_gskip rfl (vp (.bool false) rfl (vp (.bool false) rfl (nx _ rfl (a_ret ?_))))))
    refine ⟨.inr rfl, ?_⟩
    rw [Try.results10]
    cases h
    exact ⟨_, _, _, _, _, rfl, trivial, .inl ⟨rfl, .inl rfl⟩, rfl, rfl⟩
  · have h := ite_t hb1 h
    refine gp (i6 a0) rfl rfl (gp (i6 a2) rfl rfl (gp (.bool ((decide (a0 ≤ a2)))) rfl rfl (vp (.bool ((decide (a0 ≤ a2)))) rfl (vp (.bool ((decide (a0 ≤ a2)))) rfl (nx _ rfl (a_ret ?_))))))
    refine ⟨.inr rfl, ?_⟩
    rw [Try.results10]
    cases h
    exact ⟨_, _, _, _, _, rfl, trivial, .inl ⟨rfl, .inl rfl⟩, rfl, rfl⟩
def spec_l01Count_c : ACode := (.seq (.region 0 [q 4 (.asg 0 (.const (.int .i64 0)) 2)] false) (.seq (.region 1 [q 5 (.asg 0 (.const (.int .i64 1)) 2)] false) (.seq (.block 0 (.loop (.seq (.seq (.region 2 [q 6 (.mov (t 1)), q 7 (.bin .gtr 2 (t 6) (.const (.int .i64 0))), q 8 (.mov (t 7)), ⟨some 9, .mov (t 5), some (8, true), []⟩, ⟨some 10, .bin .leq 2 (t 9) (.const (.int .i64 1000000000000)), some (8, true), []⟩, q 11 (.pick (t 8) (t 10) (.const (.bool false)))] false) (.cond (t 11) .skip (.exit 0))) (.seq (.block 1 (.region 4 [q 14 (.mov (t 5)), q 15 (.mov (t 0)), q 16 (.bin .mul 2 (t 14) (t 15)), q 5 (.asg 0 (t 16) 2)] false)) (.region 3 [q 12 (.mov (t 1)), q 13 (.bin .sub 2 (t 12) (.const (.int .i64 1))), q 1 (.asg 0 (t 13) 2)] false))))) (.seq (.region 5 [q 17 (.mov (t 5)), q 18 (.blt 0 .min [(t 17), (.const (.int .i64 1000000000001))] [2, 2]), q 4 (.asg 0 (t 18) 2)] false) .ret))))
def spec_l01Count_L : Live := [(0, [0, 1]), (1, [0, 1]), (2, [0, 1, 5]), (3, [0, 1, 5]), (4, [0, 1, 5]), (5, [5]), (100011, [0, 1, 5, 11])]
noncomputable def spec_l01Count_l1 (a0 : Int) (x39 : Int) (x40 : Int) : Option ((Int × Int) ⊕ Int) :=
  (Option.bind (α := Bool) ((if (decide (x39 > 0)) then (some ((decide (x40 ≤ 1000000000000)))) else (some false))) fun x52 => (if x52 then (some (.inl ((IntKind.i64.wrap (x39 - 1), IntKind.i64.wrap (x40 * a0))))) else (some (.inr x40))))
noncomputable def spec_l01Count (a0 : Int) (a1 : Int) : Option Int :=
  (Option.bind (α := Int) ((loopM (fun s : (Int × Int) => spec_l01Count_l1 a0 s.1 s.2) (a1, 1))) fun x28 => (some (if 1000000000001 < x28 then 1000000000001 else x28)))
theorem spec_l01Count_ok (a0 : Int) (a1 : Int) (r : Int) (h : spec_l01Count a0 a1 = some r) : Den Try.prog 11 [(i6 a0), (i6 a1)] { r := (i6 r) } := by
  refine den_of (rs := [(i6 r)]) (ac := spec_l01Count_c) (L := spec_l01Count_L) (n := 19) (m := []) (c := Try.f11.body.getD .skip) good Try.func11 (by kernel_rfl) (by kernel_rfl) Try.ntmps11 rfl rfl (by kernel_rfl) rfl rfl ?_
  refine a_st (σ' := ⟨[(0, (i6 a0)), (1, (i6 a1))], []⟩) (by kernel_rfl) ?_
  unfold spec_l01Count_c
  refine sr (vp (i6 0) rfl (nx ⟨[(0, (i6 a0)), (1, (i6 a1))], []⟩ (by kernel_rfl) (sr (vp (i6 1) rfl (nx ⟨[(0, (i6 a0)), (1, (i6 a1)), (5, (i6 1))], []⟩ (by kernel_rfl) ?_)))))
  obtain ⟨y29, hy30, hk31⟩ := bind_some h
  clear h
  refine a_join (emb := fun (s : Int) => ⟨[(5, (i6 s))], []⟩) (pre := fun s => s = y29) ?_ ?_
  · rintro x28 rfl
    have h := hk31
    refine a_st (σ' := ⟨[(5, (i6 x28))], []⟩) (by kernel_rfl) (sr (vp (i6 x28) rfl (vp (i6 (if 1000000000001 < x28 then 1000000000001 else x28)) rfl (vp (i6 (if 1000000000001 < x28 then 1000000000001 else x28)) rfl (nx _ rfl (a_ret ?_))))))
    refine ⟨.inr rfl, ?_⟩
    rw [Try.results11]
    cases h
    exact ⟨_, _, _, _, _, rfl, trivial, .inl ⟨rfl, .inl rfl⟩, rfl, rfl⟩
  · have h := hy30
    refine a_block ?_
    refine a_loop (emb := fun (s : (Int × Int)) => ⟨[(0, (i6 a0)), (1, (i6 s.1)), (5, (i6 s.2))], []⟩) (body := (fun s : (Int × Int) => spec_l01Count_l1 a0 s.1 s.2)) (G := fun q => some q = some y29) h rfl ?_ (by kernel_rfl)
    rintro X48 ⟨x39, x40⟩ x49 h hX50
    have h : spec_l01Count_l1 a0 x39 x40 = some x49 := h
    refine a_st (σ' := ⟨[(0, (i6 a0)), (1, (i6 x39)), (5, (i6 x40))], []⟩) (by kernel_rfl) (a_seq ?_)
    obtain ⟨y53, hy54, hk55⟩ := bind_some h
    clear h
    refine a_join (emb := fun (s : Bool) => ⟨[(0, (i6 a0)), (1, (i6 x39)), (5, (i6 x40)), (11, (.bool s))], []⟩) (pre := fun s => s = y53) ?_ ?_
    · rintro x52 rfl
      have h := hk55
      refine a_st (σ' := ⟨[(0, (i6 a0)), (1, (i6 x39)), (5, (i6 x40)), (11, (.bool x52))], []⟩) (by kernel_rfl) ?_
      cases hb57 : x52
      · have h := ite_f hb57 h
        refine a_cond_f rfl (a_exit (t_exit ?_))
        cases h
        have h := hX50
        refine t_exit (b_exit ?_)
        exact j_leaf x40 (Option.some.inj h) (by kernel_rfl)
      · have h := ite_t hb57 h
        refine a_cond_t rfl (a_skip (a_next (σ' := ⟨[(0, (i6 a0)), (1, (i6 x39)), (5, (i6 x40))], []⟩) (by kernel_rfl) (a_seq (a_block (a_region (vp (i6 x40) rfl (vp (i6 a0) rfl (vp (i6 (IntKind.i64.wrap (x40 * a0))) rfl (vp (i6 (IntKind.i64.wrap (x40 * a0))) rfl ?_)))))))))
        refine a_nil (b_norm (a_next (σ' := ⟨[(0, (i6 a0)), (1, (i6 x39)), (5, (i6 (IntKind.i64.wrap (x40 * a0))))], []⟩) (by kernel_rfl) (a_region (vp (i6 x39) rfl (vp (i6 (IntKind.i64.wrap (x39 - 1))) rfl (vp (i6 (IntKind.i64.wrap (x39 - 1))) rfl (a_nil ?_)))))))
        cases h
        exact a_again (by kernel_rfl) hX50
    · have h := hy54
      refine a_region (vp (i6 x39) rfl (vp (.bool ((decide (x39 > 0)))) rfl (vp (.bool ((decide (x39 > 0)))) rfl ?_)))
      cases hb56 : (decide (x39 > 0))
      · have h := ite_f hb56 h
        refine a_gskip rfl (a_gskip rfl (vp (.bool false) rfl (a_nil ?_)))
        exact j_leaf false (Option.some.inj h) (by kernel_rfl)
      · have h := ite_t hb56 h
        refine gp (i6 x40) rfl rfl (gp (.bool ((decide (x40 ≤ 1000000000000)))) rfl rfl (vp (.bool ((decide (x40 ≤ 1000000000000)))) rfl (a_nil ?_)))
        exact j_leaf ((decide (x40 ≤ 1000000000000))) (Option.some.inj h) (by kernel_rfl)
def spec_l01Of_c : ACode := (.seq (.region 0 [q 4 (.alloc 32)] false) (.seq (.region 1 [q 7 (.build 32 []), q 5 (.alloc 32), ⟨none, .store 32 (t 5) (t 7), none, []⟩] false) (.seq (.seq (.region 2 [q 6 (.asg 0 (.const (.int .i64 0)) 3)] false) (.block 0 (.loop (.seq (.seq (.region 3 [q 8 (.mov (t 1)), q 9 (.bin .gtr 2 (t 8) (.const (.int .i64 0)))] false) (.cond (t 9) .skip (.exit 0))) (.seq (.block 1 (.seq (.region 5 [q 12 (.mov (t 6)), q 13 (.mov (t 1)), q 14 (.mov (t 0)), q 15 (.bin .rem 2 (t 13) (t 14)), q 16 (.conv 2 5 (t 15)), q 17 (.indexAddr 32 (t 5) (t 12)), ⟨none, .store 5 (t 17) (t 16), none, []⟩] false) (.region 6 [q 18 (.mov (t 1)), q 19 (.mov (t 0)), q 20 (.bin .quo 2 (t 18) (t 19)), q 1 (.asg 0 (t 20) 2)] false))) (.region 4 [q 10 (.mov (t 6)), q 11 (.bin .add 3 (t 10) (.const (.int .i64 1))), q 6 (.asg 0 (t 11) 3)] false)))))) (.seq (.region 7 [q 21 (.load 32 (t 5)), ⟨none, .store 32 (t 4) (t 21), none, []⟩] false) .ret))))
def spec_l01Of_L : Live := [(0, [0, 1]), (1, [0, 1, 4]), (2, [0, 1, 4, 5]), (3, [0, 1, 4, 5, 6]), (4, [0, 1, 4, 5, 6]), (5, [0, 1, 4, 5, 6]), (6, [0, 1, 4, 5, 6]), (7, [4, 5]), (100009, [0, 1, 4, 5, 6, 9])]
noncomputable def spec_l01Of_l1 (a0 : Int) (x33 : Int) (x34 : Int) (x35 : (Vec Int 64)) : Option ((Int × Int × (Vec Int 64)) ⊕ (Vec Int 64)) :=
  (if (decide (x33 > 0)) then (ifp (a0 ≠ 0) ((ifp (0 ≤ x34 ∧ x34 < ((64 : Nat) : Int)) ((ifp (a0 ≠ 0) ((some (.inl ((IntKind.i64.wrap (Int.tdiv x33 a0), IntKind.i64.wrap (x34 + 1), (vset x35 x34.toNat (IntKind.u8.wrap (Int.tmod x33 a0))))))))))))) else (some (.inr x35)))
noncomputable def spec_l01Of (a0 : Int) (a1 : Int) : Option (Vec Int 64) :=
  (Option.bind (α := (Vec Int 64)) ((loopM (fun s : (Int × Int × (Vec Int 64)) => spec_l01Of_l1 a0 s.1 s.2.1 s.2.2) (a1, 0, (vrep 64 (0 : Int))))) fun x24 => (some x24))
theorem spec_l01Of_ok (a0 : Int) (a1 : Int) (r : (Vec Int 64)) (h : spec_l01Of a0 a1 = some r) : Den Try.prog 12 [(i6 a0), (i6 a1)] { r := (eA64u8 r) } := by
  refine den_of (rs := [(eA64u8 r)]) (ac := spec_l01Of_c) (L := spec_l01Of_L) (n := 22) (m := []) (c := Try.f12.body.getD .skip) good Try.func12 (by kernel_rfl) (by kernel_rfl) Try.ntmps12 rfl rfl (by kernel_rfl) rfl rfl ?_
  refine a_st (σ' := ⟨[(0, (i6 a0)), (1, (i6 a1))], []⟩) (by kernel_rfl) ?_
  unfold spec_l01Of_c
  refine sr (vo 1400 (eA64u8 ((vrep 64 (0 : Int)))) rfl rfl (nx ⟨[(0, (i6 a0)), (1, (i6 a1)), (4, (ow 4))], [(4, (bk (eA64u8 ((vrep 64 (0 : Int))))))]⟩ (by kernel_rfl) (sr (vq (eA64u8 ((vrep 64 (0 : Int)))) rfl ⟨⟨_, rfl, rfl⟩, all_nil⟩ (vo 1500 (eA64u8 ((vrep 64 (0 : Int)))) rfl rfl (vs (eA64u8 ((vrep 64 (0 : Int)))) rfl rfl (fun _ => rfl) rfl rfl rfl rfl rfl rfl (nx ⟨[(0, (i6 a0)), (1, (i6 a1)), (4, (ow 4)), (5, (ow 5))], [(4, (bk (eA64u8 ((vrep 64 (0 : Int)))))), (5, (bk (eA64u8 ((vrep 64 (0 : Int))))))]⟩ (by kernel_rfl) ?_)))))))
  obtain ⟨y25, hy26, hk27⟩ := bind_some h
  clear h
  refine a_join (emb := fun (s : (Vec Int 64)) => ⟨[(4, (ow 4)), (5, (ow 5))], [(4, (bk (eA64u8 ((vrep 64 (0 : Int)))))), (5, (bk (eA64u8 s)))]⟩) (pre := fun s => s = y25) ?_ ?_
  · rintro x24 rfl
    have h := hk27
    refine a_st (σ' := ⟨[(4, (ow 4)), (5, (ow 5))], [(4, (bk (eA64u8 ((vrep 64 (0 : Int)))))), (5, (bk (eA64u8 x24)))]⟩) (by kernel_rfl) (sr (vl (eA64u8 x24) rfl rfl rfl rfl rfl rfl (vs (eA64u8 x24) rfl rfl (fun _ => rfl) rfl rfl rfl rfl rfl rfl (nx _ rfl (a_ret ?_)))))
    have hl52 : LdOk [] (eA64u8 x24) [] 64 true (eA64u8 x24) := (.nil rfl rfl rfl)
    refine ⟨.inr rfl, ?_⟩
    rw [Try.results12]
    cases h
    exact ⟨_, _, _, _, _, ld_own (i := ⟨.arr 64 5, 64, 64, (eA64u8 (vrep 64 (0 : Int)))⟩) rfl rfl rfl hl52, hl52.c, .inl ⟨rfl, .inl rfl⟩, rfl, rfl⟩
  · have h := hy26
    refine sr (vp (i6 0) rfl (nx ⟨[(0, (i6 a0)), (1, (i6 a1)), (4, (ow 4)), (5, (ow 5)), (6, (i6 0))], [(4, (bk (eA64u8 ((vrep 64 (0 : Int)))))), (5, (bk (eA64u8 ((vrep 64 (0 : Int))))))]⟩ (by kernel_rfl) (a_block ?_)))
    refine a_loop (emb := fun (s : (Int × Int × (Vec Int 64))) => ⟨[(0, (i6 a0)), (1, (i6 s.1)), (4, (ow 4)), (5, (ow 5)), (6, (i6 s.2.1))], [(4, (bk (eA64u8 ((vrep 64 (0 : Int)))))), (5, (bk (eA64u8 s.2.2)))]⟩) (body := (fun s : (Int × Int × (Vec Int 64)) => spec_l01Of_l1 a0 s.1 s.2.1 s.2.2)) (G := fun q => some q = some y25) h rfl ?_ (by kernel_rfl)
    rintro X41 ⟨x33, x34, x35⟩ x42 h hX43
    have h : spec_l01Of_l1 a0 x33 x34 x35 = some x42 := h
    refine a_st (σ' := ⟨[(0, (i6 a0)), (1, (i6 x33)), (4, (ow 4)), (5, (ow 5)), (6, (i6 x34))], [(4, (bk (eA64u8 ((vrep 64 (0 : Int)))))), (5, (bk (eA64u8 x35)))]⟩) (by kernel_rfl) (a_seq (sr (vp (i6 x33) rfl (vp (.bool ((decide (x33 > 0)))) rfl (nx ⟨[(0, (i6 a0)), (1, (i6 x33)), (4, (ow 4)), (5, (ow 5)), (6, (i6 x34)), (9, (.bool ((decide (x33 > 0)))))], [(4, (bk (eA64u8 ((vrep 64 (0 : Int)))))), (5, (bk (eA64u8 x35)))]⟩ (by kernel_rfl) ?_)))))
    cases hb44 : (decide (x33 > 0))
    · have h := ite_f hb44 h
      refine a_cond_f rfl (a_exit (t_exit ?_))
      cases h
      have h := hX43
      refine t_exit (b_exit ?_)
      exact j_leaf x35 (Option.some.inj h) (by kernel_rfl)
    · have h := ite_t hb44 h
      refine a_cond_t rfl (a_skip (a_next (σ' := ⟨[(0, (i6 a0)), (1, (i6 x33)), (4, (ow 4)), (5, (ow 5)), (6, (i6 x34))], [(4, (bk (eA64u8 ((vrep 64 (0 : Int)))))), (5, (bk (eA64u8 x35)))]⟩) (by kernel_rfl) (a_seq (a_block (sr (vp (i6 x34) rfl (vp (i6 x33) rfl (vp (i6 a0) rfl ?_))))))))
      obtain ⟨hc45, h⟩ := ifp_some h
      refine vq (i6 (Int.tmod x33 a0)) rfl hc45 (vp (b8 (IntKind.u8.wrap (Int.tmod x33 a0))) rfl ?_)
      obtain ⟨hc46, h⟩ := ifp_some h
      refine vq (.own 5 [x34.toNat] [x34.toNat * 1]) rfl hc46 ?_
      have hs47 : StOk [x34.toNat] (eA64u8 x35) [x34.toNat * 1] 1 (b8 (IntKind.u8.wrap (Int.tmod x33 a0))) (eA64u8 ((vset x35 x34.toNat (IntKind.u8.wrap (Int.tmod x33 a0))))) := (.arr (y := IntKind.u8.wrap (Int.tmod x33 a0)) (vlt x35 hc46) rfl (.nil rfl rfl rfl rfl))
      refine vu .top [(5, (bk (eA64u8 ((vset x35 x34.toNat (IntKind.u8.wrap (Int.tmod x33 a0)))))))] (st_own (i := ⟨.int .u8, 1, 1, (.int .u8 0)⟩) rfl rfl (fun _ => rfl) rfl hs47) (hs47.c rfl) rfl (nx ⟨[(0, (i6 a0)), (1, (i6 x33)), (4, (ow 4)), (5, (ow 5)), (6, (i6 x34))], [(4, (bk (eA64u8 ((vrep 64 (0 : Int)))))), (5, (bk (eA64u8 ((vset x35 x34.toNat (IntKind.u8.wrap (Int.tmod x33 a0)))))))]⟩ (by kernel_rfl) (a_region (vp (i6 x33) rfl (vp (i6 a0) rfl ?_))))
      obtain ⟨hc48, h⟩ := ifp_some h
      refine vq (i6 (IntKind.i64.wrap (Int.tdiv x33 a0))) rfl hc48 (vp (i6 (IntKind.i64.wrap (Int.tdiv x33 a0))) rfl (a_nil (b_norm (a_next (σ' := ⟨[(0, (i6 a0)), (1, (i6 (IntKind.i64.wrap (Int.tdiv x33 a0)))), (4, (ow 4)), (5, (ow 5)), (6, (i6 x34))], [(4, (bk (eA64u8 ((vrep 64 (0 : Int)))))), (5, (bk (eA64u8 ((vset x35 x34.toNat (IntKind.u8.wrap (Int.tmod x33 a0)))))))]⟩) (by kernel_rfl) (a_region (vp (i6 x34) rfl (vp (i6 (IntKind.i64.wrap (x34 + 1))) rfl (vp (i6 (IntKind.i64.wrap (x34 + 1))) rfl (a_nil ?_)))))))))
      cases h
      exact a_again (by kernel_rfl) hX43
def spec_l01Deg_c : ACode := (.seq (.region 0 [q 1 (.box 32 (t 0)), q 2 (.asg 0 (.const (.int .i64 0)) 2)] false) (.seq (.region 1 [q 3 (.asg 0 (.const (.int .i64 63)) 2)] false) (.seq (.block 0 (.loop (.seq (.seq (.region 2 [q 4 (.mov (t 3)), q 5 (.bin .geq 2 (t 4) (.const (.int .i64 0))), q 6 (.mov (t 5)), ⟨some 7, .mov (t 3), some (6, true), []⟩, ⟨some 8, .indexAddr 32 (t 1) (t 7), some (6, true), []⟩, ⟨some 9, .load 5 (t 8), some (6, true), []⟩, ⟨some 10, .bin .eql 5 (t 9) (.const (.int .u8 0)), some (6, true), []⟩, q 11 (.pick (t 6) (t 10) (.const (.bool false)))] false) (.cond (t 11) .skip (.exit 0))) (.block 1 (.region 3 [q 12 (.mov (t 3)), q 13 (.bin .sub 2 (t 12) (.const (.int .i64 1))), q 3 (.asg 0 (t 13) 2)] false))))) (.seq (.region 4 [q 14 (.mov (t 3)), q 2 (.asg 0 (t 14) 2)] false) .ret))))
def spec_l01Deg_L : Live := [(0, [0]), (1, [1]), (2, [1, 3]), (3, [1, 3]), (4, [3]), (100011, [1, 3, 11])]
noncomputable def spec_l01Deg_l1 (a0 : (Vec Int 64)) (x54 : Int) : Option (Int ⊕ Int) :=
  (Option.bind (α := Bool) ((if (decide (x54 ≥ 0)) then (ifp (0 ≤ x54 ∧ x54 < ((64 : Nat) : Int)) ((some (((rd a0.1 x54.toNat) == 0))))) else (some false))) fun x72 => (if x72 then (some (.inl (IntKind.i64.wrap (x54 - 1)))) else (some (.inr x54))))
noncomputable def spec_l01Deg (a0 : (Vec Int 64)) : Option Int :=
  (Option.bind (α := Int) ((loopM (fun s : Int => spec_l01Deg_l1 a0 s) 63)) fun x39 => (some x39))
theorem spec_l01Deg_ok (a0 : (Vec Int 64)) (r : Int) (h : spec_l01Deg a0 = some r) : Den Try.prog 22 [(eA64u8 a0)] { r := (i6 r) } := by
  refine den_of (rs := [(i6 r)]) (ac := spec_l01Deg_c) (L := spec_l01Deg_L) (n := 15) (m := []) (c := Try.f22.body.getD .skip) good Try.func22 (by kernel_rfl) (by kernel_rfl) Try.ntmps22 rfl rfl (by kernel_rfl) rfl rfl ?_
  refine a_st (σ' := ⟨[(0, (eA64u8 a0))], []⟩) (by kernel_rfl) ?_
  unfold spec_l01Deg_c
  refine sr (vo 1100 (eA64u8 a0) rfl rfl (vp (i6 0) rfl (nx ⟨[(1, (ow 1))], [(1, (bk (eA64u8 a0)))]⟩ (by kernel_rfl) (sr (vp (i6 63) rfl (nx ⟨[(1, (ow 1)), (3, (i6 63))], [(1, (bk (eA64u8 a0)))]⟩ (by kernel_rfl) ?_))))))
  obtain ⟨y40, hy41, hk42⟩ := bind_some h
  clear h
  refine a_join (emb := fun (s : Int) => ⟨[(3, (i6 s))], []⟩) (pre := fun s => s = y40) ?_ ?_
  · rintro x39 rfl
    have h := hk42
    refine a_st (σ' := ⟨[(3, (i6 x39))], []⟩) (by kernel_rfl) (sr (vp (i6 x39) rfl (vp (i6 x39) rfl (nx _ rfl (a_ret ?_)))))
    refine ⟨.inr rfl, ?_⟩
    rw [Try.results22]
    cases h
    exact ⟨_, _, _, _, _, rfl, trivial, .inl ⟨rfl, .inl rfl⟩, rfl, rfl⟩
  · have h := hy41
    refine a_block ?_
    refine a_loop (emb := fun (s : Int) => ⟨[(1, (ow 1)), (3, (i6 s))], [(1, (bk (eA64u8 a0)))]⟩) (body := (fun s : Int => spec_l01Deg_l1 a0 s)) (G := fun q => some q = some y40) h rfl ?_ (by kernel_rfl)
    rintro X66 x54 x67 h hX68
    have h : spec_l01Deg_l1 a0 x54 = some x67 := h
    refine a_st (σ' := ⟨[(1, (ow 1)), (3, (i6 x54))], [(1, (bk (eA64u8 a0)))]⟩) (by kernel_rfl) (a_seq ?_)
    obtain ⟨y73, hy74, hk75⟩ := bind_some h
    clear h
    refine a_join (emb := fun (s : Bool) => ⟨[(1, (ow 1)), (3, (i6 x54)), (11, (.bool s))], [(1, (bk (eA64u8 a0)))]⟩) (pre := fun s => s = y73) ?_ ?_
    · rintro x72 rfl
      have h := hk75
      refine a_st (σ' := ⟨[(1, (ow 1)), (3, (i6 x54)), (11, (.bool x72))], [(1, (bk (eA64u8 a0)))]⟩) (by kernel_rfl) ?_
      cases hb79 : x72
      · have h := ite_f hb79 h
        refine a_cond_f rfl (a_exit (t_exit ?_))
        cases h
        have h := hX68
        refine t_exit (b_exit ?_)
        exact j_leaf x54 (Option.some.inj h) (by kernel_rfl)
      · have h := ite_t hb79 h
        refine a_cond_t rfl (a_skip (a_next (σ' := ⟨[(1, (ow 1)), (3, (i6 x54))], [(1, (bk (eA64u8 a0)))]⟩) (by kernel_rfl) (a_block (a_region (vp (i6 x54) rfl (vp (i6 (IntKind.i64.wrap (x54 - 1))) rfl (vp (i6 (IntKind.i64.wrap (x54 - 1))) rfl (a_nil (b_norm ?_)))))))))
        cases h
        exact a_again (by kernel_rfl) hX68
    · have h := hy74
      refine a_region (vp (i6 x54) rfl (vp (.bool ((decide (x54 ≥ 0)))) rfl (vp (.bool ((decide (x54 ≥ 0)))) rfl ?_)))
      cases hb76 : (decide (x54 ≥ 0))
      · have h := ite_f hb76 h
        refine a_gskip rfl (a_gskip rfl (a_gskip rfl (a_gskip rfl (vp (.bool false) rfl (a_nil ?_)))))
        exact j_leaf false (Option.some.inj h) (by kernel_rfl)
      · have h := ite_t hb76 h
        refine gp (i6 x54) rfl rfl ?_
        obtain ⟨hc77, h⟩ := ifp_some h
        refine gq (.own 1 [x54.toNat] [x54.toNat * 1]) rfl rfl hc77 ?_
        have hl78 : LdOk [x54.toNat] (eA64u8 a0) [x54.toNat * 1] 1 false (b8 (rd a0.1 x54.toNat)) := (.arr (vlt a0 hc77) rfl (.nil rfl rfl rfl))
        refine gq (b8 (rd a0.1 x54.toNat)) rfl (ld_own (i := ⟨.int .u8, 1, 1, (.int .u8 0)⟩) rfl rfl rfl hl78) hl78.c (gp (.bool (((rd a0.1 x54.toNat) == 0))) rfl rfl (vp (.bool (((rd a0.1 x54.toNat) == 0))) rfl (a_nil ?_)))
        exact j_leaf (((rd a0.1 x54.toNat) == 0)) (Option.some.inj h) (by kernel_rfl)
def spec_l01T_c : ACode := (.seq (.region 0 [q 0 (.alloc 32)] false) (.seq (.region 1 [q 1 (.build 32 [(0, (.const (.int .u8 0))), (1, (.const (.int .u8 1)))]), ⟨none, .store 32 (t 0) (t 1), none, []⟩] false) .ret))
def spec_l01T_L : Live := [(0, []), (1, [0])]
noncomputable def spec_l01T  : Option (Vec Int 64) :=
  (some ((vset (vset (vrep 64 (0 : Int)) 0 0) 1 1)))
theorem spec_l01T_ok  (r : (Vec Int 64)) (h : spec_l01T = some r) : Den Try.prog 24 [] { r := (eA64u8 r) } := by
  refine den_of (rs := [(eA64u8 r)]) (ac := spec_l01T_c) (L := spec_l01T_L) (n := 2) (m := []) (c := Try.f24.body.getD .skip) good Try.func24 (by kernel_rfl) (by kernel_rfl) Try.ntmps24 rfl rfl (by kernel_rfl) rfl rfl ?_
  refine a_st (σ' := ⟨[], []⟩) (by kernel_rfl) ?_
  unfold spec_l01T_c
  refine sr (vo 1000 (eA64u8 ((vrep 64 (0 : Int)))) rfl rfl (nx ⟨[(0, (ow 0))], [(0, (bk (eA64u8 ((vrep 64 (0 : Int))))))]⟩ (by kernel_rfl) (sr (vq (eA64u8 ((vset (vset (vrep 64 (0 : Int)) 0 0) 1 1))) rfl ⟨⟨_, rfl, rfl⟩, (all_cons ⟨(Nat.le_of_ble_eq_true rfl), rfl⟩ (all_cons ⟨(Nat.le_of_ble_eq_true rfl), rfl⟩ all_nil))⟩ (vs (eA64u8 ((vset (vset (vrep 64 (0 : Int)) 0 0) 1 1))) rfl rfl (fun _ => rfl) rfl rfl rfl rfl rfl rfl (nx _ rfl (a_ret ?_)))))))
  have hl2 : LdOk [] (eA64u8 ((vset (vset (vrep 64 (0 : Int)) 0 0) 1 1))) [] 64 true (eA64u8 ((vset (vset (vrep 64 (0 : Int)) 0 0) 1 1))) := (.nil rfl rfl rfl)
  refine ⟨.inr rfl, ?_⟩
  rw [Try.results24]
  cases h
  exact ⟨_, _, _, _, _, ld_own (i := ⟨.arr 64 5, 64, 64, (eA64u8 (vrep 64 (0 : Int)))⟩) rfl rfl rfl hl2, hl2.c, .inl ⟨rfl, .inl rfl⟩, rfl, rfl⟩
def spec_l01Inverse_c : ACode := (.seq (.region 0 [q 4 (.asg 0 (.const (.int .u8 0)) 5)] false) (.seq (.seq (.region 1 [q 5 (.asg 0 (.const (.int .i64 1)) 2)] false) (.block 0 (.loop (.seq (.seq (.region 2 [q 6 (.mov (t 5)), q 7 (.mov (t 0)), q 8 (.bin .lss 2 (t 6) (t 7))] false) (.cond (t 8) .skip (.exit 0))) (.seq (.block 1 (.seq (.region 4 [q 11 (.mov (t 5)), q 12 (.mov (t 1)), q 13 (.conv 5 2 (t 12)), q 14 (.bin .mul 2 (t 11) (t 13)), q 15 (.mov (t 0)), q 16 (.bin .rem 2 (t 14) (t 15)), q 17 (.bin .eql 2 (t 16) (.const (.int .i64 1)))] false) (.cond (t 17) (.seq (.region 5 [q 18 (.mov (t 5)), q 19 (.conv 2 5 (t 18)), q 4 (.asg 0 (t 19) 5)] false) .ret) .skip))) (.region 3 [q 9 (.mov (t 5)), q 10 (.bin .add 2 (t 9) (.const (.int .i64 1))), q 5 (.asg 0 (t 10) 2)] false)))))) (.seq (.region 6 [q 4 (.asg 0 (.const (.int .u8 0)) 5)] false) .ret)))
def spec_l01Inverse_L : Live := [(0, [0, 1]), (1, [0, 1]), (2, [0, 1, 5]), (3, [0, 1, 5]), (4, [0, 1, 5]), (5, [5]), (6, []), (100008, [0, 1, 5, 8]), (100017, [0, 1, 5, 17])]
noncomputable def spec_l01Inverse_l1 (a0 : Int) (a1 : Int) (x29 : Int) : Option (Int ⊕ (Unit ⊕ Int)) :=
  (if (decide (x29 < a0)) then (ifp (a0 ≠ 0) ((letp (((Int.tmod (IntKind.i64.wrap (x29 * (IntKind.i64.wrap a1))) a0) == 1)) fun x40 => (if x40 then (some (.inr ((.inr (IntKind.u8.wrap x29))))) else (some (.inl (IntKind.i64.wrap (x29 + 1)))))))) else (some (.inr (((.inl ()))))))
noncomputable def spec_l01Inverse (a0 : Int) (a1 : Int) : Option Int :=
  (Option.bind (α := (Unit ⊕ Int)) ((loopM (fun s : Int => spec_l01Inverse_l1 a0 a1 s) 1)) fun z => match z with | .inl _ => (some 0) | .inr r44 => (some r44))
theorem spec_l01Inverse_ok (a0 : Int) (a1 : Int) (r : Int) (h : spec_l01Inverse a0 a1 = some r) : Den Try.prog 49 [(i6 a0), (b8 a1)] { r := (b8 r) } := by
  refine den_of (rs := [(b8 r)]) (ac := spec_l01Inverse_c) (L := spec_l01Inverse_L) (n := 20) (m := []) (c := Try.f49.body.getD .skip) good Try.func49 (by kernel_rfl) (by kernel_rfl) Try.ntmps49 rfl rfl (by kernel_rfl) rfl rfl ?_
  refine a_st (σ' := ⟨[(0, (i6 a0)), (1, (b8 a1))], []⟩) (by kernel_rfl) ?_
  unfold spec_l01Inverse_c
  refine sr (vp (b8 0) rfl (nx ⟨[(0, (i6 a0)), (1, (b8 a1))], []⟩ (by kernel_rfl) ?_))
  obtain ⟨y21, hy22, hk23⟩ := bind_some h
  clear h
  refine a_join (emb := fun (s : Unit) => ⟨[], []⟩) (pre := fun s => (.inl s) = y21) ?_ ?_
  · rintro _ rfl
    have h := hk23
    refine a_st (σ' := ⟨[], []⟩) (by kernel_rfl) (sr (vp (b8 0) rfl (nx _ rfl (a_ret ?_))))
    refine ⟨.inr rfl, ?_⟩
    rw [Try.results49]
    cases h
    exact ⟨_, _, _, _, _, rfl, trivial, .inl ⟨rfl, .inl rfl⟩, rfl, rfl⟩
  · have h := hy22
    refine sr (vp (i6 1) rfl (nx ⟨[(0, (i6 a0)), (1, (b8 a1)), (5, (i6 1))], []⟩ (by kernel_rfl) (a_block ?_)))
    refine a_loop (emb := fun (s : Int) => ⟨[(0, (i6 a0)), (1, (b8 a1)), (5, (i6 s))], []⟩) (body := (fun s : Int => spec_l01Inverse_l1 a0 a1 s)) (G := fun q => some q = some y21) h rfl ?_ (by kernel_rfl)
    rintro X35 x29 x36 h hX37
    have h : spec_l01Inverse_l1 a0 a1 x29 = some x36 := h
    refine a_st (σ' := ⟨[(0, (i6 a0)), (1, (b8 a1)), (5, (i6 x29))], []⟩) (by kernel_rfl) (a_seq (sr (vp (i6 x29) rfl (vp (i6 a0) rfl (vp (.bool ((decide (x29 < a0)))) rfl (nx ⟨[(0, (i6 a0)), (1, (b8 a1)), (5, (i6 x29)), (8, (.bool ((decide (x29 < a0)))))], []⟩ (by kernel_rfl) ?_))))))
    cases hb38 : (decide (x29 < a0))
    · have h := ite_f hb38 h
      refine a_cond_f rfl (a_exit (t_exit ?_))
      cases h
      have h := hX37
      refine t_exit (b_exit ?_)
      exact j_leaf () (Option.some.inj h) (by kernel_rfl)
    · have h := ite_t hb38 h
      refine a_cond_t rfl (a_skip (a_next (σ' := ⟨[(0, (i6 a0)), (1, (b8 a1)), (5, (i6 x29))], []⟩) (by kernel_rfl) (a_seq (a_block (sr (vp (i6 x29) rfl (vp (b8 a1) rfl (vp (i6 (IntKind.i64.wrap a1)) rfl (vp (i6 (IntKind.i64.wrap (x29 * (IntKind.i64.wrap a1)))) rfl ?_)))))))))
      refine vp (i6 a0) rfl ?_
      obtain ⟨hc39, h⟩ := ifp_some h
      refine vq (i6 (Int.tmod (IntKind.i64.wrap (x29 * (IntKind.i64.wrap a1))) a0)) rfl hc39 ?_
      obtain ⟨x40, hx41, h⟩ := letp_some h
      refine a_val' (v := (.bool (((Int.tmod (IntKind.i64.wrap (x29 * (IntKind.i64.wrap a1))) a0) == 1)))) (v' := (.bool x40)) (u := []) (u' := []) rfl (congrArg (fun z => ((.bool z) : AV)) hx41) rfl trivial rfl (nx ⟨[(0, (i6 a0)), (1, (b8 a1)), (5, (i6 x29)), (17, (.bool x40))], []⟩ (by kernel_rfl) ?_)
      cases hb42 : x40
      · have h := ite_f hb42 h
        refine a_cond_f rfl (a_skip (b_norm (a_next (σ' := ⟨[(0, (i6 a0)), (1, (b8 a1)), (5, (i6 x29))], []⟩) (by kernel_rfl) (a_region (vp (i6 x29) rfl (vp (i6 (IntKind.i64.wrap (x29 + 1))) rfl (vp (i6 (IntKind.i64.wrap (x29 + 1))) rfl (a_nil ?_))))))))
        cases h
        exact a_again (by kernel_rfl) hX37
      · have h := ite_t hb42 h
        refine a_cond_t rfl (sr (vp (i6 x29) rfl (vp (b8 (IntKind.u8.wrap x29)) rfl (vp (b8 (IntKind.u8.wrap x29)) rfl (nx _ rfl (a_ret (b_ret (t_ret ?_))))))))
        cases h
        have h := hX37
        refine t_ret (b_ret (t_ret ?_))
        cases h
        have h := hk23
        refine ⟨.inr rfl, ?_⟩
        rw [Try.results49]
        cases h
        exact ⟨_, _, _, _, _, rfl, trivial, .inl ⟨rfl, .inl rfl⟩, rfl, rfl⟩
def spec_l01Divide_c : ACode := (.seq (.region 0 [q 4 (.box 32 (t 1)), q 5 (.box 32 (t 2)), q 6 (.alloc 32), q 7 (.alloc 32)] false) (.seq (.region 1 [q 14 (.build 32 []), q 15 (.load 32 (t 5)), q 16 (.call 0 (.func 22) [(t 15)]), q 8 (.alloc 32), ⟨none, .store 32 (t 8) (t 14), none, []⟩, q 9 (.asg 0 (t 16) 2)] false) (.seq (.region 2 [q 17 (.mov (t 0)), q 18 (.mov (t 9)), q 19 (.indexAddr 32 (t 5) (t 18)), q 20 (.load 5 (t 19)), q 21 (.call 0 (.func 49) [(t 17), (t 20)]), q 22 (.conv 5 2 (t 21)), q 10 (.asg 0 (t 22) 2)] false) (.seq (.seq (.region 3 [q 23 (.load 32 (t 4)), q 24 (.call 0 (.func 22) [(t 23)]), q 11 (.asg 0 (t 24) 2)] false) (.block 0 (.loop (.seq (.seq (.region 4 [q 25 (.mov (t 11)), q 26 (.mov (t 9)), q 27 (.bin .geq 2 (t 25) (t 26))] false) (.cond (t 27) .skip (.exit 0))) (.seq (.block 1 (.seq (.region 6 [q 30 (.mov (t 11)), q 31 (.indexAddr 32 (t 4) (t 30)), q 32 (.load 5 (t 31)), q 33 (.conv 5 2 (t 32)), q 34 (.mov (t 10)), q 35 (.bin .mul 2 (t 33) (t 34)), q 36 (.mov (t 0)), q 37 (.bin .rem 2 (t 35) (t 36)), q 12 (.asg 0 (t 37) 2)] false) (.seq (.region 7 [q 38 (.mov (t 11)), q 39 (.mov (t 9)), q 40 (.bin .sub 2 (t 38) (t 39)), q 41 (.mov (t 12)), q 42 (.conv 2 5 (t 41)), q 43 (.indexAddr 32 (t 8) (t 40)), ⟨none, .store 5 (t 43) (t 42), none, []⟩] false) (.seq (.region 8 [q 13 (.asg 0 (.const (.int .i64 0)) 2)] false) (.block 2 (.loop (.seq (.seq (.region 9 [q 44 (.mov (t 13)), q 45 (.mov (t 9)), q 46 (.bin .leq 2 (t 44) (t 45)), q 47 (.mov (t 46)), ⟨some 48, .mov (t 12), some (47, true), []⟩, ⟨some 49, .bin .neq 2 (t 48) (.const (.int .i64 0)), some (47, true), []⟩, q 50 (.pick (t 47) (t 49) (.const (.bool false)))] false) (.cond (t 50) .skip (.exit 2))) (.seq (.block 3 (.region 11 [q 53 (.mov (t 11)), q 54 (.mov (t 9)), ⟨some 55, .bin .sub 2 (t 53) (t 54), none, [0, 1]⟩, q 56 (.mov (t 13)), ⟨some 57, .bin .add 2 (t 55) (t 56), none, [2, 3]⟩, q 58 (.mov (t 11)), q 59 (.mov (t 9)), ⟨some 60, .bin .sub 2 (t 58) (t 59), none, [5, 6]⟩, q 61 (.mov (t 13)), ⟨some 62, .bin .add 2 (t 60) (t 61), none, [7, 8]⟩, ⟨some 63, .indexAddr 32 (t 4) (t 62), none, [9]⟩, ⟨some 64, .load 5 (t 63), none, [10]⟩, ⟨some 65, .conv 5 2 (t 64), none, [11]⟩, q 66 (.mov (t 12)), q 67 (.mov (t 13)), ⟨some 68, .indexAddr 32 (t 5) (t 67), none, [14]⟩, ⟨some 69, .load 5 (t 68), none, [15]⟩, ⟨some 70, .conv 5 2 (t 69), none, [16]⟩, ⟨some 71, .bin .mul 2 (t 66) (t 70), none, [13, 17]⟩, ⟨some 72, .bin .sub 2 (t 65) (t 71), none, [12, 18]⟩, q 73 (.mov (t 0)), ⟨some 74, .bin .rem 2 (t 72) (t 73), none, [19, 20]⟩, q 75 (.mov (t 0)), ⟨some 76, .bin .add 2 (t 74) (t 75), none, [21, 22]⟩, q 77 (.mov (t 0)), ⟨some 78, .bin .rem 2 (t 76) (t 77), none, [23, 24]⟩, ⟨some 79, .conv 2 5 (t 78), none, [25]⟩, ⟨some 80, .indexAddr 32 (t 4) (t 57), none, [4, 0, 1, 2, 3, 4, 5, 6, 7, 8, 9, 10, 11, 12, 13, 14, 15, 16, 17, 18, 19, 20, 21, 22, 23, 24, 25, 26]⟩, ⟨none, .store 5 (t 80) (t 79), none, [27, 26, 0, 1, 2, 3, 4, 5, 6, 7, 8, 9, 10, 11, 12, 13, 14, 15, 16, 17, 18, 19, 20, 21, 22, 23, 24, 25, 26]⟩] true)) (.region 10 [q 51 (.mov (t 13)), q 52 (.bin .add 2 (t 51) (.const (.int .i64 1))), q 13 (.asg 0 (t 52) 2)] false))))))))) (.region 5 [q 28 (.mov (t 11)), q 29 (.bin .sub 2 (t 28) (.const (.int .i64 1))), q 11 (.asg 0 (t 29) 2)] false)))))) (.seq (.region 12 [q 81 (.load 32 (t 8)), q 82 (.load 32 (t 4)), ⟨none, .store 32 (t 6) (t 81), none, [0, 0]⟩, ⟨none, .store 32 (t 7) (t 82), none, [1, 2, 0, 1, 2]⟩] true) .ret)))))
def spec_l01Divide_L : Live := [(0, [0, 1, 2]), (1, [0, 4, 5, 6, 7]), (2, [0, 4, 5, 6, 7, 8, 9]), (3, [0, 4, 5, 6, 7, 8, 9, 10]), (4, [0, 4, 5, 6, 7, 8, 9, 10, 11]), (5, [0, 4, 5, 6, 7, 8, 9, 10, 11]), (6, [0, 4, 5, 6, 7, 8, 9, 10, 11]), (7, [0, 4, 5, 6, 7, 8, 9, 10, 11, 12]), (8, [0, 4, 5, 6, 7, 8, 9, 10, 11, 12]), (9, [0, 4, 5, 6, 7, 8, 9, 10, 11, 12, 13]), (10, [0, 4, 5, 6, 7, 8, 9, 10, 11, 12, 13]), (11, [0, 4, 5, 6, 7, 8, 9, 10, 11, 12, 13]), (12, [4, 6, 7, 8]), (100027, [0, 4, 5, 6, 7, 8, 9, 10, 11, 27]), (100050, [0, 4, 5, 6, 7, 8, 9, 10, 11, 12, 13, 50])]
noncomputable def spec_l01Divide_l2 (r2 : Int) (x1405 : Int) (a0 : Int) (x995 : Int) (a2 : (Vec Int 64)) (x997 : (Vec Int 64)) (x1449 : Int) (x1450 : (Vec Int 64)) : Option ((Int × (Vec Int 64)) ⊕ ((Vec Int 64) × (Vec Int 64))) :=
  (Option.bind (α := Bool) ((if (decide (x1449 ≤ r2)) then (some (((Int.tmod x1405 a0) != 0))) else (some false))) fun x1494 => (if x1494 then (ifp (0 ≤ IntKind.i64.wrap ((IntKind.i64.wrap (x995 - r2)) + x1449) ∧ IntKind.i64.wrap ((IntKind.i64.wrap (x995 - r2)) + x1449) < ((64 : Nat) : Int)) ((letp ((rd x1450.1 (IntKind.i64.wrap ((IntKind.i64.wrap (x995 - r2)) + x1449)).toNat)) fun x1518 => (ifp (0 ≤ x1449 ∧ x1449 < ((64 : Nat) : Int)) ((letp (IntKind.i64.wrap ((Int.tmod x1405 a0) * (IntKind.i64.wrap (rd a2.1 x1449.toNat)))) fun x1522 => (ifp (a0 ≠ 0) ((letp (Int.tmod (IntKind.i64.wrap ((IntKind.i64.wrap x1518) - x1522)) a0) fun x1525 => (ifp (a0 ≠ 0) ((letp (IntKind.u8.wrap (Int.tmod (IntKind.i64.wrap (x1525 + a0)) a0)) fun x1528 => (ifp (0 ≤ IntKind.i64.wrap ((IntKind.i64.wrap (x995 - r2)) + x1449) ∧ IntKind.i64.wrap ((IntKind.i64.wrap (x995 - r2)) + x1449) < ((64 : Nat) : Int)) ((some (.inl ((IntKind.i64.wrap (x1449 + 1), (vset x1450 (IntKind.i64.wrap ((IntKind.i64.wrap (x995 - r2)) + x1449)).toNat x1528))))))))))))))))))) else (some (.inr (((x1450, (vset x997 (IntKind.i64.wrap (x995 - r2)).toNat (IntKind.u8.wrap (Int.tmod x1405 a0))))))))))
noncomputable def spec_l01Divide_l1 (r2 : Int) (r7 : Int) (a0 : Int) (a2 : (Vec Int 64)) (x995 : Int) (x996 : (Vec Int 64)) (x997 : (Vec Int 64)) : Option ((Int × (Vec Int 64) × (Vec Int 64)) ⊕ ((Vec Int 64) × (Vec Int 64))) :=
  (if (decide (x995 ≥ r2)) then (Option.bind (α := ((Vec Int 64) × (Vec Int 64))) ((ifp (0 ≤ x995 ∧ x995 < ((64 : Nat) : Int)) ((letp (IntKind.i64.wrap ((IntKind.i64.wrap (rd x996.1 x995.toNat)) * (IntKind.i64.wrap r7))) fun x1405 => (ifp (a0 ≠ 0) ((ifp (0 ≤ IntKind.i64.wrap (x995 - r2) ∧ IntKind.i64.wrap (x995 - r2) < ((64 : Nat) : Int)) ((loopM (fun s : (Int × (Vec Int 64)) => spec_l01Divide_l2 r2 x1405 a0 x995 a2 x997 s.1 s.2) (0, x996)))))))))) fun ⟨x1398, x1399⟩ => (some (.inl ((IntKind.i64.wrap (x995 - 1), x1398, x1399))))) else (some (.inr (x996, x997))))
noncomputable def spec_l01Divide (a0 : Int) (a1 : (Vec Int 64)) (a2 : (Vec Int 64)) : Option ((Vec Int 64) × (Vec Int 64)) :=
  (Option.bind (spec_l01Deg a2) fun r2 => (ifp (0 ≤ r2 ∧ r2 < ((64 : Nat) : Int)) ((Option.bind (spec_l01Inverse a0 (rd a2.1 r2.toNat)) fun r7 => (Option.bind (α := ((Vec Int 64) × (Vec Int 64))) ((Option.bind (spec_l01Deg a1) fun r751 => (loopM (fun s : (Int × (Vec Int 64) × (Vec Int 64)) => spec_l01Divide_l1 r2 r7 a0 a2 s.1 s.2.1 s.2.2) (r751, a1, (vrep 64 (0 : Int)))))) fun ⟨x745, x746⟩ => (some (x746, x745)))))))
theorem spec_l01Divide_ok (a0 : Int) (a1 : (Vec Int 64)) (a2 : (Vec Int 64)) (r : ((Vec Int 64) × (Vec Int 64))) (h : spec_l01Divide a0 a1 a2 = some r) : Den Try.prog 34 [(i6 a0), (eA64u8 a1), (eA64u8 a2)] { r := (.tuple [(eA64u8 r.1), (eA64u8 r.2)]) } := by
  refine den_of (rs := [(eA64u8 r.1), (eA64u8 r.2)]) (ac := spec_l01Divide_c) (L := spec_l01Divide_L) (n := 83) (m := []) (c := Try.f34.body.getD .skip) good Try.func34 (by kernel_rfl) (by kernel_rfl) Try.ntmps34 rfl rfl (by kernel_rfl) rfl rfl ?_
  refine a_st (σ' := ⟨[(0, (i6 a0)), (1, (eA64u8 a1)), (2, (eA64u8 a2))], []⟩) (by kernel_rfl) ?_
  unfold spec_l01Divide_c
  refine sr (vo 1400 (eA64u8 a1) rfl rfl (vo 1500 (eA64u8 a2) rfl rfl (vo 1600 (eA64u8 ((vrep 64 (0 : Int)))) rfl rfl (vo 1700 (eA64u8 ((vrep 64 (0 : Int)))) rfl rfl (nx ⟨[(0, (i6 a0)), (4, (ow 4)), (5, (ow 5)), (6, (ow 6)), (7, (ow 7))], [(4, (bk (eA64u8 a1))), (5, (bk (eA64u8 a2))), (6, (bk (eA64u8 ((vrep 64 (0 : Int)))))), (7, (bk (eA64u8 ((vrep 64 (0 : Int))))))]⟩ (by kernel_rfl) (sr (vq (eA64u8 ((vrep 64 (0 : Int)))) rfl ⟨⟨_, rfl, rfl⟩, all_nil⟩ (vl (eA64u8 a2) rfl rfl rfl rfl rfl rfl ?_))))))))
  obtain ⟨r2, hr3, h⟩ := bind_some h
  refine a_call (args := [(eA64u8 a2)]) (u := []) (r := (i6 r2)) rfl rfl (spec_l01Deg_ok a2 r2 hr3) rfl (vo 1800 (eA64u8 ((vrep 64 (0 : Int)))) rfl rfl (vs (eA64u8 ((vrep 64 (0 : Int)))) rfl rfl (fun _ => rfl) rfl rfl rfl rfl rfl rfl (vp (i6 r2) rfl (nx ⟨[(0, (i6 a0)), (4, (ow 4)), (5, (ow 5)), (6, (ow 6)), (7, (ow 7)), (8, (ow 8)), (9, (i6 r2))], [(4, (bk (eA64u8 a1))), (5, (bk (eA64u8 a2))), (6, (bk (eA64u8 ((vrep 64 (0 : Int)))))), (7, (bk (eA64u8 ((vrep 64 (0 : Int)))))), (8, (bk (eA64u8 ((vrep 64 (0 : Int))))))]⟩ (by kernel_rfl) (sr (vp (i6 a0) rfl (vp (i6 r2) rfl ?_)))))))
  obtain ⟨hc5, h⟩ := ifp_some h
  refine vq (.own 5 [r2.toNat] [r2.toNat * 1]) rfl hc5 ?_
  have hl6 : LdOk [r2.toNat] (eA64u8 a2) [r2.toNat * 1] 1 false (b8 (rd a2.1 r2.toNat)) := (.arr (vlt a2 hc5) rfl (.nil rfl rfl rfl))
  refine vq (b8 (rd a2.1 r2.toNat)) (ld_own (i := ⟨.int .u8, 1, 1, (.int .u8 0)⟩) rfl rfl rfl hl6) hl6.c ?_
  obtain ⟨r7, hr8, h⟩ := bind_some h
  refine a_call (args := [(i6 a0), (b8 (rd a2.1 r2.toNat))]) (u := []) (r := (b8 r7)) rfl rfl (spec_l01Inverse_ok a0 (rd a2.1 r2.toNat) r7 hr8) rfl (vp (i6 (IntKind.i64.wrap r7)) rfl (vp (i6 (IntKind.i64.wrap r7)) rfl (nx ⟨[(0, (i6 a0)), (4, (ow 4)), (5, (ow 5)), (6, (ow 6)), (7, (ow 7)), (8, (ow 8)), (9, (i6 r2)), (10, (i6 (IntKind.i64.wrap r7)))], [(4, (bk (eA64u8 a1))), (5, (bk (eA64u8 a2))), (6, (bk (eA64u8 ((vrep 64 (0 : Int)))))), (7, (bk (eA64u8 ((vrep 64 (0 : Int)))))), (8, (bk (eA64u8 ((vrep 64 (0 : Int))))))]⟩ (by kernel_rfl) ?_)))
  obtain ⟨y747, hy748, hk749⟩ := bind_some h
  clear h
  refine a_join (emb := fun (s : ((Vec Int 64) × (Vec Int 64))) => ⟨[(4, (ow 4)), (6, (ow 6)), (7, (ow 7)), (8, (ow 8))], [(4, (bk (eA64u8 s.1))), (6, (bk (eA64u8 ((vrep 64 (0 : Int)))))), (7, (bk (eA64u8 ((vrep 64 (0 : Int)))))), (8, (bk (eA64u8 s.2)))]⟩) (pre := fun s => s = y747) ?_ ?_
  · rintro ⟨x745, x746⟩ rfl
    have h := hk749
    refine a_st (σ' := ⟨[(4, (ow 4)), (6, (ow 6)), (7, (ow 7)), (8, (ow 8))], [(4, (bk (eA64u8 x745))), (6, (bk (eA64u8 ((vrep 64 (0 : Int)))))), (7, (bk (eA64u8 ((vrep 64 (0 : Int)))))), (8, (bk (eA64u8 x746)))]⟩) (by kernel_rfl) (a_seq (a_draw [⟨[8], [], [], []⟩, ⟨[4], [], [], []⟩, ⟨[6], [6], [], [0]⟩, ⟨[7], [7], [], [0, 1, 2]⟩] (by kernel_rfl) (d_cons (vl (eA64u8 x746) rfl rfl rfl rfl rfl rfl (d_next (by kernel_rfl) (d_cons (vl (eA64u8 x745) rfl rfl rfl rfl rfl rfl (d_next (by kernel_rfl) (d_cons ?_)))))))))
    refine vs (eA64u8 x746) rfl rfl (fun _ => rfl) rfl rfl rfl rfl rfl rfl (d_next (by kernel_rfl) (d_cons (vs (eA64u8 x745) rfl rfl (fun _ => rfl) rfl rfl rfl rfl rfl rfl (d_next (by kernel_rfl) (d_nil (a_next rfl (a_ret ?_)))))))
    have hl1542 : LdOk [] (eA64u8 x746) [] 64 true (eA64u8 x746) := (.nil rfl rfl rfl)
    have hl1543 : LdOk [] (eA64u8 x745) [] 64 true (eA64u8 x745) := (.nil rfl rfl rfl)
    refine ⟨.inr rfl, ?_⟩
    rw [Try.results34]
    cases h
    exact ⟨_, _, _, _, _, ld_own (i := ⟨.arr 64 5, 64, 64, (eA64u8 (vrep 64 (0 : Int)))⟩) rfl rfl rfl hl1542, hl1542.c, .inl ⟨rfl, .inl rfl⟩, rfl, ⟨_, _, _, _, _, ld_own (i := ⟨.arr 64 5, 64, 64, (eA64u8 (vrep 64 (0 : Int)))⟩) rfl rfl rfl hl1543, hl1543.c, .inl ⟨rfl, .inl rfl⟩, rfl, rfl⟩⟩
  · have h := hy748
    refine sr (vl (eA64u8 a1) rfl rfl rfl rfl rfl rfl ?_)
    obtain ⟨r751, hr752, h⟩ := bind_some h
    refine a_call (args := [(eA64u8 a1)]) (u := []) (r := (i6 r751)) rfl rfl (spec_l01Deg_ok a1 r751 hr752) rfl (vp (i6 r751) rfl (nx ⟨[(0, (i6 a0)), (4, (ow 4)), (5, (ow 5)), (6, (ow 6)), (7, (ow 7)), (8, (ow 8)), (9, (i6 r2)), (10, (i6 (IntKind.i64.wrap r7))), (11, (i6 r751))], [(4, (bk (eA64u8 a1))), (5, (bk (eA64u8 a2))), (6, (bk (eA64u8 ((vrep 64 (0 : Int)))))), (7, (bk (eA64u8 ((vrep 64 (0 : Int)))))), (8, (bk (eA64u8 ((vrep 64 (0 : Int))))))]⟩ (by kernel_rfl) (a_block ?_)))
    refine a_loop (emb := fun (s : (Int × (Vec Int 64) × (Vec Int 64))) => ⟨[(0, (i6 a0)), (4, (ow 4)), (5, (ow 5)), (6, (ow 6)), (7, (ow 7)), (8, (ow 8)), (9, (i6 r2)), (10, (i6 (IntKind.i64.wrap r7))), (11, (i6 s.1))], [(4, (bk (eA64u8 s.2.1))), (5, (bk (eA64u8 a2))), (6, (bk (eA64u8 ((vrep 64 (0 : Int)))))), (7, (bk (eA64u8 ((vrep 64 (0 : Int)))))), (8, (bk (eA64u8 s.2.2)))]⟩) (body := (fun s : (Int × (Vec Int 64) × (Vec Int 64)) => spec_l01Divide_l1 r2 r7 a0 a2 s.1 s.2.1 s.2.2)) (G := fun q => some q = some y747) h rfl ?_ (by kernel_rfl)
    rintro X1264 ⟨x995, x996, x997⟩ x1265 h hX1266
    have h : spec_l01Divide_l1 r2 r7 a0 a2 x995 x996 x997 = some x1265 := h
    refine a_st (σ' := ⟨[(0, (i6 a0)), (4, (ow 4)), (5, (ow 5)), (6, (ow 6)), (7, (ow 7)), (8, (ow 8)), (9, (i6 r2)), (10, (i6 (IntKind.i64.wrap r7))), (11, (i6 x995))], [(4, (bk (eA64u8 x996))), (5, (bk (eA64u8 a2))), (6, (bk (eA64u8 ((vrep 64 (0 : Int)))))), (7, (bk (eA64u8 ((vrep 64 (0 : Int)))))), (8, (bk (eA64u8 x997)))]⟩) (by kernel_rfl) (a_seq (sr (vp (i6 x995) rfl (vp (i6 r2) rfl (vp (.bool ((decide (x995 ≥ r2)))) rfl (nx ⟨[(0, (i6 a0)), (4, (ow 4)), (5, (ow 5)), (6, (ow 6)), (7, (ow 7)), (8, (ow 8)), (9, (i6 r2)), (10, (i6 (IntKind.i64.wrap r7))), (11, (i6 x995)), (27, (.bool ((decide (x995 ≥ r2)))))], [(4, (bk (eA64u8 x996))), (5, (bk (eA64u8 a2))), (6, (bk (eA64u8 ((vrep 64 (0 : Int)))))), (7, (bk (eA64u8 ((vrep 64 (0 : Int)))))), (8, (bk (eA64u8 x997)))]⟩ (by kernel_rfl) ?_))))))
    cases hb1267 : (decide (x995 ≥ r2))
    · have h := ite_f hb1267 h
      refine a_cond_f rfl (a_exit (t_exit ?_))
      cases h
      have h := hX1266
      refine t_exit (b_exit ?_)
      exact j_leaf (x996, x997) (Option.some.inj h) (by kernel_rfl)
    · have h := ite_t hb1267 h
      refine a_cond_t rfl (a_skip (a_next (σ' := ⟨[(0, (i6 a0)), (4, (ow 4)), (5, (ow 5)), (6, (ow 6)), (7, (ow 7)), (8, (ow 8)), (9, (i6 r2)), (10, (i6 (IntKind.i64.wrap r7))), (11, (i6 x995))], [(4, (bk (eA64u8 x996))), (5, (bk (eA64u8 a2))), (6, (bk (eA64u8 ((vrep 64 (0 : Int)))))), (7, (bk (eA64u8 ((vrep 64 (0 : Int)))))), (8, (bk (eA64u8 x997)))]⟩) (by kernel_rfl) ?_))
      obtain ⟨y1400, hy1401, hk1402⟩ := bind_some h
      clear h
      refine a_join (emb := fun (s : ((Vec Int 64) × (Vec Int 64))) => ⟨[(0, (i6 a0)), (4, (ow 4)), (5, (ow 5)), (6, (ow 6)), (7, (ow 7)), (8, (ow 8)), (9, (i6 r2)), (10, (i6 (IntKind.i64.wrap r7))), (11, (i6 x995))], [(4, (bk (eA64u8 s.1))), (5, (bk (eA64u8 a2))), (6, (bk (eA64u8 ((vrep 64 (0 : Int)))))), (7, (bk (eA64u8 ((vrep 64 (0 : Int)))))), (8, (bk (eA64u8 s.2)))]⟩) (pre := fun s => s = y1400) ?_ ?_
      · rintro ⟨x1398, x1399⟩ rfl
        have h := hk1402
        refine a_st (σ' := ⟨[(0, (i6 a0)), (4, (ow 4)), (5, (ow 5)), (6, (ow 6)), (7, (ow 7)), (8, (ow 8)), (9, (i6 r2)), (10, (i6 (IntKind.i64.wrap r7))), (11, (i6 x995))], [(4, (bk (eA64u8 x1398))), (5, (bk (eA64u8 a2))), (6, (bk (eA64u8 ((vrep 64 (0 : Int)))))), (7, (bk (eA64u8 ((vrep 64 (0 : Int)))))), (8, (bk (eA64u8 x1399)))]⟩) (by kernel_rfl) (a_region (vp (i6 x995) rfl (vp (i6 (IntKind.i64.wrap (x995 - 1))) rfl (vp (i6 (IntKind.i64.wrap (x995 - 1))) rfl (a_nil ?_)))))
        cases h
        exact a_again (by kernel_rfl) hX1266
      · have h := hy1401
        refine a_block (sr (vp (i6 x995) rfl ?_))
        obtain ⟨hc1403, h⟩ := ifp_some h
        refine vq (.own 4 [x995.toNat] [x995.toNat * 1]) rfl hc1403 ?_
        have hl1404 : LdOk [x995.toNat] (eA64u8 x996) [x995.toNat * 1] 1 false (b8 (rd x996.1 x995.toNat)) := (.arr (vlt x996 hc1403) rfl (.nil rfl rfl rfl))
        refine vq (b8 (rd x996.1 x995.toNat)) (ld_own (i := ⟨.int .u8, 1, 1, (.int .u8 0)⟩) rfl rfl rfl hl1404) hl1404.c (vp (i6 (IntKind.i64.wrap (rd x996.1 x995.toNat))) rfl (vp (i6 (IntKind.i64.wrap r7)) rfl ?_))
        obtain ⟨x1405, hx1406, h⟩ := letp_some h
        refine a_val' (v := (i6 (IntKind.i64.wrap ((IntKind.i64.wrap (rd x996.1 x995.toNat)) * (IntKind.i64.wrap r7))))) (v' := (i6 x1405)) (u := []) (u' := []) rfl (congrArg (fun z => ((i6 z) : AV)) hx1406) rfl trivial rfl (vp (i6 a0) rfl ?_)
        obtain ⟨hc1407, h⟩ := ifp_some h
        refine vq (i6 (Int.tmod x1405 a0)) rfl hc1407 (vp (i6 (Int.tmod x1405 a0)) rfl (nx ⟨[(0, (i6 a0)), (4, (ow 4)), (5, (ow 5)), (6, (ow 6)), (7, (ow 7)), (8, (ow 8)), (9, (i6 r2)), (10, (i6 (IntKind.i64.wrap r7))), (11, (i6 x995)), (12, (i6 (Int.tmod x1405 a0)))], [(4, (bk (eA64u8 x996))), (5, (bk (eA64u8 a2))), (6, (bk (eA64u8 ((vrep 64 (0 : Int)))))), (7, (bk (eA64u8 ((vrep 64 (0 : Int)))))), (8, (bk (eA64u8 x997)))]⟩ (by kernel_rfl) (sr (vp (i6 x995) rfl (vp (i6 r2) rfl (vp (i6 (IntKind.i64.wrap (x995 - r2))) rfl (vp (i6 (Int.tmod x1405 a0)) rfl (vp (b8 (IntKind.u8.wrap (Int.tmod x1405 a0))) rfl ?_))))))))
        obtain ⟨hc1408, h⟩ := ifp_some h
        refine vq (.own 8 [(IntKind.i64.wrap (x995 - r2)).toNat] [(IntKind.i64.wrap (x995 - r2)).toNat * 1]) rfl hc1408 ?_
        have hs1409 : StOk [(IntKind.i64.wrap (x995 - r2)).toNat] (eA64u8 x997) [(IntKind.i64.wrap (x995 - r2)).toNat * 1] 1 (b8 (IntKind.u8.wrap (Int.tmod x1405 a0))) (eA64u8 ((vset x997 (IntKind.i64.wrap (x995 - r2)).toNat (IntKind.u8.wrap (Int.tmod x1405 a0))))) := (.arr (y := IntKind.u8.wrap (Int.tmod x1405 a0)) (vlt x997 hc1408) rfl (.nil rfl rfl rfl rfl))
        refine vu .top [(8, (bk (eA64u8 ((vset x997 (IntKind.i64.wrap (x995 - r2)).toNat (IntKind.u8.wrap (Int.tmod x1405 a0)))))))] (st_own (i := ⟨.int .u8, 1, 1, (.int .u8 0)⟩) rfl rfl (fun _ => rfl) rfl hs1409) (hs1409.c rfl) rfl (nx ⟨[(0, (i6 a0)), (4, (ow 4)), (5, (ow 5)), (6, (ow 6)), (7, (ow 7)), (8, (ow 8)), (9, (i6 r2)), (10, (i6 (IntKind.i64.wrap r7))), (11, (i6 x995)), (12, (i6 (Int.tmod x1405 a0)))], [(4, (bk (eA64u8 x996))), (5, (bk (eA64u8 a2))), (6, (bk (eA64u8 ((vrep 64 (0 : Int)))))), (7, (bk (eA64u8 ((vrep 64 (0 : Int)))))), (8, (bk (eA64u8 ((vset x997 (IntKind.i64.wrap (x995 - r2)).toNat (IntKind.u8.wrap (Int.tmod x1405 a0)))))))]⟩ (by kernel_rfl) (sr (vp (i6 0) rfl (nx ⟨[(0, (i6 a0)), (4, (ow 4)), (5, (ow 5)), (6, (ow 6)), (7, (ow 7)), (8, (ow 8)), (9, (i6 r2)), (10, (i6 (IntKind.i64.wrap r7))), (11, (i6 x995)), (12, (i6 (Int.tmod x1405 a0))), (13, (i6 0))], [(4, (bk (eA64u8 x996))), (5, (bk (eA64u8 a2))), (6, (bk (eA64u8 ((vrep 64 (0 : Int)))))), (7, (bk (eA64u8 ((vrep 64 (0 : Int)))))), (8, (bk (eA64u8 ((vset x997 (IntKind.i64.wrap (x995 - r2)).toNat (IntKind.u8.wrap (Int.tmod x1405 a0)))))))]⟩ (by kernel_rfl) (a_block ?_)))))
        refine a_loop (emb := fun (s : (Int × (Vec Int 64))) => ⟨[(0, (i6 a0)), (4, (ow 4)), (5, (ow 5)), (6, (ow 6)), (7, (ow 7)), (8, (ow 8)), (9, (i6 r2)), (10, (i6 (IntKind.i64.wrap r7))), (11, (i6 x995)), (12, (i6 (Int.tmod x1405 a0))), (13, (i6 s.1))], [(4, (bk (eA64u8 s.2))), (5, (bk (eA64u8 a2))), (6, (bk (eA64u8 ((vrep 64 (0 : Int)))))), (7, (bk (eA64u8 ((vrep 64 (0 : Int)))))), (8, (bk (eA64u8 ((vset x997 (IntKind.i64.wrap (x995 - r2)).toNat (IntKind.u8.wrap (Int.tmod x1405 a0)))))))]⟩) (body := (fun s : (Int × (Vec Int 64)) => spec_l01Divide_l2 r2 x1405 a0 x995 a2 x997 s.1 s.2)) (G := fun q => some q = some y1400) h rfl ?_ (by kernel_rfl)
        rintro X1490 ⟨x1449, x1450⟩ x1491 h hX1492
        have h : spec_l01Divide_l2 r2 x1405 a0 x995 a2 x997 x1449 x1450 = some x1491 := h
        refine a_st (σ' := ⟨[(0, (i6 a0)), (4, (ow 4)), (5, (ow 5)), (6, (ow 6)), (7, (ow 7)), (8, (ow 8)), (9, (i6 r2)), (10, (i6 (IntKind.i64.wrap r7))), (11, (i6 x995)), (12, (i6 (Int.tmod x1405 a0))), (13, (i6 x1449))], [(4, (bk (eA64u8 x1450))), (5, (bk (eA64u8 a2))), (6, (bk (eA64u8 ((vrep 64 (0 : Int)))))), (7, (bk (eA64u8 ((vrep 64 (0 : Int)))))), (8, (bk (eA64u8 ((vset x997 (IntKind.i64.wrap (x995 - r2)).toNat (IntKind.u8.wrap (Int.tmod x1405 a0)))))))]⟩) (by kernel_rfl) (a_seq ?_)
        obtain ⟨y1495, hy1496, hk1497⟩ := bind_some h
        clear h
        refine a_join (emb := fun (s : Bool) => ⟨[(0, (i6 a0)), (4, (ow 4)), (5, (ow 5)), (6, (ow 6)), (7, (ow 7)), (8, (ow 8)), (9, (i6 r2)), (10, (i6 (IntKind.i64.wrap r7))), (11, (i6 x995)), (12, (i6 (Int.tmod x1405 a0))), (13, (i6 x1449)), (50, (.bool s))], [(4, (bk (eA64u8 x1450))), (5, (bk (eA64u8 a2))), (6, (bk (eA64u8 ((vrep 64 (0 : Int)))))), (7, (bk (eA64u8 ((vrep 64 (0 : Int)))))), (8, (bk (eA64u8 ((vset x997 (IntKind.i64.wrap (x995 - r2)).toNat (IntKind.u8.wrap (Int.tmod x1405 a0)))))))]⟩) (pre := fun s => s = y1495) ?_ ?_
        · rintro x1494 rfl
          have h := hk1497
          refine a_st (σ' := ⟨[(0, (i6 a0)), (4, (ow 4)), (5, (ow 5)), (6, (ow 6)), (7, (ow 7)), (8, (ow 8)), (9, (i6 r2)), (10, (i6 (IntKind.i64.wrap r7))), (11, (i6 x995)), (12, (i6 (Int.tmod x1405 a0))), (13, (i6 x1449)), (50, (.bool x1494))], [(4, (bk (eA64u8 x1450))), (5, (bk (eA64u8 a2))), (6, (bk (eA64u8 ((vrep 64 (0 : Int)))))), (7, (bk (eA64u8 ((vrep 64 (0 : Int)))))), (8, (bk (eA64u8 ((vset x997 (IntKind.i64.wrap (x995 - r2)).toNat (IntKind.u8.wrap (Int.tmod x1405 a0)))))))]⟩) (by kernel_rfl) ?_
          cases hb1499 : x1494
          · have h := ite_f hb1499 h
            refine a_cond_f rfl (a_exit (t_exit ?_))
            cases h
            have h := hX1492
            refine t_exit (b_exit (b_norm ?_))
            exact j_leaf ((x1450, (vset x997 (IntKind.i64.wrap (x995 - r2)).toNat (IntKind.u8.wrap (Int.tmod x1405 a0))))) (Option.some.inj h) (by kernel_rfl)
          · have h := ite_t hb1499 h
            refine a_cond_t rfl (a_skip (a_next (σ' := ⟨[(0, (i6 a0)), (4, (ow 4)), (5, (ow 5)), (6, (ow 6)), (7, (ow 7)), (8, (ow 8)), (9, (i6 r2)), (10, (i6 (IntKind.i64.wrap r7))), (11, (i6 x995)), (12, (i6 (Int.tmod x1405 a0))), (13, (i6 x1449))], [(4, (bk (eA64u8 x1450))), (5, (bk (eA64u8 a2))), (6, (bk (eA64u8 ((vrep 64 (0 : Int)))))), (7, (bk (eA64u8 ((vrep 64 (0 : Int)))))), (8, (bk (eA64u8 ((vset x997 (IntKind.i64.wrap (x995 - r2)).toNat (IntKind.u8.wrap (Int.tmod x1405 a0)))))))]⟩) (by kernel_rfl) (a_seq (a_block (a_draw [⟨[], [], [], []⟩, ⟨[], [], [], []⟩, ⟨[], [], [], [0, 1]⟩, ⟨[], [], [], []⟩, ⟨[], [], [], [0, 1, 2, 3]⟩, ⟨[], [], [], []⟩, ⟨[], [], [], []⟩, ⟨[], [], [], [5, 6]⟩, ⟨[], [], [], []⟩, ⟨[], [], [], [5, 6, 7, 8]⟩, ⟨[4], [], [4], [5, 6, 7, 8, 9]⟩, ⟨[4], [], [], [5, 6, 7, 8, 9, 10]⟩, ⟨[], [], [], [5, 6, 7, 8, 9, 10, 11]⟩, ⟨[], [], [], []⟩, ⟨[], [], [], []⟩, ⟨[5], [], [5], [14]⟩, ⟨[5], [], [], [14, 15]⟩, ⟨[], [], [], [14, 15, 16]⟩, ⟨[], [], [], [13, 14, 15, 16, 17]⟩, ⟨[], [], [], [5, 6, 7, 8, 9, 10, 11, 12, 13, 14, 15, 16, 17, 18]⟩, ⟨[], [], [], []⟩, ⟨[], [], [], [5, 6, 7, 8, 9, 10, 11, 12, 13, 14, 15, 16, 17, 18, 19, 20]⟩, ⟨[], [], [], []⟩, ⟨[], [], [], [5, 6, 7, 8, 9, 10, 11, 12, 13, 14, 15, 16, 17, 18, 19, 20, 21, 22]⟩, ⟨[], [], [], []⟩, ⟨[], [], [], [5, 6, 7, 8, 9, 10, 11, 12, 13, 14, 15, 16, 17, 18, 19, 20, 21, 22, 23, 24]⟩, ⟨[], [], [], [5, 6, 7, 8, 9, 10, 11, 12, 13, 14, 15, 16, 17, 18, 19, 20, 21, 22, 23, 24, 25]⟩, ⟨[4], [], [4], [0, 1, 2, 3, 4, 5, 6, 7, 8, 9, 10, 11, 12, 13, 14, 15, 16, 17, 18, 19, 20, 21, 22, 23, 24, 25, 26]⟩, ⟨[4], [4], [], [0, 1, 2, 3, 4, 5, 6, 7, 8, 9, 10, 11, 12, 13, 14, 15, 16, 17, 18, 19, 20, 21, 22, 23, 24, 25, 26, 27]⟩] (by kernel_rfl) (dp (i6 x995) rfl (by kernel_rfl) (dp (i6 r2) rfl (by kernel_rfl) (dp (i6 (IntKind.i64.wrap (x995 - r2))) rfl (by kernel_rfl) (dp (i6 x1449) rfl (by kernel_rfl) ?_)))))))))
            refine dp (i6 (IntKind.i64.wrap ((IntKind.i64.wrap (x995 - r2)) + x1449))) rfl (by kernel_rfl) (dp (i6 x995) rfl (by kernel_rfl) (dp (i6 r2) rfl (by kernel_rfl) (dp (i6 (IntKind.i64.wrap (x995 - r2))) rfl (by kernel_rfl) (dp (i6 x1449) rfl (by kernel_rfl) (dp (i6 (IntKind.i64.wrap ((IntKind.i64.wrap (x995 - r2)) + x1449))) rfl (by kernel_rfl) (d_cons ?_))))))
            obtain ⟨hc1516, h⟩ := ifp_some h
            refine vq (.own 4 [(IntKind.i64.wrap ((IntKind.i64.wrap (x995 - r2)) + x1449)).toNat] [(IntKind.i64.wrap ((IntKind.i64.wrap (x995 - r2)) + x1449)).toNat * 1]) rfl hc1516 (d_next (by kernel_rfl) (d_cons ?_))
            have hl1517 : LdOk [(IntKind.i64.wrap ((IntKind.i64.wrap (x995 - r2)) + x1449)).toNat] (eA64u8 x1450) [(IntKind.i64.wrap ((IntKind.i64.wrap (x995 - r2)) + x1449)).toNat * 1] 1 false (b8 ((rd x1450.1 (IntKind.i64.wrap ((IntKind.i64.wrap (x995 - r2)) + x1449)).toNat))) := (.arr (vlt x1450 hc1516) rfl (.nil rfl rfl rfl))
            obtain ⟨x1518, hx1519, h⟩ := letp_some h
            refine a_val' (v := (b8 ((rd x1450.1 (IntKind.i64.wrap ((IntKind.i64.wrap (x995 - r2)) + x1449)).toNat)))) (v' := (b8 x1518)) (u := []) (u' := []) (ld_own (i := ⟨.int .u8, 1, 1, (.int .u8 0)⟩) rfl rfl rfl hl1517) (congrArg (fun z => ((b8 z) : AV)) hx1519) rfl hl1517.c rfl (d_next (by kernel_rfl) (dp (i6 (IntKind.i64.wrap x1518)) rfl (by kernel_rfl) (dp (i6 (Int.tmod x1405 a0)) rfl (by kernel_rfl) (dp (i6 x1449) rfl (by kernel_rfl) (d_cons ?_)))))
            obtain ⟨hc1520, h⟩ := ifp_some h
            refine vq (.own 5 [x1449.toNat] [x1449.toNat * 1]) rfl hc1520 (d_next (by kernel_rfl) (d_cons ?_))
            have hl1521 : LdOk [x1449.toNat] (eA64u8 a2) [x1449.toNat * 1] 1 false (b8 (rd a2.1 x1449.toNat)) := (.arr (vlt a2 hc1520) rfl (.nil rfl rfl rfl))
            refine vq (b8 (rd a2.1 x1449.toNat)) (ld_own (i := ⟨.int .u8, 1, 1, (.int .u8 0)⟩) rfl rfl rfl hl1521) hl1521.c (d_next (by kernel_rfl) (dp (i6 (IntKind.i64.wrap (rd a2.1 x1449.toNat))) rfl (by kernel_rfl) (d_cons ?_)))
            obtain ⟨x1522, hx1523, h⟩ := letp_some h
            refine a_val' (v := (i6 (IntKind.i64.wrap ((Int.tmod x1405 a0) * (IntKind.i64.wrap (rd a2.1 x1449.toNat)))))) (v' := (i6 x1522)) (u := []) (u' := []) rfl (congrArg (fun z => ((i6 z) : AV)) hx1523) rfl trivial rfl (d_next (by kernel_rfl) (dp (i6 (IntKind.i64.wrap ((IntKind.i64.wrap x1518) - x1522))) rfl (by kernel_rfl) (dp (i6 a0) rfl (by kernel_rfl) (d_cons ?_))))
            obtain ⟨hc1524, h⟩ := ifp_some h
            obtain ⟨x1525, hx1526, h⟩ := letp_some h
            refine a_val' (v := (i6 (Int.tmod (IntKind.i64.wrap ((IntKind.i64.wrap x1518) - x1522)) a0))) (v' := (i6 x1525)) (u := []) (u' := []) rfl (congrArg (fun z => ((i6 z) : AV)) hx1526) rfl hc1524 rfl (d_next (by kernel_rfl) (dp (i6 a0) rfl (by kernel_rfl) (dp (i6 (IntKind.i64.wrap (x1525 + a0))) rfl (by kernel_rfl) (dp (i6 a0) rfl (by kernel_rfl) (d_cons ?_)))))
            obtain ⟨hc1527, h⟩ := ifp_some h
            refine vq (i6 (Int.tmod (IntKind.i64.wrap (x1525 + a0)) a0)) rfl hc1527 (d_next (by kernel_rfl) (d_cons ?_))
            obtain ⟨x1528, hx1529, h⟩ := letp_some h
            refine a_val' (v := (b8 (IntKind.u8.wrap (Int.tmod (IntKind.i64.wrap (x1525 + a0)) a0)))) (v' := (b8 x1528)) (u := []) (u' := []) rfl (congrArg (fun z => ((b8 z) : AV)) hx1529) rfl trivial rfl (d_next (by kernel_rfl) (d_cons ?_))
            obtain ⟨hc1530, h⟩ := ifp_some h
            refine vq (.own 4 [(IntKind.i64.wrap ((IntKind.i64.wrap (x995 - r2)) + x1449)).toNat] [(IntKind.i64.wrap ((IntKind.i64.wrap (x995 - r2)) + x1449)).toNat * 1]) rfl hc1530 (d_next (by kernel_rfl) (d_cons ?_))
            have hs1531 : StOk [(IntKind.i64.wrap ((IntKind.i64.wrap (x995 - r2)) + x1449)).toNat] (eA64u8 x1450) [(IntKind.i64.wrap ((IntKind.i64.wrap (x995 - r2)) + x1449)).toNat * 1] 1 (b8 x1528) (eA64u8 ((vset x1450 (IntKind.i64.wrap ((IntKind.i64.wrap (x995 - r2)) + x1449)).toNat x1528))) := (.arr (y := x1528) (vlt x1450 hc1530) rfl (.nil rfl rfl rfl rfl))
            refine vu .top [(4, (bk (eA64u8 ((vset x1450 (IntKind.i64.wrap ((IntKind.i64.wrap (x995 - r2)) + x1449)).toNat x1528)))))] (st_own (i := ⟨.int .u8, 1, 1, (.int .u8 0)⟩) rfl rfl (fun _ => rfl) rfl hs1531) (hs1531.c rfl) rfl (d_next (by kernel_rfl) (d_nil (b_norm (a_next (σ' := ⟨[(0, (i6 a0)), (4, (ow 4)), (5, (ow 5)), (6, (ow 6)), (7, (ow 7)), (8, (ow 8)), (9, (i6 r2)), (10, (i6 (IntKind.i64.wrap r7))), (11, (i6 x995)), (12, (i6 (Int.tmod x1405 a0))), (13, (i6 x1449))], [(4, (bk (eA64u8 ((vset x1450 (IntKind.i64.wrap ((IntKind.i64.wrap (x995 - r2)) + x1449)).toNat x1528))))), (5, (bk (eA64u8 a2))), (6, (bk (eA64u8 ((vrep 64 (0 : Int)))))), (7, (bk (eA64u8 ((vrep 64 (0 : Int)))))), (8, (bk (eA64u8 ((vset x997 (IntKind.i64.wrap (x995 - r2)).toNat (IntKind.u8.wrap (Int.tmod x1405 a0)))))))]⟩) (by kernel_rfl) (a_region (vp (i6 x1449) rfl (vp (i6 (IntKind.i64.wrap (x1449 + 1))) rfl (vp (i6 (IntKind.i64.wrap (x1449 + 1))) rfl (a_nil ?_)))))))))
            cases h
            exact a_again (by kernel_rfl) hX1492
        · have h := hy1496
          refine a_region (vp (i6 x1449) rfl (vp (i6 r2) rfl (vp (.bool ((decide (x1449 ≤ r2)))) rfl (vp (.bool ((decide (x1449 ≤ r2)))) rfl ?_))))
          cases hb1498 : (decide (x1449 ≤ r2))
          · have h := ite_f hb1498 h
            refine a_gskip rfl (a_gskip rfl (vp (.bool false) rfl (a_nil ?_)))
            exact j_leaf false (Option.some.inj h) (by kernel_rfl)
          · have h := ite_t hb1498 h
            refine gp (i6 (Int.tmod x1405 a0)) rfl rfl (gp (.bool (((Int.tmod x1405 a0) != 0))) rfl rfl (vp (.bool (((Int.tmod x1405 a0) != 0))) rfl (a_nil ?_)))
            exact j_leaf (((Int.tmod x1405 a0) != 0)) (Option.some.inj h) (by kernel_rfl)
def spec_l01Mod_c : ACode := (.seq (.region 0 [q 4 (.box 32 (t 1)), q 5 (.box 32 (t 2)), q 6 (.alloc 32)] false) (.seq (.region 1 [q 10 (.mov (t 0)), q 11 (.load 32 (t 4)), q 12 (.load 32 (t 5)), q 13 (.call 0 (.func 34) [(t 10), (t 11), (t 12)]), q 9 (.mov (t 13)), q 14 (.extract (t 9) 0), q 15 (.extract (t 9) 1), q 7 (.alloc 32), q 8 (.alloc 32), ⟨none, .store 32 (t 7) (t 14), none, []⟩, ⟨none, .store 32 (t 8) (t 15), none, []⟩] false) (.seq (.region 2 [q 16 (.load 32 (t 8)), ⟨none, .store 32 (t 6) (t 16), none, []⟩] false) .ret)))
def spec_l01Mod_L : Live := [(0, [0, 1, 2]), (1, [0, 4, 5, 6]), (2, [6, 8])]
noncomputable def spec_l01Mod (a0 : Int) (a1 : (Vec Int 64)) (a2 : (Vec Int 64)) : Option (Vec Int 64) :=
  (Option.bind (spec_l01Divide a0 a1 a2) fun r3 => (some r3.2))
theorem spec_l01Mod_ok (a0 : Int) (a1 : (Vec Int 64)) (a2 : (Vec Int 64)) (r : (Vec Int 64)) (h : spec_l01Mod a0 a1 a2 = some r) : Den Try.prog 23 [(i6 a0), (eA64u8 a1), (eA64u8 a2)] { r := (eA64u8 r) } := by
  refine den_of (rs := [(eA64u8 r)]) (ac := spec_l01Mod_c) (L := spec_l01Mod_L) (n := 17) (m := []) (c := Try.f23.body.getD .skip) good Try.func23 (by kernel_rfl) (by kernel_rfl) Try.ntmps23 rfl rfl (by kernel_rfl) rfl rfl ?_
  refine a_st (σ' := ⟨[(0, (i6 a0)), (1, (eA64u8 a1)), (2, (eA64u8 a2))], []⟩) (by kernel_rfl) ?_
  unfold spec_l01Mod_c
  refine sr (vo 1400 (eA64u8 a1) rfl rfl (vo 1500 (eA64u8 a2) rfl rfl (vo 1600 (eA64u8 ((vrep 64 (0 : Int)))) rfl rfl (nx ⟨[(0, (i6 a0)), (4, (ow 4)), (5, (ow 5)), (6, (ow 6))], [(4, (bk (eA64u8 a1))), (5, (bk (eA64u8 a2))), (6, (bk (eA64u8 ((vrep 64 (0 : Int))))))]⟩ (by kernel_rfl) (sr (vp (i6 a0) rfl (vl (eA64u8 a1) rfl rfl rfl rfl rfl rfl (vl (eA64u8 a2) rfl rfl rfl rfl rfl rfl ?_))))))))
  obtain ⟨r3, hr4, h⟩ := bind_some h
  refine a_call (args := [(i6 a0), (eA64u8 a1), (eA64u8 a2)]) (u := []) (r := (.tuple [(eA64u8 r3.1), (eA64u8 r3.2)])) rfl rfl (spec_l01Divide_ok a0 a1 a2 r3 hr4) rfl (vp (.tuple [(eA64u8 r3.1), (eA64u8 r3.2)]) rfl (vb (eA64u8 r3.1) rfl rfl (vb (eA64u8 r3.2) rfl rfl (vo 1700 (eA64u8 ((vrep 64 (0 : Int)))) rfl rfl (vo 1800 (eA64u8 ((vrep 64 (0 : Int)))) rfl rfl (vs (eA64u8 r3.1) rfl rfl (fun _ => rfl) rfl rfl rfl rfl rfl rfl (vs (eA64u8 r3.2) rfl rfl (fun _ => rfl) rfl rfl rfl rfl rfl rfl (nx ⟨[(6, (ow 6)), (8, (ow 8))], [(6, (bk (eA64u8 ((vrep 64 (0 : Int)))))), (8, (bk (eA64u8 r3.2)))]⟩ (by kernel_rfl) (sr ?_)))))))))
  refine vl (eA64u8 r3.2) rfl rfl rfl rfl rfl rfl (vs (eA64u8 r3.2) rfl rfl (fun _ => rfl) rfl rfl rfl rfl rfl rfl (nx _ rfl (a_ret ?_)))
  have hl9 : LdOk [] (eA64u8 r3.2) [] 64 true (eA64u8 r3.2) := (.nil rfl rfl rfl)
  refine ⟨.inr rfl, ?_⟩
  rw [Try.results23]
  cases h
  exact ⟨_, _, _, _, _, ld_own (i := ⟨.arr 64 5, 64, 64, (eA64u8 (vrep 64 (0 : Int)))⟩) rfl rfl rfl hl9, hl9.c, .inl ⟨rfl, .inl rfl⟩, rfl, rfl⟩
def spec_l01One_c : ACode := (.seq (.region 0 [q 0 (.alloc 32)] false) (.seq (.region 1 [q 1 (.build 32 [(0, (.const (.int .u8 1)))]), ⟨none, .store 32 (t 0) (t 1), none, []⟩] false) .ret))
def spec_l01One_L : Live := [(0, []), (1, [0])]
noncomputable def spec_l01One  : Option (Vec Int 64) :=
  (some ((vset (vrep 64 (0 : Int)) 0 1)))
theorem spec_l01One_ok  (r : (Vec Int 64)) (h : spec_l01One = some r) : Den Try.prog 35 [] { r := (eA64u8 r) } := by
  refine den_of (rs := [(eA64u8 r)]) (ac := spec_l01One_c) (L := spec_l01One_L) (n := 2) (m := []) (c := Try.f35.body.getD .skip) good Try.func35 (by kernel_rfl) (by kernel_rfl) Try.ntmps35 rfl rfl (by kernel_rfl) rfl rfl ?_
  refine a_st (σ' := ⟨[], []⟩) (by kernel_rfl) ?_
  unfold spec_l01One_c
  refine sr (vo 1000 (eA64u8 ((vrep 64 (0 : Int)))) rfl rfl (nx ⟨[(0, (ow 0))], [(0, (bk (eA64u8 ((vrep 64 (0 : Int))))))]⟩ (by kernel_rfl) (sr (vq (eA64u8 ((vset (vrep 64 (0 : Int)) 0 1))) rfl ⟨⟨_, rfl, rfl⟩, (all_cons ⟨(Nat.le_of_ble_eq_true rfl), rfl⟩ all_nil)⟩ (vs (eA64u8 ((vset (vrep 64 (0 : Int)) 0 1))) rfl rfl (fun _ => rfl) rfl rfl rfl rfl rfl rfl (nx _ rfl (a_ret ?_)))))))
  have hl2 : LdOk [] (eA64u8 ((vset (vrep 64 (0 : Int)) 0 1))) [] 64 true (eA64u8 ((vset (vrep 64 (0 : Int)) 0 1))) := (.nil rfl rfl rfl)
  refine ⟨.inr rfl, ?_⟩
  rw [Try.results35]
  cases h
  exact ⟨_, _, _, _, _, ld_own (i := ⟨.arr 64 5, 64, 64, (eA64u8 (vrep 64 (0 : Int)))⟩) rfl rfl rfl hl2, hl2.c, .inl ⟨rfl, .inl rfl⟩, rfl, rfl⟩
def spec_l01Up_c : ACode := (.seq (.region 0 [q 4 (.box 32 (t 1)), q 5 (.box 32 (t 2)), q 6 (.alloc 32)] false) (.seq (.region 1 [q 13 (.load 32 (t 5)), q 14 (.call 0 (.func 22) [(t 13)]), q 7 (.asg 0 (t 14) 2)] false) (.seq (.seq (.region 2 [q 15 (.mov (t 7)), q 16 (.bin .eql 2 (t 15) (.const (.int .i64 0)))] false) (.cond (t 16) (.seq (.region 3 [q 17 (.build 32 []), ⟨none, .store 32 (t 6) (t 17), none, []⟩] false) .ret) .skip)) (.seq (.region 4 [q 18 (.mov (t 7)), q 19 (.bin .sub 2 (t 18) (.const (.int .i64 1))), q 20 (.indexAddr 32 (t 4) (t 19)), q 21 (.load 5 (t 20)), q 22 (.conv 5 2 (t 21)), q 23 (.build 32 []), q 9 (.alloc 32), q 8 (.asg 0 (t 22) 2), ⟨none, .store 32 (t 9) (t 23), none, []⟩] false) (.seq (.seq (.region 5 [q 10 (.asg 0 (.const (.int .i64 1)) 2)] false) (.block 0 (.loop (.seq (.seq (.region 6 [q 24 (.mov (t 10)), q 25 (.mov (t 7)), q 26 (.bin .lss 2 (t 24) (t 25))] false) (.cond (t 26) .skip (.exit 0))) (.seq (.block 1 (.region 8 [q 29 (.mov (t 10)), q 30 (.mov (t 10)), q 31 (.bin .sub 2 (t 30) (.const (.int .i64 1))), q 32 (.indexAddr 32 (t 4) (t 31)), q 33 (.load 5 (t 32)), q 34 (.indexAddr 32 (t 9) (t 29)), ⟨none, .store 5 (t 34) (t 33), none, []⟩] false)) (.region 7 [q 27 (.mov (t 10)), q 28 (.bin .add 2 (t 27) (.const (.int .i64 1))), q 10 (.asg 0 (t 28) 2)] false)))))) (.seq (.region 9 [q 35 (.mov (t 8)), q 36 (.mov (t 0)), q 37 (.mov (t 7)), q 38 (.indexAddr 32 (t 5) (t 37)), q 39 (.load 5 (t 38)), q 40 (.call 0 (.func 49) [(t 36), (t 39)]), q 41 (.conv 5 2 (t 40)), q 42 (.bin .mul 2 (t 35) (t 41)), q 43 (.mov (t 0)), q 44 (.bin .rem 2 (t 42) (t 43)), q 11 (.asg 0 (t 44) 2)] false) (.seq (.seq (.region 10 [q 12 (.asg 0 (.const (.int .i64 0)) 2)] false) (.block 2 (.loop (.seq (.seq (.region 11 [q 45 (.mov (t 12)), q 46 (.mov (t 7)), q 47 (.bin .lss 2 (t 45) (t 46))] false) (.cond (t 47) .skip (.exit 2))) (.seq (.block 3 (.region 13 [q 50 (.mov (t 12)), q 51 (.mov (t 12)), ⟨some 52, .indexAddr 32 (t 9) (t 51), none, [1]⟩, ⟨some 53, .load 5 (t 52), none, [2]⟩, ⟨some 54, .conv 5 2 (t 53), none, [3]⟩, q 55 (.mov (t 11)), q 56 (.mov (t 12)), ⟨some 57, .indexAddr 32 (t 5) (t 56), none, [6]⟩, ⟨some 58, .load 5 (t 57), none, [7]⟩, ⟨some 59, .conv 5 2 (t 58), none, [8]⟩, ⟨some 60, .bin .mul 2 (t 55) (t 59), none, [5, 9]⟩, ⟨some 61, .bin .sub 2 (t 54) (t 60), none, [4, 10]⟩, q 62 (.mov (t 0)), ⟨some 63, .bin .rem 2 (t 61) (t 62), none, [11, 12]⟩, q 64 (.mov (t 0)), ⟨some 65, .bin .add 2 (t 63) (t 64), none, [13, 14]⟩, q 66 (.mov (t 0)), ⟨some 67, .bin .rem 2 (t 65) (t 66), none, [15, 16]⟩, ⟨some 68, .conv 2 5 (t 67), none, [17]⟩, ⟨some 69, .indexAddr 32 (t 9) (t 50), none, [0, 0, 1, 2, 3, 4, 5, 6, 7, 8, 9, 10, 11, 12, 13, 14, 15, 16, 17, 18]⟩, ⟨none, .store 5 (t 69) (t 68), none, [19, 18, 0, 1, 2, 3, 4, 5, 6, 7, 8, 9, 10, 11, 12, 13, 14, 15, 16, 17, 18]⟩] true)) (.region 12 [q 48 (.mov (t 12)), q 49 (.bin .add 2 (t 48) (.const (.int .i64 1))), q 12 (.asg 0 (t 49) 2)] false)))))) (.seq (.region 14 [q 70 (.load 32 (t 9)), ⟨none, .store 32 (t 6) (t 70), none, []⟩] false) .ret))))))))
def spec_l01Up_L : Live := [(0, [0, 1, 2]), (1, [0, 4, 5, 6]), (2, [0, 4, 5, 6, 7]), (3, [6]), (4, [0, 4, 5, 6, 7]), (5, [0, 4, 5, 6, 7, 8, 9]), (6, [0, 4, 5, 6, 7, 8, 9, 10]), (7, [0, 4, 5, 6, 7, 8, 9, 10]), (8, [0, 4, 5, 6, 7, 8, 9, 10]), (9, [0, 5, 6, 7, 8, 9]), (10, [0, 5, 6, 7, 9, 11]), (11, [0, 5, 6, 7, 9, 11, 12]), (12, [0, 5, 6, 7, 9, 11, 12]), (13, [0, 5, 6, 7, 9, 11, 12]), (14, [6, 9]), (100016, [0, 4, 5, 6, 7, 16]), (100026, [0, 4, 5, 6, 7, 8, 9, 10, 26]), (100047, [0, 5, 6, 7, 9, 11, 12, 47])]
noncomputable def spec_l01Up_l1 (r2 : Int) (a1 : (Vec Int 64)) (x40 : Int) (x41 : (Vec Int 64)) : Option ((Int × (Vec Int 64)) ⊕ (Vec Int 64)) :=
  (if (decide (x40 < r2)) then (ifp (0 ≤ IntKind.i64.wrap (x40 - 1) ∧ IntKind.i64.wrap (x40 - 1) < ((64 : Nat) : Int)) ((ifp (0 ≤ x40 ∧ x40 < ((64 : Nat) : Int)) ((some (.inl ((IntKind.i64.wrap (x40 + 1), (vset x41 x40.toNat ((rd a1.1 (IntKind.i64.wrap (x40 - 1)).toNat))))))))))) else (some (.inr x41)))
noncomputable def spec_l01Up_l2 (r2 : Int) (x7 : Int) (r58 : Int) (a0 : Int) (a2 : (Vec Int 64)) (x187 : Int) (x188 : (Vec Int 64)) : Option ((Int × (Vec Int 64)) ⊕ (Vec Int 64)) :=
  (if (decide (x187 < r2)) then (ifp (0 ≤ x187 ∧ x187 < ((64 : Nat) : Int)) ((ifp (0 ≤ x187 ∧ x187 < ((64 : Nat) : Int)) ((letp (IntKind.i64.wrap ((Int.tmod (IntKind.i64.wrap (x7 * (IntKind.i64.wrap r58))) a0) * (IntKind.i64.wrap (rd a2.1 x187.toNat)))) fun x240 => (letp (IntKind.i64.wrap ((IntKind.i64.wrap (rd x188.1 x187.toNat)) - x240)) fun x242 => (ifp (a0 ≠ 0) ((ifp (a0 ≠ 0) ((letp (IntKind.u8.wrap (Int.tmod (IntKind.i64.wrap ((Int.tmod x242 a0) + a0)) a0)) fun x246 => (ifp (0 ≤ x187 ∧ x187 < ((64 : Nat) : Int)) ((some (.inl ((IntKind.i64.wrap (x187 + 1), (vset x188 x187.toNat x246)))))))))))))))))) else (some (.inr x188)))
noncomputable def spec_l01Up (a0 : Int) (a1 : (Vec Int 64)) (a2 : (Vec Int 64)) : Option (Vec Int 64) :=
  (Option.bind (spec_l01Deg a2) fun r2 => (if (r2 == 0) then (some ((vrep 64 (0 : Int)))) else (ifp (0 ≤ IntKind.i64.wrap (r2 - 1) ∧ IntKind.i64.wrap (r2 - 1) < ((64 : Nat) : Int)) ((letp (IntKind.i64.wrap ((rd a1.1 (IntKind.i64.wrap (r2 - 1)).toNat))) fun x7 => (Option.bind (α := (Vec Int 64)) ((loopM (fun s : (Int × (Vec Int 64)) => spec_l01Up_l1 r2 a1 s.1 s.2) (1, (vrep 64 (0 : Int))))) fun x31 => (ifp (0 ≤ r2 ∧ r2 < ((64 : Nat) : Int)) ((Option.bind (spec_l01Inverse a0 (rd a2.1 r2.toNat)) fun r58 => (ifp (a0 ≠ 0) ((Option.bind (α := (Vec Int 64)) ((loopM (fun s : (Int × (Vec Int 64)) => spec_l01Up_l2 r2 x7 r58 a0 a2 s.1 s.2) (0, x31))) fun x154 => (some x154)))))))))))))
theorem spec_l01Up_ok (a0 : Int) (a1 : (Vec Int 64)) (a2 : (Vec Int 64)) (r : (Vec Int 64)) (h : spec_l01Up a0 a1 a2 = some r) : Den Try.prog 50 [(i6 a0), (eA64u8 a1), (eA64u8 a2)] { r := (eA64u8 r) } := by
  refine den_of (rs := [(eA64u8 r)]) (ac := spec_l01Up_c) (L := spec_l01Up_L) (n := 71) (m := []) (c := Try.f50.body.getD .skip) good Try.func50 (by kernel_rfl) (by kernel_rfl) Try.ntmps50 rfl rfl (by kernel_rfl) rfl rfl ?_
  refine a_st (σ' := ⟨[(0, (i6 a0)), (1, (eA64u8 a1)), (2, (eA64u8 a2))], []⟩) (by kernel_rfl) ?_
  unfold spec_l01Up_c
  refine sr (vo 1400 (eA64u8 a1) rfl rfl (vo 1500 (eA64u8 a2) rfl rfl (vo 1600 (eA64u8 ((vrep 64 (0 : Int)))) rfl rfl (nx ⟨[(0, (i6 a0)), (4, (ow 4)), (5, (ow 5)), (6, (ow 6))], [(4, (bk (eA64u8 a1))), (5, (bk (eA64u8 a2))), (6, (bk (eA64u8 ((vrep 64 (0 : Int))))))]⟩ (by kernel_rfl) (sr (vl (eA64u8 a2) rfl rfl rfl rfl rfl rfl ?_))))))
  obtain ⟨r2, hr3, h⟩ := bind_some h
  refine a_call (args := [(eA64u8 a2)]) (u := []) (r := (i6 r2)) rfl rfl (spec_l01Deg_ok a2 r2 hr3) rfl (vp (i6 r2) rfl (nx ⟨[(0, (i6 a0)), (4, (ow 4)), (5, (ow 5)), (6, (ow 6)), (7, (i6 r2))], [(4, (bk (eA64u8 a1))), (5, (bk (eA64u8 a2))), (6, (bk (eA64u8 ((vrep 64 (0 : Int))))))]⟩ (by kernel_rfl) (a_seq (sr (vp (i6 r2) rfl (vp (.bool (r2 == 0)) rfl (nx ⟨[(0, (i6 a0)), (4, (ow 4)), (5, (ow 5)), (6, (ow 6)), (7, (i6 r2)), (16, (.bool (r2 == 0)))], [(4, (bk (eA64u8 a1))), (5, (bk (eA64u8 a2))), (6, (bk (eA64u8 ((vrep 64 (0 : Int))))))]⟩ (by kernel_rfl) ?_)))))))
  cases hb4 : (r2 == 0)
  · have h := ite_f hb4 h
    refine a_cond_f rfl (a_skip (a_next (σ' := ⟨[(0, (i6 a0)), (4, (ow 4)), (5, (ow 5)), (6, (ow 6)), (7, (i6 r2))], [(4, (bk (eA64u8 a1))), (5, (bk (eA64u8 a2))), (6, (bk (eA64u8 ((vrep 64 (0 : Int))))))]⟩) (by kernel_rfl) (sr (vp (i6 r2) rfl (vp (i6 (IntKind.i64.wrap (r2 - 1))) rfl ?_)))))
    obtain ⟨hc5, h⟩ := ifp_some h
    refine vq (.own 4 [(IntKind.i64.wrap (r2 - 1)).toNat] [(IntKind.i64.wrap (r2 - 1)).toNat * 1]) rfl hc5 ?_
    have hl6 : LdOk [(IntKind.i64.wrap (r2 - 1)).toNat] (eA64u8 a1) [(IntKind.i64.wrap (r2 - 1)).toNat * 1] 1 false (b8 ((rd a1.1 (IntKind.i64.wrap (r2 - 1)).toNat))) := (.arr (vlt a1 hc5) rfl (.nil rfl rfl rfl))
    refine vq (b8 ((rd a1.1 (IntKind.i64.wrap (r2 - 1)).toNat))) (ld_own (i := ⟨.int .u8, 1, 1, (.int .u8 0)⟩) rfl rfl rfl hl6) hl6.c ?_
    obtain ⟨x7, hx8, h⟩ := letp_some h
    refine a_val' (v := (i6 (IntKind.i64.wrap ((rd a1.1 (IntKind.i64.wrap (r2 - 1)).toNat))))) (v' := (i6 x7)) (u := []) (u' := []) rfl (congrArg (fun z => ((i6 z) : AV)) hx8) rfl trivial rfl (vq (eA64u8 ((vrep 64 (0 : Int)))) rfl ⟨⟨_, rfl, rfl⟩, all_nil⟩ (vo 1900 (eA64u8 ((vrep 64 (0 : Int)))) rfl rfl (vp (i6 x7) rfl (vs (eA64u8 ((vrep 64 (0 : Int)))) rfl rfl (fun _ => rfl) rfl rfl rfl rfl rfl rfl (nx ⟨[(0, (i6 a0)), (4, (ow 4)), (5, (ow 5)), (6, (ow 6)), (7, (i6 r2)), (8, (i6 x7)), (9, (ow 9))], [(4, (bk (eA64u8 a1))), (5, (bk (eA64u8 a2))), (6, (bk (eA64u8 ((vrep 64 (0 : Int)))))), (9, (bk (eA64u8 ((vrep 64 (0 : Int))))))]⟩ (by kernel_rfl) ?_)))))
    obtain ⟨y32, hy33, hk34⟩ := bind_some h
    clear h
    refine a_join (emb := fun (s : (Vec Int 64)) => ⟨[(0, (i6 a0)), (5, (ow 5)), (6, (ow 6)), (7, (i6 r2)), (8, (i6 x7)), (9, (ow 9))], [(5, (bk (eA64u8 a2))), (6, (bk (eA64u8 ((vrep 64 (0 : Int)))))), (9, (bk (eA64u8 s)))]⟩) (pre := fun s => s = y32) ?_ ?_
    · rintro x31 rfl
      have h := hk34
      refine a_st (σ' := ⟨[(0, (i6 a0)), (5, (ow 5)), (6, (ow 6)), (7, (i6 r2)), (8, (i6 x7)), (9, (ow 9))], [(5, (bk (eA64u8 a2))), (6, (bk (eA64u8 ((vrep 64 (0 : Int)))))), (9, (bk (eA64u8 x31)))]⟩) (by kernel_rfl) (sr (vp (i6 x7) rfl (vp (i6 a0) rfl (vp (i6 r2) rfl ?_))))
      obtain ⟨hc56, h⟩ := ifp_some h
      refine vq (.own 5 [r2.toNat] [r2.toNat * 1]) rfl hc56 ?_
      have hl57 : LdOk [r2.toNat] (eA64u8 a2) [r2.toNat * 1] 1 false (b8 (rd a2.1 r2.toNat)) := (.arr (vlt a2 hc56) rfl (.nil rfl rfl rfl))
      refine vq (b8 (rd a2.1 r2.toNat)) (ld_own (i := ⟨.int .u8, 1, 1, (.int .u8 0)⟩) rfl rfl rfl hl57) hl57.c ?_
      obtain ⟨r58, hr59, h⟩ := bind_some h
      refine a_call (args := [(i6 a0), (b8 (rd a2.1 r2.toNat))]) (u := []) (r := (b8 r58)) rfl rfl (spec_l01Inverse_ok a0 (rd a2.1 r2.toNat) r58 hr59) rfl (vp (i6 (IntKind.i64.wrap r58)) rfl (vp (i6 (IntKind.i64.wrap (x7 * (IntKind.i64.wrap r58)))) rfl (vp (i6 a0) rfl ?_)))
      obtain ⟨hc60, h⟩ := ifp_some h
      refine vq (i6 (Int.tmod (IntKind.i64.wrap (x7 * (IntKind.i64.wrap r58))) a0)) rfl hc60 (vp (i6 (Int.tmod (IntKind.i64.wrap (x7 * (IntKind.i64.wrap r58))) a0)) rfl (nx ⟨[(0, (i6 a0)), (5, (ow 5)), (6, (ow 6)), (7, (i6 r2)), (9, (ow 9)), (11, (i6 (Int.tmod (IntKind.i64.wrap (x7 * (IntKind.i64.wrap r58))) a0)))], [(5, (bk (eA64u8 a2))), (6, (bk (eA64u8 ((vrep 64 (0 : Int)))))), (9, (bk (eA64u8 x31)))]⟩ (by kernel_rfl) ?_))
      obtain ⟨y155, hy156, hk157⟩ := bind_some h
      clear h
      refine a_join (emb := fun (s : (Vec Int 64)) => ⟨[(6, (ow 6)), (9, (ow 9))], [(6, (bk (eA64u8 ((vrep 64 (0 : Int)))))), (9, (bk (eA64u8 s)))]⟩) (pre := fun s => s = y155) ?_ ?_
      · rintro x154 rfl
        have h := hk157
        refine a_st (σ' := ⟨[(6, (ow 6)), (9, (ow 9))], [(6, (bk (eA64u8 ((vrep 64 (0 : Int)))))), (9, (bk (eA64u8 x154)))]⟩) (by kernel_rfl) (sr (vl (eA64u8 x154) rfl rfl rfl rfl rfl rfl (vs (eA64u8 x154) rfl rfl (fun _ => rfl) rfl rfl rfl rfl rfl rfl (nx _ rfl (a_ret ?_)))))
        have hl253 : LdOk [] (eA64u8 x154) [] 64 true (eA64u8 x154) := (.nil rfl rfl rfl)
        refine ⟨.inr rfl, ?_⟩
        rw [Try.results50]
        cases h
        exact ⟨_, _, _, _, _, ld_own (i := ⟨.arr 64 5, 64, 64, (eA64u8 (vrep 64 (0 : Int)))⟩) rfl rfl rfl hl253, hl253.c, .inl ⟨rfl, .inl rfl⟩, rfl, rfl⟩
      · have h := hy156
        refine sr (vp (i6 0) rfl (nx ⟨[(0, (i6 a0)), (5, (ow 5)), (6, (ow 6)), (7, (i6 r2)), (9, (ow 9)), (11, (i6 (Int.tmod (IntKind.i64.wrap (x7 * (IntKind.i64.wrap r58))) a0))), (12, (i6 0))], [(5, (bk (eA64u8 a2))), (6, (bk (eA64u8 ((vrep 64 (0 : Int)))))), (9, (bk (eA64u8 x31)))]⟩ (by kernel_rfl) (a_block ?_)))
        refine a_loop (emb := fun (s : (Int × (Vec Int 64))) => ⟨[(0, (i6 a0)), (5, (ow 5)), (6, (ow 6)), (7, (i6 r2)), (9, (ow 9)), (11, (i6 (Int.tmod (IntKind.i64.wrap (x7 * (IntKind.i64.wrap r58))) a0))), (12, (i6 s.1))], [(5, (bk (eA64u8 a2))), (6, (bk (eA64u8 ((vrep 64 (0 : Int)))))), (9, (bk (eA64u8 s.2)))]⟩) (body := (fun s : (Int × (Vec Int 64)) => spec_l01Up_l2 r2 x7 r58 a0 a2 s.1 s.2)) (G := fun q => some q = some y155) h rfl ?_ (by kernel_rfl)
        rintro X218 ⟨x187, x188⟩ x219 h hX220
        have h : spec_l01Up_l2 r2 x7 r58 a0 a2 x187 x188 = some x219 := h
        refine a_st (σ' := ⟨[(0, (i6 a0)), (5, (ow 5)), (6, (ow 6)), (7, (i6 r2)), (9, (ow 9)), (11, (i6 (Int.tmod (IntKind.i64.wrap (x7 * (IntKind.i64.wrap r58))) a0))), (12, (i6 x187))], [(5, (bk (eA64u8 a2))), (6, (bk (eA64u8 ((vrep 64 (0 : Int)))))), (9, (bk (eA64u8 x188)))]⟩) (by kernel_rfl) (a_seq (sr (vp (i6 x187) rfl (vp (i6 r2) rfl (vp (.bool ((decide (x187 < r2)))) rfl (nx ⟨[(0, (i6 a0)), (5, (ow 5)), (6, (ow 6)), (7, (i6 r2)), (9, (ow 9)), (11, (i6 (Int.tmod (IntKind.i64.wrap (x7 * (IntKind.i64.wrap r58))) a0))), (12, (i6 x187)), (47, (.bool ((decide (x187 < r2)))))], [(5, (bk (eA64u8 a2))), (6, (bk (eA64u8 ((vrep 64 (0 : Int)))))), (9, (bk (eA64u8 x188)))]⟩ (by kernel_rfl) ?_))))))
        cases hb221 : (decide (x187 < r2))
        · have h := ite_f hb221 h
          refine a_cond_f rfl (a_exit (t_exit ?_))
          cases h
          have h := hX220
          refine t_exit (b_exit ?_)
          exact j_leaf x188 (Option.some.inj h) (by kernel_rfl)
        · have h := ite_t hb221 h
          refine a_cond_t rfl (a_skip (a_next (σ' := ⟨[(0, (i6 a0)), (5, (ow 5)), (6, (ow 6)), (7, (i6 r2)), (9, (ow 9)), (11, (i6 (Int.tmod (IntKind.i64.wrap (x7 * (IntKind.i64.wrap r58))) a0))), (12, (i6 x187))], [(5, (bk (eA64u8 a2))), (6, (bk (eA64u8 ((vrep 64 (0 : Int)))))), (9, (bk (eA64u8 x188)))]⟩) (by kernel_rfl) (a_seq (a_block (a_draw [⟨[], [], [], []⟩, ⟨[], [], [], []⟩, ⟨[9], [], [9], [1]⟩, ⟨[9], [], [], [1, 2]⟩, ⟨[], [], [], [1, 2, 3]⟩, ⟨[], [], [], []⟩, ⟨[], [], [], []⟩, ⟨[5], [], [5], [6]⟩, ⟨[5], [], [], [6, 7]⟩, ⟨[], [], [], [6, 7, 8]⟩, ⟨[], [], [], [5, 6, 7, 8, 9]⟩, ⟨[], [], [], [1, 2, 3, 4, 5, 6, 7, 8, 9, 10]⟩, ⟨[], [], [], []⟩, ⟨[], [], [], [1, 2, 3, 4, 5, 6, 7, 8, 9, 10, 11, 12]⟩, ⟨[], [], [], []⟩, ⟨[], [], [], [1, 2, 3, 4, 5, 6, 7, 8, 9, 10, 11, 12, 13, 14]⟩, ⟨[], [], [], []⟩, ⟨[], [], [], [1, 2, 3, 4, 5, 6, 7, 8, 9, 10, 11, 12, 13, 14, 15, 16]⟩, ⟨[], [], [], [1, 2, 3, 4, 5, 6, 7, 8, 9, 10, 11, 12, 13, 14, 15, 16, 17]⟩, ⟨[9], [], [9], [0, 1, 2, 3, 4, 5, 6, 7, 8, 9, 10, 11, 12, 13, 14, 15, 16, 17, 18]⟩, ⟨[9], [9], [], [0, 1, 2, 3, 4, 5, 6, 7, 8, 9, 10, 11, 12, 13, 14, 15, 16, 17, 18, 19]⟩] (by kernel_rfl) (dp (i6 x187) rfl (by kernel_rfl) (dp (i6 x187) rfl (by kernel_rfl) (d_cons ?_))))))))
          obtain ⟨hc236, h⟩ := ifp_some h
          refine vq (.own 9 [x187.toNat] [x187.toNat * 1]) rfl hc236 (d_next (by kernel_rfl) (d_cons ?_))
          have hl237 : LdOk [x187.toNat] (eA64u8 x188) [x187.toNat * 1] 1 false (b8 (rd x188.1 x187.toNat)) := (.arr (vlt x188 hc236) rfl (.nil rfl rfl rfl))
          refine vq (b8 (rd x188.1 x187.toNat)) (ld_own (i := ⟨.int .u8, 1, 1, (.int .u8 0)⟩) rfl rfl rfl hl237) hl237.c (d_next (by kernel_rfl) (dp (i6 (IntKind.i64.wrap (rd x188.1 x187.toNat))) rfl (by kernel_rfl) (dp (i6 (Int.tmod (IntKind.i64.wrap (x7 * (IntKind.i64.wrap r58))) a0)) rfl (by kernel_rfl) (dp (i6 x187) rfl (by kernel_rfl) (d_cons ?_)))))
          obtain ⟨hc238, h⟩ := ifp_some h
          refine vq (.own 5 [x187.toNat] [x187.toNat * 1]) rfl hc238 (d_next (by kernel_rfl) (d_cons ?_))
          have hl239 : LdOk [x187.toNat] (eA64u8 a2) [x187.toNat * 1] 1 false (b8 (rd a2.1 x187.toNat)) := (.arr (vlt a2 hc238) rfl (.nil rfl rfl rfl))
          refine vq (b8 (rd a2.1 x187.toNat)) (ld_own (i := ⟨.int .u8, 1, 1, (.int .u8 0)⟩) rfl rfl rfl hl239) hl239.c (d_next (by kernel_rfl) (dp (i6 (IntKind.i64.wrap (rd a2.1 x187.toNat))) rfl (by kernel_rfl) (d_cons ?_)))
          obtain ⟨x240, hx241, h⟩ := letp_some h
          refine a_val' (v := (i6 (IntKind.i64.wrap ((Int.tmod (IntKind.i64.wrap (x7 * (IntKind.i64.wrap r58))) a0) * (IntKind.i64.wrap (rd a2.1 x187.toNat)))))) (v' := (i6 x240)) (u := []) (u' := []) rfl (congrArg (fun z => ((i6 z) : AV)) hx241) rfl trivial rfl (d_next (by kernel_rfl) (d_cons ?_))
          obtain ⟨x242, hx243, h⟩ := letp_some h
          refine a_val' (v := (i6 (IntKind.i64.wrap ((IntKind.i64.wrap (rd x188.1 x187.toNat)) - x240)))) (v' := (i6 x242)) (u := []) (u' := []) rfl (congrArg (fun z => ((i6 z) : AV)) hx243) rfl trivial rfl (d_next (by kernel_rfl) (dp (i6 a0) rfl (by kernel_rfl) (d_cons ?_)))
          obtain ⟨hc244, h⟩ := ifp_some h
          refine vq (i6 (Int.tmod x242 a0)) rfl hc244 (d_next (by kernel_rfl) (dp (i6 a0) rfl (by kernel_rfl) (dp (i6 (IntKind.i64.wrap ((Int.tmod x242 a0) + a0))) rfl (by kernel_rfl) (dp (i6 a0) rfl (by kernel_rfl) (d_cons ?_)))))
          obtain ⟨hc245, h⟩ := ifp_some h
          refine vq (i6 (Int.tmod (IntKind.i64.wrap ((Int.tmod x242 a0) + a0)) a0)) rfl hc245 (d_next (by kernel_rfl) (d_cons ?_))
          obtain ⟨x246, hx247, h⟩ := letp_some h
          refine a_val' (v := (b8 (IntKind.u8.wrap (Int.tmod (IntKind.i64.wrap ((Int.tmod x242 a0) + a0)) a0)))) (v' := (b8 x246)) (u := []) (u' := []) rfl (congrArg (fun z => ((b8 z) : AV)) hx247) rfl trivial rfl (d_next (by kernel_rfl) (d_cons ?_))
          obtain ⟨hc248, h⟩ := ifp_some h
          refine vq (.own 9 [x187.toNat] [x187.toNat * 1]) rfl hc248 (d_next (by kernel_rfl) (d_cons ?_))
          have hs249 : StOk [x187.toNat] (eA64u8 x188) [x187.toNat * 1] 1 (b8 x246) (eA64u8 (vset x188 x187.toNat x246)) := (.arr (y := x246) (vlt x188 hc248) rfl (.nil rfl rfl rfl rfl))
          refine vu .top [(9, (bk (eA64u8 (vset x188 x187.toNat x246))))] (st_own (i := ⟨.int .u8, 1, 1, (.int .u8 0)⟩) rfl rfl (fun _ => rfl) rfl hs249) (hs249.c rfl) rfl (d_next (by kernel_rfl) (d_nil (b_norm (a_next (σ' := ⟨[(0, (i6 a0)), (5, (ow 5)), (6, (ow 6)), (7, (i6 r2)), (9, (ow 9)), (11, (i6 (Int.tmod (IntKind.i64.wrap (x7 * (IntKind.i64.wrap r58))) a0))), (12, (i6 x187))], [(5, (bk (eA64u8 a2))), (6, (bk (eA64u8 ((vrep 64 (0 : Int)))))), (9, (bk (eA64u8 (vset x188 x187.toNat x246))))]⟩) (by kernel_rfl) (a_region (vp (i6 x187) rfl (vp (i6 (IntKind.i64.wrap (x187 + 1))) rfl (vp (i6 (IntKind.i64.wrap (x187 + 1))) rfl (a_nil ?_)))))))))
          cases h
          exact a_again (by kernel_rfl) hX220
    · have h := hy33
      refine sr (vp (i6 1) rfl (nx ⟨[(0, (i6 a0)), (4, (ow 4)), (5, (ow 5)), (6, (ow 6)), (7, (i6 r2)), (8, (i6 x7)), (9, (ow 9)), (10, (i6 1))], [(4, (bk (eA64u8 a1))), (5, (bk (eA64u8 a2))), (6, (bk (eA64u8 ((vrep 64 (0 : Int)))))), (9, (bk (eA64u8 ((vrep 64 (0 : Int))))))]⟩ (by kernel_rfl) (a_block ?_)))
      refine a_loop (emb := fun (s : (Int × (Vec Int 64))) => ⟨[(0, (i6 a0)), (4, (ow 4)), (5, (ow 5)), (6, (ow 6)), (7, (i6 r2)), (8, (i6 x7)), (9, (ow 9)), (10, (i6 s.1))], [(4, (bk (eA64u8 a1))), (5, (bk (eA64u8 a2))), (6, (bk (eA64u8 ((vrep 64 (0 : Int)))))), (9, (bk (eA64u8 s.2)))]⟩) (body := (fun s : (Int × (Vec Int 64)) => spec_l01Up_l1 r2 a1 s.1 s.2)) (G := fun q => some q = some y32) h rfl ?_ (by kernel_rfl)
      rintro X47 ⟨x40, x41⟩ x48 h hX49
      have h : spec_l01Up_l1 r2 a1 x40 x41 = some x48 := h
      refine a_st (σ' := ⟨[(0, (i6 a0)), (4, (ow 4)), (5, (ow 5)), (6, (ow 6)), (7, (i6 r2)), (8, (i6 x7)), (9, (ow 9)), (10, (i6 x40))], [(4, (bk (eA64u8 a1))), (5, (bk (eA64u8 a2))), (6, (bk (eA64u8 ((vrep 64 (0 : Int)))))), (9, (bk (eA64u8 x41)))]⟩) (by kernel_rfl) (a_seq (sr (vp (i6 x40) rfl (vp (i6 r2) rfl (vp (.bool ((decide (x40 < r2)))) rfl (nx ⟨[(0, (i6 a0)), (4, (ow 4)), (5, (ow 5)), (6, (ow 6)), (7, (i6 r2)), (8, (i6 x7)), (9, (ow 9)), (10, (i6 x40)), (26, (.bool ((decide (x40 < r2)))))], [(4, (bk (eA64u8 a1))), (5, (bk (eA64u8 a2))), (6, (bk (eA64u8 ((vrep 64 (0 : Int)))))), (9, (bk (eA64u8 x41)))]⟩ (by kernel_rfl) ?_))))))
      cases hb50 : (decide (x40 < r2))
      · have h := ite_f hb50 h
        refine a_cond_f rfl (a_exit (t_exit ?_))
        cases h
        have h := hX49
        refine t_exit (b_exit ?_)
        exact j_leaf x41 (Option.some.inj h) (by kernel_rfl)
      · have h := ite_t hb50 h
        refine a_cond_t rfl (a_skip (a_next (σ' := ⟨[(0, (i6 a0)), (4, (ow 4)), (5, (ow 5)), (6, (ow 6)), (7, (i6 r2)), (8, (i6 x7)), (9, (ow 9)), (10, (i6 x40))], [(4, (bk (eA64u8 a1))), (5, (bk (eA64u8 a2))), (6, (bk (eA64u8 ((vrep 64 (0 : Int)))))), (9, (bk (eA64u8 x41)))]⟩) (by kernel_rfl) (a_seq (a_block (a_region (vp (i6 x40) rfl (vp (i6 x40) rfl (vp (i6 (IntKind.i64.wrap (x40 - 1))) rfl ?_))))))))
        obtain ⟨hc51, h⟩ := ifp_some h
        refine vq (.own 4 [(IntKind.i64.wrap (x40 - 1)).toNat] [(IntKind.i64.wrap (x40 - 1)).toNat * 1]) rfl hc51 ?_
        have hl52 : LdOk [(IntKind.i64.wrap (x40 - 1)).toNat] (eA64u8 a1) [(IntKind.i64.wrap (x40 - 1)).toNat * 1] 1 false (b8 ((rd a1.1 (IntKind.i64.wrap (x40 - 1)).toNat))) := (.arr (vlt a1 hc51) rfl (.nil rfl rfl rfl))
        refine vq (b8 ((rd a1.1 (IntKind.i64.wrap (x40 - 1)).toNat))) (ld_own (i := ⟨.int .u8, 1, 1, (.int .u8 0)⟩) rfl rfl rfl hl52) hl52.c ?_
        obtain ⟨hc53, h⟩ := ifp_some h
        refine vq (.own 9 [x40.toNat] [x40.toNat * 1]) rfl hc53 ?_
        have hs54 : StOk [x40.toNat] (eA64u8 x41) [x40.toNat * 1] 1 (b8 ((rd a1.1 (IntKind.i64.wrap (x40 - 1)).toNat))) (eA64u8 ((vset x41 x40.toNat ((rd a1.1 (IntKind.i64.wrap (x40 - 1)).toNat))))) := (.arr (y := (rd a1.1 (IntKind.i64.wrap (x40 - 1)).toNat)) (vlt x41 hc53) rfl (.nil rfl rfl rfl rfl))
        refine vu .top [(9, (bk (eA64u8 ((vset x41 x40.toNat ((rd a1.1 (IntKind.i64.wrap (x40 - 1)).toNat)))))))] (st_own (i := ⟨.int .u8, 1, 1, (.int .u8 0)⟩) rfl rfl (fun _ => rfl) rfl hs54) (hs54.c rfl) rfl (a_nil (b_norm (a_next (σ' := ⟨[(0, (i6 a0)), (4, (ow 4)), (5, (ow 5)), (6, (ow 6)), (7, (i6 r2)), (8, (i6 x7)), (9, (ow 9)), (10, (i6 x40))], [(4, (bk (eA64u8 a1))), (5, (bk (eA64u8 a2))), (6, (bk (eA64u8 ((vrep 64 (0 : Int)))))), (9, (bk (eA64u8 ((vset x41 x40.toNat ((rd a1.1 (IntKind.i64.wrap (x40 - 1)).toNat)))))))]⟩) (by kernel_rfl) (a_region (vp (i6 x40) rfl (vp (i6 (IntKind.i64.wrap (x40 + 1))) rfl (vp (i6 (IntKind.i64.wrap (x40 + 1))) rfl (a_nil ?_))))))))
        cases h
        exact a_again (by kernel_rfl) hX49
  · have h := ite_t hb4 h
    refine a_cond_t rfl (sr (vq (eA64u8 ((vrep 64 (0 : Int)))) rfl ⟨⟨_, rfl, rfl⟩, all_nil⟩ (vs (eA64u8 ((vrep 64 (0 : Int)))) rfl rfl (fun _ => rfl) rfl rfl rfl rfl rfl rfl (nx _ rfl (a_ret (t_ret ?_))))))
    have hl255 : LdOk [] (eA64u8 ((vrep 64 (0 : Int)))) [] 64 true (eA64u8 ((vrep 64 (0 : Int)))) := (.nil rfl rfl rfl)
    refine ⟨.inr rfl, ?_⟩
    rw [Try.results50]
    cases h
    exact ⟨_, _, _, _, _, ld_own (i := ⟨.arr 64 5, 64, 64, (eA64u8 (vrep 64 (0 : Int)))⟩) rfl rfl rfl hl255, hl255.c, .inl ⟨rfl, .inl rfl⟩, rfl, rfl⟩
def spec_l01Add_c : ACode := (.seq (.region 0 [q 5 (.box 32 (t 1)), q 6 (.box 32 (t 2)), q 8 (.alloc 32)] false) (.seq (.seq (.region 1 [q 9 (.asg 0 (.const (.int .i64 0)) 3)] false) (.block 0 (.loop (.seq (.seq (.region 2 [q 10 (.mov (t 9)), q 11 (.bin .lss 3 (t 10) (.const (.int .i64 64)))] false) (.cond (t 11) .skip (.exit 0))) (.seq (.block 1 (.region 4 [q 14 (.mov (t 9)), q 15 (.mov (t 9)), ⟨some 16, .indexAddr 32 (t 5) (t 15), none, [1]⟩, ⟨some 17, .load 5 (t 16), none, [2]⟩, ⟨some 18, .conv 5 2 (t 17), none, [3]⟩, q 19 (.mov (t 3)), q 20 (.mov (t 9)), ⟨some 21, .indexAddr 32 (t 6) (t 20), none, [6]⟩, ⟨some 22, .load 5 (t 21), none, [7]⟩, ⟨some 23, .conv 5 2 (t 22), none, [8]⟩, ⟨some 24, .bin .mul 2 (t 19) (t 23), none, [5, 9]⟩, ⟨some 25, .bin .add 2 (t 18) (t 24), none, [4, 10]⟩, q 26 (.mov (t 0)), ⟨some 27, .bin .rem 2 (t 25) (t 26), none, [11, 12]⟩, q 28 (.mov (t 0)), ⟨some 29, .bin .add 2 (t 27) (t 28), none, [13, 14]⟩, q 30 (.mov (t 0)), ⟨some 31, .bin .rem 2 (t 29) (t 30), none, [15, 16]⟩, ⟨some 32, .conv 2 5 (t 31), none, [17]⟩, ⟨some 33, .indexAddr 32 (t 5) (t 14), none, [0, 0, 1, 2, 3, 4, 5, 6, 7, 8, 9, 10, 11, 12, 13, 14, 15, 16, 17, 18]⟩, ⟨none, .store 5 (t 33) (t 32), none, [19, 18, 0, 1, 2, 3, 4, 5, 6, 7, 8, 9, 10, 11, 12, 13, 14, 15, 16, 17, 18]⟩] true)) (.region 3 [q 12 (.mov (t 9)), q 13 (.bin .add 3 (t 12) (.const (.int .i64 1))), q 9 (.asg 0 (t 13) 3)] false)))))) (.seq (.region 5 [q 34 (.load 32 (t 5)), ⟨none, .store 32 (t 8) (t 34), none, []⟩] false) .ret)))
def spec_l01Add_L : Live := [(0, [0, 1, 2, 3]), (1, [0, 3, 5, 6, 8]), (2, [0, 3, 5, 6, 8, 9]), (3, [0, 3, 5, 6, 8, 9]), (4, [0, 3, 5, 6, 8, 9]), (5, [5, 8]), (100011, [0, 3, 5, 6, 8, 9, 11])]
noncomputable def spec_l01Add_l1 (a3 : Int) (a2 : (Vec Int 64)) (a0 : Int) (x127 : Int) (x128 : (Vec Int 64)) : Option ((Int × (Vec Int 64)) ⊕ (Vec Int 64)) :=
  (if (decide (x127 < 64)) then (ifp (0 ≤ x127 ∧ x127 < ((64 : Nat) : Int)) ((ifp (0 ≤ x127 ∧ x127 < ((64 : Nat) : Int)) ((letp (IntKind.i64.wrap (a3 * (IntKind.i64.wrap (rd a2.1 x127.toNat)))) fun x180 => (letp (IntKind.i64.wrap ((IntKind.i64.wrap (rd x128.1 x127.toNat)) + x180)) fun x182 => (ifp (a0 ≠ 0) ((ifp (a0 ≠ 0) ((letp (IntKind.u8.wrap (Int.tmod (IntKind.i64.wrap ((Int.tmod x182 a0) + a0)) a0)) fun x186 => (ifp (0 ≤ x127 ∧ x127 < ((64 : Nat) : Int)) ((some (.inl ((IntKind.i64.wrap (x127 + 1), (vset x128 x127.toNat x186)))))))))))))))))) else (some (.inr x128)))
noncomputable def spec_l01Add (a0 : Int) (a1 : (Vec Int 64)) (a2 : (Vec Int 64)) (a3 : Int) : Option (Vec Int 64) :=
  (Option.bind (α := (Vec Int 64)) ((loopM (fun s : (Int × (Vec Int 64)) => spec_l01Add_l1 a3 a2 a0 s.1 s.2) (0, a1))) fun x94 => (some x94))
theorem spec_l01Add_ok (a0 : Int) (a1 : (Vec Int 64)) (a2 : (Vec Int 64)) (a3 : Int) (r : (Vec Int 64)) (h : spec_l01Add a0 a1 a2 a3 = some r) : Den Try.prog 27 [(i6 a0), (eA64u8 a1), (eA64u8 a2), (i6 a3)] { r := (eA64u8 r) } := by
  refine den_of (rs := [(eA64u8 r)]) (ac := spec_l01Add_c) (L := spec_l01Add_L) (n := 35) (m := []) (c := Try.f27.body.getD .skip) good Try.func27 (by kernel_rfl) (by kernel_rfl) Try.ntmps27 rfl rfl (by kernel_rfl) rfl rfl ?_
  refine a_st (σ' := ⟨[(0, (i6 a0)), (1, (eA64u8 a1)), (2, (eA64u8 a2)), (3, (i6 a3))], []⟩) (by kernel_rfl) ?_
  unfold spec_l01Add_c
  refine sr (vo 1500 (eA64u8 a1) rfl rfl (vo 1600 (eA64u8 a2) rfl rfl (vo 1800 (eA64u8 ((vrep 64 (0 : Int)))) rfl rfl (nx ⟨[(0, (i6 a0)), (3, (i6 a3)), (5, (ow 5)), (6, (ow 6)), (8, (ow 8))], [(5, (bk (eA64u8 a1))), (6, (bk (eA64u8 a2))), (8, (bk (eA64u8 ((vrep 64 (0 : Int))))))]⟩ (by kernel_rfl) ?_))))
  obtain ⟨y95, hy96, hk97⟩ := bind_some h
  clear h
  refine a_join (emb := fun (s : (Vec Int 64)) => ⟨[(5, (ow 5)), (8, (ow 8))], [(5, (bk (eA64u8 s))), (8, (bk (eA64u8 ((vrep 64 (0 : Int))))))]⟩) (pre := fun s => s = y95) ?_ ?_
  · rintro x94 rfl
    have h := hk97
    refine a_st (σ' := ⟨[(5, (ow 5)), (8, (ow 8))], [(5, (bk (eA64u8 x94))), (8, (bk (eA64u8 ((vrep 64 (0 : Int))))))]⟩) (by kernel_rfl) (sr (vl (eA64u8 x94) rfl rfl rfl rfl rfl rfl (vs (eA64u8 x94) rfl rfl (fun _ => rfl) rfl rfl rfl rfl rfl rfl (nx _ rfl (a_ret ?_)))))
    have hl193 : LdOk [] (eA64u8 x94) [] 64 true (eA64u8 x94) := (.nil rfl rfl rfl)
    refine ⟨.inr rfl, ?_⟩
    rw [Try.results27]
    cases h
    exact ⟨_, _, _, _, _, ld_own (i := ⟨.arr 64 5, 64, 64, (eA64u8 (vrep 64 (0 : Int)))⟩) rfl rfl rfl hl193, hl193.c, .inl ⟨rfl, .inl rfl⟩, rfl, rfl⟩
  · have h := hy96
    refine sr (vp (i6 0) rfl (nx ⟨[(0, (i6 a0)), (3, (i6 a3)), (5, (ow 5)), (6, (ow 6)), (8, (ow 8)), (9, (i6 0))], [(5, (bk (eA64u8 a1))), (6, (bk (eA64u8 a2))), (8, (bk (eA64u8 ((vrep 64 (0 : Int))))))]⟩ (by kernel_rfl) (a_block ?_)))
    refine a_loop (emb := fun (s : (Int × (Vec Int 64))) => ⟨[(0, (i6 a0)), (3, (i6 a3)), (5, (ow 5)), (6, (ow 6)), (8, (ow 8)), (9, (i6 s.1))], [(5, (bk (eA64u8 s.2))), (6, (bk (eA64u8 a2))), (8, (bk (eA64u8 ((vrep 64 (0 : Int))))))]⟩) (body := (fun s : (Int × (Vec Int 64)) => spec_l01Add_l1 a3 a2 a0 s.1 s.2)) (G := fun q => some q = some y95) h rfl ?_ (by kernel_rfl)
    rintro X158 ⟨x127, x128⟩ x159 h hX160
    have h : spec_l01Add_l1 a3 a2 a0 x127 x128 = some x159 := h
    refine a_st (σ' := ⟨[(0, (i6 a0)), (3, (i6 a3)), (5, (ow 5)), (6, (ow 6)), (8, (ow 8)), (9, (i6 x127))], [(5, (bk (eA64u8 x128))), (6, (bk (eA64u8 a2))), (8, (bk (eA64u8 ((vrep 64 (0 : Int))))))]⟩) (by kernel_rfl) (a_seq (sr (vp (i6 x127) rfl (vp (.bool ((decide (x127 < 64)))) rfl (nx ⟨[(0, (i6 a0)), (3, (i6 a3)), (5, (ow 5)), (6, (ow 6)), (8, (ow 8)), (9, (i6 x127)), (11, (.bool ((decide (x127 < 64)))))], [(5, (bk (eA64u8 x128))), (6, (bk (eA64u8 a2))), (8, (bk (eA64u8 ((vrep 64 (0 : Int))))))]⟩ (by kernel_rfl) ?_)))))
    cases hb161 : (decide (x127 < 64))
    · have h := ite_f hb161 h
      refine a_cond_f rfl (a_exit (t_exit ?_))
      cases h
      have h := hX160
      refine t_exit (b_exit ?_)
      exact j_leaf x128 (Option.some.inj h) (by kernel_rfl)
    · have h := ite_t hb161 h
      refine a_cond_t rfl (a_skip (a_next (σ' := ⟨[(0, (i6 a0)), (3, (i6 a3)), (5, (ow 5)), (6, (ow 6)), (8, (ow 8)), (9, (i6 x127))], [(5, (bk (eA64u8 x128))), (6, (bk (eA64u8 a2))), (8, (bk (eA64u8 ((vrep 64 (0 : Int))))))]⟩) (by kernel_rfl) (a_seq (a_block (a_draw [⟨[], [], [], []⟩, ⟨[], [], [], []⟩, ⟨[5], [], [5], [1]⟩, ⟨[5], [], [], [1, 2]⟩, ⟨[], [], [], [1, 2, 3]⟩, ⟨[], [], [], []⟩, ⟨[], [], [], []⟩, ⟨[6], [], [6], [6]⟩, ⟨[6], [], [], [6, 7]⟩, ⟨[], [], [], [6, 7, 8]⟩, ⟨[], [], [], [5, 6, 7, 8, 9]⟩, ⟨[], [], [], [1, 2, 3, 4, 5, 6, 7, 8, 9, 10]⟩, ⟨[], [], [], []⟩, ⟨[], [], [], [1, 2, 3, 4, 5, 6, 7, 8, 9, 10, 11, 12]⟩, ⟨[], [], [], []⟩, ⟨[], [], [], [1, 2, 3, 4, 5, 6, 7, 8, 9, 10, 11, 12, 13, 14]⟩, ⟨[], [], [], []⟩, ⟨[], [], [], [1, 2, 3, 4, 5, 6, 7, 8, 9, 10, 11, 12, 13, 14, 15, 16]⟩, ⟨[], [], [], [1, 2, 3, 4, 5, 6, 7, 8, 9, 10, 11, 12, 13, 14, 15, 16, 17]⟩, ⟨[5], [], [5], [0, 1, 2, 3, 4, 5, 6, 7, 8, 9, 10, 11, 12, 13, 14, 15, 16, 17, 18]⟩, ⟨[5], [5], [], [0, 1, 2, 3, 4, 5, 6, 7, 8, 9, 10, 11, 12, 13, 14, 15, 16, 17, 18, 19]⟩] (by kernel_rfl) (dp (i6 x127) rfl (by kernel_rfl) (dp (i6 x127) rfl (by kernel_rfl) (d_cons ?_))))))))
      obtain ⟨hc176, h⟩ := ifp_some h
      refine vq (.own 5 [x127.toNat] [x127.toNat * 1]) rfl hc176 (d_next (by kernel_rfl) (d_cons ?_))
      have hl177 : LdOk [x127.toNat] (eA64u8 x128) [x127.toNat * 1] 1 false (b8 (rd x128.1 x127.toNat)) := (.arr (vlt x128 hc176) rfl (.nil rfl rfl rfl))
      refine vq (b8 (rd x128.1 x127.toNat)) (ld_own (i := ⟨.int .u8, 1, 1, (.int .u8 0)⟩) rfl rfl rfl hl177) hl177.c (d_next (by kernel_rfl) (dp (i6 (IntKind.i64.wrap (rd x128.1 x127.toNat))) rfl (by kernel_rfl) (dp (i6 a3) rfl (by kernel_rfl) (dp (i6 x127) rfl (by kernel_rfl) (d_cons ?_)))))
      obtain ⟨hc178, h⟩ := ifp_some h
      refine vq (.own 6 [x127.toNat] [x127.toNat * 1]) rfl hc178 (d_next (by kernel_rfl) (d_cons ?_))
      have hl179 : LdOk [x127.toNat] (eA64u8 a2) [x127.toNat * 1] 1 false (b8 (rd a2.1 x127.toNat)) := (.arr (vlt a2 hc178) rfl (.nil rfl rfl rfl))
      refine vq (b8 (rd a2.1 x127.toNat)) (ld_own (i := ⟨.int .u8, 1, 1, (.int .u8 0)⟩) rfl rfl rfl hl179) hl179.c (d_next (by kernel_rfl) (dp (i6 (IntKind.i64.wrap (rd a2.1 x127.toNat))) rfl (by kernel_rfl) (d_cons ?_)))
      obtain ⟨x180, hx181, h⟩ := letp_some h
      refine a_val' (v := (i6 (IntKind.i64.wrap (a3 * (IntKind.i64.wrap (rd a2.1 x127.toNat)))))) (v' := (i6 x180)) (u := []) (u' := []) rfl (congrArg (fun z => ((i6 z) : AV)) hx181) rfl trivial rfl (d_next (by kernel_rfl) (d_cons ?_))
      obtain ⟨x182, hx183, h⟩ := letp_some h
      refine a_val' (v := (i6 (IntKind.i64.wrap ((IntKind.i64.wrap (rd x128.1 x127.toNat)) + x180)))) (v' := (i6 x182)) (u := []) (u' := []) rfl (congrArg (fun z => ((i6 z) : AV)) hx183) rfl trivial rfl (d_next (by kernel_rfl) (dp (i6 a0) rfl (by kernel_rfl) (d_cons ?_)))
      obtain ⟨hc184, h⟩ := ifp_some h
      refine vq (i6 (Int.tmod x182 a0)) rfl hc184 (d_next (by kernel_rfl) (dp (i6 a0) rfl (by kernel_rfl) (dp (i6 (IntKind.i64.wrap ((Int.tmod x182 a0) + a0))) rfl (by kernel_rfl) (dp (i6 a0) rfl (by kernel_rfl) (d_cons ?_)))))
      obtain ⟨hc185, h⟩ := ifp_some h
      refine vq (i6 (Int.tmod (IntKind.i64.wrap ((Int.tmod x182 a0) + a0)) a0)) rfl hc185 (d_next (by kernel_rfl) (d_cons ?_))
      obtain ⟨x186, hx187, h⟩ := letp_some h
      refine a_val' (v := (b8 (IntKind.u8.wrap (Int.tmod (IntKind.i64.wrap ((Int.tmod x182 a0) + a0)) a0)))) (v' := (b8 x186)) (u := []) (u' := []) rfl (congrArg (fun z => ((b8 z) : AV)) hx187) rfl trivial rfl (d_next (by kernel_rfl) (d_cons ?_))
      obtain ⟨hc188, h⟩ := ifp_some h
      refine vq (.own 5 [x127.toNat] [x127.toNat * 1]) rfl hc188 (d_next (by kernel_rfl) (d_cons ?_))
      have hs189 : StOk [x127.toNat] (eA64u8 x128) [x127.toNat * 1] 1 (b8 x186) (eA64u8 (vset x128 x127.toNat x186)) := (.arr (y := x186) (vlt x128 hc188) rfl (.nil rfl rfl rfl rfl))
      refine vu .top [(5, (bk (eA64u8 (vset x128 x127.toNat x186))))] (st_own (i := ⟨.int .u8, 1, 1, (.int .u8 0)⟩) rfl rfl (fun _ => rfl) rfl hs189) (hs189.c rfl) rfl (d_next (by kernel_rfl) (d_nil (b_norm (a_next (σ' := ⟨[(0, (i6 a0)), (3, (i6 a3)), (5, (ow 5)), (6, (ow 6)), (8, (ow 8)), (9, (i6 x127))], [(5, (bk (eA64u8 (vset x128 x127.toNat x186)))), (6, (bk (eA64u8 a2))), (8, (bk (eA64u8 ((vrep 64 (0 : Int))))))]⟩) (by kernel_rfl) (a_region (vp (i6 x127) rfl (vp (i6 (IntKind.i64.wrap (x127 + 1))) rfl (vp (i6 (IntKind.i64.wrap (x127 + 1))) rfl (a_nil ?_)))))))))
      cases h
      exact a_again (by kernel_rfl) hX160
def spec_l01MulMod_c : ACode := (.seq (.region 0 [q 5 (.box 32 (t 1)), q 6 (.box 32 (t 2)), q 7 (.box 32 (t 3)), q 8 (.alloc 32)] false) (.seq (.region 1 [q 11 (.build 32 []), q 9 (.alloc 32), ⟨none, .store 32 (t 9) (t 11), none, []⟩] false) (.seq (.seq (.region 2 [q 12 (.load 32 (t 6)), q 13 (.call 0 (.func 22) [(t 12)]), q 10 (.asg 0 (t 13) 2)] false) (.block 0 (.loop (.seq (.seq (.region 3 [q 14 (.mov (t 10)), q 15 (.bin .geq 2 (t 14) (.const (.int .i64 0)))] false) (.cond (t 15) .skip (.exit 0))) (.seq (.block 1 (.seq (.region 5 [q 18 (.mov (t 0)), q 19 (.load 32 (t 9)), q 20 (.load 32 (t 7)), q 21 (.call 0 (.func 50) [(t 18), (t 19), (t 20)]), ⟨none, .store 32 (t 9) (t 21), none, []⟩] false) (.region 6 [q 22 (.mov (t 0)), q 23 (.mov (t 0)), q 24 (.load 32 (t 9)), q 25 (.load 32 (t 5)), q 26 (.mov (t 10)), ⟨some 27, .indexAddr 32 (t 6) (t 26), none, [4]⟩, ⟨some 28, .load 5 (t 27), none, [5]⟩, ⟨some 29, .conv 5 2 (t 28), none, [6]⟩, ⟨some 30, .call 0 (.func 27) [(t 23), (t 24), (t 25), (t 29)], none, [1, 2, 3, 7]⟩, q 31 (.load 32 (t 7)), ⟨some 32, .call 0 (.func 23) [(t 22), (t 30), (t 31)], none, [0, 8, 9, 8]⟩, ⟨none, .store 32 (t 9) (t 32), none, [10, 10, 0, 1, 2, 3, 4, 5, 6, 7, 8, 9, 10]⟩] true))) (.region 4 [q 16 (.mov (t 10)), q 17 (.bin .sub 2 (t 16) (.const (.int .i64 1))), q 10 (.asg 0 (t 17) 2)] false)))))) (.seq (.region 7 [q 33 (.load 32 (t 9)), ⟨none, .store 32 (t 8) (t 33), none, []⟩] false) .ret))))
def spec_l01MulMod_L : Live := [(0, [0, 1, 2, 3]), (1, [0, 5, 6, 7, 8]), (2, [0, 5, 6, 7, 8, 9]), (3, [0, 5, 6, 7, 8, 9, 10]), (4, [0, 5, 6, 7, 8, 9, 10]), (5, [0, 5, 6, 7, 8, 9, 10]), (6, [0, 5, 6, 7, 8, 9, 10]), (7, [8, 9]), (100015, [0, 5, 6, 7, 8, 9, 10, 15])]
noncomputable def spec_l01MulMod_l1 (a0 : Int) (a3 : (Vec Int 64)) (a1 : (Vec Int 64)) (a2 : (Vec Int 64)) (x122 : Int) (x123 : (Vec Int 64)) : Option ((Int × (Vec Int 64)) ⊕ (Vec Int 64)) :=
  (if (decide (x122 ≥ 0)) then (Option.bind (spec_l01Up a0 x123 a3) fun r156 => (ifp (0 ≤ x122 ∧ x122 < ((64 : Nat) : Int)) ((Option.bind (spec_l01Add a0 r156 a1 (IntKind.i64.wrap (rd a2.1 x122.toNat))) fun r173 => (Option.bind (spec_l01Mod a0 r173 a3) fun r176 => (some (.inl ((IntKind.i64.wrap (x122 - 1), r176))))))))) else (some (.inr x123)))
noncomputable def spec_l01MulMod (a0 : Int) (a1 : (Vec Int 64)) (a2 : (Vec Int 64)) (a3 : (Vec Int 64)) : Option (Vec Int 64) :=
  (Option.bind (α := (Vec Int 64)) ((Option.bind (spec_l01Deg a2) fun r94 => (loopM (fun s : (Int × (Vec Int 64)) => spec_l01MulMod_l1 a0 a3 a1 a2 s.1 s.2) (r94, (vrep 64 (0 : Int)))))) fun x89 => (some x89))
theorem spec_l01MulMod_ok (a0 : Int) (a1 : (Vec Int 64)) (a2 : (Vec Int 64)) (a3 : (Vec Int 64)) (r : (Vec Int 64)) (h : spec_l01MulMod a0 a1 a2 a3 = some r) : Den Try.prog 36 [(i6 a0), (eA64u8 a1), (eA64u8 a2), (eA64u8 a3)] { r := (eA64u8 r) } := by
  refine den_of (rs := [(eA64u8 r)]) (ac := spec_l01MulMod_c) (L := spec_l01MulMod_L) (n := 34) (m := []) (c := Try.f36.body.getD .skip) good Try.func36 (by kernel_rfl) (by kernel_rfl) Try.ntmps36 rfl rfl (by kernel_rfl) rfl rfl ?_
  refine a_st (σ' := ⟨[(0, (i6 a0)), (1, (eA64u8 a1)), (2, (eA64u8 a2)), (3, (eA64u8 a3))], []⟩) (by kernel_rfl) ?_
  unfold spec_l01MulMod_c
  refine sr (vo 1500 (eA64u8 a1) rfl rfl (vo 1600 (eA64u8 a2) rfl rfl (vo 1700 (eA64u8 a3) rfl rfl (vo 1800 (eA64u8 ((vrep 64 (0 : Int)))) rfl rfl (nx ⟨[(0, (i6 a0)), (5, (ow 5)), (6, (ow 6)), (7, (ow 7)), (8, (ow 8))], [(5, (bk (eA64u8 a1))), (6, (bk (eA64u8 a2))), (7, (bk (eA64u8 a3))), (8, (bk (eA64u8 ((vrep 64 (0 : Int))))))]⟩ (by kernel_rfl) (sr (vq (eA64u8 ((vrep 64 (0 : Int)))) rfl ⟨⟨_, rfl, rfl⟩, all_nil⟩ (vo 1900 (eA64u8 ((vrep 64 (0 : Int)))) rfl rfl (vs (eA64u8 ((vrep 64 (0 : Int)))) rfl rfl (fun _ => rfl) rfl rfl rfl rfl rfl rfl ?_)))))))))
  refine nx ⟨[(0, (i6 a0)), (5, (ow 5)), (6, (ow 6)), (7, (ow 7)), (8, (ow 8)), (9, (ow 9))], [(5, (bk (eA64u8 a1))), (6, (bk (eA64u8 a2))), (7, (bk (eA64u8 a3))), (8, (bk (eA64u8 ((vrep 64 (0 : Int)))))), (9, (bk (eA64u8 ((vrep 64 (0 : Int))))))]⟩ (by kernel_rfl) ?_
  obtain ⟨y90, hy91, hk92⟩ := bind_some h
  clear h
  refine a_join (emb := fun (s : (Vec Int 64)) => ⟨[(8, (ow 8)), (9, (ow 9))], [(8, (bk (eA64u8 ((vrep 64 (0 : Int)))))), (9, (bk (eA64u8 s)))]⟩) (pre := fun s => s = y90) ?_ ?_
  · rintro x89 rfl
    have h := hk92
    refine a_st (σ' := ⟨[(8, (ow 8)), (9, (ow 9))], [(8, (bk (eA64u8 ((vrep 64 (0 : Int)))))), (9, (bk (eA64u8 x89)))]⟩) (by kernel_rfl) (sr (vl (eA64u8 x89) rfl rfl rfl rfl rfl rfl (vs (eA64u8 x89) rfl rfl (fun _ => rfl) rfl rfl rfl rfl rfl rfl (nx _ rfl (a_ret ?_)))))
    have hl182 : LdOk [] (eA64u8 x89) [] 64 true (eA64u8 x89) := (.nil rfl rfl rfl)
    refine ⟨.inr rfl, ?_⟩
    rw [Try.results36]
    cases h
    exact ⟨_, _, _, _, _, ld_own (i := ⟨.arr 64 5, 64, 64, (eA64u8 (vrep 64 (0 : Int)))⟩) rfl rfl rfl hl182, hl182.c, .inl ⟨rfl, .inl rfl⟩, rfl, rfl⟩
  · have h := hy91
    refine sr (vl (eA64u8 a2) rfl rfl rfl rfl rfl rfl ?_)
    obtain ⟨r94, hr95, h⟩ := bind_some h
    refine a_call (args := [(eA64u8 a2)]) (u := []) (r := (i6 r94)) rfl rfl (spec_l01Deg_ok a2 r94 hr95) rfl (vp (i6 r94) rfl (nx ⟨[(0, (i6 a0)), (5, (ow 5)), (6, (ow 6)), (7, (ow 7)), (8, (ow 8)), (9, (ow 9)), (10, (i6 r94))], [(5, (bk (eA64u8 a1))), (6, (bk (eA64u8 a2))), (7, (bk (eA64u8 a3))), (8, (bk (eA64u8 ((vrep 64 (0 : Int)))))), (9, (bk (eA64u8 ((vrep 64 (0 : Int))))))]⟩ (by kernel_rfl) (a_block ?_)))
    refine a_loop (emb := fun (s : (Int × (Vec Int 64))) => ⟨[(0, (i6 a0)), (5, (ow 5)), (6, (ow 6)), (7, (ow 7)), (8, (ow 8)), (9, (ow 9)), (10, (i6 s.1))], [(5, (bk (eA64u8 a1))), (6, (bk (eA64u8 a2))), (7, (bk (eA64u8 a3))), (8, (bk (eA64u8 ((vrep 64 (0 : Int)))))), (9, (bk (eA64u8 s.2)))]⟩) (body := (fun s : (Int × (Vec Int 64)) => spec_l01MulMod_l1 a0 a3 a1 a2 s.1 s.2)) (G := fun q => some q = some y90) h rfl ?_ (by kernel_rfl)
    rintro X150 ⟨x122, x123⟩ x151 h hX152
    have h : spec_l01MulMod_l1 a0 a3 a1 a2 x122 x123 = some x151 := h
    refine a_st (σ' := ⟨[(0, (i6 a0)), (5, (ow 5)), (6, (ow 6)), (7, (ow 7)), (8, (ow 8)), (9, (ow 9)), (10, (i6 x122))], [(5, (bk (eA64u8 a1))), (6, (bk (eA64u8 a2))), (7, (bk (eA64u8 a3))), (8, (bk (eA64u8 ((vrep 64 (0 : Int)))))), (9, (bk (eA64u8 x123)))]⟩) (by kernel_rfl) (a_seq (sr (vp (i6 x122) rfl (vp (.bool ((decide (x122 ≥ 0)))) rfl (nx ⟨[(0, (i6 a0)), (5, (ow 5)), (6, (ow 6)), (7, (ow 7)), (8, (ow 8)), (9, (ow 9)), (10, (i6 x122)), (15, (.bool ((decide (x122 ≥ 0)))))], [(5, (bk (eA64u8 a1))), (6, (bk (eA64u8 a2))), (7, (bk (eA64u8 a3))), (8, (bk (eA64u8 ((vrep 64 (0 : Int)))))), (9, (bk (eA64u8 x123)))]⟩ (by kernel_rfl) ?_)))))
    cases hb153 : (decide (x122 ≥ 0))
    · have h := ite_f hb153 h
      refine a_cond_f rfl (a_exit (t_exit ?_))
      cases h
      have h := hX152
      refine t_exit (b_exit ?_)
      exact j_leaf x123 (Option.some.inj h) (by kernel_rfl)
    · have h := ite_t hb153 h
      refine a_cond_t rfl (a_skip (a_next (σ' := ⟨[(0, (i6 a0)), (5, (ow 5)), (6, (ow 6)), (7, (ow 7)), (8, (ow 8)), (9, (ow 9)), (10, (i6 x122))], [(5, (bk (eA64u8 a1))), (6, (bk (eA64u8 a2))), (7, (bk (eA64u8 a3))), (8, (bk (eA64u8 ((vrep 64 (0 : Int)))))), (9, (bk (eA64u8 x123)))]⟩) (by kernel_rfl) (a_seq (a_block (sr (vp (i6 a0) rfl (vl (eA64u8 x123) rfl rfl rfl rfl rfl rfl (vl (eA64u8 a3) rfl rfl rfl rfl rfl rfl ?_))))))))
      obtain ⟨r156, hr157, h⟩ := bind_some h
      refine a_call (args := [(i6 a0), (eA64u8 x123), (eA64u8 a3)]) (u := []) (r := (eA64u8 r156)) rfl rfl (spec_l01Up_ok a0 x123 a3 r156 hr157) rfl (vs (eA64u8 r156) rfl rfl (fun _ => rfl) rfl rfl rfl rfl rfl rfl (nx ⟨[(0, (i6 a0)), (5, (ow 5)), (6, (ow 6)), (7, (ow 7)), (8, (ow 8)), (9, (ow 9)), (10, (i6 x122))], [(5, (bk (eA64u8 a1))), (6, (bk (eA64u8 a2))), (7, (bk (eA64u8 a3))), (8, (bk (eA64u8 ((vrep 64 (0 : Int)))))), (9, (bk (eA64u8 r156)))]⟩ (by kernel_rfl) (a_draw [⟨[], [], [], []⟩, ⟨[], [], [], []⟩, ⟨[9], [], [], []⟩, ⟨[5], [], [], []⟩, ⟨[], [], [], []⟩, ⟨[6], [], [6], [4]⟩, ⟨[6], [], [], [4, 5]⟩, ⟨[], [], [], [4, 5, 6]⟩, ⟨[], [], [], [1, 2, 3, 4, 5, 6, 7]⟩, ⟨[7], [], [], []⟩, ⟨[], [], [], [0, 1, 2, 3, 4, 5, 6, 7, 8, 9]⟩, ⟨[9], [9], [], [0, 1, 2, 3, 4, 5, 6, 7, 8, 9, 10]⟩] (by kernel_rfl) (dp (i6 a0) rfl (by kernel_rfl) (dp (i6 a0) rfl (by kernel_rfl) (d_cons (vl (eA64u8 r156) rfl rfl rfl rfl rfl rfl (d_next (by kernel_rfl) (d_cons ?_)))))))))
      refine vl (eA64u8 a1) rfl rfl rfl rfl rfl rfl (d_next (by kernel_rfl) (dp (i6 x122) rfl (by kernel_rfl) (d_cons ?_)))
      obtain ⟨hc171, h⟩ := ifp_some h
      refine vq (.own 6 [x122.toNat] [x122.toNat * 1]) rfl hc171 (d_next (by kernel_rfl) (d_cons ?_))
      have hl172 : LdOk [x122.toNat] (eA64u8 a2) [x122.toNat * 1] 1 false (b8 (rd a2.1 x122.toNat)) := (.arr (vlt a2 hc171) rfl (.nil rfl rfl rfl))
      refine vq (b8 (rd a2.1 x122.toNat)) (ld_own (i := ⟨.int .u8, 1, 1, (.int .u8 0)⟩) rfl rfl rfl hl172) hl172.c (d_next (by kernel_rfl) (dp (i6 (IntKind.i64.wrap (rd a2.1 x122.toNat))) rfl (by kernel_rfl) (d_cons ?_)))
      obtain ⟨r173, hr174, h⟩ := bind_some h
      refine a_call (args := [(i6 a0), (eA64u8 r156), (eA64u8 a1), (i6 (IntKind.i64.wrap (rd a2.1 x122.toNat)))]) (u := []) (r := (eA64u8 r173)) rfl rfl (spec_l01Add_ok a0 r156 a1 (IntKind.i64.wrap (rd a2.1 x122.toNat)) r173 hr174) rfl (d_next (by kernel_rfl) (d_cons (vl (eA64u8 a3) rfl rfl rfl rfl rfl rfl (d_next (by kernel_rfl) (d_cons ?_)))))
      obtain ⟨r176, hr177, h⟩ := bind_some h
      refine a_call (args := [(i6 a0), (eA64u8 r173), (eA64u8 a3)]) (u := []) (r := (eA64u8 r176)) rfl rfl (spec_l01Mod_ok a0 r173 a3 r176 hr177) rfl (d_next (by kernel_rfl) (d_cons (vs (eA64u8 r176) rfl rfl (fun _ => rfl) rfl rfl rfl rfl rfl rfl (d_next (by kernel_rfl) (d_nil (b_norm (a_next (σ' := ⟨[(0, (i6 a0)), (5, (ow 5)), (6, (ow 6)), (7, (ow 7)), (8, (ow 8)), (9, (ow 9)), (10, (i6 x122))], [(5, (bk (eA64u8 a1))), (6, (bk (eA64u8 a2))), (7, (bk (eA64u8 a3))), (8, (bk (eA64u8 ((vrep 64 (0 : Int)))))), (9, (bk (eA64u8 r176)))]⟩) (by kernel_rfl) (a_region (vp (i6 x122) rfl ?_)))))))))
      refine vp (i6 (IntKind.i64.wrap (x122 - 1))) rfl (vp (i6 (IntKind.i64.wrap (x122 - 1))) rfl (a_nil ?_))
      cases h
      exact a_again (by kernel_rfl) hX152
end Go.Proofs.Ytpjdjfhbfcekaaa
