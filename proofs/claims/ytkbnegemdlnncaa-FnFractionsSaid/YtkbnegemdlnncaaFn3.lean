/- Functions of the program: plain Lean functions, and that the program computes them. Printed by gen.py. -/
import Derived.Test.YtkbnegemdlnncaaFnT
import Derived.Test.YtkbnegemdlnncaaFn1
import Derived.Test.YtkbnegemdlnncaaFn2
namespace Go.Proofs.Ytkbnegemdlnncaa
open Go.Abs Go.Proofs
set_option linter.unusedSimpArgs false
set_option linter.unusedVariables false
set_option maxHeartbeats 16000000
attribute [local irreducible] Abs.acode Abs.aops Abs.aopsT Abs.thenK Abs.blockK

def spec_l01Inverse_c : ACode := (.seq (.region 0 [q 4 (.asg 0 (.const (.int .u8 0)) 5)] false) (.seq (.seq (.region 1 [q 5 (.asg 0 (.const (.int .i64 1)) 2)] false) (.block 0 (.loop (.seq (.seq (.region 2 [q 6 (.mov (t 5)), q 7 (.mov (t 0)), q 8 (.bin .lss 2 (t 6) (t 7))] false) (.cond (t 8) .skip (.exit 0))) (.seq (.block 1 (.seq (.region 4 [q 11 (.mov (t 5)), q 12 (.mov (t 1)), q 13 (.conv 5 2 (t 12)), q 14 (.bin .mul 2 (t 11) (t 13)), q 15 (.mov (t 0)), q 16 (.bin .rem 2 (t 14) (t 15)), q 17 (.bin .eql 2 (t 16) (.const (.int .i64 1)))] false) (.cond (t 17) (.seq (.region 5 [q 18 (.mov (t 5)), q 19 (.conv 2 5 (t 18)), q 4 (.asg 0 (t 19) 5)] false) .ret) .skip))) (.region 3 [q 9 (.mov (t 5)), q 10 (.bin .add 2 (t 9) (.const (.int .i64 1))), q 5 (.asg 0 (t 10) 2)] false)))))) (.seq (.region 6 [q 4 (.asg 0 (.const (.int .u8 0)) 5)] false) .ret)))
def spec_l01Inverse_L : Live := [(0, [0, 1]), (1, [0, 1]), (2, [0, 1, 5]), (3, [0, 1, 5]), (4, [0, 1, 5]), (5, [5]), (6, []), (100008, [0, 1, 5, 8]), (100017, [0, 1, 5, 17])]
noncomputable def spec_l01Inverse_l1 (a0 : Int) (a1 : Int) (x29 : Int) : Option (Int ⊕ (Unit ⊕ Int)) :=
  (if (decide (x29 < a0)) then (ifp (a0 ≠ 0) ((letp (((Int.tmod (IntKind.i64.wrap (x29 * (IntKind.i64.wrap a1))) a0) == 1)) fun x40 => (if x40 then (some (.inr ((.inr (IntKind.u8.wrap x29))))) else (some (.inl (IntKind.i64.wrap (x29 + 1)))))))) else (some (.inr (((.inl ()))))))
noncomputable def spec_l01Inverse (a0 : Int) (a1 : Int) : Option Int :=
  (Option.bind (α := (Unit ⊕ Int)) ((loopM (fun s : Int => spec_l01Inverse_l1 a0 a1 s) 1)) fun z => match z with | .inl _ => (some 0) | .inr r44 => (some r44))
theorem spec_l01Inverse_ok (a0 : Int) (a1 : Int) (r : Int) (h : spec_l01Inverse a0 a1 = some r) : Den Try.prog 187 [(i6 a0), (b8 a1)] { r := (b8 r) } := by
  refine den_of (rs := [(b8 r)]) (ac := spec_l01Inverse_c) (L := spec_l01Inverse_L) (n := 20) (m := []) (c := Try.f187.body.getD .skip) good Try.func187 (by kernel_rfl) (by kernel_rfl) Try.ntmps187 rfl rfl (by kernel_rfl) rfl rfl ?_
  refine a_st (σ' := ⟨[(0, (i6 a0)), (1, (b8 a1))], []⟩) (by kernel_rfl) ?_
  unfold spec_l01Inverse_c
  refine sr (vp (b8 0) rfl (nx ⟨[(0, (i6 a0)), (1, (b8 a1))], []⟩ (by kernel_rfl) ?_))
  obtain ⟨y21, hy22, hk23⟩ := bind_some h
  clear h
  refine a_join (emb := fun (s : Unit) => ⟨[], []⟩) (pre := fun s => (.inl s) = y21) ?_ ?_
  · rintro _ rfl
    have h := hk23
    refine a_st (σ' := ⟨[], []⟩) (by kernel_rfl) (sr (vp (b8 0) rfl (nx _ rfl (a_ret ?_))))
    refine ⟨.inr rfl, ?_⟩
    rw [Try.results187]
    cases h
    exact ⟨_, _, _, _, _, rfl, trivial, .inl ⟨rfl, .inl rfl⟩, rfl, rfl⟩
  · have h := hy22
    refine sr (vp (i6 1) rfl (nx ⟨[(0, (i6 a0)), (1, (b8 a1)), (5, (i6 1))], []⟩ (by kernel_rfl) (a_block ?_)))
    refine a_loop (emb := fun (s : Int) => ⟨[(0, (i6 a0)), (1, (b8 a1)), (5, (i6 s))], []⟩) (body := (fun s : Int => spec_l01Inverse_l1 a0 a1 s)) (G := fun q => some q = some y21) h rfl ?_ (by kernel_rfl)
    rintro X35 x29 x36 h hX37
    have h : spec_l01Inverse_l1 a0 a1 x29 = some x36 := h
    refine a_st (σ' := ⟨[(0, (i6 a0)), (1, (b8 a1)), (5, (i6 x29))], []⟩) (by kernel_rfl) (a_seq (sr (vp (i6 x29) rfl (vp (i6 a0) rfl (vp (.bool ((decide (x29 < a0)))) rfl (nx ⟨[(0, (i6 a0)), (1, (b8 a1)), (5, (i6 x29)), (8, (.bool ((decide (x29 < a0)))))], []⟩ (by kernel_rfl) ?_))))))
    cases hb38 : (decide (x29 < a0))
    · have h := ite_f hb38 h
      refine a_cond_f rfl (a_exit (t_exit ?_))
      cases h
      have h := hX37
      refine t_exit (b_exit ?_)
      exact j_leaf () (Option.some.inj h) (by kernel_rfl)
    · have h := ite_t hb38 h
      refine a_cond_t rfl (a_skip (a_next (σ' := ⟨[(0, (i6 a0)), (1, (b8 a1)), (5, (i6 x29))], []⟩) (by kernel_rfl) (a_seq (a_block (sr (vp (i6 x29) rfl (vp (b8 a1) rfl (vp (i6 (IntKind.i64.wrap a1)) rfl (vp (i6 (IntKind.i64.wrap (x29 * (IntKind.i64.wrap a1)))) rfl ?_)))))))))
      refine vp (i6 a0) rfl ?_
      obtain ⟨hc39, h⟩ := ifp_some h
      refine vq (i6 (Int.tmod (IntKind.i64.wrap (x29 * (IntKind.i64.wrap a1))) a0)) rfl hc39 ?_
      obtain ⟨x40, hx41, h⟩ := letp_some h
      refine a_val' (v := (.bool (((Int.tmod (IntKind.i64.wrap (x29 * (IntKind.i64.wrap a1))) a0) == 1)))) (v' := (.bool x40)) (u := []) (u' := []) rfl (congrArg (fun z => ((.bool z) : AV)) hx41) rfl trivial rfl (nx ⟨[(0, (i6 a0)), (1, (b8 a1)), (5, (i6 x29)), (17, (.bool x40))], []⟩ (by kernel_rfl) ?_)
      cases hb42 : x40
      · have h := ite_f hb42 h
        refine a_cond_f rfl (a_skip (b_norm (a_next (σ' := ⟨[(0, (i6 a0)), (1, (b8 a1)), (5, (i6 x29))], []⟩) (by kernel_rfl) (a_region (vp (i6 x29) rfl (vp (i6 (IntKind.i64.wrap (x29 + 1))) rfl (vp (i6 (IntKind.i64.wrap (x29 + 1))) rfl (a_nil ?_))))))))
        cases h
        exact a_again (by kernel_rfl) hX37
      · have h := ite_t hb42 h
        refine a_cond_t rfl (sr (vp (i6 x29) rfl (vp (b8 (IntKind.u8.wrap x29)) rfl (vp (b8 (IntKind.u8.wrap x29)) rfl (nx _ rfl (a_ret (b_ret (t_ret ?_))))))))
        cases h
        have h := hX37
        refine t_ret (b_ret (t_ret ?_))
        cases h
        have h := hk23
        refine ⟨.inr rfl, ?_⟩
        rw [Try.results187]
        cases h
        exact ⟨_, _, _, _, _, rfl, trivial, .inl ⟨rfl, .inl rfl⟩, rfl, rfl⟩
def spec_l01Divide_c : ACode := (.seq (.region 0 [q 4 (.box 25 (t 1)), q 5 (.box 25 (t 2)), q 6 (.alloc 25), q 7 (.alloc 25)] false) (.seq (.region 1 [q 14 (.build 25 []), q 15 (.load 25 (t 5)), q 16 (.call 0 (.func 112) [(t 15)]), q 8 (.alloc 25), ⟨none, .store 25 (t 8) (t 14), none, []⟩, q 9 (.asg 0 (t 16) 2)] false) (.seq (.region 2 [q 17 (.mov (t 0)), q 18 (.mov (t 9)), q 19 (.indexAddr 25 (t 5) (t 18)), q 20 (.load 5 (t 19)), q 21 (.call 0 (.func 187) [(t 17), (t 20)]), q 22 (.conv 5 2 (t 21)), q 10 (.asg 0 (t 22) 2)] false) (.seq (.seq (.region 3 [q 23 (.load 25 (t 4)), q 24 (.call 0 (.func 112) [(t 23)]), q 11 (.asg 0 (t 24) 2)] false) (.block 0 (.loop (.seq (.seq (.region 4 [q 25 (.mov (t 11)), q 26 (.mov (t 9)), q 27 (.bin .geq 2 (t 25) (t 26))] false) (.cond (t 27) .skip (.exit 0))) (.seq (.block 1 (.seq (.region 6 [q 30 (.mov (t 11)), q 31 (.indexAddr 25 (t 4) (t 30)), q 32 (.load 5 (t 31)), q 33 (.conv 5 2 (t 32)), q 34 (.mov (t 10)), q 35 (.bin .mul 2 (t 33) (t 34)), q 36 (.mov (t 0)), q 37 (.bin .rem 2 (t 35) (t 36)), q 12 (.asg 0 (t 37) 2)] false) (.seq (.region 7 [q 38 (.mov (t 11)), q 39 (.mov (t 9)), q 40 (.bin .sub 2 (t 38) (t 39)), q 41 (.mov (t 12)), q 42 (.conv 2 5 (t 41)), q 43 (.indexAddr 25 (t 8) (t 40)), ⟨none, .store 5 (t 43) (t 42), none, []⟩] false) (.seq (.region 8 [q 13 (.asg 0 (.const (.int .i64 0)) 2)] false) (.block 2 (.loop (.seq (.seq (.region 9 [q 44 (.mov (t 13)), q 45 (.mov (t 9)), q 46 (.bin .leq 2 (t 44) (t 45)), q 47 (.mov (t 46)), ⟨some 48, .mov (t 12), some (47, true), []⟩, ⟨some 49, .bin .neq 2 (t 48) (.const (.int .i64 0)), some (47, true), []⟩, q 50 (.pick (t 47) (t 49) (.const (.bool false)))] false) (.cond (t 50) .skip (.exit 2))) (.seq (.block 3 (.region 11 [q 53 (.mov (t 11)), q 54 (.mov (t 9)), ⟨some 55, .bin .sub 2 (t 53) (t 54), none, [0, 1]⟩, q 56 (.mov (t 13)), ⟨some 57, .bin .add 2 (t 55) (t 56), none, [2, 3]⟩, q 58 (.mov (t 11)), q 59 (.mov (t 9)), ⟨some 60, .bin .sub 2 (t 58) (t 59), none, [5, 6]⟩, q 61 (.mov (t 13)), ⟨some 62, .bin .add 2 (t 60) (t 61), none, [7, 8]⟩, ⟨some 63, .indexAddr 25 (t 4) (t 62), none, [9]⟩, ⟨some 64, .load 5 (t 63), none, [10]⟩, ⟨some 65, .conv 5 2 (t 64), none, [11]⟩, q 66 (.mov (t 12)), q 67 (.mov (t 13)), ⟨some 68, .indexAddr 25 (t 5) (t 67), none, [14]⟩, ⟨some 69, .load 5 (t 68), none, [15]⟩, ⟨some 70, .conv 5 2 (t 69), none, [16]⟩, ⟨some 71, .bin .mul 2 (t 66) (t 70), none, [13, 17]⟩, ⟨some 72, .bin .sub 2 (t 65) (t 71), none, [12, 18]⟩, q 73 (.mov (t 0)), ⟨some 74, .bin .rem 2 (t 72) (t 73), none, [19, 20]⟩, q 75 (.mov (t 0)), ⟨some 76, .bin .add 2 (t 74) (t 75), none, [21, 22]⟩, q 77 (.mov (t 0)), ⟨some 78, .bin .rem 2 (t 76) (t 77), none, [23, 24]⟩, ⟨some 79, .conv 2 5 (t 78), none, [25]⟩, ⟨some 80, .indexAddr 25 (t 4) (t 57), none, [4, 0, 1, 2, 3, 4, 5, 6, 7, 8, 9, 10, 11, 12, 13, 14, 15, 16, 17, 18, 19, 20, 21, 22, 23, 24, 25, 26]⟩, ⟨none, .store 5 (t 80) (t 79), none, [27, 26, 0, 1, 2, 3, 4, 5, 6, 7, 8, 9, 10, 11, 12, 13, 14, 15, 16, 17, 18, 19, 20, 21, 22, 23, 24, 25, 26]⟩] true)) (.region 10 [q 51 (.mov (t 13)), q 52 (.bin .add 2 (t 51) (.const (.int .i64 1))), q 13 (.asg 0 (t 52) 2)] false))))))))) (.region 5 [q 28 (.mov (t 11)), q 29 (.bin .sub 2 (t 28) (.const (.int .i64 1))), q 11 (.asg 0 (t 29) 2)] false)))))) (.seq (.region 12 [q 81 (.load 25 (t 8)), q 82 (.load 25 (t 4)), ⟨none, .store 25 (t 6) (t 81), none, [0, 0]⟩, ⟨none, .store 25 (t 7) (t 82), none, [1, 2, 0, 1, 2]⟩] true) .ret)))))
def spec_l01Divide_L : Live := [(0, [0, 1, 2]), (1, [0, 4, 5, 6, 7]), (2, [0, 4, 5, 6, 7, 8, 9]), (3, [0, 4, 5, 6, 7, 8, 9, 10]), (4, [0, 4, 5, 6, 7, 8, 9, 10, 11]), (5, [0, 4, 5, 6, 7, 8, 9, 10, 11]), (6, [0, 4, 5, 6, 7, 8, 9, 10, 11]), (7, [0, 4, 5, 6, 7, 8, 9, 10, 11, 12]), (8, [0, 4, 5, 6, 7, 8, 9, 10, 11, 12]), (9, [0, 4, 5, 6, 7, 8, 9, 10, 11, 12, 13]), (10, [0, 4, 5, 6, 7, 8, 9, 10, 11, 12, 13]), (11, [0, 4, 5, 6, 7, 8, 9, 10, 11, 12, 13]), (12, [4, 6, 7, 8]), (100027, [0, 4, 5, 6, 7, 8, 9, 10, 11, 27]), (100050, [0, 4, 5, 6, 7, 8, 9, 10, 11, 12, 13, 50])]
noncomputable def spec_l01Divide_l2 (r2 : Int) (x1405 : Int) (a0 : Int) (x995 : Int) (a2 : (Vec Int 64)) (x997 : (Vec Int 64)) (x1449 : Int) (x1450 : (Vec Int 64)) : Option ((Int × (Vec Int 64)) ⊕ ((Vec Int 64) × (Vec Int 64))) :=
  (Option.bind (α := Bool) ((if (decide (x1449 ≤ r2)) then (some (((Int.tmod x1405 a0) != 0))) else (some false))) fun x1494 => (if x1494 then (ifp (0 ≤ IntKind.i64.wrap ((IntKind.i64.wrap (x995 - r2)) + x1449) ∧ IntKind.i64.wrap ((IntKind.i64.wrap (x995 - r2)) + x1449) < ((64 : Nat) : Int)) ((letp ((rd x1450.1 (IntKind.i64.wrap ((IntKind.i64.wrap (x995 - r2)) + x1449)).toNat)) fun x1518 => (ifp (0 ≤ x1449 ∧ x1449 < ((64 : Nat) : Int)) ((letp (IntKind.i64.wrap ((Int.tmod x1405 a0) * (IntKind.i64.wrap (rd a2.1 x1449.toNat)))) fun x1522 => (ifp (a0 ≠ 0) ((letp (Int.tmod (IntKind.i64.wrap ((IntKind.i64.wrap x1518) - x1522)) a0) fun x1525 => (ifp (a0 ≠ 0) ((letp (IntKind.u8.wrap (Int.tmod (IntKind.i64.wrap (x1525 + a0)) a0)) fun x1528 => (ifp (0 ≤ IntKind.i64.wrap ((IntKind.i64.wrap (x995 - r2)) + x1449) ∧ IntKind.i64.wrap ((IntKind.i64.wrap (x995 - r2)) + x1449) < ((64 : Nat) : Int)) ((some (.inl ((IntKind.i64.wrap (x1449 + 1), (vset x1450 (IntKind.i64.wrap ((IntKind.i64.wrap (x995 - r2)) + x1449)).toNat x1528))))))))))))))))))) else (some (.inr (((x1450, (vset x997 (IntKind.i64.wrap (x995 - r2)).toNat (IntKind.u8.wrap (Int.tmod x1405 a0))))))))))
noncomputable def spec_l01Divide_l1 (r2 : Int) (r7 : Int) (a0 : Int) (a2 : (Vec Int 64)) (x995 : Int) (x996 : (Vec Int 64)) (x997 : (Vec Int 64)) : Option ((Int × (Vec Int 64) × (Vec Int 64)) ⊕ ((Vec Int 64) × (Vec Int 64))) :=
  (if (decide (x995 ≥ r2)) then (Option.bind (α := ((Vec Int 64) × (Vec Int 64))) ((ifp (0 ≤ x995 ∧ x995 < ((64 : Nat) : Int)) ((letp (IntKind.i64.wrap ((IntKind.i64.wrap (rd x996.1 x995.toNat)) * (IntKind.i64.wrap r7))) fun x1405 => (ifp (a0 ≠ 0) ((ifp (0 ≤ IntKind.i64.wrap (x995 - r2) ∧ IntKind.i64.wrap (x995 - r2) < ((64 : Nat) : Int)) ((loopM (fun s : (Int × (Vec Int 64)) => spec_l01Divide_l2 r2 x1405 a0 x995 a2 x997 s.1 s.2) (0, x996)))))))))) fun ⟨x1398, x1399⟩ => (some (.inl ((IntKind.i64.wrap (x995 - 1), x1398, x1399))))) else (some (.inr (x996, x997))))
noncomputable def spec_l01Divide (a0 : Int) (a1 : (Vec Int 64)) (a2 : (Vec Int 64)) : Option ((Vec Int 64) × (Vec Int 64)) :=
  (Option.bind (spec_l01Deg a2) fun r2 => (ifp (0 ≤ r2 ∧ r2 < ((64 : Nat) : Int)) ((Option.bind (spec_l01Inverse a0 (rd a2.1 r2.toNat)) fun r7 => (Option.bind (α := ((Vec Int 64) × (Vec Int 64))) ((Option.bind (spec_l01Deg a1) fun r751 => (loopM (fun s : (Int × (Vec Int 64) × (Vec Int 64)) => spec_l01Divide_l1 r2 r7 a0 a2 s.1 s.2.1 s.2.2) (r751, a1, (vrep 64 (0 : Int)))))) fun ⟨x745, x746⟩ => (some (x746, x745)))))))
theorem spec_l01Divide_ok (a0 : Int) (a1 : (Vec Int 64)) (a2 : (Vec Int 64)) (r : ((Vec Int 64) × (Vec Int 64))) (h : spec_l01Divide a0 a1 a2 = some r) : Den Try.prog 113 [(i6 a0), (eA64u8 a1), (eA64u8 a2)] { r := (.tuple [(eA64u8 r.1), (eA64u8 r.2)]) } := by
  refine den_of (rs := [(eA64u8 r.1), (eA64u8 r.2)]) (ac := spec_l01Divide_c) (L := spec_l01Divide_L) (n := 83) (m := []) (c := Try.f113.body.getD .skip) good Try.func113 (by kernel_rfl) (by kernel_rfl) Try.ntmps113 rfl rfl (by kernel_rfl) rfl rfl ?_
  refine a_st (σ' := ⟨[(0, (i6 a0)), (1, (eA64u8 a1)), (2, (eA64u8 a2))], []⟩) (by kernel_rfl) ?_
  unfold spec_l01Divide_c
  refine sr (vo 1400 (eA64u8 a1) rfl rfl (vo 1500 (eA64u8 a2) rfl rfl (vo 1600 (eA64u8 ((vrep 64 (0 : Int)))) rfl rfl (vo 1700 (eA64u8 ((vrep 64 (0 : Int)))) rfl rfl (nx ⟨[(0, (i6 a0)), (4, (ow 4)), (5, (ow 5)), (6, (ow 6)), (7, (ow 7))], [(4, (bk (eA64u8 a1))), (5, (bk (eA64u8 a2))), (6, (bk (eA64u8 ((vrep 64 (0 : Int)))))), (7, (bk (eA64u8 ((vrep 64 (0 : Int))))))]⟩ (by kernel_rfl) (sr (vq (eA64u8 ((vrep 64 (0 : Int)))) rfl ⟨⟨_, rfl, rfl⟩, all_nil⟩ (vl (eA64u8 a2) rfl rfl rfl rfl rfl rfl ?_))))))))
  obtain ⟨r2, hr3, h⟩ := bind_some h
  refine a_call (args := [(eA64u8 a2)]) (u := []) (r := (i6 r2)) rfl rfl (spec_l01Deg_ok a2 r2 hr3) rfl (vo 1800 (eA64u8 ((vrep 64 (0 : Int)))) rfl rfl (vs (eA64u8 ((vrep 64 (0 : Int)))) rfl rfl (fun _ => rfl) rfl rfl rfl rfl rfl rfl (vp (i6 r2) rfl (nx ⟨[(0, (i6 a0)), (4, (ow 4)), (5, (ow 5)), (6, (ow 6)), (7, (ow 7)), (8, (ow 8)), (9, (i6 r2))], [(4, (bk (eA64u8 a1))), (5, (bk (eA64u8 a2))), (6, (bk (eA64u8 ((vrep 64 (0 : Int)))))), (7, (bk (eA64u8 ((vrep 64 (0 : Int)))))), (8, (bk (eA64u8 ((vrep 64 (0 : Int))))))]⟩ (by kernel_rfl) (sr (vp (i6 a0) rfl (vp (i6 r2) rfl ?_)))))))
  obtain ⟨hc5, h⟩ := ifp_some h
  refine vq (.own 5 [r2.toNat] [r2.toNat * 1]) rfl hc5 ?_
  have hl6 : LdOk [r2.toNat] (eA64u8 a2) [r2.toNat * 1] 1 false (b8 (rd a2.1 r2.toNat)) := (.arr (vlt a2 hc5) rfl (.nil rfl rfl rfl))
  refine vq (b8 (rd a2.1 r2.toNat)) (ld_own (i := ⟨.int .u8, 1, 1, (.int .u8 0)⟩) rfl rfl rfl hl6) hl6.c ?_
  obtain ⟨r7, hr8, h⟩ := bind_some h
  refine a_call (args := [(i6 a0), (b8 (rd a2.1 r2.toNat))]) (u := []) (r := (b8 r7)) rfl rfl (spec_l01Inverse_ok a0 (rd a2.1 r2.toNat) r7 hr8) rfl (vp (i6 (IntKind.i64.wrap r7)) rfl (vp (i6 (IntKind.i64.wrap r7)) rfl (nx ⟨[(0, (i6 a0)), (4, (ow 4)), (5, (ow 5)), (6, (ow 6)), (7, (ow 7)), (8, (ow 8)), (9, (i6 r2)), (10, (i6 (IntKind.i64.wrap r7)))], [(4, (bk (eA64u8 a1))), (5, (bk (eA64u8 a2))), (6, (bk (eA64u8 ((vrep 64 (0 : Int)))))), (7, (bk (eA64u8 ((vrep 64 (0 : Int)))))), (8, (bk (eA64u8 ((vrep 64 (0 : Int))))))]⟩ (by kernel_rfl) ?_)))
  obtain ⟨y747, hy748, hk749⟩ := bind_some h
  clear h
  refine a_join (emb := fun (s : ((Vec Int 64) × (Vec Int 64))) => ⟨[(4, (ow 4)), (6, (ow 6)), (7, (ow 7)), (8, (ow 8))], [(4, (bk (eA64u8 s.1))), (6, (bk (eA64u8 ((vrep 64 (0 : Int)))))), (7, (bk (eA64u8 ((vrep 64 (0 : Int)))))), (8, (bk (eA64u8 s.2)))]⟩) (pre := fun s => s = y747) ?_ ?_
  · rintro ⟨x745, x746⟩ rfl
    have h := hk749
    refine a_st (σ' := ⟨[(4, (ow 4)), (6, (ow 6)), (7, (ow 7)), (8, (ow 8))], [(4, (bk (eA64u8 x745))), (6, (bk (eA64u8 ((vrep 64 (0 : Int)))))), (7, (bk (eA64u8 ((vrep 64 (0 : Int)))))), (8, (bk (eA64u8 x746)))]⟩) (by kernel_rfl) (a_seq (a_draw [⟨[8], [], [], []⟩, ⟨[4], [], [], []⟩, ⟨[6], [6], [], [0]⟩, ⟨[7], [7], [], [0, 1, 2]⟩] (by kernel_rfl) (d_cons (vl (eA64u8 x746) rfl rfl rfl rfl rfl rfl (d_next (by kernel_rfl) (d_cons (vl (eA64u8 x745) rfl rfl rfl rfl rfl rfl (d_next (by kernel_rfl) (d_cons ?_)))))))))
    refine vs (eA64u8 x746) rfl rfl (fun _ => rfl) rfl rfl rfl rfl rfl rfl (d_next (by kernel_rfl) (d_cons (vs (eA64u8 x745) rfl rfl (fun _ => rfl) rfl rfl rfl rfl rfl rfl (d_next (by kernel_rfl) (d_nil (a_next rfl (a_ret ?_)))))))
    have hl1542 : LdOk [] (eA64u8 x746) [] 64 true (eA64u8 x746) := (.nil rfl rfl rfl)
    have hl1543 : LdOk [] (eA64u8 x745) [] 64 true (eA64u8 x745) := (.nil rfl rfl rfl)
    refine ⟨.inr rfl, ?_⟩
    rw [Try.results113]
    cases h
    exact ⟨_, _, _, _, _, ld_own (i := ⟨.arr 64 5, 64, 64, (eA64u8 (vrep 64 (0 : Int)))⟩) rfl rfl rfl hl1542, hl1542.c, .inl ⟨rfl, .inl rfl⟩, rfl, ⟨_, _, _, _, _, ld_own (i := ⟨.arr 64 5, 64, 64, (eA64u8 (vrep 64 (0 : Int)))⟩) rfl rfl rfl hl1543, hl1543.c, .inl ⟨rfl, .inl rfl⟩, rfl, rfl⟩⟩
  · have h := hy748
    refine sr (vl (eA64u8 a1) rfl rfl rfl rfl rfl rfl ?_)
    obtain ⟨r751, hr752, h⟩ := bind_some h
    refine a_call (args := [(eA64u8 a1)]) (u := []) (r := (i6 r751)) rfl rfl (spec_l01Deg_ok a1 r751 hr752) rfl (vp (i6 r751) rfl (nx ⟨[(0, (i6 a0)), (4, (ow 4)), (5, (ow 5)), (6, (ow 6)), (7, (ow 7)), (8, (ow 8)), (9, (i6 r2)), (10, (i6 (IntKind.i64.wrap r7))), (11, (i6 r751))], [(4, (bk (eA64u8 a1))), (5, (bk (eA64u8 a2))), (6, (bk (eA64u8 ((vrep 64 (0 : Int)))))), (7, (bk (eA64u8 ((vrep 64 (0 : Int)))))), (8, (bk (eA64u8 ((vrep 64 (0 : Int))))))]⟩ (by kernel_rfl) (a_block ?_)))
    refine a_loop (emb := fun (s : (Int × (Vec Int 64) × (Vec Int 64))) => ⟨[(0, (i6 a0)), (4, (ow 4)), (5, (ow 5)), (6, (ow 6)), (7, (ow 7)), (8, (ow 8)), (9, (i6 r2)), (10, (i6 (IntKind.i64.wrap r7))), (11, (i6 s.1))], [(4, (bk (eA64u8 s.2.1))), (5, (bk (eA64u8 a2))), (6, (bk (eA64u8 ((vrep 64 (0 : Int)))))), (7, (bk (eA64u8 ((vrep 64 (0 : Int)))))), (8, (bk (eA64u8 s.2.2)))]⟩) (body := (fun s : (Int × (Vec Int 64) × (Vec Int 64)) => spec_l01Divide_l1 r2 r7 a0 a2 s.1 s.2.1 s.2.2)) (G := fun q => some q = some y747) h rfl ?_ (by kernel_rfl)
    rintro X1264 ⟨x995, x996, x997⟩ x1265 h hX1266
    have h : spec_l01Divide_l1 r2 r7 a0 a2 x995 x996 x997 = some x1265 := h
    refine a_st (σ' := ⟨[(0, (i6 a0)), (4, (ow 4)), (5, (ow 5)), (6, (ow 6)), (7, (ow 7)), (8, (ow 8)), (9, (i6 r2)), (10, (i6 (IntKind.i64.wrap r7))), (11, (i6 x995))], [(4, (bk (eA64u8 x996))), (5, (bk (eA64u8 a2))), (6, (bk (eA64u8 ((vrep 64 (0 : Int)))))), (7, (bk (eA64u8 ((vrep 64 (0 : Int)))))), (8, (bk (eA64u8 x997)))]⟩) (by kernel_rfl) (a_seq (sr (vp (i6 x995) rfl (vp (i6 r2) rfl (vp (.bool ((decide (x995 ≥ r2)))) rfl (nx ⟨[(0, (i6 a0)), (4, (ow 4)), (5, (ow 5)), (6, (ow 6)), (7, (ow 7)), (8, (ow 8)), (9, (i6 r2)), (10, (i6 (IntKind.i64.wrap r7))), (11, (i6 x995)), (27, (.bool ((decide (x995 ≥ r2)))))], [(4, (bk (eA64u8 x996))), (5, (bk (eA64u8 a2))), (6, (bk (eA64u8 ((vrep 64 (0 : Int)))))), (7, (bk (eA64u8 ((vrep 64 (0 : Int)))))), (8, (bk (eA64u8 x997)))]⟩ (by kernel_rfl) ?_))))))
    cases hb1267 : (decide (x995 ≥ r2))
    · have h := ite_f hb1267 h
      refine a_cond_f rfl (a_exit (t_exit ?_))
      cases h
      have h := hX1266
      refine t_exit (b_exit ?_)
      exact j_leaf (x996, x997) (Option.some.inj h) (by kernel_rfl)
    · have h := ite_t hb1267 h
      refine a_cond_t rfl (a_skip (a_next (σ' := ⟨[(0, (i6 a0)), (4, (ow 4)), (5, (ow 5)), (6, (ow 6)), (7, (ow 7)), (8, (ow 8)), (9, (i6 r2)), (10, (i6 (IntKind.i64.wrap r7))), (11, (i6 x995))], [(4, (bk (eA64u8 x996))), (5, (bk (eA64u8 a2))), (6, (bk (eA64u8 ((vrep 64 (0 : Int)))))), (7, (bk (eA64u8 ((vrep 64 (0 : Int)))))), (8, (bk (eA64u8 x997)))]⟩) (by kernel_rfl) ?_))
      obtain ⟨y1400, hy1401, hk1402⟩ := bind_some h
      clear h
      refine a_join (emb := fun (s : ((Vec Int 64) × (Vec Int 64))) => ⟨[(0, (i6 a0)), (4, (ow 4)), (5, (ow 5)), (6, (ow 6)), (7, (ow 7)), (8, (ow 8)), (9, (i6 r2)), (10, (i6 (IntKind.i64.wrap r7))), (11, (i6 x995))], [(4, (bk (eA64u8 s.1))), (5, (bk (eA64u8 a2))), (6, (bk (eA64u8 ((vrep 64 (0 : Int)))))), (7, (bk (eA64u8 ((vrep 64 (0 : Int)))))), (8, (bk (eA64u8 s.2)))]⟩) (pre := fun s => s = y1400) ?_ ?_
      · rintro ⟨x1398, x1399⟩ rfl
        have h := hk1402
        refine a_st (σ' := ⟨[(0, (i6 a0)), (4, (ow 4)), (5, (ow 5)), (6, (ow 6)), (7, (ow 7)), (8, (ow 8)), (9, (i6 r2)), (10, (i6 (IntKind.i64.wrap r7))), (11, (i6 x995))], [(4, (bk (eA64u8 x1398))), (5, (bk (eA64u8 a2))), (6, (bk (eA64u8 ((vrep 64 (0 : Int)))))), (7, (bk (eA64u8 ((vrep 64 (0 : Int)))))), (8, (bk (eA64u8 x1399)))]⟩) (by kernel_rfl) (a_region (vp (i6 x995) rfl (vp (i6 (IntKind.i64.wrap (x995 - 1))) rfl (vp (i6 (IntKind.i64.wrap (x995 - 1))) rfl (a_nil ?_)))))
        cases h
        exact a_again (by kernel_rfl) hX1266
      · have h := hy1401
        refine a_block (sr (vp (i6 x995) rfl ?_))
        obtain ⟨hc1403, h⟩ := ifp_some h
        refine vq (.own 4 [x995.toNat] [x995.toNat * 1]) rfl hc1403 ?_
        have hl1404 : LdOk [x995.toNat] (eA64u8 x996) [x995.toNat * 1] 1 false (b8 (rd x996.1 x995.toNat)) := (.arr (vlt x996 hc1403) rfl (.nil rfl rfl rfl))
        refine vq (b8 (rd x996.1 x995.toNat)) (ld_own (i := ⟨.int .u8, 1, 1, (.int .u8 0)⟩) rfl rfl rfl hl1404) hl1404.c (vp (i6 (IntKind.i64.wrap (rd x996.1 x995.toNat))) rfl (vp (i6 (IntKind.i64.wrap r7)) rfl ?_))
        obtain ⟨x1405, hx1406, h⟩ := letp_some h
        refine a_val' (v := (i6 (IntKind.i64.wrap ((IntKind.i64.wrap (rd x996.1 x995.toNat)) * (IntKind.i64.wrap r7))))) (v' := (i6 x1405)) (u := []) (u' := []) rfl (congrArg (fun z => ((i6 z) : AV)) hx1406) rfl trivial rfl (vp (i6 a0) rfl ?_)
        obtain ⟨hc1407, h⟩ := ifp_some h
        refine vq (i6 (Int.tmod x1405 a0)) rfl hc1407 (vp (i6 (Int.tmod x1405 a0)) rfl (nx ⟨[(0, (i6 a0)), (4, (ow 4)), (5, (ow 5)), (6, (ow 6)), (7, (ow 7)), (8, (ow 8)), (9, (i6 r2)), (10, (i6 (IntKind.i64.wrap r7))), (11, (i6 x995)), (12, (i6 (Int.tmod x1405 a0)))], [(4, (bk (eA64u8 x996))), (5, (bk (eA64u8 a2))), (6, (bk (eA64u8 ((vrep 64 (0 : Int)))))), (7, (bk (eA64u8 ((vrep 64 (0 : Int)))))), (8, (bk (eA64u8 x997)))]⟩ (by kernel_rfl) (sr (vp (i6 x995) rfl (vp (i6 r2) rfl (vp (i6 (IntKind.i64.wrap (x995 - r2))) rfl (vp (i6 (Int.tmod x1405 a0)) rfl (vp (b8 (IntKind.u8.wrap (Int.tmod x1405 a0))) rfl ?_))))))))
        obtain ⟨hc1408, h⟩ := ifp_some h
        refine vq (.own 8 [(IntKind.i64.wrap (x995 - r2)).toNat] [(IntKind.i64.wrap (x995 - r2)).toNat * 1]) rfl hc1408 ?_
        have hs1409 : StOk [(IntKind.i64.wrap (x995 - r2)).toNat] (eA64u8 x997) [(IntKind.i64.wrap (x995 - r2)).toNat * 1] 1 (b8 (IntKind.u8.wrap (Int.tmod x1405 a0))) (eA64u8 ((vset x997 (IntKind.i64.wrap (x995 - r2)).toNat (IntKind.u8.wrap (Int.tmod x1405 a0))))) := (.arr (y := IntKind.u8.wrap (Int.tmod x1405 a0)) (vlt x997 hc1408) rfl (.nil rfl rfl rfl rfl))
        refine vu .top [(8, (bk (eA64u8 ((vset x997 (IntKind.i64.wrap (x995 - r2)).toNat (IntKind.u8.wrap (Int.tmod x1405 a0)))))))] (st_own (i := ⟨.int .u8, 1, 1, (.int .u8 0)⟩) rfl rfl (fun _ => rfl) rfl hs1409) (hs1409.c rfl) rfl (nx ⟨[(0, (i6 a0)), (4, (ow 4)), (5, (ow 5)), (6, (ow 6)), (7, (ow 7)), (8, (ow 8)), (9, (i6 r2)), (10, (i6 (IntKind.i64.wrap r7))), (11, (i6 x995)), (12, (i6 (Int.tmod x1405 a0)))], [(4, (bk (eA64u8 x996))), (5, (bk (eA64u8 a2))), (6, (bk (eA64u8 ((vrep 64 (0 : Int)))))), (7, (bk (eA64u8 ((vrep 64 (0 : Int)))))), (8, (bk (eA64u8 ((vset x997 (IntKind.i64.wrap (x995 - r2)).toNat (IntKind.u8.wrap (Int.tmod x1405 a0)))))))]⟩ (by kernel_rfl) (sr (vp (i6 0) rfl (nx ⟨[(0, (i6 a0)), (4, (ow 4)), (5, (ow 5)), (6, (ow 6)), (7, (ow 7)), (8, (ow 8)), (9, (i6 r2)), (10, (i6 (IntKind.i64.wrap r7))), (11, (i6 x995)), (12, (i6 (Int.tmod x1405 a0))), (13, (i6 0))], [(4, (bk (eA64u8 x996))), (5, (bk (eA64u8 a2))), (6, (bk (eA64u8 ((vrep 64 (0 : Int)))))), (7, (bk (eA64u8 ((vrep 64 (0 : Int)))))), (8, (bk (eA64u8 ((vset x997 (IntKind.i64.wrap (x995 - r2)).toNat (IntKind.u8.wrap (Int.tmod x1405 a0)))))))]⟩ (by kernel_rfl) (a_block ?_)))))
        refine a_loop (emb := fun (s : (Int × (Vec Int 64))) => ⟨[(0, (i6 a0)), (4, (ow 4)), (5, (ow 5)), (6, (ow 6)), (7, (ow 7)), (8, (ow 8)), (9, (i6 r2)), (10, (i6 (IntKind.i64.wrap r7))), (11, (i6 x995)), (12, (i6 (Int.tmod x1405 a0))), (13, (i6 s.1))], [(4, (bk (eA64u8 s.2))), (5, (bk (eA64u8 a2))), (6, (bk (eA64u8 ((vrep 64 (0 : Int)))))), (7, (bk (eA64u8 ((vrep 64 (0 : Int)))))), (8, (bk (eA64u8 ((vset x997 (IntKind.i64.wrap (x995 - r2)).toNat (IntKind.u8.wrap (Int.tmod x1405 a0)))))))]⟩) (body := (fun s : (Int × (Vec Int 64)) => spec_l01Divide_l2 r2 x1405 a0 x995 a2 x997 s.1 s.2)) (G := fun q => some q = some y1400) h rfl ?_ (by kernel_rfl)
        rintro X1490 ⟨x1449, x1450⟩ x1491 h hX1492
        have h : spec_l01Divide_l2 r2 x1405 a0 x995 a2 x997 x1449 x1450 = some x1491 := h
        refine a_st (σ' := ⟨[(0, (i6 a0)), (4, (ow 4)), (5, (ow 5)), (6, (ow 6)), (7, (ow 7)), (8, (ow 8)), (9, (i6 r2)), (10, (i6 (IntKind.i64.wrap r7))), (11, (i6 x995)), (12, (i6 (Int.tmod x1405 a0))), (13, (i6 x1449))], [(4, (bk (eA64u8 x1450))), (5, (bk (eA64u8 a2))), (6, (bk (eA64u8 ((vrep 64 (0 : Int)))))), (7, (bk (eA64u8 ((vrep 64 (0 : Int)))))), (8, (bk (eA64u8 ((vset x997 (IntKind.i64.wrap (x995 - r2)).toNat (IntKind.u8.wrap (Int.tmod x1405 a0)))))))]⟩) (by kernel_rfl) (a_seq ?_)
        obtain ⟨y1495, hy1496, hk1497⟩ := bind_some h
        clear h
        refine a_join (emb := fun (s : Bool) => ⟨[(0, (i6 a0)), (4, (ow 4)), (5, (ow 5)), (6, (ow 6)), (7, (ow 7)), (8, (ow 8)), (9, (i6 r2)), (10, (i6 (IntKind.i64.wrap r7))), (11, (i6 x995)), (12, (i6 (Int.tmod x1405 a0))), (13, (i6 x1449)), (50, (.bool s))], [(4, (bk (eA64u8 x1450))), (5, (bk (eA64u8 a2))), (6, (bk (eA64u8 ((vrep 64 (0 : Int)))))), (7, (bk (eA64u8 ((vrep 64 (0 : Int)))))), (8, (bk (eA64u8 ((vset x997 (IntKind.i64.wrap (x995 - r2)).toNat (IntKind.u8.wrap (Int.tmod x1405 a0)))))))]⟩) (pre := fun s => s = y1495) ?_ ?_
        · rintro x1494 rfl
          have h := hk1497
          refine a_st (σ' := ⟨[(0, (i6 a0)), (4, (ow 4)), (5, (ow 5)), (6, (ow 6)), (7, (ow 7)), (8, (ow 8)), (9, (i6 r2)), (10, (i6 (IntKind.i64.wrap r7))), (11, (i6 x995)), (12, (i6 (Int.tmod x1405 a0))), (13, (i6 x1449)), (50, (.bool x1494))], [(4, (bk (eA64u8 x1450))), (5, (bk (eA64u8 a2))), (6, (bk (eA64u8 ((vrep 64 (0 : Int)))))), (7, (bk (eA64u8 ((vrep 64 (0 : Int)))))), (8, (bk (eA64u8 ((vset x997 (IntKind.i64.wrap (x995 - r2)).toNat (IntKind.u8.wrap (Int.tmod x1405 a0)))))))]⟩) (by kernel_rfl) ?_
          cases hb1499 : x1494
          · have h := ite_f hb1499 h
            refine a_cond_f rfl (a_exit (t_exit ?_))
            cases h
            have h := hX1492
            refine t_exit (b_exit (b_norm ?_))
            exact j_leaf ((x1450, (vset x997 (IntKind.i64.wrap (x995 - r2)).toNat (IntKind.u8.wrap (Int.tmod x1405 a0))))) (Option.some.inj h) (by kernel_rfl)
          · have h := ite_t hb1499 h
            refine a_cond_t rfl (a_skip (a_next (σ' := ⟨[(0, (i6 a0)), (4, (ow 4)), (5, (ow 5)), (6, (ow 6)), (7, (ow 7)), (8, (ow 8)), (9, (i6 r2)), (10, (i6 (IntKind.i64.wrap r7))), (11, (i6 x995)), (12, (i6 (Int.tmod x1405 a0))), (13, (i6 x1449))], [(4, (bk (eA64u8 x1450))), (5, (bk (eA64u8 a2))), (6, (bk (eA64u8 ((vrep 64 (0 : Int)))))), (7, (bk (eA64u8 ((vrep 64 (0 : Int)))))), (8, (bk (eA64u8 ((vset x997 (IntKind.i64.wrap (x995 - r2)).toNat (IntKind.u8.wrap (Int.tmod x1405 a0)))))))]⟩) (by kernel_rfl) (a_seq (a_block (a_draw [⟨[], [], [], []⟩, ⟨[], [], [], []⟩, ⟨[], [], [], [0, 1]⟩, ⟨[], [], [], []⟩, ⟨[], [], [], [0, 1, 2, 3]⟩, ⟨[], [], [], []⟩, ⟨[], [], [], []⟩, ⟨[], [], [], [5, 6]⟩, ⟨[], [], [], []⟩, ⟨[], [], [], [5, 6, 7, 8]⟩, ⟨[4], [], [4], [5, 6, 7, 8, 9]⟩, ⟨[4], [], [], [5, 6, 7, 8, 9, 10]⟩, ⟨[], [], [], [5, 6, 7, 8, 9, 10, 11]⟩, ⟨[], [], [], []⟩, ⟨[], [], [], []⟩, ⟨[5], [], [5], [14]⟩, ⟨[5], [], [], [14, 15]⟩, ⟨[], [], [], [14, 15, 16]⟩, ⟨[], [], [], [13, 14, 15, 16, 17]⟩, ⟨[], [], [], [5, 6, 7, 8, 9, 10, 11, 12, 13, 14, 15, 16, 17, 18]⟩, ⟨[], [], [], []⟩, ⟨[], [], [], [5, 6, 7, 8, 9, 10, 11, 12, 13, 14, 15, 16, 17, 18, 19, 20]⟩, ⟨[], [], [], []⟩, ⟨[], [], [], [5, 6, 7, 8, 9, 10, 11, 12, 13, 14, 15, 16, 17, 18, 19, 20, 21, 22]⟩, ⟨[], [], [], []⟩, ⟨[], [], [], [5, 6, 7, 8, 9, 10, 11, 12, 13, 14, 15, 16, 17, 18, 19, 20, 21, 22, 23, 24]⟩, ⟨[], [], [], [5, 6, 7, 8, 9, 10, 11, 12, 13, 14, 15, 16, 17, 18, 19, 20, 21, 22, 23, 24, 25]⟩, ⟨[4], [], [4], [0, 1, 2, 3, 4, 5, 6, 7, 8, 9, 10, 11, 12, 13, 14, 15, 16, 17, 18, 19, 20, 21, 22, 23, 24, 25, 26]⟩, ⟨[4], [4], [], [0, 1, 2, 3, 4, 5, 6, 7, 8, 9, 10, 11, 12, 13, 14, 15, 16, 17, 18, 19, 20, 21, 22, 23, 24, 25, 26, 27]⟩] (by kernel_rfl) (dp (i6 x995) rfl (by kernel_rfl) (dp (i6 r2) rfl (by kernel_rfl) (dp (i6 (IntKind.i64.wrap (x995 - r2))) rfl (by kernel_rfl) (dp (i6 x1449) rfl (by kernel_rfl) ?_)))))))))
            refine dp (i6 (IntKind.i64.wrap ((IntKind.i64.wrap (x995 - r2)) + x1449))) rfl (by kernel_rfl) (dp (i6 x995) rfl (by kernel_rfl) (dp (i6 r2) rfl (by kernel_rfl) (dp (i6 (IntKind.i64.wrap (x995 - r2))) rfl (by kernel_rfl) (dp (i6 x1449) rfl (by kernel_rfl) (dp (i6 (IntKind.i64.wrap ((IntKind.i64.wrap (x995 - r2)) + x1449))) rfl (by kernel_rfl) (d_cons ?_))))))
            obtain ⟨hc1516, h⟩ := ifp_some h
            refine vq (.own 4 [(IntKind.i64.wrap ((IntKind.i64.wrap (x995 - r2)) + x1449)).toNat] [(IntKind.i64.wrap ((IntKind.i64.wrap (x995 - r2)) + x1449)).toNat * 1]) rfl hc1516 (d_next (by kernel_rfl) (d_cons ?_))
            have hl1517 : LdOk [(IntKind.i64.wrap ((IntKind.i64.wrap (x995 - r2)) + x1449)).toNat] (eA64u8 x1450) [(IntKind.i64.wrap ((IntKind.i64.wrap (x995 - r2)) + x1449)).toNat * 1] 1 false (b8 ((rd x1450.1 (IntKind.i64.wrap ((IntKind.i64.wrap (x995 - r2)) + x1449)).toNat))) := (.arr (vlt x1450 hc1516) rfl (.nil rfl rfl rfl))
            obtain ⟨x1518, hx1519, h⟩ := letp_some h
            refine a_val' (v := (b8 ((rd x1450.1 (IntKind.i64.wrap ((IntKind.i64.wrap (x995 - r2)) + x1449)).toNat)))) (v' := (b8 x1518)) (u := []) (u' := []) (ld_own (i := ⟨.int .u8, 1, 1, (.int .u8 0)⟩) rfl rfl rfl hl1517) (congrArg (fun z => ((b8 z) : AV)) hx1519) rfl hl1517.c rfl (d_next (by kernel_rfl) (dp (i6 (IntKind.i64.wrap x1518)) rfl (by kernel_rfl) (dp (i6 (Int.tmod x1405 a0)) rfl (by kernel_rfl) (dp (i6 x1449) rfl (by kernel_rfl) (d_cons ?_)))))
            obtain ⟨hc1520, h⟩ := ifp_some h
            refine vq (.own 5 [x1449.toNat] [x1449.toNat * 1]) rfl hc1520 (d_next (by kernel_rfl) (d_cons ?_))
            have hl1521 : LdOk [x1449.toNat] (eA64u8 a2) [x1449.toNat * 1] 1 false (b8 (rd a2.1 x1449.toNat)) := (.arr (vlt a2 hc1520) rfl (.nil rfl rfl rfl))
            refine vq (b8 (rd a2.1 x1449.toNat)) (ld_own (i := ⟨.int .u8, 1, 1, (.int .u8 0)⟩) rfl rfl rfl hl1521) hl1521.c (d_next (by kernel_rfl) (dp (i6 (IntKind.i64.wrap (rd a2.1 x1449.toNat))) rfl (by kernel_rfl) (d_cons ?_)))
            obtain ⟨x1522, hx1523, h⟩ := letp_some h
            refine a_val' (v := (i6 (IntKind.i64.wrap ((Int.tmod x1405 a0) * (IntKind.i64.wrap (rd a2.1 x1449.toNat)))))) (v' := (i6 x1522)) (u := []) (u' := []) rfl (congrArg (fun z => ((i6 z) : AV)) hx1523) rfl trivial rfl (d_next (by kernel_rfl) (dp (i6 (IntKind.i64.wrap ((IntKind.i64.wrap x1518) - x1522))) rfl (by kernel_rfl) (dp (i6 a0) rfl (by kernel_rfl) (d_cons ?_))))
            obtain ⟨hc1524, h⟩ := ifp_some h
            obtain ⟨x1525, hx1526, h⟩ := letp_some h
            refine a_val' (v := (i6 (Int.tmod (IntKind.i64.wrap ((IntKind.i64.wrap x1518) - x1522)) a0))) (v' := (i6 x1525)) (u := []) (u' := []) rfl (congrArg (fun z => ((i6 z) : AV)) hx1526) rfl hc1524 rfl (d_next (by kernel_rfl) (dp (i6 a0) rfl (by kernel_rfl) (dp (i6 (IntKind.i64.wrap (x1525 + a0))) rfl (by kernel_rfl) (dp (i6 a0) rfl (by kernel_rfl) (d_cons ?_)))))
            obtain ⟨hc1527, h⟩ := ifp_some h
            refine vq (i6 (Int.tmod (IntKind.i64.wrap (x1525 + a0)) a0)) rfl hc1527 (d_next (by kernel_rfl) (d_cons ?_))
            obtain ⟨x1528, hx1529, h⟩ := letp_some h
            refine a_val' (v := (b8 (IntKind.u8.wrap (Int.tmod (IntKind.i64.wrap (x1525 + a0)) a0)))) (v' := (b8 x1528)) (u := []) (u' := []) rfl (congrArg (fun z => ((b8 z) : AV)) hx1529) rfl trivial rfl (d_next (by kernel_rfl) (d_cons ?_))
            obtain ⟨hc1530, h⟩ := ifp_some h
            refine vq (.own 4 [(IntKind.i64.wrap ((IntKind.i64.wrap (x995 - r2)) + x1449)).toNat] [(IntKind.i64.wrap ((IntKind.i64.wrap (x995 - r2)) + x1449)).toNat * 1]) rfl hc1530 (d_next (by kernel_rfl) (d_cons ?_))
            have hs1531 : StOk [(IntKind.i64.wrap ((IntKind.i64.wrap (x995 - r2)) + x1449)).toNat] (eA64u8 x1450) [(IntKind.i64.wrap ((IntKind.i64.wrap (x995 - r2)) + x1449)).toNat * 1] 1 (b8 x1528) (eA64u8 ((vset x1450 (IntKind.i64.wrap ((IntKind.i64.wrap (x995 - r2)) + x1449)).toNat x1528))) := (.arr (y := x1528) (vlt x1450 hc1530) rfl (.nil rfl rfl rfl rfl))
            refine vu .top [(4, (bk (eA64u8 ((vset x1450 (IntKind.i64.wrap ((IntKind.i64.wrap (x995 - r2)) + x1449)).toNat x1528)))))] (st_own (i := ⟨.int .u8, 1, 1, (.int .u8 0)⟩) rfl rfl (fun _ => rfl) rfl hs1531) (hs1531.c rfl) rfl (d_next (by kernel_rfl) (d_nil (b_norm (a_next (σ' := ⟨[(0, (i6 a0)), (4, (ow 4)), (5, (ow 5)), (6, (ow 6)), (7, (ow 7)), (8, (ow 8)), (9, (i6 r2)), (10, (i6 (IntKind.i64.wrap r7))), (11, (i6 x995)), (12, (i6 (Int.tmod x1405 a0))), (13, (i6 x1449))], [(4, (bk (eA64u8 ((vset x1450 (IntKind.i64.wrap ((IntKind.i64.wrap (x995 - r2)) + x1449)).toNat x1528))))), (5, (bk (eA64u8 a2))), (6, (bk (eA64u8 ((vrep 64 (0 : Int)))))), (7, (bk (eA64u8 ((vrep 64 (0 : Int)))))), (8, (bk (eA64u8 ((vset x997 (IntKind.i64.wrap (x995 - r2)).toNat (IntKind.u8.wrap (Int.tmod x1405 a0)))))))]⟩) (by kernel_rfl) (a_region (vp (i6 x1449) rfl (vp (i6 (IntKind.i64.wrap (x1449 + 1))) rfl (vp (i6 (IntKind.i64.wrap (x1449 + 1))) rfl (a_nil ?_)))))))))
            cases h
            exact a_again (by kernel_rfl) hX1492
        · have h := hy1496
          refine a_region (vp (i6 x1449) rfl (vp (i6 r2) rfl (vp (.bool ((decide (x1449 ≤ r2)))) rfl (vp (.bool ((decide (x1449 ≤ r2)))) rfl ?_))))
          cases hb1498 : (decide (x1449 ≤ r2))
          · have h := ite_f hb1498 h
            refine a_gskip rfl (a_gskip rfl (vp (.bool false) rfl (a_nil ?_)))
            exact j_leaf false (Option.some.inj h) (by kernel_rfl)
          · have h := ite_t hb1498 h
            refine gp (i6 (Int.tmod x1405 a0)) rfl rfl (gp (.bool (((Int.tmod x1405 a0) != 0))) rfl rfl (vp (.bool (((Int.tmod x1405 a0) != 0))) rfl (a_nil ?_)))
            exact j_leaf (((Int.tmod x1405 a0) != 0)) (Option.some.inj h) (by kernel_rfl)
def spec_l10Continued_c : ACode := (.seq (.region 0 [q 4 (.box 25 (t 1)), q 5 (.box 25 (t 2)), q 6 (.asg 1 (.const (.slice none 0 0)) 55)] false) (.seq (.region 1 [q 10 (.bslice 2 55 0 []), q 7 (.asg 2 (t 10) 55)] false) (.seq (.block 0 (.loop (.seq (.seq (.region 2 [q 11 (.load 25 (t 5)), q 12 (.build 25 []), q 13 (.bin .neq 25 (t 11) (t 12))] false) (.cond (t 13) .skip (.exit 0))) (.block 1 (.seq (.region 3 [q 15 (.mov (t 0)), q 16 (.load 25 (t 4)), q 17 (.load 25 (t 5)), q 18 (.call 0 (.func 113) [(t 15), (t 16), (t 17)]), q 14 (.mov (t 18)), q 19 (.extract (t 14) 0), q 20 (.extract (t 14) 1), q 8 (.alloc 25), q 9 (.alloc 25), ⟨none, .store 25 (t 8) (t 19), none, []⟩, ⟨none, .store 25 (t 9) (t 20), none, []⟩] false) (.seq (.region 4 [q 21 (.mov (t 7)), q 22 (.load 25 (t 8)), q 23 (.bslice 0 55 1 [(0, (t 22))]), q 24 (.blt 0 .append [(t 21), (t 23)] [55, 55]), q 7 (.asg 2 (t 24) 55)] false) (.seq (.region 5 [q 25 (.load 25 (t 5)), ⟨none, .store 25 (t 4) (t 25), none, []⟩] false) (.region 6 [q 26 (.load 25 (t 9)), ⟨none, .store 25 (t 5) (t 26), none, []⟩] false)))))))) (.seq (.region 7 [q 27 (.mov (t 7)), q 6 (.asg 1 (t 27) 55)] false) .ret))))
def spec_l10Continued_L : Live := [(0, [0, 1, 2]), (1, [0, 4, 5]), (2, [0, 4, 5, 7]), (3, [0, 4, 5, 7]), (4, [0, 4, 5, 7, 8, 9]), (5, [0, 4, 5, 7, 9]), (6, [0, 4, 5, 7, 9]), (7, [7]), (100013, [0, 4, 5, 7, 13])]
noncomputable def spec_l10Continued_l1 (a0 : Int) (x68 : (Vec Int 64)) (x69 : (Vec Int 64)) (x70 : (List (Vec Int 64))) : Option (((Vec Int 64) × (Vec Int 64) × (List (Vec Int 64))) ⊕ (List (Vec Int 64))) :=
  (if (!decide (x69 = ((vrep 64 (0 : Int))))) then (Option.bind (spec_l01Divide a0 x68 x69) fun r92 => (ifp ((x70.length + ([r92.1] : List (Vec Int 64)).length) * 64 ≤ 140737488355328) ((some (.inl ((x69, r92.2, (x70 ++ ([r92.1]))))))))) else (some (.inr x70)))
noncomputable def spec_l10Continued (a0 : Int) (a1 : (Vec Int 64)) (a2 : (Vec Int 64)) : Option (List (Vec Int 64)) :=
  (Option.bind (α := (List (Vec Int 64))) ((loopM (fun s : ((Vec Int 64) × (Vec Int 64) × (List (Vec Int 64))) => spec_l10Continued_l1 a0 s.1 s.2.1 s.2.2) (a1, a2, []))) fun x50 => (some x50))
theorem spec_l10Continued_ok (a0 : Int) (a1 : (Vec Int 64)) (a2 : (Vec Int 64)) (r : (List (Vec Int 64))) (h : spec_l10Continued a0 a1 a2 = some r) : Den Try.prog 154 [(i6 a0), (eA64u8 a1), (eA64u8 a2)] { r := (eSA64u8 r) } := by
  refine den_of (rs := [(eSA64u8 r)]) (ac := spec_l10Continued_c) (L := spec_l10Continued_L) (n := 28) (m := [(6, 1), (7, 2), (10, 2)]) (c := Try.f154.body.getD .skip) good Try.func154 (by kernel_rfl) (by kernel_rfl) Try.ntmps154 rfl rfl (by kernel_rfl) rfl rfl ?_
  refine a_st (σ' := ⟨[(0, (i6 a0)), (1, (eA64u8 a1)), (2, (eA64u8 a2))], []⟩) (by kernel_rfl) ?_
  unfold spec_l10Continued_c
  refine sr (vo 1400 (eA64u8 a1) rfl rfl (vo 1500 (eA64u8 a2) rfl rfl (vp (eSA64u8 ([])) rfl (nx ⟨[(0, (i6 a0)), (4, (ow 4)), (5, (ow 5))], [(4, (bk (eA64u8 a1))), (5, (bk (eA64u8 a2)))]⟩ (by kernel_rfl) (sr (vu (.osl 2000) [(2000, (bk (.row 64 (([]).map eA64u8))))] rfl ⟨(Nat.le_of_ble_eq_true rfl), (Nat.le_of_ble_eq_true rfl), all_nil⟩ rfl (vp (.osl 2000) rfl (nx ⟨[(0, (i6 a0)), (4, (ow 4)), (5, (ow 5)), (7, (.osl 7))], [(4, (bk (eA64u8 a1))), (5, (bk (eA64u8 a2))), (7, (bk (.row 64 (([]).map eA64u8))))]⟩ (by kernel_rfl) ?_))))))))
  obtain ⟨y51, hy52, hk53⟩ := bind_some h
  clear h
  refine a_join (emb := fun (s : (List (Vec Int 64))) => ⟨[(7, (.osl 7))], [(7, (bk (.row 64 (s.map eA64u8))))]⟩) (pre := fun s => s = y51) ?_ ?_
  · rintro x50 rfl
    have h := hk53
    refine a_st (σ' := ⟨[(7, (.osl 7))], [(7, (bk (.row 64 (x50.map eA64u8))))]⟩) (by kernel_rfl) (sr (vp (.osl 7) rfl (vu (eSA64u8 x50) [(7, (bf (.row 64 (x50.map eA64u8))))] rfl trivial rfl (nx _ rfl (a_ret ?_)))))
    refine ⟨.inr rfl, ?_⟩
    rw [Try.results154]
    cases h
    exact ⟨_, _, _, _, _, rfl, trivial, .inl ⟨rfl, .inl rfl⟩, rfl, rfl⟩
  · have h := hy52
    refine a_block ?_
    refine a_loop (emb := fun (s : ((Vec Int 64) × (Vec Int 64) × (List (Vec Int 64)))) => ⟨[(0, (i6 a0)), (4, (ow 4)), (5, (ow 5)), (7, (.osl 7))], [(4, (bk (eA64u8 s.1))), (5, (bk (eA64u8 s.2.1))), (7, (bk (.row 64 (s.2.2.map eA64u8))))]⟩) (body := (fun s : ((Vec Int 64) × (Vec Int 64) × (List (Vec Int 64))) => spec_l10Continued_l1 a0 s.1 s.2.1 s.2.2)) (G := fun q => some q = some y51) h rfl ?_ (by kernel_rfl)
    rintro X85 ⟨x68, x69, x70⟩ x86 h hX87
    have h : spec_l10Continued_l1 a0 x68 x69 x70 = some x86 := h
    refine a_st (σ' := ⟨[(0, (i6 a0)), (4, (ow 4)), (5, (ow 5)), (7, (.osl 7))], [(4, (bk (eA64u8 x68))), (5, (bk (eA64u8 x69))), (7, (bk (.row 64 (x70.map eA64u8))))]⟩) (by kernel_rfl) (a_seq (sr (vl (eA64u8 x69) rfl rfl rfl rfl rfl rfl (vq (eA64u8 ((vrep 64 (0 : Int)))) rfl ⟨⟨_, rfl, rfl⟩, all_nil⟩ (vq (.bool ((!decide (x69 = ((vrep 64 (0 : Int))))))) (nea_run (f := (AV.int .u8)) (a := x69.1) (b := ((vrep 64 (0 : Int))).1) rfl rfl (eqb_vec (fun _ _ => eqb_int _ _) x69 ((vrep 64 (0 : Int))))) (cmp_arr (g := 8) (f := (AV.int .u8)) (x := x69) (y := ((vrep 64 (0 : Int)))) rfl rfl rfl (fun _ _ => rfl) (fun _ _ => cmp_int rfl)) (nx ⟨[(0, (i6 a0)), (4, (ow 4)), (5, (ow 5)), (7, (.osl 7)), (13, (.bool ((!decide (x69 = ((vrep 64 (0 : Int))))))))], [(4, (bk (eA64u8 x68))), (5, (bk (eA64u8 x69))), (7, (bk (.row 64 (x70.map eA64u8))))]⟩ (by kernel_rfl) ?_))))))
    cases hb89 : (!decide (x69 = ((vrep 64 (0 : Int)))))
    · have h := ite_f hb89 h
      refine a_cond_f rfl (a_exit (t_exit ?_))
      cases h
      have h := hX87
      refine t_exit (b_exit ?_)
      exact j_leaf x70 (Option.some.inj h) (by kernel_rfl)
    · have h := ite_t hb89 h
      refine a_cond_t rfl (a_skip (a_next (σ' := ⟨[(0, (i6 a0)), (4, (ow 4)), (5, (ow 5)), (7, (.osl 7))], [(4, (bk (eA64u8 x68))), (5, (bk (eA64u8 x69))), (7, (bk (.row 64 (x70.map eA64u8))))]⟩) (by kernel_rfl) (a_block (sr (vp (i6 a0) rfl (vl (eA64u8 x68) rfl rfl rfl rfl rfl rfl (vl (eA64u8 x69) rfl rfl rfl rfl rfl rfl ?_)))))))
      obtain ⟨r92, hr93, h⟩ := bind_some h
      refine a_call (args := [(i6 a0), (eA64u8 x68), (eA64u8 x69)]) (u := []) (r := (.tuple [(eA64u8 r92.1), (eA64u8 r92.2)])) rfl rfl (spec_l01Divide_ok a0 x68 x69 r92 hr93) rfl (vp (.tuple [(eA64u8 r92.1), (eA64u8 r92.2)]) rfl (vb (eA64u8 r92.1) rfl rfl (vb (eA64u8 r92.2) rfl rfl (vo 1800 (eA64u8 ((vrep 64 (0 : Int)))) rfl rfl (vo 1900 (eA64u8 ((vrep 64 (0 : Int)))) rfl rfl (vs (eA64u8 r92.1) rfl rfl (fun _ => rfl) rfl rfl rfl rfl rfl rfl (vs (eA64u8 r92.2) rfl rfl (fun _ => rfl) rfl rfl rfl rfl rfl rfl (nx ⟨[(0, (i6 a0)), (4, (ow 4)), (5, (ow 5)), (7, (.osl 7)), (8, (ow 8)), (9, (ow 9))], [(4, (bk (eA64u8 x68))), (5, (bk (eA64u8 x69))), (7, (bk (.row 64 (x70.map eA64u8)))), (8, (bk (eA64u8 r92.1))), (9, (bk (eA64u8 r92.2)))]⟩ (by kernel_rfl) (sr ?_)))))))))
      refine vp (.osl 7) rfl (vl (eA64u8 r92.1) rfl rfl rfl rfl rfl rfl (vq (.sl 64 true (([r92.1]).map eA64u8)) rfl ⟨(Nat.le_of_ble_eq_true rfl), (Nat.le_of_ble_eq_true rfl), (all_cons ⟨(Nat.le_of_ble_eq_true rfl), rfl⟩ all_nil)⟩ ?_))
      obtain ⟨hc97, h⟩ := ifp_some h
      refine vu (.osl 3400) [(3400, (bk (.row 64 (((x70 ++ ([r92.1]))).map eA64u8)))), (7, none)] (app_run (i := ⟨.arr 64 5, 64, 64, (eA64u8 (vrep 64 (0 : Int)))⟩) (f := eA64u8) (l := x70) (l2 := [r92.1]) rfl rfl rfl rfl (fun _ => rfl) rfl rfl) (app_c (f := eA64u8) (s := 64) (sz := 64) (by' := 64) (u := []) (id := 7) hc97 (.inr rfl) rfl rfl rfl) rfl (vp (.osl 3400) rfl (nx ⟨[(0, (i6 a0)), (4, (ow 4)), (5, (ow 5)), (7, (.osl 7)), (9, (ow 9))], [(4, (bk (eA64u8 x68))), (5, (bk (eA64u8 x69))), (7, (bk (.row 64 (((x70 ++ ([r92.1]))).map eA64u8)))), (9, (bk (eA64u8 r92.2)))]⟩ (by kernel_rfl) (sr (vl (eA64u8 x69) rfl rfl rfl rfl rfl rfl (vs (eA64u8 x69) rfl rfl (fun _ => rfl) rfl rfl rfl rfl rfl rfl (nx ⟨[(0, (i6 a0)), (4, (ow 4)), (5, (ow 5)), (7, (.osl 7)), (9, (ow 9))], [(4, (bk (eA64u8 x69))), (5, (bk (eA64u8 x69))), (7, (bk (.row 64 (((x70 ++ ([r92.1]))).map eA64u8)))), (9, (bk (eA64u8 r92.2)))]⟩ (by kernel_rfl) (a_region (vl (eA64u8 r92.2) rfl rfl rfl rfl rfl rfl (vs (eA64u8 r92.2) rfl rfl (fun _ => rfl) rfl rfl rfl rfl rfl rfl ?_)))))))))
      refine a_nil (b_norm ?_)
      cases h
      exact a_again (by kernel_rfl) hX87
def spec_ContinuedFraction_c : ACode := (.seq (.region 0 [q 4 (.box 25 (t 1)), q 5 (.box 25 (t 2)), q 6 (.asg 1 (.const (.slice none 0 0)) 55), q 7 (.asg 0 (.const (.int .i64 0)) 2)] false) (.seq (.seq (.region 1 [q 9 (.mov (t 0)), q 10 (.load 25 (t 4)), q 11 (.load 25 (t 5)), q 12 (.call 0 (.func 153) [(t 9), (t 10), (t 11)]), q 8 (.asg 0 (t 12) 2)] false) (.seq (.region 2 [q 13 (.mov (t 8)), q 14 (.bin .neq 2 (t 13) (.const (.int .i64 0)))] false) (.cond (t 14) (.seq (.region 3 [q 15 (.mov (t 8)), q 6 (.asg 1 (.const (.slice none 0 0)) 55), q 7 (.asg 0 (t 15) 2)] false) .ret) .skip))) (.seq (.region 4 [q 16 (.mov (t 0)), q 17 (.load 25 (t 4)), q 18 (.load 25 (t 5)), q 19 (.call 0 (.func 154) [(t 16), (t 17), (t 18)]), q 6 (.asg 1 (t 19) 55), q 7 (.asg 0 (.const (.int .i64 0)) 2)] false) .ret)))
def spec_ContinuedFraction_L : Live := [(0, [0, 1, 2]), (1, [0, 4, 5]), (2, [0, 4, 5, 8]), (3, [8]), (4, [0, 4, 5]), (100014, [0, 4, 5, 8, 14])]
noncomputable def spec_ContinuedFraction (a0 : Int) (a1 : (Vec Int 64)) (a2 : (Vec Int 64)) : Option ((List (Vec Int 64)) × Int) :=
  (Option.bind (spec_l10Code a0 a1 a2) fun r3 => (if (r3 != 0) then (some ([], r3)) else (Option.bind (spec_l10Continued a0 a1 a2) fun r8 => (some (r8, 0)))))
theorem spec_ContinuedFraction_ok (a0 : Int) (a1 : (Vec Int 64)) (a2 : (Vec Int 64)) (r : ((List (Vec Int 64)) × Int)) (h : spec_ContinuedFraction a0 a1 a2 = some r) : Den Try.prog 64 [(i6 a0), (eA64u8 a1), (eA64u8 a2)] { r := (.tuple [(eSA64u8 r.1), (i6 r.2)]) } := by
  refine den_of (rs := [(eSA64u8 r.1), (i6 r.2)]) (ac := spec_ContinuedFraction_c) (L := spec_ContinuedFraction_L) (n := 20) (m := [(6, 1)]) (c := Try.f64.body.getD .skip) good Try.func64 (by kernel_rfl) (by kernel_rfl) Try.ntmps64 rfl rfl (by kernel_rfl) rfl rfl ?_
  refine a_st (σ' := ⟨[(0, (i6 a0)), (1, (eA64u8 a1)), (2, (eA64u8 a2))], []⟩) (by kernel_rfl) ?_
  unfold spec_ContinuedFraction_c
  refine sr (vo 1400 (eA64u8 a1) rfl rfl (vo 1500 (eA64u8 a2) rfl rfl (vp (eSA64u8 ([])) rfl (vp (i6 0) rfl (nx ⟨[(0, (i6 a0)), (4, (ow 4)), (5, (ow 5))], [(4, (bk (eA64u8 a1))), (5, (bk (eA64u8 a2)))]⟩ (by kernel_rfl) (a_seq (sr (vp (i6 a0) rfl (vl (eA64u8 a1) rfl rfl rfl rfl rfl rfl ?_)))))))))
  refine vl (eA64u8 a2) rfl rfl rfl rfl rfl rfl ?_
  obtain ⟨r3, hr4, h⟩ := bind_some h
  refine a_call (args := [(i6 a0), (eA64u8 a1), (eA64u8 a2)]) (u := []) (r := (i6 r3)) rfl rfl (spec_l10Code_ok a0 a1 a2 r3 hr4) rfl (vp (i6 r3) rfl (nx ⟨[(0, (i6 a0)), (4, (ow 4)), (5, (ow 5)), (8, (i6 r3))], [(4, (bk (eA64u8 a1))), (5, (bk (eA64u8 a2)))]⟩ (by kernel_rfl) (sr (vp (i6 r3) rfl (vp (.bool (r3 != 0)) rfl (nx ⟨[(0, (i6 a0)), (4, (ow 4)), (5, (ow 5)), (8, (i6 r3)), (14, (.bool (r3 != 0)))], [(4, (bk (eA64u8 a1))), (5, (bk (eA64u8 a2)))]⟩ (by kernel_rfl) ?_))))))
  cases hb5 : (r3 != 0)
  · have h := ite_f hb5 h
    refine a_cond_f rfl (a_skip (a_next (σ' := ⟨[(0, (i6 a0)), (4, (ow 4)), (5, (ow 5))], [(4, (bk (eA64u8 a1))), (5, (bk (eA64u8 a2)))]⟩) (by kernel_rfl) (sr (vp (i6 a0) rfl (vl (eA64u8 a1) rfl rfl rfl rfl rfl rfl (vl (eA64u8 a2) rfl rfl rfl rfl rfl rfl ?_))))))
    obtain ⟨r8, hr9, h⟩ := bind_some h
    refine a_call (args := [(i6 a0), (eA64u8 a1), (eA64u8 a2)]) (u := []) (r := (eSA64u8 r8)) rfl rfl (spec_l10Continued_ok a0 a1 a2 r8 hr9) rfl (vp (eSA64u8 r8) rfl (vp (i6 0) rfl (nx _ rfl (a_ret ?_))))
    refine ⟨.inr rfl, ?_⟩
    rw [Try.results64]
    cases h
    exact ⟨_, _, _, _, _, rfl, trivial, .inl ⟨rfl, .inl rfl⟩, rfl, ⟨_, _, _, _, _, rfl, trivial, .inl ⟨rfl, .inl rfl⟩, rfl, rfl⟩⟩
  · have h := ite_t hb5 h
    refine a_cond_t rfl (sr (vp (i6 r3) rfl (vp (eSA64u8 ([])) rfl (vp (i6 r3) rfl (nx _ rfl (a_ret (t_ret ?_)))))))
    refine ⟨.inr rfl, ?_⟩
    rw [Try.results64]
    cases h
    exact ⟨_, _, _, _, _, rfl, trivial, .inl ⟨rfl, .inl rfl⟩, rfl, ⟨_, _, _, _, _, rfl, trivial, .inl ⟨rfl, .inl rfl⟩, rfl, rfl⟩⟩
def laws_polys9_c : ACode := (.seq (.region 0 [q 4 (.asg 0 (.const (.bool false)) 4)] false) (.seq (.seq (.region 1 [q 6 (.mov (t 0)), q 7 (.blt 0 .len [(t 6)] [55]), q 8 (.mov (t 1)), q 9 (.blt 0 .len [(t 8)] [55]), q 10 (.bin .neq 3 (t 7) (t 9))] false) (.cond (t 10) (.seq (.region 2 [q 4 (.asg 0 (.const (.bool false)) 4)] false) .ret) .skip)) (.seq (.seq (.region 3 [q 5 (.asg 0 (.const (.int .i64 0)) 3)] false) (.block 0 (.loop (.seq (.seq (.region 4 [q 11 (.mov (t 5)), q 12 (.mov (t 0)), q 13 (.blt 0 .len [(t 12)] [55]), q 14 (.bin .lss 3 (t 11) (t 13))] false) (.cond (t 14) .skip (.exit 0))) (.seq (.block 1 (.seq (.region 6 [q 17 (.mov (t 0)), q 18 (.mov (t 5)), ⟨some 19, .indexAddr 55 (t 17) (t 18), none, [0, 1]⟩, ⟨some 20, .load 25 (t 19), none, [2]⟩, q 21 (.mov (t 1)), q 22 (.mov (t 5)), ⟨some 23, .indexAddr 55 (t 21) (t 22), none, [4, 5]⟩, ⟨some 24, .load 25 (t 23), none, [6]⟩, ⟨some 25, .bin .neq 25 (t 20) (t 24), none, [3, 7]⟩] true) (.cond (t 25) (.seq (.region 7 [q 4 (.asg 0 (.const (.bool false)) 4)] false) .ret) .skip))) (.region 5 [q 15 (.mov (t 5)), q 16 (.bin .add 3 (t 15) (.const (.int .i64 1))), q 5 (.asg 0 (t 16) 3)] false)))))) (.seq (.region 8 [q 4 (.asg 0 (.const (.bool true)) 4)] false) .ret))))
def laws_polys9_L : Live := [(0, [0, 1]), (1, [0, 1]), (2, []), (3, [0, 1]), (4, [0, 1, 5]), (5, [0, 1, 5]), (6, [0, 1, 5]), (7, []), (8, []), (100010, [0, 1, 10]), (100014, [0, 1, 5, 14]), (100025, [0, 1, 5, 25])]
noncomputable def laws_polys9_l1 (a0 : (List (Vec Int 64))) (a1 : (List (Vec Int 64))) (x50 : Int) : Option (Int ⊕ (Unit ⊕ Bool)) :=
  (if (decide (x50 < (a0.length : Int))) then (ifp (0 ≤ x50 ∧ x50 < ((a0.length : Nat) : Int)) ((ifp (0 ≤ x50 ∧ x50 < ((a1.length : Nat) : Int)) ((if (!decide ((rd a0 x50.toNat) = (rd a1 x50.toNat))) then (some (.inr (.inr false))) else (some (.inl (IntKind.i64.wrap (x50 + 1))))))))) else (some (.inr (((.inl ()))))))
noncomputable def laws_polys9 (a0 : (List (Vec Int 64))) (a1 : (List (Vec Int 64))) : Option Bool :=
  (if ((a0.length : Int) != (a1.length : Int)) then (some false) else (Option.bind (α := (Unit ⊕ Bool)) ((loopM (fun s : Int => laws_polys9_l1 a0 a1 s) 0)) fun z => match z with | .inl _ => (some true) | .inr r75 => (some r75)))
theorem laws_polys9_ok (a0 : (List (Vec Int 64))) (a1 : (List (Vec Int 64))) (r : Bool) (h : laws_polys9 a0 a1 = some r) : Den Try.prog 65 [(eSA64u8 a0), (eSA64u8 a1)] { r := (.bool r) } := by
  refine den_of (rs := [(.bool r)]) (ac := laws_polys9_c) (L := laws_polys9_L) (n := 26) (m := []) (c := Try.f65.body.getD .skip) good Try.func65 (by kernel_rfl) (by kernel_rfl) Try.ntmps65 rfl rfl (by kernel_rfl) rfl rfl ?_
  refine a_st (σ' := ⟨[(0, (eSA64u8 a0)), (1, (eSA64u8 a1))], []⟩) (by kernel_rfl) ?_
  unfold laws_polys9_c
  refine sr (vp (.bool false) rfl (nx ⟨[(0, (eSA64u8 a0)), (1, (eSA64u8 a1))], []⟩ (by kernel_rfl) (a_seq (sr (vp (eSA64u8 a0) rfl (vq (i6 (a0.length : Int)) (len_run rfl rfl) trivial (vp (eSA64u8 a1) rfl (vq (i6 (a1.length : Int)) (len_run rfl rfl) trivial (vp (.bool (((a0.length : Int) != (a1.length : Int)))) rfl ?_)))))))))
  refine nx ⟨[(0, (eSA64u8 a0)), (1, (eSA64u8 a1)), (10, (.bool (((a0.length : Int) != (a1.length : Int)))))], []⟩ (by kernel_rfl) ?_
  cases hb1 : ((a0.length : Int) != (a1.length : Int))
  · have h := ite_f hb1 h
    refine a_cond_f rfl (a_skip (a_next (σ' := ⟨[(0, (eSA64u8 a0)), (1, (eSA64u8 a1))], []⟩) (by kernel_rfl) ?_))
    obtain ⟨y37, hy38, hk39⟩ := bind_some h
    clear h
    refine a_join (emb := fun (s : Unit) => ⟨[], []⟩) (pre := fun s => (.inl s) = y37) ?_ ?_
    · rintro _ rfl
      have h := hk39
      refine a_st (σ' := ⟨[], []⟩) (by kernel_rfl) (sr (vp (.bool true) rfl (nx _ rfl (a_ret ?_))))
      refine ⟨.inr rfl, ?_⟩
      rw [Try.results65]
      cases h
      exact ⟨_, _, _, _, _, rfl, trivial, .inl ⟨rfl, .inl rfl⟩, rfl, rfl⟩
    · have h := hy38
      refine sr (vp (i6 0) rfl (nx ⟨[(0, (eSA64u8 a0)), (1, (eSA64u8 a1)), (5, (i6 0))], []⟩ (by kernel_rfl) (a_block ?_)))
      refine a_loop (emb := fun (s : Int) => ⟨[(0, (eSA64u8 a0)), (1, (eSA64u8 a1)), (5, (i6 s))], []⟩) (body := (fun s : Int => laws_polys9_l1 a0 a1 s)) (G := fun q => some q = some y37) h rfl ?_ (by kernel_rfl)
      rintro X61 x50 x62 h hX63
      have h : laws_polys9_l1 a0 a1 x50 = some x62 := h
      refine a_st (σ' := ⟨[(0, (eSA64u8 a0)), (1, (eSA64u8 a1)), (5, (i6 x50))], []⟩) (by kernel_rfl) (a_seq (sr (vp (i6 x50) rfl (vp (eSA64u8 a0) rfl (vq (i6 (a0.length : Int)) (len_run rfl rfl) trivial (vp (.bool ((decide (x50 < (a0.length : Int))))) rfl (nx ⟨[(0, (eSA64u8 a0)), (1, (eSA64u8 a1)), (5, (i6 x50)), (14, (.bool ((decide (x50 < (a0.length : Int))))))], []⟩ (by kernel_rfl) ?_)))))))
      cases hb64 : (decide (x50 < (a0.length : Int)))
      · have h := ite_f hb64 h
        refine a_cond_f rfl (a_exit (t_exit ?_))
        cases h
        have h := hX63
        refine t_exit (b_exit ?_)
        exact j_leaf () (Option.some.inj h) (by kernel_rfl)
      · have h := ite_t hb64 h
        refine a_cond_t rfl (a_skip (a_next (σ' := ⟨[(0, (eSA64u8 a0)), (1, (eSA64u8 a1)), (5, (i6 x50))], []⟩) (by kernel_rfl) (a_seq (a_block (a_seq (a_draw [⟨[], [], [], []⟩, ⟨[], [], [], []⟩, ⟨[], [], [], [0, 1]⟩, ⟨[], [], [], [0, 1, 2]⟩, ⟨[], [], [], []⟩, ⟨[], [], [], []⟩, ⟨[], [], [], [4, 5]⟩, ⟨[], [], [], [4, 5, 6]⟩, ⟨[], [], [], [0, 1, 2, 3, 4, 5, 6, 7]⟩] (by kernel_rfl) (dp (eSA64u8 a0) rfl (by kernel_rfl) (dp (i6 x50) rfl (by kernel_rfl) (d_cons ?_)))))))))
        obtain ⟨hc69, h⟩ := ifp_some h
        refine vq (.ref (.row 64 (a0.map eA64u8)) [x50.toNat] [x50.toNat * 64]) rfl (lmap hc69) (d_next (by kernel_rfl) (d_cons ?_))
        have hl70 : LdOk [x50.toNat] (.row 64 (a0.map eA64u8)) [x50.toNat * 64] 64 true (eA64u8 (rd a0 x50.toNat)) := (.row (llt hc69) rfl (.nil rfl rfl rfl))
        refine vq (eA64u8 (rd a0 x50.toNat)) (ld_ref (i := ⟨.arr 64 5, 64, 64, (eA64u8 (vrep 64 (0 : Int)))⟩) rfl rfl hl70) hl70.c (d_next (by kernel_rfl) (dp (eSA64u8 a1) rfl (by kernel_rfl) (dp (i6 x50) rfl (by kernel_rfl) (d_cons ?_))))
        obtain ⟨hc71, h⟩ := ifp_some h
        refine vq (.ref (.row 64 (a1.map eA64u8)) [x50.toNat] [x50.toNat * 64]) rfl (lmap hc71) (d_next (by kernel_rfl) (d_cons ?_))
        have hl72 : LdOk [x50.toNat] (.row 64 (a1.map eA64u8)) [x50.toNat * 64] 64 true (eA64u8 (rd a1 x50.toNat)) := (.row (llt hc71) rfl (.nil rfl rfl rfl))
        refine vq (eA64u8 (rd a1 x50.toNat)) (ld_ref (i := ⟨.arr 64 5, 64, 64, (eA64u8 (vrep 64 (0 : Int)))⟩) rfl rfl hl72) hl72.c (d_next (by kernel_rfl) (d_cons (vq (.bool ((!decide ((rd a0 x50.toNat) = (rd a1 x50.toNat))))) (nea_run (f := (AV.int .u8)) (a := (rd a0 x50.toNat).1) (b := (rd a1 x50.toNat).1) rfl rfl (eqb_vec (fun _ _ => eqb_int _ _) (rd a0 x50.toNat) (rd a1 x50.toNat))) (cmp_arr (g := 8) (f := (AV.int .u8)) (x := (rd a0 x50.toNat)) (y := (rd a1 x50.toNat)) rfl rfl rfl (fun _ _ => rfl) (fun _ _ => cmp_int rfl)) (d_next (by kernel_rfl) (d_nil (a_next (σ' := ⟨[(0, (eSA64u8 a0)), (1, (eSA64u8 a1)), (5, (i6 x50)), (25, (.bool ((!decide ((rd a0 x50.toNat) = (rd a1 x50.toNat))))))], []⟩) (by kernel_rfl) ?_))))))
        cases hb73 : (!decide ((rd a0 x50.toNat) = (rd a1 x50.toNat)))
        · have h := ite_f hb73 h
          refine a_cond_f rfl (a_skip (b_norm (a_next (σ' := ⟨[(0, (eSA64u8 a0)), (1, (eSA64u8 a1)), (5, (i6 x50))], []⟩) (by kernel_rfl) (a_region (vp (i6 x50) rfl (vp (i6 (IntKind.i64.wrap (x50 + 1))) rfl (vp (i6 (IntKind.i64.wrap (x50 + 1))) rfl (a_nil ?_))))))))
          cases h
          exact a_again (by kernel_rfl) hX63
        · have h := ite_t hb73 h
          refine a_cond_t rfl (sr (vp (.bool false) rfl (nx _ rfl (a_ret (b_ret (t_ret ?_))))))
          cases h
          have h := hX63
          refine t_ret (b_ret (t_ret ?_))
          cases h
          have h := hk39
          refine ⟨.inr rfl, ?_⟩
          rw [Try.results65]
          cases h
          exact ⟨_, _, _, _, _, rfl, trivial, .inl ⟨rfl, .inl rfl⟩, rfl, rfl⟩
  · have h := ite_t hb1 h
    refine a_cond_t rfl (sr (vp (.bool false) rfl (nx _ rfl (a_ret (t_ret ?_)))))
    refine ⟨.inr rfl, ?_⟩
    rw [Try.results65]
    cases h
    exact ⟨_, _, _, _, _, rfl, trivial, .inl ⟨rfl, .inl rfl⟩, rfl, rfl⟩
def impl_row_degree_c : ACode := (.seq (.region 0 [q 2 (.asg 0 (.const (.int .i64 0)) 2)] false) (.seq (.region 1 [q 3 (.mov (t 0)), q 4 (.blt 0 .len [(t 3)] [80]), q 5 (.bin .sub 2 (t 4) (.const (.int .i64 1))), q 2 (.asg 0 (t 5) 2)] false) .ret))
def impl_row_degree_L : Live := [(0, [0]), (1, [0])]
noncomputable def impl_row_degree (a0 : (List Int)) : Option Int :=
  (some (IntKind.i64.wrap ((a0.length : Int) - 1)))
theorem impl_row_degree_ok (a0 : (List Int)) (r : Int) (h : impl_row_degree a0 = some r) : Den Try.prog 114 [(eSi64 a0)] { r := (i6 r) } := by
  refine den_of (rs := [(i6 r)]) (ac := impl_row_degree_c) (L := impl_row_degree_L) (n := 6) (m := []) (c := Try.f114.body.getD .skip) good Try.func114 (by kernel_rfl) (by kernel_rfl) Try.ntmps114 rfl rfl (by kernel_rfl) rfl rfl ?_
  refine a_st (σ' := ⟨[(0, (eSi64 a0))], []⟩) (by kernel_rfl) ?_
  unfold impl_row_degree_c
  refine sr (vp (i6 0) rfl (nx ⟨[(0, (eSi64 a0))], []⟩ (by kernel_rfl) (sr (vp (eSi64 a0) rfl (vq (i6 (a0.length : Int)) (len_run rfl rfl) trivial (vp (i6 (IntKind.i64.wrap ((a0.length : Int) - 1))) rfl (vp (i6 (IntKind.i64.wrap ((a0.length : Int) - 1))) rfl (nx _ rfl (a_ret ?_)))))))))
  refine ⟨.inr rfl, ?_⟩
  rw [Try.results114]
  cases h
  exact ⟨_, _, _, _, _, rfl, trivial, .inl ⟨rfl, .inl rfl⟩, rfl, rfl⟩
def impl_DegreesOfPartials_c : ACode := (.seq (.region 0 [q 4 (.box 25 (t 1)), q 5 (.box 25 (t 2)), q 6 (.asg 1 (.const (.slice none 0 0)) 59), q 7 (.asg 0 (.const (.int .i64 0)) 2)] false) (.seq (.seq (.region 1 [q 12 (.mov (t 0)), q 13 (.load 25 (t 4)), q 14 (.load 25 (t 5)), q 15 (.call 0 (.func 138) [(t 12), (t 13), (t 14), (.const (.bool true))]), q 8 (.asg 0 (t 15) 2)] false) (.seq (.region 2 [q 16 (.mov (t 8)), q 17 (.bin .neq 2 (t 16) (.const (.int .i64 0)))] false) (.cond (t 17) (.seq (.region 3 [q 18 (.mov (t 8)), q 6 (.asg 1 (.const (.slice none 0 0)) 59), q 7 (.asg 0 (t 18) 2)] false) .ret) .skip))) (.seq (.region 4 [q 9 (.asg 2 (.const (.slice none 0 0)) 59)] false) (.seq (.seq (.region 5 [q 19 (.mov (t 0)), q 20 (.load 25 (t 4)), ⟨some 21, .call 0 (.func 103) [(t 20)], none, [1]⟩, q 22 (.load 25 (t 5)), ⟨some 23, .call 0 (.func 103) [(t 22)], none, [3, 2]⟩, ⟨some 24, .call 0 (.func 152) [(t 19), (t 21), (t 23)], none, [0, 2, 4, 4]⟩, ⟨some 25, .blt 0 .len [(t 24)] [108], none, [5]⟩, q 26 (.mov (.const (.int .i64 0)))] true) (.block 0 (.loop (.seq (.region 6 [q 27 (.bin .lss 3 (t 26) (t 25))] false) (.seq (.cond (t 27) .skip (.exit 0)) (.seq (.block 1 (.seq (.region 7 [q 28 (.indexAddr 108 (t 24) (t 26)), q 29 (.load 80 (t 28)), q 11 (.asg 1 (t 29) 80)] false) (.region 8 [q 30 (.mov (t 9)), q 31 (.mov (t 11)), q 32 (.call 0 (.func 114) [(t 31)]), q 33 (.bslice 0 59 1 [(0, (t 32))]), q 34 (.blt 0 .append [(t 30), (t 33)] [59, 59]), q 9 (.asg 2 (t 34) 59)] false))) (.region 9 [q 35 (.bin .add 3 (t 26) (.const (.int .i64 1))), q 26 (.mov (t 35))] false))))))) (.seq (.region 10 [q 36 (.mov (t 9)), q 6 (.asg 1 (t 36) 59), q 7 (.asg 0 (.const (.int .i64 0)) 2)] false) .ret)))))
def impl_DegreesOfPartials_L : Live := [(0, [0, 1, 2]), (1, [0, 4, 5]), (2, [0, 4, 5, 8]), (3, [8]), (4, [0, 4, 5]), (5, [0, 4, 5, 9]), (6, [9, 24, 25, 26]), (7, [9, 24, 25, 26]), (8, [9, 11, 24, 25, 26]), (9, [9, 24, 25, 26]), (10, [9]), (100017, [0, 4, 5, 8, 17]), (100027, [9, 24, 25, 26, 27])]
noncomputable def impl_DegreesOfPartials_l1 (r64 : (List (List Int))) (x72 : Int) (x73 : (List Int)) : Option ((Int × (List Int)) ⊕ (List Int)) :=
  (if (decide (x72 < (r64.length : Int))) then (ifp (0 ≤ x72 ∧ x72 < ((r64.length : Nat) : Int)) ((Option.bind (impl_row_degree (rd r64 x72.toNat)) fun r86 => (ifp ((x73.length + ([r86] : List Int).length) * 8 ≤ 140737488355328) ((some (.inl ((IntKind.i64.wrap (x72 + 1), (x73 ++ ([r86]))))))))))) else (some (.inr x73)))
noncomputable def impl_DegreesOfPartials (a0 : Int) (a1 : (Vec Int 64)) (a2 : (Vec Int 64)) : Option ((List Int) × Int) :=
  (Option.bind (impl_quotientCode a0 a1 a2 true) fun r3 => (if (r3 != 0) then (some ([], r3)) else (Option.bind (α := (List Int)) ((Option.bind (impl_rowOf a1) fun r59 => (Option.bind (impl_rowOf a2) fun r62 => (Option.bind (impl_prime_partials a0 r59 r62) fun r64 => (loopM (fun s : (Int × (List Int)) => impl_DegreesOfPartials_l1 r64 s.1 s.2) (0, [])))))) fun x46 => (some (x46, 0)))))
theorem impl_DegreesOfPartials_ok (a0 : Int) (a1 : (Vec Int 64)) (a2 : (Vec Int 64)) (r : ((List Int) × Int)) (h : impl_DegreesOfPartials a0 a1 a2 = some r) : Den Try.prog 66 [(i6 a0), (eA64u8 a1), (eA64u8 a2)] { r := (.tuple [(eSi64 r.1), (i6 r.2)]) } := by
  refine den_of (rs := [(eSi64 r.1), (i6 r.2)]) (ac := impl_DegreesOfPartials_c) (L := impl_DegreesOfPartials_L) (n := 37) (m := [(6, 1), (9, 2), (11, 1)]) (c := Try.f66.body.getD .skip) good Try.func66 (by kernel_rfl) (by kernel_rfl) Try.ntmps66 rfl rfl (by kernel_rfl) rfl rfl ?_
  refine a_st (σ' := ⟨[(0, (i6 a0)), (1, (eA64u8 a1)), (2, (eA64u8 a2))], []⟩) (by kernel_rfl) ?_
  unfold impl_DegreesOfPartials_c
  refine sr (vo 1400 (eA64u8 a1) rfl rfl (vo 1500 (eA64u8 a2) rfl rfl (vp (eSi64 ([])) rfl (vp (i6 0) rfl (nx ⟨[(0, (i6 a0)), (4, (ow 4)), (5, (ow 5))], [(4, (bk (eA64u8 a1))), (5, (bk (eA64u8 a2)))]⟩ (by kernel_rfl) (a_seq (sr (vp (i6 a0) rfl (vl (eA64u8 a1) rfl rfl rfl rfl rfl rfl ?_)))))))))
  refine vl (eA64u8 a2) rfl rfl rfl rfl rfl rfl ?_
  obtain ⟨r3, hr4, h⟩ := bind_some h
  refine a_call (args := [(i6 a0), (eA64u8 a1), (eA64u8 a2), (.bool true)]) (u := []) (r := (i6 r3)) rfl rfl (impl_quotientCode_ok a0 a1 a2 true r3 hr4) rfl (vp (i6 r3) rfl (nx ⟨[(0, (i6 a0)), (4, (ow 4)), (5, (ow 5)), (8, (i6 r3))], [(4, (bk (eA64u8 a1))), (5, (bk (eA64u8 a2)))]⟩ (by kernel_rfl) (sr (vp (i6 r3) rfl (vp (.bool (r3 != 0)) rfl (nx ⟨[(0, (i6 a0)), (4, (ow 4)), (5, (ow 5)), (8, (i6 r3)), (17, (.bool (r3 != 0)))], [(4, (bk (eA64u8 a1))), (5, (bk (eA64u8 a2)))]⟩ (by kernel_rfl) ?_))))))
  cases hb5 : (r3 != 0)
  · have h := ite_f hb5 h
    refine a_cond_f rfl (a_skip (a_next (σ' := ⟨[(0, (i6 a0)), (4, (ow 4)), (5, (ow 5))], [(4, (bk (eA64u8 a1))), (5, (bk (eA64u8 a2)))]⟩) (by kernel_rfl) (sr (vu (.osl 1900) [(1900, (bk (.row 1 (([]).map (AV.int .i64)))))] rfl trivial rfl (nx ⟨[(0, (i6 a0)), (4, (ow 4)), (5, (ow 5)), (9, (.osl 9))], [(4, (bk (eA64u8 a1))), (5, (bk (eA64u8 a2))), (9, (bk (.row 1 (([]).map (AV.int .i64)))))]⟩ (by kernel_rfl) ?_)))))
    obtain ⟨y47, hy48, hk49⟩ := bind_some h
    clear h
    refine a_join (emb := fun (s : (List Int)) => ⟨[(9, (.osl 9))], [(9, (bk (.row 1 (s.map (AV.int .i64)))))]⟩) (pre := fun s => s = y47) ?_ ?_
    · rintro x46 rfl
      have h := hk49
      refine a_st (σ' := ⟨[(9, (.osl 9))], [(9, (bk (.row 1 (x46.map (AV.int .i64)))))]⟩) (by kernel_rfl) (sr (vp (.osl 9) rfl (vu (eSi64 x46) [(9, (bf (.row 1 (x46.map (AV.int .i64)))))] rfl trivial rfl (vp (i6 0) rfl (nx _ rfl (a_ret ?_))))))
      refine ⟨.inr rfl, ?_⟩
      rw [Try.results66]
      cases h
      exact ⟨_, _, _, _, _, rfl, trivial, .inl ⟨rfl, .inl rfl⟩, rfl, ⟨_, _, _, _, _, rfl, trivial, .inl ⟨rfl, .inl rfl⟩, rfl, rfl⟩⟩
    · have h := hy48
      refine a_seq (a_draw [⟨[], [], [], []⟩, ⟨[4], [], [], []⟩, ⟨[], [], [], [1]⟩, ⟨[5], [], [], []⟩, ⟨[], [], [], [1, 2, 3]⟩, ⟨[], [], [], [0, 1, 2, 3, 4]⟩, ⟨[], [], [], [0, 1, 2, 3, 4, 5]⟩, ⟨[], [], [], []⟩] (by kernel_rfl) (dp (i6 a0) rfl (by kernel_rfl) (d_cons (vl (eA64u8 a1) rfl rfl rfl rfl rfl rfl (d_next (by kernel_rfl) (d_cons ?_))))))
      obtain ⟨r59, hr60, h⟩ := bind_some h
      refine a_call (args := [(eA64u8 a1)]) (u := []) (r := (eSi64 r59)) rfl rfl (impl_rowOf_ok a1 r59 hr60) rfl (d_next (by kernel_rfl) (d_cons (vl (eA64u8 a2) rfl rfl rfl rfl rfl rfl (d_next (by kernel_rfl) (d_cons ?_)))))
      obtain ⟨r62, hr63, h⟩ := bind_some h
      refine a_call (args := [(eA64u8 a2)]) (u := []) (r := (eSi64 r62)) rfl rfl (impl_rowOf_ok a2 r62 hr63) rfl (d_next (by kernel_rfl) (d_cons ?_))
      obtain ⟨r64, hr65, h⟩ := bind_some h
      refine a_call (args := [(i6 a0), (eSi64 r59), (eSi64 r62)]) (u := []) (r := (eSSi64 r64)) rfl rfl (impl_prime_partials_ok a0 r59 r62 r64 hr65) rfl (d_next (by kernel_rfl) (d_cons (vq (i6 (r64.length : Int)) (len_run rfl rfl) trivial (d_next (by kernel_rfl) (dp (i6 0) rfl (by kernel_rfl) (d_nil (a_next (σ' := ⟨[(9, (.osl 9)), (24, (eSSi64 r64)), (25, (i6 (r64.length : Int))), (26, (i6 0))], [(9, (bk (.row 1 (([]).map (AV.int .i64)))))]⟩) (by kernel_rfl) (a_block ?_))))))))
      refine a_loop (emb := fun (s : (Int × (List Int))) => ⟨[(9, (.osl 9)), (24, (eSSi64 r64)), (25, (i6 (r64.length : Int))), (26, (i6 s.1))], [(9, (bk (.row 1 (s.2.map (AV.int .i64)))))]⟩) (body := (fun s : (Int × (List Int)) => impl_DegreesOfPartials_l1 r64 s.1 s.2)) (G := fun q => some q = some y47) h rfl ?_ (by kernel_rfl)
      rintro X80 ⟨x72, x73⟩ x81 h hX82
      have h : impl_DegreesOfPartials_l1 r64 x72 x73 = some x81 := h
      refine a_st (σ' := ⟨[(9, (.osl 9)), (24, (eSSi64 r64)), (25, (i6 (r64.length : Int))), (26, (i6 x72))], [(9, (bk (.row 1 (x73.map (AV.int .i64)))))]⟩) (by kernel_rfl) (sr (vp (.bool ((decide (x72 < (r64.length : Int))))) rfl (nx ⟨[(9, (.osl 9)), (24, (eSSi64 r64)), (25, (i6 (r64.length : Int))), (26, (i6 x72)), (27, (.bool ((decide (x72 < (r64.length : Int))))))], [(9, (bk (.row 1 (x73.map (AV.int .i64)))))]⟩ (by kernel_rfl) (a_seq ?_))))
      cases hb83 : (decide (x72 < (r64.length : Int)))
      · have h := ite_f hb83 h
        refine a_cond_f rfl (a_exit (t_exit ?_))
        cases h
        have h := hX82
        refine t_exit (b_exit ?_)
        exact j_leaf x73 (Option.some.inj h) (by kernel_rfl)
      · have h := ite_t hb83 h
        refine a_cond_t rfl (a_skip (a_next (σ' := ⟨[(9, (.osl 9)), (24, (eSSi64 r64)), (25, (i6 (r64.length : Int))), (26, (i6 x72))], [(9, (bk (.row 1 (x73.map (AV.int .i64)))))]⟩) (by kernel_rfl) (a_seq (a_block (sr ?_)))))
        obtain ⟨hc84, h⟩ := ifp_some h
        refine vq (.ref (.row 1 (r64.map eSi64)) [x72.toNat] [x72.toNat * 1]) rfl (lmap hc84) ?_
        have hl85 : LdOk [x72.toNat] (.row 1 (r64.map eSi64)) [x72.toNat * 1] 1 false (eSi64 (rd r64 x72.toNat)) := (.row (llt hc84) rfl (.nil rfl rfl rfl))
        refine vq (eSi64 (rd r64 x72.toNat)) (ld_ref (i := ⟨.slice 2, 1, 24, (eSi64 [])⟩) rfl rfl hl85) hl85.c (vp (eSi64 (rd r64 x72.toNat)) rfl (nx ⟨[(9, (.osl 9)), (11, (eSi64 (rd r64 x72.toNat))), (24, (eSSi64 r64)), (25, (i6 (r64.length : Int))), (26, (i6 x72))], [(9, (bk (.row 1 (x73.map (AV.int .i64)))))]⟩ (by kernel_rfl) (a_region (vp (.osl 9) rfl (vp (eSi64 (rd r64 x72.toNat)) rfl ?_)))))
        obtain ⟨r86, hr87, h⟩ := bind_some h
        refine a_call (args := [(eSi64 (rd r64 x72.toNat))]) (u := []) (r := (i6 r86)) rfl rfl (impl_row_degree_ok (rd r64 x72.toNat) r86 hr87) rfl (vq (.sl 1 true (([r86]).map (AV.int .i64))) rfl ⟨(Nat.le_of_ble_eq_true rfl), (Nat.le_of_ble_eq_true rfl), (all_cons ⟨(Nat.le_of_ble_eq_true rfl), rfl⟩ all_nil)⟩ ?_)
        obtain ⟨hc88, h⟩ := ifp_some h
        refine vu (.osl 4400) [(4400, (bk (.row 1 (((x73 ++ ([r86]))).map (AV.int .i64))))), (9, none)] (app_run (i := ⟨.int .i64, 1, 8, (.int .i64 0)⟩) (f := (AV.int .i64)) (l := x73) (l2 := [r86]) rfl rfl rfl rfl (fun _ => rfl) rfl rfl) (app_c (f := (AV.int .i64)) (s := 1) (sz := 1) (by' := 8) (u := []) (id := 9) hc88 (.inr rfl) rfl rfl rfl) rfl (vp (.osl 4400) rfl (a_nil (b_norm (a_next (σ' := ⟨[(9, (.osl 9)), (24, (eSSi64 r64)), (25, (i6 (r64.length : Int))), (26, (i6 x72))], [(9, (bk (.row 1 (((x73 ++ ([r86]))).map (AV.int .i64)))))]⟩) (by kernel_rfl) (a_region (vp (i6 (IntKind.i64.wrap (x72 + 1))) rfl (vp (i6 (IntKind.i64.wrap (x72 + 1))) rfl (a_nil ?_))))))))
        cases h
        exact a_again (by kernel_rfl) hX82
  · have h := ite_t hb5 h
    refine a_cond_t rfl (sr (vp (i6 r3) rfl (vp (eSi64 ([])) rfl (vp (i6 r3) rfl (nx _ rfl (a_ret (t_ret ?_)))))))
    refine ⟨.inr rfl, ?_⟩
    rw [Try.results66]
    cases h
    exact ⟨_, _, _, _, _, rfl, trivial, .inl ⟨rfl, .inl rfl⟩, rfl, ⟨_, _, _, _, _, rfl, trivial, .inl ⟨rfl, .inl rfl⟩, rfl, rfl⟩⟩
def spec_DegreesOfPartials_c : ACode := (.seq (.region 0 [q 4 (.box 25 (t 1)), q 5 (.box 25 (t 2)), q 6 (.asg 1 (.const (.slice none 0 0)) 59), q 7 (.asg 0 (.const (.int .i64 0)) 2)] false) (.seq (.seq (.region 1 [q 12 (.mov (t 0)), q 13 (.load 25 (t 4)), q 14 (.load 25 (t 5)), q 15 (.call 0 (.func 153) [(t 12), (t 13), (t 14)]), q 8 (.asg 0 (t 15) 2)] false) (.seq (.region 2 [q 16 (.mov (t 8)), q 17 (.bin .neq 2 (t 16) (.const (.int .i64 0)))] false) (.cond (t 17) (.seq (.region 3 [q 18 (.mov (t 8)), q 6 (.asg 1 (.const (.slice none 0 0)) 59), q 7 (.asg 0 (t 18) 2)] false) .ret) .skip))) (.seq (.region 4 [q 19 (.mov (t 0)), q 20 (.load 25 (t 4)), q 21 (.load 25 (t 5)), q 22 (.call 0 (.func 154) [(t 19), (t 20), (t 21)]), q 23 (.bslice 2 59 0 []), q 9 (.asg 1 (t 22) 55), q 10 (.asg 2 (t 23) 59)] false) (.seq (.seq (.region 5 [q 11 (.asg 0 (.const (.int .i64 0)) 3)] false) (.block 0 (.loop (.seq (.seq (.region 6 [q 24 (.mov (t 11)), q 25 (.mov (t 9)), q 26 (.blt 0 .len [(t 25)] [55]), q 27 (.bin .lss 3 (t 24) (t 26))] false) (.cond (t 27) .skip (.exit 0))) (.seq (.block 1 (.region 8 [q 30 (.mov (t 10)), q 31 (.mov (t 9)), q 32 (.mov (t 11)), q 33 (.indexAddr 55 (t 31) (t 32)), q 34 (.load 25 (t 33)), q 35 (.call 0 (.func 112) [(t 34)]), q 36 (.bslice 0 59 1 [(0, (t 35))]), q 37 (.blt 0 .append [(t 30), (t 36)] [59, 59]), q 10 (.asg 2 (t 37) 59)] false)) (.region 7 [q 28 (.mov (t 11)), q 29 (.bin .add 3 (t 28) (.const (.int .i64 1))), q 11 (.asg 0 (t 29) 3)] false)))))) (.seq (.region 9 [q 38 (.mov (t 10)), q 6 (.asg 1 (t 38) 59), q 7 (.asg 0 (.const (.int .i64 0)) 2)] false) .ret)))))
def spec_DegreesOfPartials_L : Live := [(0, [0, 1, 2]), (1, [0, 4, 5]), (2, [0, 4, 5, 8]), (3, [8]), (4, [0, 4, 5]), (5, [9, 10]), (6, [9, 10, 11]), (7, [9, 10, 11]), (8, [9, 10, 11]), (9, [10]), (100017, [0, 4, 5, 8, 17]), (100027, [9, 10, 11, 27])]
noncomputable def spec_DegreesOfPartials_l1 (r8 : (List (Vec Int 64))) (x44 : Int) (x45 : (List Int)) : Option ((Int × (List Int)) ⊕ (List Int)) :=
  (if (decide (x44 < (r8.length : Int))) then (ifp (0 ≤ x44 ∧ x44 < ((r8.length : Nat) : Int)) ((Option.bind (spec_l01Deg (rd r8 x44.toNat)) fun r58 => (ifp ((x45.length + ([r58] : List Int).length) * 8 ≤ 140737488355328) ((some (.inl ((IntKind.i64.wrap (x44 + 1), (x45 ++ ([r58]))))))))))) else (some (.inr x45)))
noncomputable def spec_DegreesOfPartials (a0 : Int) (a1 : (Vec Int 64)) (a2 : (Vec Int 64)) : Option ((List Int) × Int) :=
  (Option.bind (spec_l10Code a0 a1 a2) fun r3 => (if (r3 != 0) then (some ([], r3)) else (Option.bind (spec_l10Continued a0 a1 a2) fun r8 => (Option.bind (α := (List Int)) ((loopM (fun s : (Int × (List Int)) => spec_DegreesOfPartials_l1 r8 s.1 s.2) (0, []))) fun x34 => (some (x34, 0))))))
theorem spec_DegreesOfPartials_ok (a0 : Int) (a1 : (Vec Int 64)) (a2 : (Vec Int 64)) (r : ((List Int) × Int)) (h : spec_DegreesOfPartials a0 a1 a2 = some r) : Den Try.prog 67 [(i6 a0), (eA64u8 a1), (eA64u8 a2)] { r := (.tuple [(eSi64 r.1), (i6 r.2)]) } := by
  refine den_of (rs := [(eSi64 r.1), (i6 r.2)]) (ac := spec_DegreesOfPartials_c) (L := spec_DegreesOfPartials_L) (n := 39) (m := [(6, 1), (9, 1), (10, 2), (23, 2)]) (c := Try.f67.body.getD .skip) good Try.func67 (by kernel_rfl) (by kernel_rfl) Try.ntmps67 rfl rfl (by kernel_rfl) rfl rfl ?_
  refine a_st (σ' := ⟨[(0, (i6 a0)), (1, (eA64u8 a1)), (2, (eA64u8 a2))], []⟩) (by kernel_rfl) ?_
  unfold spec_DegreesOfPartials_c
  refine sr (vo 1400 (eA64u8 a1) rfl rfl (vo 1500 (eA64u8 a2) rfl rfl (vp (eSi64 ([])) rfl (vp (i6 0) rfl (nx ⟨[(0, (i6 a0)), (4, (ow 4)), (5, (ow 5))], [(4, (bk (eA64u8 a1))), (5, (bk (eA64u8 a2)))]⟩ (by kernel_rfl) (a_seq (sr (vp (i6 a0) rfl (vl (eA64u8 a1) rfl rfl rfl rfl rfl rfl ?_)))))))))
  refine vl (eA64u8 a2) rfl rfl rfl rfl rfl rfl ?_
  obtain ⟨r3, hr4, h⟩ := bind_some h
  refine a_call (args := [(i6 a0), (eA64u8 a1), (eA64u8 a2)]) (u := []) (r := (i6 r3)) rfl rfl (spec_l10Code_ok a0 a1 a2 r3 hr4) rfl (vp (i6 r3) rfl (nx ⟨[(0, (i6 a0)), (4, (ow 4)), (5, (ow 5)), (8, (i6 r3))], [(4, (bk (eA64u8 a1))), (5, (bk (eA64u8 a2)))]⟩ (by kernel_rfl) (sr (vp (i6 r3) rfl (vp (.bool (r3 != 0)) rfl (nx ⟨[(0, (i6 a0)), (4, (ow 4)), (5, (ow 5)), (8, (i6 r3)), (17, (.bool (r3 != 0)))], [(4, (bk (eA64u8 a1))), (5, (bk (eA64u8 a2)))]⟩ (by kernel_rfl) ?_))))))
  cases hb5 : (r3 != 0)
  · have h := ite_f hb5 h
    refine a_cond_f rfl (a_skip (a_next (σ' := ⟨[(0, (i6 a0)), (4, (ow 4)), (5, (ow 5))], [(4, (bk (eA64u8 a1))), (5, (bk (eA64u8 a2)))]⟩) (by kernel_rfl) (sr (vp (i6 a0) rfl (vl (eA64u8 a1) rfl rfl rfl rfl rfl rfl (vl (eA64u8 a2) rfl rfl rfl rfl rfl rfl ?_))))))
    obtain ⟨r8, hr9, h⟩ := bind_some h
    refine a_call (args := [(i6 a0), (eA64u8 a1), (eA64u8 a2)]) (u := []) (r := (eSA64u8 r8)) rfl rfl (spec_l10Continued_ok a0 a1 a2 r8 hr9) rfl (vu (.osl 3300) [(3300, (bk (.row 1 (([]).map (AV.int .i64)))))] rfl ⟨(Nat.le_of_ble_eq_true rfl), (Nat.le_of_ble_eq_true rfl), all_nil⟩ rfl (vp (eSA64u8 r8) rfl (vp (.osl 3300) rfl (nx ⟨[(9, (eSA64u8 r8)), (10, (.osl 10))], [(10, (bk (.row 1 (([]).map (AV.int .i64)))))]⟩ (by kernel_rfl) ?_))))
    obtain ⟨y35, hy36, hk37⟩ := bind_some h
    clear h
    refine a_join (emb := fun (s : (List Int)) => ⟨[(10, (.osl 10))], [(10, (bk (.row 1 (s.map (AV.int .i64)))))]⟩) (pre := fun s => s = y35) ?_ ?_
    · rintro x34 rfl
      have h := hk37
      refine a_st (σ' := ⟨[(10, (.osl 10))], [(10, (bk (.row 1 (x34.map (AV.int .i64)))))]⟩) (by kernel_rfl) (sr (vp (.osl 10) rfl (vu (eSi64 x34) [(10, (bf (.row 1 (x34.map (AV.int .i64)))))] rfl trivial rfl (vp (i6 0) rfl (nx _ rfl (a_ret ?_))))))
      refine ⟨.inr rfl, ?_⟩
      rw [Try.results67]
      cases h
      exact ⟨_, _, _, _, _, rfl, trivial, .inl ⟨rfl, .inl rfl⟩, rfl, ⟨_, _, _, _, _, rfl, trivial, .inl ⟨rfl, .inl rfl⟩, rfl, rfl⟩⟩
    · have h := hy36
      refine sr (vp (i6 0) rfl (nx ⟨[(9, (eSA64u8 r8)), (10, (.osl 10)), (11, (i6 0))], [(10, (bk (.row 1 (([]).map (AV.int .i64)))))]⟩ (by kernel_rfl) (a_block ?_)))
      refine a_loop (emb := fun (s : (Int × (List Int))) => ⟨[(9, (eSA64u8 r8)), (10, (.osl 10)), (11, (i6 s.1))], [(10, (bk (.row 1 (s.2.map (AV.int .i64)))))]⟩) (body := (fun s : (Int × (List Int)) => spec_DegreesOfPartials_l1 r8 s.1 s.2)) (G := fun q => some q = some y35) h rfl ?_ (by kernel_rfl)
      rintro X52 ⟨x44, x45⟩ x53 h hX54
      have h : spec_DegreesOfPartials_l1 r8 x44 x45 = some x53 := h
      refine a_st (σ' := ⟨[(9, (eSA64u8 r8)), (10, (.osl 10)), (11, (i6 x44))], [(10, (bk (.row 1 (x45.map (AV.int .i64)))))]⟩) (by kernel_rfl) (a_seq (sr (vp (i6 x44) rfl (vp (eSA64u8 r8) rfl (vq (i6 (r8.length : Int)) (len_run rfl rfl) trivial (vp (.bool ((decide (x44 < (r8.length : Int))))) rfl (nx ⟨[(9, (eSA64u8 r8)), (10, (.osl 10)), (11, (i6 x44)), (27, (.bool ((decide (x44 < (r8.length : Int))))))], [(10, (bk (.row 1 (x45.map (AV.int .i64)))))]⟩ (by kernel_rfl) ?_)))))))
      cases hb55 : (decide (x44 < (r8.length : Int)))
      · have h := ite_f hb55 h
        refine a_cond_f rfl (a_exit (t_exit ?_))
        cases h
        have h := hX54
        refine t_exit (b_exit ?_)
        exact j_leaf x45 (Option.some.inj h) (by kernel_rfl)
      · have h := ite_t hb55 h
        refine a_cond_t rfl (a_skip (a_next (σ' := ⟨[(9, (eSA64u8 r8)), (10, (.osl 10)), (11, (i6 x44))], [(10, (bk (.row 1 (x45.map (AV.int .i64)))))]⟩) (by kernel_rfl) (a_seq (a_block (a_region (vp (.osl 10) rfl (vp (eSA64u8 r8) rfl (vp (i6 x44) rfl ?_))))))))
        obtain ⟨hc56, h⟩ := ifp_some h
        refine vq (.ref (.row 64 (r8.map eA64u8)) [x44.toNat] [x44.toNat * 64]) rfl (lmap hc56) ?_
        have hl57 : LdOk [x44.toNat] (.row 64 (r8.map eA64u8)) [x44.toNat * 64] 64 true (eA64u8 (rd r8 x44.toNat)) := (.row (llt hc56) rfl (.nil rfl rfl rfl))
        refine vq (eA64u8 (rd r8 x44.toNat)) (ld_ref (i := ⟨.arr 64 5, 64, 64, (eA64u8 (vrep 64 (0 : Int)))⟩) rfl rfl hl57) hl57.c ?_
        obtain ⟨r58, hr59, h⟩ := bind_some h
        refine a_call (args := [(eA64u8 (rd r8 x44.toNat))]) (u := []) (r := (i6 r58)) rfl rfl (spec_l01Deg_ok (rd r8 x44.toNat) r58 hr59) rfl (vq (.sl 1 true (([r58]).map (AV.int .i64))) rfl ⟨(Nat.le_of_ble_eq_true rfl), (Nat.le_of_ble_eq_true rfl), (all_cons ⟨(Nat.le_of_ble_eq_true rfl), rfl⟩ all_nil)⟩ ?_)
        obtain ⟨hc60, h⟩ := ifp_some h
        refine vu (.osl 4700) [(4700, (bk (.row 1 (((x45 ++ ([r58]))).map (AV.int .i64))))), (10, none)] (app_run (i := ⟨.int .i64, 1, 8, (.int .i64 0)⟩) (f := (AV.int .i64)) (l := x45) (l2 := [r58]) rfl rfl rfl rfl (fun _ => rfl) rfl rfl) (app_c (f := (AV.int .i64)) (s := 1) (sz := 1) (by' := 8) (u := []) (id := 10) hc60 (.inr rfl) rfl rfl rfl) rfl (vp (.osl 4700) rfl (a_nil (b_norm (a_next (σ' := ⟨[(9, (eSA64u8 r8)), (10, (.osl 10)), (11, (i6 x44))], [(10, (bk (.row 1 (((x45 ++ ([r58]))).map (AV.int .i64)))))]⟩) (by kernel_rfl) (a_region (vp (i6 x44) rfl (vp (i6 (IntKind.i64.wrap (x44 + 1))) rfl (vp (i6 (IntKind.i64.wrap (x44 + 1))) rfl (a_nil ?_)))))))))
        cases h
        exact a_again (by kernel_rfl) hX54
  · have h := ite_t hb5 h
    refine a_cond_t rfl (sr (vp (i6 r3) rfl (vp (eSi64 ([])) rfl (vp (i6 r3) rfl (nx _ rfl (a_ret (t_ret ?_)))))))
    refine ⟨.inr rfl, ?_⟩
    rw [Try.results67]
    cases h
    exact ⟨_, _, _, _, _, rfl, trivial, .inl ⟨rfl, .inl rfl⟩, rfl, ⟨_, _, _, _, _, rfl, trivial, .inl ⟨rfl, .inl rfl⟩, rfl, rfl⟩⟩
def laws_likeInts_c : ACode := (.seq (.region 0 [q 4 (.asg 0 (.const (.bool false)) 4)] false) (.seq (.seq (.region 1 [q 6 (.mov (t 0)), q 7 (.blt 0 .len [(t 6)] [59]), q 8 (.mov (t 1)), q 9 (.blt 0 .len [(t 8)] [59]), q 10 (.bin .neq 3 (t 7) (t 9))] false) (.cond (t 10) (.seq (.region 2 [q 4 (.asg 0 (.const (.bool false)) 4)] false) .ret) .skip)) (.seq (.seq (.region 3 [q 5 (.asg 0 (.const (.int .i64 0)) 3)] false) (.block 0 (.loop (.seq (.seq (.region 4 [q 11 (.mov (t 5)), q 12 (.mov (t 0)), q 13 (.blt 0 .len [(t 12)] [59]), q 14 (.bin .lss 3 (t 11) (t 13))] false) (.cond (t 14) .skip (.exit 0))) (.seq (.block 1 (.seq (.region 6 [q 17 (.mov (t 0)), q 18 (.mov (t 5)), ⟨some 19, .indexAddr 59 (t 17) (t 18), none, [0, 1]⟩, ⟨some 20, .load 2 (t 19), none, [2]⟩, q 21 (.mov (t 1)), q 22 (.mov (t 5)), ⟨some 23, .indexAddr 59 (t 21) (t 22), none, [4, 5]⟩, ⟨some 24, .load 2 (t 23), none, [6]⟩, ⟨some 25, .bin .neq 2 (t 20) (t 24), none, [3, 7]⟩] true) (.cond (t 25) (.seq (.region 7 [q 4 (.asg 0 (.const (.bool false)) 4)] false) .ret) .skip))) (.region 5 [q 15 (.mov (t 5)), q 16 (.bin .add 3 (t 15) (.const (.int .i64 1))), q 5 (.asg 0 (t 16) 3)] false)))))) (.seq (.region 8 [q 4 (.asg 0 (.const (.bool true)) 4)] false) .ret))))
def laws_likeInts_L : Live := [(0, [0, 1]), (1, [0, 1]), (2, []), (3, [0, 1]), (4, [0, 1, 5]), (5, [0, 1, 5]), (6, [0, 1, 5]), (7, []), (8, []), (100010, [0, 1, 10]), (100014, [0, 1, 5, 14]), (100025, [0, 1, 5, 25])]
noncomputable def laws_likeInts_l1 (a0 : (List Int)) (a1 : (List Int)) (x50 : Int) : Option (Int ⊕ (Unit ⊕ Bool)) :=
  (if (decide (x50 < (a0.length : Int))) then (ifp (0 ≤ x50 ∧ x50 < ((a0.length : Nat) : Int)) ((ifp (0 ≤ x50 ∧ x50 < ((a1.length : Nat) : Int)) ((if ((rd a0 x50.toNat) != (rd a1 x50.toNat)) then (some (.inr (.inr false))) else (some (.inl (IntKind.i64.wrap (x50 + 1))))))))) else (some (.inr (((.inl ()))))))
noncomputable def laws_likeInts (a0 : (List Int)) (a1 : (List Int)) : Option Bool :=
  (if ((a0.length : Int) != (a1.length : Int)) then (some false) else (Option.bind (α := (Unit ⊕ Bool)) ((loopM (fun s : Int => laws_likeInts_l1 a0 a1 s) 0)) fun z => match z with | .inl _ => (some true) | .inr r75 => (some r75)))
theorem laws_likeInts_ok (a0 : (List Int)) (a1 : (List Int)) (r : Bool) (h : laws_likeInts a0 a1 = some r) : Den Try.prog 68 [(eSi64 a0), (eSi64 a1)] { r := (.bool r) } := by
  refine den_of (rs := [(.bool r)]) (ac := laws_likeInts_c) (L := laws_likeInts_L) (n := 26) (m := []) (c := Try.f68.body.getD .skip) good Try.func68 (by kernel_rfl) (by kernel_rfl) Try.ntmps68 rfl rfl (by kernel_rfl) rfl rfl ?_
  refine a_st (σ' := ⟨[(0, (eSi64 a0)), (1, (eSi64 a1))], []⟩) (by kernel_rfl) ?_
  unfold laws_likeInts_c
  refine sr (vp (.bool false) rfl (nx ⟨[(0, (eSi64 a0)), (1, (eSi64 a1))], []⟩ (by kernel_rfl) (a_seq (sr (vp (eSi64 a0) rfl (vq (i6 (a0.length : Int)) (len_run rfl rfl) trivial (vp (eSi64 a1) rfl (vq (i6 (a1.length : Int)) (len_run rfl rfl) trivial (vp (.bool (((a0.length : Int) != (a1.length : Int)))) rfl ?_)))))))))
  refine nx ⟨[(0, (eSi64 a0)), (1, (eSi64 a1)), (10, (.bool (((a0.length : Int) != (a1.length : Int)))))], []⟩ (by kernel_rfl) ?_
  cases hb1 : ((a0.length : Int) != (a1.length : Int))
  · have h := ite_f hb1 h
    refine a_cond_f rfl (a_skip (a_next (σ' := ⟨[(0, (eSi64 a0)), (1, (eSi64 a1))], []⟩) (by kernel_rfl) ?_))
    obtain ⟨y37, hy38, hk39⟩ := bind_some h
    clear h
    refine a_join (emb := fun (s : Unit) => ⟨[], []⟩) (pre := fun s => (.inl s) = y37) ?_ ?_
    · rintro _ rfl
      have h := hk39
      refine a_st (σ' := ⟨[], []⟩) (by kernel_rfl) (sr (vp (.bool true) rfl (nx _ rfl (a_ret ?_))))
      refine ⟨.inr rfl, ?_⟩
      rw [Try.results68]
      cases h
      exact ⟨_, _, _, _, _, rfl, trivial, .inl ⟨rfl, .inl rfl⟩, rfl, rfl⟩
    · have h := hy38
      refine sr (vp (i6 0) rfl (nx ⟨[(0, (eSi64 a0)), (1, (eSi64 a1)), (5, (i6 0))], []⟩ (by kernel_rfl) (a_block ?_)))
      refine a_loop (emb := fun (s : Int) => ⟨[(0, (eSi64 a0)), (1, (eSi64 a1)), (5, (i6 s))], []⟩) (body := (fun s : Int => laws_likeInts_l1 a0 a1 s)) (G := fun q => some q = some y37) h rfl ?_ (by kernel_rfl)
      rintro X61 x50 x62 h hX63
      have h : laws_likeInts_l1 a0 a1 x50 = some x62 := h
      refine a_st (σ' := ⟨[(0, (eSi64 a0)), (1, (eSi64 a1)), (5, (i6 x50))], []⟩) (by kernel_rfl) (a_seq (sr (vp (i6 x50) rfl (vp (eSi64 a0) rfl (vq (i6 (a0.length : Int)) (len_run rfl rfl) trivial (vp (.bool ((decide (x50 < (a0.length : Int))))) rfl (nx ⟨[(0, (eSi64 a0)), (1, (eSi64 a1)), (5, (i6 x50)), (14, (.bool ((decide (x50 < (a0.length : Int))))))], []⟩ (by kernel_rfl) ?_)))))))
      cases hb64 : (decide (x50 < (a0.length : Int)))
      · have h := ite_f hb64 h
        refine a_cond_f rfl (a_exit (t_exit ?_))
        cases h
        have h := hX63
        refine t_exit (b_exit ?_)
        exact j_leaf () (Option.some.inj h) (by kernel_rfl)
      · have h := ite_t hb64 h
        refine a_cond_t rfl (a_skip (a_next (σ' := ⟨[(0, (eSi64 a0)), (1, (eSi64 a1)), (5, (i6 x50))], []⟩) (by kernel_rfl) (a_seq (a_block (a_seq (a_draw [⟨[], [], [], []⟩, ⟨[], [], [], []⟩, ⟨[], [], [], [0, 1]⟩, ⟨[], [], [], [0, 1, 2]⟩, ⟨[], [], [], []⟩, ⟨[], [], [], []⟩, ⟨[], [], [], [4, 5]⟩, ⟨[], [], [], [4, 5, 6]⟩, ⟨[], [], [], [0, 1, 2, 3, 4, 5, 6, 7]⟩] (by kernel_rfl) (dp (eSi64 a0) rfl (by kernel_rfl) (dp (i6 x50) rfl (by kernel_rfl) (d_cons ?_)))))))))
        obtain ⟨hc69, h⟩ := ifp_some h
        refine vq (.ref (.row 1 (a0.map (AV.int .i64))) [x50.toNat] [x50.toNat * 1]) rfl (lmap hc69) (d_next (by kernel_rfl) (d_cons ?_))
        have hl70 : LdOk [x50.toNat] (.row 1 (a0.map (AV.int .i64))) [x50.toNat * 1] 1 false (i6 (rd a0 x50.toNat)) := (.row (llt hc69) rfl (.nil rfl rfl rfl))
        refine vq (i6 (rd a0 x50.toNat)) (ld_ref (i := ⟨.int .i64, 1, 8, (.int .i64 0)⟩) rfl rfl hl70) hl70.c (d_next (by kernel_rfl) (dp (eSi64 a1) rfl (by kernel_rfl) (dp (i6 x50) rfl (by kernel_rfl) (d_cons ?_))))
        obtain ⟨hc71, h⟩ := ifp_some h
        refine vq (.ref (.row 1 (a1.map (AV.int .i64))) [x50.toNat] [x50.toNat * 1]) rfl (lmap hc71) (d_next (by kernel_rfl) (d_cons ?_))
        have hl72 : LdOk [x50.toNat] (.row 1 (a1.map (AV.int .i64))) [x50.toNat * 1] 1 false (i6 (rd a1 x50.toNat)) := (.row (llt hc71) rfl (.nil rfl rfl rfl))
        refine vq (i6 (rd a1 x50.toNat)) (ld_ref (i := ⟨.int .i64, 1, 8, (.int .i64 0)⟩) rfl rfl hl72) hl72.c (d_next (by kernel_rfl) (dp (.bool (((rd a0 x50.toNat) != (rd a1 x50.toNat)))) rfl (by kernel_rfl) (d_nil (a_next (σ' := ⟨[(0, (eSi64 a0)), (1, (eSi64 a1)), (5, (i6 x50)), (25, (.bool (((rd a0 x50.toNat) != (rd a1 x50.toNat)))))], []⟩) (by kernel_rfl) ?_))))
        cases hb73 : ((rd a0 x50.toNat) != (rd a1 x50.toNat))
        · have h := ite_f hb73 h
          refine a_cond_f rfl (a_skip (b_norm (a_next (σ' := ⟨[(0, (eSi64 a0)), (1, (eSi64 a1)), (5, (i6 x50))], []⟩) (by kernel_rfl) (a_region (vp (i6 x50) rfl (vp (i6 (IntKind.i64.wrap (x50 + 1))) rfl (vp (i6 (IntKind.i64.wrap (x50 + 1))) rfl (a_nil ?_))))))))
          cases h
          exact a_again (by kernel_rfl) hX63
        · have h := ite_t hb73 h
          refine a_cond_t rfl (sr (vp (.bool false) rfl (nx _ rfl (a_ret (b_ret (t_ret ?_))))))
          cases h
          have h := hX63
          refine t_ret (b_ret (t_ret ?_))
          cases h
          have h := hk39
          refine ⟨.inr rfl, ?_⟩
          rw [Try.results68]
          cases h
          exact ⟨_, _, _, _, _, rfl, trivial, .inl ⟨rfl, .inl rfl⟩, rfl, rfl⟩
  · have h := ite_t hb1 h
    refine a_cond_t rfl (sr (vp (.bool false) rfl (nx _ rfl (a_ret (t_ret ?_)))))
    refine ⟨.inr rfl, ?_⟩
    rw [Try.results68]
    cases h
    exact ⟨_, _, _, _, _, rfl, trivial, .inl ⟨rfl, .inl rfl⟩, rfl, rfl⟩
def spec_l01Near_of_src_c : ACode := (.seq (.region 0 [q 4 (.asg 0 (.const (.int .i64 0)) 2)] false) (.seq (.seq (.region 1 [q 5 (.mov (t 0)), q 6 (.call 1 (.func 123) [(t 5), (.const (.int .i64 14))]), q 7 (.bin .eql 2 (t 6) (.const (.int .i64 0)))] false) (.cond (t 7) (.seq (.region 2 [q 8 (.mov (t 0)), q 9 (.mov (t 1)), q 10 (.bin .add 2 (t 9) (.const (.int .i64 1))), q 11 (.bslice 0 59 4 [(0, (.const (.int .i64 (-1)))), (1, (t 10)), (2, (.const (.int .i64 1099511627776))), (3, (.const (.int .i64 (-4611686018427387904))))]), q 12 (.call 1 (.func 122) [(t 8), (t 11)]), q 4 (.asg 0 (t 12) 2)] false) .ret) .skip)) (.seq (.region 3 [q 13 (.mov (t 0)), q 14 (.mov (t 1)), q 15 (.bin .add 2 (t 14) (.const (.int .i64 1))), q 16 (.call 1 (.func 123) [(t 13), (t 15)]), q 4 (.asg 0 (t 16) 2)] false) .ret)))
def spec_l01Near_of_src_L : Live := [(0, [0, 1]), (1, [0, 1]), (2, [0, 1]), (3, [0, 1]), (100007, [0, 1, 7])]
noncomputable def spec_l01Near_of_src (a0 : ((List Int) × Int × Int)) (a1 : Int) : Option (Int × ((List Int) × Int × Int)) :=
  (Option.bind (spec_l01Next_of_src a0 14) fun r1 => (if (r1.1 == 0) then (Option.bind (spec_l01Pick_of_src r1.2 ([-1, IntKind.i64.wrap (a1 + 1), 1099511627776, -4611686018427387904])) fun r8 => (some (r8.1, r8.2))) else (Option.bind (spec_l01Next_of_src r1.2 (IntKind.i64.wrap (a1 + 1))) fun r5 => (some (r5.1, r5.2)))))
theorem spec_l01Near_of_src_ok (a0 : ((List Int) × Int × Int)) (a1 : Int) (r : (Int × ((List Int) × Int × Int))) (h : spec_l01Near_of_src a0 a1 = some r) : Den Try.prog 132 [(.mutp (eT_Su8_i64_u64_Z a0)), (i6 a1)] { r := (i6 r.1), ms := [(eT_Su8_i64_u64_Z r.2)], fs := [] } := by
  refine den_ofX (rs := [(i6 r.1)]) (ac := spec_l01Near_of_src_c) (L := spec_l01Near_of_src_L) (n := 17) (m := [(6, 1), (12, 1), (16, 1)]) (c := Try.f132.body.getD .skip) good Try.func132 (by kernel_rfl) (by kernel_rfl) Try.ntmps132 rfl rfl (by kernel_rfl) rfl ?_
  refine a_st (σ' := ⟨[(0, (ow 1000000)), (1, (i6 a1))], [(1000000, (bk (eT_Su8_i64_u64_Z a0)))]⟩) (by kernel_rfl) ?_
  unfold spec_l01Near_of_src_c
  refine sr (vp (i6 0) rfl (nx ⟨[(0, (ow 1000000)), (1, (i6 a1))], [(1000000, (bk (eT_Su8_i64_u64_Z a0)))]⟩ (by kernel_rfl) (a_seq (sr (vp (ow 1000000) rfl ?_)))))
  obtain ⟨r1, hr2, h⟩ := bind_some h
  refine a_callM (args := [(.mutp (eT_Su8_i64_u64_Z a0)), (i6 14)]) (i := 0) (id := 1000000) (r := (i6 r1.1)) (c := (eT_Su8_i64_u64_Z r1.2)) rfl rfl (spec_l01Next_of_src_ok a0 14 r1 hr2) rfl trivial (vp (.bool (r1.1 == 0)) rfl (nx ⟨[(0, (ow 1000000)), (1, (i6 a1)), (7, (.bool (r1.1 == 0)))], [(1000000, (bk (eT_Su8_i64_u64_Z r1.2)))]⟩ (by kernel_rfl) ?_))
  cases hb4 : (r1.1 == 0)
  · have h := ite_f hb4 h
    refine a_cond_f rfl (a_skip (a_next (σ' := ⟨[(0, (ow 1000000)), (1, (i6 a1))], [(1000000, (bk (eT_Su8_i64_u64_Z r1.2)))]⟩) (by kernel_rfl) (sr (vp (ow 1000000) rfl (vp (i6 a1) rfl (vp (i6 (IntKind.i64.wrap (a1 + 1))) rfl ?_))))))
    obtain ⟨r5, hr6, h⟩ := bind_some h
    refine a_callM (args := [(.mutp (eT_Su8_i64_u64_Z r1.2)), (i6 (IntKind.i64.wrap (a1 + 1)))]) (i := 0) (id := 1000000) (r := (i6 r5.1)) (c := (eT_Su8_i64_u64_Z r5.2)) rfl rfl (spec_l01Next_of_src_ok r1.2 (IntKind.i64.wrap (a1 + 1)) r5 hr6) rfl trivial (vp (i6 r5.1) rfl (nx _ rfl (a_ret ?_)))
    refine ⟨.inr rfl, ?_⟩
    rw [Try.results132]
    cases h
    exact ⟨[], ⟨_, _, _, _, _, rfl, trivial, rfl, .inl ⟨rfl, .inl rfl, ⟨rfl, rfl, rfl⟩⟩⟩, rfl, ⟨_, _, rfl, rfl, rfl⟩⟩
  · have h := ite_t hb4 h
    refine a_cond_t rfl (sr (vp (ow 1000000) rfl (vp (i6 a1) rfl (vp (i6 (IntKind.i64.wrap (a1 + 1))) rfl (vq (.sl 1 true (([-1, IntKind.i64.wrap (a1 + 1), 1099511627776, -4611686018427387904]).map (AV.int .i64))) rfl ⟨(Nat.le_of_ble_eq_true rfl), (Nat.le_of_ble_eq_true rfl), (all_cons ⟨(Nat.le_of_ble_eq_true rfl), rfl⟩ (all_cons ⟨(Nat.le_of_ble_eq_true rfl), rfl⟩ (all_cons ⟨(Nat.le_of_ble_eq_true rfl), rfl⟩ (all_cons ⟨(Nat.le_of_ble_eq_true rfl), rfl⟩ all_nil))))⟩ ?_)))))
    obtain ⟨r8, hr9, h⟩ := bind_some h
    refine a_callM (args := [(.mutp (eT_Su8_i64_u64_Z r1.2)), (.sl 1 true (([-1, IntKind.i64.wrap (a1 + 1), 1099511627776, -4611686018427387904]).map (AV.int .i64)))]) (i := 0) (id := 1000000) (r := (i6 r8.1)) (c := (eT_Su8_i64_u64_Z r8.2)) rfl rfl (Den.argsM (spec_l01Pick_of_src_ok r1.2 ([-1, IntKind.i64.wrap (a1 + 1), 1099511627776, -4611686018427387904]) r8 hr9) rfl rfl (.cons (.loose _) .nil)) rfl trivial (vp (i6 r8.1) rfl (nx _ rfl (a_ret (t_ret ?_))))
    refine ⟨.inr rfl, ?_⟩
    rw [Try.results132]
    cases h
    exact ⟨[], ⟨_, _, _, _, _, rfl, trivial, rfl, .inl ⟨rfl, .inl rfl, ⟨rfl, rfl, rfl⟩⟩⟩, rfl, ⟨_, _, rfl, rfl, rfl⟩⟩
def spec_l02Fine_c : ACode := (.seq (.region 0 [q 2 (.asg 0 (.const (.int .i64 0)) 2)] false) (.seq (.seq (.region 1 [q 3 (.mov (t 0)), q 4 (.call 0 (.func 168) [(t 3)])] false) (.cond (t 4) (.seq (.region 2 [q 5 (.mov (t 0)), q 2 (.asg 0 (t 5) 2)] false) .ret) .skip)) (.seq (.region 3 [q 2 (.asg 0 (.const (.int .i64 3)) 2)] false) .ret)))
def spec_l02Fine_L : Live := [(0, [0]), (1, [0]), (2, [0]), (3, []), (100004, [0, 4])]
noncomputable def spec_l02Fine (a0 : Int) : Option Int :=
  (Option.bind (spec_l01Prime a0) fun r1 => (if r1 then (some a0) else (some 3)))
theorem spec_l02Fine_ok (a0 : Int) (r : Int) (h : spec_l02Fine a0 = some r) : Den Try.prog 156 [(i6 a0)] { r := (i6 r) } := by
  refine den_of (rs := [(i6 r)]) (ac := spec_l02Fine_c) (L := spec_l02Fine_L) (n := 6) (m := []) (c := Try.f156.body.getD .skip) good Try.func156 (by kernel_rfl) (by kernel_rfl) Try.ntmps156 rfl rfl (by kernel_rfl) rfl rfl ?_
  refine a_st (σ' := ⟨[(0, (i6 a0))], []⟩) (by kernel_rfl) ?_
  unfold spec_l02Fine_c
  refine sr (vp (i6 0) rfl (nx ⟨[(0, (i6 a0))], []⟩ (by kernel_rfl) (a_seq (sr (vp (i6 a0) rfl ?_)))))
  obtain ⟨r1, hr2, h⟩ := bind_some h
  refine a_call (args := [(i6 a0)]) (u := []) (r := (.bool r1)) rfl rfl (spec_l01Prime_ok a0 r1 hr2) rfl (nx ⟨[(0, (i6 a0)), (4, (.bool r1))], []⟩ (by kernel_rfl) ?_)
  cases hb3 : r1
  · have h := ite_f hb3 h
    refine a_cond_f rfl (a_skip (a_next (σ' := ⟨[], []⟩) (by kernel_rfl) (sr (vp (i6 3) rfl (nx _ rfl (a_ret ?_))))))
    refine ⟨.inr rfl, ?_⟩
    rw [Try.results156]
    cases h
    exact ⟨_, _, _, _, _, rfl, trivial, .inl ⟨rfl, .inl rfl⟩, rfl, rfl⟩
  · have h := ite_t hb3 h
    refine a_cond_t rfl (sr (vp (i6 a0) rfl (vp (i6 a0) rfl (nx _ rfl (a_ret (t_ret ?_))))))
    refine ⟨.inr rfl, ?_⟩
    rw [Try.results156]
    cases h
    exact ⟨_, _, _, _, _, rfl, trivial, .inl ⟨rfl, .inl rfl⟩, rfl, rfl⟩
def spec_DrawConvergentsOf_c : ACode := (.seq (.region 0 [q 2 (.asg 0 (.const (.int .i64 0)) 2), q 3 (.asg 1 (.const (.slice none 0 0)) 55)] false) (.seq (.region 1 [q 12 (.mov (t 0)), q 13 (.call 0 (.func 116) [(t 12)]), q 4 (.asg 0 (t 13) 96)] false) (.seq (.region 2 [q 15 (.mov (t 4)), q 16 (.mov (t 4)), q 17 (.bslice 0 59 3 [(0, (.const (.int .i64 3))), (1, (.const (.int .i64 6))), (2, (.const (.int .i64 12)))]), q 18 (.call 1 (.func 122) [(t 16), (t 17)]), q 19 (.call 1 (.func 150) [(t 15), (t 18)]), q 14 (.mov (t 19)), q 20 (.extract (t 14) 0), q 21 (.extract (t 14) 1), q 22 (.extract (t 14) 2), q 6 (.alloc 25), q 7 (.alloc 25), q 5 (.asg 0 (t 20) 2), ⟨none, .store 25 (t 6) (t 21), none, []⟩, ⟨none, .store 25 (t 7) (t 22), none, []⟩] false) (.seq (.seq (.region 3 [q 24 (.mov (t 5)), q 25 (.load 25 (t 6)), q 26 (.load 25 (t 7)), q 27 (.call 0 (.func 64) [(t 24), (t 25), (t 26)]), q 23 (.mov (t 27)), q 28 (.extract (t 23) 0), q 29 (.extract (t 23) 1), q 8 (.asg 1 (t 28) 55), q 9 (.asg 0 (t 29) 2)] false) (.seq (.region 4 [q 30 (.mov (t 9)), q 31 (.bin .eql 2 (t 30) (.const (.int .i64 0))), q 32 (.mov (t 31)), ⟨some 33, .mov (t 4), some (32, true), []⟩, ⟨some 34, .call 1 (.func 123) [(t 33), (.const (.int .i64 2))], some (32, true), []⟩, ⟨some 35, .bin .eql 2 (t 34) (.const (.int .i64 0)), some (32, true), []⟩, q 36 (.pick (t 32) (t 35) (.const (.bool false)))] false) (.cond (t 36) (.seq (.region 5 [q 37 (.mov (t 5)), q 38 (.mov (t 8)), q 2 (.asg 0 (t 37) 2), q 3 (.asg 1 (t 38) 55)] false) .ret) .skip))) (.seq (.region 6 [q 39 (.bslice 2 55 0 []), q 10 (.asg 2 (t 39) 55)] false) (.seq (.seq (.region 7 [q 40 (.mov (t 4)), q 41 (.mov (t 4)), q 42 (.call 1 (.func 132) [(t 41), (.const (.int .i64 31))]), q 43 (.bslice 0 59 5 [(0, (.const (.int .i64 1))), (1, (.const (.int .i64 2))), (2, (.const (.int .i64 3))), (3, (.const (.int .i64 5))), (4, (t 42))]), q 44 (.call 1 (.func 122) [(t 40), (t 43)]), q 45 (.blt 0 .min [(t 44), (.const (.int .i64 33))] [2, 2]), q 11 (.asg 0 (t 45) 2)] false) (.block 0 (.loop (.seq (.seq (.region 8 [q 46 (.mov (t 11)), q 47 (.bin .gtr 2 (t 46) (.const (.int .i64 0)))] false) (.cond (t 47) .skip (.exit 0))) (.seq (.block 1 (.region 10 [q 50 (.mov (t 10)), q 51 (.mov (t 4)), q 52 (.mov (t 5)), q 53 (.call 0 (.func 156) [(t 52)]), q 54 (.mov (t 4)), q 55 (.bslice 0 59 4 [(0, (.const (.int .i64 1))), (1, (.const (.int .i64 1))), (2, (.const (.int .i64 2))), (3, (.const (.int .i64 8)))]), q 56 (.call 1 (.func 122) [(t 54), (t 55)]), q 57 (.call 1 (.func 155) [(t 51), (t 53), (t 56)]), q 58 (.bslice 0 55 1 [(0, (t 57))]), q 59 (.blt 0 .append [(t 50), (t 58)] [55, 55]), q 10 (.asg 2 (t 59) 55)] false)) (.region 9 [q 48 (.mov (t 11)), q 49 (.bin .sub 2 (t 48) (.const (.int .i64 1))), q 11 (.asg 0 (t 49) 2)] false)))))) (.seq (.region 11 [q 60 (.mov (t 5)), q 61 (.mov (t 10)), q 2 (.asg 0 (t 60) 2), q 3 (.asg 1 (t 61) 55)] false) .ret)))))))
def spec_DrawConvergentsOf_L : Live := [(0, [0]), (1, [0]), (2, [4]), (3, [4, 5, 6, 7]), (4, [4, 5, 8, 9]), (5, [5, 8]), (6, [4, 5]), (7, [4, 5, 10]), (8, [4, 5, 10, 11]), (9, [4, 5, 10, 11]), (10, [4, 5, 10, 11]), (11, [5, 10]), (100036, [4, 5, 8, 36]), (100047, [4, 5, 10, 11, 47])]
noncomputable def spec_DrawConvergentsOf_l1 (r6 : (Int × (Vec Int 64) × (Vec Int 64) × ((List Int) × Int × Int))) (x92 : Int) (x93 : ((List Int) × Int × Int)) (x94 : (List (Vec Int 64))) : Option ((Int × ((List Int) × Int × Int) × (List (Vec Int 64))) ⊕ (List (Vec Int 64))) :=
  (if (decide (x92 > 0)) then (Option.bind (spec_l02Fine r6.1) fun r109 => (Option.bind (spec_l01Pick_of_src x93 ([1, 1, 2, 8])) fun r111 => (Option.bind (spec_l01Draw_of_src r111.2 r109 r111.1) fun r114 => (ifp ((x94.length + ([r114.1] : List (Vec Int 64)).length) * 64 ≤ 140737488355328) ((some (.inl ((IntKind.i64.wrap (x92 - 1), r114.2, (x94 ++ ([r114.1]))))))))))) else (some (.inr x94)))
noncomputable def spec_DrawConvergentsOf (a0 : (List Int)) : Option (Int × (List (Vec Int 64))) :=
  (Option.bind (spec_l01From a0) fun r1 => (Option.bind (spec_l01Pick_of_src r1 ([3, 6, 12])) fun r3 => (Option.bind (spec_l10Draw_of_src r3.2 r3.1) fun r6 => (Option.bind (spec_ContinuedFraction r6.1 r6.2.1 r6.2.2.1) fun r13 => (Option.bind (α := (Bool × ((List Int) × Int × Int))) ((if (r13.2 == 0) then (Option.bind (spec_l01Next_of_src r6.2.2.2 2) fun r25 => (some (((r25.1 == 0), r25.2)))) else (some (false, r6.2.2.2)))) fun ⟨x19, x20⟩ => (if x19 then (some (r6.1, r13.1)) else (Option.bind (α := (List (Vec Int 64))) ((Option.bind (spec_l01Near_of_src x20 31) fun r76 => (Option.bind (spec_l01Pick_of_src r76.2 ([1, 2, 3, 5, r76.1])) fun r79 => (loopM (fun s : (Int × ((List Int) × Int × Int) × (List (Vec Int 64))) => spec_DrawConvergentsOf_l1 r6 s.1 s.2.1 s.2.2) ((if 33 < r79.1 then 33 else r79.1), r79.2, []))))) fun x72 => (some (r6.1, x72)))))))))
theorem spec_DrawConvergentsOf_ok (a0 : (List Int)) (r : (Int × (List (Vec Int 64)))) (h : spec_DrawConvergentsOf a0 = some r) : Den Try.prog 69 [(eSu8 a0)] { r := (.tuple [(i6 r.1), (eSA64u8 r.2)]) } := by
  refine den_of (rs := [(i6 r.1), (eSA64u8 r.2)]) (ac := spec_DrawConvergentsOf_c) (L := spec_DrawConvergentsOf_L) (n := 62) (m := [(3, 1), (8, 1), (10, 2), (18, 1), (19, 1), (34, 1), (39, 2), (42, 1), (44, 1), (56, 1), (57, 1)]) (c := Try.f69.body.getD .skip) good Try.func69 (by kernel_rfl) (by kernel_rfl) Try.ntmps69 rfl rfl (by kernel_rfl) rfl rfl ?_
  refine a_st (σ' := ⟨[(0, (eSu8 a0))], []⟩) (by kernel_rfl) ?_
  unfold spec_DrawConvergentsOf_c
  refine sr (vp (i6 0) rfl (vp (eSA64u8 ([])) rfl (nx ⟨[(0, (eSu8 a0))], []⟩ (by kernel_rfl) (sr (vp (eSu8 a0) rfl ?_)))))
  obtain ⟨r1, hr2, h⟩ := bind_some h
  refine a_callF (args := [(eSu8 a0)]) (u := []) (u2 := []) (r := (ow 2000000)) (fs := [(0, [eT_Su8_i64_u64_Z r1])]) rfl rfl (spec_l01From_ok a0 r1 hr2) rfl rfl rfl (.inl rfl) rfl (vp (ow 2300) rfl (nx ⟨[(4, (ow 4))], [(4, (bk (eT_Su8_i64_u64_Z r1)))]⟩ (by kernel_rfl) (sr (vp (ow 4) rfl (vp (ow 4) rfl (vq (.sl 1 true (([3, 6, 12]).map (AV.int .i64))) rfl ⟨(Nat.le_of_ble_eq_true rfl), (Nat.le_of_ble_eq_true rfl), (all_cons ⟨(Nat.le_of_ble_eq_true rfl), rfl⟩ (all_cons ⟨(Nat.le_of_ble_eq_true rfl), rfl⟩ (all_cons ⟨(Nat.le_of_ble_eq_true rfl), rfl⟩ all_nil)))⟩ ?_))))))
  obtain ⟨r3, hr4, h⟩ := bind_some h
  refine a_callM (args := [(.mutp (eT_Su8_i64_u64_Z r1)), (.sl 1 true (([3, 6, 12]).map (AV.int .i64)))]) (i := 0) (id := 4) (r := (i6 r3.1)) (c := (eT_Su8_i64_u64_Z r3.2)) rfl rfl (Den.argsM (spec_l01Pick_of_src_ok r1 ([3, 6, 12]) r3 hr4) rfl rfl (.cons (.loose _) .nil)) rfl trivial ?_
  obtain ⟨r6, hr7, h⟩ := bind_some h
  refine a_callM (args := [(.mutp (eT_Su8_i64_u64_Z r3.2)), (i6 r3.1)]) (i := 0) (id := 4) (r := (.tuple [(i6 r6.1), (eA64u8 r6.2.1), (eA64u8 r6.2.2.1)])) (c := (eT_Su8_i64_u64_Z r6.2.2.2)) rfl rfl (spec_l10Draw_of_src_ok r3.2 r3.1 r6 hr7) rfl trivial (vp (.tuple [(i6 r6.1), (eA64u8 r6.2.1), (eA64u8 r6.2.2.1)]) rfl (vb (i6 r6.1) rfl rfl (vb (eA64u8 r6.2.1) rfl rfl (vb (eA64u8 r6.2.2.1) rfl rfl (vo 1600 (eA64u8 ((vrep 64 (0 : Int)))) rfl rfl (vo 1700 (eA64u8 ((vrep 64 (0 : Int)))) rfl rfl (vp (i6 r6.1) rfl (vs (eA64u8 r6.2.1) rfl rfl (fun _ => rfl) rfl rfl rfl rfl rfl rfl (vs (eA64u8 r6.2.2.1) rfl rfl (fun _ => rfl) rfl rfl rfl rfl rfl rfl ?_)))))))))
  refine nx ⟨[(4, (ow 4)), (5, (i6 r6.1)), (6, (ow 6)), (7, (ow 7))], [(4, (bk (eT_Su8_i64_u64_Z r6.2.2.2))), (6, (bk (eA64u8 r6.2.1))), (7, (bk (eA64u8 r6.2.2.1)))]⟩ (by kernel_rfl) (a_seq (sr (vp (i6 r6.1) rfl (vl (eA64u8 r6.2.1) rfl rfl rfl rfl rfl rfl (vl (eA64u8 r6.2.2.1) rfl rfl rfl rfl rfl rfl ?_)))))
  obtain ⟨r13, hr14, h⟩ := bind_some h
  refine a_call (args := [(i6 r6.1), (eA64u8 r6.2.1), (eA64u8 r6.2.2.1)]) (u := []) (r := (.tuple [(eSA64u8 r13.1), (i6 r13.2)])) rfl rfl (spec_ContinuedFraction_ok r6.1 r6.2.1 r6.2.2.1 r13 hr14) rfl (vp (.tuple [(eSA64u8 r13.1), (i6 r13.2)]) rfl (vb (eSA64u8 r13.1) rfl rfl (vb (i6 r13.2) rfl rfl (vp (eSA64u8 r13.1) rfl (vp (i6 r13.2) rfl (nx ⟨[(4, (ow 4)), (5, (i6 r6.1)), (8, (eSA64u8 r13.1)), (9, (i6 r13.2))], [(4, (bk (eT_Su8_i64_u64_Z r6.2.2.2)))]⟩ (by kernel_rfl) ?_))))))
  obtain ⟨y21, hy22, hk23⟩ := bind_some h
  clear h
  refine a_join (emb := fun (s : (Bool × ((List Int) × Int × Int))) => ⟨[(4, (ow 4)), (5, (i6 r6.1)), (8, (eSA64u8 r13.1)), (36, (.bool s.1))], [(4, (bk (eT_Su8_i64_u64_Z s.2)))]⟩) (pre := fun s => s = y21) ?_ ?_
  · rintro ⟨x19, x20⟩ rfl
    have h := hk23
    refine a_st (σ' := ⟨[(4, (ow 4)), (5, (i6 r6.1)), (8, (eSA64u8 r13.1)), (36, (.bool x19))], [(4, (bk (eT_Su8_i64_u64_Z x20)))]⟩) (by kernel_rfl) ?_
    cases hb28 : x19
    · have h := ite_f hb28 h
      refine a_cond_f rfl (a_skip (a_next (σ' := ⟨[(4, (ow 4)), (5, (i6 r6.1))], [(4, (bk (eT_Su8_i64_u64_Z x20)))]⟩) (by kernel_rfl) (sr (vu (.osl 4900) [(4900, (bk (.row 64 (([]).map eA64u8))))] rfl ⟨(Nat.le_of_ble_eq_true rfl), (Nat.le_of_ble_eq_true rfl), all_nil⟩ rfl (vp (.osl 4900) rfl (nx ⟨[(4, (ow 4)), (5, (i6 r6.1)), (10, (.osl 10))], [(4, (bk (eT_Su8_i64_u64_Z x20))), (10, (bk (.row 64 (([]).map eA64u8))))]⟩ (by kernel_rfl) ?_))))))
      obtain ⟨y73, hy74, hk75⟩ := bind_some h
      clear h
      refine a_join (emb := fun (s : (List (Vec Int 64))) => ⟨[(5, (i6 r6.1)), (10, (.osl 10))], [(10, (bk (.row 64 (s.map eA64u8))))]⟩) (pre := fun s => s = y73) ?_ ?_
      · rintro x72 rfl
        have h := hk75
        refine a_st (σ' := ⟨[(5, (i6 r6.1)), (10, (.osl 10))], [(10, (bk (.row 64 (x72.map eA64u8))))]⟩) (by kernel_rfl) (sr (vp (i6 r6.1) rfl (vp (.osl 10) rfl (vp (i6 r6.1) rfl (vu (eSA64u8 x72) [(10, (bf (.row 64 (x72.map eA64u8))))] rfl trivial rfl (nx _ rfl (a_ret ?_)))))))
        refine ⟨.inr rfl, ?_⟩
        rw [Try.results69]
        cases h
        exact ⟨_, _, _, _, _, rfl, trivial, .inl ⟨rfl, .inl rfl⟩, rfl, ⟨_, _, _, _, _, rfl, trivial, .inl ⟨rfl, .inl rfl⟩, rfl, rfl⟩⟩
      · have h := hy74
        refine sr (vp (ow 4) rfl (vp (ow 4) rfl ?_))
        obtain ⟨r76, hr77, h⟩ := bind_some h
        refine a_callM (args := [(.mutp (eT_Su8_i64_u64_Z x20)), (i6 31)]) (i := 0) (id := 4) (r := (i6 r76.1)) (c := (eT_Su8_i64_u64_Z r76.2)) rfl rfl (spec_l01Near_of_src_ok x20 31 r76 hr77) rfl trivial (vq (.sl 1 true (([1, 2, 3, 5, r76.1]).map (AV.int .i64))) rfl ⟨(Nat.le_of_ble_eq_true rfl), (Nat.le_of_ble_eq_true rfl), (all_cons ⟨(Nat.le_of_ble_eq_true rfl), rfl⟩ (all_cons ⟨(Nat.le_of_ble_eq_true rfl), rfl⟩ (all_cons ⟨(Nat.le_of_ble_eq_true rfl), rfl⟩ (all_cons ⟨(Nat.le_of_ble_eq_true rfl), rfl⟩ (all_cons ⟨(Nat.le_of_ble_eq_true rfl), rfl⟩ all_nil)))))⟩ ?_)
        obtain ⟨r79, hr80, h⟩ := bind_some h
        refine a_callM (args := [(.mutp (eT_Su8_i64_u64_Z r76.2)), (.sl 1 true (([1, 2, 3, 5, r76.1]).map (AV.int .i64)))]) (i := 0) (id := 4) (r := (i6 r79.1)) (c := (eT_Su8_i64_u64_Z r79.2)) rfl rfl (Den.argsM (spec_l01Pick_of_src_ok r76.2 ([1, 2, 3, 5, r76.1]) r79 hr80) rfl rfl (.cons (.loose _) .nil)) rfl trivial (vp (i6 (if 33 < r79.1 then 33 else r79.1)) rfl (vp (i6 (if 33 < r79.1 then 33 else r79.1)) rfl (nx ⟨[(4, (ow 4)), (5, (i6 r6.1)), (10, (.osl 10)), (11, (i6 (if 33 < r79.1 then 33 else r79.1)))], [(4, (bk (eT_Su8_i64_u64_Z r79.2))), (10, (bk (.row 64 (([]).map eA64u8))))]⟩ (by kernel_rfl) (a_block ?_))))
        refine a_loop (emb := fun (s : (Int × ((List Int) × Int × Int) × (List (Vec Int 64)))) => ⟨[(4, (ow 4)), (5, (i6 r6.1)), (10, (.osl 10)), (11, (i6 s.1))], [(4, (bk (eT_Su8_i64_u64_Z s.2.1))), (10, (bk (.row 64 (s.2.2.map eA64u8))))]⟩) (body := (fun s : (Int × ((List Int) × Int × Int) × (List (Vec Int 64))) => spec_DrawConvergentsOf_l1 r6 s.1 s.2.1 s.2.2)) (G := fun q => some q = some y73) h rfl ?_ (by kernel_rfl)
        rintro X105 ⟨x92, x93, x94⟩ x106 h hX107
        have h : spec_DrawConvergentsOf_l1 r6 x92 x93 x94 = some x106 := h
        refine a_st (σ' := ⟨[(4, (ow 4)), (5, (i6 r6.1)), (10, (.osl 10)), (11, (i6 x92))], [(4, (bk (eT_Su8_i64_u64_Z x93))), (10, (bk (.row 64 (x94.map eA64u8))))]⟩) (by kernel_rfl) (a_seq (sr (vp (i6 x92) rfl (vp (.bool ((decide (x92 > 0)))) rfl (nx ⟨[(4, (ow 4)), (5, (i6 r6.1)), (10, (.osl 10)), (11, (i6 x92)), (47, (.bool ((decide (x92 > 0)))))], [(4, (bk (eT_Su8_i64_u64_Z x93))), (10, (bk (.row 64 (x94.map eA64u8))))]⟩ (by kernel_rfl) ?_)))))
        cases hb108 : (decide (x92 > 0))
        · have h := ite_f hb108 h
          refine a_cond_f rfl (a_exit (t_exit ?_))
          cases h
          have h := hX107
          refine t_exit (b_exit ?_)
          exact j_leaf x94 (Option.some.inj h) (by kernel_rfl)
        · have h := ite_t hb108 h
          refine a_cond_t rfl (a_skip (a_next (σ' := ⟨[(4, (ow 4)), (5, (i6 r6.1)), (10, (.osl 10)), (11, (i6 x92))], [(4, (bk (eT_Su8_i64_u64_Z x93))), (10, (bk (.row 64 (x94.map eA64u8))))]⟩) (by kernel_rfl) (a_seq (a_block (a_region (vp (.osl 10) rfl (vp (ow 4) rfl (vp (i6 r6.1) rfl ?_))))))))
          obtain ⟨r109, hr110, h⟩ := bind_some h
          refine a_call (args := [(i6 r6.1)]) (u := []) (r := (i6 r109)) rfl rfl (spec_l02Fine_ok r6.1 r109 hr110) rfl (vp (ow 4) rfl (vq (.sl 1 true (([1, 1, 2, 8]).map (AV.int .i64))) rfl ⟨(Nat.le_of_ble_eq_true rfl), (Nat.le_of_ble_eq_true rfl), (all_cons ⟨(Nat.le_of_ble_eq_true rfl), rfl⟩ (all_cons ⟨(Nat.le_of_ble_eq_true rfl), rfl⟩ (all_cons ⟨(Nat.le_of_ble_eq_true rfl), rfl⟩ (all_cons ⟨(Nat.le_of_ble_eq_true rfl), rfl⟩ all_nil))))⟩ ?_))
          obtain ⟨r111, hr112, h⟩ := bind_some h
          refine a_callM (args := [(.mutp (eT_Su8_i64_u64_Z x93)), (.sl 1 true (([1, 1, 2, 8]).map (AV.int .i64)))]) (i := 0) (id := 4) (r := (i6 r111.1)) (c := (eT_Su8_i64_u64_Z r111.2)) rfl rfl (Den.argsM (spec_l01Pick_of_src_ok x93 ([1, 1, 2, 8]) r111 hr112) rfl rfl (.cons (.loose _) .nil)) rfl trivial ?_
          obtain ⟨r114, hr115, h⟩ := bind_some h
          refine a_callM (args := [(.mutp (eT_Su8_i64_u64_Z r111.2)), (i6 r109), (i6 r111.1)]) (i := 0) (id := 4) (r := (eA64u8 r114.1)) (c := (eT_Su8_i64_u64_Z r114.2)) rfl rfl (spec_l01Draw_of_src_ok r111.2 r109 r111.1 r114 hr115) rfl trivial (vq (.sl 64 true (([r114.1]).map eA64u8)) rfl ⟨(Nat.le_of_ble_eq_true rfl), (Nat.le_of_ble_eq_true rfl), (all_cons ⟨(Nat.le_of_ble_eq_true rfl), rfl⟩ all_nil)⟩ ?_)
          obtain ⟨hc117, h⟩ := ifp_some h
          refine vu (.osl 6900) [(6900, (bk (.row 64 (((x94 ++ ([r114.1]))).map eA64u8)))), (10, none)] (app_run (i := ⟨.arr 64 5, 64, 64, (eA64u8 (vrep 64 (0 : Int)))⟩) (f := eA64u8) (l := x94) (l2 := [r114.1]) rfl rfl rfl rfl (fun _ => rfl) rfl rfl) (app_c (f := eA64u8) (s := 64) (sz := 64) (by' := 64) (u := []) (id := 10) hc117 (.inr rfl) rfl rfl rfl) rfl (vp (.osl 6900) rfl (a_nil (b_norm (a_next (σ' := ⟨[(4, (ow 4)), (5, (i6 r6.1)), (10, (.osl 10)), (11, (i6 x92))], [(4, (bk (eT_Su8_i64_u64_Z r114.2))), (10, (bk (.row 64 (((x94 ++ ([r114.1]))).map eA64u8))))]⟩) (by kernel_rfl) (a_region (vp (i6 x92) rfl (vp (i6 (IntKind.i64.wrap (x92 - 1))) rfl (vp (i6 (IntKind.i64.wrap (x92 - 1))) rfl (a_nil ?_)))))))))
          cases h
          exact a_again (by kernel_rfl) hX107
    · have h := ite_t hb28 h
      refine a_cond_t rfl (sr (vp (i6 r6.1) rfl (vp (eSA64u8 r13.1) rfl (vp (i6 r6.1) rfl (vp (eSA64u8 r13.1) rfl (nx _ rfl (a_ret (t_ret ?_))))))))
      refine ⟨.inr rfl, ?_⟩
      rw [Try.results69]
      cases h
      exact ⟨_, _, _, _, _, rfl, trivial, .inl ⟨rfl, .inl rfl⟩, rfl, ⟨_, _, _, _, _, rfl, trivial, .inl ⟨rfl, .inl rfl⟩, rfl, rfl⟩⟩
  · have h := hy22
    refine a_region (vp (i6 r13.2) rfl (vp (.bool (r13.2 == 0)) rfl (vp (.bool (r13.2 == 0)) rfl ?_)))
    cases hb24 : (r13.2 == 0)
    · have h := ite_f hb24 h
      refine a_gskip rfl (a_gskip rfl (a_gskip rfl (vp (.bool false) rfl (a_nil ?_))))
      exact j_leaf (false, r6.2.2.2) (Option.some.inj h) (by kernel_rfl)
    · have h := ite_t hb24 h
      refine gp (ow 4) rfl rfl ?_
      obtain ⟨r25, hr26, h⟩ := bind_some h
      refine a_gcallM rfl (args := [(.mutp (eT_Su8_i64_u64_Z r6.2.2.2)), (i6 2)]) (i := 0) (id := 4) (r := (i6 r25.1)) (c := (eT_Su8_i64_u64_Z r25.2)) rfl rfl (spec_l01Next_of_src_ok r6.2.2.2 2 r25 hr26) rfl trivial (gp (.bool (r25.1 == 0)) rfl rfl (vp (.bool (r25.1 == 0)) rfl (a_nil ?_)))
      exact j_leaf (((r25.1 == 0), r25.2)) (Option.some.inj h) (by kernel_rfl)
end Go.Proofs.Ytkbnegemdlnncaa
