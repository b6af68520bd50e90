/- Functions of the program: plain Lean functions, and that the program computes them. Printed by gen.py. -/
import Derived.Test.YtkbnegemdlnncaaFnT
import Derived.Test.YtkbnegemdlnncaaFn1
import Derived.Test.YtkbnegemdlnncaaFn2
import Derived.Test.YtkbnegemdlnncaaFn3
namespace Go.Proofs.Ytkbnegemdlnncaa
open Go.Abs Go.Proofs
set_option linter.unusedSimpArgs false
set_option linter.unusedVariables false
set_option maxHeartbeats 16000000
attribute [local irreducible] Abs.acode Abs.aops Abs.aopsT Abs.thenK Abs.blockK

def spec_l01Inverse_c : ACode := (.seq (.region 0 [q 4 (.asg 0 (.const (.int .u8 0)) 5)] false) (.seq (.seq (.region 1 [q 5 (.asg 0 (.const (.int .i64 1)) 2)] false) (.block 0 (.loop (.seq (.seq (.region 2 [q 6 (.mov (t 5)), q 7 (.mov (t 0)), q 8 (.bin .lss 2 (t 6) (t 7))] false) (.cond (t 8) .skip (.exit 0))) (.seq (.block 1 (.seq (.region 4 [q 11 (.mov (t 5)), q 12 (.mov (t 1)), q 13 (.conv 5 2 (t 12)), q 14 (.bin .mul 2 (t 11) (t 13)), q 15 (.mov (t 0)), q 16 (.bin .rem 2 (t 14) (t 15)), q 17 (.bin .eql 2 (t 16) (.const (.int .i64 1)))] false) (.cond (t 17) (.seq (.region 5 [q 18 (.mov (t 5)), q 19 (.conv 2 5 (t 18)), q 4 (.asg 0 (t 19) 5)] false) .ret) .skip))) (.region 3 [q 9 (.mov (t 5)), q 10 (.bin .add 2 (t 9) (.const (.int .i64 1))), q 5 (.asg 0 (t 10) 2)] false)))))) (.seq (.region 6 [q 4 (.asg 0 (.const (.int .u8 0)) 5)] false) .ret)))
def spec_l01Inverse_L : Live := [(0, [0, 1]), (1, [0, 1]), (2, [0, 1, 5]), (3, [0, 1, 5]), (4, [0, 1, 5]), (5, [5]), (6, []), (100008, [0, 1, 5, 8]), (100017, [0, 1, 5, 17])]
noncomputable def spec_l01Inverse_l1 (a0 : Int) (a1 : Int) (x29 : Int) : Option (Int ⊕ (Unit ⊕ Int)) :=
  (if (decide (x29 < a0)) then (ifp (a0 ≠ 0) ((letp (((Int.tmod (IntKind.i64.wrap (x29 * (IntKind.i64.wrap a1))) a0) == 1)) fun x40 => (if x40 then (some (.inr ((.inr (IntKind.u8.wrap x29))))) else (some (.inl (IntKind.i64.wrap (x29 + 1)))))))) else (some (.inr (((.inl ()))))))
noncomputable def spec_l01Inverse (a0 : Int) (a1 : Int) : Option Int :=
  (Option.bind (α := (Unit ⊕ Int)) ((loopM (fun s : Int => spec_l01Inverse_l1 a0 a1 s) 1)) fun z => match z with | .inl _ => (some 0) | .inr r44 => (some r44))
theorem spec_l01Inverse_ok (a0 : Int) (a1 : Int) (r : Int) (h : spec_l01Inverse a0 a1 = some r) : Den Try.prog 187 [(i6 a0), (b8 a1)] { r := (b8 r) } := by
  refine den_of (rs := [(b8 r)]) (ac := spec_l01Inverse_c) (L := spec_l01Inverse_L) (n := 20) (m := []) (c := Try.f187.body.getD .skip) good Try.func187 (by kernel_rfl) (by kernel_rfl) Try.ntmps187 rfl rfl (by kernel_rfl) rfl rfl ?_
  refine a_st (σ' := ⟨[(0, (i6 a0)), (1, (b8 a1))], []⟩) (by kernel_rfl) ?_
  unfold spec_l01Inverse_c
  refine sr (vp (b8 0) rfl (nx ⟨[(0, (i6 a0)), (1, (b8 a1))], []⟩ (by kernel_rfl) ?_))
  obtain ⟨y21, hy22, hk23⟩ := bind_some h
  clear h
  refine a_join (emb := fun (s : Unit) => ⟨[], []⟩) (pre := fun s => (.inl s) = y21) ?_ ?_
  · rintro _ rfl
    have h := hk23
    refine a_st (σ' := ⟨[], []⟩) (by kernel_rfl) (sr (vp (b8 0) rfl (nx _ rfl (a_ret ?_))))
    refine ⟨.inr rfl, ?_⟩
    rw [Try.results187]
    cases h
    exact ⟨_, _, _, _, _, rfl, trivial, .inl ⟨rfl, .inl rfl⟩, rfl, rfl⟩
  · have h := hy22
    refine sr (vp (i6 1) rfl (nx ⟨[(0, (i6 a0)), (1, (b8 a1)), (5, (i6 1))], []⟩ (by kernel_rfl) (a_block ?_)))
    refine a_loop (emb := fun (s : Int) => ⟨[(0, (i6 a0)), (1, (b8 a1)), (5, (i6 s))], []⟩) (body := (fun s : Int => spec_l01Inverse_l1 a0 a1 s)) (G := fun q => some q = some y21) h rfl ?_ (by kernel_rfl)
    rintro X35 x29 x36 h hX37
    have h : spec_l01Inverse_l1 a0 a1 x29 = some x36 := h
    refine a_st (σ' := ⟨[(0, (i6 a0)), (1, (b8 a1)), (5, (i6 x29))], []⟩) (by kernel_rfl) (a_seq (sr (vp (i6 x29) rfl (vp (i6 a0) rfl (vp (.bool ((decide (x29 < a0)))) rfl (nx ⟨[(0, (i6 a0)), (1, (b8 a1)), (5, (i6 x29)), (8, (.bool ((decide (x29 < a0)))))], []⟩ (by kernel_rfl) ?_))))))
    cases hb38 : (decide (x29 < a0))
    · have h := ite_f hb38 h
      refine a_cond_f rfl (a_exit (t_exit ?_))
      cases h
      have h := hX37
      refine t_exit (b_exit ?_)
      exact j_leaf () (Option.some.inj h) (by kernel_rfl)
    · have h := ite_t hb38 h
      refine a_cond_t rfl (a_skip (a_next (σ' := ⟨[(0, (i6 a0)), (1, (b8 a1)), (5, (i6 x29))], []⟩) (by kernel_rfl) (a_seq (a_block (sr (vp (i6 x29) rfl (vp (b8 a1) rfl (vp (i6 (IntKind.i64.wrap a1)) rfl (vp (i6 (IntKind.i64.wrap (x29 * (IntKind.i64.wrap a1)))) rfl ?_)))))))))
      refine vp (i6 a0) rfl ?_
      obtain ⟨hc39, h⟩ := ifp_some h
      refine vq (i6 (Int.tmod (IntKind.i64.wrap (x29 * (IntKind.i64.wrap a1))) a0)) rfl hc39 ?_
      obtain ⟨x40, hx41, h⟩ := letp_some h
      refine a_val' (v := (.bool (((Int.tmod (IntKind.i64.wrap (x29 * (IntKind.i64.wrap a1))) a0) == 1)))) (v' := (.bool x40)) (u := []) (u' := []) rfl (congrArg (fun z => ((.bool z) : AV)) hx41) rfl trivial rfl (nx ⟨[(0, (i6 a0)), (1, (b8 a1)), (5, (i6 x29)), (17, (.bool x40))], []⟩ (by kernel_rfl) ?_)
      cases hb42 : x40
      · have h := ite_f hb42 h
        refine a_cond_f rfl (a_skip (b_norm (a_next (σ' := ⟨[(0, (i6 a0)), (1, (b8 a1)), (5, (i6 x29))], []⟩) (by kernel_rfl) (a_region (vp (i6 x29) rfl (vp (i6 (IntKind.i64.wrap (x29 + 1))) rfl (vp (i6 (IntKind.i64.wrap (x29 + 1))) rfl (a_nil ?_))))))))
        cases h
        exact a_again (by kernel_rfl) hX37
      · have h := ite_t hb42 h
        refine a_cond_t rfl (sr (vp (i6 x29) rfl (vp (b8 (IntKind.u8.wrap x29)) rfl (vp (b8 (IntKind.u8.wrap x29)) rfl (nx _ rfl (a_ret (b_ret (t_ret ?_))))))))
        cases h
        have h := hX37
        refine t_ret (b_ret (t_ret ?_))
        cases h
        have h := hk23
        refine ⟨.inr rfl, ?_⟩
        rw [Try.results187]
        cases h
        exact ⟨_, _, _, _, _, rfl, trivial, .inl ⟨rfl, .inl rfl⟩, rfl, rfl⟩
def spec_l01Divide_c : ACode := (.seq (.region 0 [q 4 (.box 25 (t 1)), q 5 (.box 25 (t 2)), q 6 (.alloc 25), q 7 (.alloc 25)] false) (.seq (.region 1 [q 14 (.build 25 []), q 15 (.load 25 (t 5)), q 16 (.call 0 (.func 112) [(t 15)]), q 8 (.alloc 25), ⟨none, .store 25 (t 8) (t 14), none, []⟩, q 9 (.asg 0 (t 16) 2)] false) (.seq (.region 2 [q 17 (.mov (t 0)), q 18 (.mov (t 9)), q 19 (.indexAddr 25 (t 5) (t 18)), q 20 (.load 5 (t 19)), q 21 (.call 0 (.func 187) [(t 17), (t 20)]), q 22 (.conv 5 2 (t 21)), q 10 (.asg 0 (t 22) 2)] false) (.seq (.seq (.region 3 [q 23 (.load 25 (t 4)), q 24 (.call 0 (.func 112) [(t 23)]), q 11 (.asg 0 (t 24) 2)] false) (.block 0 (.loop (.seq (.seq (.region 4 [q 25 (.mov (t 11)), q 26 (.mov (t 9)), q 27 (.bin .geq 2 (t 25) (t 26))] false) (.cond (t 27) .skip (.exit 0))) (.seq (.block 1 (.seq (.region 6 [q 30 (.mov (t 11)), q 31 (.indexAddr 25 (t 4) (t 30)), q 32 (.load 5 (t 31)), q 33 (.conv 5 2 (t 32)), q 34 (.mov (t 10)), q 35 (.bin .mul 2 (t 33) (t 34)), q 36 (.mov (t 0)), q 37 (.bin .rem 2 (t 35) (t 36)), q 12 (.asg 0 (t 37) 2)] false) (.seq (.region 7 [q 38 (.mov (t 11)), q 39 (.mov (t 9)), q 40 (.bin .sub 2 (t 38) (t 39)), q 41 (.mov (t 12)), q 42 (.conv 2 5 (t 41)), q 43 (.indexAddr 25 (t 8) (t 40)), ⟨none, .store 5 (t 43) (t 42), none, []⟩] false) (.seq (.region 8 [q 13 (.asg 0 (.const (.int .i64 0)) 2)] false) (.block 2 (.loop (.seq (.seq (.region 9 [q 44 (.mov (t 13)), q 45 (.mov (t 9)), q 46 (.bin .leq 2 (t 44) (t 45)), q 47 (.mov (t 46)), ⟨some 48, .mov (t 12), some (47, true), []⟩, ⟨some 49, .bin .neq 2 (t 48) (.const (.int .i64 0)), some (47, true), []⟩, q 50 (.pick (t 47) (t 49) (.const (.bool false)))] false) (.cond (t 50) .skip (.exit 2))) (.seq (.block 3 (.region 11 [q 53 (.mov (t 11)), q 54 (.mov (t 9)), ⟨some 55, .bin .sub 2 (t 53) (t 54), none, [0, 1]⟩, q 56 (.mov (t 13)), ⟨some 57, .bin .add 2 (t 55) (t 56), none, [2, 3]⟩, q 58 (.mov (t 11)), q 59 (.mov (t 9)), ⟨some 60, .bin .sub 2 (t 58) (t 59), none, [5, 6]⟩, q 61 (.mov (t 13)), ⟨some 62, .bin .add 2 (t 60) (t 61), none, [7, 8]⟩, ⟨some 63, .indexAddr 25 (t 4) (t 62), none, [9]⟩, ⟨some 64, .load 5 (t 63), none, [10]⟩, ⟨some 65, .conv 5 2 (t 64), none, [11]⟩, q 66 (.mov (t 12)), q 67 (.mov (t 13)), ⟨some 68, .indexAddr 25 (t 5) (t 67), none, [14]⟩, ⟨some 69, .load 5 (t 68), none, [15]⟩, ⟨some 70, .conv 5 2 (t 69), none, [16]⟩, ⟨some 71, .bin .mul 2 (t 66) (t 70), none, [13, 17]⟩, ⟨some 72, .bin .sub 2 (t 65) (t 71), none, [12, 18]⟩, q 73 (.mov (t 0)), ⟨some 74, .bin .rem 2 (t 72) (t 73), none, [19, 20]⟩, q 75 (.mov (t 0)), ⟨some 76, .bin .add 2 (t 74) (t 75), none, [21, 22]⟩, q 77 (.mov (t 0)), ⟨some 78, .bin .rem 2 (t 76) (t 77), none, [23, 24]⟩, ⟨some 79, .conv 2 5 (t 78), none, [25]⟩, ⟨some 80, .indexAddr 25 (t 4) (t 57), none, [4, 0, 1, 2, 3, 4, 5, 6, 7, 8, 9, 10, 11, 12, 13, 14, 15, 16, 17, 18, 19, 20, 21, 22, 23, 24, 25, 26]⟩, ⟨none, .store 5 (t 80) (t 79), none, [27, 26, 0, 1, 2, 3, 4, 5, 6, 7, 8, 9, 10, 11, 12, 13, 14, 15, 16, 17, 18, 19, 20, 21, 22, 23, 24, 25, 26]⟩] true)) (.region 10 [q 51 (.mov (t 13)), q 52 (.bin .add 2 (t 51) (.const (.int .i64 1))), q 13 (.asg 0 (t 52) 2)] false))))))))) (.region 5 [q 28 (.mov (t 11)), q 29 (.bin .sub 2 (t 28) (.const (.int .i64 1))), q 11 (.asg 0 (t 29) 2)] false)))))) (.seq (.region 12 [q 81 (.load 25 (t 8)), q 82 (.load 25 (t 4)), ⟨none, .store 25 (t 6) (t 81), none, [0, 0]⟩, ⟨none, .store 25 (t 7) (t 82), none, [1, 2, 0, 1, 2]⟩] true) .ret)))))
def spec_l01Divide_L : Live := [(0, [0, 1, 2]), (1, [0, 4, 5, 6, 7]), (2, [0, 4, 5, 6, 7, 8, 9]), (3, [0, 4, 5, 6, 7, 8, 9, 10]), (4, [0, 4, 5, 6, 7, 8, 9, 10, 11]), (5, [0, 4, 5, 6, 7, 8, 9, 10, 11]), (6, [0, 4, 5, 6, 7, 8, 9, 10, 11]), (7, [0, 4, 5, 6, 7, 8, 9, 10, 11, 12]), (8, [0, 4, 5, 6, 7, 8, 9, 10, 11, 12]), (9, [0, 4, 5, 6, 7, 8, 9, 10, 11, 12, 13]), (10, [0, 4, 5, 6, 7, 8, 9, 10, 11, 12, 13]), (11, [0, 4, 5, 6, 7, 8, 9, 10, 11, 12, 13]), (12, [4, 6, 7, 8]), (100027, [0, 4, 5, 6, 7, 8, 9, 10, 11, 27]), (100050, [0, 4, 5, 6, 7, 8, 9, 10, 11, 12, 13, 50])]
noncomputable def spec_l01Divide_l2 (r2 : Int) (x1405 : Int) (a0 : Int) (x995 : Int) (a2 : (Vec Int 64)) (x997 : (Vec Int 64)) (x1449 : Int) (x1450 : (Vec Int 64)) : Option ((Int × (Vec Int 64)) ⊕ ((Vec Int 64) × (Vec Int 64))) :=
  (Option.bind (α := Bool) ((if (decide (x1449 ≤ r2)) then (some (((Int.tmod x1405 a0) != 0))) else (some false))) fun x1494 => (if x1494 then (ifp (0 ≤ IntKind.i64.wrap ((IntKind.i64.wrap (x995 - r2)) + x1449) ∧ IntKind.i64.wrap ((IntKind.i64.wrap (x995 - r2)) + x1449) < ((64 : Nat) : Int)) ((letp ((rd x1450.1 (IntKind.i64.wrap ((IntKind.i64.wrap (x995 - r2)) + x1449)).toNat)) fun x1518 => (ifp (0 ≤ x1449 ∧ x1449 < ((64 : Nat) : Int)) ((letp (IntKind.i64.wrap ((Int.tmod x1405 a0) * (IntKind.i64.wrap (rd a2.1 x1449.toNat)))) fun x1522 => (ifp (a0 ≠ 0) ((letp (Int.tmod (IntKind.i64.wrap ((IntKind.i64.wrap x1518) - x1522)) a0) fun x1525 => (ifp (a0 ≠ 0) ((letp (IntKind.u8.wrap (Int.tmod (IntKind.i64.wrap (x1525 + a0)) a0)) fun x1528 => (ifp (0 ≤ IntKind.i64.wrap ((IntKind.i64.wrap (x995 - r2)) + x1449) ∧ IntKind.i64.wrap ((IntKind.i64.wrap (x995 - r2)) + x1449) < ((64 : Nat) : Int)) ((some (.inl ((IntKind.i64.wrap (x1449 + 1), (vset x1450 (IntKind.i64.wrap ((IntKind.i64.wrap (x995 - r2)) + x1449)).toNat x1528))))))))))))))))))) else (some (.inr (((x1450, (vset x997 (IntKind.i64.wrap (x995 - r2)).toNat (IntKind.u8.wrap (Int.tmod x1405 a0))))))))))
noncomputable def spec_l01Divide_l1 (r2 : Int) (r7 : Int) (a0 : Int) (a2 : (Vec Int 64)) (x995 : Int) (x996 : (Vec Int 64)) (x997 : (Vec Int 64)) : Option ((Int × (Vec Int 64) × (Vec Int 64)) ⊕ ((Vec Int 64) × (Vec Int 64))) :=
  (if (decide (x995 ≥ r2)) then (Option.bind (α := ((Vec Int 64) × (Vec Int 64))) ((ifp (0 ≤ x995 ∧ x995 < ((64 : Nat) : Int)) ((letp (IntKind.i64.wrap ((IntKind.i64.wrap (rd x996.1 x995.toNat)) * (IntKind.i64.wrap r7))) fun x1405 => (ifp (a0 ≠ 0) ((ifp (0 ≤ IntKind.i64.wrap (x995 - r2) ∧ IntKind.i64.wrap (x995 - r2) < ((64 : Nat) : Int)) ((loopM (fun s : (Int × (Vec Int 64)) => spec_l01Divide_l2 r2 x1405 a0 x995 a2 x997 s.1 s.2) (0, x996)))))))))) fun ⟨x1398, x1399⟩ => (some (.inl ((IntKind.i64.wrap (x995 - 1), x1398, x1399))))) else (some (.inr (x996, x997))))
noncomputable def spec_l01Divide (a0 : Int) (a1 : (Vec Int 64)) (a2 : (Vec Int 64)) : Option ((Vec Int 64) × (Vec Int 64)) :=
  (Option.bind (spec_l01Deg a2) fun r2 => (ifp (0 ≤ r2 ∧ r2 < ((64 : Nat) : Int)) ((Option.bind (spec_l01Inverse a0 (rd a2.1 r2.toNat)) fun r7 => (Option.bind (α := ((Vec Int 64) × (Vec Int 64))) ((Option.bind (spec_l01Deg a1) fun r751 => (loopM (fun s : (Int × (Vec Int 64) × (Vec Int 64)) => spec_l01Divide_l1 r2 r7 a0 a2 s.1 s.2.1 s.2.2) (r751, a1, (vrep 64 (0 : Int)))))) fun ⟨x745, x746⟩ => (some (x746, x745)))))))
theorem spec_l01Divide_ok (a0 : Int) (a1 : (Vec Int 64)) (a2 : (Vec Int 64)) (r : ((Vec Int 64) × (Vec Int 64))) (h : spec_l01Divide a0 a1 a2 = some r) : Den Try.prog 113 [(i6 a0), (eA64u8 a1), (eA64u8 a2)] { r := (.tuple [(eA64u8 r.1), (eA64u8 r.2)]) } := by
  refine den_of (rs := [(eA64u8 r.1), (eA64u8 r.2)]) (ac := spec_l01Divide_c) (L := spec_l01Divide_L) (n := 83) (m := []) (c := Try.f113.body.getD .skip) good Try.func113 (by kernel_rfl) (by kernel_rfl) Try.ntmps113 rfl rfl (by kernel_rfl) rfl rfl ?_
  refine a_st (σ' := ⟨[(0, (i6 a0)), (1, (eA64u8 a1)), (2, (eA64u8 a2))], []⟩) (by kernel_rfl) ?_
  unfold spec_l01Divide_c
  refine sr (vo 1400 (eA64u8 a1) rfl rfl (vo 1500 (eA64u8 a2) rfl rfl (vo 1600 (eA64u8 ((vrep 64 (0 : Int)))) rfl rfl (vo 1700 (eA64u8 ((vrep 64 (0 : Int)))) rfl rfl (nx ⟨[(0, (i6 a0)), (4, (ow 4)), (5, (ow 5)), (6, (ow 6)), (7, (ow 7))], [(4, (bk (eA64u8 a1))), (5, (bk (eA64u8 a2))), (6, (bk (eA64u8 ((vrep 64 (0 : Int)))))), (7, (bk (eA64u8 ((vrep 64 (0 : Int))))))]⟩ (by kernel_rfl) (sr (vq (eA64u8 ((vrep 64 (0 : Int)))) rfl ⟨⟨_, rfl, rfl⟩, all_nil⟩ (vl (eA64u8 a2) rfl rfl rfl rfl rfl rfl ?_))))))))
  obtain ⟨r2, hr3, h⟩ := bind_some h
  refine a_call (args := [(eA64u8 a2)]) (u := []) (r := (i6 r2)) rfl rfl (spec_l01Deg_ok a2 r2 hr3) rfl (vo 1800 (eA64u8 ((vrep 64 (0 : Int)))) rfl rfl (vs (eA64u8 ((vrep 64 (0 : Int)))) rfl rfl (fun _ => rfl) rfl rfl rfl rfl rfl rfl (vp (i6 r2) rfl (nx ⟨[(0, (i6 a0)), (4, (ow 4)), (5, (ow 5)), (6, (ow 6)), (7, (ow 7)), (8, (ow 8)), (9, (i6 r2))], [(4, (bk (eA64u8 a1))), (5, (bk (eA64u8 a2))), (6, (bk (eA64u8 ((vrep 64 (0 : Int)))))), (7, (bk (eA64u8 ((vrep 64 (0 : Int)))))), (8, (bk (eA64u8 ((vrep 64 (0 : Int))))))]⟩ (by kernel_rfl) (sr (vp (i6 a0) rfl (vp (i6 r2) rfl ?_)))))))
  obtain ⟨hc5, h⟩ := ifp_some h
  refine vq (.own 5 [r2.toNat] [r2.toNat * 1]) rfl hc5 ?_
  have hl6 : LdOk [r2.toNat] (eA64u8 a2) [r2.toNat * 1] 1 false (b8 (rd a2.1 r2.toNat)) := (.arr (vlt a2 hc5) rfl (.nil rfl rfl rfl))
  refine vq (b8 (rd a2.1 r2.toNat)) (ld_own (i := ⟨.int .u8, 1, 1, (.int .u8 0)⟩) rfl rfl rfl hl6) hl6.c ?_
  obtain ⟨r7, hr8, h⟩ := bind_some h
  refine a_call (args := [(i6 a0), (b8 (rd a2.1 r2.toNat))]) (u := []) (r := (b8 r7)) rfl rfl (spec_l01Inverse_ok a0 (rd a2.1 r2.toNat) r7 hr8) rfl (vp (i6 (IntKind.i64.wrap r7)) rfl (vp (i6 (IntKind.i64.wrap r7)) rfl (nx ⟨[(0, (i6 a0)), (4, (ow 4)), (5, (ow 5)), (6, (ow 6)), (7, (ow 7)), (8, (ow 8)), (9, (i6 r2)), (10, (i6 (IntKind.i64.wrap r7)))], [(4, (bk (eA64u8 a1))), (5, (bk (eA64u8 a2))), (6, (bk (eA64u8 ((vrep 64 (0 : Int)))))), (7, (bk (eA64u8 ((vrep 64 (0 : Int)))))), (8, (bk (eA64u8 ((vrep 64 (0 : Int))))))]⟩ (by kernel_rfl) ?_)))
  obtain ⟨y747, hy748, hk749⟩ := bind_some h
  clear h
  refine a_join (emb := fun (s : ((Vec Int 64) × (Vec Int 64))) => ⟨[(4, (ow 4)), (6, (ow 6)), (7, (ow 7)), (8, (ow 8))], [(4, (bk (eA64u8 s.1))), (6, (bk (eA64u8 ((vrep 64 (0 : Int)))))), (7, (bk (eA64u8 ((vrep 64 (0 : Int)))))), (8, (bk (eA64u8 s.2)))]⟩) (pre := fun s => s = y747) ?_ ?_
  · rintro ⟨x745, x746⟩ rfl
    have h := hk749
    refine a_st (σ' := ⟨[(4, (ow 4)), (6, (ow 6)), (7, (ow 7)), (8, (ow 8))], [(4, (bk (eA64u8 x745))), (6, (bk (eA64u8 ((vrep 64 (0 : Int)))))), (7, (bk (eA64u8 ((vrep 64 (0 : Int)))))), (8, (bk (eA64u8 x746)))]⟩) (by kernel_rfl) (a_seq (a_draw [⟨[8], [], [], []⟩, ⟨[4], [], [], []⟩, ⟨[6], [6], [], [0]⟩, ⟨[7], [7], [], [0, 1, 2]⟩] (by kernel_rfl) (d_cons (vl (eA64u8 x746) rfl rfl rfl rfl rfl rfl (d_next (by kernel_rfl) (d_cons (vl (eA64u8 x745) rfl rfl rfl rfl rfl rfl (d_next (by kernel_rfl) (d_cons ?_)))))))))
    refine vs (eA64u8 x746) rfl rfl (fun _ => rfl) rfl rfl rfl rfl rfl rfl (d_next (by kernel_rfl) (d_cons (vs (eA64u8 x745) rfl rfl (fun _ => rfl) rfl rfl rfl rfl rfl rfl (d_next (by kernel_rfl) (d_nil (a_next rfl (a_ret ?_)))))))
    have hl1542 : LdOk [] (eA64u8 x746) [] 64 true (eA64u8 x746) := (.nil rfl rfl rfl)
    have hl1543 : LdOk [] (eA64u8 x745) [] 64 true (eA64u8 x745) := (.nil rfl rfl rfl)
    refine ⟨.inr rfl, ?_⟩
    rw [Try.results113]
    cases h
    exact ⟨_, _, _, _, _, ld_own (i := ⟨.arr 64 5, 64, 64, (eA64u8 (vrep 64 (0 : Int)))⟩) rfl rfl rfl hl1542, hl1542.c, .inl ⟨rfl, .inl rfl⟩, rfl, ⟨_, _, _, _, _, ld_own (i := ⟨.arr 64 5, 64, 64, (eA64u8 (vrep 64 (0 : Int)))⟩) rfl rfl rfl hl1543, hl1543.c, .inl ⟨rfl, .inl rfl⟩, rfl, rfl⟩⟩
  · have h := hy748
    refine sr (vl (eA64u8 a1) rfl rfl rfl rfl rfl rfl ?_)
    obtain ⟨r751, hr752, h⟩ := bind_some h
    refine a_call (args := [(eA64u8 a1)]) (u := []) (r := (i6 r751)) rfl rfl (spec_l01Deg_ok a1 r751 hr752) rfl (vp (i6 r751) rfl (nx ⟨[(0, (i6 a0)), (4, (ow 4)), (5, (ow 5)), (6, (ow 6)), (7, (ow 7)), (8, (ow 8)), (9, (i6 r2)), (10, (i6 (IntKind.i64.wrap r7))), (11, (i6 r751))], [(4, (bk (eA64u8 a1))), (5, (bk (eA64u8 a2))), (6, (bk (eA64u8 ((vrep 64 (0 : Int)))))), (7, (bk (eA64u8 ((vrep 64 (0 : Int)))))), (8, (bk (eA64u8 ((vrep 64 (0 : Int))))))]⟩ (by kernel_rfl) (a_block ?_)))
    refine a_loop (emb := fun (s : (Int × (Vec Int 64) × (Vec Int 64))) => ⟨[(0, (i6 a0)), (4, (ow 4)), (5, (ow 5)), (6, (ow 6)), (7, (ow 7)), (8, (ow 8)), (9, (i6 r2)), (10, (i6 (IntKind.i64.wrap r7))), (11, (i6 s.1))], [(4, (bk (eA64u8 s.2.1))), (5, (bk (eA64u8 a2))), (6, (bk (eA64u8 ((vrep 64 (0 : Int)))))), (7, (bk (eA64u8 ((vrep 64 (0 : Int)))))), (8, (bk (eA64u8 s.2.2)))]⟩) (body := (fun s : (Int × (Vec Int 64) × (Vec Int 64)) => spec_l01Divide_l1 r2 r7 a0 a2 s.1 s.2.1 s.2.2)) (G := fun q => some q = some y747) h rfl ?_ (by kernel_rfl)
    rintro X1264 ⟨x995, x996, x997⟩ x1265 h hX1266
    have h : spec_l01Divide_l1 r2 r7 a0 a2 x995 x996 x997 = some x1265 := h
    refine a_st (σ' := ⟨[(0, (i6 a0)), (4, (ow 4)), (5, (ow 5)), (6, (ow 6)), (7, (ow 7)), (8, (ow 8)), (9, (i6 r2)), (10, (i6 (IntKind.i64.wrap r7))), (11, (i6 x995))], [(4, (bk (eA64u8 x996))), (5, (bk (eA64u8 a2))), (6, (bk (eA64u8 ((vrep 64 (0 : Int)))))), (7, (bk (eA64u8 ((vrep 64 (0 : Int)))))), (8, (bk (eA64u8 x997)))]⟩) (by kernel_rfl) (a_seq (sr (vp (i6 x995) rfl (vp (i6 r2) rfl (vp (.bool ((decide (x995 ≥ r2)))) rfl (nx ⟨[(0, (i6 a0)), (4, (ow 4)), (5, (ow 5)), (6, (ow 6)), (7, (ow 7)), (8, (ow 8)), (9, (i6 r2)), (10, (i6 (IntKind.i64.wrap r7))), (11, (i6 x995)), (27, (.bool ((decide (x995 ≥ r2)))))], [(4, (bk (eA64u8 x996))), (5, (bk (eA64u8 a2))), (6, (bk (eA64u8 ((vrep 64 (0 : Int)))))), (7, (bk (eA64u8 ((vrep 64 (0 : Int)))))), (8, (bk (eA64u8 x997)))]⟩ (by kernel_rfl) ?_))))))
    cases hb1267 : (decide (x995 ≥ r2))
    · have h := ite_f hb1267 h
      refine a_cond_f rfl (a_exit (t_exit ?_))
      cases h
      have h := hX1266
      refine t_exit (b_exit ?_)
      exact j_leaf (x996, x997) (Option.some.inj h) (by kernel_rfl)
    · have h := ite_t hb1267 h
      refine a_cond_t rfl (a_skip (a_next (σ' := ⟨[(0, (i6 a0)), (4, (ow 4)), (5, (ow 5)), (6, (ow 6)), (7, (ow 7)), (8, (ow 8)), (9, (i6 r2)), (10, (i6 (IntKind.i64.wrap r7))), (11, (i6 x995))], [(4, (bk (eA64u8 x996))), (5, (bk (eA64u8 a2))), (6, (bk (eA64u8 ((vrep 64 (0 : Int)))))), (7, (bk (eA64u8 ((vrep 64 (0 : Int)))))), (8, (bk (eA64u8 x997)))]⟩) (by kernel_rfl) ?_))
      obtain ⟨y1400, hy1401, hk1402⟩ := bind_some h
      clear h
      refine a_join (emb := fun (s : ((Vec Int 64) × (Vec Int 64))) => ⟨[(0, (i6 a0)), (4, (ow 4)), (5, (ow 5)), (6, (ow 6)), (7, (ow 7)), (8, (ow 8)), (9, (i6 r2)), (10, (i6 (IntKind.i64.wrap r7))), (11, (i6 x995))], [(4, (bk (eA64u8 s.1))), (5, (bk (eA64u8 a2))), (6, (bk (eA64u8 ((vrep 64 (0 : Int)))))), (7, (bk (eA64u8 ((vrep 64 (0 : Int)))))), (8, (bk (eA64u8 s.2)))]⟩) (pre := fun s => s = y1400) ?_ ?_
      · rintro ⟨x1398, x1399⟩ rfl
        have h := hk1402
        refine a_st (σ' := ⟨[(0, (i6 a0)), (4, (ow 4)), (5, (ow 5)), (6, (ow 6)), (7, (ow 7)), (8, (ow 8)), (9, (i6 r2)), (10, (i6 (IntKind.i64.wrap r7))), (11, (i6 x995))], [(4, (bk (eA64u8 x1398))), (5, (bk (eA64u8 a2))), (6, (bk (eA64u8 ((vrep 64 (0 : Int)))))), (7, (bk (eA64u8 ((vrep 64 (0 : Int)))))), (8, (bk (eA64u8 x1399)))]⟩) (by kernel_rfl) (a_region (vp (i6 x995) rfl (vp (i6 (IntKind.i64.wrap (x995 - 1))) rfl (vp (i6 (IntKind.i64.wrap (x995 - 1))) rfl (a_nil ?_)))))
        cases h
        exact a_again (by kernel_rfl) hX1266
      · have h := hy1401
        refine a_block (sr (vp (i6 x995) rfl ?_))
        obtain ⟨hc1403, h⟩ := ifp_some h
        refine vq (.own 4 [x995.toNat] [x995.toNat * 1]) rfl hc1403 ?_
        have hl1404 : LdOk [x995.toNat] (eA64u8 x996) [x995.toNat * 1] 1 false (b8 (rd x996.1 x995.toNat)) := (.arr (vlt x996 hc1403) rfl (.nil rfl rfl rfl))
        refine vq (b8 (rd x996.1 x995.toNat)) (ld_own (i := ⟨.int .u8, 1, 1, (.int .u8 0)⟩) rfl rfl rfl hl1404) hl1404.c (vp (i6 (IntKind.i64.wrap (rd x996.1 x995.toNat))) rfl (vp (i6 (IntKind.i64.wrap r7)) rfl ?_))
        obtain ⟨x1405, hx1406, h⟩ := letp_some h
        refine a_val' (v := (i6 (IntKind.i64.wrap ((IntKind.i64.wrap (rd x996.1 x995.toNat)) * (IntKind.i64.wrap r7))))) (v' := (i6 x1405)) (u := []) (u' := []) rfl (congrArg (fun z => ((i6 z) : AV)) hx1406) rfl trivial rfl (vp (i6 a0) rfl ?_)
        obtain ⟨hc1407, h⟩ := ifp_some h
        refine vq (i6 (Int.tmod x1405 a0)) rfl hc1407 (vp (i6 (Int.tmod x1405 a0)) rfl (nx ⟨[(0, (i6 a0)), (4, (ow 4)), (5, (ow 5)), (6, (ow 6)), (7, (ow 7)), (8, (ow 8)), (9, (i6 r2)), (10, (i6 (IntKind.i64.wrap r7))), (11, (i6 x995)), (12, (i6 (Int.tmod x1405 a0)))], [(4, (bk (eA64u8 x996))), (5, (bk (eA64u8 a2))), (6, (bk (eA64u8 ((vrep 64 (0 : Int)))))), (7, (bk (eA64u8 ((vrep 64 (0 : Int)))))), (8, (bk (eA64u8 x997)))]⟩ (by kernel_rfl) (sr (vp (i6 x995) rfl (vp (i6 r2) rfl (vp (i6 (IntKind.i64.wrap (x995 - r2))) rfl (vp (i6 (Int.tmod x1405 a0)) rfl (vp (b8 (IntKind.u8.wrap (Int.tmod x1405 a0))) rfl ?_))))))))
        obtain ⟨hc1408, h⟩ := ifp_some h
        refine vq (.own 8 [(IntKind.i64.wrap (x995 - r2)).toNat] [(IntKind.i64.wrap (x995 - r2)).toNat * 1]) rfl hc1408 ?_
        have hs1409 : StOk [(IntKind.i64.wrap (x995 - r2)).toNat] (eA64u8 x997) [(IntKind.i64.wrap (x995 - r2)).toNat * 1] 1 (b8 (IntKind.u8.wrap (Int.tmod x1405 a0))) (eA64u8 ((vset x997 (IntKind.i64.wrap (x995 - r2)).toNat (IntKind.u8.wrap (Int.tmod x1405 a0))))) := (.arr (y := IntKind.u8.wrap (Int.tmod x1405 a0)) (vlt x997 hc1408) rfl (.nil rfl rfl rfl rfl))
        refine vu .top [(8, (bk (eA64u8 ((vset x997 (IntKind.i64.wrap (x995 - r2)).toNat (IntKind.u8.wrap (Int.tmod x1405 a0)))))))] (st_own (i := ⟨.int .u8, 1, 1, (.int .u8 0)⟩) rfl rfl (fun _ => rfl) rfl hs1409) (hs1409.c rfl) rfl (nx ⟨[(0, (i6 a0)), (4, (ow 4)), (5, (ow 5)), (6, (ow 6)), (7, (ow 7)), (8, (ow 8)), (9, (i6 r2)), (10, (i6 (IntKind.i64.wrap r7))), (11, (i6 x995)), (12, (i6 (Int.tmod x1405 a0)))], [(4, (bk (eA64u8 x996))), (5, (bk (eA64u8 a2))), (6, (bk (eA64u8 ((vrep 64 (0 : Int)))))), (7, (bk (eA64u8 ((vrep 64 (0 : Int)))))), (8, (bk (eA64u8 ((vset x997 (IntKind.i64.wrap (x995 - r2)).toNat (IntKind.u8.wrap (Int.tmod x1405 a0)))))))]⟩ (by kernel_rfl) (sr (vp (i6 0) rfl (nx ⟨[(0, (i6 a0)), (4, (ow 4)), (5, (ow 5)), (6, (ow 6)), (7, (ow 7)), (8, (ow 8)), (9, (i6 r2)), (10, (i6 (IntKind.i64.wrap r7))), (11, (i6 x995)), (12, (i6 (Int.tmod x1405 a0))), (13, (i6 0))], [(4, (bk (eA64u8 x996))), (5, (bk (eA64u8 a2))), (6, (bk (eA64u8 ((vrep 64 (0 : Int)))))), (7, (bk (eA64u8 ((vrep 64 (0 : Int)))))), (8, (bk (eA64u8 ((vset x997 (IntKind.i64.wrap (x995 - r2)).toNat (IntKind.u8.wrap (Int.tmod x1405 a0)))))))]⟩ (by kernel_rfl) (a_block ?_)))))
        refine a_loop (emb := fun (s : (Int × (Vec Int 64))) => ⟨[(0, (i6 a0)), (4, (ow 4)), (5, (ow 5)), (6, (ow 6)), (7, (ow 7)), (8, (ow 8)), (9, (i6 r2)), (10, (i6 (IntKind.i64.wrap r7))), (11, (i6 x995)), (12, (i6 (Int.tmod x1405 a0))), (13, (i6 s.1))], [(4, (bk (eA64u8 s.2))), (5, (bk (eA64u8 a2))), (6, (bk (eA64u8 ((vrep 64 (0 : Int)))))), (7, (bk (eA64u8 ((vrep 64 (0 : Int)))))), (8, (bk (eA64u8 ((vset x997 (IntKind.i64.wrap (x995 - r2)).toNat (IntKind.u8.wrap (Int.tmod x1405 a0)))))))]⟩) (body := (fun s : (Int × (Vec Int 64)) => spec_l01Divide_l2 r2 x1405 a0 x995 a2 x997 s.1 s.2)) (G := fun q => some q = some y1400) h rfl ?_ (by kernel_rfl)
        rintro X1490 ⟨x1449, x1450⟩ x1491 h hX1492
        have h : spec_l01Divide_l2 r2 x1405 a0 x995 a2 x997 x1449 x1450 = some x1491 := h
        refine a_st (σ' := ⟨[(0, (i6 a0)), (4, (ow 4)), (5, (ow 5)), (6, (ow 6)), (7, (ow 7)), (8, (ow 8)), (9, (i6 r2)), (10, (i6 (IntKind.i64.wrap r7))), (11, (i6 x995)), (12, (i6 (Int.tmod x1405 a0))), (13, (i6 x1449))], [(4, (bk (eA64u8 x1450))), (5, (bk (eA64u8 a2))), (6, (bk (eA64u8 ((vrep 64 (0 : Int)))))), (7, (bk (eA64u8 ((vrep 64 (0 : Int)))))), (8, (bk (eA64u8 ((vset x997 (IntKind.i64.wrap (x995 - r2)).toNat (IntKind.u8.wrap (Int.tmod x1405 a0)))))))]⟩) (by kernel_rfl) (a_seq ?_)
        obtain ⟨y1495, hy1496, hk1497⟩ := bind_some h
        clear h
        refine a_join (emb := fun (s : Bool) => ⟨[(0, (i6 a0)), (4, (ow 4)), (5, (ow 5)), (6, (ow 6)), (7, (ow 7)), (8, (ow 8)), (9, (i6 r2)), (10, (i6 (IntKind.i64.wrap r7))), (11, (i6 x995)), (12, (i6 (Int.tmod x1405 a0))), (13, (i6 x1449)), (50, (.bool s))], [(4, (bk (eA64u8 x1450))), (5, (bk (eA64u8 a2))), (6, (bk (eA64u8 ((vrep 64 (0 : Int)))))), (7, (bk (eA64u8 ((vrep 64 (0 : Int)))))), (8, (bk (eA64u8 ((vset x997 (IntKind.i64.wrap (x995 - r2)).toNat (IntKind.u8.wrap (Int.tmod x1405 a0)))))))]⟩) (pre := fun s => s = y1495) ?_ ?_
        · rintro x1494 rfl
          have h := hk1497
          refine a_st (σ' := ⟨[(0, (i6 a0)), (4, (ow 4)), (5, (ow 5)), (6, (ow 6)), (7, (ow 7)), (8, (ow 8)), (9, (i6 r2)), (10, (i6 (IntKind.i64.wrap r7))), (11, (i6 x995)), (12, (i6 (Int.tmod x1405 a0))), (13, (i6 x1449)), (50, (.bool x1494))], [(4, (bk (eA64u8 x1450))), (5, (bk (eA64u8 a2))), (6, (bk (eA64u8 ((vrep 64 (0 : Int)))))), (7, (bk (eA64u8 ((vrep 64 (0 : Int)))))), (8, (bk (eA64u8 ((vset x997 (IntKind.i64.wrap (x995 - r2)).toNat (IntKind.u8.wrap (Int.tmod x1405 a0)))))))]⟩) (by kernel_rfl) ?_
          cases hb1499 : x1494
          · have h := ite_f hb1499 h
            refine a_cond_f rfl (a_exit (t_exit ?_))
            cases h
            have h := hX1492
            refine t_exit (b_exit (b_norm ?_))
            exact j_leaf ((x1450, (vset x997 (IntKind.i64.wrap (x995 - r2)).toNat (IntKind.u8.wrap (Int.tmod x1405 a0))))) (Option.some.inj h) (by kernel_rfl)
          · have h := ite_t hb1499 h
            refine a_cond_t rfl (a_skip (a_next (σ' := ⟨[(0, (i6 a0)), (4, (ow 4)), (5, (ow 5)), (6, (ow 6)), (7, (ow 7)), (8, (ow 8)), (9, (i6 r2)), (10, (i6 (IntKind.i64.wrap r7))), (11, (i6 x995)), (12, (i6 (Int.tmod x1405 a0))), (13, (i6 x1449))], [(4, (bk (eA64u8 x1450))), (5, (bk (eA64u8 a2))), (6, (bk (eA64u8 ((vrep 64 (0 : Int)))))), (7, (bk (eA64u8 ((vrep 64 (0 : Int)))))), (8, (bk (eA64u8 ((vset x997 (IntKind.i64.wrap (x995 - r2)).toNat (IntKind.u8.wrap (Int.tmod x1405 a0)))))))]⟩) (by kernel_rfl) (a_seq (a_block (a_draw [⟨[], [], [], []⟩, ⟨[], [], [], []⟩, ⟨[], [], [], [0, 1]⟩, ⟨[], [], [], []⟩, ⟨[], [], [], [0, 1, 2, 3]⟩, ⟨[], [], [], []⟩, ⟨[], [], [], []⟩, ⟨[], [], [], [5, 6]⟩, ⟨[], [], [], []⟩, ⟨[], [], [], [5, 6, 7, 8]⟩, ⟨[4], [], [4], [5, 6, 7, 8, 9]⟩, ⟨[4], [], [], [5, 6, 7, 8, 9, 10]⟩, ⟨[], [], [], [5, 6, 7, 8, 9, 10, 11]⟩, ⟨[], [], [], []⟩, ⟨[], [], [], []⟩, ⟨[5], [], [5], [14]⟩, ⟨[5], [], [], [14, 15]⟩, ⟨[], [], [], [14, 15, 16]⟩, ⟨[], [], [], [13, 14, 15, 16, 17]⟩, ⟨[], [], [], [5, 6, 7, 8, 9, 10, 11, 12, 13, 14, 15, 16, 17, 18]⟩, ⟨[], [], [], []⟩, ⟨[], [], [], [5, 6, 7, 8, 9, 10, 11, 12, 13, 14, 15, 16, 17, 18, 19, 20]⟩, ⟨[], [], [], []⟩, ⟨[], [], [], [5, 6, 7, 8, 9, 10, 11, 12, 13, 14, 15, 16, 17, 18, 19, 20, 21, 22]⟩, ⟨[], [], [], []⟩, ⟨[], [], [], [5, 6, 7, 8, 9, 10, 11, 12, 13, 14, 15, 16, 17, 18, 19, 20, 21, 22, 23, 24]⟩, ⟨[], [], [], [5, 6, 7, 8, 9, 10, 11, 12, 13, 14, 15, 16, 17, 18, 19, 20, 21, 22, 23, 24, 25]⟩, ⟨[4], [], [4], [0, 1, 2, 3, 4, 5, 6, 7, 8, 9, 10, 11, 12, 13, 14, 15, 16, 17, 18, 19, 20, 21, 22, 23, 24, 25, 26]⟩, ⟨[4], [4], [], [0, 1, 2, 3, 4, 5, 6, 7, 8, 9, 10, 11, 12, 13, 14, 15, 16, 17, 18, 19, 20, 21, 22, 23, 24, 25, 26, 27]⟩] (by kernel_rfl) (dp (i6 x995) rfl (by kernel_rfl) (dp (i6 r2) rfl (by kernel_rfl) (dp (i6 (IntKind.i64.wrap (x995 - r2))) rfl (by kernel_rfl) (dp (i6 x1449) rfl (by kernel_rfl) ?_)))))))))
            refine dp (i6 (IntKind.i64.wrap ((IntKind.i64.wrap (x995 - r2)) + x1449))) rfl (by kernel_rfl) (dp (i6 x995) rfl (by kernel_rfl) (dp (i6 r2) rfl (by kernel_rfl) (dp (i6 (IntKind.i64.wrap (x995 - r2))) rfl (by kernel_rfl) (dp (i6 x1449) rfl (by kernel_rfl) (dp (i6 (IntKind.i64.wrap ((IntKind.i64.wrap (x995 - r2)) + x1449))) rfl (by kernel_rfl) (d_cons ?_))))))
            obtain ⟨hc1516, h⟩ := ifp_some h
            refine vq (.own 4 [(IntKind.i64.wrap ((IntKind.i64.wrap (x995 - r2)) + x1449)).toNat] [(IntKind.i64.wrap ((IntKind.i64.wrap (x995 - r2)) + x1449)).toNat * 1]) rfl hc1516 (d_next (by kernel_rfl) (d_cons ?_))
            have hl1517 : LdOk [(IntKind.i64.wrap ((IntKind.i64.wrap (x995 - r2)) + x1449)).toNat] (eA64u8 x1450) [(IntKind.i64.wrap ((IntKind.i64.wrap (x995 - r2)) + x1449)).toNat * 1] 1 false (b8 ((rd x1450.1 (IntKind.i64.wrap ((IntKind.i64.wrap (x995 - r2)) + x1449)).toNat))) := (.arr (vlt x1450 hc1516) rfl (.nil rfl rfl rfl))
            obtain ⟨x1518, hx1519, h⟩ := letp_some h
            refine a_val' (v := (b8 ((rd x1450.1 (IntKind.i64.wrap ((IntKind.i64.wrap (x995 - r2)) + x1449)).toNat)))) (v' := (b8 x1518)) (u := []) (u' := []) (ld_own (i := ⟨.int .u8, 1, 1, (.int .u8 0)⟩) rfl rfl rfl hl1517) (congrArg (fun z => ((b8 z) : AV)) hx1519) rfl hl1517.c rfl (d_next (by kernel_rfl) (dp (i6 (IntKind.i64.wrap x1518)) rfl (by kernel_rfl) (dp (i6 (Int.tmod x1405 a0)) rfl (by kernel_rfl) (dp (i6 x1449) rfl (by kernel_rfl) (d_cons ?_)))))
            obtain ⟨hc1520, h⟩ := ifp_some h
            refine vq (.own 5 [x1449.toNat] [x1449.toNat * 1]) rfl hc1520 (d_next (by kernel_rfl) (d_cons ?_))
            have hl1521 : LdOk [x1449.toNat] (eA64u8 a2) [x1449.toNat * 1] 1 false (b8 (rd a2.1 x1449.toNat)) := (.arr (vlt a2 hc1520) rfl (.nil rfl rfl rfl))
            refine vq (b8 (rd a2.1 x1449.toNat)) (ld_own (i := ⟨.int .u8, 1, 1, (.int .u8 0)⟩) rfl rfl rfl hl1521) hl1521.c (d_next (by kernel_rfl) (dp (i6 (IntKind.i64.wrap (rd a2.1 x1449.toNat))) rfl (by kernel_rfl) (d_cons ?_)))
            obtain ⟨x1522, hx1523, h⟩ := letp_some h
            refine a_val' (v := (i6 (IntKind.i64.wrap ((Int.tmod x1405 a0) * (IntKind.i64.wrap (rd a2.1 x1449.toNat)))))) (v' := (i6 x1522)) (u := []) (u' := []) rfl (congrArg (fun z => ((i6 z) : AV)) hx1523) rfl trivial rfl (d_next (by kernel_rfl) (dp (i6 (IntKind.i64.wrap ((IntKind.i64.wrap x1518) - x1522))) rfl (by kernel_rfl) (dp (i6 a0) rfl (by kernel_rfl) (d_cons ?_))))
            obtain ⟨hc1524, h⟩ := ifp_some h
            obtain ⟨x1525, hx1526, h⟩ := letp_some h
            refine a_val' (v := (i6 (Int.tmod (IntKind.i64.wrap ((IntKind.i64.wrap x1518) - x1522)) a0))) (v' := (i6 x1525)) (u := []) (u' := []) rfl (congrArg (fun z => ((i6 z) : AV)) hx1526) rfl hc1524 rfl (d_next (by kernel_rfl) (dp (i6 a0) rfl (by kernel_rfl) (dp (i6 (IntKind.i64.wrap (x1525 + a0))) rfl (by kernel_rfl) (dp (i6 a0) rfl (by kernel_rfl) (d_cons ?_)))))
            obtain ⟨hc1527, h⟩ := ifp_some h
            refine vq (i6 (Int.tmod (IntKind.i64.wrap (x1525 + a0)) a0)) rfl hc1527 (d_next (by kernel_rfl) (d_cons ?_))
            obtain ⟨x1528, hx1529, h⟩ := letp_some h
            refine a_val' (v := (b8 (IntKind.u8.wrap (Int.tmod (IntKind.i64.wrap (x1525 + a0)) a0)))) (v' := (b8 x1528)) (u := []) (u' := []) rfl (congrArg (fun z => ((b8 z) : AV)) hx1529) rfl trivial rfl (d_next (by kernel_rfl) (d_cons ?_))
            obtain ⟨hc1530, h⟩ := ifp_some h
            refine vq (.own 4 [(IntKind.i64.wrap ((IntKind.i64.wrap (x995 - r2)) + x1449)).toNat] [(IntKind.i64.wrap ((IntKind.i64.wrap (x995 - r2)) + x1449)).toNat * 1]) rfl hc1530 (d_next (by kernel_rfl) (d_cons ?_))
            have hs1531 : StOk [(IntKind.i64.wrap ((IntKind.i64.wrap (x995 - r2)) + x1449)).toNat] (eA64u8 x1450) [(IntKind.i64.wrap ((IntKind.i64.wrap (x995 - r2)) + x1449)).toNat * 1] 1 (b8 x1528) (eA64u8 ((vset x1450 (IntKind.i64.wrap ((IntKind.i64.wrap (x995 - r2)) + x1449)).toNat x1528))) := (.arr (y := x1528) (vlt x1450 hc1530) rfl (.nil rfl rfl rfl rfl))
            refine vu .top [(4, (bk (eA64u8 ((vset x1450 (IntKind.i64.wrap ((IntKind.i64.wrap (x995 - r2)) + x1449)).toNat x1528)))))] (st_own (i := ⟨.int .u8, 1, 1, (.int .u8 0)⟩) rfl rfl (fun _ => rfl) rfl hs1531) (hs1531.c rfl) rfl (d_next (by kernel_rfl) (d_nil (b_norm (a_next (σ' := ⟨[(0, (i6 a0)), (4, (ow 4)), (5, (ow 5)), (6, (ow 6)), (7, (ow 7)), (8, (ow 8)), (9, (i6 r2)), (10, (i6 (IntKind.i64.wrap r7))), (11, (i6 x995)), (12, (i6 (Int.tmod x1405 a0))), (13, (i6 x1449))], [(4, (bk (eA64u8 ((vset x1450 (IntKind.i64.wrap ((IntKind.i64.wrap (x995 - r2)) + x1449)).toNat x1528))))), (5, (bk (eA64u8 a2))), (6, (bk (eA64u8 ((vrep 64 (0 : Int)))))), (7, (bk (eA64u8 ((vrep 64 (0 : Int)))))), (8, (bk (eA64u8 ((vset x997 (IntKind.i64.wrap (x995 - r2)).toNat (IntKind.u8.wrap (Int.tmod x1405 a0)))))))]⟩) (by kernel_rfl) (a_region (vp (i6 x1449) rfl (vp (i6 (IntKind.i64.wrap (x1449 + 1))) rfl (vp (i6 (IntKind.i64.wrap (x1449 + 1))) rfl (a_nil ?_)))))))))
            cases h
            exact a_again (by kernel_rfl) hX1492
        · have h := hy1496
          refine a_region (vp (i6 x1449) rfl (vp (i6 r2) rfl (vp (.bool ((decide (x1449 ≤ r2)))) rfl (vp (.bool ((decide (x1449 ≤ r2)))) rfl ?_))))
          cases hb1498 : (decide (x1449 ≤ r2))
          · have h := ite_f hb1498 h
            refine a_gskip rfl (a_gskip rfl (vp (.bool false) rfl (a_nil ?_)))
            exact j_leaf false (Option.some.inj h) (by kernel_rfl)
          · have h := ite_t hb1498 h
            refine gp (i6 (Int.tmod x1405 a0)) rfl rfl (gp (.bool (((Int.tmod x1405 a0) != 0))) rfl rfl (vp (.bool (((Int.tmod x1405 a0) != 0))) rfl (a_nil ?_)))
            exact j_leaf (((Int.tmod x1405 a0) != 0)) (Option.some.inj h) (by kernel_rfl)
def spec_DividePolys_c : ACode := (.seq (.region 0 [q 4 (.box 25 (t 1)), q 5 (.box 25 (t 2)), q 6 (.alloc 25), q 7 (.alloc 25), q 8 (.asg 0 (.const (.int .i64 0)) 2)] false) (.seq (.region 1 [q 12 (.mov (t 0)), q 13 (.load 25 (t 4)), q 14 (.load 25 (t 5)), q 15 (.bslice 0 55 2 [(0, (t 13)), (1, (t 14))]), q 16 (.call 0 (.func 104) [(t 12), (t 15)]), q 9 (.asg 0 (t 16) 2)] false) (.seq (.seq (.region 2 [q 17 (.mov (t 9)), q 18 (.bin .eql 2 (t 17) (.const (.int .i64 0))), q 19 (.mov (t 18)), ⟨some 20, .load 25 (t 5), some (19, true), []⟩, ⟨some 21, .call 0 (.func 112) [(t 20)], some (19, true), []⟩, ⟨some 22, .bin .lss 2 (t 21) (.const (.int .i64 0)), some (19, true), []⟩, q 23 (.pick (t 19) (t 22) (.const (.bool false)))] false) (.cond (t 23) (.region 3 [q 9 (.asg 0 (.const (.int .i64 5)) 2)] false) .skip)) (.seq (.seq (.region 4 [q 24 (.mov (t 9)), q 25 (.bin .neq 2 (t 24) (.const (.int .i64 0)))] false) (.cond (t 25) (.seq (.region 5 [q 26 (.build 25 []), q 27 (.build 25 []), q 28 (.mov (t 9)), ⟨none, .store 25 (t 6) (t 26), none, []⟩, ⟨none, .store 25 (t 7) (t 27), none, []⟩, q 8 (.asg 0 (t 28) 2)] false) .ret) .skip)) (.seq (.region 6 [q 30 (.mov (t 0)), q 31 (.load 25 (t 4)), q 32 (.load 25 (t 5)), q 33 (.call 0 (.func 113) [(t 30), (t 31), (t 32)]), q 29 (.mov (t 33)), q 34 (.extract (t 29) 0), q 35 (.extract (t 29) 1), q 10 (.alloc 25), q 11 (.alloc 25), ⟨none, .store 25 (t 10) (t 34), none, []⟩, ⟨none, .store 25 (t 11) (t 35), none, []⟩] false) (.seq (.region 7 [q 36 (.load 25 (t 10)), q 37 (.load 25 (t 11)), ⟨none, .store 25 (t 6) (t 36), none, [0, 0]⟩, ⟨none, .store 25 (t 7) (t 37), none, [1, 2, 0, 1, 2]⟩, ⟨some 8, .asg 0 (.const (.int .i64 0)) 2, none, [3, 0, 1, 2, 3]⟩] true) .ret))))))
def spec_DividePolys_L : Live := [(0, [0, 1, 2]), (1, [0, 4, 5, 6, 7]), (2, [0, 4, 5, 6, 7, 9]), (3, [0, 4, 5, 6, 7]), (4, [0, 4, 5, 6, 7, 9]), (5, [6, 7, 9]), (6, [0, 4, 5, 6, 7]), (7, [6, 7, 10, 11]), (100023, [0, 4, 5, 6, 7, 9, 23]), (100025, [0, 4, 5, 6, 7, 9, 25])]
noncomputable def spec_DividePolys (a0 : Int) (a1 : (Vec Int 64)) (a2 : (Vec Int 64)) : Option ((Vec Int 64) × (Vec Int 64) × Int) :=
  (Option.bind (spec_l01Code a0 ([a1, a2])) fun r3 => (Option.bind (α := Int) ((Option.bind (α := Bool) ((if (r3 == 0) then (Option.bind (spec_l01Deg a2) fun r32 => (some ((decide (r32 < 0))))) else (some false))) fun x26 => (if x26 then (some 5) else (some r3)))) fun x18 => (if (x18 != 0) then (some (((vrep 64 (0 : Int)), (vrep 64 (0 : Int)), x18))) else (Option.bind (spec_l01Divide a0 a1 a2) fun r38 => (some (r38.1, r38.2, 0))))))
theorem spec_DividePolys_ok (a0 : Int) (a1 : (Vec Int 64)) (a2 : (Vec Int 64)) (r : ((Vec Int 64) × (Vec Int 64) × Int)) (h : spec_DividePolys a0 a1 a2 = some r) : Den Try.prog 20 [(i6 a0), (eA64u8 a1), (eA64u8 a2)] { r := (.tuple [(eA64u8 r.1), (eA64u8 r.2.1), (i6 r.2.2)]) } := by
  refine den_of (rs := [(eA64u8 r.1), (eA64u8 r.2.1), (i6 r.2.2)]) (ac := spec_DividePolys_c) (L := spec_DividePolys_L) (n := 38) (m := []) (c := Try.f20.body.getD .skip) good Try.func20 (by kernel_rfl) (by kernel_rfl) Try.ntmps20 rfl rfl (by kernel_rfl) rfl rfl ?_
  refine a_st (σ' := ⟨[(0, (i6 a0)), (1, (eA64u8 a1)), (2, (eA64u8 a2))], []⟩) (by kernel_rfl) ?_
  unfold spec_DividePolys_c
  refine sr (vo 1400 (eA64u8 a1) rfl rfl (vo 1500 (eA64u8 a2) rfl rfl (vo 1600 (eA64u8 ((vrep 64 (0 : Int)))) rfl rfl (vo 1700 (eA64u8 ((vrep 64 (0 : Int)))) rfl rfl (vp (i6 0) rfl (nx ⟨[(0, (i6 a0)), (4, (ow 4)), (5, (ow 5)), (6, (ow 6)), (7, (ow 7))], [(4, (bk (eA64u8 a1))), (5, (bk (eA64u8 a2))), (6, (bk (eA64u8 ((vrep 64 (0 : Int)))))), (7, (bk (eA64u8 ((vrep 64 (0 : Int))))))]⟩ (by kernel_rfl) (sr (vp (i6 a0) rfl (vl (eA64u8 a1) rfl rfl rfl rfl rfl rfl ?_)))))))))
  refine vl (eA64u8 a2) rfl rfl rfl rfl rfl rfl (vq (.sl 64 true (([a1, a2]).map eA64u8)) rfl ⟨(Nat.le_of_ble_eq_true rfl), (Nat.le_of_ble_eq_true rfl), (all_cons ⟨(Nat.le_of_ble_eq_true rfl), rfl⟩ (all_cons ⟨(Nat.le_of_ble_eq_true rfl), rfl⟩ all_nil))⟩ ?_)
  obtain ⟨r3, hr4, h⟩ := bind_some h
  refine a_call (args := [(i6 a0), (.sl 64 true (([a1, a2]).map eA64u8))]) (u := []) (r := (i6 r3)) rfl rfl (Den.args (spec_l01Code_ok a0 ([a1, a2]) r3 hr4) rfl rfl (.cons (.refl _) (.cons (.loose _) .nil))) rfl (vp (i6 r3) rfl (nx ⟨[(0, (i6 a0)), (4, (ow 4)), (5, (ow 5)), (6, (ow 6)), (7, (ow 7)), (9, (i6 r3))], [(4, (bk (eA64u8 a1))), (5, (bk (eA64u8 a2))), (6, (bk (eA64u8 ((vrep 64 (0 : Int)))))), (7, (bk (eA64u8 ((vrep 64 (0 : Int))))))]⟩ (by kernel_rfl) ?_))
  obtain ⟨y19, hy20, hk21⟩ := bind_some h
  clear h
  refine a_join (emb := fun (s : Int) => ⟨[(0, (i6 a0)), (4, (ow 4)), (5, (ow 5)), (6, (ow 6)), (7, (ow 7)), (9, (i6 s))], [(4, (bk (eA64u8 a1))), (5, (bk (eA64u8 a2))), (6, (bk (eA64u8 ((vrep 64 (0 : Int)))))), (7, (bk (eA64u8 ((vrep 64 (0 : Int))))))]⟩) (pre := fun s => s = y19) ?_ ?_
  · rintro x18 rfl
    have h := hk21
    refine a_st (σ' := ⟨[(0, (i6 a0)), (4, (ow 4)), (5, (ow 5)), (6, (ow 6)), (7, (ow 7)), (9, (i6 x18))], [(4, (bk (eA64u8 a1))), (5, (bk (eA64u8 a2))), (6, (bk (eA64u8 ((vrep 64 (0 : Int)))))), (7, (bk (eA64u8 ((vrep 64 (0 : Int))))))]⟩) (by kernel_rfl) (a_seq (sr (vp (i6 x18) rfl (vp (.bool (x18 != 0)) rfl (nx ⟨[(0, (i6 a0)), (4, (ow 4)), (5, (ow 5)), (6, (ow 6)), (7, (ow 7)), (9, (i6 x18)), (25, (.bool (x18 != 0)))], [(4, (bk (eA64u8 a1))), (5, (bk (eA64u8 a2))), (6, (bk (eA64u8 ((vrep 64 (0 : Int)))))), (7, (bk (eA64u8 ((vrep 64 (0 : Int))))))]⟩ (by kernel_rfl) ?_)))))
    cases hb35 : (x18 != 0)
    · have h := ite_f hb35 h
      refine a_cond_f rfl (a_skip (a_next (σ' := ⟨[(0, (i6 a0)), (4, (ow 4)), (5, (ow 5)), (6, (ow 6)), (7, (ow 7))], [(4, (bk (eA64u8 a1))), (5, (bk (eA64u8 a2))), (6, (bk (eA64u8 ((vrep 64 (0 : Int)))))), (7, (bk (eA64u8 ((vrep 64 (0 : Int))))))]⟩) (by kernel_rfl) (sr (vp (i6 a0) rfl (vl (eA64u8 a1) rfl rfl rfl rfl rfl rfl (vl (eA64u8 a2) rfl rfl rfl rfl rfl rfl ?_))))))
      obtain ⟨r38, hr39, h⟩ := bind_some h
      refine a_call (args := [(i6 a0), (eA64u8 a1), (eA64u8 a2)]) (u := []) (r := (.tuple [(eA64u8 r38.1), (eA64u8 r38.2)])) rfl rfl (spec_l01Divide_ok a0 a1 a2 r38 hr39) rfl (vp (.tuple [(eA64u8 r38.1), (eA64u8 r38.2)]) rfl (vb (eA64u8 r38.1) rfl rfl (vb (eA64u8 r38.2) rfl rfl (vo 2000 (eA64u8 ((vrep 64 (0 : Int)))) rfl rfl (vo 2100 (eA64u8 ((vrep 64 (0 : Int)))) rfl rfl (vs (eA64u8 r38.1) rfl rfl (fun _ => rfl) rfl rfl rfl rfl rfl rfl (vs (eA64u8 r38.2) rfl rfl (fun _ => rfl) rfl rfl rfl rfl rfl rfl (nx ⟨[(6, (ow 6)), (7, (ow 7)), (10, (ow 10)), (11, (ow 11))], [(6, (bk (eA64u8 ((vrep 64 (0 : Int)))))), (7, (bk (eA64u8 ((vrep 64 (0 : Int)))))), (10, (bk (eA64u8 r38.1))), (11, (bk (eA64u8 r38.2)))]⟩ (by kernel_rfl) (a_seq ?_)))))))))
      refine a_draw [⟨[10], [], [], []⟩, ⟨[11], [], [], []⟩, ⟨[6], [6], [], [0]⟩, ⟨[7], [7], [], [0, 1, 2]⟩, ⟨[], [], [], [0, 1, 2, 3]⟩] (by kernel_rfl) (d_cons (vl (eA64u8 r38.1) rfl rfl rfl rfl rfl rfl (d_next (by kernel_rfl) (d_cons (vl (eA64u8 r38.2) rfl rfl rfl rfl rfl rfl (d_next (by kernel_rfl) (d_cons (vs (eA64u8 r38.1) rfl rfl (fun _ => rfl) rfl rfl rfl rfl rfl rfl (d_next (by kernel_rfl) ?_)))))))))
      refine d_cons (vs (eA64u8 r38.2) rfl rfl (fun _ => rfl) rfl rfl rfl rfl rfl rfl (d_next (by kernel_rfl) (dp (i6 0) rfl (by kernel_rfl) (d_nil (a_next rfl (a_ret ?_))))))
      have hl50 : LdOk [] (eA64u8 r38.1) [] 64 true (eA64u8 r38.1) := (.nil rfl rfl rfl)
      have hl51 : LdOk [] (eA64u8 r38.2) [] 64 true (eA64u8 r38.2) := (.nil rfl rfl rfl)
      refine ⟨.inr rfl, ?_⟩
      rw [Try.results20]
      cases h
      exact ⟨_, _, _, _, _, ld_own (i := ⟨.arr 64 5, 64, 64, (eA64u8 (vrep 64 (0 : Int)))⟩) rfl rfl rfl hl50, hl50.c, .inl ⟨rfl, .inl rfl⟩, rfl, ⟨_, _, _, _, _, ld_own (i := ⟨.arr 64 5, 64, 64, (eA64u8 (vrep 64 (0 : Int)))⟩) rfl rfl rfl hl51, hl51.c, .inl ⟨rfl, .inl rfl⟩, rfl, ⟨_, _, _, _, _, rfl, trivial, .inl ⟨rfl, .inl rfl⟩, rfl, rfl⟩⟩⟩
    · have h := ite_t hb35 h
      refine a_cond_t rfl (sr (vq (eA64u8 ((vrep 64 (0 : Int)))) rfl ⟨⟨_, rfl, rfl⟩, all_nil⟩ (vq (eA64u8 ((vrep 64 (0 : Int)))) rfl ⟨⟨_, rfl, rfl⟩, all_nil⟩ (vp (i6 x18) rfl (vs (eA64u8 ((vrep 64 (0 : Int)))) rfl rfl (fun _ => rfl) rfl rfl rfl rfl rfl rfl (vs (eA64u8 ((vrep 64 (0 : Int)))) rfl rfl (fun _ => rfl) rfl rfl rfl rfl rfl rfl (vp (i6 x18) rfl (nx _ rfl (a_ret ?_)))))))))
      refine t_ret ?_
      have hl54 : LdOk [] (eA64u8 ((vrep 64 (0 : Int)))) [] 64 true (eA64u8 ((vrep 64 (0 : Int)))) := (.nil rfl rfl rfl)
      have hl55 : LdOk [] (eA64u8 ((vrep 64 (0 : Int)))) [] 64 true (eA64u8 ((vrep 64 (0 : Int)))) := (.nil rfl rfl rfl)
      refine ⟨.inr rfl, ?_⟩
      rw [Try.results20]
      cases h
      exact ⟨_, _, _, _, _, ld_own (i := ⟨.arr 64 5, 64, 64, (eA64u8 (vrep 64 (0 : Int)))⟩) rfl rfl rfl hl54, hl54.c, .inl ⟨rfl, .inl rfl⟩, rfl, ⟨_, _, _, _, _, ld_own (i := ⟨.arr 64 5, 64, 64, (eA64u8 (vrep 64 (0 : Int)))⟩) rfl rfl rfl hl55, hl55.c, .inl ⟨rfl, .inl rfl⟩, rfl, ⟨_, _, _, _, _, rfl, trivial, .inl ⟨rfl, .inl rfl⟩, rfl, rfl⟩⟩⟩
  · have h := hy20
    obtain ⟨y27, hy28, hk29⟩ := bind_some h
    clear h
    refine a_join (emb := fun (s : Bool) => ⟨[(0, (i6 a0)), (4, (ow 4)), (5, (ow 5)), (6, (ow 6)), (7, (ow 7)), (9, (i6 r3)), (23, (.bool s))], [(4, (bk (eA64u8 a1))), (5, (bk (eA64u8 a2))), (6, (bk (eA64u8 ((vrep 64 (0 : Int)))))), (7, (bk (eA64u8 ((vrep 64 (0 : Int))))))]⟩) (pre := fun s => s = y27) ?_ ?_
    · rintro x26 rfl
      have h := hk29
      refine a_st (σ' := ⟨[(0, (i6 a0)), (4, (ow 4)), (5, (ow 5)), (6, (ow 6)), (7, (ow 7)), (9, (i6 r3)), (23, (.bool x26))], [(4, (bk (eA64u8 a1))), (5, (bk (eA64u8 a2))), (6, (bk (eA64u8 ((vrep 64 (0 : Int)))))), (7, (bk (eA64u8 ((vrep 64 (0 : Int))))))]⟩) (by kernel_rfl) ?_
      cases hb34 : x26
      · have h := ite_f hb34 h
        refine a_cond_f rfl (a_skip ?_)
        exact j_leaf r3 (Option.some.inj h) (by kernel_rfl)
      · have h := ite_t hb34 h
        refine a_cond_t rfl (a_region (vp (i6 5) rfl (a_nil ?_)))
        exact j_leaf 5 (Option.some.inj h) (by kernel_rfl)
    · have h := hy28
      refine a_region (vp (i6 r3) rfl (vp (.bool (r3 == 0)) rfl (vp (.bool (r3 == 0)) rfl ?_)))
      cases hb30 : (r3 == 0)
      · have h := ite_f hb30 h
        refine a_gskip rfl (a_gskip rfl (a_gskip rfl (vp (.bool false) rfl (a_nil ?_))))
        exact j_leaf false (Option.some.inj h) (by kernel_rfl)
      · have h := ite_t hb30 h
        have hl31 : LdOk [] (eA64u8 a2) [] 64 true (eA64u8 a2) := (.nil rfl rfl rfl)
        refine gq (eA64u8 a2) rfl (ld_own (i := ⟨.arr 64 5, 64, 64, (eA64u8 (vrep 64 (0 : Int)))⟩) rfl rfl rfl hl31) hl31.c ?_
        obtain ⟨r32, hr33, h⟩ := bind_some h
        refine a_gcall rfl (args := [(eA64u8 a2)]) (u := []) (r := (i6 r32)) rfl rfl (spec_l01Deg_ok a2 r32 hr33) rfl (gp (.bool ((decide (r32 < 0)))) rfl rfl (vp (.bool ((decide (r32 < 0)))) rfl (a_nil ?_)))
        exact j_leaf ((decide (r32 < 0))) (Option.some.inj h) (by kernel_rfl)
def impl_DegreeOf_c : ACode := (.seq (.region 0 [q 3 (.box 25 (t 1)), q 4 (.asg 0 (.const (.int .i64 0)) 2), q 5 (.asg 0 (.const (.int .i64 0)) 2)] false) (.seq (.seq (.region 1 [q 7 (.mov (t 0)), q 8 (.load 25 (t 3)), q 9 (.bslice 0 55 1 [(0, (t 8))]), q 10 (.call 0 (.func 100) [(t 7), (t 9)]), q 6 (.asg 0 (t 10) 2)] false) (.seq (.region 2 [q 11 (.mov (t 6)), q 12 (.bin .neq 2 (t 11) (.const (.int .i64 0)))] false) (.cond (t 12) (.seq (.region 3 [q 13 (.mov (t 6)), q 4 (.asg 0 (.const (.int .i64 0)) 2), q 5 (.asg 0 (t 13) 2)] false) .ret) .skip))) (.seq (.region 4 [q 14 (.load 25 (t 3)), q 15 (.call 0 (.func 103) [(t 14)]), q 16 (.call 0 (.func 114) [(t 15)]), q 4 (.asg 0 (t 16) 2), q 5 (.asg 0 (.const (.int .i64 0)) 2)] false) .ret)))
def impl_DegreeOf_L : Live := [(0, [0, 1]), (1, [0, 3]), (2, [3, 6]), (3, [6]), (4, [3]), (100012, [3, 6, 12])]
noncomputable def impl_DegreeOf (a0 : Int) (a1 : (Vec Int 64)) : Option (Int × Int) :=
  (Option.bind (impl_polysCode a0 ([a1])) fun r2 => (if (r2 != 0) then (some (0, r2)) else (Option.bind (impl_rowOf a1) fun r6 => (Option.bind (impl_row_degree r6) fun r8 => (some (r8, 0))))))
theorem impl_DegreeOf_ok (a0 : Int) (a1 : (Vec Int 64)) (r : (Int × Int)) (h : impl_DegreeOf a0 a1 = some r) : Den Try.prog 21 [(i6 a0), (eA64u8 a1)] { r := (.tuple [(i6 r.1), (i6 r.2)]) } := by
  refine den_of (rs := [(i6 r.1), (i6 r.2)]) (ac := impl_DegreeOf_c) (L := impl_DegreeOf_L) (n := 17) (m := []) (c := Try.f21.body.getD .skip) good Try.func21 (by kernel_rfl) (by kernel_rfl) Try.ntmps21 rfl rfl (by kernel_rfl) rfl rfl ?_
  refine a_st (σ' := ⟨[(0, (i6 a0)), (1, (eA64u8 a1))], []⟩) (by kernel_rfl) ?_
  unfold impl_DegreeOf_c
  refine sr (vo 1300 (eA64u8 a1) rfl rfl (vp (i6 0) rfl (vp (i6 0) rfl (nx ⟨[(0, (i6 a0)), (3, (ow 3))], [(3, (bk (eA64u8 a1)))]⟩ (by kernel_rfl) (a_seq (sr (vp (i6 a0) rfl (vl (eA64u8 a1) rfl rfl rfl rfl rfl rfl (vq (.sl 64 true (([a1]).map eA64u8)) rfl ⟨(Nat.le_of_ble_eq_true rfl), (Nat.le_of_ble_eq_true rfl), (all_cons ⟨(Nat.le_of_ble_eq_true rfl), rfl⟩ all_nil)⟩ ?_)))))))))
  obtain ⟨r2, hr3, h⟩ := bind_some h
  refine a_call (args := [(i6 a0), (.sl 64 true (([a1]).map eA64u8))]) (u := []) (r := (i6 r2)) rfl rfl (Den.args (impl_polysCode_ok a0 ([a1]) r2 hr3) rfl rfl (.cons (.refl _) (.cons (.loose _) .nil))) rfl (vp (i6 r2) rfl (nx ⟨[(3, (ow 3)), (6, (i6 r2))], [(3, (bk (eA64u8 a1)))]⟩ (by kernel_rfl) (sr (vp (i6 r2) rfl (vp (.bool (r2 != 0)) rfl (nx ⟨[(3, (ow 3)), (6, (i6 r2)), (12, (.bool (r2 != 0)))], [(3, (bk (eA64u8 a1)))]⟩ (by kernel_rfl) ?_))))))
  cases hb4 : (r2 != 0)
  · have h := ite_f hb4 h
    refine a_cond_f rfl (a_skip (a_next (σ' := ⟨[(3, (ow 3))], [(3, (bk (eA64u8 a1)))]⟩) (by kernel_rfl) (sr (vl (eA64u8 a1) rfl rfl rfl rfl rfl rfl ?_))))
    obtain ⟨r6, hr7, h⟩ := bind_some h
    refine a_call (args := [(eA64u8 a1)]) (u := []) (r := (eSi64 r6)) rfl rfl (impl_rowOf_ok a1 r6 hr7) rfl ?_
    obtain ⟨r8, hr9, h⟩ := bind_some h
    refine a_call (args := [(eSi64 r6)]) (u := []) (r := (i6 r8)) rfl rfl (impl_row_degree_ok r6 r8 hr9) rfl (vp (i6 r8) rfl (vp (i6 0) rfl (nx _ rfl (a_ret ?_))))
    refine ⟨.inr rfl, ?_⟩
    rw [Try.results21]
    cases h
    exact ⟨_, _, _, _, _, rfl, trivial, .inl ⟨rfl, .inl rfl⟩, rfl, ⟨_, _, _, _, _, rfl, trivial, .inl ⟨rfl, .inl rfl⟩, rfl, rfl⟩⟩
  · have h := ite_t hb4 h
    refine a_cond_t rfl (sr (vp (i6 r2) rfl (vp (i6 0) rfl (vp (i6 r2) rfl (nx _ rfl (a_ret (t_ret ?_)))))))
    refine ⟨.inr rfl, ?_⟩
    rw [Try.results21]
    cases h
    exact ⟨_, _, _, _, _, rfl, trivial, .inl ⟨rfl, .inl rfl⟩, rfl, ⟨_, _, _, _, _, rfl, trivial, .inl ⟨rfl, .inl rfl⟩, rfl, rfl⟩⟩
def spec_DrawNumberOfPoly_c : ACode := (.seq (.region 0 [q 2 (.asg 0 (.const (.int .i64 0)) 2), q 3 (.alloc 25)] false) (.seq (.region 1 [q 7 (.mov (t 0)), q 8 (.call 0 (.func 116) [(t 7)]), q 9 (.call 1 (.func 115) [(t 8)]), q 6 (.mov (t 9)), q 10 (.extract (t 6) 0), q 11 (.extract (t 6) 1), q 5 (.alloc 25), q 4 (.asg 0 (t 10) 2), ⟨none, .store 25 (t 5) (t 11), none, []⟩] false) (.seq (.region 2 [q 12 (.mov (t 4)), q 13 (.load 25 (t 5)), ⟨some 2, .asg 0 (t 12) 2, none, [0, 0]⟩, ⟨none, .store 25 (t 3) (t 13), none, [1, 2, 0, 1, 2]⟩] true) .ret)))
def spec_DrawNumberOfPoly_L : Live := [(0, [0]), (1, [0, 3]), (2, [3, 4, 5])]
noncomputable def spec_DrawNumberOfPoly (a0 : (List Int)) : Option (Int × (Vec Int 64)) :=
  (Option.bind (spec_l01From a0) fun r1 => (Option.bind (spec_l01Spoil_of_src r1) fun r3 => (some (r3.1, r3.2.1))))
theorem spec_DrawNumberOfPoly_ok (a0 : (List Int)) (r : (Int × (Vec Int 64))) (h : spec_DrawNumberOfPoly a0 = some r) : Den Try.prog 22 [(eSu8 a0)] { r := (.tuple [(i6 r.1), (eA64u8 r.2)]) } := by
  refine den_of (rs := [(i6 r.1), (eA64u8 r.2)]) (ac := spec_DrawNumberOfPoly_c) (L := spec_DrawNumberOfPoly_L) (n := 14) (m := [(9, 1)]) (c := Try.f22.body.getD .skip) good Try.func22 (by kernel_rfl) (by kernel_rfl) Try.ntmps22 rfl rfl (by kernel_rfl) rfl rfl ?_
  refine a_st (σ' := ⟨[(0, (eSu8 a0))], []⟩) (by kernel_rfl) ?_
  unfold spec_DrawNumberOfPoly_c
  refine sr (vp (i6 0) rfl (vo 1300 (eA64u8 ((vrep 64 (0 : Int)))) rfl rfl (nx ⟨[(0, (eSu8 a0)), (3, (ow 3))], [(3, (bk (eA64u8 ((vrep 64 (0 : Int))))))]⟩ (by kernel_rfl) (sr (vp (eSu8 a0) rfl ?_)))))
  obtain ⟨r1, hr2, h⟩ := bind_some h
  refine a_callF (args := [(eSu8 a0)]) (u := []) (u2 := []) (r := (ow 2000000)) (fs := [(0, [eT_Su8_i64_u64_Z r1])]) rfl rfl (spec_l01From_ok a0 r1 hr2) rfl rfl rfl (.inl rfl) rfl ?_
  obtain ⟨r3, hr4, h⟩ := bind_some h
  refine a_callM (args := [(.mutp (eT_Su8_i64_u64_Z r1))]) (i := 0) (id := 1800) (r := (.tuple [(i6 r3.1), (eA64u8 r3.2.1)])) (c := (eT_Su8_i64_u64_Z r3.2.2)) rfl rfl (spec_l01Spoil_of_src_ok r1 r3 hr4) rfl trivial (vp (.tuple [(i6 r3.1), (eA64u8 r3.2.1)]) rfl (vb (i6 r3.1) rfl rfl (vb (eA64u8 r3.2.1) rfl rfl (vo 1500 (eA64u8 ((vrep 64 (0 : Int)))) rfl rfl (vp (i6 r3.1) rfl (vs (eA64u8 r3.2.1) rfl rfl (fun _ => rfl) rfl rfl rfl rfl rfl rfl (nx ⟨[(3, (ow 3)), (4, (i6 r3.1)), (5, (ow 5))], [(3, (bk (eA64u8 ((vrep 64 (0 : Int)))))), (5, (bk (eA64u8 r3.2.1)))]⟩ (by kernel_rfl) (a_seq (a_draw [⟨[], [], [], []⟩, ⟨[5], [], [], []⟩, ⟨[], [], [], [0]⟩, ⟨[3], [3], [], [0, 1, 2]⟩] (by kernel_rfl) ?_)))))))))
  refine dp (i6 r3.1) rfl (by kernel_rfl) (d_cons (vl (eA64u8 r3.2.1) rfl rfl rfl rfl rfl rfl (d_next (by kernel_rfl) (dp (i6 r3.1) rfl (by kernel_rfl) (d_cons (vs (eA64u8 r3.2.1) rfl rfl (fun _ => rfl) rfl rfl rfl rfl rfl rfl (d_next (by kernel_rfl) (d_nil (a_next rfl ?_)))))))))
  refine a_ret ?_
  have hl11 : LdOk [] (eA64u8 r3.2.1) [] 64 true (eA64u8 r3.2.1) := (.nil rfl rfl rfl)
  refine ⟨.inr rfl, ?_⟩
  rw [Try.results22]
  cases h
  exact ⟨_, _, _, _, _, rfl, trivial, .inl ⟨rfl, .inl rfl⟩, rfl, ⟨_, _, _, _, _, ld_own (i := ⟨.arr 64 5, 64, 64, (eA64u8 (vrep 64 (0 : Int)))⟩) rfl rfl rfl hl11, hl11.c, .inl ⟨rfl, .inl rfl⟩, rfl, rfl⟩⟩
def impl_NumberOfPoly_c : ACode := (.seq (.region 0 [q 3 (.box 25 (t 1)), q 4 (.asg 0 (.const (.int .i64 0)) 2), q 5 (.asg 0 (.const (.int .i64 0)) 2)] false) (.seq (.seq (.region 1 [q 10 (.mov (t 0)), q 11 (.load 25 (t 3)), q 12 (.bslice 0 55 1 [(0, (t 11))]), q 13 (.call 0 (.func 100) [(t 10), (t 12)]), q 6 (.asg 0 (t 13) 2)] false) (.seq (.region 2 [q 14 (.mov (t 6)), q 15 (.bin .neq 2 (t 14) (.const (.int .i64 0)))] false) (.cond (t 15) (.seq (.region 3 [q 16 (.mov (t 6)), q 4 (.asg 0 (.const (.int .i64 0)) 2), q 5 (.asg 0 (t 16) 2)] false) .ret) .skip))) (.seq (.region 4 [q 17 (.load 25 (t 3)), q 18 (.call 0 (.func 103) [(t 17)]), q 7 (.asg 1 (t 18) 80)] false) (.seq (.region 5 [q 8 (.asg 0 (.const (.int .i64 0)) 2)] false) (.seq (.seq (.region 6 [q 19 (.mov (t 7)), q 20 (.blt 0 .len [(t 19)] [80]), q 21 (.bin .sub 3 (t 20) (.const (.int .i64 1))), q 9 (.asg 0 (t 21) 3)] false) (.block 0 (.loop (.seq (.seq (.region 7 [q 22 (.mov (t 9)), q 23 (.bin .geq 3 (t 22) (.const (.int .i64 0)))] false) (.cond (t 23) .skip (.exit 0))) (.seq (.block 1 (.seq (.region 9 [q 26 (.mov (t 8)), q 27 (.mov (t 0)), q 28 (.bin .mul 2 (t 26) (t 27)), q 29 (.mov (t 7)), q 30 (.mov (t 9)), q 31 (.indexAddr 80 (t 29) (t 30)), q 32 (.load 2 (t 31)), q 33 (.bin .add 2 (t 28) (t 32)), q 8 (.asg 0 (t 33) 2)] false) (.seq (.region 10 [q 34 (.mov (t 8)), q 35 (.bin .gtr 2 (t 34) (.const (.int .i64 1000000000000)))] false) (.cond (t 35) (.seq (.region 11 [q 4 (.asg 0 (.const (.int .i64 0)) 2), q 5 (.asg 0 (.const (.int .i64 3)) 2)] false) .ret) .skip)))) (.region 8 [q 24 (.mov (t 9)), q 25 (.bin .sub 3 (t 24) (.const (.int .i64 1))), q 9 (.asg 0 (t 25) 3)] false)))))) (.seq (.region 12 [q 36 (.mov (t 8)), q 4 (.asg 0 (t 36) 2), q 5 (.asg 0 (.const (.int .i64 0)) 2)] false) .ret))))))
def impl_NumberOfPoly_L : Live := [(0, [0, 1]), (1, [0, 3]), (2, [0, 3, 6]), (3, [6]), (4, [0, 3]), (5, [0, 7]), (6, [0, 7, 8]), (7, [0, 7, 8, 9]), (8, [0, 7, 8, 9]), (9, [0, 7, 8, 9]), (10, [0, 7, 8, 9]), (11, []), (12, [8]), (100015, [0, 3, 6, 15]), (100023, [0, 7, 8, 9, 23]), (100035, [0, 7, 8, 9, 35])]
noncomputable def impl_NumberOfPoly_l1 (r6 : (List Int)) (a0 : Int) (x46 : Int) (x47 : Int) : Option ((Int × Int) ⊕ (Int ⊕ (Int × Int))) :=
  (if (decide (x47 ≥ 0)) then (ifp (0 ≤ x47 ∧ x47 < ((r6.length : Nat) : Int)) ((letp (IntKind.i64.wrap ((IntKind.i64.wrap (x46 * a0)) + (rd r6 x47.toNat))) fun x60 => (if (decide (x60 > 1000000000000)) then (some (.inr ((.inr (0, 3))))) else (some (.inl ((x60, IntKind.i64.wrap (x47 - 1))))))))) else (some (.inr (.inl x46))))
noncomputable def impl_NumberOfPoly (a0 : Int) (a1 : (Vec Int 64)) : Option (Int × Int) :=
  (Option.bind (impl_polysCode a0 ([a1])) fun r2 => (if (r2 != 0) then (some (0, r2)) else (Option.bind (impl_rowOf a1) fun r6 => (Option.bind (α := (Int ⊕ (Int × Int))) ((loopM (fun s : (Int × Int) => impl_NumberOfPoly_l1 r6 a0 s.1 s.2) (0, IntKind.i64.wrap ((r6.length : Int) - 1)))) fun z => match z with | .inl x34 => (some (x34, 0)) | .inr r64 => (some r64)))))
theorem impl_NumberOfPoly_ok (a0 : Int) (a1 : (Vec Int 64)) (r : (Int × Int)) (h : impl_NumberOfPoly a0 a1 = some r) : Den Try.prog 23 [(i6 a0), (eA64u8 a1)] { r := (.tuple [(i6 r.1), (i6 r.2)]) } := by
  refine den_of (rs := [(i6 r.1), (i6 r.2)]) (ac := impl_NumberOfPoly_c) (L := impl_NumberOfPoly_L) (n := 37) (m := [(7, 1)]) (c := Try.f23.body.getD .skip) good Try.func23 (by kernel_rfl) (by kernel_rfl) Try.ntmps23 rfl rfl (by kernel_rfl) rfl rfl ?_
  refine a_st (σ' := ⟨[(0, (i6 a0)), (1, (eA64u8 a1))], []⟩) (by kernel_rfl) ?_
  unfold impl_NumberOfPoly_c
  refine sr (vo 1300 (eA64u8 a1) rfl rfl (vp (i6 0) rfl (vp (i6 0) rfl (nx ⟨[(0, (i6 a0)), (3, (ow 3))], [(3, (bk (eA64u8 a1)))]⟩ (by kernel_rfl) (a_seq (sr (vp (i6 a0) rfl (vl (eA64u8 a1) rfl rfl rfl rfl rfl rfl (vq (.sl 64 true (([a1]).map eA64u8)) rfl ⟨(Nat.le_of_ble_eq_true rfl), (Nat.le_of_ble_eq_true rfl), (all_cons ⟨(Nat.le_of_ble_eq_true rfl), rfl⟩ all_nil)⟩ ?_)))))))))
  obtain ⟨r2, hr3, h⟩ := bind_some h
  refine a_call (args := [(i6 a0), (.sl 64 true (([a1]).map eA64u8))]) (u := []) (r := (i6 r2)) rfl rfl (Den.args (impl_polysCode_ok a0 ([a1]) r2 hr3) rfl rfl (.cons (.refl _) (.cons (.loose _) .nil))) rfl (vp (i6 r2) rfl (nx ⟨[(0, (i6 a0)), (3, (ow 3)), (6, (i6 r2))], [(3, (bk (eA64u8 a1)))]⟩ (by kernel_rfl) (sr (vp (i6 r2) rfl (vp (.bool (r2 != 0)) rfl (nx ⟨[(0, (i6 a0)), (3, (ow 3)), (6, (i6 r2)), (15, (.bool (r2 != 0)))], [(3, (bk (eA64u8 a1)))]⟩ (by kernel_rfl) ?_))))))
  cases hb4 : (r2 != 0)
  · have h := ite_f hb4 h
    refine a_cond_f rfl (a_skip (a_next (σ' := ⟨[(0, (i6 a0)), (3, (ow 3))], [(3, (bk (eA64u8 a1)))]⟩) (by kernel_rfl) (sr (vl (eA64u8 a1) rfl rfl rfl rfl rfl rfl ?_))))
    obtain ⟨r6, hr7, h⟩ := bind_some h
    refine a_call (args := [(eA64u8 a1)]) (u := []) (r := (eSi64 r6)) rfl rfl (impl_rowOf_ok a1 r6 hr7) rfl (vp (eSi64 r6) rfl (nx ⟨[(0, (i6 a0)), (7, (eSi64 r6))], []⟩ (by kernel_rfl) (sr (vp (i6 0) rfl (nx ⟨[(0, (i6 a0)), (7, (eSi64 r6)), (8, (i6 0))], []⟩ (by kernel_rfl) ?_)))))
    obtain ⟨y35, hy36, hk37⟩ := bind_some h
    clear h
    refine a_join (emb := fun (s : Int) => ⟨[(8, (i6 s))], []⟩) (pre := fun s => (.inl s) = y35) ?_ ?_
    · rintro x34 rfl
      have h := hk37
      refine a_st (σ' := ⟨[(8, (i6 x34))], []⟩) (by kernel_rfl) (sr (vp (i6 x34) rfl (vp (i6 x34) rfl (vp (i6 0) rfl (nx _ rfl (a_ret ?_))))))
      refine ⟨.inr rfl, ?_⟩
      rw [Try.results23]
      cases h
      exact ⟨_, _, _, _, _, rfl, trivial, .inl ⟨rfl, .inl rfl⟩, rfl, ⟨_, _, _, _, _, rfl, trivial, .inl ⟨rfl, .inl rfl⟩, rfl, rfl⟩⟩
    · have h := hy36
      refine sr (vp (eSi64 r6) rfl (vq (i6 (r6.length : Int)) (len_run rfl rfl) trivial (vp (i6 (IntKind.i64.wrap ((r6.length : Int) - 1))) rfl (vp (i6 (IntKind.i64.wrap ((r6.length : Int) - 1))) rfl (nx ⟨[(0, (i6 a0)), (7, (eSi64 r6)), (8, (i6 0)), (9, (i6 (IntKind.i64.wrap ((r6.length : Int) - 1))))], []⟩ (by kernel_rfl) (a_block ?_))))))
      refine a_loop (emb := fun (s : (Int × Int)) => ⟨[(0, (i6 a0)), (7, (eSi64 r6)), (8, (i6 s.1)), (9, (i6 s.2))], []⟩) (body := (fun s : (Int × Int) => impl_NumberOfPoly_l1 r6 a0 s.1 s.2)) (G := fun q => some q = some y35) h rfl ?_ (by kernel_rfl)
      rintro X54 ⟨x46, x47⟩ x55 h hX56
      have h : impl_NumberOfPoly_l1 r6 a0 x46 x47 = some x55 := h
      refine a_st (σ' := ⟨[(0, (i6 a0)), (7, (eSi64 r6)), (8, (i6 x46)), (9, (i6 x47))], []⟩) (by kernel_rfl) (a_seq (sr (vp (i6 x47) rfl (vp (.bool ((decide (x47 ≥ 0)))) rfl (nx ⟨[(0, (i6 a0)), (7, (eSi64 r6)), (8, (i6 x46)), (9, (i6 x47)), (23, (.bool ((decide (x47 ≥ 0)))))], []⟩ (by kernel_rfl) ?_)))))
      cases hb57 : (decide (x47 ≥ 0))
      · have h := ite_f hb57 h
        refine a_cond_f rfl (a_exit (t_exit ?_))
        cases h
        have h := hX56
        refine t_exit (b_exit ?_)
        exact j_leaf x46 (Option.some.inj h) (by kernel_rfl)
      · have h := ite_t hb57 h
        refine a_cond_t rfl (a_skip (a_next (σ' := ⟨[(0, (i6 a0)), (7, (eSi64 r6)), (8, (i6 x46)), (9, (i6 x47))], []⟩) (by kernel_rfl) (a_seq (a_block (sr (vp (i6 x46) rfl (vp (i6 a0) rfl (vp (i6 (IntKind.i64.wrap (x46 * a0))) rfl (vp (eSi64 r6) rfl ?_)))))))))
        refine vp (i6 x47) rfl ?_
        obtain ⟨hc58, h⟩ := ifp_some h
        refine vq (.ref (.row 1 (r6.map (AV.int .i64))) [x47.toNat] [x47.toNat * 1]) rfl (lmap hc58) ?_
        have hl59 : LdOk [x47.toNat] (.row 1 (r6.map (AV.int .i64))) [x47.toNat * 1] 1 false (i6 (rd r6 x47.toNat)) := (.row (llt hc58) rfl (.nil rfl rfl rfl))
        refine vq (i6 (rd r6 x47.toNat)) (ld_ref (i := ⟨.int .i64, 1, 8, (.int .i64 0)⟩) rfl rfl hl59) hl59.c ?_
        obtain ⟨x60, hx61, h⟩ := letp_some h
        refine a_val' (v := (i6 (IntKind.i64.wrap ((IntKind.i64.wrap (x46 * a0)) + (rd r6 x47.toNat))))) (v' := (i6 x60)) (u := []) (u' := []) rfl (congrArg (fun z => ((i6 z) : AV)) hx61) rfl trivial rfl (vp (i6 x60) rfl (nx ⟨[(0, (i6 a0)), (7, (eSi64 r6)), (8, (i6 x60)), (9, (i6 x47))], []⟩ (by kernel_rfl) (sr (vp (i6 x60) rfl (vp (.bool ((decide (x60 > 1000000000000)))) rfl (nx ⟨[(0, (i6 a0)), (7, (eSi64 r6)), (8, (i6 x60)), (9, (i6 x47)), (35, (.bool ((decide (x60 > 1000000000000)))))], []⟩ (by kernel_rfl) ?_))))))
        cases hb62 : (decide (x60 > 1000000000000))
        · have h := ite_f hb62 h
          refine a_cond_f rfl (a_skip (b_norm (a_next (σ' := ⟨[(0, (i6 a0)), (7, (eSi64 r6)), (8, (i6 x60)), (9, (i6 x47))], []⟩) (by kernel_rfl) (a_region (vp (i6 x47) rfl (vp (i6 (IntKind.i64.wrap (x47 - 1))) rfl (vp (i6 (IntKind.i64.wrap (x47 - 1))) rfl (a_nil ?_))))))))
          cases h
          exact a_again (by kernel_rfl) hX56
        · have h := ite_t hb62 h
          refine a_cond_t rfl (sr (vp (i6 0) rfl (vp (i6 3) rfl (nx _ rfl (a_ret (b_ret (t_ret ?_)))))))
          cases h
          have h := hX56
          refine t_ret (b_ret (t_ret ?_))
          cases h
          have h := hk37
          refine ⟨.inr rfl, ?_⟩
          rw [Try.results23]
          cases h
          exact ⟨_, _, _, _, _, rfl, trivial, .inl ⟨rfl, .inl rfl⟩, rfl, ⟨_, _, _, _, _, rfl, trivial, .inl ⟨rfl, .inl rfl⟩, rfl, rfl⟩⟩
  · have h := ite_t hb4 h
    refine a_cond_t rfl (sr (vp (i6 r2) rfl (vp (i6 0) rfl (vp (i6 r2) rfl (nx _ rfl (a_ret (t_ret ?_)))))))
    refine ⟨.inr rfl, ?_⟩
    rw [Try.results23]
    cases h
    exact ⟨_, _, _, _, _, rfl, trivial, .inl ⟨rfl, .inl rfl⟩, rfl, ⟨_, _, _, _, _, rfl, trivial, .inl ⟨rfl, .inl rfl⟩, rfl, rfl⟩⟩
def spec_l01Value_c : ACode := (.seq (.region 0 [q 3 (.box 25 (t 1)), q 4 (.asg 0 (.const (.int .i64 0)) 2)] false) (.seq (.region 1 [q 5 (.asg 0 (.const (.int .i64 0)) 2)] false) (.seq (.seq (.region 2 [q 7 (.load 25 (t 3)), q 8 (.call 0 (.func 112) [(t 7)]), q 6 (.asg 0 (t 8) 2)] false) (.block 0 (.loop (.seq (.seq (.region 3 [q 9 (.mov (t 6)), q 10 (.bin .geq 2 (t 9) (.const (.int .i64 0)))] false) (.cond (t 10) .skip (.exit 0))) (.seq (.block 1 (.seq (.region 5 [q 13 (.mov (t 5)), q 14 (.mov (t 0)), q 15 (.bin .mul 2 (t 13) (t 14)), q 16 (.mov (t 6)), q 17 (.indexAddr 25 (t 3) (t 16)), q 18 (.load 5 (t 17)), q 19 (.conv 5 2 (t 18)), q 20 (.bin .add 2 (t 15) (t 19)), q 5 (.asg 0 (t 20) 2)] false) (.seq (.region 6 [q 21 (.mov (t 5)), q 22 (.bin .gtr 2 (t 21) (.const (.int .i64 1000000000000)))] false) (.cond (t 22) (.seq (.region 7 [q 4 (.asg 0 (.const (.int .i64 1000000000001)) 2)] false) .ret) .skip)))) (.region 4 [q 11 (.mov (t 6)), q 12 (.bin .sub 2 (t 11) (.const (.int .i64 1))), q 6 (.asg 0 (t 12) 2)] false)))))) (.seq (.region 8 [q 23 (.mov (t 5)), q 4 (.asg 0 (t 23) 2)] false) .ret))))
def spec_l01Value_L : Live := [(0, [0, 1]), (1, [0, 3]), (2, [0, 3, 5]), (3, [0, 3, 5, 6]), (4, [0, 3, 5, 6]), (5, [0, 3, 5, 6]), (6, [0, 3, 5, 6]), (7, []), (8, [5]), (100010, [0, 3, 5, 6, 10]), (100022, [0, 3, 5, 6, 22])]
noncomputable def spec_l01Value_l1 (a0 : Int) (a1 : (Vec Int 64)) (x41 : Int) (x42 : Int) : Option ((Int × Int) ⊕ (Int ⊕ Int)) :=
  (if (decide (x42 ≥ 0)) then (ifp (0 ≤ x42 ∧ x42 < ((64 : Nat) : Int)) ((letp (IntKind.i64.wrap ((IntKind.i64.wrap (x41 * a0)) + (IntKind.i64.wrap (rd a1.1 x42.toNat)))) fun x55 => (if (decide (x55 > 1000000000000)) then (some (.inr (.inr 1000000000001))) else (some (.inl ((x55, IntKind.i64.wrap (x42 - 1))))))))) else (some (.inr (.inl x41))))
noncomputable def spec_l01Value (a0 : Int) (a1 : (Vec Int 64)) : Option Int :=
  (Option.bind (α := (Int ⊕ Int)) ((Option.bind (spec_l01Deg a1) fun r33 => (loopM (fun s : (Int × Int) => spec_l01Value_l1 a0 a1 s.1 s.2) (0, r33)))) fun z => match z with | .inl x28 => (some x28) | .inr r59 => (some r59))
theorem spec_l01Value_ok (a0 : Int) (a1 : (Vec Int 64)) (r : Int) (h : spec_l01Value a0 a1 = some r) : Den Try.prog 117 [(i6 a0), (eA64u8 a1)] { r := (i6 r) } := by
  refine den_of (rs := [(i6 r)]) (ac := spec_l01Value_c) (L := spec_l01Value_L) (n := 24) (m := []) (c := Try.f117.body.getD .skip) good Try.func117 (by kernel_rfl) (by kernel_rfl) Try.ntmps117 rfl rfl (by kernel_rfl) rfl rfl ?_
  refine a_st (σ' := ⟨[(0, (i6 a0)), (1, (eA64u8 a1))], []⟩) (by kernel_rfl) ?_
  unfold spec_l01Value_c
  refine sr (vo 1300 (eA64u8 a1) rfl rfl (vp (i6 0) rfl (nx ⟨[(0, (i6 a0)), (3, (ow 3))], [(3, (bk (eA64u8 a1)))]⟩ (by kernel_rfl) (sr (vp (i6 0) rfl (nx ⟨[(0, (i6 a0)), (3, (ow 3)), (5, (i6 0))], [(3, (bk (eA64u8 a1)))]⟩ (by kernel_rfl) ?_))))))
  obtain ⟨y29, hy30, hk31⟩ := bind_some h
  clear h
  refine a_join (emb := fun (s : Int) => ⟨[(5, (i6 s))], []⟩) (pre := fun s => (.inl s) = y29) ?_ ?_
  · rintro x28 rfl
    have h := hk31
    refine a_st (σ' := ⟨[(5, (i6 x28))], []⟩) (by kernel_rfl) (sr (vp (i6 x28) rfl (vp (i6 x28) rfl (nx _ rfl (a_ret ?_)))))
    refine ⟨.inr rfl, ?_⟩
    rw [Try.results117]
    cases h
    exact ⟨_, _, _, _, _, rfl, trivial, .inl ⟨rfl, .inl rfl⟩, rfl, rfl⟩
  · have h := hy30
    refine sr (vl (eA64u8 a1) rfl rfl rfl rfl rfl rfl ?_)
    obtain ⟨r33, hr34, h⟩ := bind_some h
    refine a_call (args := [(eA64u8 a1)]) (u := []) (r := (i6 r33)) rfl rfl (spec_l01Deg_ok a1 r33 hr34) rfl (vp (i6 r33) rfl (nx ⟨[(0, (i6 a0)), (3, (ow 3)), (5, (i6 0)), (6, (i6 r33))], [(3, (bk (eA64u8 a1)))]⟩ (by kernel_rfl) (a_block ?_)))
    refine a_loop (emb := fun (s : (Int × Int)) => ⟨[(0, (i6 a0)), (3, (ow 3)), (5, (i6 s.1)), (6, (i6 s.2))], [(3, (bk (eA64u8 a1)))]⟩) (body := (fun s : (Int × Int) => spec_l01Value_l1 a0 a1 s.1 s.2)) (G := fun q => some q = some y29) h rfl ?_ (by kernel_rfl)
    rintro X49 ⟨x41, x42⟩ x50 h hX51
    have h : spec_l01Value_l1 a0 a1 x41 x42 = some x50 := h
    refine a_st (σ' := ⟨[(0, (i6 a0)), (3, (ow 3)), (5, (i6 x41)), (6, (i6 x42))], [(3, (bk (eA64u8 a1)))]⟩) (by kernel_rfl) (a_seq (sr (vp (i6 x42) rfl (vp (.bool ((decide (x42 ≥ 0)))) rfl (nx ⟨[(0, (i6 a0)), (3, (ow 3)), (5, (i6 x41)), (6, (i6 x42)), (10, (.bool ((decide (x42 ≥ 0)))))], [(3, (bk (eA64u8 a1)))]⟩ (by kernel_rfl) ?_)))))
    cases hb52 : (decide (x42 ≥ 0))
    · have h := ite_f hb52 h
      refine a_cond_f rfl (a_exit (t_exit ?_))
      cases h
      have h := hX51
      refine t_exit (b_exit ?_)
      exact j_leaf x41 (Option.some.inj h) (by kernel_rfl)
    · have h := ite_t hb52 h
      refine a_cond_t rfl (a_skip (a_next (σ' := ⟨[(0, (i6 a0)), (3, (ow 3)), (5, (i6 x41)), (6, (i6 x42))], [(3, (bk (eA64u8 a1)))]⟩) (by kernel_rfl) (a_seq (a_block (sr (vp (i6 x41) rfl (vp (i6 a0) rfl (vp (i6 (IntKind.i64.wrap (x41 * a0))) rfl (vp (i6 x42) rfl ?_)))))))))
      obtain ⟨hc53, h⟩ := ifp_some h
      refine vq (.own 3 [x42.toNat] [x42.toNat * 1]) rfl hc53 ?_
      have hl54 : LdOk [x42.toNat] (eA64u8 a1) [x42.toNat * 1] 1 false (b8 (rd a1.1 x42.toNat)) := (.arr (vlt a1 hc53) rfl (.nil rfl rfl rfl))
      refine vq (b8 (rd a1.1 x42.toNat)) (ld_own (i := ⟨.int .u8, 1, 1, (.int .u8 0)⟩) rfl rfl rfl hl54) hl54.c (vp (i6 (IntKind.i64.wrap (rd a1.1 x42.toNat))) rfl ?_)
      obtain ⟨x55, hx56, h⟩ := letp_some h
      refine a_val' (v := (i6 (IntKind.i64.wrap ((IntKind.i64.wrap (x41 * a0)) + (IntKind.i64.wrap (rd a1.1 x42.toNat)))))) (v' := (i6 x55)) (u := []) (u' := []) rfl (congrArg (fun z => ((i6 z) : AV)) hx56) rfl trivial rfl (vp (i6 x55) rfl (nx ⟨[(0, (i6 a0)), (3, (ow 3)), (5, (i6 x55)), (6, (i6 x42))], [(3, (bk (eA64u8 a1)))]⟩ (by kernel_rfl) (sr (vp (i6 x55) rfl (vp (.bool ((decide (x55 > 1000000000000)))) rfl (nx ⟨[(0, (i6 a0)), (3, (ow 3)), (5, (i6 x55)), (6, (i6 x42)), (22, (.bool ((decide (x55 > 1000000000000)))))], [(3, (bk (eA64u8 a1)))]⟩ (by kernel_rfl) ?_))))))
      cases hb57 : (decide (x55 > 1000000000000))
      · have h := ite_f hb57 h
        refine a_cond_f rfl (a_skip (b_norm (a_next (σ' := ⟨[(0, (i6 a0)), (3, (ow 3)), (5, (i6 x55)), (6, (i6 x42))], [(3, (bk (eA64u8 a1)))]⟩) (by kernel_rfl) (a_region (vp (i6 x42) rfl (vp (i6 (IntKind.i64.wrap (x42 - 1))) rfl (vp (i6 (IntKind.i64.wrap (x42 - 1))) rfl (a_nil ?_))))))))
        cases h
        exact a_again (by kernel_rfl) hX51
      · have h := ite_t hb57 h
        refine a_cond_t rfl (sr (vp (i6 1000000000001) rfl (nx _ rfl (a_ret (b_ret (t_ret ?_))))))
        cases h
        have h := hX51
        refine t_ret (b_ret (t_ret ?_))
        cases h
        have h := hk31
        refine ⟨.inr rfl, ?_⟩
        rw [Try.results117]
        cases h
        exact ⟨_, _, _, _, _, rfl, trivial, .inl ⟨rfl, .inl rfl⟩, rfl, rfl⟩
def spec_NumberOfPoly_c : ACode := (.seq (.region 0 [q 3 (.box 25 (t 1)), q 4 (.asg 0 (.const (.int .i64 0)) 2), q 5 (.asg 0 (.const (.int .i64 0)) 2)] false) (.seq (.seq (.region 1 [q 8 (.mov (t 0)), q 9 (.load 25 (t 3)), q 10 (.bslice 0 55 1 [(0, (t 9))]), q 11 (.call 0 (.func 104) [(t 8), (t 10)]), q 6 (.asg 0 (t 11) 2)] false) (.seq (.region 2 [q 12 (.mov (t 6)), q 13 (.bin .neq 2 (t 12) (.const (.int .i64 0)))] false) (.cond (t 13) (.seq (.region 3 [q 14 (.mov (t 6)), q 4 (.asg 0 (.const (.int .i64 0)) 2), q 5 (.asg 0 (t 14) 2)] false) .ret) .skip))) (.seq (.region 4 [q 15 (.mov (t 0)), q 16 (.load 25 (t 3)), q 17 (.call 0 (.func 117) [(t 15), (t 16)]), q 7 (.asg 0 (t 17) 2)] false) (.seq (.seq (.region 5 [q 18 (.mov (t 7)), q 19 (.bin .gtr 2 (t 18) (.const (.int .i64 1000000000000)))] false) (.cond (t 19) (.seq (.region 6 [q 4 (.asg 0 (.const (.int .i64 0)) 2), q 5 (.asg 0 (.const (.int .i64 3)) 2)] false) .ret) .skip)) (.seq (.region 7 [q 20 (.mov (t 7)), q 4 (.asg 0 (t 20) 2), q 5 (.asg 0 (.const (.int .i64 0)) 2)] false) .ret)))))
def spec_NumberOfPoly_L : Live := [(0, [0, 1]), (1, [0, 3]), (2, [0, 3, 6]), (3, [6]), (4, [0, 3]), (5, [7]), (6, []), (7, [7]), (100013, [0, 3, 6, 13]), (100019, [7, 19])]
noncomputable def spec_NumberOfPoly (a0 : Int) (a1 : (Vec Int 64)) : Option (Int × Int) :=
  (Option.bind (spec_l01Code a0 ([a1])) fun r2 => (if (r2 != 0) then (some (0, r2)) else (Option.bind (spec_l01Value a0 a1) fun r6 => (if (decide (r6 > 1000000000000)) then (some (0, 3)) else (some (r6, 0))))))
theorem spec_NumberOfPoly_ok (a0 : Int) (a1 : (Vec Int 64)) (r : (Int × Int)) (h : spec_NumberOfPoly a0 a1 = some r) : Den Try.prog 24 [(i6 a0), (eA64u8 a1)] { r := (.tuple [(i6 r.1), (i6 r.2)]) } := by
  refine den_of (rs := [(i6 r.1), (i6 r.2)]) (ac := spec_NumberOfPoly_c) (L := spec_NumberOfPoly_L) (n := 21) (m := []) (c := Try.f24.body.getD .skip) good Try.func24 (by kernel_rfl) (by kernel_rfl) Try.ntmps24 rfl rfl (by kernel_rfl) rfl rfl ?_
  refine a_st (σ' := ⟨[(0, (i6 a0)), (1, (eA64u8 a1))], []⟩) (by kernel_rfl) ?_
  unfold spec_NumberOfPoly_c
  refine sr (vo 1300 (eA64u8 a1) rfl rfl (vp (i6 0) rfl (vp (i6 0) rfl (nx ⟨[(0, (i6 a0)), (3, (ow 3))], [(3, (bk (eA64u8 a1)))]⟩ (by kernel_rfl) (a_seq (sr (vp (i6 a0) rfl (vl (eA64u8 a1) rfl rfl rfl rfl rfl rfl (vq (.sl 64 true (([a1]).map eA64u8)) rfl ⟨(Nat.le_of_ble_eq_true rfl), (Nat.le_of_ble_eq_true rfl), (all_cons ⟨(Nat.le_of_ble_eq_true rfl), rfl⟩ all_nil)⟩ ?_)))))))))
  obtain ⟨r2, hr3, h⟩ := bind_some h
  refine a_call (args := [(i6 a0), (.sl 64 true (([a1]).map eA64u8))]) (u := []) (r := (i6 r2)) rfl rfl (Den.args (spec_l01Code_ok a0 ([a1]) r2 hr3) rfl rfl (.cons (.refl _) (.cons (.loose _) .nil))) rfl (vp (i6 r2) rfl (nx ⟨[(0, (i6 a0)), (3, (ow 3)), (6, (i6 r2))], [(3, (bk (eA64u8 a1)))]⟩ (by kernel_rfl) (sr (vp (i6 r2) rfl (vp (.bool (r2 != 0)) rfl (nx ⟨[(0, (i6 a0)), (3, (ow 3)), (6, (i6 r2)), (13, (.bool (r2 != 0)))], [(3, (bk (eA64u8 a1)))]⟩ (by kernel_rfl) ?_))))))
  cases hb4 : (r2 != 0)
  · have h := ite_f hb4 h
    refine a_cond_f rfl (a_skip (a_next (σ' := ⟨[(0, (i6 a0)), (3, (ow 3))], [(3, (bk (eA64u8 a1)))]⟩) (by kernel_rfl) (sr (vp (i6 a0) rfl (vl (eA64u8 a1) rfl rfl rfl rfl rfl rfl ?_)))))
    obtain ⟨r6, hr7, h⟩ := bind_some h
    refine a_call (args := [(i6 a0), (eA64u8 a1)]) (u := []) (r := (i6 r6)) rfl rfl (spec_l01Value_ok a0 a1 r6 hr7) rfl (vp (i6 r6) rfl (nx ⟨[(7, (i6 r6))], []⟩ (by kernel_rfl) (a_seq (sr (vp (i6 r6) rfl (vp (.bool ((decide (r6 > 1000000000000)))) rfl (nx ⟨[(7, (i6 r6)), (19, (.bool ((decide (r6 > 1000000000000)))))], []⟩ (by kernel_rfl) ?_)))))))
    cases hb8 : (decide (r6 > 1000000000000))
    · have h := ite_f hb8 h
      refine a_cond_f rfl (a_skip (a_next (σ' := ⟨[(7, (i6 r6))], []⟩) (by kernel_rfl) (sr (vp (i6 r6) rfl (vp (i6 r6) rfl (vp (i6 0) rfl (nx _ rfl (a_ret ?_))))))))
      refine ⟨.inr rfl, ?_⟩
      rw [Try.results24]
      cases h
      exact ⟨_, _, _, _, _, rfl, trivial, .inl ⟨rfl, .inl rfl⟩, rfl, ⟨_, _, _, _, _, rfl, trivial, .inl ⟨rfl, .inl rfl⟩, rfl, rfl⟩⟩
    · have h := ite_t hb8 h
      refine a_cond_t rfl (sr (vp (i6 0) rfl (vp (i6 3) rfl (nx _ rfl (a_ret (t_ret ?_))))))
      refine ⟨.inr rfl, ?_⟩
      rw [Try.results24]
      cases h
      exact ⟨_, _, _, _, _, rfl, trivial, .inl ⟨rfl, .inl rfl⟩, rfl, ⟨_, _, _, _, _, rfl, trivial, .inl ⟨rfl, .inl rfl⟩, rfl, rfl⟩⟩
  · have h := ite_t hb4 h
    refine a_cond_t rfl (sr (vp (i6 r2) rfl (vp (i6 0) rfl (vp (i6 r2) rfl (nx _ rfl (a_ret (t_ret ?_)))))))
    refine ⟨.inr rfl, ?_⟩
    rw [Try.results24]
    cases h
    exact ⟨_, _, _, _, _, rfl, trivial, .inl ⟨rfl, .inl rfl⟩, rfl, ⟨_, _, _, _, _, rfl, trivial, .inl ⟨rfl, .inl rfl⟩, rfl, rfl⟩⟩
def impl_within_c : ACode := (.seq (.region 0 [q 6 (.asg 0 (.const (.bool false)) 4)] false) (.seq (.region 1 [q 7 (.mov (t 1)), q 8 (.mov (t 0)), q 9 (.bin .leq 2 (t 7) (t 8)), q 10 (.mov (t 9)), ⟨some 11, .mov (t 0), some (10, true), []⟩, ⟨some 12, .mov (t 2), some (10, true), []⟩, ⟨some 13, .bin .leq 2 (t 11) (t 12), some (10, true), []⟩, q 14 (.pick (t 10) (t 13) (.const (.bool false))), q 6 (.asg 0 (t 14) 4)] false) .ret))
def impl_within_L : Live := [(0, [0, 1, 2]), (1, [0, 1, 2])]
noncomputable def impl_within (a0 : Int) (a1 : Int) (a2 : Int) : Option Bool :=
  (if (decide (a1 ≤ a0)) then (some ((decide (a0 ≤ a2)))) else (some false))
theorem impl_within_ok (a0 : Int) (a1 : Int) (a2 : Int) (r : Bool) (h : impl_within a0 a1 a2 = some r) : Den Try.prog 139 [(i6 a0), (i6 a1), (i6 a2)] { r := (.bool r) } := by
  refine den_of (rs := [(.bool r)]) (ac := impl_within_c) (L := impl_within_L) (n := 15) (m := []) (c := Try.f139.body.getD .skip) good Try.func139 (by kernel_rfl) (by kernel_rfl) Try.ntmps139 rfl rfl (by kernel_rfl) rfl rfl ?_
  refine a_st (σ' := ⟨[(0, (i6 a0)), (1, (i6 a1)), (2, (i6 a2))], []⟩) (by kernel_rfl) ?_
  unfold impl_within_c
  refine sr (vp (.bool false) rfl (nx ⟨[(0, (i6 a0)), (1, (i6 a1)), (2, (i6 a2))], []⟩ (by kernel_rfl) (sr (vp (i6 a1) rfl (vp (i6 a0) rfl (vp (.bool ((decide (a1 ≤ a0)))) rfl (vp (.bool ((decide (a1 ≤ a0)))) rfl ?_)))))))
  cases hb1 : (decide (a1 ≤ a0))
  · have h := ite_f hb1 h
    refine a_gskip rfl (a_gskip rfl (a_gskip rfl (vp (.bool false) rfl (vp (.bool false) rfl (nx _ rfl (a_ret ?_))))))
    refine ⟨.inr rfl, ?_⟩
    rw [Try.results139]
    cases h
    exact ⟨_, _, _, _, _, rfl, trivial, .inl ⟨rfl, .inl rfl⟩, rfl, rfl⟩
  · have h := ite_t hb1 h
    refine gp (i6 a0) rfl rfl (gp (i6 a2) rfl rfl (gp (.bool ((decide (a0 ≤ a2)))) rfl rfl (vp (.bool ((decide (a0 ≤ a2)))) rfl (vp (.bool ((decide (a0 ≤ a2)))) rfl (nx _ rfl (a_ret ?_))))))
    refine ⟨.inr rfl, ?_⟩
    rw [Try.results139]
    cases h
    exact ⟨_, _, _, _, _, rfl, trivial, .inl ⟨rfl, .inl rfl⟩, rfl, rfl⟩
def impl_isNumber_c : ACode := (.seq (.region 0 [q 2 (.asg 0 (.const (.bool false)) 4)] false) (.seq (.region 1 [q 3 (.mov (t 0)), q 4 (.call 0 (.func 139) [(t 3), (.const (.int .i64 0)), (.const (.int .i64 1000000000000))]), q 2 (.asg 0 (t 4) 4)] false) .ret))
def impl_isNumber_L : Live := [(0, [0]), (1, [0])]
noncomputable def impl_isNumber (a0 : Int) : Option Bool :=
  (Option.bind (impl_within a0 0 1000000000000) fun r1 => (some r1))
theorem impl_isNumber_ok (a0 : Int) (r : Bool) (h : impl_isNumber a0 = some r) : Den Try.prog 118 [(i6 a0)] { r := (.bool r) } := by
  refine den_of (rs := [(.bool r)]) (ac := impl_isNumber_c) (L := impl_isNumber_L) (n := 5) (m := []) (c := Try.f118.body.getD .skip) good Try.func118 (by kernel_rfl) (by kernel_rfl) Try.ntmps118 rfl rfl (by kernel_rfl) rfl rfl ?_
  refine a_st (σ' := ⟨[(0, (i6 a0))], []⟩) (by kernel_rfl) ?_
  unfold impl_isNumber_c
  refine sr (vp (.bool false) rfl (nx ⟨[(0, (i6 a0))], []⟩ (by kernel_rfl) (sr (vp (i6 a0) rfl ?_))))
  obtain ⟨r1, hr2, h⟩ := bind_some h
  refine a_call (args := [(i6 a0), (i6 0), (i6 1000000000000)]) (u := []) (r := (.bool r1)) rfl rfl (impl_within_ok a0 0 1000000000000 r1 hr2) rfl (vp (.bool r1) rfl (nx _ rfl (a_ret ?_)))
  refine ⟨.inr rfl, ?_⟩
  rw [Try.results118]
  cases h
  exact ⟨_, _, _, _, _, rfl, trivial, .inl ⟨rfl, .inl rfl⟩, rfl, rfl⟩
def impl_prime_numbered_c : ACode := (.seq (.region 0 [q 4 (.asg 1 (.const (.slice none 0 0)) 80)] false) (.seq (.region 1 [q 5 (.asg 2 (.const (.slice none 0 0)) 80)] false) (.seq (.block 0 (.loop (.seq (.seq (.region 2 [q 6 (.mov (t 1)), q 7 (.bin .gtr 2 (t 6) (.const (.int .i64 0)))] false) (.cond (t 7) .skip (.exit 0))) (.seq (.block 1 (.region 4 [q 11 (.mov (t 5)), q 12 (.mov (t 1)), q 13 (.mov (t 0)), q 14 (.bin .rem 2 (t 12) (t 13)), q 15 (.bslice 0 80 1 [(0, (t 14))]), q 16 (.blt 0 .append [(t 11), (t 15)] [80, 80]), q 5 (.asg 2 (t 16) 80)] false)) (.region 3 [q 8 (.mov (t 1)), q 9 (.mov (t 0)), q 10 (.bin .quo 2 (t 8) (t 9)), q 1 (.asg 0 (t 10) 2)] false))))) (.seq (.region 5 [q 17 (.mov (t 5)), q 4 (.asg 1 (t 17) 80)] false) .ret))))
def impl_prime_numbered_L : Live := [(0, [0, 1]), (1, [0, 1]), (2, [0, 1, 5]), (3, [0, 1, 5]), (4, [0, 1, 5]), (5, [5]), (100007, [0, 1, 5, 7])]
noncomputable def impl_prime_numbered_l1 (a0 : Int) (x27 : Int) (x28 : (List Int)) : Option ((Int × (List Int)) ⊕ (List Int)) :=
  (if (decide (x27 > 0)) then (ifp (a0 ≠ 0) ((ifp ((x28.length + ([Int.tmod x27 a0] : List Int).length) * 8 ≤ 140737488355328) ((ifp (a0 ≠ 0) ((some (.inl ((IntKind.i64.wrap (Int.tdiv x27 a0), (x28 ++ ([Int.tmod x27 a0])))))))))))) else (some (.inr x28)))
noncomputable def impl_prime_numbered (a0 : Int) (a1 : Int) : Option (List Int) :=
  (Option.bind (α := (List Int)) ((loopM (fun s : (Int × (List Int)) => impl_prime_numbered_l1 a0 s.1 s.2) (a1, []))) fun x19 => (some x19))
theorem impl_prime_numbered_ok (a0 : Int) (a1 : Int) (r : (List Int)) (h : impl_prime_numbered a0 a1 = some r) : Den Try.prog 119 [(i6 a0), (i6 a1)] { r := (eSi64 r) } := by
  refine den_of (rs := [(eSi64 r)]) (ac := impl_prime_numbered_c) (L := impl_prime_numbered_L) (n := 18) (m := [(4, 1), (5, 2)]) (c := Try.f119.body.getD .skip) good Try.func119 (by kernel_rfl) (by kernel_rfl) Try.ntmps119 rfl rfl (by kernel_rfl) rfl rfl ?_
  refine a_st (σ' := ⟨[(0, (i6 a0)), (1, (i6 a1))], []⟩) (by kernel_rfl) ?_
  unfold impl_prime_numbered_c
  refine sr (vp (eSi64 ([])) rfl (nx ⟨[(0, (i6 a0)), (1, (i6 a1))], []⟩ (by kernel_rfl) (sr (vu (.osl 1500) [(1500, (bk (.row 1 (([]).map (AV.int .i64)))))] rfl trivial rfl (nx ⟨[(0, (i6 a0)), (1, (i6 a1)), (5, (.osl 5))], [(5, (bk (.row 1 (([]).map (AV.int .i64)))))]⟩ (by kernel_rfl) ?_)))))
  obtain ⟨y20, hy21, hk22⟩ := bind_some h
  clear h
  refine a_join (emb := fun (s : (List Int)) => ⟨[(5, (.osl 5))], [(5, (bk (.row 1 (s.map (AV.int .i64)))))]⟩) (pre := fun s => s = y20) ?_ ?_
  · rintro x19 rfl
    have h := hk22
    refine a_st (σ' := ⟨[(5, (.osl 5))], [(5, (bk (.row 1 (x19.map (AV.int .i64)))))]⟩) (by kernel_rfl) (sr (vp (.osl 5) rfl (vu (eSi64 x19) [(5, (bf (.row 1 (x19.map (AV.int .i64)))))] rfl trivial rfl (nx _ rfl (a_ret ?_)))))
    refine ⟨.inr rfl, ?_⟩
    rw [Try.results119]
    cases h
    exact ⟨_, _, _, _, _, rfl, trivial, .inl ⟨rfl, .inl rfl⟩, rfl, rfl⟩
  · have h := hy21
    refine a_block ?_
    refine a_loop (emb := fun (s : (Int × (List Int))) => ⟨[(0, (i6 a0)), (1, (i6 s.1)), (5, (.osl 5))], [(5, (bk (.row 1 (s.2.map (AV.int .i64)))))]⟩) (body := (fun s : (Int × (List Int)) => impl_prime_numbered_l1 a0 s.1 s.2)) (G := fun q => some q = some y20) h rfl ?_ (by kernel_rfl)
    rintro X33 ⟨x27, x28⟩ x34 h hX35
    have h : impl_prime_numbered_l1 a0 x27 x28 = some x34 := h
    refine a_st (σ' := ⟨[(0, (i6 a0)), (1, (i6 x27)), (5, (.osl 5))], [(5, (bk (.row 1 (x28.map (AV.int .i64)))))]⟩) (by kernel_rfl) (a_seq (sr (vp (i6 x27) rfl (vp (.bool ((decide (x27 > 0)))) rfl (nx ⟨[(0, (i6 a0)), (1, (i6 x27)), (5, (.osl 5)), (7, (.bool ((decide (x27 > 0)))))], [(5, (bk (.row 1 (x28.map (AV.int .i64)))))]⟩ (by kernel_rfl) ?_)))))
    cases hb36 : (decide (x27 > 0))
    · have h := ite_f hb36 h
      refine a_cond_f rfl (a_exit (t_exit ?_))
      cases h
      have h := hX35
      refine t_exit (b_exit ?_)
      exact j_leaf x28 (Option.some.inj h) (by kernel_rfl)
    · have h := ite_t hb36 h
      refine a_cond_t rfl (a_skip (a_next (σ' := ⟨[(0, (i6 a0)), (1, (i6 x27)), (5, (.osl 5))], [(5, (bk (.row 1 (x28.map (AV.int .i64)))))]⟩) (by kernel_rfl) (a_seq (a_block (a_region (vp (.osl 5) rfl (vp (i6 x27) rfl (vp (i6 a0) rfl ?_))))))))
      obtain ⟨hc37, h⟩ := ifp_some h
      refine vq (i6 (Int.tmod x27 a0)) rfl hc37 (vq (.sl 1 true (([Int.tmod x27 a0]).map (AV.int .i64))) rfl ⟨(Nat.le_of_ble_eq_true rfl), (Nat.le_of_ble_eq_true rfl), (all_cons ⟨(Nat.le_of_ble_eq_true rfl), rfl⟩ all_nil)⟩ ?_)
      obtain ⟨hc38, h⟩ := ifp_some h
      refine vu (.osl 2600) [(2600, (bk (.row 1 (((x28 ++ ([Int.tmod x27 a0]))).map (AV.int .i64))))), (5, none)] (app_run (i := ⟨.int .i64, 1, 8, (.int .i64 0)⟩) (f := (AV.int .i64)) (l := x28) (l2 := [Int.tmod x27 a0]) rfl rfl rfl rfl (fun _ => rfl) rfl rfl) (app_c (f := (AV.int .i64)) (s := 1) (sz := 1) (by' := 8) (u := []) (id := 5) hc38 (.inr rfl) rfl rfl rfl) rfl (vp (.osl 2600) rfl (a_nil (b_norm (a_next (σ' := ⟨[(0, (i6 a0)), (1, (i6 x27)), (5, (.osl 5))], [(5, (bk (.row 1 (((x28 ++ ([Int.tmod x27 a0]))).map (AV.int .i64)))))]⟩) (by kernel_rfl) (a_region (vp (i6 x27) rfl (vp (i6 a0) rfl ?_)))))))
      obtain ⟨hc39, h⟩ := ifp_some h
      refine vq (i6 (IntKind.i64.wrap (Int.tdiv x27 a0))) rfl hc39 (vp (i6 (IntKind.i64.wrap (Int.tdiv x27 a0))) rfl (a_nil ?_))
      cases h
      exact a_again (by kernel_rfl) hX35
def impl_PolyOfNumber_c : ACode := (.seq (.region 0 [q 4 (.alloc 25), q 5 (.asg 0 (.const (.int .i64 0)) 2)] false) (.seq (.block 0 (.seq (.region 1 [q 7 (.mov (t 0)), q 8 (.call 0 (.func 106) [(t 7)]), q 9 (.un .not (t 8)), q 6 (.asg 0 (t 9) 4)] false) (.cond (t 6) (.seq (.region 2 [q 10 (.build 25 []), ⟨none, .store 25 (t 4) (t 10), none, []⟩, q 5 (.asg 0 (.const (.int .i64 1)) 2)] false) .ret) (.seq (.region 3 [q 12 (.mov (t 1)), q 13 (.call 0 (.func 118) [(t 12)]), q 14 (.un .not (t 13)), q 11 (.asg 0 (t 14) 4)] false) (.cond (t 11) (.seq (.region 4 [q 15 (.build 25 []), ⟨none, .store 25 (t 4) (t 15), none, []⟩, q 5 (.asg 0 (.const (.int .i64 2)) 2)] false) .ret) .skip))))) (.seq (.region 5 [q 16 (.mov (t 0)), q 17 (.mov (t 1)), q 18 (.call 0 (.func 119) [(t 16), (t 17)]), q 19 (.call 0 (.func 101) [(t 18)]), q 20 (.extract (t 19) 0), q 21 (.extract (t 19) 1), ⟨none, .store 25 (t 4) (t 20), none, []⟩, q 5 (.asg 0 (t 21) 2)] false) .ret)))
def impl_PolyOfNumber_L : Live := [(0, [0, 1]), (1, [0, 1, 4]), (2, [4]), (3, [0, 1, 4]), (4, [4]), (5, [0, 1, 4]), (100006, [0, 1, 4, 6]), (100011, [0, 1, 4, 11])]
noncomputable def impl_PolyOfNumber (a0 : Int) (a1 : Int) : Option ((Vec Int 64) × Int) :=
  (Option.bind (impl_isPrime a0) fun r1 => (if (!r1) then (some (((vrep 64 (0 : Int)), 1))) else (Option.bind (impl_isNumber a1) fun r4 => (if (!r4) then (some (((vrep 64 (0 : Int)), 2))) else (Option.bind (impl_prime_numbered a0 a1) fun r7 => (Option.bind (impl_told r7) fun r9 => (some (r9.1, r9.2))))))))
theorem impl_PolyOfNumber_ok (a0 : Int) (a1 : Int) (r : ((Vec Int 64) × Int)) (h : impl_PolyOfNumber a0 a1 = some r) : Den Try.prog 25 [(i6 a0), (i6 a1)] { r := (.tuple [(eA64u8 r.1), (i6 r.2)]) } := by
  refine den_of (rs := [(eA64u8 r.1), (i6 r.2)]) (ac := impl_PolyOfNumber_c) (L := impl_PolyOfNumber_L) (n := 22) (m := []) (c := Try.f25.body.getD .skip) good Try.func25 (by kernel_rfl) (by kernel_rfl) Try.ntmps25 rfl rfl (by kernel_rfl) rfl rfl ?_
  refine a_st (σ' := ⟨[(0, (i6 a0)), (1, (i6 a1))], []⟩) (by kernel_rfl) ?_
  unfold impl_PolyOfNumber_c
  refine sr (vo 1400 (eA64u8 ((vrep 64 (0 : Int)))) rfl rfl (vp (i6 0) rfl (nx ⟨[(0, (i6 a0)), (1, (i6 a1)), (4, (ow 4))], [(4, (bk (eA64u8 ((vrep 64 (0 : Int))))))]⟩ (by kernel_rfl) (a_seq (a_block (sr (vp (i6 a0) rfl ?_)))))))
  obtain ⟨r1, hr2, h⟩ := bind_some h
  refine a_call (args := [(i6 a0)]) (u := []) (r := (.bool r1)) rfl rfl (impl_isPrime_ok a0 r1 hr2) rfl (vp (.bool (!r1)) rfl (vp (.bool (!r1)) rfl (nx ⟨[(0, (i6 a0)), (1, (i6 a1)), (4, (ow 4)), (6, (.bool (!r1)))], [(4, (bk (eA64u8 ((vrep 64 (0 : Int))))))]⟩ (by kernel_rfl) ?_)))
  cases hb3 : (!r1)
  · have h := ite_f hb3 h
    refine a_cond_f rfl (sr (vp (i6 a1) rfl ?_))
    obtain ⟨r4, hr5, h⟩ := bind_some h
    refine a_call (args := [(i6 a1)]) (u := []) (r := (.bool r4)) rfl rfl (impl_isNumber_ok a1 r4 hr5) rfl (vp (.bool (!r4)) rfl (vp (.bool (!r4)) rfl (nx ⟨[(0, (i6 a0)), (1, (i6 a1)), (4, (ow 4)), (11, (.bool (!r4)))], [(4, (bk (eA64u8 ((vrep 64 (0 : Int))))))]⟩ (by kernel_rfl) ?_)))
    cases hb6 : (!r4)
    · have h := ite_f hb6 h
      refine a_cond_f rfl (a_skip (b_norm (a_next (σ' := ⟨[(0, (i6 a0)), (1, (i6 a1)), (4, (ow 4))], [(4, (bk (eA64u8 ((vrep 64 (0 : Int))))))]⟩) (by kernel_rfl) (sr (vp (i6 a0) rfl (vp (i6 a1) rfl ?_))))))
      obtain ⟨r7, hr8, h⟩ := bind_some h
      refine a_call (args := [(i6 a0), (i6 a1)]) (u := []) (r := (eSi64 r7)) rfl rfl (impl_prime_numbered_ok a0 a1 r7 hr8) rfl ?_
      obtain ⟨r9, hr10, h⟩ := bind_some h
      refine a_call (args := [(eSi64 r7)]) (u := []) (r := (.tuple [(eA64u8 r9.1), (i6 r9.2)])) rfl rfl (impl_told_ok r7 r9 hr10) rfl (vb (eA64u8 r9.1) rfl rfl (vb (i6 r9.2) rfl rfl (vs (eA64u8 r9.1) rfl rfl (fun _ => rfl) rfl rfl rfl rfl rfl rfl (vp (i6 r9.2) rfl (nx _ rfl (a_ret ?_))))))
      have hl12 : LdOk [] (eA64u8 r9.1) [] 64 true (eA64u8 r9.1) := (.nil rfl rfl rfl)
      refine ⟨.inr rfl, ?_⟩
      rw [Try.results25]
      cases h
      exact ⟨_, _, _, _, _, ld_own (i := ⟨.arr 64 5, 64, 64, (eA64u8 (vrep 64 (0 : Int)))⟩) rfl rfl rfl hl12, hl12.c, .inl ⟨rfl, .inl rfl⟩, rfl, ⟨_, _, _, _, _, rfl, trivial, .inl ⟨rfl, .inl rfl⟩, rfl, rfl⟩⟩
    · have h := ite_t hb6 h
      refine a_cond_t rfl (sr (vq (eA64u8 ((vrep 64 (0 : Int)))) rfl ⟨⟨_, rfl, rfl⟩, all_nil⟩ (vs (eA64u8 ((vrep 64 (0 : Int)))) rfl rfl (fun _ => rfl) rfl rfl rfl rfl rfl rfl (vp (i6 2) rfl (nx _ rfl (a_ret (b_ret (t_ret ?_))))))))
      have hl14 : LdOk [] (eA64u8 ((vrep 64 (0 : Int)))) [] 64 true (eA64u8 ((vrep 64 (0 : Int)))) := (.nil rfl rfl rfl)
      refine ⟨.inr rfl, ?_⟩
      rw [Try.results25]
      cases h
      exact ⟨_, _, _, _, _, ld_own (i := ⟨.arr 64 5, 64, 64, (eA64u8 (vrep 64 (0 : Int)))⟩) rfl rfl rfl hl14, hl14.c, .inl ⟨rfl, .inl rfl⟩, rfl, ⟨_, _, _, _, _, rfl, trivial, .inl ⟨rfl, .inl rfl⟩, rfl, rfl⟩⟩
  · have h := ite_t hb3 h
    refine a_cond_t rfl (sr (vq (eA64u8 ((vrep 64 (0 : Int)))) rfl ⟨⟨_, rfl, rfl⟩, all_nil⟩ (vs (eA64u8 ((vrep 64 (0 : Int)))) rfl rfl (fun _ => rfl) rfl rfl rfl rfl rfl rfl (vp (i6 1) rfl (nx _ rfl (a_ret (b_ret (t_ret ?_))))))))
    have hl16 : LdOk [] (eA64u8 ((vrep 64 (0 : Int)))) [] 64 true (eA64u8 ((vrep 64 (0 : Int)))) := (.nil rfl rfl rfl)
    refine ⟨.inr rfl, ?_⟩
    rw [Try.results25]
    cases h
    exact ⟨_, _, _, _, _, ld_own (i := ⟨.arr 64 5, 64, 64, (eA64u8 (vrep 64 (0 : Int)))⟩) rfl rfl rfl hl16, hl16.c, .inl ⟨rfl, .inl rfl⟩, rfl, ⟨_, _, _, _, _, rfl, trivial, .inl ⟨rfl, .inl rfl⟩, rfl, rfl⟩⟩
def impl_row_text_c : ACode := (.seq (.region 0 [q 2 (.asg 0 (.const (.string ⟨#[]⟩)) 9)] false) (.seq (.seq (.region 1 [q 5 (.mov (t 0)), q 6 (.blt 0 .len [(t 5)] [80]), q 7 (.bin .eql 3 (t 6) (.const (.int .i64 0)))] false) (.cond (t 7) (.seq (.region 2 [q 2 (.asg 0 (.const (.string ⟨#[48]⟩)) 9)] false) .ret) .skip)) (.seq (.region 3 [q 3 (.asg 2 (.const (.slice none 0 0)) 22)] false) (.seq (.seq (.region 4 [q 8 (.mov (t 0)), q 9 (.blt 0 .len [(t 8)] [80]), q 10 (.bin .sub 3 (t 9) (.const (.int .i64 1))), q 4 (.asg 0 (t 10) 3)] false) (.block 0 (.loop (.seq (.seq (.region 5 [q 11 (.mov (t 4)), q 12 (.bin .geq 3 (t 11) (.const (.int .i64 0)))] false) (.cond (t 12) .skip (.exit 0))) (.seq (.block 1 (.region 7 [q 15 (.mov (t 3)), q 16 (.mov (t 0)), q 17 (.mov (t 4)), q 18 (.indexAddr 80 (t 16) (t 17)), q 19 (.load 2 (t 18)), q 20 (.bin .add 2 (.const (.int .i64 48)) (t 19)), q 21 (.conv 2 5 (t 20)), q 22 (.bslice 0 22 1 [(0, (t 21))]), q 23 (.blt 0 .append [(t 15), (t 22)] [22, 22]), q 3 (.asg 2 (t 23) 22)] false)) (.region 6 [q 13 (.mov (t 4)), q 14 (.bin .sub 3 (t 13) (.const (.int .i64 1))), q 4 (.asg 0 (t 14) 3)] false)))))) (.seq (.region 8 [q 24 (.mov (t 3)), q 25 (.conv 22 9 (t 24)), q 2 (.asg 0 (t 25) 9)] false) .ret)))))
def impl_row_text_L : Live := [(0, [0]), (1, [0]), (2, []), (3, [0]), (4, [0, 3]), (5, [0, 3, 4]), (6, [0, 3, 4]), (7, [0, 3, 4]), (8, [3]), (100007, [0, 7]), (100012, [0, 3, 4, 12])]
noncomputable def impl_row_text_l1 (a0 : (List Int)) (x36 : Int) (x37 : (List Int)) : Option ((Int × (List Int)) ⊕ (List Int)) :=
  (if (decide (x36 ≥ 0)) then (ifp (0 ≤ x36 ∧ x36 < ((a0.length : Nat) : Int)) ((ifp ((x37.length + ([IntKind.u8.wrap (IntKind.i64.wrap (48 + (rd a0 x36.toNat)))] : List Int).length) * 1 ≤ 140737488355328) ((some (.inl ((IntKind.i64.wrap (x36 - 1), (x37 ++ ([IntKind.u8.wrap (IntKind.i64.wrap (48 + (rd a0 x36.toNat)))])))))))))) else (some (.inr x37)))
noncomputable def impl_row_text (a0 : (List Int)) : Option ByteArray :=
  (if ((a0.length : Int) == 0) then (some (⟨#[48]⟩)) else (Option.bind (α := (List Int)) ((loopM (fun s : (Int × (List Int)) => impl_row_text_l1 a0 s.1 s.2) (IntKind.i64.wrap ((a0.length : Int) - 1), []))) fun x24 => (some (bstr x24))))
theorem impl_row_text_ok (a0 : (List Int)) (r : ByteArray) (h : impl_row_text a0 = some r) : Den Try.prog 120 [(eSi64 a0)] { r := (.str r) } := by
  refine den_of (rs := [(.str r)]) (ac := impl_row_text_c) (L := impl_row_text_L) (n := 26) (m := [(3, 2)]) (c := Try.f120.body.getD .skip) good Try.func120 (by kernel_rfl) (by kernel_rfl) Try.ntmps120 rfl rfl (by kernel_rfl) rfl rfl ?_
  refine a_st (σ' := ⟨[(0, (eSi64 a0))], []⟩) (by kernel_rfl) ?_
  unfold impl_row_text_c
  refine sr (vp (.str (⟨#[]⟩)) rfl (nx ⟨[(0, (eSi64 a0))], []⟩ (by kernel_rfl) (a_seq (sr (vp (eSi64 a0) rfl (vq (i6 (a0.length : Int)) (len_run rfl rfl) trivial (vp (.bool (((a0.length : Int) == 0))) rfl (nx ⟨[(0, (eSi64 a0)), (7, (.bool (((a0.length : Int) == 0))))], []⟩ (by kernel_rfl) ?_))))))))
  cases hb1 : ((a0.length : Int) == 0)
  · have h := ite_f hb1 h
    refine a_cond_f rfl (a_skip (a_next (σ' := ⟨[(0, (eSi64 a0))], []⟩) (by kernel_rfl) (sr (vu (.osl 1300) [(1300, (bk (.row 1 (([]).map (AV.int .u8)))))] rfl trivial rfl (nx ⟨[(0, (eSi64 a0)), (3, (.osl 3))], [(3, (bk (.row 1 (([]).map (AV.int .u8)))))]⟩ (by kernel_rfl) ?_)))))
    obtain ⟨y25, hy26, hk27⟩ := bind_some h
    clear h
    refine a_join (emb := fun (s : (List Int)) => ⟨[(3, (.osl 3))], [(3, (bk (.row 1 (s.map (AV.int .u8)))))]⟩) (pre := fun s => s = y25) ?_ ?_
    · rintro x24 rfl
      have h := hk27
      refine a_st (σ' := ⟨[(3, (.osl 3))], [(3, (bk (.row 1 (x24.map (AV.int .u8)))))]⟩) (by kernel_rfl) (sr (vp (.osl 3) rfl (vu (.str (bstr x24)) [(3, (bf (.row 1 (x24.map (AV.int .u8)))))] (str_run (l := x24) rfl rfl rfl (fun _ => rfl)) (bytes_c _) rfl (vp (.str (bstr x24)) rfl (nx _ rfl (a_ret ?_))))))
      refine ⟨.inr rfl, ?_⟩
      rw [Try.results120]
      cases h
      exact ⟨_, _, _, _, _, rfl, trivial, .inl ⟨rfl, .inl rfl⟩, rfl, rfl⟩
    · have h := hy26
      refine sr (vp (eSi64 a0) rfl (vq (i6 (a0.length : Int)) (len_run rfl rfl) trivial (vp (i6 (IntKind.i64.wrap ((a0.length : Int) - 1))) rfl (vp (i6 (IntKind.i64.wrap ((a0.length : Int) - 1))) rfl (nx ⟨[(0, (eSi64 a0)), (3, (.osl 3)), (4, (i6 (IntKind.i64.wrap ((a0.length : Int) - 1))))], [(3, (bk (.row 1 (([]).map (AV.int .u8)))))]⟩ (by kernel_rfl) (a_block ?_))))))
      refine a_loop (emb := fun (s : (Int × (List Int))) => ⟨[(0, (eSi64 a0)), (3, (.osl 3)), (4, (i6 s.1))], [(3, (bk (.row 1 (s.2.map (AV.int .u8)))))]⟩) (body := (fun s : (Int × (List Int)) => impl_row_text_l1 a0 s.1 s.2)) (G := fun q => some q = some y25) h rfl ?_ (by kernel_rfl)
      rintro X42 ⟨x36, x37⟩ x43 h hX44
      have h : impl_row_text_l1 a0 x36 x37 = some x43 := h
      refine a_st (σ' := ⟨[(0, (eSi64 a0)), (3, (.osl 3)), (4, (i6 x36))], [(3, (bk (.row 1 (x37.map (AV.int .u8)))))]⟩) (by kernel_rfl) (a_seq (sr (vp (i6 x36) rfl (vp (.bool ((decide (x36 ≥ 0)))) rfl (nx ⟨[(0, (eSi64 a0)), (3, (.osl 3)), (4, (i6 x36)), (12, (.bool ((decide (x36 ≥ 0)))))], [(3, (bk (.row 1 (x37.map (AV.int .u8)))))]⟩ (by kernel_rfl) ?_)))))
      cases hb45 : (decide (x36 ≥ 0))
      · have h := ite_f hb45 h
        refine a_cond_f rfl (a_exit (t_exit ?_))
        cases h
        have h := hX44
        refine t_exit (b_exit ?_)
        exact j_leaf x37 (Option.some.inj h) (by kernel_rfl)
      · have h := ite_t hb45 h
        refine a_cond_t rfl (a_skip (a_next (σ' := ⟨[(0, (eSi64 a0)), (3, (.osl 3)), (4, (i6 x36))], [(3, (bk (.row 1 (x37.map (AV.int .u8)))))]⟩) (by kernel_rfl) (a_seq (a_block (a_region (vp (.osl 3) rfl (vp (eSi64 a0) rfl (vp (i6 x36) rfl ?_))))))))
        obtain ⟨hc46, h⟩ := ifp_some h
        refine vq (.ref (.row 1 (a0.map (AV.int .i64))) [x36.toNat] [x36.toNat * 1]) rfl (lmap hc46) ?_
        have hl47 : LdOk [x36.toNat] (.row 1 (a0.map (AV.int .i64))) [x36.toNat * 1] 1 false (i6 (rd a0 x36.toNat)) := (.row (llt hc46) rfl (.nil rfl rfl rfl))
        refine vq (i6 (rd a0 x36.toNat)) (ld_ref (i := ⟨.int .i64, 1, 8, (.int .i64 0)⟩) rfl rfl hl47) hl47.c (vp (i6 (IntKind.i64.wrap (48 + (rd a0 x36.toNat)))) rfl (vp (b8 (IntKind.u8.wrap (IntKind.i64.wrap (48 + (rd a0 x36.toNat))))) rfl (vq (.sl 1 true (([IntKind.u8.wrap (IntKind.i64.wrap (48 + (rd a0 x36.toNat)))]).map (AV.int .u8))) rfl ⟨(Nat.le_of_ble_eq_true rfl), (Nat.le_of_ble_eq_true rfl), (all_cons ⟨(Nat.le_of_ble_eq_true rfl), rfl⟩ all_nil)⟩ ?_)))
        obtain ⟨hc48, h⟩ := ifp_some h
        refine vu (.osl 3300) [(3300, (bk (.row 1 (((x37 ++ ([IntKind.u8.wrap (IntKind.i64.wrap (48 + (rd a0 x36.toNat)))]))).map (AV.int .u8))))), (3, none)] (app_run (i := ⟨.int .u8, 1, 1, (.int .u8 0)⟩) (f := (AV.int .u8)) (l := x37) (l2 := [IntKind.u8.wrap (IntKind.i64.wrap (48 + (rd a0 x36.toNat)))]) rfl rfl rfl rfl (fun _ => rfl) rfl rfl) (app_c (f := (AV.int .u8)) (s := 1) (sz := 1) (by' := 1) (u := []) (id := 3) hc48 (.inr rfl) rfl rfl rfl) rfl (vp (.osl 3300) rfl (a_nil (b_norm (a_next (σ' := ⟨[(0, (eSi64 a0)), (3, (.osl 3)), (4, (i6 x36))], [(3, (bk (.row 1 (((x37 ++ ([IntKind.u8.wrap (IntKind.i64.wrap (48 + (rd a0 x36.toNat)))]))).map (AV.int .u8)))))]⟩) (by kernel_rfl) (a_region (vp (i6 x36) rfl (vp (i6 (IntKind.i64.wrap (x36 - 1))) rfl (vp (i6 (IntKind.i64.wrap (x36 - 1))) rfl (a_nil ?_)))))))))
        cases h
        exact a_again (by kernel_rfl) hX44
  · have h := ite_t hb1 h
    refine a_cond_t rfl (sr (vp (.str (⟨#[48]⟩)) rfl (nx _ rfl (a_ret (t_ret ?_)))))
    refine ⟨.inr rfl, ?_⟩
    rw [Try.results120]
    cases h
    exact ⟨_, _, _, _, _, rfl, trivial, .inl ⟨rfl, .inl rfl⟩, rfl, rfl⟩
def impl_PolyText_c : ACode := (.seq (.region 0 [q 3 (.box 25 (t 1)), q 4 (.asg 0 (.const (.string ⟨#[]⟩)) 9), q 5 (.asg 0 (.const (.int .i64 0)) 2)] false) (.seq (.seq (.region 1 [q 7 (.mov (t 0)), q 8 (.load 25 (t 3)), q 9 (.bslice 0 55 1 [(0, (t 8))]), q 10 (.call 0 (.func 100) [(t 7), (t 9)]), q 6 (.asg 0 (t 10) 2)] false) (.seq (.region 2 [q 11 (.mov (t 6)), q 12 (.bin .neq 2 (t 11) (.const (.int .i64 0)))] false) (.cond (t 12) (.seq (.region 3 [q 13 (.mov (t 6)), q 4 (.asg 0 (.const (.string ⟨#[]⟩)) 9), q 5 (.asg 0 (t 13) 2)] false) .ret) .skip))) (.seq (.region 4 [q 14 (.load 25 (t 3)), q 15 (.call 0 (.func 103) [(t 14)]), q 16 (.call 0 (.func 120) [(t 15)]), q 4 (.asg 0 (t 16) 9), q 5 (.asg 0 (.const (.int .i64 0)) 2)] false) .ret)))
def impl_PolyText_L : Live := [(0, [0, 1]), (1, [0, 3]), (2, [3, 6]), (3, [6]), (4, [3]), (100012, [3, 6, 12])]
noncomputable def impl_PolyText (a0 : Int) (a1 : (Vec Int 64)) : Option (ByteArray × Int) :=
  (Option.bind (impl_polysCode a0 ([a1])) fun r2 => (if (r2 != 0) then (some (⟨#[]⟩, r2)) else (Option.bind (impl_rowOf a1) fun r6 => (Option.bind (impl_row_text r6) fun r8 => (some (r8, 0))))))
theorem impl_PolyText_ok (a0 : Int) (a1 : (Vec Int 64)) (r : (ByteArray × Int)) (h : impl_PolyText a0 a1 = some r) : Den Try.prog 26 [(i6 a0), (eA64u8 a1)] { r := (.tuple [(.str r.1), (i6 r.2)]) } := by
  refine den_of (rs := [(.str r.1), (i6 r.2)]) (ac := impl_PolyText_c) (L := impl_PolyText_L) (n := 17) (m := []) (c := Try.f26.body.getD .skip) good Try.func26 (by kernel_rfl) (by kernel_rfl) Try.ntmps26 rfl rfl (by kernel_rfl) rfl rfl ?_
  refine a_st (σ' := ⟨[(0, (i6 a0)), (1, (eA64u8 a1))], []⟩) (by kernel_rfl) ?_
  unfold impl_PolyText_c
  refine sr (vo 1300 (eA64u8 a1) rfl rfl (vp (.str (⟨#[]⟩)) rfl (vp (i6 0) rfl (nx ⟨[(0, (i6 a0)), (3, (ow 3))], [(3, (bk (eA64u8 a1)))]⟩ (by kernel_rfl) (a_seq (sr (vp (i6 a0) rfl (vl (eA64u8 a1) rfl rfl rfl rfl rfl rfl (vq (.sl 64 true (([a1]).map eA64u8)) rfl ⟨(Nat.le_of_ble_eq_true rfl), (Nat.le_of_ble_eq_true rfl), (all_cons ⟨(Nat.le_of_ble_eq_true rfl), rfl⟩ all_nil)⟩ ?_)))))))))
  obtain ⟨r2, hr3, h⟩ := bind_some h
  refine a_call (args := [(i6 a0), (.sl 64 true (([a1]).map eA64u8))]) (u := []) (r := (i6 r2)) rfl rfl (Den.args (impl_polysCode_ok a0 ([a1]) r2 hr3) rfl rfl (.cons (.refl _) (.cons (.loose _) .nil))) rfl (vp (i6 r2) rfl (nx ⟨[(3, (ow 3)), (6, (i6 r2))], [(3, (bk (eA64u8 a1)))]⟩ (by kernel_rfl) (sr (vp (i6 r2) rfl (vp (.bool (r2 != 0)) rfl (nx ⟨[(3, (ow 3)), (6, (i6 r2)), (12, (.bool (r2 != 0)))], [(3, (bk (eA64u8 a1)))]⟩ (by kernel_rfl) ?_))))))
  cases hb4 : (r2 != 0)
  · have h := ite_f hb4 h
    refine a_cond_f rfl (a_skip (a_next (σ' := ⟨[(3, (ow 3))], [(3, (bk (eA64u8 a1)))]⟩) (by kernel_rfl) (sr (vl (eA64u8 a1) rfl rfl rfl rfl rfl rfl ?_))))
    obtain ⟨r6, hr7, h⟩ := bind_some h
    refine a_call (args := [(eA64u8 a1)]) (u := []) (r := (eSi64 r6)) rfl rfl (impl_rowOf_ok a1 r6 hr7) rfl ?_
    obtain ⟨r8, hr9, h⟩ := bind_some h
    refine a_call (args := [(eSi64 r6)]) (u := []) (r := (.str r8)) rfl rfl (impl_row_text_ok r6 r8 hr9) rfl (vp (.str r8) rfl (vp (i6 0) rfl (nx _ rfl (a_ret ?_))))
    refine ⟨.inr rfl, ?_⟩
    rw [Try.results26]
    cases h
    exact ⟨_, _, _, _, _, rfl, trivial, .inl ⟨rfl, .inl rfl⟩, rfl, ⟨_, _, _, _, _, rfl, trivial, .inl ⟨rfl, .inl rfl⟩, rfl, rfl⟩⟩
  · have h := ite_t hb4 h
    refine a_cond_t rfl (sr (vp (i6 r2) rfl (vp (.str (⟨#[]⟩)) rfl (vp (i6 r2) rfl (nx _ rfl (a_ret (t_ret ?_)))))))
    refine ⟨.inr rfl, ?_⟩
    rw [Try.results26]
    cases h
    exact ⟨_, _, _, _, _, rfl, trivial, .inl ⟨rfl, .inl rfl⟩, rfl, ⟨_, _, _, _, _, rfl, trivial, .inl ⟨rfl, .inl rfl⟩, rfl, rfl⟩⟩
end Go.Proofs.Ytkbnegemdlnncaa
