/- Functions of the program: plain Lean functions, and that the program computes them. Printed by gen.py. -/
import Derived.Test.YtebfhlnfmkhmcaaFnT
import Derived.Test.YtebfhlnfmkhmcaaFn1
import Derived.Test.YtebfhlnfmkhmcaaFn2
import Derived.Test.YtebfhlnfmkhmcaaFn5
namespace Go.Proofs.Ytebfhlnfmkhmcaa
open Go.Abs Go.Proofs
set_option linter.unusedSimpArgs false
set_option linter.unusedVariables false
set_option maxHeartbeats 16000000
attribute [local irreducible] Abs.acode Abs.aops Abs.aopsT Abs.thenK Abs.blockK

def laws_FnExactExponentOf_c : ACode := (.seq (.region 0 [q 3 (.box 22 (t 1)), q 4 (.asg 0 (.const (.bool false)) 4)] false) (.seq (.region 1 [q 10 (.mov (t 0)), q 11 (.load 22 (t 3)), q 12 (.call 0 (.func 7) [(t 11)]), q 13 (.call 0 (.func 12) [(t 10), (t 12)]), q 9 (.mov (t 13)), q 14 (.extract (t 9) 0), q 15 (.extract (t 9) 1), q 5 (.alloc 26), ⟨none, .store 26 (t 5) (t 14), none, []⟩, q 6 (.asg 0 (t 15) 2)] false) (.seq (.region 2 [q 17 (.mov (t 0)), q 18 (.load 22 (t 3)), q 19 (.call 0 (.func 7) [(t 18)]), q 20 (.call 0 (.func 13) [(t 17), (t 19)]), q 16 (.mov (t 20)), q 21 (.extract (t 16) 0), q 22 (.extract (t 16) 1), q 7 (.alloc 26), ⟨none, .store 26 (t 7) (t 21), none, []⟩, q 8 (.asg 0 (t 22) 2)] false) (.seq (.seq (.region 3 [q 23 (.load 26 (t 7)), q 24 (.load 26 (t 5)), q 25 (.call 0 (.func 14) [(t 23), (t 24)]), q 26 (.un .not (t 25)), q 27 (.mov (t 26)), ⟨some 28, .mov (t 8), some (27, false), []⟩, ⟨some 29, .mov (t 6), some (27, false), []⟩, ⟨some 30, .bin .neq 2 (t 28) (t 29), some (27, false), []⟩, q 31 (.pick (t 27) (.const (.bool true)) (t 30))] false) (.cond (t 31) (.seq (.region 4 [q 4 (.asg 0 (.const (.bool false)) 4)] false) .ret) .skip)) (.seq (.region 5 [q 4 (.asg 0 (.const (.bool true)) 4)] false) .ret)))))
def laws_FnExactExponentOf_L : Live := [(0, [0, 1]), (1, [0, 3]), (2, [0, 3, 5, 6]), (3, [5, 6, 7, 8]), (4, []), (5, []), (100031, [31])]
noncomputable def laws_FnExactExponentOf (a0 : Int) (a1 : (Vec Int 64)) : Option Bool :=
  (Option.bind (laws_toPoly a1) fun r2 => (Option.bind (spec_ExponentOf a0 r2) fun r4 => (Option.bind (laws_toPoly a1) fun r8 => (Option.bind (impl_ExponentOf a0 r8) fun r10 => (Option.bind (α := Bool) ((Option.bind (laws_eqPoly r10.1 r4.1) fun r24 => (if (!r24) then (some true) else (some (r10.2 != r4.2))))) fun x18 => (if x18 then (some false) else (some true)))))))
theorem laws_FnExactExponentOf_ok (a0 : Int) (a1 : (Vec Int 64)) (r : Bool) (h : laws_FnExactExponentOf a0 a1 = some r) : Den Try.prog 4 [(i6 a0), (eA64u8 a1)] { r := (.bool r) } := by
  refine den_of (rs := [(.bool r)]) (ac := laws_FnExactExponentOf_c) (L := laws_FnExactExponentOf_L) (n := 32) (m := []) (c := Try.f4.body.getD .skip) good Try.func4 (by kernel_rfl) (by kernel_rfl) Try.ntmps4 rfl rfl (by kernel_rfl) rfl rfl ?_
  refine a_st (σ' := ⟨[(0, (i6 a0)), (1, (eA64u8 a1))], []⟩) (by kernel_rfl) ?_
  unfold laws_FnExactExponentOf_c
  refine sr (vo 1300 (eA64u8 a1) rfl rfl (vp (.bool false) rfl (nx ⟨[(0, (i6 a0)), (3, (ow 3))], [(3, (bk (eA64u8 a1)))]⟩ (by kernel_rfl) (sr (vp (i6 a0) rfl (vl (eA64u8 a1) rfl rfl rfl rfl rfl rfl ?_))))))
  obtain ⟨r2, hr3, h⟩ := bind_some h
  refine a_call (args := [(eA64u8 a1)]) (u := []) (r := (eA64u8 r2)) rfl rfl (laws_toPoly_ok a1 r2 hr3) rfl ?_
  obtain ⟨r4, hr5, h⟩ := bind_some h
  refine a_call (args := [(i6 a0), (eA64u8 r2)]) (u := []) (r := (.tuple [(eA64u8 r4.1), (i6 r4.2)])) rfl rfl (spec_ExponentOf_ok a0 r2 r4 hr5) rfl (vp (.tuple [(eA64u8 r4.1), (i6 r4.2)]) rfl (vb (eA64u8 r4.1) rfl rfl (vb (i6 r4.2) rfl rfl (vo 1500 (eA64u8 ((vrep 64 (0 : Int)))) rfl rfl (vs (eA64u8 r4.1) rfl rfl (fun _ => rfl) rfl rfl rfl rfl rfl rfl (vp (i6 r4.2) rfl (nx ⟨[(0, (i6 a0)), (3, (ow 3)), (5, (ow 5)), (6, (i6 r4.2))], [(3, (bk (eA64u8 a1))), (5, (bk (eA64u8 r4.1)))]⟩ (by kernel_rfl) (sr (vp (i6 a0) rfl ?_)))))))))
  refine vl (eA64u8 a1) rfl rfl rfl rfl rfl rfl ?_
  obtain ⟨r8, hr9, h⟩ := bind_some h
  refine a_call (args := [(eA64u8 a1)]) (u := []) (r := (eA64u8 r8)) rfl rfl (laws_toPoly_ok a1 r8 hr9) rfl ?_
  obtain ⟨r10, hr11, h⟩ := bind_some h
  refine a_call (args := [(i6 a0), (eA64u8 r8)]) (u := []) (r := (.tuple [(eA64u8 r10.1), (i6 r10.2)])) rfl rfl (impl_ExponentOf_ok a0 r8 r10 hr11) rfl (vp (.tuple [(eA64u8 r10.1), (i6 r10.2)]) rfl (vb (eA64u8 r10.1) rfl rfl (vb (i6 r10.2) rfl rfl (vo 1700 (eA64u8 ((vrep 64 (0 : Int)))) rfl rfl (vs (eA64u8 r10.1) rfl rfl (fun _ => rfl) rfl rfl rfl rfl rfl rfl (vp (i6 r10.2) rfl (nx ⟨[(5, (ow 5)), (6, (i6 r4.2)), (7, (ow 7)), (8, (i6 r10.2))], [(5, (bk (eA64u8 r4.1))), (7, (bk (eA64u8 r10.1)))]⟩ (by kernel_rfl) (a_seq ?_))))))))
  obtain ⟨y19, hy20, hk21⟩ := bind_some h
  clear h
  refine a_join (emb := fun (s : Bool) => ⟨[(31, (.bool s))], []⟩) (pre := fun s => s = y19) ?_ ?_
  · rintro x18 rfl
    have h := hk21
    refine a_st (σ' := ⟨[(31, (.bool x18))], []⟩) (by kernel_rfl) ?_
    cases hb27 : x18
    · have h := ite_f hb27 h
      refine a_cond_f rfl (a_skip (a_next (σ' := ⟨[], []⟩) (by kernel_rfl) (sr (vp (.bool true) rfl (nx _ rfl (a_ret ?_))))))
      refine ⟨.inr rfl, ?_⟩
      rw [Try.results4]
      cases h
      exact ⟨_, _, _, _, _, rfl, trivial, .inl ⟨rfl, .inl rfl⟩, rfl, rfl⟩
    · have h := ite_t hb27 h
      refine a_cond_t rfl (sr (vp (.bool false) rfl (nx _ rfl (a_ret (t_ret ?_)))))
      refine ⟨.inr rfl, ?_⟩
      rw [Try.results4]
      cases h
      exact ⟨_, _, _, _, _, rfl, trivial, .inl ⟨rfl, .inl rfl⟩, rfl, rfl⟩
  · have h := hy20
    refine a_region (vl (eA64u8 r10.1) rfl rfl rfl rfl rfl rfl (vl (eA64u8 r4.1) rfl rfl rfl rfl rfl rfl ?_))
    obtain ⟨r24, hr25, h⟩ := bind_some h
    refine a_call (args := [(eA64u8 r10.1), (eA64u8 r4.1)]) (u := []) (r := (.bool r24)) rfl rfl (laws_eqPoly_ok r10.1 r4.1 r24 hr25) rfl (vp (.bool (!r24)) rfl (vp (.bool (!r24)) rfl ?_))
    cases hb26 : (!r24)
    · have h := ite_f hb26 h
      refine gp (i6 r10.2) rfl rfl (gp (i6 r4.2) rfl rfl (gp (.bool (r10.2 != r4.2)) rfl rfl (vp (.bool (r10.2 != r4.2)) rfl (a_nil ?_))))
      exact j_leaf (r10.2 != r4.2) (Option.some.inj h) (by kernel_rfl)
    · have h := ite_t hb26 h
      refine a_gskip rfl (a_gskip rfl (a_gskip rfl (vp (.bool true) rfl (a_nil ?_))))
      exact j_leaf true (Option.some.inj h) (by kernel_rfl)
def spec_l01Times_c : ACode := (.seq (.region 0 [q 4 (.box 26 (t 1)), q 5 (.box 26 (t 2)), q 6 (.alloc 26), q 7 (.asg 0 (.const (.bool false)) 4)] false) (.seq (.region 1 [q 13 (.load 26 (t 4)), ⟨some 14, .call 0 (.func 34) [(t 13)], none, [0]⟩, q 15 (.load 26 (t 5)), ⟨some 16, .call 0 (.func 34) [(t 15)], none, [2, 1]⟩, q 17 (.build 26 []), q 10 (.alloc 26), ⟨some 8, .asg 0 (t 14) 2, none, [1, 3, 0, 1, 5]⟩, ⟨some 9, .asg 0 (t 16) 2, none, [3, 6, 0, 1, 2, 3, 5, 6]⟩, ⟨none, .store 26 (t 10) (t 17), none, [5, 4, 7, 0, 1, 2, 3, 4, 5, 6, 7]⟩] true) (.seq (.seq (.region 2 [q 18 (.mov (t 8)), q 19 (.bin .lss 2 (t 18) (.const (.int .i64 0))), q 20 (.mov (t 19)), ⟨some 21, .mov (t 9), some (20, false), []⟩, ⟨some 22, .bin .lss 2 (t 21) (.const (.int .i64 0)), some (20, false), []⟩, q 23 (.pick (t 20) (.const (.bool true)) (t 22))] false) (.cond (t 23) (.seq (.region 3 [q 24 (.load 26 (t 10)), ⟨none, .store 26 (t 6) (t 24), none, []⟩, q 7 (.asg 0 (.const (.bool true)) 4)] false) .ret) .skip)) (.seq (.seq (.region 4 [q 25 (.mov (t 8)), q 26 (.mov (t 9)), q 27 (.bin .add 2 (t 25) (t 26)), q 28 (.bin .gtr 2 (t 27) (.const (.int .i64 63)))] false) (.cond (t 28) (.seq (.region 5 [q 29 (.load 26 (t 10)), ⟨none, .store 26 (t 6) (t 29), none, []⟩, q 7 (.asg 0 (.const (.bool false)) 4)] false) .ret) .skip)) (.seq (.seq (.region 6 [q 11 (.asg 0 (.const (.int .i64 0)) 2)] false) (.block 0 (.loop (.seq (.seq (.region 7 [q 30 (.mov (t 11)), q 31 (.mov (t 8)), q 32 (.bin .leq 2 (t 30) (t 31))] false) (.cond (t 32) .skip (.exit 0))) (.seq (.block 1 (.seq (.region 9 [q 12 (.asg 0 (.const (.int .i64 0)) 2)] false) (.block 2 (.loop (.seq (.seq (.region 10 [q 35 (.mov (t 12)), q 36 (.mov (t 9)), q 37 (.bin .leq 2 (t 35) (t 36)), q 38 (.mov (t 37)), ⟨some 39, .mov (t 11), some (38, true), []⟩, ⟨some 40, .indexAddr 26 (t 4) (t 39), some (38, true), []⟩, ⟨some 41, .load 5 (t 40), some (38, true), []⟩, ⟨some 42, .bin .neq 5 (t 41) (.const (.int .u8 0)), some (38, true), []⟩, q 43 (.pick (t 38) (t 42) (.const (.bool false)))] false) (.cond (t 43) .skip (.exit 2))) (.seq (.block 3 (.region 12 [q 46 (.mov (t 11)), q 47 (.mov (t 12)), ⟨some 48, .bin .add 2 (t 46) (t 47), none, [0, 1]⟩, q 49 (.mov (t 11)), q 50 (.mov (t 12)), ⟨some 51, .bin .add 2 (t 49) (t 50), none, [3, 4]⟩, ⟨some 52, .indexAddr 26 (t 10) (t 51), none, [5]⟩, ⟨some 53, .load 5 (t 52), none, [6]⟩, ⟨some 54, .conv 5 2 (t 53), none, [7]⟩, q 55 (.mov (t 11)), ⟨some 56, .indexAddr 26 (t 4) (t 55), none, [9]⟩, ⟨some 57, .load 5 (t 56), none, [10]⟩, ⟨some 58, .conv 5 2 (t 57), none, [11]⟩, q 59 (.mov (t 12)), ⟨some 60, .indexAddr 26 (t 5) (t 59), none, [13]⟩, ⟨some 61, .load 5 (t 60), none, [14]⟩, ⟨some 62, .conv 5 2 (t 61), none, [15]⟩, ⟨some 63, .bin .mul 2 (t 58) (t 62), none, [12, 16]⟩, ⟨some 64, .bin .add 2 (t 54) (t 63), none, [8, 17]⟩, q 65 (.mov (t 0)), ⟨some 66, .bin .rem 2 (t 64) (t 65), none, [18, 19]⟩, ⟨some 67, .conv 2 5 (t 66), none, [20]⟩, ⟨some 68, .indexAddr 26 (t 10) (t 48), none, [2, 0, 1, 2, 3, 4, 5, 6, 7, 8, 9, 10, 11, 12, 13, 14, 15, 16, 17, 18, 19, 20, 21]⟩, ⟨none, .store 5 (t 68) (t 67), none, [22, 21, 0, 1, 2, 3, 4, 5, 6, 7, 8, 9, 10, 11, 12, 13, 14, 15, 16, 17, 18, 19, 20, 21]⟩] true)) (.region 11 [q 44 (.mov (t 12)), q 45 (.bin .add 2 (t 44) (.const (.int .i64 1))), q 12 (.asg 0 (t 45) 2)] false))))))) (.region 8 [q 33 (.mov (t 11)), q 34 (.bin .add 2 (t 33) (.const (.int .i64 1))), q 11 (.asg 0 (t 34) 2)] false)))))) (.seq (.region 13 [q 69 (.load 26 (t 10)), ⟨none, .store 26 (t 6) (t 69), none, []⟩, q 7 (.asg 0 (.const (.bool true)) 4)] false) .ret))))))
def spec_l01Times_L : Live := [(0, [0, 1, 2]), (1, [0, 4, 5, 6]), (2, [0, 4, 5, 6, 8, 9, 10]), (3, [6, 10]), (4, [0, 4, 5, 6, 8, 9, 10]), (5, [6, 10]), (6, [0, 4, 5, 6, 8, 9, 10]), (7, [0, 4, 5, 6, 8, 9, 10, 11]), (8, [0, 4, 5, 6, 8, 9, 10, 11]), (9, [0, 4, 5, 6, 8, 9, 10, 11]), (10, [0, 4, 5, 6, 8, 9, 10, 11, 12]), (11, [0, 4, 5, 6, 8, 9, 10, 11, 12]), (12, [0, 4, 5, 6, 8, 9, 10, 11, 12]), (13, [6, 10]), (100023, [0, 4, 5, 6, 8, 9, 10, 23]), (100028, [0, 4, 5, 6, 8, 9, 10, 28]), (100032, [0, 4, 5, 6, 8, 9, 10, 11, 32]), (100043, [0, 4, 5, 6, 8, 9, 10, 11, 12, 43])]
noncomputable def spec_l01Times_l2 (r12 : Int) (x1081 : Int) (a1 : (Vec Int 64)) (a2 : (Vec Int 64)) (a0 : Int) (x1524 : Int) (x1525 : (Vec Int 64)) : Option ((Int × (Vec Int 64)) ⊕ (Vec Int 64)) :=
  (Option.bind (α := Bool) ((if (decide (x1524 ≤ r12)) then (ifp (0 ≤ x1081 ∧ x1081 < ((64 : Nat) : Int)) ((some (((rd a1.1 x1081.toNat) != 0))))) else (some false))) fun x1573 => (if x1573 then (ifp (0 ≤ IntKind.i64.wrap (x1081 + x1524) ∧ IntKind.i64.wrap (x1081 + x1524) < ((64 : Nat) : Int)) ((letp (IntKind.i64.wrap ((rd x1525.1 (IntKind.i64.wrap (x1081 + x1524)).toNat))) fun x1598 => (ifp (0 ≤ x1081 ∧ x1081 < ((64 : Nat) : Int)) ((ifp (0 ≤ x1524 ∧ x1524 < ((64 : Nat) : Int)) ((letp (IntKind.i64.wrap ((IntKind.i64.wrap (rd a1.1 x1081.toNat)) * (IntKind.i64.wrap (rd a2.1 x1524.toNat)))) fun x1604 => (ifp (a0 ≠ 0) ((letp (IntKind.u8.wrap (Int.tmod (IntKind.i64.wrap (x1598 + x1604)) a0)) fun x1607 => (ifp (0 ≤ IntKind.i64.wrap (x1081 + x1524) ∧ IntKind.i64.wrap (x1081 + x1524) < ((64 : Nat) : Int)) ((some (.inl ((IntKind.i64.wrap (x1524 + 1), (vset x1525 (IntKind.i64.wrap (x1081 + x1524)).toNat x1607)))))))))))))))))) else (some (.inr x1525))))
noncomputable def spec_l01Times_l1 (r9 : Int) (r12 : Int) (a1 : (Vec Int 64)) (a2 : (Vec Int 64)) (a0 : Int) (x1081 : Int) (x1082 : (Vec Int 64)) : Option ((Int × (Vec Int 64)) ⊕ (Vec Int 64)) :=
  (if (decide (x1081 ≤ r9)) then (Option.bind (α := (Vec Int 64)) ((loopM (fun s : (Int × (Vec Int 64)) => spec_l01Times_l2 r12 x1081 a1 a2 a0 s.1 s.2) (0, x1082))) fun x1479 => (some (.inl ((IntKind.i64.wrap (x1081 + 1), x1479))))) else (some (.inr x1082)))
noncomputable def spec_l01Times (a0 : Int) (a1 : (Vec Int 64)) (a2 : (Vec Int 64)) : Option ((Vec Int 64) × Bool) :=
  (Option.bind (spec_l01Deg a1) fun r9 => (Option.bind (spec_l01Deg a2) fun r12 => (Option.bind (α := Bool) ((if (decide (r9 < 0)) then (some true) else (some ((decide (r12 < 0)))))) fun x16 => (if x16 then (some (((vrep 64 (0 : Int)), true))) else (if (decide ((IntKind.i64.wrap (r9 + r12)) > 63)) then (some (((vrep 64 (0 : Int)), false))) else (Option.bind (α := (Vec Int 64)) ((loopM (fun s : (Int × (Vec Int 64)) => spec_l01Times_l1 r9 r12 a1 a2 a0 s.1 s.2) (0, (vrep 64 (0 : Int))))) fun x814 => (some (x814, true))))))))
theorem spec_l01Times_ok (a0 : Int) (a1 : (Vec Int 64)) (a2 : (Vec Int 64)) (r : ((Vec Int 64) × Bool)) (h : spec_l01Times a0 a1 a2 = some r) : Den Try.prog 80 [(i6 a0), (eA64u8 a1), (eA64u8 a2)] { r := (.tuple [(eA64u8 r.1), (.bool r.2)]) } := by
  refine den_of (rs := [(eA64u8 r.1), (.bool r.2)]) (ac := spec_l01Times_c) (L := spec_l01Times_L) (n := 70) (m := []) (c := Try.f80.body.getD .skip) good Try.func80 (by kernel_rfl) (by kernel_rfl) Try.ntmps80 rfl rfl (by kernel_rfl) rfl rfl ?_
  refine a_st (σ' := ⟨[(0, (i6 a0)), (1, (eA64u8 a1)), (2, (eA64u8 a2))], []⟩) (by kernel_rfl) ?_
  unfold spec_l01Times_c
  refine sr (vo 1400 (eA64u8 a1) rfl rfl (vo 1500 (eA64u8 a2) rfl rfl (vo 1600 (eA64u8 ((vrep 64 (0 : Int)))) rfl rfl (vp (.bool false) rfl (nx ⟨[(0, (i6 a0)), (4, (ow 4)), (5, (ow 5)), (6, (ow 6))], [(4, (bk (eA64u8 a1))), (5, (bk (eA64u8 a2))), (6, (bk (eA64u8 ((vrep 64 (0 : Int))))))]⟩ (by kernel_rfl) (a_seq (a_draw [⟨[4], [], [], []⟩, ⟨[], [], [], [0]⟩, ⟨[5], [], [], []⟩, ⟨[], [], [], [0, 1, 2]⟩, ⟨[], [], [], []⟩, ⟨[2000], [2000], [2000], []⟩, ⟨[], [], [], [0, 1, 2, 3, 5]⟩, ⟨[], [], [], [0, 1, 2, 3, 5, 6]⟩, ⟨[2000], [2000], [], [0, 1, 2, 3, 4, 5, 6, 7]⟩] (by kernel_rfl) (d_cons (vl (eA64u8 a1) rfl rfl rfl rfl rfl rfl ?_)))))))))
  refine d_next (by kernel_rfl) (d_cons ?_)
  obtain ⟨r9, hr10, h⟩ := bind_some h
  refine a_call (args := [(eA64u8 a1)]) (u := []) (r := (i6 r9)) rfl rfl (spec_l01Deg_ok a1 r9 hr10) rfl (d_next (by kernel_rfl) (d_cons (vl (eA64u8 a2) rfl rfl rfl rfl rfl rfl (d_next (by kernel_rfl) (d_cons ?_)))))
  obtain ⟨r12, hr13, h⟩ := bind_some h
  refine a_call (args := [(eA64u8 a2)]) (u := []) (r := (i6 r12)) rfl rfl (spec_l01Deg_ok a2 r12 hr13) rfl (d_next (by kernel_rfl) (d_cons (vq (eA64u8 ((vrep 64 (0 : Int)))) rfl ⟨⟨_, rfl, rfl⟩, all_nil⟩ (d_next (by kernel_rfl) (d_cons (vo 2000 (eA64u8 ((vrep 64 (0 : Int)))) rfl rfl (d_next (by kernel_rfl) (dp (i6 r9) rfl (by kernel_rfl) (dp (i6 r12) rfl (by kernel_rfl) ?_)))))))))
  refine d_cons (vs (eA64u8 ((vrep 64 (0 : Int)))) rfl rfl (fun _ => rfl) rfl rfl rfl rfl rfl rfl (d_next (by kernel_rfl) (d_nil (a_next (σ' := ⟨[(0, (i6 a0)), (4, (ow 4)), (5, (ow 5)), (6, (ow 6)), (8, (i6 r9)), (9, (i6 r12)), (10, (ow 10))], [(4, (bk (eA64u8 a1))), (5, (bk (eA64u8 a2))), (6, (bk (eA64u8 ((vrep 64 (0 : Int)))))), (10, (bk (eA64u8 ((vrep 64 (0 : Int))))))]⟩) (by kernel_rfl) (a_seq ?_)))))
  obtain ⟨y17, hy18, hk19⟩ := bind_some h
  clear h
  refine a_join (emb := fun (s : Bool) => ⟨[(0, (i6 a0)), (4, (ow 4)), (5, (ow 5)), (6, (ow 6)), (8, (i6 r9)), (9, (i6 r12)), (10, (ow 10)), (23, (.bool s))], [(4, (bk (eA64u8 a1))), (5, (bk (eA64u8 a2))), (6, (bk (eA64u8 ((vrep 64 (0 : Int)))))), (10, (bk (eA64u8 ((vrep 64 (0 : Int))))))]⟩) (pre := fun s => s = y17) ?_ ?_
  · rintro x16 rfl
    have h := hk19
    refine a_st (σ' := ⟨[(0, (i6 a0)), (4, (ow 4)), (5, (ow 5)), (6, (ow 6)), (8, (i6 r9)), (9, (i6 r12)), (10, (ow 10)), (23, (.bool x16))], [(4, (bk (eA64u8 a1))), (5, (bk (eA64u8 a2))), (6, (bk (eA64u8 ((vrep 64 (0 : Int)))))), (10, (bk (eA64u8 ((vrep 64 (0 : Int))))))]⟩) (by kernel_rfl) ?_
    cases hb21 : x16
    · have h := ite_f hb21 h
      refine a_cond_f rfl (a_skip (a_next (σ' := ⟨[(0, (i6 a0)), (4, (ow 4)), (5, (ow 5)), (6, (ow 6)), (8, (i6 r9)), (9, (i6 r12)), (10, (ow 10))], [(4, (bk (eA64u8 a1))), (5, (bk (eA64u8 a2))), (6, (bk (eA64u8 ((vrep 64 (0 : Int)))))), (10, (bk (eA64u8 ((vrep 64 (0 : Int))))))]⟩) (by kernel_rfl) (a_seq (sr (vp (i6 r9) rfl (vp (i6 r12) rfl (vp (i6 (IntKind.i64.wrap (r9 + r12))) rfl (vp (.bool ((decide ((IntKind.i64.wrap (r9 + r12)) > 63)))) rfl (nx ⟨[(0, (i6 a0)), (4, (ow 4)), (5, (ow 5)), (6, (ow 6)), (8, (i6 r9)), (9, (i6 r12)), (10, (ow 10)), (28, (.bool ((decide ((IntKind.i64.wrap (r9 + r12)) > 63)))))], [(4, (bk (eA64u8 a1))), (5, (bk (eA64u8 a2))), (6, (bk (eA64u8 ((vrep 64 (0 : Int)))))), (10, (bk (eA64u8 ((vrep 64 (0 : Int))))))]⟩ (by kernel_rfl) ?_)))))))))
      cases hb22 : (decide ((IntKind.i64.wrap (r9 + r12)) > 63))
      · have h := ite_f hb22 h
        refine a_cond_f rfl (a_skip (a_next (σ' := ⟨[(0, (i6 a0)), (4, (ow 4)), (5, (ow 5)), (6, (ow 6)), (8, (i6 r9)), (9, (i6 r12)), (10, (ow 10))], [(4, (bk (eA64u8 a1))), (5, (bk (eA64u8 a2))), (6, (bk (eA64u8 ((vrep 64 (0 : Int)))))), (10, (bk (eA64u8 ((vrep 64 (0 : Int))))))]⟩) (by kernel_rfl) ?_))
        obtain ⟨y815, hy816, hk817⟩ := bind_some h
        clear h
        refine a_join (emb := fun (s : (Vec Int 64)) => ⟨[(6, (ow 6)), (10, (ow 10))], [(6, (bk (eA64u8 ((vrep 64 (0 : Int)))))), (10, (bk (eA64u8 s)))]⟩) (pre := fun s => s = y815) ?_ ?_
        · rintro x814 rfl
          have h := hk817
          refine a_st (σ' := ⟨[(6, (ow 6)), (10, (ow 10))], [(6, (bk (eA64u8 ((vrep 64 (0 : Int)))))), (10, (bk (eA64u8 x814)))]⟩) (by kernel_rfl) (sr (vl (eA64u8 x814) rfl rfl rfl rfl rfl rfl (vs (eA64u8 x814) rfl rfl (fun _ => rfl) rfl rfl rfl rfl rfl rfl (vp (.bool true) rfl (nx _ rfl (a_ret ?_))))))
          have hl1615 : LdOk [] (eA64u8 x814) [] 64 true (eA64u8 x814) := (.nil rfl rfl rfl)
          refine ⟨.inr rfl, ?_⟩
          rw [Try.results80]
          cases h
          exact ⟨_, _, _, _, _, ld_own (i := ⟨.arr 64 5, 64, 64, (eA64u8 (vrep 64 (0 : Int)))⟩) rfl rfl rfl hl1615, hl1615.c, .inl ⟨rfl, .inl rfl⟩, rfl, ⟨_, _, _, _, _, rfl, trivial, .inl ⟨rfl, .inl rfl⟩, rfl, rfl⟩⟩
        · have h := hy816
          refine sr (vp (i6 0) rfl (nx ⟨[(0, (i6 a0)), (4, (ow 4)), (5, (ow 5)), (6, (ow 6)), (8, (i6 r9)), (9, (i6 r12)), (10, (ow 10)), (11, (i6 0))], [(4, (bk (eA64u8 a1))), (5, (bk (eA64u8 a2))), (6, (bk (eA64u8 ((vrep 64 (0 : Int)))))), (10, (bk (eA64u8 ((vrep 64 (0 : Int))))))]⟩ (by kernel_rfl) (a_block ?_)))
          refine a_loop (emb := fun (s : (Int × (Vec Int 64))) => ⟨[(0, (i6 a0)), (4, (ow 4)), (5, (ow 5)), (6, (ow 6)), (8, (i6 r9)), (9, (i6 r12)), (10, (ow 10)), (11, (i6 s.1))], [(4, (bk (eA64u8 a1))), (5, (bk (eA64u8 a2))), (6, (bk (eA64u8 ((vrep 64 (0 : Int)))))), (10, (bk (eA64u8 s.2)))]⟩) (body := (fun s : (Int × (Vec Int 64)) => spec_l01Times_l1 r9 r12 a1 a2 a0 s.1 s.2)) (G := fun q => some q = some y815) h rfl ?_ (by kernel_rfl)
          rintro X1346 ⟨x1081, x1082⟩ x1347 h hX1348
          have h : spec_l01Times_l1 r9 r12 a1 a2 a0 x1081 x1082 = some x1347 := h
          refine a_st (σ' := ⟨[(0, (i6 a0)), (4, (ow 4)), (5, (ow 5)), (6, (ow 6)), (8, (i6 r9)), (9, (i6 r12)), (10, (ow 10)), (11, (i6 x1081))], [(4, (bk (eA64u8 a1))), (5, (bk (eA64u8 a2))), (6, (bk (eA64u8 ((vrep 64 (0 : Int)))))), (10, (bk (eA64u8 x1082)))]⟩) (by kernel_rfl) (a_seq (sr (vp (i6 x1081) rfl (vp (i6 r9) rfl (vp (.bool ((decide (x1081 ≤ r9)))) rfl (nx ⟨[(0, (i6 a0)), (4, (ow 4)), (5, (ow 5)), (6, (ow 6)), (8, (i6 r9)), (9, (i6 r12)), (10, (ow 10)), (11, (i6 x1081)), (32, (.bool ((decide (x1081 ≤ r9)))))], [(4, (bk (eA64u8 a1))), (5, (bk (eA64u8 a2))), (6, (bk (eA64u8 ((vrep 64 (0 : Int)))))), (10, (bk (eA64u8 x1082)))]⟩ (by kernel_rfl) ?_))))))
          cases hb1349 : (decide (x1081 ≤ r9))
          · have h := ite_f hb1349 h
            refine a_cond_f rfl (a_exit (t_exit ?_))
            cases h
            have h := hX1348
            refine t_exit (b_exit ?_)
            exact j_leaf x1082 (Option.some.inj h) (by kernel_rfl)
          · have h := ite_t hb1349 h
            refine a_cond_t rfl (a_skip (a_next (σ' := ⟨[(0, (i6 a0)), (4, (ow 4)), (5, (ow 5)), (6, (ow 6)), (8, (i6 r9)), (9, (i6 r12)), (10, (ow 10)), (11, (i6 x1081))], [(4, (bk (eA64u8 a1))), (5, (bk (eA64u8 a2))), (6, (bk (eA64u8 ((vrep 64 (0 : Int)))))), (10, (bk (eA64u8 x1082)))]⟩) (by kernel_rfl) ?_))
            obtain ⟨y1480, hy1481, hk1482⟩ := bind_some h
            clear h
            refine a_join (emb := fun (s : (Vec Int 64)) => ⟨[(0, (i6 a0)), (4, (ow 4)), (5, (ow 5)), (6, (ow 6)), (8, (i6 r9)), (9, (i6 r12)), (10, (ow 10)), (11, (i6 x1081))], [(4, (bk (eA64u8 a1))), (5, (bk (eA64u8 a2))), (6, (bk (eA64u8 ((vrep 64 (0 : Int)))))), (10, (bk (eA64u8 s)))]⟩) (pre := fun s => s = y1480) ?_ ?_
            · rintro x1479 rfl
              have h := hk1482
              refine a_st (σ' := ⟨[(0, (i6 a0)), (4, (ow 4)), (5, (ow 5)), (6, (ow 6)), (8, (i6 r9)), (9, (i6 r12)), (10, (ow 10)), (11, (i6 x1081))], [(4, (bk (eA64u8 a1))), (5, (bk (eA64u8 a2))), (6, (bk (eA64u8 ((vrep 64 (0 : Int)))))), (10, (bk (eA64u8 x1479)))]⟩) (by kernel_rfl) (a_region (vp (i6 x1081) rfl (vp (i6 (IntKind.i64.wrap (x1081 + 1))) rfl (vp (i6 (IntKind.i64.wrap (x1081 + 1))) rfl (a_nil ?_)))))
              cases h
              exact a_again (by kernel_rfl) hX1348
            · have h := hy1481
              refine a_block (sr (vp (i6 0) rfl (nx ⟨[(0, (i6 a0)), (4, (ow 4)), (5, (ow 5)), (6, (ow 6)), (8, (i6 r9)), (9, (i6 r12)), (10, (ow 10)), (11, (i6 x1081)), (12, (i6 0))], [(4, (bk (eA64u8 a1))), (5, (bk (eA64u8 a2))), (6, (bk (eA64u8 ((vrep 64 (0 : Int)))))), (10, (bk (eA64u8 x1082)))]⟩ (by kernel_rfl) (a_block ?_))))
              refine a_loop (emb := fun (s : (Int × (Vec Int 64))) => ⟨[(0, (i6 a0)), (4, (ow 4)), (5, (ow 5)), (6, (ow 6)), (8, (i6 r9)), (9, (i6 r12)), (10, (ow 10)), (11, (i6 x1081)), (12, (i6 s.1))], [(4, (bk (eA64u8 a1))), (5, (bk (eA64u8 a2))), (6, (bk (eA64u8 ((vrep 64 (0 : Int)))))), (10, (bk (eA64u8 s.2)))]⟩) (body := (fun s : (Int × (Vec Int 64)) => spec_l01Times_l2 r12 x1081 a1 a2 a0 s.1 s.2)) (G := fun q => some q = some y1480) h rfl ?_ (by kernel_rfl)
              rintro X1567 ⟨x1524, x1525⟩ x1568 h hX1569
              have h : spec_l01Times_l2 r12 x1081 a1 a2 a0 x1524 x1525 = some x1568 := h
              refine a_st (σ' := ⟨[(0, (i6 a0)), (4, (ow 4)), (5, (ow 5)), (6, (ow 6)), (8, (i6 r9)), (9, (i6 r12)), (10, (ow 10)), (11, (i6 x1081)), (12, (i6 x1524))], [(4, (bk (eA64u8 a1))), (5, (bk (eA64u8 a2))), (6, (bk (eA64u8 ((vrep 64 (0 : Int)))))), (10, (bk (eA64u8 x1525)))]⟩) (by kernel_rfl) (a_seq ?_)
              obtain ⟨y1574, hy1575, hk1576⟩ := bind_some h
              clear h
              refine a_join (emb := fun (s : Bool) => ⟨[(0, (i6 a0)), (4, (ow 4)), (5, (ow 5)), (6, (ow 6)), (8, (i6 r9)), (9, (i6 r12)), (10, (ow 10)), (11, (i6 x1081)), (12, (i6 x1524)), (43, (.bool s))], [(4, (bk (eA64u8 a1))), (5, (bk (eA64u8 a2))), (6, (bk (eA64u8 ((vrep 64 (0 : Int)))))), (10, (bk (eA64u8 x1525)))]⟩) (pre := fun s => s = y1574) ?_ ?_
              · rintro x1573 rfl
                have h := hk1576
                refine a_st (σ' := ⟨[(0, (i6 a0)), (4, (ow 4)), (5, (ow 5)), (6, (ow 6)), (8, (i6 r9)), (9, (i6 r12)), (10, (ow 10)), (11, (i6 x1081)), (12, (i6 x1524)), (43, (.bool x1573))], [(4, (bk (eA64u8 a1))), (5, (bk (eA64u8 a2))), (6, (bk (eA64u8 ((vrep 64 (0 : Int)))))), (10, (bk (eA64u8 x1525)))]⟩) (by kernel_rfl) ?_
                cases hb1580 : x1573
                · have h := ite_f hb1580 h
                  refine a_cond_f rfl (a_exit (t_exit ?_))
                  cases h
                  have h := hX1569
                  refine t_exit (b_exit (b_norm ?_))
                  exact j_leaf x1525 (Option.some.inj h) (by kernel_rfl)
                · have h := ite_t hb1580 h
                  refine a_cond_t rfl (a_skip (a_next (σ' := ⟨[(0, (i6 a0)), (4, (ow 4)), (5, (ow 5)), (6, (ow 6)), (8, (i6 r9)), (9, (i6 r12)), (10, (ow 10)), (11, (i6 x1081)), (12, (i6 x1524))], [(4, (bk (eA64u8 a1))), (5, (bk (eA64u8 a2))), (6, (bk (eA64u8 ((vrep 64 (0 : Int)))))), (10, (bk (eA64u8 x1525)))]⟩) (by kernel_rfl) (a_seq (a_block (a_draw [⟨[], [], [], []⟩, ⟨[], [], [], []⟩, ⟨[], [], [], [0, 1]⟩, ⟨[], [], [], []⟩, ⟨[], [], [], []⟩, ⟨[], [], [], [3, 4]⟩, ⟨[10], [], [10], [3, 4, 5]⟩, ⟨[10], [], [], [3, 4, 5, 6]⟩, ⟨[], [], [], [3, 4, 5, 6, 7]⟩, ⟨[], [], [], []⟩, ⟨[4], [], [4], [9]⟩, ⟨[4], [], [], [9, 10]⟩, ⟨[], [], [], [9, 10, 11]⟩, ⟨[], [], [], []⟩, ⟨[5], [], [5], [13]⟩, ⟨[5], [], [], [13, 14]⟩, ⟨[], [], [], [13, 14, 15]⟩, ⟨[], [], [], [9, 10, 11, 12, 13, 14, 15, 16]⟩, ⟨[], [], [], [3, 4, 5, 6, 7, 8, 9, 10, 11, 12, 13, 14, 15, 16, 17]⟩, ⟨[], [], [], []⟩, ⟨[], [], [], [3, 4, 5, 6, 7, 8, 9, 10, 11, 12, 13, 14, 15, 16, 17, 18, 19]⟩, ⟨[], [], [], [3, 4, 5, 6, 7, 8, 9, 10, 11, 12, 13, 14, 15, 16, 17, 18, 19, 20]⟩, ⟨[10], [], [10], [0, 1, 2, 3, 4, 5, 6, 7, 8, 9, 10, 11, 12, 13, 14, 15, 16, 17, 18, 19, 20, 21]⟩, ⟨[10], [10], [], [0, 1, 2, 3, 4, 5, 6, 7, 8, 9, 10, 11, 12, 13, 14, 15, 16, 17, 18, 19, 20, 21, 22]⟩] (by kernel_rfl) (dp (i6 x1081) rfl (by kernel_rfl) (dp (i6 x1524) rfl (by kernel_rfl) (dp (i6 (IntKind.i64.wrap (x1081 + x1524))) rfl (by kernel_rfl) (dp (i6 x1081) rfl (by kernel_rfl) ?_)))))))))
                  refine dp (i6 x1524) rfl (by kernel_rfl) (dp (i6 (IntKind.i64.wrap (x1081 + x1524))) rfl (by kernel_rfl) (d_cons ?_))
                  obtain ⟨hc1596, h⟩ := ifp_some h
                  refine vq (.own 10 [(IntKind.i64.wrap (x1081 + x1524)).toNat] [(IntKind.i64.wrap (x1081 + x1524)).toNat * 1]) rfl hc1596 (d_next (by kernel_rfl) (d_cons ?_))
                  have hl1597 : LdOk [(IntKind.i64.wrap (x1081 + x1524)).toNat] (eA64u8 x1525) [(IntKind.i64.wrap (x1081 + x1524)).toNat * 1] 1 false (b8 ((rd x1525.1 (IntKind.i64.wrap (x1081 + x1524)).toNat))) := (.arr (vlt x1525 hc1596) rfl (.nil rfl rfl rfl))
                  refine vq (b8 ((rd x1525.1 (IntKind.i64.wrap (x1081 + x1524)).toNat))) (ld_own (i := ⟨.int .u8, 1, 1, (.int .u8 0)⟩) rfl rfl rfl hl1597) hl1597.c (d_next (by kernel_rfl) (d_cons ?_))
                  obtain ⟨x1598, hx1599, h⟩ := letp_some h
                  refine a_val' (v := (i6 (IntKind.i64.wrap ((rd x1525.1 (IntKind.i64.wrap (x1081 + x1524)).toNat))))) (v' := (i6 x1598)) (u := []) (u' := []) rfl (congrArg (fun z => ((i6 z) : AV)) hx1599) rfl trivial rfl (d_next (by kernel_rfl) (dp (i6 x1081) rfl (by kernel_rfl) (d_cons ?_)))
                  obtain ⟨hc1600, h⟩ := ifp_some h
                  refine vq (.own 4 [x1081.toNat] [x1081.toNat * 1]) rfl hc1600 (d_next (by kernel_rfl) (d_cons ?_))
                  have hl1601 : LdOk [x1081.toNat] (eA64u8 a1) [x1081.toNat * 1] 1 false (b8 (rd a1.1 x1081.toNat)) := (.arr (vlt a1 hc1600) rfl (.nil rfl rfl rfl))
                  refine vq (b8 (rd a1.1 x1081.toNat)) (ld_own (i := ⟨.int .u8, 1, 1, (.int .u8 0)⟩) rfl rfl rfl hl1601) hl1601.c (d_next (by kernel_rfl) (dp (i6 (IntKind.i64.wrap (rd a1.1 x1081.toNat))) rfl (by kernel_rfl) (dp (i6 x1524) rfl (by kernel_rfl) (d_cons ?_))))
                  obtain ⟨hc1602, h⟩ := ifp_some h
                  refine vq (.own 5 [x1524.toNat] [x1524.toNat * 1]) rfl hc1602 (d_next (by kernel_rfl) (d_cons ?_))
                  have hl1603 : LdOk [x1524.toNat] (eA64u8 a2) [x1524.toNat * 1] 1 false (b8 (rd a2.1 x1524.toNat)) := (.arr (vlt a2 hc1602) rfl (.nil rfl rfl rfl))
                  refine vq (b8 (rd a2.1 x1524.toNat)) (ld_own (i := ⟨.int .u8, 1, 1, (.int .u8 0)⟩) rfl rfl rfl hl1603) hl1603.c (d_next (by kernel_rfl) (dp (i6 (IntKind.i64.wrap (rd a2.1 x1524.toNat))) rfl (by kernel_rfl) (d_cons ?_)))
                  obtain ⟨x1604, hx1605, h⟩ := letp_some h
                  refine a_val' (v := (i6 (IntKind.i64.wrap ((IntKind.i64.wrap (rd a1.1 x1081.toNat)) * (IntKind.i64.wrap (rd a2.1 x1524.toNat)))))) (v' := (i6 x1604)) (u := []) (u' := []) rfl (congrArg (fun z => ((i6 z) : AV)) hx1605) rfl trivial rfl (d_next (by kernel_rfl) (dp (i6 (IntKind.i64.wrap (x1598 + x1604))) rfl (by kernel_rfl) (dp (i6 a0) rfl (by kernel_rfl) (d_cons ?_))))
                  obtain ⟨hc1606, h⟩ := ifp_some h
                  refine vq (i6 (Int.tmod (IntKind.i64.wrap (x1598 + x1604)) a0)) rfl hc1606 (d_next (by kernel_rfl) (d_cons ?_))
                  obtain ⟨x1607, hx1608, h⟩ := letp_some h
                  refine a_val' (v := (b8 (IntKind.u8.wrap (Int.tmod (IntKind.i64.wrap (x1598 + x1604)) a0)))) (v' := (b8 x1607)) (u := []) (u' := []) rfl (congrArg (fun z => ((b8 z) : AV)) hx1608) rfl trivial rfl (d_next (by kernel_rfl) (d_cons ?_))
                  obtain ⟨hc1609, h⟩ := ifp_some h
                  refine vq (.own 10 [(IntKind.i64.wrap (x1081 + x1524)).toNat] [(IntKind.i64.wrap (x1081 + x1524)).toNat * 1]) rfl hc1609 (d_next (by kernel_rfl) (d_cons ?_))
                  have hs1610 : StOk [(IntKind.i64.wrap (x1081 + x1524)).toNat] (eA64u8 x1525) [(IntKind.i64.wrap (x1081 + x1524)).toNat * 1] 1 (b8 x1607) (eA64u8 ((vset x1525 (IntKind.i64.wrap (x1081 + x1524)).toNat x1607))) := (.arr (y := x1607) (vlt x1525 hc1609) rfl (.nil rfl rfl rfl rfl))
                  refine vu .top [(10, (bk (eA64u8 ((vset x1525 (IntKind.i64.wrap (x1081 + x1524)).toNat x1607)))))] (st_own (i := ⟨.int .u8, 1, 1, (.int .u8 0)⟩) rfl rfl (fun _ => rfl) rfl hs1610) (hs1610.c rfl) rfl (d_next (by kernel_rfl) (d_nil (b_norm (a_next (σ' := ⟨[(0, (i6 a0)), (4, (ow 4)), (5, (ow 5)), (6, (ow 6)), (8, (i6 r9)), (9, (i6 r12)), (10, (ow 10)), (11, (i6 x1081)), (12, (i6 x1524))], [(4, (bk (eA64u8 a1))), (5, (bk (eA64u8 a2))), (6, (bk (eA64u8 ((vrep 64 (0 : Int)))))), (10, (bk (eA64u8 ((vset x1525 (IntKind.i64.wrap (x1081 + x1524)).toNat x1607)))))]⟩) (by kernel_rfl) (a_region (vp (i6 x1524) rfl (vp (i6 (IntKind.i64.wrap (x1524 + 1))) rfl (vp (i6 (IntKind.i64.wrap (x1524 + 1))) rfl (a_nil ?_)))))))))
                  cases h
                  exact a_again (by kernel_rfl) hX1569
              · have h := hy1575
                refine a_region (vp (i6 x1524) rfl (vp (i6 r12) rfl (vp (.bool ((decide (x1524 ≤ r12)))) rfl (vp (.bool ((decide (x1524 ≤ r12)))) rfl ?_))))
                cases hb1577 : (decide (x1524 ≤ r12))
                · have h := ite_f hb1577 h
                  refine a_gskip rfl (a_gskip rfl (a_gskip rfl (a_gskip rfl (vp (.bool false) rfl (a_nil ?_)))))
                  exact j_leaf false (Option.some.inj h) (by kernel_rfl)
                · have h := ite_t hb1577 h
                  refine gp (i6 x1081) rfl rfl ?_
                  obtain ⟨hc1578, h⟩ := ifp_some h
                  refine gq (.own 4 [x1081.toNat] [x1081.toNat * 1]) rfl rfl hc1578 ?_
                  have hl1579 : LdOk [x1081.toNat] (eA64u8 a1) [x1081.toNat * 1] 1 false (b8 (rd a1.1 x1081.toNat)) := (.arr (vlt a1 hc1578) rfl (.nil rfl rfl rfl))
                  refine gq (b8 (rd a1.1 x1081.toNat)) rfl (ld_own (i := ⟨.int .u8, 1, 1, (.int .u8 0)⟩) rfl rfl rfl hl1579) hl1579.c (gp (.bool (((rd a1.1 x1081.toNat) != 0))) rfl rfl (vp (.bool (((rd a1.1 x1081.toNat) != 0))) rfl (a_nil ?_)))
                  exact j_leaf (((rd a1.1 x1081.toNat) != 0)) (Option.some.inj h) (by kernel_rfl)
      · have h := ite_t hb22 h
        refine a_cond_t rfl (sr (vl (eA64u8 ((vrep 64 (0 : Int)))) rfl rfl rfl rfl rfl rfl (vs (eA64u8 ((vrep 64 (0 : Int)))) rfl rfl (fun _ => rfl) rfl rfl rfl rfl rfl rfl (vp (.bool false) rfl (nx _ rfl (a_ret (t_ret ?_)))))))
        have hl1618 : LdOk [] (eA64u8 ((vrep 64 (0 : Int)))) [] 64 true (eA64u8 ((vrep 64 (0 : Int)))) := (.nil rfl rfl rfl)
        refine ⟨.inr rfl, ?_⟩
        rw [Try.results80]
        cases h
        exact ⟨_, _, _, _, _, ld_own (i := ⟨.arr 64 5, 64, 64, (eA64u8 (vrep 64 (0 : Int)))⟩) rfl rfl rfl hl1618, hl1618.c, .inl ⟨rfl, .inl rfl⟩, rfl, ⟨_, _, _, _, _, rfl, trivial, .inl ⟨rfl, .inl rfl⟩, rfl, rfl⟩⟩
    · have h := ite_t hb21 h
      refine a_cond_t rfl (sr (vl (eA64u8 ((vrep 64 (0 : Int)))) rfl rfl rfl rfl rfl rfl (vs (eA64u8 ((vrep 64 (0 : Int)))) rfl rfl (fun _ => rfl) rfl rfl rfl rfl rfl rfl (vp (.bool true) rfl (nx _ rfl (a_ret (t_ret ?_)))))))
      have hl1621 : LdOk [] (eA64u8 ((vrep 64 (0 : Int)))) [] 64 true (eA64u8 ((vrep 64 (0 : Int)))) := (.nil rfl rfl rfl)
      refine ⟨.inr rfl, ?_⟩
      rw [Try.results80]
      cases h
      exact ⟨_, _, _, _, _, ld_own (i := ⟨.arr 64 5, 64, 64, (eA64u8 (vrep 64 (0 : Int)))⟩) rfl rfl rfl hl1621, hl1621.c, .inl ⟨rfl, .inl rfl⟩, rfl, ⟨_, _, _, _, _, rfl, trivial, .inl ⟨rfl, .inl rfl⟩, rfl, rfl⟩⟩
  · have h := hy18
    refine a_region (vp (i6 r9) rfl (vp (.bool ((decide (r9 < 0)))) rfl (vp (.bool ((decide (r9 < 0)))) rfl ?_)))
    cases hb20 : (decide (r9 < 0))
    · have h := ite_f hb20 h
      refine gp (i6 r12) rfl rfl (gp (.bool ((decide (r12 < 0)))) rfl rfl (vp (.bool ((decide (r12 < 0)))) rfl (a_nil ?_)))
      exact j_leaf ((decide (r12 < 0))) (Option.some.inj h) (by kernel_rfl)
    · have h := ite_t hb20 h
      refine a_gskip rfl (a_gskip rfl (vp (.bool true) rfl (a_nil ?_)))
      exact j_leaf true (Option.some.inj h) (by kernel_rfl)
def spec_l01Bezout_c : ACode := (.seq (.region 0 [q 4 (.box 26 (t 1)), q 5 (.box 26 (t 2)), q 6 (.alloc 26), q 7 (.alloc 26), q 8 (.alloc 26)] false) (.seq (.region 1 [q 22 (.call 0 (.func 79) []), q 23 (.build 26 []), q 24 (.build 26 []), q 25 (.call 0 (.func 79) []), q 9 (.alloc 26), q 10 (.alloc 26), q 11 (.alloc 26), q 12 (.alloc 26), ⟨none, .store 26 (t 9) (t 22), none, []⟩, ⟨none, .store 26 (t 10) (t 23), none, []⟩, ⟨none, .store 26 (t 11) (t 24), none, []⟩, ⟨none, .store 26 (t 12) (t 25), none, []⟩] false) (.seq (.block 0 (.loop (.seq (.seq (.region 2 [q 26 (.load 26 (t 5)), q 27 (.call 0 (.func 34) [(t 26)]), q 28 (.bin .geq 2 (t 27) (.const (.int .i64 0)))] false) (.cond (t 28) .skip (.exit 0))) (.block 1 (.seq (.region 3 [q 30 (.mov (t 0)), q 31 (.load 26 (t 4)), q 32 (.load 26 (t 5)), q 33 (.call 0 (.func 81) [(t 30), (t 31), (t 32)]), q 29 (.mov (t 33)), q 34 (.extract (t 29) 0), q 35 (.extract (t 29) 1), q 13 (.alloc 26), q 14 (.alloc 26), ⟨none, .store 26 (t 13) (t 34), none, []⟩, ⟨none, .store 26 (t 14) (t 35), none, []⟩] false) (.seq (.region 4 [q 37 (.mov (t 0)), q 38 (.load 26 (t 13)), q 39 (.load 26 (t 10)), q 40 (.call 0 (.func 80) [(t 37), (t 38), (t 39)]), q 36 (.mov (t 40)), q 41 (.extract (t 36) 0), q 42 (.extract (t 36) 1), q 15 (.alloc 26), ⟨none, .store 26 (t 15) (t 41), none, []⟩, q 16 (.asg 0 (t 42) 4)] false) (.seq (.region 5 [q 44 (.mov (t 0)), q 45 (.load 26 (t 13)), q 46 (.load 26 (t 12)), q 47 (.call 0 (.func 80) [(t 44), (t 45), (t 46)]), q 43 (.mov (t 47)), q 48 (.extract (t 43) 0), q 49 (.extract (t 43) 1), q 17 (.alloc 26), ⟨none, .store 26 (t 17) (t 48), none, []⟩, q 18 (.asg 0 (t 49) 4)] false) (.seq (.region 6 [q 50 (.mov (t 0)), q 51 (.load 26 (t 9)), q 52 (.load 26 (t 15)), ⟨some 53, .call 0 (.func 73) [(t 50), (t 51), (t 52), (.const (.int .i64 (-1)))], none, [0, 1, 2]⟩, q 54 (.mov (t 0)), q 55 (.load 26 (t 11)), q 56 (.load 26 (t 17)), ⟨some 57, .call 0 (.func 73) [(t 54), (t 55), (t 56), (.const (.int .i64 (-1)))], none, [4, 5, 6, 3]⟩, q 19 (.alloc 26), q 20 (.alloc 26), ⟨none, .store 26 (t 19) (t 53), none, [8, 3, 7, 0, 1, 2, 3, 8, 9]⟩, ⟨none, .store 26 (t 20) (t 57), none, [9, 7, 10, 0, 1, 2, 3, 4, 5, 6, 7, 8, 9, 10]⟩] true) (.seq (.region 7 [q 58 (.load 26 (t 5)), ⟨none, .store 26 (t 4) (t 58), none, []⟩] false) (.seq (.region 8 [q 59 (.load 26 (t 14)), ⟨none, .store 26 (t 5) (t 59), none, []⟩] false) (.seq (.region 9 [q 60 (.load 26 (t 10)), ⟨none, .store 26 (t 9) (t 60), none, []⟩] false) (.seq (.region 10 [q 61 (.load 26 (t 12)), ⟨none, .store 26 (t 11) (t 61), none, []⟩] false) (.seq (.region 11 [q 62 (.load 26 (t 19)), ⟨none, .store 26 (t 10) (t 62), none, []⟩] false) (.region 12 [q 63 (.load 26 (t 20)), ⟨none, .store 26 (t 12) (t 63), none, []⟩] false)))))))))))))) (.seq (.region 13 [q 64 (.mov (t 0)), q 65 (.load 26 (t 4)), q 66 (.call 0 (.func 34) [(t 65)]), q 67 (.indexAddr 26 (t 4) (t 66)), q 68 (.load 5 (t 67)), q 69 (.call 0 (.func 74) [(t 64), (t 68)]), q 70 (.conv 5 2 (t 69)), q 21 (.asg 0 (t 70) 2)] false) (.seq (.region 14 [q 71 (.mov (t 0)), q 72 (.build 26 []), q 73 (.load 26 (t 4)), q 74 (.mov (t 21)), ⟨some 75, .call 0 (.func 73) [(t 71), (t 72), (t 73), (t 74)], none, [0, 1, 2, 3]⟩, q 76 (.mov (t 0)), q 77 (.build 26 []), q 78 (.load 26 (t 9)), q 79 (.mov (t 21)), ⟨some 80, .call 0 (.func 73) [(t 76), (t 77), (t 78), (t 79)], none, [5, 6, 7, 8, 4]⟩, q 81 (.mov (t 0)), q 82 (.build 26 []), q 83 (.load 26 (t 11)), q 84 (.mov (t 21)), ⟨some 85, .call 0 (.func 73) [(t 81), (t 82), (t 83), (t 84)], none, [10, 11, 12, 13, 9]⟩, ⟨none, .store 26 (t 6) (t 75), none, [4, 14, 0, 1, 2, 3, 4]⟩, ⟨none, .store 26 (t 7) (t 80), none, [9, 15, 0, 1, 2, 3, 4, 5, 6, 7, 8, 9, 15]⟩, ⟨none, .store 26 (t 8) (t 85), none, [14, 16, 0, 1, 2, 3, 4, 5, 6, 7, 8, 9, 10, 11, 12, 13, 14, 15, 16]⟩] true) .ret)))))
def spec_l01Bezout_L : Live := [(0, [0, 1, 2]), (1, [0, 4, 5, 6, 7, 8]), (2, [0, 4, 5, 6, 7, 8, 9, 10, 11, 12]), (3, [0, 4, 5, 6, 7, 8, 9, 10, 11, 12]), (4, [0, 4, 5, 6, 7, 8, 9, 10, 11, 12, 13, 14]), (5, [0, 4, 5, 6, 7, 8, 9, 10, 11, 12, 13, 14, 15]), (6, [0, 4, 5, 6, 7, 8, 9, 10, 11, 12, 14, 15, 17]), (7, [0, 4, 5, 6, 7, 8, 9, 10, 11, 12, 14, 19, 20]), (8, [0, 4, 5, 6, 7, 8, 9, 10, 11, 12, 14, 19, 20]), (9, [0, 4, 5, 6, 7, 8, 9, 10, 11, 12, 19, 20]), (10, [0, 4, 5, 6, 7, 8, 9, 10, 11, 12, 19, 20]), (11, [0, 4, 5, 6, 7, 8, 9, 10, 11, 12, 19, 20]), (12, [0, 4, 5, 6, 7, 8, 9, 10, 11, 12, 20]), (13, [0, 4, 6, 7, 8, 9, 11]), (14, [0, 4, 6, 7, 8, 9, 11, 21]), (100028, [0, 4, 5, 6, 7, 8, 9, 10, 11, 12, 28])]
noncomputable def spec_l01Bezout_l1 (a0 : Int) (x233 : (Vec Int 64)) (x234 : (Vec Int 64)) (x235 : (Vec Int 64)) (x236 : (Vec Int 64)) (x237 : (Vec Int 64)) (x238 : (Vec Int 64)) : Option (((Vec Int 64) × (Vec Int 64) × (Vec Int 64) × (Vec Int 64) × (Vec Int 64) × (Vec Int 64)) ⊕ ((Vec Int 64) × (Vec Int 64) × (Vec Int 64))) :=
  (Option.bind (spec_l01Deg x234) fun r295 => (if (decide (r295 ≥ 0)) then (Option.bind (spec_l01Divide a0 x233 x234) fun r300 => (Option.bind (spec_l01Times a0 r300.1 x236) fun r306 => (Option.bind (spec_l01Times a0 r300.1 x238) fun r311 => (Option.bind (spec_l01Add a0 x235 r306.1 (-1)) fun r326 => (Option.bind (spec_l01Add a0 x237 r311.1 (-1)) fun r330 => (some (.inl (x234, r300.2, x236, r326, x238, r330)))))))) else (some (.inr (x233, x235, x237)))))
noncomputable def spec_l01Bezout (a0 : Int) (a1 : (Vec Int 64)) (a2 : (Vec Int 64)) : Option ((Vec Int 64) × (Vec Int 64) × (Vec Int 64)) :=
  (Option.bind (spec_l01One) fun r1 => (Option.bind (spec_l01One) fun r3 => (Option.bind (α := ((Vec Int 64) × (Vec Int 64) × (Vec Int 64))) ((loopM (fun s : ((Vec Int 64) × (Vec Int 64) × (Vec Int 64) × (Vec Int 64) × (Vec Int 64) × (Vec Int 64)) => spec_l01Bezout_l1 a0 s.1 s.2.1 s.2.2.1 s.2.2.2.1 s.2.2.2.2.1 s.2.2.2.2.2) (a1, a2, r1, (vrep 64 (0 : Int)), (vrep 64 (0 : Int)), r3))) fun ⟨x175, x176, x177⟩ => (Option.bind (spec_l01Deg x175) fun r348 => (ifp (0 ≤ r348 ∧ r348 < ((64 : Nat) : Int)) ((Option.bind (spec_l01Inverse a0 (rd x175.1 r348.toNat)) fun r352 => (Option.bind (spec_l01Add a0 ((vrep 64 (0 : Int))) x175 (IntKind.i64.wrap r352)) fun r367 => (Option.bind (spec_l01Add a0 ((vrep 64 (0 : Int))) x176 (IntKind.i64.wrap r352)) fun r370 => (Option.bind (spec_l01Add a0 ((vrep 64 (0 : Int))) x177 (IntKind.i64.wrap r352)) fun r373 => (some (r367, r370, r373))))))))))))
theorem spec_l01Bezout_ok (a0 : Int) (a1 : (Vec Int 64)) (a2 : (Vec Int 64)) (r : ((Vec Int 64) × (Vec Int 64) × (Vec Int 64))) (h : spec_l01Bezout a0 a1 a2 = some r) : Den Try.prog 76 [(i6 a0), (eA64u8 a1), (eA64u8 a2)] { r := (.tuple [(eA64u8 r.1), (eA64u8 r.2.1), (eA64u8 r.2.2)]) } := by
  refine den_of (rs := [(eA64u8 r.1), (eA64u8 r.2.1), (eA64u8 r.2.2)]) (ac := spec_l01Bezout_c) (L := spec_l01Bezout_L) (n := 86) (m := []) (c := Try.f76.body.getD .skip) good Try.func76 (by kernel_rfl) (by kernel_rfl) Try.ntmps76 rfl rfl (by kernel_rfl) rfl rfl ?_
  refine a_st (σ' := ⟨[(0, (i6 a0)), (1, (eA64u8 a1)), (2, (eA64u8 a2))], []⟩) (by kernel_rfl) ?_
  unfold spec_l01Bezout_c
  refine sr (vo 1400 (eA64u8 a1) rfl rfl (vo 1500 (eA64u8 a2) rfl rfl (vo 1600 (eA64u8 ((vrep 64 (0 : Int)))) rfl rfl (vo 1700 (eA64u8 ((vrep 64 (0 : Int)))) rfl rfl (vo 1800 (eA64u8 ((vrep 64 (0 : Int)))) rfl rfl (nx ⟨[(0, (i6 a0)), (4, (ow 4)), (5, (ow 5)), (6, (ow 6)), (7, (ow 7)), (8, (ow 8))], [(4, (bk (eA64u8 a1))), (5, (bk (eA64u8 a2))), (6, (bk (eA64u8 ((vrep 64 (0 : Int)))))), (7, (bk (eA64u8 ((vrep 64 (0 : Int)))))), (8, (bk (eA64u8 ((vrep 64 (0 : Int))))))]⟩ (by kernel_rfl) (sr ?_)))))))
  obtain ⟨r1, hr2, h⟩ := bind_some h
  refine a_call (args := []) (u := []) (r := (eA64u8 r1)) rfl rfl (spec_l01One_ok r1 hr2) rfl (vq (eA64u8 ((vrep 64 (0 : Int)))) rfl ⟨⟨_, rfl, rfl⟩, all_nil⟩ (vq (eA64u8 ((vrep 64 (0 : Int)))) rfl ⟨⟨_, rfl, rfl⟩, all_nil⟩ ?_))
  obtain ⟨r3, hr4, h⟩ := bind_some h
  refine a_call (args := []) (u := []) (r := (eA64u8 r3)) rfl rfl (spec_l01One_ok r3 hr4) rfl (vo 1900 (eA64u8 ((vrep 64 (0 : Int)))) rfl rfl (vo 2000 (eA64u8 ((vrep 64 (0 : Int)))) rfl rfl (vo 2100 (eA64u8 ((vrep 64 (0 : Int)))) rfl rfl (vo 2200 (eA64u8 ((vrep 64 (0 : Int)))) rfl rfl (vs (eA64u8 r1) rfl rfl (fun _ => rfl) rfl rfl rfl rfl rfl rfl (vs (eA64u8 ((vrep 64 (0 : Int)))) rfl rfl (fun _ => rfl) rfl rfl rfl rfl rfl rfl (vs (eA64u8 ((vrep 64 (0 : Int)))) rfl rfl (fun _ => rfl) rfl rfl rfl rfl rfl rfl (vs (eA64u8 r3) rfl rfl (fun _ => rfl) rfl rfl rfl rfl rfl rfl (nx ⟨[(0, (i6 a0)), (4, (ow 4)), (5, (ow 5)), (6, (ow 6)), (7, (ow 7)), (8, (ow 8)), (9, (ow 9)), (10, (ow 10)), (11, (ow 11)), (12, (ow 12))], [(4, (bk (eA64u8 a1))), (5, (bk (eA64u8 a2))), (6, (bk (eA64u8 ((vrep 64 (0 : Int)))))), (7, (bk (eA64u8 ((vrep 64 (0 : Int)))))), (8, (bk (eA64u8 ((vrep 64 (0 : Int)))))), (9, (bk (eA64u8 r1))), (10, (bk (eA64u8 ((vrep 64 (0 : Int)))))), (11, (bk (eA64u8 ((vrep 64 (0 : Int)))))), (12, (bk (eA64u8 r3)))]⟩ (by kernel_rfl) ?_)))))))))
  obtain ⟨y178, hy179, hk180⟩ := bind_some h
  clear h
  refine a_join (emb := fun (s : ((Vec Int 64) × (Vec Int 64) × (Vec Int 64))) => ⟨[(0, (i6 a0)), (4, (ow 4)), (6, (ow 6)), (7, (ow 7)), (8, (ow 8)), (9, (ow 9)), (11, (ow 11))], [(4, (bk (eA64u8 s.1))), (6, (bk (eA64u8 ((vrep 64 (0 : Int)))))), (7, (bk (eA64u8 ((vrep 64 (0 : Int)))))), (8, (bk (eA64u8 ((vrep 64 (0 : Int)))))), (9, (bk (eA64u8 s.2.1))), (11, (bk (eA64u8 s.2.2)))]⟩) (pre := fun s => s = y178) ?_ ?_
  · rintro ⟨x175, x176, x177⟩ rfl
    have h := hk180
    refine a_st (σ' := ⟨[(0, (i6 a0)), (4, (ow 4)), (6, (ow 6)), (7, (ow 7)), (8, (ow 8)), (9, (ow 9)), (11, (ow 11))], [(4, (bk (eA64u8 x175))), (6, (bk (eA64u8 ((vrep 64 (0 : Int)))))), (7, (bk (eA64u8 ((vrep 64 (0 : Int)))))), (8, (bk (eA64u8 ((vrep 64 (0 : Int)))))), (9, (bk (eA64u8 x176))), (11, (bk (eA64u8 x177)))]⟩) (by kernel_rfl) (sr (vp (i6 a0) rfl (vl (eA64u8 x175) rfl rfl rfl rfl rfl rfl ?_)))
    obtain ⟨r348, hr349, h⟩ := bind_some h
    refine a_call (args := [(eA64u8 x175)]) (u := []) (r := (i6 r348)) rfl rfl (spec_l01Deg_ok x175 r348 hr349) rfl ?_
    obtain ⟨hc350, h⟩ := ifp_some h
    refine vq (.own 4 [r348.toNat] [r348.toNat * 1]) rfl hc350 ?_
    have hl351 : LdOk [r348.toNat] (eA64u8 x175) [r348.toNat * 1] 1 false (b8 (rd x175.1 r348.toNat)) := (.arr (vlt x175 hc350) rfl (.nil rfl rfl rfl))
    refine vq (b8 (rd x175.1 r348.toNat)) (ld_own (i := ⟨.int .u8, 1, 1, (.int .u8 0)⟩) rfl rfl rfl hl351) hl351.c ?_
    obtain ⟨r352, hr353, h⟩ := bind_some h
    refine a_call (args := [(i6 a0), (b8 (rd x175.1 r348.toNat))]) (u := []) (r := (b8 r352)) rfl rfl (spec_l01Inverse_ok a0 (rd x175.1 r348.toNat) r352 hr353) rfl (vp (i6 (IntKind.i64.wrap r352)) rfl (vp (i6 (IntKind.i64.wrap r352)) rfl (nx ⟨[(0, (i6 a0)), (4, (ow 4)), (6, (ow 6)), (7, (ow 7)), (8, (ow 8)), (9, (ow 9)), (11, (ow 11)), (21, (i6 (IntKind.i64.wrap r352)))], [(4, (bk (eA64u8 x175))), (6, (bk (eA64u8 ((vrep 64 (0 : Int)))))), (7, (bk (eA64u8 ((vrep 64 (0 : Int)))))), (8, (bk (eA64u8 ((vrep 64 (0 : Int)))))), (9, (bk (eA64u8 x176))), (11, (bk (eA64u8 x177)))]⟩ (by kernel_rfl) (a_seq (a_draw [⟨[], [], [], []⟩, ⟨[], [], [], []⟩, ⟨[4], [], [], []⟩, ⟨[], [], [], []⟩, ⟨[], [], [], [0, 1, 2, 3]⟩, ⟨[], [], [], []⟩, ⟨[], [], [], []⟩, ⟨[9], [], [], []⟩, ⟨[], [], [], []⟩, ⟨[], [], [], [0, 1, 2, 3, 4, 5, 6, 7, 8]⟩, ⟨[], [], [], []⟩, ⟨[], [], [], []⟩, ⟨[11], [], [], []⟩, ⟨[], [], [], []⟩, ⟨[], [], [], [0, 1, 2, 3, 4, 5, 6, 7, 8, 9, 10, 11, 12, 13]⟩, ⟨[6], [6], [], [0, 1, 2, 3, 4, 5, 6, 7, 8, 9, 10, 11, 12, 13, 14]⟩, ⟨[7], [7], [], [0, 1, 2, 3, 4, 5, 6, 7, 8, 9, 10, 11, 12, 13, 14, 15]⟩, ⟨[8], [8], [], [0, 1, 2, 3, 4, 5, 6, 7, 8, 9, 10, 11, 12, 13, 14, 15, 16]⟩] (by kernel_rfl) (dp (i6 a0) rfl (by kernel_rfl) (d_cons (vq (eA64u8 ((vrep 64 (0 : Int)))) rfl ⟨⟨_, rfl, rfl⟩, all_nil⟩ (d_next (by kernel_rfl) ?_)))))))))
    refine d_cons (vl (eA64u8 x175) rfl rfl rfl rfl rfl rfl (d_next (by kernel_rfl) (dp (i6 (IntKind.i64.wrap r352)) rfl (by kernel_rfl) (d_cons ?_))))
    obtain ⟨r367, hr368, h⟩ := bind_some h
    refine a_call (args := [(i6 a0), (eA64u8 ((vrep 64 (0 : Int)))), (eA64u8 x175), (i6 (IntKind.i64.wrap r352))]) (u := []) (r := (eA64u8 r367)) rfl rfl (spec_l01Add_ok a0 ((vrep 64 (0 : Int))) x175 (IntKind.i64.wrap r352) r367 hr368) rfl (d_next (by kernel_rfl) (dp (i6 a0) rfl (by kernel_rfl) (d_cons (vq (eA64u8 ((vrep 64 (0 : Int)))) rfl ⟨⟨_, rfl, rfl⟩, all_nil⟩ (d_next (by kernel_rfl) (d_cons (vl (eA64u8 x176) rfl rfl rfl rfl rfl rfl (d_next (by kernel_rfl) (dp (i6 (IntKind.i64.wrap r352)) rfl (by kernel_rfl) ?_)))))))))
    refine d_cons ?_
    obtain ⟨r370, hr371, h⟩ := bind_some h
    refine a_call (args := [(i6 a0), (eA64u8 ((vrep 64 (0 : Int)))), (eA64u8 x176), (i6 (IntKind.i64.wrap r352))]) (u := []) (r := (eA64u8 r370)) rfl rfl (spec_l01Add_ok a0 ((vrep 64 (0 : Int))) x176 (IntKind.i64.wrap r352) r370 hr371) rfl (d_next (by kernel_rfl) (dp (i6 a0) rfl (by kernel_rfl) (d_cons (vq (eA64u8 ((vrep 64 (0 : Int)))) rfl ⟨⟨_, rfl, rfl⟩, all_nil⟩ (d_next (by kernel_rfl) (d_cons (vl (eA64u8 x177) rfl rfl rfl rfl rfl rfl (d_next (by kernel_rfl) (dp (i6 (IntKind.i64.wrap r352)) rfl (by kernel_rfl) ?_)))))))))
    refine d_cons ?_
    obtain ⟨r373, hr374, h⟩ := bind_some h
    refine a_call (args := [(i6 a0), (eA64u8 ((vrep 64 (0 : Int)))), (eA64u8 x177), (i6 (IntKind.i64.wrap r352))]) (u := []) (r := (eA64u8 r373)) rfl rfl (spec_l01Add_ok a0 ((vrep 64 (0 : Int))) x177 (IntKind.i64.wrap r352) r373 hr374) rfl (d_next (by kernel_rfl) (d_cons (vs (eA64u8 r367) rfl rfl (fun _ => rfl) rfl rfl rfl rfl rfl rfl (d_next (by kernel_rfl) (d_cons (vs (eA64u8 r370) rfl rfl (fun _ => rfl) rfl rfl rfl rfl rfl rfl (d_next (by kernel_rfl) (d_cons (vs (eA64u8 r373) rfl rfl (fun _ => rfl) rfl rfl rfl rfl rfl rfl ?_)))))))))
    refine d_next (by kernel_rfl) (d_nil (a_next rfl (a_ret ?_)))
    have hl378 : LdOk [] (eA64u8 r367) [] 64 true (eA64u8 r367) := (.nil rfl rfl rfl)
    have hl379 : LdOk [] (eA64u8 r370) [] 64 true (eA64u8 r370) := (.nil rfl rfl rfl)
    have hl380 : LdOk [] (eA64u8 r373) [] 64 true (eA64u8 r373) := (.nil rfl rfl rfl)
    refine ⟨.inr rfl, ?_⟩
    rw [Try.results76]
    cases h
    exact ⟨_, _, _, _, _, ld_own (i := ⟨.arr 64 5, 64, 64, (eA64u8 (vrep 64 (0 : Int)))⟩) rfl rfl rfl hl378, hl378.c, .inl ⟨rfl, .inl rfl⟩, rfl, ⟨_, _, _, _, _, ld_own (i := ⟨.arr 64 5, 64, 64, (eA64u8 (vrep 64 (0 : Int)))⟩) rfl rfl rfl hl379, hl379.c, .inl ⟨rfl, .inl rfl⟩, rfl, ⟨_, _, _, _, _, ld_own (i := ⟨.arr 64 5, 64, 64, (eA64u8 (vrep 64 (0 : Int)))⟩) rfl rfl rfl hl380, hl380.c, .inl ⟨rfl, .inl rfl⟩, rfl, rfl⟩⟩⟩
  · have h := hy179
    refine a_block ?_
    refine a_loop (emb := fun (s : ((Vec Int 64) × (Vec Int 64) × (Vec Int 64) × (Vec Int 64) × (Vec Int 64) × (Vec Int 64))) => ⟨[(0, (i6 a0)), (4, (ow 4)), (5, (ow 5)), (6, (ow 6)), (7, (ow 7)), (8, (ow 8)), (9, (ow 9)), (10, (ow 10)), (11, (ow 11)), (12, (ow 12))], [(4, (bk (eA64u8 s.1))), (5, (bk (eA64u8 s.2.1))), (6, (bk (eA64u8 ((vrep 64 (0 : Int)))))), (7, (bk (eA64u8 ((vrep 64 (0 : Int)))))), (8, (bk (eA64u8 ((vrep 64 (0 : Int)))))), (9, (bk (eA64u8 s.2.2.1))), (10, (bk (eA64u8 s.2.2.2.1))), (11, (bk (eA64u8 s.2.2.2.2.1))), (12, (bk (eA64u8 s.2.2.2.2.2)))]⟩) (body := (fun s : ((Vec Int 64) × (Vec Int 64) × (Vec Int 64) × (Vec Int 64) × (Vec Int 64) × (Vec Int 64)) => spec_l01Bezout_l1 a0 s.1 s.2.1 s.2.2.1 s.2.2.2.1 s.2.2.2.2.1 s.2.2.2.2.2)) (G := fun q => some q = some y178) h rfl ?_ (by kernel_rfl)
    rintro X291 ⟨x233, x234, x235, x236, x237, x238⟩ x292 h hX293
    have h : spec_l01Bezout_l1 a0 x233 x234 x235 x236 x237 x238 = some x292 := h
    refine a_st (σ' := ⟨[(0, (i6 a0)), (4, (ow 4)), (5, (ow 5)), (6, (ow 6)), (7, (ow 7)), (8, (ow 8)), (9, (ow 9)), (10, (ow 10)), (11, (ow 11)), (12, (ow 12))], [(4, (bk (eA64u8 x233))), (5, (bk (eA64u8 x234))), (6, (bk (eA64u8 ((vrep 64 (0 : Int)))))), (7, (bk (eA64u8 ((vrep 64 (0 : Int)))))), (8, (bk (eA64u8 ((vrep 64 (0 : Int)))))), (9, (bk (eA64u8 x235))), (10, (bk (eA64u8 x236))), (11, (bk (eA64u8 x237))), (12, (bk (eA64u8 x238)))]⟩) (by kernel_rfl) (a_seq (sr (vl (eA64u8 x234) rfl rfl rfl rfl rfl rfl ?_)))
    obtain ⟨r295, hr296, h⟩ := bind_some h
    refine a_call (args := [(eA64u8 x234)]) (u := []) (r := (i6 r295)) rfl rfl (spec_l01Deg_ok x234 r295 hr296) rfl (vp (.bool ((decide (r295 ≥ 0)))) rfl (nx ⟨[(0, (i6 a0)), (4, (ow 4)), (5, (ow 5)), (6, (ow 6)), (7, (ow 7)), (8, (ow 8)), (9, (ow 9)), (10, (ow 10)), (11, (ow 11)), (12, (ow 12)), (28, (.bool ((decide (r295 ≥ 0)))))], [(4, (bk (eA64u8 x233))), (5, (bk (eA64u8 x234))), (6, (bk (eA64u8 ((vrep 64 (0 : Int)))))), (7, (bk (eA64u8 ((vrep 64 (0 : Int)))))), (8, (bk (eA64u8 ((vrep 64 (0 : Int)))))), (9, (bk (eA64u8 x235))), (10, (bk (eA64u8 x236))), (11, (bk (eA64u8 x237))), (12, (bk (eA64u8 x238)))]⟩ (by kernel_rfl) ?_))
    cases hb297 : (decide (r295 ≥ 0))
    · have h := ite_f hb297 h
      refine a_cond_f rfl (a_exit (t_exit ?_))
      cases h
      have h := hX293
      refine t_exit (b_exit ?_)
      exact j_leaf (x233, x235, x237) (Option.some.inj h) (by kernel_rfl)
    · have h := ite_t hb297 h
      refine a_cond_t rfl (a_skip (a_next (σ' := ⟨[(0, (i6 a0)), (4, (ow 4)), (5, (ow 5)), (6, (ow 6)), (7, (ow 7)), (8, (ow 8)), (9, (ow 9)), (10, (ow 10)), (11, (ow 11)), (12, (ow 12))], [(4, (bk (eA64u8 x233))), (5, (bk (eA64u8 x234))), (6, (bk (eA64u8 ((vrep 64 (0 : Int)))))), (7, (bk (eA64u8 ((vrep 64 (0 : Int)))))), (8, (bk (eA64u8 ((vrep 64 (0 : Int)))))), (9, (bk (eA64u8 x235))), (10, (bk (eA64u8 x236))), (11, (bk (eA64u8 x237))), (12, (bk (eA64u8 x238)))]⟩) (by kernel_rfl) (a_block (sr (vp (i6 a0) rfl (vl (eA64u8 x233) rfl rfl rfl rfl rfl rfl (vl (eA64u8 x234) rfl rfl rfl rfl rfl rfl ?_)))))))
      obtain ⟨r300, hr301, h⟩ := bind_some h
      refine a_call (args := [(i6 a0), (eA64u8 x233), (eA64u8 x234)]) (u := []) (r := (.tuple [(eA64u8 r300.1), (eA64u8 r300.2)])) rfl rfl (spec_l01Divide_ok a0 x233 x234 r300 hr301) rfl (vp (.tuple [(eA64u8 r300.1), (eA64u8 r300.2)]) rfl (vb (eA64u8 r300.1) rfl rfl (vb (eA64u8 r300.2) rfl rfl (vo 2300 (eA64u8 ((vrep 64 (0 : Int)))) rfl rfl (vo 2400 (eA64u8 ((vrep 64 (0 : Int)))) rfl rfl (vs (eA64u8 r300.1) rfl rfl (fun _ => rfl) rfl rfl rfl rfl rfl rfl (vs (eA64u8 r300.2) rfl rfl (fun _ => rfl) rfl rfl rfl rfl rfl rfl (nx ⟨[(0, (i6 a0)), (4, (ow 4)), (5, (ow 5)), (6, (ow 6)), (7, (ow 7)), (8, (ow 8)), (9, (ow 9)), (10, (ow 10)), (11, (ow 11)), (12, (ow 12)), (13, (ow 13)), (14, (ow 14))], [(4, (bk (eA64u8 x233))), (5, (bk (eA64u8 x234))), (6, (bk (eA64u8 ((vrep 64 (0 : Int)))))), (7, (bk (eA64u8 ((vrep 64 (0 : Int)))))), (8, (bk (eA64u8 ((vrep 64 (0 : Int)))))), (9, (bk (eA64u8 x235))), (10, (bk (eA64u8 x236))), (11, (bk (eA64u8 x237))), (12, (bk (eA64u8 x238))), (13, (bk (eA64u8 r300.1))), (14, (bk (eA64u8 r300.2)))]⟩ (by kernel_rfl) (sr ?_)))))))))
      refine vp (i6 a0) rfl (vl (eA64u8 r300.1) rfl rfl rfl rfl rfl rfl (vl (eA64u8 x236) rfl rfl rfl rfl rfl rfl ?_))
      obtain ⟨r306, hr307, h⟩ := bind_some h
      refine a_call (args := [(i6 a0), (eA64u8 r300.1), (eA64u8 x236)]) (u := []) (r := (.tuple [(eA64u8 r306.1), (.bool r306.2)])) rfl rfl (spec_l01Times_ok a0 r300.1 x236 r306 hr307) rfl (vp (.tuple [(eA64u8 r306.1), (.bool r306.2)]) rfl (vb (eA64u8 r306.1) rfl rfl (vb (.bool r306.2) rfl rfl (vo 2500 (eA64u8 ((vrep 64 (0 : Int)))) rfl rfl (vs (eA64u8 r306.1) rfl rfl (fun _ => rfl) rfl rfl rfl rfl rfl rfl (vp (.bool r306.2) rfl (nx ⟨[(0, (i6 a0)), (4, (ow 4)), (5, (ow 5)), (6, (ow 6)), (7, (ow 7)), (8, (ow 8)), (9, (ow 9)), (10, (ow 10)), (11, (ow 11)), (12, (ow 12)), (13, (ow 13)), (14, (ow 14)), (15, (ow 15))], [(4, (bk (eA64u8 x233))), (5, (bk (eA64u8 x234))), (6, (bk (eA64u8 ((vrep 64 (0 : Int)))))), (7, (bk (eA64u8 ((vrep 64 (0 : Int)))))), (8, (bk (eA64u8 ((vrep 64 (0 : Int)))))), (9, (bk (eA64u8 x235))), (10, (bk (eA64u8 x236))), (11, (bk (eA64u8 x237))), (12, (bk (eA64u8 x238))), (13, (bk (eA64u8 r300.1))), (14, (bk (eA64u8 r300.2))), (15, (bk (eA64u8 r306.1)))]⟩ (by kernel_rfl) (sr (vp (i6 a0) rfl ?_)))))))))
      refine vl (eA64u8 r300.1) rfl rfl rfl rfl rfl rfl (vl (eA64u8 x238) rfl rfl rfl rfl rfl rfl ?_)
      obtain ⟨r311, hr312, h⟩ := bind_some h
      refine a_call (args := [(i6 a0), (eA64u8 r300.1), (eA64u8 x238)]) (u := []) (r := (.tuple [(eA64u8 r311.1), (.bool r311.2)])) rfl rfl (spec_l01Times_ok a0 r300.1 x238 r311 hr312) rfl (vp (.tuple [(eA64u8 r311.1), (.bool r311.2)]) rfl (vb (eA64u8 r311.1) rfl rfl (vb (.bool r311.2) rfl rfl (vo 2700 (eA64u8 ((vrep 64 (0 : Int)))) rfl rfl (vs (eA64u8 r311.1) rfl rfl (fun _ => rfl) rfl rfl rfl rfl rfl rfl (vp (.bool r311.2) rfl (nx ⟨[(0, (i6 a0)), (4, (ow 4)), (5, (ow 5)), (6, (ow 6)), (7, (ow 7)), (8, (ow 8)), (9, (ow 9)), (10, (ow 10)), (11, (ow 11)), (12, (ow 12)), (14, (ow 14)), (15, (ow 15)), (17, (ow 17))], [(4, (bk (eA64u8 x233))), (5, (bk (eA64u8 x234))), (6, (bk (eA64u8 ((vrep 64 (0 : Int)))))), (7, (bk (eA64u8 ((vrep 64 (0 : Int)))))), (8, (bk (eA64u8 ((vrep 64 (0 : Int)))))), (9, (bk (eA64u8 x235))), (10, (bk (eA64u8 x236))), (11, (bk (eA64u8 x237))), (12, (bk (eA64u8 x238))), (14, (bk (eA64u8 r300.2))), (15, (bk (eA64u8 r306.1))), (17, (bk (eA64u8 r311.1)))]⟩ (by kernel_rfl) (a_seq (a_draw [⟨[], [], [], []⟩, ⟨[9], [], [], []⟩, ⟨[15], [], [], []⟩, ⟨[], [], [], [0, 1, 2]⟩, ⟨[], [], [], []⟩, ⟨[11], [], [], []⟩, ⟨[17], [], [], []⟩, ⟨[], [], [], [0, 1, 2, 3, 4, 5, 6]⟩, ⟨[2900], [2900], [2900], []⟩, ⟨[3000], [3000], [3000], []⟩, ⟨[2900], [2900], [], [0, 1, 2, 3, 4, 5, 6, 7, 8, 9]⟩, ⟨[3000], [3000], [], [0, 1, 2, 3, 4, 5, 6, 7, 8, 9, 10]⟩] (by kernel_rfl) ?_)))))))))
      refine dp (i6 a0) rfl (by kernel_rfl) (d_cons (vl (eA64u8 x235) rfl rfl rfl rfl rfl rfl (d_next (by kernel_rfl) (d_cons (vl (eA64u8 r306.1) rfl rfl rfl rfl rfl rfl (d_next (by kernel_rfl) (d_cons ?_)))))))
      obtain ⟨r326, hr327, h⟩ := bind_some h
      refine a_call (args := [(i6 a0), (eA64u8 x235), (eA64u8 r306.1), (i6 (-1))]) (u := []) (r := (eA64u8 r326)) rfl rfl (spec_l01Add_ok a0 x235 r306.1 (-1) r326 hr327) rfl (d_next (by kernel_rfl) (dp (i6 a0) rfl (by kernel_rfl) (d_cons (vl (eA64u8 x237) rfl rfl rfl rfl rfl rfl (d_next (by kernel_rfl) (d_cons (vl (eA64u8 r311.1) rfl rfl rfl rfl rfl rfl (d_next (by kernel_rfl) (d_cons ?_)))))))))
      obtain ⟨r330, hr331, h⟩ := bind_some h
      refine a_call (args := [(i6 a0), (eA64u8 x237), (eA64u8 r311.1), (i6 (-1))]) (u := []) (r := (eA64u8 r330)) rfl rfl (spec_l01Add_ok a0 x237 r311.1 (-1) r330 hr331) rfl (d_next (by kernel_rfl) (d_cons (vo 2900 (eA64u8 ((vrep 64 (0 : Int)))) rfl rfl (d_next (by kernel_rfl) (d_cons (vo 3000 (eA64u8 ((vrep 64 (0 : Int)))) rfl rfl (d_next (by kernel_rfl) (d_cons (vs (eA64u8 r326) rfl rfl (fun _ => rfl) rfl rfl rfl rfl rfl rfl ?_)))))))))
      refine d_next (by kernel_rfl) (d_cons (vs (eA64u8 r330) rfl rfl (fun _ => rfl) rfl rfl rfl rfl rfl rfl (d_next (by kernel_rfl) (d_nil (a_next (σ' := ⟨[(0, (i6 a0)), (4, (ow 4)), (5, (ow 5)), (6, (ow 6)), (7, (ow 7)), (8, (ow 8)), (9, (ow 9)), (10, (ow 10)), (11, (ow 11)), (12, (ow 12)), (14, (ow 14)), (19, (ow 19)), (20, (ow 20))], [(4, (bk (eA64u8 x233))), (5, (bk (eA64u8 x234))), (6, (bk (eA64u8 ((vrep 64 (0 : Int)))))), (7, (bk (eA64u8 ((vrep 64 (0 : Int)))))), (8, (bk (eA64u8 ((vrep 64 (0 : Int)))))), (9, (bk (eA64u8 x235))), (10, (bk (eA64u8 x236))), (11, (bk (eA64u8 x237))), (12, (bk (eA64u8 x238))), (14, (bk (eA64u8 r300.2))), (19, (bk (eA64u8 r326))), (20, (bk (eA64u8 r330)))]⟩) (by kernel_rfl) (sr (vl (eA64u8 x234) rfl rfl rfl rfl rfl rfl (vs (eA64u8 x234) rfl rfl (fun _ => rfl) rfl rfl rfl rfl rfl rfl (nx ⟨[(0, (i6 a0)), (4, (ow 4)), (5, (ow 5)), (6, (ow 6)), (7, (ow 7)), (8, (ow 8)), (9, (ow 9)), (10, (ow 10)), (11, (ow 11)), (12, (ow 12)), (14, (ow 14)), (19, (ow 19)), (20, (ow 20))], [(4, (bk (eA64u8 x234))), (5, (bk (eA64u8 x234))), (6, (bk (eA64u8 ((vrep 64 (0 : Int)))))), (7, (bk (eA64u8 ((vrep 64 (0 : Int)))))), (8, (bk (eA64u8 ((vrep 64 (0 : Int)))))), (9, (bk (eA64u8 x235))), (10, (bk (eA64u8 x236))), (11, (bk (eA64u8 x237))), (12, (bk (eA64u8 x238))), (14, (bk (eA64u8 r300.2))), (19, (bk (eA64u8 r326))), (20, (bk (eA64u8 r330)))]⟩ (by kernel_rfl) ?_)))))))))
      refine sr (vl (eA64u8 r300.2) rfl rfl rfl rfl rfl rfl (vs (eA64u8 r300.2) rfl rfl (fun _ => rfl) rfl rfl rfl rfl rfl rfl (nx ⟨[(0, (i6 a0)), (4, (ow 4)), (5, (ow 5)), (6, (ow 6)), (7, (ow 7)), (8, (ow 8)), (9, (ow 9)), (10, (ow 10)), (11, (ow 11)), (12, (ow 12)), (19, (ow 19)), (20, (ow 20))], [(4, (bk (eA64u8 x234))), (5, (bk (eA64u8 r300.2))), (6, (bk (eA64u8 ((vrep 64 (0 : Int)))))), (7, (bk (eA64u8 ((vrep 64 (0 : Int)))))), (8, (bk (eA64u8 ((vrep 64 (0 : Int)))))), (9, (bk (eA64u8 x235))), (10, (bk (eA64u8 x236))), (11, (bk (eA64u8 x237))), (12, (bk (eA64u8 x238))), (19, (bk (eA64u8 r326))), (20, (bk (eA64u8 r330)))]⟩ (by kernel_rfl) (sr (vl (eA64u8 x236) rfl rfl rfl rfl rfl rfl (vs (eA64u8 x236) rfl rfl (fun _ => rfl) rfl rfl rfl rfl rfl rfl (nx ⟨[(0, (i6 a0)), (4, (ow 4)), (5, (ow 5)), (6, (ow 6)), (7, (ow 7)), (8, (ow 8)), (9, (ow 9)), (10, (ow 10)), (11, (ow 11)), (12, (ow 12)), (19, (ow 19)), (20, (ow 20))], [(4, (bk (eA64u8 x234))), (5, (bk (eA64u8 r300.2))), (6, (bk (eA64u8 ((vrep 64 (0 : Int)))))), (7, (bk (eA64u8 ((vrep 64 (0 : Int)))))), (8, (bk (eA64u8 ((vrep 64 (0 : Int)))))), (9, (bk (eA64u8 x236))), (10, (bk (eA64u8 x236))), (11, (bk (eA64u8 x237))), (12, (bk (eA64u8 x238))), (19, (bk (eA64u8 r326))), (20, (bk (eA64u8 r330)))]⟩ (by kernel_rfl) (sr (vl (eA64u8 x238) rfl rfl rfl rfl rfl rfl ?_)))))))))
      refine vs (eA64u8 x238) rfl rfl (fun _ => rfl) rfl rfl rfl rfl rfl rfl (nx ⟨[(0, (i6 a0)), (4, (ow 4)), (5, (ow 5)), (6, (ow 6)), (7, (ow 7)), (8, (ow 8)), (9, (ow 9)), (10, (ow 10)), (11, (ow 11)), (12, (ow 12)), (19, (ow 19)), (20, (ow 20))], [(4, (bk (eA64u8 x234))), (5, (bk (eA64u8 r300.2))), (6, (bk (eA64u8 ((vrep 64 (0 : Int)))))), (7, (bk (eA64u8 ((vrep 64 (0 : Int)))))), (8, (bk (eA64u8 ((vrep 64 (0 : Int)))))), (9, (bk (eA64u8 x236))), (10, (bk (eA64u8 x236))), (11, (bk (eA64u8 x238))), (12, (bk (eA64u8 x238))), (19, (bk (eA64u8 r326))), (20, (bk (eA64u8 r330)))]⟩ (by kernel_rfl) (sr (vl (eA64u8 r326) rfl rfl rfl rfl rfl rfl (vs (eA64u8 r326) rfl rfl (fun _ => rfl) rfl rfl rfl rfl rfl rfl (nx ⟨[(0, (i6 a0)), (4, (ow 4)), (5, (ow 5)), (6, (ow 6)), (7, (ow 7)), (8, (ow 8)), (9, (ow 9)), (10, (ow 10)), (11, (ow 11)), (12, (ow 12)), (20, (ow 20))], [(4, (bk (eA64u8 x234))), (5, (bk (eA64u8 r300.2))), (6, (bk (eA64u8 ((vrep 64 (0 : Int)))))), (7, (bk (eA64u8 ((vrep 64 (0 : Int)))))), (8, (bk (eA64u8 ((vrep 64 (0 : Int)))))), (9, (bk (eA64u8 x236))), (10, (bk (eA64u8 r326))), (11, (bk (eA64u8 x238))), (12, (bk (eA64u8 x238))), (20, (bk (eA64u8 r330)))]⟩ (by kernel_rfl) (a_region (vl (eA64u8 r330) rfl rfl rfl rfl rfl rfl (vs (eA64u8 r330) rfl rfl (fun _ => rfl) rfl rfl rfl rfl rfl rfl (a_nil ?_)))))))))
      refine b_norm ?_
      cases h
      exact a_again (by kernel_rfl) hX293
def spec_l01Gcd_c : ACode := (.seq (.region 0 [q 4 (.box 26 (t 1)), q 5 (.box 26 (t 2)), q 6 (.alloc 26)] false) (.seq (.seq (.region 1 [q 10 (.load 26 (t 4)), q 11 (.call 0 (.func 34) [(t 10)]), q 12 (.bin .lss 2 (t 11) (.const (.int .i64 0))), q 13 (.mov (t 12)), ⟨some 14, .load 26 (t 5), some (13, true), []⟩, ⟨some 15, .call 0 (.func 34) [(t 14)], some (13, true), []⟩, ⟨some 16, .bin .lss 2 (t 15) (.const (.int .i64 0)), some (13, true), []⟩, q 17 (.pick (t 13) (t 16) (.const (.bool false)))] false) (.cond (t 17) (.seq (.region 2 [q 18 (.build 26 []), ⟨none, .store 26 (t 6) (t 18), none, []⟩] false) .ret) .skip)) (.seq (.region 3 [q 20 (.mov (t 0)), q 21 (.load 26 (t 4)), q 22 (.load 26 (t 5)), q 23 (.call 0 (.func 76) [(t 20), (t 21), (t 22)]), q 19 (.mov (t 23)), q 24 (.extract (t 19) 0), q 25 (.extract (t 19) 1), q 26 (.extract (t 19) 2), q 7 (.alloc 26), q 8 (.alloc 26), q 9 (.alloc 26), ⟨none, .store 26 (t 7) (t 24), none, []⟩, ⟨none, .store 26 (t 8) (t 25), none, []⟩, ⟨none, .store 26 (t 9) (t 26), none, []⟩] false) (.seq (.region 4 [q 27 (.load 26 (t 7)), ⟨none, .store 26 (t 6) (t 27), none, []⟩] false) .ret))))
def spec_l01Gcd_L : Live := [(0, [0, 1, 2]), (1, [0, 4, 5, 6]), (2, [6]), (3, [0, 4, 5, 6]), (4, [6, 7]), (100017, [0, 4, 5, 6, 17])]
noncomputable def spec_l01Gcd (a0 : Int) (a1 : (Vec Int 64)) (a2 : (Vec Int 64)) : Option (Vec Int 64) :=
  (Option.bind (α := Bool) ((Option.bind (spec_l01Deg a1) fun r13 => (if (decide (r13 < 0)) then (Option.bind (spec_l01Deg a2) fun r17 => (some ((decide (r17 < 0))))) else (some false)))) fun x8 => (if x8 then (some ((vrep 64 (0 : Int)))) else (Option.bind (spec_l01Bezout a0 a1 a2) fun r22 => (some r22.1))))
theorem spec_l01Gcd_ok (a0 : Int) (a1 : (Vec Int 64)) (a2 : (Vec Int 64)) (r : (Vec Int 64)) (h : spec_l01Gcd a0 a1 a2 = some r) : Den Try.prog 39 [(i6 a0), (eA64u8 a1), (eA64u8 a2)] { r := (eA64u8 r) } := by
  refine den_of (rs := [(eA64u8 r)]) (ac := spec_l01Gcd_c) (L := spec_l01Gcd_L) (n := 28) (m := []) (c := Try.f39.body.getD .skip) good Try.func39 (by kernel_rfl) (by kernel_rfl) Try.ntmps39 rfl rfl (by kernel_rfl) rfl rfl ?_
  refine a_st (σ' := ⟨[(0, (i6 a0)), (1, (eA64u8 a1)), (2, (eA64u8 a2))], []⟩) (by kernel_rfl) ?_
  unfold spec_l01Gcd_c
  refine sr (vo 1400 (eA64u8 a1) rfl rfl (vo 1500 (eA64u8 a2) rfl rfl (vo 1600 (eA64u8 ((vrep 64 (0 : Int)))) rfl rfl (nx ⟨[(0, (i6 a0)), (4, (ow 4)), (5, (ow 5)), (6, (ow 6))], [(4, (bk (eA64u8 a1))), (5, (bk (eA64u8 a2))), (6, (bk (eA64u8 ((vrep 64 (0 : Int))))))]⟩ (by kernel_rfl) (a_seq ?_)))))
  obtain ⟨y9, hy10, hk11⟩ := bind_some h
  clear h
  refine a_join (emb := fun (s : Bool) => ⟨[(0, (i6 a0)), (4, (ow 4)), (5, (ow 5)), (6, (ow 6)), (17, (.bool s))], [(4, (bk (eA64u8 a1))), (5, (bk (eA64u8 a2))), (6, (bk (eA64u8 ((vrep 64 (0 : Int))))))]⟩) (pre := fun s => s = y9) ?_ ?_
  · rintro x8 rfl
    have h := hk11
    refine a_st (σ' := ⟨[(0, (i6 a0)), (4, (ow 4)), (5, (ow 5)), (6, (ow 6)), (17, (.bool x8))], [(4, (bk (eA64u8 a1))), (5, (bk (eA64u8 a2))), (6, (bk (eA64u8 ((vrep 64 (0 : Int))))))]⟩) (by kernel_rfl) ?_
    cases hb19 : x8
    · have h := ite_f hb19 h
      refine a_cond_f rfl (a_skip (a_next (σ' := ⟨[(0, (i6 a0)), (4, (ow 4)), (5, (ow 5)), (6, (ow 6))], [(4, (bk (eA64u8 a1))), (5, (bk (eA64u8 a2))), (6, (bk (eA64u8 ((vrep 64 (0 : Int))))))]⟩) (by kernel_rfl) (sr (vp (i6 a0) rfl (vl (eA64u8 a1) rfl rfl rfl rfl rfl rfl (vl (eA64u8 a2) rfl rfl rfl rfl rfl rfl ?_))))))
      obtain ⟨r22, hr23, h⟩ := bind_some h
      refine a_call (args := [(i6 a0), (eA64u8 a1), (eA64u8 a2)]) (u := []) (r := (.tuple [(eA64u8 r22.1), (eA64u8 r22.2.1), (eA64u8 r22.2.2)])) rfl rfl (spec_l01Bezout_ok a0 a1 a2 r22 hr23) rfl (vp (.tuple [(eA64u8 r22.1), (eA64u8 r22.2.1), (eA64u8 r22.2.2)]) rfl (vb (eA64u8 r22.1) rfl rfl (vb (eA64u8 r22.2.1) rfl rfl (vb (eA64u8 r22.2.2) rfl rfl (vo 1700 (eA64u8 ((vrep 64 (0 : Int)))) rfl rfl (vo 1800 (eA64u8 ((vrep 64 (0 : Int)))) rfl rfl (vo 1900 (eA64u8 ((vrep 64 (0 : Int)))) rfl rfl (vs (eA64u8 r22.1) rfl rfl (fun _ => rfl) rfl rfl rfl rfl rfl rfl (vs (eA64u8 r22.2.1) rfl rfl (fun _ => rfl) rfl rfl rfl rfl rfl rfl ?_)))))))))
      refine vs (eA64u8 r22.2.2) rfl rfl (fun _ => rfl) rfl rfl rfl rfl rfl rfl (nx ⟨[(6, (ow 6)), (7, (ow 7))], [(6, (bk (eA64u8 ((vrep 64 (0 : Int)))))), (7, (bk (eA64u8 r22.1)))]⟩ (by kernel_rfl) (sr (vl (eA64u8 r22.1) rfl rfl rfl rfl rfl rfl (vs (eA64u8 r22.1) rfl rfl (fun _ => rfl) rfl rfl rfl rfl rfl rfl (nx _ rfl (a_ret ?_))))))
      have hl29 : LdOk [] (eA64u8 r22.1) [] 64 true (eA64u8 r22.1) := (.nil rfl rfl rfl)
      refine ⟨.inr rfl, ?_⟩
      rw [Try.results39]
      cases h
      exact ⟨_, _, _, _, _, ld_own (i := ⟨.arr 64 5, 64, 64, (eA64u8 (vrep 64 (0 : Int)))⟩) rfl rfl rfl hl29, hl29.c, .inl ⟨rfl, .inl rfl⟩, rfl, rfl⟩
    · have h := ite_t hb19 h
      refine a_cond_t rfl (sr (vq (eA64u8 ((vrep 64 (0 : Int)))) rfl ⟨⟨_, rfl, rfl⟩, all_nil⟩ (vs (eA64u8 ((vrep 64 (0 : Int)))) rfl rfl (fun _ => rfl) rfl rfl rfl rfl rfl rfl (nx _ rfl (a_ret (t_ret ?_))))))
      have hl31 : LdOk [] (eA64u8 ((vrep 64 (0 : Int)))) [] 64 true (eA64u8 ((vrep 64 (0 : Int)))) := (.nil rfl rfl rfl)
      refine ⟨.inr rfl, ?_⟩
      rw [Try.results39]
      cases h
      exact ⟨_, _, _, _, _, ld_own (i := ⟨.arr 64 5, 64, 64, (eA64u8 (vrep 64 (0 : Int)))⟩) rfl rfl rfl hl31, hl31.c, .inl ⟨rfl, .inl rfl⟩, rfl, rfl⟩
  · have h := hy10
    refine a_region (vl (eA64u8 a1) rfl rfl rfl rfl rfl rfl ?_)
    obtain ⟨r13, hr14, h⟩ := bind_some h
    refine a_call (args := [(eA64u8 a1)]) (u := []) (r := (i6 r13)) rfl rfl (spec_l01Deg_ok a1 r13 hr14) rfl (vp (.bool ((decide (r13 < 0)))) rfl (vp (.bool ((decide (r13 < 0)))) rfl ?_))
    cases hb15 : (decide (r13 < 0))
    · have h := ite_f hb15 h
      refine a_gskip rfl (a_gskip rfl (a_gskip rfl (vp (.bool false) rfl (a_nil ?_))))
      exact j_leaf false (Option.some.inj h) (by kernel_rfl)
    · have h := ite_t hb15 h
      have hl16 : LdOk [] (eA64u8 a2) [] 64 true (eA64u8 a2) := (.nil rfl rfl rfl)
      refine gq (eA64u8 a2) rfl (ld_own (i := ⟨.arr 64 5, 64, 64, (eA64u8 (vrep 64 (0 : Int)))⟩) rfl rfl rfl hl16) hl16.c ?_
      obtain ⟨r17, hr18, h⟩ := bind_some h
      refine a_gcall rfl (args := [(eA64u8 a2)]) (u := []) (r := (i6 r17)) rfl rfl (spec_l01Deg_ok a2 r17 hr18) rfl (gp (.bool ((decide (r17 < 0)))) rfl rfl (vp (.bool ((decide (r17 < 0)))) rfl (a_nil ?_)))
      exact j_leaf ((decide (r17 < 0))) (Option.some.inj h) (by kernel_rfl)
end Go.Proofs.Ytebfhlnfmkhmcaa
