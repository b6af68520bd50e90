/- Functions of the program: plain Lean functions, and that the program computes them. Printed by gen.py. -/
import Derived.Test.YtkbnegemdlnncaaFnT
import Derived.Test.YtkbnegemdlnncaaFn1
import Derived.Test.YtkbnegemdlnncaaFn2
namespace Go.Proofs.Ytkbnegemdlnncaa
open Go.Abs Go.Proofs
set_option linter.unusedSimpArgs false
set_option linter.unusedVariables false
set_option maxHeartbeats 16000000
attribute [local irreducible] Abs.acode Abs.aops Abs.aopsT Abs.thenK Abs.blockK

def spec_l01Times_c : ACode := (.seq (.region 0 [q 4 (.box 25 (t 1)), q 5 (.box 25 (t 2)), q 6 (.alloc 25), q 7 (.asg 0 (.const (.bool false)) 4)] false) (.seq (.region 1 [q 13 (.load 25 (t 4)), ⟨some 14, .call 0 (.func 112) [(t 13)], none, [0]⟩, q 15 (.load 25 (t 5)), ⟨some 16, .call 0 (.func 112) [(t 15)], none, [2, 1]⟩, q 17 (.build 25 []), q 10 (.alloc 25), ⟨some 8, .asg 0 (t 14) 2, none, [1, 3, 0, 1, 5]⟩, ⟨some 9, .asg 0 (t 16) 2, none, [3, 6, 0, 1, 2, 3, 5, 6]⟩, ⟨none, .store 25 (t 10) (t 17), none, [5, 4, 7, 0, 1, 2, 3, 4, 5, 6, 7]⟩] true) (.seq (.seq (.region 2 [q 18 (.mov (t 8)), q 19 (.bin .lss 2 (t 18) (.const (.int .i64 0))), q 20 (.mov (t 19)), ⟨some 21, .mov (t 9), some (20, false), []⟩, ⟨some 22, .bin .lss 2 (t 21) (.const (.int .i64 0)), some (20, false), []⟩, q 23 (.pick (t 20) (.const (.bool true)) (t 22))] false) (.cond (t 23) (.seq (.region 3 [q 24 (.load 25 (t 10)), ⟨none, .store 25 (t 6) (t 24), none, []⟩, q 7 (.asg 0 (.const (.bool true)) 4)] false) .ret) .skip)) (.seq (.seq (.region 4 [q 25 (.mov (t 8)), q 26 (.mov (t 9)), q 27 (.bin .add 2 (t 25) (t 26)), q 28 (.bin .gtr 2 (t 27) (.const (.int .i64 63)))] false) (.cond (t 28) (.seq (.region 5 [q 29 (.load 25 (t 10)), ⟨none, .store 25 (t 6) (t 29), none, []⟩, q 7 (.asg 0 (.const (.bool false)) 4)] false) .ret) .skip)) (.seq (.seq (.region 6 [q 11 (.asg 0 (.const (.int .i64 0)) 2)] false) (.block 0 (.loop (.seq (.seq (.region 7 [q 30 (.mov (t 11)), q 31 (.mov (t 8)), q 32 (.bin .leq 2 (t 30) (t 31))] false) (.cond (t 32) .skip (.exit 0))) (.seq (.block 1 (.seq (.region 9 [q 12 (.asg 0 (.const (.int .i64 0)) 2)] false) (.block 2 (.loop (.seq (.seq (.region 10 [q 35 (.mov (t 12)), q 36 (.mov (t 9)), q 37 (.bin .leq 2 (t 35) (t 36)), q 38 (.mov (t 37)), ⟨some 39, .mov (t 11), some (38, true), []⟩, ⟨some 40, .indexAddr 25 (t 4) (t 39), some (38, true), []⟩, ⟨some 41, .load 5 (t 40), some (38, true), []⟩, ⟨some 42, .bin .neq 5 (t 41) (.const (.int .u8 0)), some (38, true), []⟩, q 43 (.pick (t 38) (t 42) (.const (.bool false)))] false) (.cond (t 43) .skip (.exit 2))) (.seq (.block 3 (.region 12 [q 46 (.mov (t 11)), q 47 (.mov (t 12)), ⟨some 48, .bin .add 2 (t 46) (t 47), none, [0, 1]⟩, q 49 (.mov (t 11)), q 50 (.mov (t 12)), ⟨some 51, .bin .add 2 (t 49) (t 50), none, [3, 4]⟩, ⟨some 52, .indexAddr 25 (t 10) (t 51), none, [5]⟩, ⟨some 53, .load 5 (t 52), none, [6]⟩, ⟨some 54, .conv 5 2 (t 53), none, [7]⟩, q 55 (.mov (t 11)), ⟨some 56, .indexAddr 25 (t 4) (t 55), none, [9]⟩, ⟨some 57, .load 5 (t 56), none, [10]⟩, ⟨some 58, .conv 5 2 (t 57), none, [11]⟩, q 59 (.mov (t 12)), ⟨some 60, .indexAddr 25 (t 5) (t 59), none, [13]⟩, ⟨some 61, .load 5 (t 60), none, [14]⟩, ⟨some 62, .conv 5 2 (t 61), none, [15]⟩, ⟨some 63, .bin .mul 2 (t 58) (t 62), none, [12, 16]⟩, ⟨some 64, .bin .add 2 (t 54) (t 63), none, [8, 17]⟩, q 65 (.mov (t 0)), ⟨some 66, .bin .rem 2 (t 64) (t 65), none, [18, 19]⟩, ⟨some 67, .conv 2 5 (t 66), none, [20]⟩, ⟨some 68, .indexAddr 25 (t 10) (t 48), none, [2, 0, 1, 2, 3, 4, 5, 6, 7, 8, 9, 10, 11, 12, 13, 14, 15, 16, 17, 18, 19, 20, 21]⟩, ⟨none, .store 5 (t 68) (t 67), none, [22, 21, 0, 1, 2, 3, 4, 5, 6, 7, 8, 9, 10, 11, 12, 13, 14, 15, 16, 17, 18, 19, 20, 21]⟩] true)) (.region 11 [q 44 (.mov (t 12)), q 45 (.bin .add 2 (t 44) (.const (.int .i64 1))), q 12 (.asg 0 (t 45) 2)] false))))))) (.region 8 [q 33 (.mov (t 11)), q 34 (.bin .add 2 (t 33) (.const (.int .i64 1))), q 11 (.asg 0 (t 34) 2)] false)))))) (.seq (.region 13 [q 69 (.load 25 (t 10)), ⟨none, .store 25 (t 6) (t 69), none, []⟩, q 7 (.asg 0 (.const (.bool true)) 4)] false) .ret))))))
def spec_l01Times_L : Live := [(0, [0, 1, 2]), (1, [0, 4, 5, 6]), (2, [0, 4, 5, 6, 8, 9, 10]), (3, [6, 10]), (4, [0, 4, 5, 6, 8, 9, 10]), (5, [6, 10]), (6, [0, 4, 5, 6, 8, 9, 10]), (7, [0, 4, 5, 6, 8, 9, 10, 11]), (8, [0, 4, 5, 6, 8, 9, 10, 11]), (9, [0, 4, 5, 6, 8, 9, 10, 11]), (10, [0, 4, 5, 6, 8, 9, 10, 11, 12]), (11, [0, 4, 5, 6, 8, 9, 10, 11, 12]), (12, [0, 4, 5, 6, 8, 9, 10, 11, 12]), (13, [6, 10]), (100023, [0, 4, 5, 6, 8, 9, 10, 23]), (100028, [0, 4, 5, 6, 8, 9, 10, 28]), (100032, [0, 4, 5, 6, 8, 9, 10, 11, 32]), (100043, [0, 4, 5, 6, 8, 9, 10, 11, 12, 43])]
noncomputable def spec_l01Times_l2 (r12 : Int) (x1081 : Int) (a1 : (Vec Int 64)) (a2 : (Vec Int 64)) (a0 : Int) (x1524 : Int) (x1525 : (Vec Int 64)) : Option ((Int × (Vec Int 64)) ⊕ (Vec Int 64)) :=
  (Option.bind (α := Bool) ((if (decide (x1524 ≤ r12)) then (ifp (0 ≤ x1081 ∧ x1081 < ((64 : Nat) : Int)) ((some (((rd a1.1 x1081.toNat) != 0))))) else (some false))) fun x1573 => (if x1573 then (ifp (0 ≤ IntKind.i64.wrap (x1081 + x1524) ∧ IntKind.i64.wrap (x1081 + x1524) < ((64 : Nat) : Int)) ((letp (IntKind.i64.wrap ((rd x1525.1 (IntKind.i64.wrap (x1081 + x1524)).toNat))) fun x1598 => (ifp (0 ≤ x1081 ∧ x1081 < ((64 : Nat) : Int)) ((ifp (0 ≤ x1524 ∧ x1524 < ((64 : Nat) : Int)) ((letp (IntKind.i64.wrap ((IntKind.i64.wrap (rd a1.1 x1081.toNat)) * (IntKind.i64.wrap (rd a2.1 x1524.toNat)))) fun x1604 => (ifp (a0 ≠ 0) ((letp (IntKind.u8.wrap (Int.tmod (IntKind.i64.wrap (x1598 + x1604)) a0)) fun x1607 => (ifp (0 ≤ IntKind.i64.wrap (x1081 + x1524) ∧ IntKind.i64.wrap (x1081 + x1524) < ((64 : Nat) : Int)) ((some (.inl ((IntKind.i64.wrap (x1524 + 1), (vset x1525 (IntKind.i64.wrap (x1081 + x1524)).toNat x1607)))))))))))))))))) else (some (.inr x1525))))
noncomputable def spec_l01Times_l1 (r9 : Int) (r12 : Int) (a1 : (Vec Int 64)) (a2 : (Vec Int 64)) (a0 : Int) (x1081 : Int) (x1082 : (Vec Int 64)) : Option ((Int × (Vec Int 64)) ⊕ (Vec Int 64)) :=
  (if (decide (x1081 ≤ r9)) then (Option.bind (α := (Vec Int 64)) ((loopM (fun s : (Int × (Vec Int 64)) => spec_l01Times_l2 r12 x1081 a1 a2 a0 s.1 s.2) (0, x1082))) fun x1479 => (some (.inl ((IntKind.i64.wrap (x1081 + 1), x1479))))) else (some (.inr x1082)))
noncomputable def spec_l01Times (a0 : Int) (a1 : (Vec Int 64)) (a2 : (Vec Int 64)) : Option ((Vec Int 64) × Bool) :=
  (Option.bind (spec_l01Deg a1) fun r9 => (Option.bind (spec_l01Deg a2) fun r12 => (Option.bind (α := Bool) ((if (decide (r9 < 0)) then (some true) else (some ((decide (r12 < 0)))))) fun x16 => (if x16 then (some (((vrep 64 (0 : Int)), true))) else (if (decide ((IntKind.i64.wrap (r9 + r12)) > 63)) then (some (((vrep 64 (0 : Int)), false))) else (Option.bind (α := (Vec Int 64)) ((loopM (fun s : (Int × (Vec Int 64)) => spec_l01Times_l1 r9 r12 a1 a2 a0 s.1 s.2) (0, (vrep 64 (0 : Int))))) fun x814 => (some (x814, true))))))))
theorem spec_l01Times_ok (a0 : Int) (a1 : (Vec Int 64)) (a2 : (Vec Int 64)) (r : ((Vec Int 64) × Bool)) (h : spec_l01Times a0 a1 a2 = some r) : Den Try.prog 105 [(i6 a0), (eA64u8 a1), (eA64u8 a2)] { r := (.tuple [(eA64u8 r.1), (.bool r.2)]) } := by
  refine den_of (rs := [(eA64u8 r.1), (.bool r.2)]) (ac := spec_l01Times_c) (L := spec_l01Times_L) (n := 70) (m := []) (c := Try.f105.body.getD .skip) good Try.func105 (by kernel_rfl) (by kernel_rfl) Try.ntmps105 rfl rfl (by kernel_rfl) rfl rfl ?_
  refine a_st (σ' := ⟨[(0, (i6 a0)), (1, (eA64u8 a1)), (2, (eA64u8 a2))], []⟩) (by kernel_rfl) ?_
  unfold spec_l01Times_c
  refine sr (vo 1400 (eA64u8 a1) rfl rfl (vo 1500 (eA64u8 a2) rfl rfl (vo 1600 (eA64u8 ((vrep 64 (0 : Int)))) rfl rfl (vp (.bool false) rfl (nx ⟨[(0, (i6 a0)), (4, (ow 4)), (5, (ow 5)), (6, (ow 6))], [(4, (bk (eA64u8 a1))), (5, (bk (eA64u8 a2))), (6, (bk (eA64u8 ((vrep 64 (0 : Int))))))]⟩ (by kernel_rfl) (a_seq (a_draw [⟨[4], [], [], []⟩, ⟨[], [], [], [0]⟩, ⟨[5], [], [], []⟩, ⟨[], [], [], [0, 1, 2]⟩, ⟨[], [], [], []⟩, ⟨[2000], [2000], [2000], []⟩, ⟨[], [], [], [0, 1, 2, 3, 5]⟩, ⟨[], [], [], [0, 1, 2, 3, 5, 6]⟩, ⟨[2000], [2000], [], [0, 1, 2, 3, 4, 5, 6, 7]⟩] (by kernel_rfl) (d_cons (vl (eA64u8 a1) rfl rfl rfl rfl rfl rfl ?_)))))))))
  refine d_next (by kernel_rfl) (d_cons ?_)
  obtain ⟨r9, hr10, h⟩ := bind_some h
  refine a_call (args := [(eA64u8 a1)]) (u := []) (r := (i6 r9)) rfl rfl (spec_l01Deg_ok a1 r9 hr10) rfl (d_next (by kernel_rfl) (d_cons (vl (eA64u8 a2) rfl rfl rfl rfl rfl rfl (d_next (by kernel_rfl) (d_cons ?_)))))
  obtain ⟨r12, hr13, h⟩ := bind_some h
  refine a_call (args := [(eA64u8 a2)]) (u := []) (r := (i6 r12)) rfl rfl (spec_l01Deg_ok a2 r12 hr13) rfl (d_next (by kernel_rfl) (d_cons (vq (eA64u8 ((vrep 64 (0 : Int)))) rfl ⟨⟨_, rfl, rfl⟩, all_nil⟩ (d_next (by kernel_rfl) (d_cons (vo 2000 (eA64u8 ((vrep 64 (0 : Int)))) rfl rfl (d_next (by kernel_rfl) (dp (i6 r9) rfl (by kernel_rfl) (dp (i6 r12) rfl (by kernel_rfl) ?_)))))))))
  refine d_cons (vs (eA64u8 ((vrep 64 (0 : Int)))) rfl rfl (fun _ => rfl) rfl rfl rfl rfl rfl rfl (d_next (by kernel_rfl) (d_nil (a_next (σ' := ⟨[(0, (i6 a0)), (4, (ow 4)), (5, (ow 5)), (6, (ow 6)), (8, (i6 r9)), (9, (i6 r12)), (10, (ow 10))], [(4, (bk (eA64u8 a1))), (5, (bk (eA64u8 a2))), (6, (bk (eA64u8 ((vrep 64 (0 : Int)))))), (10, (bk (eA64u8 ((vrep 64 (0 : Int))))))]⟩) (by kernel_rfl) (a_seq ?_)))))
  obtain ⟨y17, hy18, hk19⟩ := bind_some h
  clear h
  refine a_join (emb := fun (s : Bool) => ⟨[(0, (i6 a0)), (4, (ow 4)), (5, (ow 5)), (6, (ow 6)), (8, (i6 r9)), (9, (i6 r12)), (10, (ow 10)), (23, (.bool s))], [(4, (bk (eA64u8 a1))), (5, (bk (eA64u8 a2))), (6, (bk (eA64u8 ((vrep 64 (0 : Int)))))), (10, (bk (eA64u8 ((vrep 64 (0 : Int))))))]⟩) (pre := fun s => s = y17) ?_ ?_
  · rintro x16 rfl
    have h := hk19
    refine a_st (σ' := ⟨[(0, (i6 a0)), (4, (ow 4)), (5, (ow 5)), (6, (ow 6)), (8, (i6 r9)), (9, (i6 r12)), (10, (ow 10)), (23, (.bool x16))], [(4, (bk (eA64u8 a1))), (5, (bk (eA64u8 a2))), (6, (bk (eA64u8 ((vrep 64 (0 : Int)))))), (10, (bk (eA64u8 ((vrep 64 (0 : Int))))))]⟩) (by kernel_rfl) ?_
    cases hb21 : x16
    · have h := ite_f hb21 h
      refine a_cond_f rfl (a_skip (a_next (σ' := ⟨[(0, (i6 a0)), (4, (ow 4)), (5, (ow 5)), (6, (ow 6)), (8, (i6 r9)), (9, (i6 r12)), (10, (ow 10))], [(4, (bk (eA64u8 a1))), (5, (bk (eA64u8 a2))), (6, (bk (eA64u8 ((vrep 64 (0 : Int)))))), (10, (bk (eA64u8 ((vrep 64 (0 : Int))))))]⟩) (by kernel_rfl) (a_seq (sr (vp (i6 r9) rfl (vp (i6 r12) rfl (vp (i6 (IntKind.i64.wrap (r9 + r12))) rfl (vp (.bool ((decide ((IntKind.i64.wrap (r9 + r12)) > 63)))) rfl (nx ⟨[(0, (i6 a0)), (4, (ow 4)), (5, (ow 5)), (6, (ow 6)), (8, (i6 r9)), (9, (i6 r12)), (10, (ow 10)), (28, (.bool ((decide ((IntKind.i64.wrap (r9 + r12)) > 63)))))], [(4, (bk (eA64u8 a1))), (5, (bk (eA64u8 a2))), (6, (bk (eA64u8 ((vrep 64 (0 : Int)))))), (10, (bk (eA64u8 ((vrep 64 (0 : Int))))))]⟩ (by kernel_rfl) ?_)))))))))
      cases hb22 : (decide ((IntKind.i64.wrap (r9 + r12)) > 63))
      · have h := ite_f hb22 h
        refine a_cond_f rfl (a_skip (a_next (σ' := ⟨[(0, (i6 a0)), (4, (ow 4)), (5, (ow 5)), (6, (ow 6)), (8, (i6 r9)), (9, (i6 r12)), (10, (ow 10))], [(4, (bk (eA64u8 a1))), (5, (bk (eA64u8 a2))), (6, (bk (eA64u8 ((vrep 64 (0 : Int)))))), (10, (bk (eA64u8 ((vrep 64 (0 : Int))))))]⟩) (by kernel_rfl) ?_))
        obtain ⟨y815, hy816, hk817⟩ := bind_some h
        clear h
        refine a_join (emb := fun (s : (Vec Int 64)) => ⟨[(6, (ow 6)), (10, (ow 10))], [(6, (bk (eA64u8 ((vrep 64 (0 : Int)))))), (10, (bk (eA64u8 s)))]⟩) (pre := fun s => s = y815) ?_ ?_
        · rintro x814 rfl
          have h := hk817
          refine a_st (σ' := ⟨[(6, (ow 6)), (10, (ow 10))], [(6, (bk (eA64u8 ((vrep 64 (0 : Int)))))), (10, (bk (eA64u8 x814)))]⟩) (by kernel_rfl) (sr (vl (eA64u8 x814) rfl rfl rfl rfl rfl rfl (vs (eA64u8 x814) rfl rfl (fun _ => rfl) rfl rfl rfl rfl rfl rfl (vp (.bool true) rfl (nx _ rfl (a_ret ?_))))))
          have hl1615 : LdOk [] (eA64u8 x814) [] 64 true (eA64u8 x814) := (.nil rfl rfl rfl)
          refine ⟨.inr rfl, ?_⟩
          rw [Try.results105]
          cases h
          exact ⟨_, _, _, _, _, ld_own (i := ⟨.arr 64 5, 64, 64, (eA64u8 (vrep 64 (0 : Int)))⟩) rfl rfl rfl hl1615, hl1615.c, .inl ⟨rfl, .inl rfl⟩, rfl, ⟨_, _, _, _, _, rfl, trivial, .inl ⟨rfl, .inl rfl⟩, rfl, rfl⟩⟩
        · have h := hy816
          refine sr (vp (i6 0) rfl (nx ⟨[(0, (i6 a0)), (4, (ow 4)), (5, (ow 5)), (6, (ow 6)), (8, (i6 r9)), (9, (i6 r12)), (10, (ow 10)), (11, (i6 0))], [(4, (bk (eA64u8 a1))), (5, (bk (eA64u8 a2))), (6, (bk (eA64u8 ((vrep 64 (0 : Int)))))), (10, (bk (eA64u8 ((vrep 64 (0 : Int))))))]⟩ (by kernel_rfl) (a_block ?_)))
          refine a_loop (emb := fun (s : (Int × (Vec Int 64))) => ⟨[(0, (i6 a0)), (4, (ow 4)), (5, (ow 5)), (6, (ow 6)), (8, (i6 r9)), (9, (i6 r12)), (10, (ow 10)), (11, (i6 s.1))], [(4, (bk (eA64u8 a1))), (5, (bk (eA64u8 a2))), (6, (bk (eA64u8 ((vrep 64 (0 : Int)))))), (10, (bk (eA64u8 s.2)))]⟩) (body := (fun s : (Int × (Vec Int 64)) => spec_l01Times_l1 r9 r12 a1 a2 a0 s.1 s.2)) (G := fun q => some q = some y815) h rfl ?_ (by kernel_rfl)
          rintro X1346 ⟨x1081, x1082⟩ x1347 h hX1348
          have h : spec_l01Times_l1 r9 r12 a1 a2 a0 x1081 x1082 = some x1347 := h
          refine a_st (σ' := ⟨[(0, (i6 a0)), (4, (ow 4)), (5, (ow 5)), (6, (ow 6)), (8, (i6 r9)), (9, (i6 r12)), (10, (ow 10)), (11, (i6 x1081))], [(4, (bk (eA64u8 a1))), (5, (bk (eA64u8 a2))), (6, (bk (eA64u8 ((vrep 64 (0 : Int)))))), (10, (bk (eA64u8 x1082)))]⟩) (by kernel_rfl) (a_seq (sr (vp (i6 x1081) rfl (vp (i6 r9) rfl (vp (.bool ((decide (x1081 ≤ r9)))) rfl (nx ⟨[(0, (i6 a0)), (4, (ow 4)), (5, (ow 5)), (6, (ow 6)), (8, (i6 r9)), (9, (i6 r12)), (10, (ow 10)), (11, (i6 x1081)), (32, (.bool ((decide (x1081 ≤ r9)))))], [(4, (bk (eA64u8 a1))), (5, (bk (eA64u8 a2))), (6, (bk (eA64u8 ((vrep 64 (0 : Int)))))), (10, (bk (eA64u8 x1082)))]⟩ (by kernel_rfl) ?_))))))
          cases hb1349 : (decide (x1081 ≤ r9))
          · have h := ite_f hb1349 h
            refine a_cond_f rfl (a_exit (t_exit ?_))
            cases h
            have h := hX1348
            refine t_exit (b_exit ?_)
            exact j_leaf x1082 (Option.some.inj h) (by kernel_rfl)
          · have h := ite_t hb1349 h
            refine a_cond_t rfl (a_skip (a_next (σ' := ⟨[(0, (i6 a0)), (4, (ow 4)), (5, (ow 5)), (6, (ow 6)), (8, (i6 r9)), (9, (i6 r12)), (10, (ow 10)), (11, (i6 x1081))], [(4, (bk (eA64u8 a1))), (5, (bk (eA64u8 a2))), (6, (bk (eA64u8 ((vrep 64 (0 : Int)))))), (10, (bk (eA64u8 x1082)))]⟩) (by kernel_rfl) ?_))
            obtain ⟨y1480, hy1481, hk1482⟩ := bind_some h
            clear h
            refine a_join (emb := fun (s : (Vec Int 64)) => ⟨[(0, (i6 a0)), (4, (ow 4)), (5, (ow 5)), (6, (ow 6)), (8, (i6 r9)), (9, (i6 r12)), (10, (ow 10)), (11, (i6 x1081))], [(4, (bk (eA64u8 a1))), (5, (bk (eA64u8 a2))), (6, (bk (eA64u8 ((vrep 64 (0 : Int)))))), (10, (bk (eA64u8 s)))]⟩) (pre := fun s => s = y1480) ?_ ?_
            · rintro x1479 rfl
              have h := hk1482
              refine a_st (σ' := ⟨[(0, (i6 a0)), (4, (ow 4)), (5, (ow 5)), (6, (ow 6)), (8, (i6 r9)), (9, (i6 r12)), (10, (ow 10)), (11, (i6 x1081))], [(4, (bk (eA64u8 a1))), (5, (bk (eA64u8 a2))), (6, (bk (eA64u8 ((vrep 64 (0 : Int)))))), (10, (bk (eA64u8 x1479)))]⟩) (by kernel_rfl) (a_region (vp (i6 x1081) rfl (vp (i6 (IntKind.i64.wrap (x1081 + 1))) rfl (vp (i6 (IntKind.i64.wrap (x1081 + 1))) rfl (a_nil ?_)))))
              cases h
              exact a_again (by kernel_rfl) hX1348
            · have h := hy1481
              refine a_block (sr (vp (i6 0) rfl (nx ⟨[(0, (i6 a0)), (4, (ow 4)), (5, (ow 5)), (6, (ow 6)), (8, (i6 r9)), (9, (i6 r12)), (10, (ow 10)), (11, (i6 x1081)), (12, (i6 0))], [(4, (bk (eA64u8 a1))), (5, (bk (eA64u8 a2))), (6, (bk (eA64u8 ((vrep 64 (0 : Int)))))), (10, (bk (eA64u8 x1082)))]⟩ (by kernel_rfl) (a_block ?_))))
              refine a_loop (emb := fun (s : (Int × (Vec Int 64))) => ⟨[(0, (i6 a0)), (4, (ow 4)), (5, (ow 5)), (6, (ow 6)), (8, (i6 r9)), (9, (i6 r12)), (10, (ow 10)), (11, (i6 x1081)), (12, (i6 s.1))], [(4, (bk (eA64u8 a1))), (5, (bk (eA64u8 a2))), (6, (bk (eA64u8 ((vrep 64 (0 : Int)))))), (10, (bk (eA64u8 s.2)))]⟩) (body := (fun s : (Int × (Vec Int 64)) => spec_l01Times_l2 r12 x1081 a1 a2 a0 s.1 s.2)) (G := fun q => some q = some y1480) h rfl ?_ (by kernel_rfl)
              rintro X1567 ⟨x1524, x1525⟩ x1568 h hX1569
              have h : spec_l01Times_l2 r12 x1081 a1 a2 a0 x1524 x1525 = some x1568 := h
              refine a_st (σ' := ⟨[(0, (i6 a0)), (4, (ow 4)), (5, (ow 5)), (6, (ow 6)), (8, (i6 r9)), (9, (i6 r12)), (10, (ow 10)), (11, (i6 x1081)), (12, (i6 x1524))], [(4, (bk (eA64u8 a1))), (5, (bk (eA64u8 a2))), (6, (bk (eA64u8 ((vrep 64 (0 : Int)))))), (10, (bk (eA64u8 x1525)))]⟩) (by kernel_rfl) (a_seq ?_)
              obtain ⟨y1574, hy1575, hk1576⟩ := bind_some h
              clear h
              refine a_join (emb := fun (s : Bool) => ⟨[(0, (i6 a0)), (4, (ow 4)), (5, (ow 5)), (6, (ow 6)), (8, (i6 r9)), (9, (i6 r12)), (10, (ow 10)), (11, (i6 x1081)), (12, (i6 x1524)), (43, (.bool s))], [(4, (bk (eA64u8 a1))), (5, (bk (eA64u8 a2))), (6, (bk (eA64u8 ((vrep 64 (0 : Int)))))), (10, (bk (eA64u8 x1525)))]⟩) (pre := fun s => s = y1574) ?_ ?_
              · rintro x1573 rfl
                have h := hk1576
                refine a_st (σ' := ⟨[(0, (i6 a0)), (4, (ow 4)), (5, (ow 5)), (6, (ow 6)), (8, (i6 r9)), (9, (i6 r12)), (10, (ow 10)), (11, (i6 x1081)), (12, (i6 x1524)), (43, (.bool x1573))], [(4, (bk (eA64u8 a1))), (5, (bk (eA64u8 a2))), (6, (bk (eA64u8 ((vrep 64 (0 : Int)))))), (10, (bk (eA64u8 x1525)))]⟩) (by kernel_rfl) ?_
                cases hb1580 : x1573
                · have h := ite_f hb1580 h
                  refine a_cond_f rfl (a_exit (t_exit ?_))
                  cases h
                  have h := hX1569
                  refine t_exit (b_exit (b_norm ?_))
                  exact j_leaf x1525 (Option.some.inj h) (by kernel_rfl)
                · have h := ite_t hb1580 h
                  refine a_cond_t rfl (a_skip (a_next (σ' := ⟨[(0, (i6 a0)), (4, (ow 4)), (5, (ow 5)), (6, (ow 6)), (8, (i6 r9)), (9, (i6 r12)), (10, (ow 10)), (11, (i6 x1081)), (12, (i6 x1524))], [(4, (bk (eA64u8 a1))), (5, (bk (eA64u8 a2))), (6, (bk (eA64u8 ((vrep 64 (0 : Int)))))), (10, (bk (eA64u8 x1525)))]⟩) (by kernel_rfl) (a_seq (a_block (a_draw [⟨[], [], [], []⟩, ⟨[], [], [], []⟩, ⟨[], [], [], [0, 1]⟩, ⟨[], [], [], []⟩, ⟨[], [], [], []⟩, ⟨[], [], [], [3, 4]⟩, ⟨[10], [], [10], [3, 4, 5]⟩, ⟨[10], [], [], [3, 4, 5, 6]⟩, ⟨[], [], [], [3, 4, 5, 6, 7]⟩, ⟨[], [], [], []⟩, ⟨[4], [], [4], [9]⟩, ⟨[4], [], [], [9, 10]⟩, ⟨[], [], [], [9, 10, 11]⟩, ⟨[], [], [], []⟩, ⟨[5], [], [5], [13]⟩, ⟨[5], [], [], [13, 14]⟩, ⟨[], [], [], [13, 14, 15]⟩, ⟨[], [], [], [9, 10, 11, 12, 13, 14, 15, 16]⟩, ⟨[], [], [], [3, 4, 5, 6, 7, 8, 9, 10, 11, 12, 13, 14, 15, 16, 17]⟩, ⟨[], [], [], []⟩, ⟨[], [], [], [3, 4, 5, 6, 7, 8, 9, 10, 11, 12, 13, 14, 15, 16, 17, 18, 19]⟩, ⟨[], [], [], [3, 4, 5, 6, 7, 8, 9, 10, 11, 12, 13, 14, 15, 16, 17, 18, 19, 20]⟩, ⟨[10], [], [10], [0, 1, 2, 3, 4, 5, 6, 7, 8, 9, 10, 11, 12, 13, 14, 15, 16, 17, 18, 19, 20, 21]⟩, ⟨[10], [10], [], [0, 1, 2, 3, 4, 5, 6, 7, 8, 9, 10, 11, 12, 13, 14, 15, 16, 17, 18, 19, 20, 21, 22]⟩] (by kernel_rfl) (dp (i6 x1081) rfl (by kernel_rfl) (dp (i6 x1524) rfl (by kernel_rfl) (dp (i6 (IntKind.i64.wrap (x1081 + x1524))) rfl (by kernel_rfl) (dp (i6 x1081) rfl (by kernel_rfl) ?_)))))))))
                  refine dp (i6 x1524) rfl (by kernel_rfl) (dp (i6 (IntKind.i64.wrap (x1081 + x1524))) rfl (by kernel_rfl) (d_cons ?_))
                  obtain ⟨hc1596, h⟩ := ifp_some h
                  refine vq (.own 10 [(IntKind.i64.wrap (x1081 + x1524)).toNat] [(IntKind.i64.wrap (x1081 + x1524)).toNat * 1]) rfl hc1596 (d_next (by kernel_rfl) (d_cons ?_))
                  have hl1597 : LdOk [(IntKind.i64.wrap (x1081 + x1524)).toNat] (eA64u8 x1525) [(IntKind.i64.wrap (x1081 + x1524)).toNat * 1] 1 false (b8 ((rd x1525.1 (IntKind.i64.wrap (x1081 + x1524)).toNat))) := (.arr (vlt x1525 hc1596) rfl (.nil rfl rfl rfl))
                  refine vq (b8 ((rd x1525.1 (IntKind.i64.wrap (x1081 + x1524)).toNat))) (ld_own (i := ⟨.int .u8, 1, 1, (.int .u8 0)⟩) rfl rfl rfl hl1597) hl1597.c (d_next (by kernel_rfl) (d_cons ?_))
                  obtain ⟨x1598, hx1599, h⟩ := letp_some h
                  refine a_val' (v := (i6 (IntKind.i64.wrap ((rd x1525.1 (IntKind.i64.wrap (x1081 + x1524)).toNat))))) (v' := (i6 x1598)) (u := []) (u' := []) rfl (congrArg (fun z => ((i6 z) : AV)) hx1599) rfl trivial rfl (d_next (by kernel_rfl) (dp (i6 x1081) rfl (by kernel_rfl) (d_cons ?_)))
                  obtain ⟨hc1600, h⟩ := ifp_some h
                  refine vq (.own 4 [x1081.toNat] [x1081.toNat * 1]) rfl hc1600 (d_next (by kernel_rfl) (d_cons ?_))
                  have hl1601 : LdOk [x1081.toNat] (eA64u8 a1) [x1081.toNat * 1] 1 false (b8 (rd a1.1 x1081.toNat)) := (.arr (vlt a1 hc1600) rfl (.nil rfl rfl rfl))
                  refine vq (b8 (rd a1.1 x1081.toNat)) (ld_own (i := ⟨.int .u8, 1, 1, (.int .u8 0)⟩) rfl rfl rfl hl1601) hl1601.c (d_next (by kernel_rfl) (dp (i6 (IntKind.i64.wrap (rd a1.1 x1081.toNat))) rfl (by kernel_rfl) (dp (i6 x1524) rfl (by kernel_rfl) (d_cons ?_))))
                  obtain ⟨hc1602, h⟩ := ifp_some h
                  refine vq (.own 5 [x1524.toNat] [x1524.toNat * 1]) rfl hc1602 (d_next (by kernel_rfl) (d_cons ?_))
                  have hl1603 : LdOk [x1524.toNat] (eA64u8 a2) [x1524.toNat * 1] 1 false (b8 (rd a2.1 x1524.toNat)) := (.arr (vlt a2 hc1602) rfl (.nil rfl rfl rfl))
                  refine vq (b8 (rd a2.1 x1524.toNat)) (ld_own (i := ⟨.int .u8, 1, 1, (.int .u8 0)⟩) rfl rfl rfl hl1603) hl1603.c (d_next (by kernel_rfl) (dp (i6 (IntKind.i64.wrap (rd a2.1 x1524.toNat))) rfl (by kernel_rfl) (d_cons ?_)))
                  obtain ⟨x1604, hx1605, h⟩ := letp_some h
                  refine a_val' (v := (i6 (IntKind.i64.wrap ((IntKind.i64.wrap (rd a1.1 x1081.toNat)) * (IntKind.i64.wrap (rd a2.1 x1524.toNat)))))) (v' := (i6 x1604)) (u := []) (u' := []) rfl (congrArg (fun z => ((i6 z) : AV)) hx1605) rfl trivial rfl (d_next (by kernel_rfl) (dp (i6 (IntKind.i64.wrap (x1598 + x1604))) rfl (by kernel_rfl) (dp (i6 a0) rfl (by kernel_rfl) (d_cons ?_))))
                  obtain ⟨hc1606, h⟩ := ifp_some h
                  refine vq (i6 (Int.tmod (IntKind.i64.wrap (x1598 + x1604)) a0)) rfl hc1606 (d_next (by kernel_rfl) (d_cons ?_))
                  obtain ⟨x1607, hx1608, h⟩ := letp_some h
                  refine a_val' (v := (b8 (IntKind.u8.wrap (Int.tmod (IntKind.i64.wrap (x1598 + x1604)) a0)))) (v' := (b8 x1607)) (u := []) (u' := []) rfl (congrArg (fun z => ((b8 z) : AV)) hx1608) rfl trivial rfl (d_next (by kernel_rfl) (d_cons ?_))
                  obtain ⟨hc1609, h⟩ := ifp_some h
                  refine vq (.own 10 [(IntKind.i64.wrap (x1081 + x1524)).toNat] [(IntKind.i64.wrap (x1081 + x1524)).toNat * 1]) rfl hc1609 (d_next (by kernel_rfl) (d_cons ?_))
                  have hs1610 : StOk [(IntKind.i64.wrap (x1081 + x1524)).toNat] (eA64u8 x1525) [(IntKind.i64.wrap (x1081 + x1524)).toNat * 1] 1 (b8 x1607) (eA64u8 ((vset x1525 (IntKind.i64.wrap (x1081 + x1524)).toNat x1607))) := (.arr (y := x1607) (vlt x1525 hc1609) rfl (.nil rfl rfl rfl rfl))
                  refine vu .top [(10, (bk (eA64u8 ((vset x1525 (IntKind.i64.wrap (x1081 + x1524)).toNat x1607)))))] (st_own (i := ⟨.int .u8, 1, 1, (.int .u8 0)⟩) rfl rfl (fun _ => rfl) rfl hs1610) (hs1610.c rfl) rfl (d_next (by kernel_rfl) (d_nil (b_norm (a_next (σ' := ⟨[(0, (i6 a0)), (4, (ow 4)), (5, (ow 5)), (6, (ow 6)), (8, (i6 r9)), (9, (i6 r12)), (10, (ow 10)), (11, (i6 x1081)), (12, (i6 x1524))], [(4, (bk (eA64u8 a1))), (5, (bk (eA64u8 a2))), (6, (bk (eA64u8 ((vrep 64 (0 : Int)))))), (10, (bk (eA64u8 ((vset x1525 (IntKind.i64.wrap (x1081 + x1524)).toNat x1607)))))]⟩) (by kernel_rfl) (a_region (vp (i6 x1524) rfl (vp (i6 (IntKind.i64.wrap (x1524 + 1))) rfl (vp (i6 (IntKind.i64.wrap (x1524 + 1))) rfl (a_nil ?_)))))))))
                  cases h
                  exact a_again (by kernel_rfl) hX1569
              · have h := hy1575
                refine a_region (vp (i6 x1524) rfl (vp (i6 r12) rfl (vp (.bool ((decide (x1524 ≤ r12)))) rfl (vp (.bool ((decide (x1524 ≤ r12)))) rfl ?_))))
                cases hb1577 : (decide (x1524 ≤ r12))
                · have h := ite_f hb1577 h
                  refine a_gskip rfl (a_gskip rfl (a_gskip rfl (a_gskip rfl (vp (.bool false) rfl (a_nil ?_)))))
                  exact j_leaf false (Option.some.inj h) (by kernel_rfl)
                · have h := ite_t hb1577 h
                  refine gp (i6 x1081) rfl rfl ?_
                  obtain ⟨hc1578, h⟩ := ifp_some h
                  refine gq (.own 4 [x1081.toNat] [x1081.toNat * 1]) rfl rfl hc1578 ?_
                  have hl1579 : LdOk [x1081.toNat] (eA64u8 a1) [x1081.toNat * 1] 1 false (b8 (rd a1.1 x1081.toNat)) := (.arr (vlt a1 hc1578) rfl (.nil rfl rfl rfl))
                  refine gq (b8 (rd a1.1 x1081.toNat)) rfl (ld_own (i := ⟨.int .u8, 1, 1, (.int .u8 0)⟩) rfl rfl rfl hl1579) hl1579.c (gp (.bool (((rd a1.1 x1081.toNat) != 0))) rfl rfl (vp (.bool (((rd a1.1 x1081.toNat) != 0))) rfl (a_nil ?_)))
                  exact j_leaf (((rd a1.1 x1081.toNat) != 0)) (Option.some.inj h) (by kernel_rfl)
      · have h := ite_t hb22 h
        refine a_cond_t rfl (sr (vl (eA64u8 ((vrep 64 (0 : Int)))) rfl rfl rfl rfl rfl rfl (vs (eA64u8 ((vrep 64 (0 : Int)))) rfl rfl (fun _ => rfl) rfl rfl rfl rfl rfl rfl (vp (.bool false) rfl (nx _ rfl (a_ret (t_ret ?_)))))))
        have hl1618 : LdOk [] (eA64u8 ((vrep 64 (0 : Int)))) [] 64 true (eA64u8 ((vrep 64 (0 : Int)))) := (.nil rfl rfl rfl)
        refine ⟨.inr rfl, ?_⟩
        rw [Try.results105]
        cases h
        exact ⟨_, _, _, _, _, ld_own (i := ⟨.arr 64 5, 64, 64, (eA64u8 (vrep 64 (0 : Int)))⟩) rfl rfl rfl hl1618, hl1618.c, .inl ⟨rfl, .inl rfl⟩, rfl, ⟨_, _, _, _, _, rfl, trivial, .inl ⟨rfl, .inl rfl⟩, rfl, rfl⟩⟩
    · have h := ite_t hb21 h
      refine a_cond_t rfl (sr (vl (eA64u8 ((vrep 64 (0 : Int)))) rfl rfl rfl rfl rfl rfl (vs (eA64u8 ((vrep 64 (0 : Int)))) rfl rfl (fun _ => rfl) rfl rfl rfl rfl rfl rfl (vp (.bool true) rfl (nx _ rfl (a_ret (t_ret ?_)))))))
      have hl1621 : LdOk [] (eA64u8 ((vrep 64 (0 : Int)))) [] 64 true (eA64u8 ((vrep 64 (0 : Int)))) := (.nil rfl rfl rfl)
      refine ⟨.inr rfl, ?_⟩
      rw [Try.results105]
      cases h
      exact ⟨_, _, _, _, _, ld_own (i := ⟨.arr 64 5, 64, 64, (eA64u8 (vrep 64 (0 : Int)))⟩) rfl rfl rfl hl1621, hl1621.c, .inl ⟨rfl, .inl rfl⟩, rfl, ⟨_, _, _, _, _, rfl, trivial, .inl ⟨rfl, .inl rfl⟩, rfl, rfl⟩⟩
  · have h := hy18
    refine a_region (vp (i6 r9) rfl (vp (.bool ((decide (r9 < 0)))) rfl (vp (.bool ((decide (r9 < 0)))) rfl ?_)))
    cases hb20 : (decide (r9 < 0))
    · have h := ite_f hb20 h
      refine gp (i6 r12) rfl rfl (gp (.bool ((decide (r12 < 0)))) rfl rfl (vp (.bool ((decide (r12 < 0)))) rfl (a_nil ?_)))
      exact j_leaf ((decide (r12 < 0))) (Option.some.inj h) (by kernel_rfl)
    · have h := ite_t hb20 h
      refine a_gskip rfl (a_gskip rfl (vp (.bool true) rfl (a_nil ?_)))
      exact j_leaf true (Option.some.inj h) (by kernel_rfl)
def spec_l04Factorial_c : ACode := (.seq (.region 0 [q 6 (.alloc 25), q 7 (.asg 0 (.const (.bool false)) 4)] false) (.seq (.region 1 [q 14 (.call 0 (.func 133) []), q 8 (.alloc 25), ⟨none, .store 25 (t 8) (t 14), none, []⟩] false) (.seq (.seq (.region 2 [q 9 (.asg 0 (.const (.int .i64 0)) 2)] false) (.block 0 (.loop (.seq (.seq (.region 3 [q 15 (.mov (t 9)), q 16 (.mov (t 1)), q 17 (.bin .lss 2 (t 15) (t 16))] false) (.cond (t 17) .skip (.exit 0))) (.seq (.block 1 (.seq (.region 5 [q 21 (.mov (t 0)), q 22 (.mov (t 1)), q 23 (.mov (t 9)), q 24 (.call 0 (.func 127) [(t 21), (t 22), (t 23)]), q 20 (.mov (t 24)), q 25 (.extract (t 20) 0), q 26 (.extract (t 20) 1), q 10 (.alloc 25), ⟨none, .store 25 (t 10) (t 25), none, []⟩, q 11 (.asg 0 (t 26) 4)] false) (.seq (.seq (.region 6 [q 27 (.mov (t 2))] false) (.cond (t 27) (.region 7 [q 29 (.mov (t 0)), q 30 (.mov (t 9)), q 31 (.bin .add 2 (t 30) (.const (.int .i64 1))), q 32 (.call 0 (.func 127) [(t 29), (t 31), (.const (.int .i64 0))]), q 28 (.mov (t 32)), q 33 (.extract (t 28) 0), q 34 (.extract (t 28) 1), ⟨none, .store 25 (t 10) (t 33), none, []⟩, q 11 (.asg 0 (t 34) 4)] false) .skip)) (.seq (.seq (.region 8 [q 35 (.mov (t 11)), q 36 (.un .not (t 35))] false) (.cond (t 36) (.seq (.region 9 [q 37 (.build 25 []), ⟨none, .store 25 (t 6) (t 37), none, []⟩, q 7 (.asg 0 (.const (.bool false)) 4)] false) .ret) .skip)) (.seq (.region 10 [q 39 (.mov (t 0)), q 40 (.load 25 (t 8)), q 41 (.load 25 (t 10)), q 42 (.call 0 (.func 105) [(t 39), (t 40), (t 41)]), q 38 (.mov (t 42)), q 43 (.extract (t 38) 0), q 44 (.extract (t 38) 1), q 12 (.alloc 25), ⟨none, .store 25 (t 12) (t 43), none, []⟩, q 13 (.asg 0 (t 44) 4)] false) (.seq (.seq (.region 11 [q 45 (.mov (t 13)), q 46 (.un .not (t 45))] false) (.cond (t 46) (.seq (.region 12 [q 47 (.build 25 []), ⟨none, .store 25 (t 6) (t 47), none, []⟩, q 7 (.asg 0 (.const (.bool false)) 4)] false) .ret) .skip)) (.region 13 [q 48 (.load 25 (t 12)), ⟨none, .store 25 (t 8) (t 48), none, []⟩] false))))))) (.region 4 [q 18 (.mov (t 9)), q 19 (.bin .add 2 (t 18) (.const (.int .i64 1))), q 9 (.asg 0 (t 19) 2)] false)))))) (.seq (.region 14 [q 49 (.load 25 (t 8)), ⟨none, .store 25 (t 6) (t 49), none, []⟩, q 7 (.asg 0 (.const (.bool true)) 4)] false) .ret))))
def spec_l04Factorial_L : Live := [(0, [0, 1, 2]), (1, [0, 1, 2, 6]), (2, [0, 1, 2, 6, 8]), (3, [0, 1, 2, 6, 8, 9]), (4, [0, 1, 2, 6, 8, 9]), (5, [0, 1, 2, 6, 8, 9]), (6, [0, 1, 2, 6, 8, 9, 10, 11]), (7, [0, 1, 2, 6, 8, 9, 10]), (8, [0, 1, 2, 6, 8, 9, 10, 11]), (9, [6]), (10, [0, 1, 2, 6, 8, 9, 10]), (11, [0, 1, 2, 6, 8, 9, 12, 13]), (12, [6]), (13, [0, 1, 2, 6, 8, 9, 12]), (14, [6, 8]), (100017, [0, 1, 2, 6, 8, 9, 17]), (100027, [0, 1, 2, 6, 8, 9, 10, 11, 27]), (100036, [0, 1, 2, 6, 8, 9, 10, 36]), (100046, [0, 1, 2, 6, 8, 9, 12, 46])]
noncomputable def spec_l04Factorial_l1 (a1 : Int) (a0 : Int) (x131 : Bool) (x132 : Int) (x133 : (Vec Int 64)) : Option ((Bool × Int × (Vec Int 64)) ⊕ ((Vec Int 64) ⊕ ((Vec Int 64) × Bool))) :=
  (if (decide (x132 < a1)) then (Option.bind (spec_l04Bracket a0 a1 x132) fun r167 => (Option.bind (α := (Bool × Bool × (Vec Int 64))) ((if x131 then (Option.bind (spec_l04Bracket a0 (IntKind.i64.wrap (x132 + 1)) 0) fun r181 => (some (true, r181.2, r181.1))) else (some (false, r167.2, r167.1)))) fun ⟨x174, x175, x176⟩ => (if (!x175) then (some (.inr ((.inr (((vrep 64 (0 : Int)), false)))))) else (Option.bind (spec_l01Times a0 x133 x176) fun r187 => (if (!r187.2) then (some (.inr ((.inr (((vrep 64 (0 : Int)), false)))))) else (some (.inl ((x174, IntKind.i64.wrap (x132 + 1), r187.1))))))))) else (some (.inr (.inl x133))))
noncomputable def spec_l04Factorial (a0 : Int) (a1 : Int) (a2 : Bool) : Option ((Vec Int 64) × Bool) :=
  (Option.bind (spec_l01One) fun r1 => (Option.bind (α := ((Vec Int 64) ⊕ ((Vec Int 64) × Bool))) ((loopM (fun s : (Bool × Int × (Vec Int 64)) => spec_l04Factorial_l1 a1 a0 s.1 s.2.1 s.2.2) (a2, 0, r1))) fun z => match z with | .inl x98 => (some (x98, true)) | .inr r201 => (some r201)))
theorem spec_l04Factorial_ok (a0 : Int) (a1 : Int) (a2 : Bool) (r : ((Vec Int 64) × Bool)) (h : spec_l04Factorial a0 a1 a2 = some r) : Den Try.prog 130 [(i6 a0), (i6 a1), (.bool a2)] { r := (.tuple [(eA64u8 r.1), (.bool r.2)]) } := by
  refine den_of (rs := [(eA64u8 r.1), (.bool r.2)]) (ac := spec_l04Factorial_c) (L := spec_l04Factorial_L) (n := 50) (m := []) (c := Try.f130.body.getD .skip) good Try.func130 (by kernel_rfl) (by kernel_rfl) Try.ntmps130 rfl rfl (by kernel_rfl) rfl rfl ?_
  refine a_st (σ' := ⟨[(0, (i6 a0)), (1, (i6 a1)), (2, (.bool a2))], []⟩) (by kernel_rfl) ?_
  unfold spec_l04Factorial_c
  refine sr (vo 1600 (eA64u8 ((vrep 64 (0 : Int)))) rfl rfl (vp (.bool false) rfl (nx ⟨[(0, (i6 a0)), (1, (i6 a1)), (2, (.bool a2)), (6, (ow 6))], [(6, (bk (eA64u8 ((vrep 64 (0 : Int))))))]⟩ (by kernel_rfl) (sr ?_))))
  obtain ⟨r1, hr2, h⟩ := bind_some h
  refine a_call (args := []) (u := []) (r := (eA64u8 r1)) rfl rfl (spec_l01One_ok r1 hr2) rfl (vo 1800 (eA64u8 ((vrep 64 (0 : Int)))) rfl rfl (vs (eA64u8 r1) rfl rfl (fun _ => rfl) rfl rfl rfl rfl rfl rfl (nx ⟨[(0, (i6 a0)), (1, (i6 a1)), (2, (.bool a2)), (6, (ow 6)), (8, (ow 8))], [(6, (bk (eA64u8 ((vrep 64 (0 : Int)))))), (8, (bk (eA64u8 r1)))]⟩ (by kernel_rfl) ?_)))
  obtain ⟨y99, hy100, hk101⟩ := bind_some h
  clear h
  refine a_join (emb := fun (s : (Vec Int 64)) => ⟨[(6, (ow 6)), (8, (ow 8))], [(6, (bk (eA64u8 ((vrep 64 (0 : Int)))))), (8, (bk (eA64u8 s)))]⟩) (pre := fun s => (.inl s) = y99) ?_ ?_
  · rintro x98 rfl
    have h := hk101
    refine a_st (σ' := ⟨[(6, (ow 6)), (8, (ow 8))], [(6, (bk (eA64u8 ((vrep 64 (0 : Int)))))), (8, (bk (eA64u8 x98)))]⟩) (by kernel_rfl) (sr (vl (eA64u8 x98) rfl rfl rfl rfl rfl rfl (vs (eA64u8 x98) rfl rfl (fun _ => rfl) rfl rfl rfl rfl rfl rfl (vp (.bool true) rfl (nx _ rfl (a_ret ?_))))))
    have hl200 : LdOk [] (eA64u8 x98) [] 64 true (eA64u8 x98) := (.nil rfl rfl rfl)
    refine ⟨.inr rfl, ?_⟩
    rw [Try.results130]
    cases h
    exact ⟨_, _, _, _, _, ld_own (i := ⟨.arr 64 5, 64, 64, (eA64u8 (vrep 64 (0 : Int)))⟩) rfl rfl rfl hl200, hl200.c, .inl ⟨rfl, .inl rfl⟩, rfl, ⟨_, _, _, _, _, rfl, trivial, .inl ⟨rfl, .inl rfl⟩, rfl, rfl⟩⟩
  · have h := hy100
    refine sr (vp (i6 0) rfl (nx ⟨[(0, (i6 a0)), (1, (i6 a1)), (2, (.bool a2)), (6, (ow 6)), (8, (ow 8)), (9, (i6 0))], [(6, (bk (eA64u8 ((vrep 64 (0 : Int)))))), (8, (bk (eA64u8 r1)))]⟩ (by kernel_rfl) (a_block ?_)))
    refine a_loop (emb := fun (s : (Bool × Int × (Vec Int 64))) => ⟨[(0, (i6 a0)), (1, (i6 a1)), (2, (.bool s.1)), (6, (ow 6)), (8, (ow 8)), (9, (i6 s.2.1))], [(6, (bk (eA64u8 ((vrep 64 (0 : Int)))))), (8, (bk (eA64u8 s.2.2)))]⟩) (body := (fun s : (Bool × Int × (Vec Int 64)) => spec_l04Factorial_l1 a1 a0 s.1 s.2.1 s.2.2)) (G := fun q => some q = some y99) h rfl ?_ (by kernel_rfl)
    rintro X163 ⟨x131, x132, x133⟩ x164 h hX165
    have h : spec_l04Factorial_l1 a1 a0 x131 x132 x133 = some x164 := h
    refine a_st (σ' := ⟨[(0, (i6 a0)), (1, (i6 a1)), (2, (.bool x131)), (6, (ow 6)), (8, (ow 8)), (9, (i6 x132))], [(6, (bk (eA64u8 ((vrep 64 (0 : Int)))))), (8, (bk (eA64u8 x133)))]⟩) (by kernel_rfl) (a_seq (sr (vp (i6 x132) rfl (vp (i6 a1) rfl (vp (.bool ((decide (x132 < a1)))) rfl (nx ⟨[(0, (i6 a0)), (1, (i6 a1)), (2, (.bool x131)), (6, (ow 6)), (8, (ow 8)), (9, (i6 x132)), (17, (.bool ((decide (x132 < a1)))))], [(6, (bk (eA64u8 ((vrep 64 (0 : Int)))))), (8, (bk (eA64u8 x133)))]⟩ (by kernel_rfl) ?_))))))
    cases hb166 : (decide (x132 < a1))
    · have h := ite_f hb166 h
      refine a_cond_f rfl (a_exit (t_exit ?_))
      cases h
      have h := hX165
      refine t_exit (b_exit ?_)
      exact j_leaf x133 (Option.some.inj h) (by kernel_rfl)
    · have h := ite_t hb166 h
      refine a_cond_t rfl (a_skip (a_next (σ' := ⟨[(0, (i6 a0)), (1, (i6 a1)), (2, (.bool x131)), (6, (ow 6)), (8, (ow 8)), (9, (i6 x132))], [(6, (bk (eA64u8 ((vrep 64 (0 : Int)))))), (8, (bk (eA64u8 x133)))]⟩) (by kernel_rfl) (a_seq (a_block (sr (vp (i6 a0) rfl (vp (i6 a1) rfl (vp (i6 x132) rfl ?_))))))))
      obtain ⟨r167, hr168, h⟩ := bind_some h
      refine a_call (args := [(i6 a0), (i6 a1), (i6 x132)]) (u := []) (r := (.tuple [(eA64u8 r167.1), (.bool r167.2)])) rfl rfl (spec_l04Bracket_ok a0 a1 x132 r167 hr168) rfl (vp (.tuple [(eA64u8 r167.1), (.bool r167.2)]) rfl (vb (eA64u8 r167.1) rfl rfl (vb (.bool r167.2) rfl rfl (vo 2000 (eA64u8 ((vrep 64 (0 : Int)))) rfl rfl (vs (eA64u8 r167.1) rfl rfl (fun _ => rfl) rfl rfl rfl rfl rfl rfl (vp (.bool r167.2) rfl (nx ⟨[(0, (i6 a0)), (1, (i6 a1)), (2, (.bool x131)), (6, (ow 6)), (8, (ow 8)), (9, (i6 x132)), (10, (ow 10)), (11, (.bool r167.2))], [(6, (bk (eA64u8 ((vrep 64 (0 : Int)))))), (8, (bk (eA64u8 x133))), (10, (bk (eA64u8 r167.1)))]⟩ (by kernel_rfl) ?_)))))))
      obtain ⟨y177, hy178, hk179⟩ := bind_some h
      clear h
      refine a_join (emb := fun (s : (Bool × Bool × (Vec Int 64))) => ⟨[(0, (i6 a0)), (1, (i6 a1)), (2, (.bool s.1)), (6, (ow 6)), (8, (ow 8)), (9, (i6 x132)), (10, (ow 10)), (11, (.bool s.2.1))], [(6, (bk (eA64u8 ((vrep 64 (0 : Int)))))), (8, (bk (eA64u8 x133))), (10, (bk (eA64u8 s.2.2)))]⟩) (pre := fun s => s = y177) ?_ ?_
      · rintro ⟨x174, x175, x176⟩ rfl
        have h := hk179
        refine a_st (σ' := ⟨[(0, (i6 a0)), (1, (i6 a1)), (2, (.bool x174)), (6, (ow 6)), (8, (ow 8)), (9, (i6 x132)), (10, (ow 10)), (11, (.bool x175))], [(6, (bk (eA64u8 ((vrep 64 (0 : Int)))))), (8, (bk (eA64u8 x133))), (10, (bk (eA64u8 x176)))]⟩) (by kernel_rfl) (a_seq (sr (vp (.bool x175) rfl (vp (.bool (!x175)) rfl (nx ⟨[(0, (i6 a0)), (1, (i6 a1)), (2, (.bool x174)), (6, (ow 6)), (8, (ow 8)), (9, (i6 x132)), (10, (ow 10)), (36, (.bool (!x175)))], [(6, (bk (eA64u8 ((vrep 64 (0 : Int)))))), (8, (bk (eA64u8 x133))), (10, (bk (eA64u8 x176)))]⟩ (by kernel_rfl) ?_)))))
        cases hb184 : (!x175)
        · have h := ite_f hb184 h
          refine a_cond_f rfl (a_skip (a_next (σ' := ⟨[(0, (i6 a0)), (1, (i6 a1)), (2, (.bool x174)), (6, (ow 6)), (8, (ow 8)), (9, (i6 x132)), (10, (ow 10))], [(6, (bk (eA64u8 ((vrep 64 (0 : Int)))))), (8, (bk (eA64u8 x133))), (10, (bk (eA64u8 x176)))]⟩) (by kernel_rfl) (sr (vp (i6 a0) rfl (vl (eA64u8 x133) rfl rfl rfl rfl rfl rfl (vl (eA64u8 x176) rfl rfl rfl rfl rfl rfl ?_))))))
          obtain ⟨r187, hr188, h⟩ := bind_some h
          refine a_call (args := [(i6 a0), (eA64u8 x133), (eA64u8 x176)]) (u := []) (r := (.tuple [(eA64u8 r187.1), (.bool r187.2)])) rfl rfl (spec_l01Times_ok a0 x133 x176 r187 hr188) rfl (vp (.tuple [(eA64u8 r187.1), (.bool r187.2)]) rfl (vb (eA64u8 r187.1) rfl rfl (vb (.bool r187.2) rfl rfl (vo 2200 (eA64u8 ((vrep 64 (0 : Int)))) rfl rfl (vs (eA64u8 r187.1) rfl rfl (fun _ => rfl) rfl rfl rfl rfl rfl rfl (vp (.bool r187.2) rfl (nx ⟨[(0, (i6 a0)), (1, (i6 a1)), (2, (.bool x174)), (6, (ow 6)), (8, (ow 8)), (9, (i6 x132)), (12, (ow 12)), (13, (.bool r187.2))], [(6, (bk (eA64u8 ((vrep 64 (0 : Int)))))), (8, (bk (eA64u8 x133))), (12, (bk (eA64u8 r187.1)))]⟩ (by kernel_rfl) (a_seq (sr ?_)))))))))
          refine vp (.bool r187.2) rfl (vp (.bool (!r187.2)) rfl (nx ⟨[(0, (i6 a0)), (1, (i6 a1)), (2, (.bool x174)), (6, (ow 6)), (8, (ow 8)), (9, (i6 x132)), (12, (ow 12)), (46, (.bool (!r187.2)))], [(6, (bk (eA64u8 ((vrep 64 (0 : Int)))))), (8, (bk (eA64u8 x133))), (12, (bk (eA64u8 r187.1)))]⟩ (by kernel_rfl) ?_))
          cases hb190 : (!r187.2)
          · have h := ite_f hb190 h
            refine a_cond_f rfl (a_skip (a_next (σ' := ⟨[(0, (i6 a0)), (1, (i6 a1)), (2, (.bool x174)), (6, (ow 6)), (8, (ow 8)), (9, (i6 x132)), (12, (ow 12))], [(6, (bk (eA64u8 ((vrep 64 (0 : Int)))))), (8, (bk (eA64u8 x133))), (12, (bk (eA64u8 r187.1)))]⟩) (by kernel_rfl) (a_region (vl (eA64u8 r187.1) rfl rfl rfl rfl rfl rfl (vs (eA64u8 r187.1) rfl rfl (fun _ => rfl) rfl rfl rfl rfl rfl rfl (a_nil (b_norm (a_next (σ' := ⟨[(0, (i6 a0)), (1, (i6 a1)), (2, (.bool x174)), (6, (ow 6)), (8, (ow 8)), (9, (i6 x132))], [(6, (bk (eA64u8 ((vrep 64 (0 : Int)))))), (8, (bk (eA64u8 r187.1)))]⟩) (by kernel_rfl) (a_region ?_)))))))))
            refine vp (i6 x132) rfl (vp (i6 (IntKind.i64.wrap (x132 + 1))) rfl (vp (i6 (IntKind.i64.wrap (x132 + 1))) rfl (a_nil ?_)))
            cases h
            exact a_again (by kernel_rfl) hX165
          · have h := ite_t hb190 h
            refine a_cond_t rfl (sr (vq (eA64u8 ((vrep 64 (0 : Int)))) rfl ⟨⟨_, rfl, rfl⟩, all_nil⟩ (vs (eA64u8 ((vrep 64 (0 : Int)))) rfl rfl (fun _ => rfl) rfl rfl rfl rfl rfl rfl (vp (.bool false) rfl (nx _ rfl (a_ret (t_ret (b_ret (t_ret ?_)))))))))
            cases h
            have h := hX165
            refine t_ret (b_ret (t_ret ?_))
            cases h
            have h := hk101
            have hl194 : LdOk [] (eA64u8 ((vrep 64 (0 : Int)))) [] 64 true (eA64u8 ((vrep 64 (0 : Int)))) := (.nil rfl rfl rfl)
            refine ⟨.inr rfl, ?_⟩
            rw [Try.results130]
            cases h
            exact ⟨_, _, _, _, _, ld_own (i := ⟨.arr 64 5, 64, 64, (eA64u8 (vrep 64 (0 : Int)))⟩) rfl rfl rfl hl194, hl194.c, .inl ⟨rfl, .inl rfl⟩, rfl, ⟨_, _, _, _, _, rfl, trivial, .inl ⟨rfl, .inl rfl⟩, rfl, rfl⟩⟩
        · have h := ite_t hb184 h
          refine a_cond_t rfl (sr (vq (eA64u8 ((vrep 64 (0 : Int)))) rfl ⟨⟨_, rfl, rfl⟩, all_nil⟩ (vs (eA64u8 ((vrep 64 (0 : Int)))) rfl rfl (fun _ => rfl) rfl rfl rfl rfl rfl rfl (vp (.bool false) rfl (nx _ rfl (a_ret (t_ret (b_ret (t_ret ?_)))))))))
          cases h
          have h := hX165
          refine t_ret (b_ret (t_ret ?_))
          cases h
          have h := hk101
          have hl196 : LdOk [] (eA64u8 ((vrep 64 (0 : Int)))) [] 64 true (eA64u8 ((vrep 64 (0 : Int)))) := (.nil rfl rfl rfl)
          refine ⟨.inr rfl, ?_⟩
          rw [Try.results130]
          cases h
          exact ⟨_, _, _, _, _, ld_own (i := ⟨.arr 64 5, 64, 64, (eA64u8 (vrep 64 (0 : Int)))⟩) rfl rfl rfl hl196, hl196.c, .inl ⟨rfl, .inl rfl⟩, rfl, ⟨_, _, _, _, _, rfl, trivial, .inl ⟨rfl, .inl rfl⟩, rfl, rfl⟩⟩
      · have h := hy178
        refine sr (vp (.bool x131) rfl (nx ⟨[(0, (i6 a0)), (1, (i6 a1)), (2, (.bool x131)), (6, (ow 6)), (8, (ow 8)), (9, (i6 x132)), (10, (ow 10)), (11, (.bool r167.2)), (27, (.bool x131))], [(6, (bk (eA64u8 ((vrep 64 (0 : Int)))))), (8, (bk (eA64u8 x133))), (10, (bk (eA64u8 r167.1)))]⟩ (by kernel_rfl) ?_))
        cases hb180 : x131
        · have h := ite_f hb180 h
          refine a_cond_f rfl (a_skip ?_)
          exact j_leaf (false, r167.2, r167.1) (Option.some.inj h) (by kernel_rfl)
        · have h := ite_t hb180 h
          refine a_cond_t rfl (a_region (vp (i6 a0) rfl (vp (i6 x132) rfl (vp (i6 (IntKind.i64.wrap (x132 + 1))) rfl ?_))))
          obtain ⟨r181, hr182, h⟩ := bind_some h
          refine a_call (args := [(i6 a0), (i6 (IntKind.i64.wrap (x132 + 1))), (i6 0)]) (u := []) (r := (.tuple [(eA64u8 r181.1), (.bool r181.2)])) rfl rfl (spec_l04Bracket_ok a0 (IntKind.i64.wrap (x132 + 1)) 0 r181 hr182) rfl (vp (.tuple [(eA64u8 r181.1), (.bool r181.2)]) rfl (vb (eA64u8 r181.1) rfl rfl (vb (.bool r181.2) rfl rfl (vs (eA64u8 r181.1) rfl rfl (fun _ => rfl) rfl rfl rfl rfl rfl rfl (vp (.bool r181.2) rfl (a_nil ?_))))))
          exact j_leaf (true, r181.2, r181.1) (Option.some.inj h) (by kernel_rfl)
def spec_FirstFactorial_c : ACode := (.seq (.region 0 [q 4 (.alloc 25), q 5 (.asg 0 (.const (.int .i64 0)) 2)] false) (.seq (.seq (.region 1 [q 9 (.mov (t 0)), q 10 (.mov (t 1)), q 11 (.call 0 (.func 126) [(t 9), (t 10), (.const (.int .i64 0)), (.const (.int .i64 6))]), q 6 (.asg 0 (t 11) 2)] false) (.seq (.region 2 [q 12 (.mov (t 6)), q 13 (.bin .neq 2 (t 12) (.const (.int .i64 0)))] false) (.cond (t 13) (.seq (.region 3 [q 14 (.build 25 []), q 15 (.mov (t 6)), ⟨none, .store 25 (t 4) (t 14), none, []⟩, q 5 (.asg 0 (t 15) 2)] false) .ret) .skip))) (.seq (.region 4 [q 17 (.mov (t 0)), q 18 (.mov (t 1)), q 19 (.call 0 (.func 130) [(t 17), (t 18), (.const (.bool false))]), q 16 (.mov (t 19)), q 20 (.extract (t 16) 0), q 21 (.extract (t 16) 1), q 7 (.alloc 25), ⟨none, .store 25 (t 7) (t 20), none, []⟩, q 8 (.asg 0 (t 21) 4)] false) (.seq (.seq (.region 5 [q 22 (.mov (t 8)), q 23 (.un .not (t 22))] false) (.cond (t 23) (.seq (.region 6 [q 24 (.build 25 []), ⟨none, .store 25 (t 4) (t 24), none, []⟩, q 5 (.asg 0 (.const (.int .i64 3)) 2)] false) .ret) .skip)) (.seq (.region 7 [q 25 (.load 25 (t 7)), ⟨none, .store 25 (t 4) (t 25), none, []⟩, q 5 (.asg 0 (.const (.int .i64 0)) 2)] false) .ret)))))
def spec_FirstFactorial_L : Live := [(0, [0, 1]), (1, [0, 1, 4]), (2, [0, 1, 4, 6]), (3, [4, 6]), (4, [0, 1, 4]), (5, [4, 7, 8]), (6, [4]), (7, [4, 7]), (100013, [0, 1, 4, 6, 13]), (100023, [4, 7, 23])]
noncomputable def spec_FirstFactorial (a0 : Int) (a1 : Int) : Option ((Vec Int 64) × Int) :=
  (Option.bind (spec_l04Range a0 a1 0 6) fun r1 => (if (r1 != 0) then (some (((vrep 64 (0 : Int)), r1))) else (Option.bind (spec_l04Factorial a0 a1 false) fun r4 => (if (!r4.2) then (some (((vrep 64 (0 : Int)), 3))) else (some (r4.1, 0))))))
theorem spec_FirstFactorial_ok (a0 : Int) (a1 : Int) (r : ((Vec Int 64) × Int)) (h : spec_FirstFactorial a0 a1 = some r) : Den Try.prog 34 [(i6 a0), (i6 a1)] { r := (.tuple [(eA64u8 r.1), (i6 r.2)]) } := by
  refine den_of (rs := [(eA64u8 r.1), (i6 r.2)]) (ac := spec_FirstFactorial_c) (L := spec_FirstFactorial_L) (n := 26) (m := []) (c := Try.f34.body.getD .skip) good Try.func34 (by kernel_rfl) (by kernel_rfl) Try.ntmps34 rfl rfl (by kernel_rfl) rfl rfl ?_
  refine a_st (σ' := ⟨[(0, (i6 a0)), (1, (i6 a1))], []⟩) (by kernel_rfl) ?_
  unfold spec_FirstFactorial_c
  refine sr (vo 1400 (eA64u8 ((vrep 64 (0 : Int)))) rfl rfl (vp (i6 0) rfl (nx ⟨[(0, (i6 a0)), (1, (i6 a1)), (4, (ow 4))], [(4, (bk (eA64u8 ((vrep 64 (0 : Int))))))]⟩ (by kernel_rfl) (a_seq (sr (vp (i6 a0) rfl (vp (i6 a1) rfl ?_)))))))
  obtain ⟨r1, hr2, h⟩ := bind_some h
  refine a_call (args := [(i6 a0), (i6 a1), (i6 0), (i6 6)]) (u := []) (r := (i6 r1)) rfl rfl (spec_l04Range_ok a0 a1 0 6 r1 hr2) rfl (vp (i6 r1) rfl (nx ⟨[(0, (i6 a0)), (1, (i6 a1)), (4, (ow 4)), (6, (i6 r1))], [(4, (bk (eA64u8 ((vrep 64 (0 : Int))))))]⟩ (by kernel_rfl) (sr (vp (i6 r1) rfl (vp (.bool (r1 != 0)) rfl (nx ⟨[(0, (i6 a0)), (1, (i6 a1)), (4, (ow 4)), (6, (i6 r1)), (13, (.bool (r1 != 0)))], [(4, (bk (eA64u8 ((vrep 64 (0 : Int))))))]⟩ (by kernel_rfl) ?_))))))
  cases hb3 : (r1 != 0)
  · have h := ite_f hb3 h
    refine a_cond_f rfl (a_skip (a_next (σ' := ⟨[(0, (i6 a0)), (1, (i6 a1)), (4, (ow 4))], [(4, (bk (eA64u8 ((vrep 64 (0 : Int))))))]⟩) (by kernel_rfl) (sr (vp (i6 a0) rfl (vp (i6 a1) rfl ?_)))))
    obtain ⟨r4, hr5, h⟩ := bind_some h
    refine a_call (args := [(i6 a0), (i6 a1), (.bool false)]) (u := []) (r := (.tuple [(eA64u8 r4.1), (.bool r4.2)])) rfl rfl (spec_l04Factorial_ok a0 a1 false r4 hr5) rfl (vp (.tuple [(eA64u8 r4.1), (.bool r4.2)]) rfl (vb (eA64u8 r4.1) rfl rfl (vb (.bool r4.2) rfl rfl (vo 1700 (eA64u8 ((vrep 64 (0 : Int)))) rfl rfl (vs (eA64u8 r4.1) rfl rfl (fun _ => rfl) rfl rfl rfl rfl rfl rfl (vp (.bool r4.2) rfl (nx ⟨[(4, (ow 4)), (7, (ow 7)), (8, (.bool r4.2))], [(4, (bk (eA64u8 ((vrep 64 (0 : Int)))))), (7, (bk (eA64u8 r4.1)))]⟩ (by kernel_rfl) (a_seq (sr ?_)))))))))
    refine vp (.bool r4.2) rfl (vp (.bool (!r4.2)) rfl (nx ⟨[(4, (ow 4)), (7, (ow 7)), (23, (.bool (!r4.2)))], [(4, (bk (eA64u8 ((vrep 64 (0 : Int)))))), (7, (bk (eA64u8 r4.1)))]⟩ (by kernel_rfl) ?_))
    cases hb7 : (!r4.2)
    · have h := ite_f hb7 h
      refine a_cond_f rfl (a_skip (a_next (σ' := ⟨[(4, (ow 4)), (7, (ow 7))], [(4, (bk (eA64u8 ((vrep 64 (0 : Int)))))), (7, (bk (eA64u8 r4.1)))]⟩) (by kernel_rfl) (sr (vl (eA64u8 r4.1) rfl rfl rfl rfl rfl rfl (vs (eA64u8 r4.1) rfl rfl (fun _ => rfl) rfl rfl rfl rfl rfl rfl (vp (i6 0) rfl (nx _ rfl (a_ret ?_))))))))
      have hl10 : LdOk [] (eA64u8 r4.1) [] 64 true (eA64u8 r4.1) := (.nil rfl rfl rfl)
      refine ⟨.inr rfl, ?_⟩
      rw [Try.results34]
      cases h
      exact ⟨_, _, _, _, _, ld_own (i := ⟨.arr 64 5, 64, 64, (eA64u8 (vrep 64 (0 : Int)))⟩) rfl rfl rfl hl10, hl10.c, .inl ⟨rfl, .inl rfl⟩, rfl, ⟨_, _, _, _, _, rfl, trivial, .inl ⟨rfl, .inl rfl⟩, rfl, rfl⟩⟩
    · have h := ite_t hb7 h
      refine a_cond_t rfl (sr (vq (eA64u8 ((vrep 64 (0 : Int)))) rfl ⟨⟨_, rfl, rfl⟩, all_nil⟩ (vs (eA64u8 ((vrep 64 (0 : Int)))) rfl rfl (fun _ => rfl) rfl rfl rfl rfl rfl rfl (vp (i6 3) rfl (nx _ rfl (a_ret (t_ret ?_)))))))
      have hl12 : LdOk [] (eA64u8 ((vrep 64 (0 : Int)))) [] 64 true (eA64u8 ((vrep 64 (0 : Int)))) := (.nil rfl rfl rfl)
      refine ⟨.inr rfl, ?_⟩
      rw [Try.results34]
      cases h
      exact ⟨_, _, _, _, _, ld_own (i := ⟨.arr 64 5, 64, 64, (eA64u8 (vrep 64 (0 : Int)))⟩) rfl rfl rfl hl12, hl12.c, .inl ⟨rfl, .inl rfl⟩, rfl, ⟨_, _, _, _, _, rfl, trivial, .inl ⟨rfl, .inl rfl⟩, rfl, rfl⟩⟩
  · have h := ite_t hb3 h
    refine a_cond_t rfl (sr (vq (eA64u8 ((vrep 64 (0 : Int)))) rfl ⟨⟨_, rfl, rfl⟩, all_nil⟩ (vp (i6 r1) rfl (vs (eA64u8 ((vrep 64 (0 : Int)))) rfl rfl (fun _ => rfl) rfl rfl rfl rfl rfl rfl (vp (i6 r1) rfl (nx _ rfl (a_ret (t_ret ?_))))))))
    have hl14 : LdOk [] (eA64u8 ((vrep 64 (0 : Int)))) [] 64 true (eA64u8 ((vrep 64 (0 : Int)))) := (.nil rfl rfl rfl)
    refine ⟨.inr rfl, ?_⟩
    rw [Try.results34]
    cases h
    exact ⟨_, _, _, _, _, ld_own (i := ⟨.arr 64 5, 64, 64, (eA64u8 (vrep 64 (0 : Int)))⟩) rfl rfl rfl hl14, hl14.c, .inl ⟨rfl, .inl rfl⟩, rfl, ⟨_, _, _, _, _, rfl, trivial, .inl ⟨rfl, .inl rfl⟩, rfl, rfl⟩⟩
def impl_prime_second_c : ACode := (.seq (.region 0 [q 4 (.asg 1 (.const (.slice none 0 0)) 108)] false) (.seq (.region 1 [q 5 (.asg 2 (.const (.slice none 0 0)) 108)] false) (.seq (.seq (.region 2 [q 7 (.mov (t 1)), q 8 (.mov (.const (.int .i64 0)))] false) (.block 0 (.loop (.seq (.region 3 [q 9 (.bin .lss 2 (t 8) (t 7))] false) (.seq (.cond (t 9) .skip (.exit 0)) (.seq (.block 1 (.seq (.region 4 [q 10 (.mov (t 8)), q 6 (.asg 0 (t 10) 2)] false) (.region 5 [q 11 (.mov (t 5)), q 12 (.mov (t 0)), q 13 (.mov (t 6)), q 14 (.bin .add 2 (t 13) (.const (.int .i64 1))), q 15 (.call 0 (.func 125) [(t 12), (t 14), (.const (.int .i64 0))]), q 16 (.bslice 0 108 1 [(0, (t 15))]), q 17 (.blt 0 .append [(t 11), (t 16)] [108, 108]), q 5 (.asg 2 (t 17) 108)] false))) (.region 6 [q 18 (.bin .add 2 (t 8) (.const (.int .i64 1))), q 8 (.mov (t 18))] false))))))) (.seq (.region 7 [q 19 (.mov (t 5)), q 4 (.asg 1 (t 19) 108)] false) .ret))))
def impl_prime_second_L : Live := [(0, [0, 1]), (1, [0, 1]), (2, [0, 1, 5]), (3, [0, 5, 7, 8]), (4, [0, 5, 7, 8]), (5, [0, 5, 6, 7, 8]), (6, [0, 5, 7, 8]), (7, [5]), (100009, [0, 5, 7, 8, 9])]
noncomputable def impl_prime_second_l1 (a1 : Int) (a0 : Int) (x27 : Int) (x28 : (List (List Int))) : Option ((Int × (List (List Int))) ⊕ (List (List Int))) :=
  (if (decide (x27 < a1)) then (Option.bind (impl_prime_bracket a0 (IntKind.i64.wrap (x27 + 1)) 0) fun r37 => (ifp ((x28.length + ([r37] : List (List Int)).length) * 24 ≤ 140737488355328) ((some (.inl ((IntKind.i64.wrap (x27 + 1), (x28 ++ ([r37]))))))))) else (some (.inr x28)))
noncomputable def impl_prime_second (a0 : Int) (a1 : Int) : Option (List (List Int)) :=
  (Option.bind (α := (List (List Int))) ((loopM (fun s : (Int × (List (List Int))) => impl_prime_second_l1 a1 a0 s.1 s.2) (0, []))) fun x19 => (some x19))
theorem impl_prime_second_ok (a0 : Int) (a1 : Int) (r : (List (List Int))) (h : impl_prime_second a0 a1 = some r) : Den Try.prog 131 [(i6 a0), (i6 a1)] { r := (eSSi64 r) } := by
  refine den_of (rs := [(eSSi64 r)]) (ac := impl_prime_second_c) (L := impl_prime_second_L) (n := 20) (m := [(4, 1), (5, 2)]) (c := Try.f131.body.getD .skip) good Try.func131 (by kernel_rfl) (by kernel_rfl) Try.ntmps131 rfl rfl (by kernel_rfl) rfl rfl ?_
  refine a_st (σ' := ⟨[(0, (i6 a0)), (1, (i6 a1))], []⟩) (by kernel_rfl) ?_
  unfold impl_prime_second_c
  refine sr (vp (eSSi64 ([])) rfl (nx ⟨[(0, (i6 a0)), (1, (i6 a1))], []⟩ (by kernel_rfl) (sr (vu (.osl 1500) [(1500, (bk (.row 1 (([]).map eSi64))))] rfl trivial rfl (nx ⟨[(0, (i6 a0)), (1, (i6 a1)), (5, (.osl 5))], [(5, (bk (.row 1 (([]).map eSi64))))]⟩ (by kernel_rfl) ?_)))))
  obtain ⟨y20, hy21, hk22⟩ := bind_some h
  clear h
  refine a_join (emb := fun (s : (List (List Int))) => ⟨[(5, (.osl 5))], [(5, (bk (.row 1 (s.map eSi64))))]⟩) (pre := fun s => s = y20) ?_ ?_
  · rintro x19 rfl
    have h := hk22
    refine a_st (σ' := ⟨[(5, (.osl 5))], [(5, (bk (.row 1 (x19.map eSi64))))]⟩) (by kernel_rfl) (sr (vp (.osl 5) rfl (vu (eSSi64 x19) [(5, (bf (.row 1 (x19.map eSi64))))] rfl trivial rfl (nx _ rfl (a_ret ?_)))))
    refine ⟨.inr rfl, ?_⟩
    rw [Try.results131]
    cases h
    exact ⟨_, _, _, _, _, rfl, trivial, .inl ⟨rfl, .inl rfl⟩, rfl, rfl⟩
  · have h := hy21
    refine sr (vp (i6 a1) rfl (vp (i6 0) rfl (nx ⟨[(0, (i6 a0)), (5, (.osl 5)), (7, (i6 a1)), (8, (i6 0))], [(5, (bk (.row 1 (([]).map eSi64))))]⟩ (by kernel_rfl) (a_block ?_))))
    refine a_loop (emb := fun (s : (Int × (List (List Int)))) => ⟨[(0, (i6 a0)), (5, (.osl 5)), (7, (i6 a1)), (8, (i6 s.1))], [(5, (bk (.row 1 (s.2.map eSi64))))]⟩) (body := (fun s : (Int × (List (List Int))) => impl_prime_second_l1 a1 a0 s.1 s.2)) (G := fun q => some q = some y20) h rfl ?_ (by kernel_rfl)
    rintro X33 ⟨x27, x28⟩ x34 h hX35
    have h : impl_prime_second_l1 a1 a0 x27 x28 = some x34 := h
    refine a_st (σ' := ⟨[(0, (i6 a0)), (5, (.osl 5)), (7, (i6 a1)), (8, (i6 x27))], [(5, (bk (.row 1 (x28.map eSi64))))]⟩) (by kernel_rfl) (sr (vp (.bool ((decide (x27 < a1)))) rfl (nx ⟨[(0, (i6 a0)), (5, (.osl 5)), (7, (i6 a1)), (8, (i6 x27)), (9, (.bool ((decide (x27 < a1)))))], [(5, (bk (.row 1 (x28.map eSi64))))]⟩ (by kernel_rfl) (a_seq ?_))))
    cases hb36 : (decide (x27 < a1))
    · have h := ite_f hb36 h
      refine a_cond_f rfl (a_exit (t_exit ?_))
      cases h
      have h := hX35
      refine t_exit (b_exit ?_)
      exact j_leaf x28 (Option.some.inj h) (by kernel_rfl)
    · have h := ite_t hb36 h
      refine a_cond_t rfl (a_skip (a_next (σ' := ⟨[(0, (i6 a0)), (5, (.osl 5)), (7, (i6 a1)), (8, (i6 x27))], [(5, (bk (.row 1 (x28.map eSi64))))]⟩) (by kernel_rfl) (a_seq (a_block (sr (vp (i6 x27) rfl (vp (i6 x27) rfl (nx ⟨[(0, (i6 a0)), (5, (.osl 5)), (6, (i6 x27)), (7, (i6 a1)), (8, (i6 x27))], [(5, (bk (.row 1 (x28.map eSi64))))]⟩ (by kernel_rfl) (a_region ?_)))))))))
      refine vp (.osl 5) rfl (vp (i6 a0) rfl (vp (i6 x27) rfl (vp (i6 (IntKind.i64.wrap (x27 + 1))) rfl ?_)))
      obtain ⟨r37, hr38, h⟩ := bind_some h
      refine a_call (args := [(i6 a0), (i6 (IntKind.i64.wrap (x27 + 1))), (i6 0)]) (u := []) (r := (eSi64 r37)) rfl rfl (impl_prime_bracket_ok a0 (IntKind.i64.wrap (x27 + 1)) 0 r37 hr38) rfl (vq (.sl 1 true (([r37]).map eSi64)) rfl ⟨(Nat.le_of_ble_eq_true rfl), (Nat.le_of_ble_eq_true rfl), (all_cons ⟨(Nat.le_of_ble_eq_true rfl), rfl⟩ all_nil)⟩ ?_)
      obtain ⟨hc39, h⟩ := ifp_some h
      refine vu (.osl 2700) [(2700, (bk (.row 1 (((x28 ++ ([r37]))).map eSi64)))), (5, none)] (app_run (i := ⟨.slice 2, 1, 24, (eSi64 [])⟩) (f := eSi64) (l := x28) (l2 := [r37]) rfl rfl rfl rfl (fun _ => rfl) rfl rfl) (app_c (f := eSi64) (s := 1) (sz := 1) (by' := 24) (u := []) (id := 5) hc39 (.inr rfl) rfl rfl rfl) rfl (vp (.osl 2700) rfl (a_nil (b_norm (a_next (σ' := ⟨[(0, (i6 a0)), (5, (.osl 5)), (7, (i6 a1)), (8, (i6 x27))], [(5, (bk (.row 1 (((x28 ++ ([r37]))).map eSi64))))]⟩) (by kernel_rfl) (a_region (vp (i6 (IntKind.i64.wrap (x27 + 1))) rfl (vp (i6 (IntKind.i64.wrap (x27 + 1))) rfl (a_nil ?_))))))))
      cases h
      exact a_again (by kernel_rfl) hX35
def impl_SecondFactorial_c : ACode := (.seq (.region 0 [q 4 (.alloc 25), q 5 (.asg 0 (.const (.int .i64 0)) 2)] false) (.seq (.seq (.region 1 [q 7 (.mov (t 0)), q 8 (.mov (t 1)), q 9 (.call 0 (.func 124) [(t 7), (t 8), (.const (.int .i64 0)), (.const (.int .i64 6))]), q 6 (.asg 0 (t 9) 2)] false) (.seq (.region 2 [q 10 (.mov (t 6)), q 11 (.bin .neq 2 (t 10) (.const (.int .i64 0)))] false) (.cond (t 11) (.seq (.region 3 [q 12 (.build 25 []), q 13 (.mov (t 6)), ⟨none, .store 25 (t 4) (t 12), none, []⟩, q 5 (.asg 0 (t 13) 2)] false) .ret) .skip))) (.seq (.region 4 [q 14 (.mov (t 0)), q 15 (.mov (t 0)), q 16 (.mov (t 1)), q 17 (.call 0 (.func 131) [(t 15), (t 16)]), q 18 (.call 0 (.func 128) [(t 14), (t 17)]), q 19 (.extract (t 18) 0), q 20 (.extract (t 18) 1), ⟨none, .store 25 (t 4) (t 19), none, []⟩, q 5 (.asg 0 (t 20) 2)] false) .ret)))
def impl_SecondFactorial_L : Live := [(0, [0, 1]), (1, [0, 1, 4]), (2, [0, 1, 4, 6]), (3, [4, 6]), (4, [0, 1, 4]), (100011, [0, 1, 4, 6, 11])]
noncomputable def impl_SecondFactorial (a0 : Int) (a1 : Int) : Option ((Vec Int 64) × Int) :=
  (Option.bind (impl_numberCode a0 a1 0 6) fun r1 => (if (r1 != 0) then (some (((vrep 64 (0 : Int)), r1))) else (Option.bind (impl_prime_second a0 a1) fun r4 => (Option.bind (impl_prime_productOf a0 r4) fun r6 => (some (r6.1, r6.2))))))
theorem impl_SecondFactorial_ok (a0 : Int) (a1 : Int) (r : ((Vec Int 64) × Int)) (h : impl_SecondFactorial a0 a1 = some r) : Den Try.prog 35 [(i6 a0), (i6 a1)] { r := (.tuple [(eA64u8 r.1), (i6 r.2)]) } := by
  refine den_of (rs := [(eA64u8 r.1), (i6 r.2)]) (ac := impl_SecondFactorial_c) (L := impl_SecondFactorial_L) (n := 21) (m := []) (c := Try.f35.body.getD .skip) good Try.func35 (by kernel_rfl) (by kernel_rfl) Try.ntmps35 rfl rfl (by kernel_rfl) rfl rfl ?_
  refine a_st (σ' := ⟨[(0, (i6 a0)), (1, (i6 a1))], []⟩) (by kernel_rfl) ?_
  unfold impl_SecondFactorial_c
  refine sr (vo 1400 (eA64u8 ((vrep 64 (0 : Int)))) rfl rfl (vp (i6 0) rfl (nx ⟨[(0, (i6 a0)), (1, (i6 a1)), (4, (ow 4))], [(4, (bk (eA64u8 ((vrep 64 (0 : Int))))))]⟩ (by kernel_rfl) (a_seq (sr (vp (i6 a0) rfl (vp (i6 a1) rfl ?_)))))))
  obtain ⟨r1, hr2, h⟩ := bind_some h
  refine a_call (args := [(i6 a0), (i6 a1), (i6 0), (i6 6)]) (u := []) (r := (i6 r1)) rfl rfl (impl_numberCode_ok a0 a1 0 6 r1 hr2) rfl (vp (i6 r1) rfl (nx ⟨[(0, (i6 a0)), (1, (i6 a1)), (4, (ow 4)), (6, (i6 r1))], [(4, (bk (eA64u8 ((vrep 64 (0 : Int))))))]⟩ (by kernel_rfl) (sr (vp (i6 r1) rfl (vp (.bool (r1 != 0)) rfl (nx ⟨[(0, (i6 a0)), (1, (i6 a1)), (4, (ow 4)), (6, (i6 r1)), (11, (.bool (r1 != 0)))], [(4, (bk (eA64u8 ((vrep 64 (0 : Int))))))]⟩ (by kernel_rfl) ?_))))))
  cases hb3 : (r1 != 0)
  · have h := ite_f hb3 h
    refine a_cond_f rfl (a_skip (a_next (σ' := ⟨[(0, (i6 a0)), (1, (i6 a1)), (4, (ow 4))], [(4, (bk (eA64u8 ((vrep 64 (0 : Int))))))]⟩) (by kernel_rfl) (sr (vp (i6 a0) rfl (vp (i6 a0) rfl (vp (i6 a1) rfl ?_))))))
    obtain ⟨r4, hr5, h⟩ := bind_some h
    refine a_call (args := [(i6 a0), (i6 a1)]) (u := []) (r := (eSSi64 r4)) rfl rfl (impl_prime_second_ok a0 a1 r4 hr5) rfl ?_
    obtain ⟨r6, hr7, h⟩ := bind_some h
    refine a_call (args := [(i6 a0), (eSSi64 r4)]) (u := []) (r := (.tuple [(eA64u8 r6.1), (i6 r6.2)])) rfl rfl (impl_prime_productOf_ok a0 r4 r6 hr7) rfl (vb (eA64u8 r6.1) rfl rfl (vb (i6 r6.2) rfl rfl (vs (eA64u8 r6.1) rfl rfl (fun _ => rfl) rfl rfl rfl rfl rfl rfl (vp (i6 r6.2) rfl (nx _ rfl (a_ret ?_))))))
    have hl9 : LdOk [] (eA64u8 r6.1) [] 64 true (eA64u8 r6.1) := (.nil rfl rfl rfl)
    refine ⟨.inr rfl, ?_⟩
    rw [Try.results35]
    cases h
    exact ⟨_, _, _, _, _, ld_own (i := ⟨.arr 64 5, 64, 64, (eA64u8 (vrep 64 (0 : Int)))⟩) rfl rfl rfl hl9, hl9.c, .inl ⟨rfl, .inl rfl⟩, rfl, ⟨_, _, _, _, _, rfl, trivial, .inl ⟨rfl, .inl rfl⟩, rfl, rfl⟩⟩
  · have h := ite_t hb3 h
    refine a_cond_t rfl (sr (vq (eA64u8 ((vrep 64 (0 : Int)))) rfl ⟨⟨_, rfl, rfl⟩, all_nil⟩ (vp (i6 r1) rfl (vs (eA64u8 ((vrep 64 (0 : Int)))) rfl rfl (fun _ => rfl) rfl rfl rfl rfl rfl rfl (vp (i6 r1) rfl (nx _ rfl (a_ret (t_ret ?_))))))))
    have hl11 : LdOk [] (eA64u8 ((vrep 64 (0 : Int)))) [] 64 true (eA64u8 ((vrep 64 (0 : Int)))) := (.nil rfl rfl rfl)
    refine ⟨.inr rfl, ?_⟩
    rw [Try.results35]
    cases h
    exact ⟨_, _, _, _, _, ld_own (i := ⟨.arr 64 5, 64, 64, (eA64u8 (vrep 64 (0 : Int)))⟩) rfl rfl rfl hl11, hl11.c, .inl ⟨rfl, .inl rfl⟩, rfl, ⟨_, _, _, _, _, rfl, trivial, .inl ⟨rfl, .inl rfl⟩, rfl, rfl⟩⟩
def spec_SecondFactorial_c : ACode := (.seq (.region 0 [q 4 (.alloc 25), q 5 (.asg 0 (.const (.int .i64 0)) 2)] false) (.seq (.seq (.region 1 [q 9 (.mov (t 0)), q 10 (.mov (t 1)), q 11 (.call 0 (.func 126) [(t 9), (t 10), (.const (.int .i64 0)), (.const (.int .i64 6))]), q 6 (.asg 0 (t 11) 2)] false) (.seq (.region 2 [q 12 (.mov (t 6)), q 13 (.bin .neq 2 (t 12) (.const (.int .i64 0)))] false) (.cond (t 13) (.seq (.region 3 [q 14 (.build 25 []), q 15 (.mov (t 6)), ⟨none, .store 25 (t 4) (t 14), none, []⟩, q 5 (.asg 0 (t 15) 2)] false) .ret) .skip))) (.seq (.region 4 [q 17 (.mov (t 0)), q 18 (.mov (t 1)), q 19 (.call 0 (.func 130) [(t 17), (t 18), (.const (.bool true))]), q 16 (.mov (t 19)), q 20 (.extract (t 16) 0), q 21 (.extract (t 16) 1), q 7 (.alloc 25), ⟨none, .store 25 (t 7) (t 20), none, []⟩, q 8 (.asg 0 (t 21) 4)] false) (.seq (.seq (.region 5 [q 22 (.mov (t 8)), q 23 (.un .not (t 22))] false) (.cond (t 23) (.seq (.region 6 [q 24 (.build 25 []), ⟨none, .store 25 (t 4) (t 24), none, []⟩, q 5 (.asg 0 (.const (.int .i64 3)) 2)] false) .ret) .skip)) (.seq (.region 7 [q 25 (.load 25 (t 7)), ⟨none, .store 25 (t 4) (t 25), none, []⟩, q 5 (.asg 0 (.const (.int .i64 0)) 2)] false) .ret)))))
def spec_SecondFactorial_L : Live := [(0, [0, 1]), (1, [0, 1, 4]), (2, [0, 1, 4, 6]), (3, [4, 6]), (4, [0, 1, 4]), (5, [4, 7, 8]), (6, [4]), (7, [4, 7]), (100013, [0, 1, 4, 6, 13]), (100023, [4, 7, 23])]
noncomputable def spec_SecondFactorial (a0 : Int) (a1 : Int) : Option ((Vec Int 64) × Int) :=
  (Option.bind (spec_l04Range a0 a1 0 6) fun r1 => (if (r1 != 0) then (some (((vrep 64 (0 : Int)), r1))) else (Option.bind (spec_l04Factorial a0 a1 true) fun r4 => (if (!r4.2) then (some (((vrep 64 (0 : Int)), 3))) else (some (r4.1, 0))))))
theorem spec_SecondFactorial_ok (a0 : Int) (a1 : Int) (r : ((Vec Int 64) × Int)) (h : spec_SecondFactorial a0 a1 = some r) : Den Try.prog 36 [(i6 a0), (i6 a1)] { r := (.tuple [(eA64u8 r.1), (i6 r.2)]) } := by
  refine den_of (rs := [(eA64u8 r.1), (i6 r.2)]) (ac := spec_SecondFactorial_c) (L := spec_SecondFactorial_L) (n := 26) (m := []) (c := Try.f36.body.getD .skip) good Try.func36 (by kernel_rfl) (by kernel_rfl) Try.ntmps36 rfl rfl (by kernel_rfl) rfl rfl ?_
  refine a_st (σ' := ⟨[(0, (i6 a0)), (1, (i6 a1))], []⟩) (by kernel_rfl) ?_
  unfold spec_SecondFactorial_c
  refine sr (vo 1400 (eA64u8 ((vrep 64 (0 : Int)))) rfl rfl (vp (i6 0) rfl (nx ⟨[(0, (i6 a0)), (1, (i6 a1)), (4, (ow 4))], [(4, (bk (eA64u8 ((vrep 64 (0 : Int))))))]⟩ (by kernel_rfl) (a_seq (sr (vp (i6 a0) rfl (vp (i6 a1) rfl ?_)))))))
  obtain ⟨r1, hr2, h⟩ := bind_some h
  refine a_call (args := [(i6 a0), (i6 a1), (i6 0), (i6 6)]) (u := []) (r := (i6 r1)) rfl rfl (spec_l04Range_ok a0 a1 0 6 r1 hr2) rfl (vp (i6 r1) rfl (nx ⟨[(0, (i6 a0)), (1, (i6 a1)), (4, (ow 4)), (6, (i6 r1))], [(4, (bk (eA64u8 ((vrep 64 (0 : Int))))))]⟩ (by kernel_rfl) (sr (vp (i6 r1) rfl (vp (.bool (r1 != 0)) rfl (nx ⟨[(0, (i6 a0)), (1, (i6 a1)), (4, (ow 4)), (6, (i6 r1)), (13, (.bool (r1 != 0)))], [(4, (bk (eA64u8 ((vrep 64 (0 : Int))))))]⟩ (by kernel_rfl) ?_))))))
  cases hb3 : (r1 != 0)
  · have h := ite_f hb3 h
    refine a_cond_f rfl (a_skip (a_next (σ' := ⟨[(0, (i6 a0)), (1, (i6 a1)), (4, (ow 4))], [(4, (bk (eA64u8 ((vrep 64 (0 : Int))))))]⟩) (by kernel_rfl) (sr (vp (i6 a0) rfl (vp (i6 a1) rfl ?_)))))
    obtain ⟨r4, hr5, h⟩ := bind_some h
    refine a_call (args := [(i6 a0), (i6 a1), (.bool true)]) (u := []) (r := (.tuple [(eA64u8 r4.1), (.bool r4.2)])) rfl rfl (spec_l04Factorial_ok a0 a1 true r4 hr5) rfl (vp (.tuple [(eA64u8 r4.1), (.bool r4.2)]) rfl (vb (eA64u8 r4.1) rfl rfl (vb (.bool r4.2) rfl rfl (vo 1700 (eA64u8 ((vrep 64 (0 : Int)))) rfl rfl (vs (eA64u8 r4.1) rfl rfl (fun _ => rfl) rfl rfl rfl rfl rfl rfl (vp (.bool r4.2) rfl (nx ⟨[(4, (ow 4)), (7, (ow 7)), (8, (.bool r4.2))], [(4, (bk (eA64u8 ((vrep 64 (0 : Int)))))), (7, (bk (eA64u8 r4.1)))]⟩ (by kernel_rfl) (a_seq (sr ?_)))))))))
    refine vp (.bool r4.2) rfl (vp (.bool (!r4.2)) rfl (nx ⟨[(4, (ow 4)), (7, (ow 7)), (23, (.bool (!r4.2)))], [(4, (bk (eA64u8 ((vrep 64 (0 : Int)))))), (7, (bk (eA64u8 r4.1)))]⟩ (by kernel_rfl) ?_))
    cases hb7 : (!r4.2)
    · have h := ite_f hb7 h
      refine a_cond_f rfl (a_skip (a_next (σ' := ⟨[(4, (ow 4)), (7, (ow 7))], [(4, (bk (eA64u8 ((vrep 64 (0 : Int)))))), (7, (bk (eA64u8 r4.1)))]⟩) (by kernel_rfl) (sr (vl (eA64u8 r4.1) rfl rfl rfl rfl rfl rfl (vs (eA64u8 r4.1) rfl rfl (fun _ => rfl) rfl rfl rfl rfl rfl rfl (vp (i6 0) rfl (nx _ rfl (a_ret ?_))))))))
      have hl10 : LdOk [] (eA64u8 r4.1) [] 64 true (eA64u8 r4.1) := (.nil rfl rfl rfl)
      refine ⟨.inr rfl, ?_⟩
      rw [Try.results36]
      cases h
      exact ⟨_, _, _, _, _, ld_own (i := ⟨.arr 64 5, 64, 64, (eA64u8 (vrep 64 (0 : Int)))⟩) rfl rfl rfl hl10, hl10.c, .inl ⟨rfl, .inl rfl⟩, rfl, ⟨_, _, _, _, _, rfl, trivial, .inl ⟨rfl, .inl rfl⟩, rfl, rfl⟩⟩
    · have h := ite_t hb7 h
      refine a_cond_t rfl (sr (vq (eA64u8 ((vrep 64 (0 : Int)))) rfl ⟨⟨_, rfl, rfl⟩, all_nil⟩ (vs (eA64u8 ((vrep 64 (0 : Int)))) rfl rfl (fun _ => rfl) rfl rfl rfl rfl rfl rfl (vp (i6 3) rfl (nx _ rfl (a_ret (t_ret ?_)))))))
      have hl12 : LdOk [] (eA64u8 ((vrep 64 (0 : Int)))) [] 64 true (eA64u8 ((vrep 64 (0 : Int)))) := (.nil rfl rfl rfl)
      refine ⟨.inr rfl, ?_⟩
      rw [Try.results36]
      cases h
      exact ⟨_, _, _, _, _, ld_own (i := ⟨.arr 64 5, 64, 64, (eA64u8 (vrep 64 (0 : Int)))⟩) rfl rfl rfl hl12, hl12.c, .inl ⟨rfl, .inl rfl⟩, rfl, ⟨_, _, _, _, _, rfl, trivial, .inl ⟨rfl, .inl rfl⟩, rfl, rfl⟩⟩
  · have h := ite_t hb3 h
    refine a_cond_t rfl (sr (vq (eA64u8 ((vrep 64 (0 : Int)))) rfl ⟨⟨_, rfl, rfl⟩, all_nil⟩ (vp (i6 r1) rfl (vs (eA64u8 ((vrep 64 (0 : Int)))) rfl rfl (fun _ => rfl) rfl rfl rfl rfl rfl rfl (vp (i6 r1) rfl (nx _ rfl (a_ret (t_ret ?_))))))))
    have hl14 : LdOk [] (eA64u8 ((vrep 64 (0 : Int)))) [] 64 true (eA64u8 ((vrep 64 (0 : Int)))) := (.nil rfl rfl rfl)
    refine ⟨.inr rfl, ?_⟩
    rw [Try.results36]
    cases h
    exact ⟨_, _, _, _, _, ld_own (i := ⟨.arr 64 5, 64, 64, (eA64u8 (vrep 64 (0 : Int)))⟩) rfl rfl rfl hl14, hl14.c, .inl ⟨rfl, .inl rfl⟩, rfl, ⟨_, _, _, _, _, rfl, trivial, .inl ⟨rfl, .inl rfl⟩, rfl, rfl⟩⟩
def spec_l01Near_of_src_c : ACode := (.seq (.region 0 [q 4 (.asg 0 (.const (.int .i64 0)) 2)] false) (.seq (.seq (.region 1 [q 5 (.mov (t 0)), q 6 (.call 1 (.func 123) [(t 5), (.const (.int .i64 14))]), q 7 (.bin .eql 2 (t 6) (.const (.int .i64 0)))] false) (.cond (t 7) (.seq (.region 2 [q 8 (.mov (t 0)), q 9 (.mov (t 1)), q 10 (.bin .add 2 (t 9) (.const (.int .i64 1))), q 11 (.bslice 0 59 4 [(0, (.const (.int .i64 (-1)))), (1, (t 10)), (2, (.const (.int .i64 1099511627776))), (3, (.const (.int .i64 (-4611686018427387904))))]), q 12 (.call 1 (.func 122) [(t 8), (t 11)]), q 4 (.asg 0 (t 12) 2)] false) .ret) .skip)) (.seq (.region 3 [q 13 (.mov (t 0)), q 14 (.mov (t 1)), q 15 (.bin .add 2 (t 14) (.const (.int .i64 1))), q 16 (.call 1 (.func 123) [(t 13), (t 15)]), q 4 (.asg 0 (t 16) 2)] false) .ret)))
def spec_l01Near_of_src_L : Live := [(0, [0, 1]), (1, [0, 1]), (2, [0, 1]), (3, [0, 1]), (100007, [0, 1, 7])]
noncomputable def spec_l01Near_of_src (a0 : ((List Int) × Int × Int)) (a1 : Int) : Option (Int × ((List Int) × Int × Int)) :=
  (Option.bind (spec_l01Next_of_src a0 14) fun r1 => (if (r1.1 == 0) then (Option.bind (spec_l01Pick_of_src r1.2 ([-1, IntKind.i64.wrap (a1 + 1), 1099511627776, -4611686018427387904])) fun r8 => (some (r8.1, r8.2))) else (Option.bind (spec_l01Next_of_src r1.2 (IntKind.i64.wrap (a1 + 1))) fun r5 => (some (r5.1, r5.2)))))
theorem spec_l01Near_of_src_ok (a0 : ((List Int) × Int × Int)) (a1 : Int) (r : (Int × ((List Int) × Int × Int))) (h : spec_l01Near_of_src a0 a1 = some r) : Den Try.prog 132 [(.mutp (eT_Su8_i64_u64_Z a0)), (i6 a1)] { r := (i6 r.1), ms := [(eT_Su8_i64_u64_Z r.2)], fs := [] } := by
  refine den_ofX (rs := [(i6 r.1)]) (ac := spec_l01Near_of_src_c) (L := spec_l01Near_of_src_L) (n := 17) (m := [(6, 1), (12, 1), (16, 1)]) (c := Try.f132.body.getD .skip) good Try.func132 (by kernel_rfl) (by kernel_rfl) Try.ntmps132 rfl rfl (by kernel_rfl) rfl ?_
  refine a_st (σ' := ⟨[(0, (ow 1000000)), (1, (i6 a1))], [(1000000, (bk (eT_Su8_i64_u64_Z a0)))]⟩) (by kernel_rfl) ?_
  unfold spec_l01Near_of_src_c
  refine sr (vp (i6 0) rfl (nx ⟨[(0, (ow 1000000)), (1, (i6 a1))], [(1000000, (bk (eT_Su8_i64_u64_Z a0)))]⟩ (by kernel_rfl) (a_seq (sr (vp (ow 1000000) rfl ?_)))))
  obtain ⟨r1, hr2, h⟩ := bind_some h
  refine a_callM (args := [(.mutp (eT_Su8_i64_u64_Z a0)), (i6 14)]) (i := 0) (id := 1000000) (r := (i6 r1.1)) (c := (eT_Su8_i64_u64_Z r1.2)) rfl rfl (spec_l01Next_of_src_ok a0 14 r1 hr2) rfl trivial (vp (.bool (r1.1 == 0)) rfl (nx ⟨[(0, (ow 1000000)), (1, (i6 a1)), (7, (.bool (r1.1 == 0)))], [(1000000, (bk (eT_Su8_i64_u64_Z r1.2)))]⟩ (by kernel_rfl) ?_))
  cases hb4 : (r1.1 == 0)
  · have h := ite_f hb4 h
    refine a_cond_f rfl (a_skip (a_next (σ' := ⟨[(0, (ow 1000000)), (1, (i6 a1))], [(1000000, (bk (eT_Su8_i64_u64_Z r1.2)))]⟩) (by kernel_rfl) (sr (vp (ow 1000000) rfl (vp (i6 a1) rfl (vp (i6 (IntKind.i64.wrap (a1 + 1))) rfl ?_))))))
    obtain ⟨r5, hr6, h⟩ := bind_some h
    refine a_callM (args := [(.mutp (eT_Su8_i64_u64_Z r1.2)), (i6 (IntKind.i64.wrap (a1 + 1)))]) (i := 0) (id := 1000000) (r := (i6 r5.1)) (c := (eT_Su8_i64_u64_Z r5.2)) rfl rfl (spec_l01Next_of_src_ok r1.2 (IntKind.i64.wrap (a1 + 1)) r5 hr6) rfl trivial (vp (i6 r5.1) rfl (nx _ rfl (a_ret ?_)))
    refine ⟨.inr rfl, ?_⟩
    rw [Try.results132]
    cases h
    exact ⟨[], ⟨_, _, _, _, _, rfl, trivial, rfl, .inl ⟨rfl, .inl rfl, ⟨rfl, rfl, rfl⟩⟩⟩, rfl, ⟨_, _, rfl, rfl, rfl⟩⟩
  · have h := ite_t hb4 h
    refine a_cond_t rfl (sr (vp (ow 1000000) rfl (vp (i6 a1) rfl (vp (i6 (IntKind.i64.wrap (a1 + 1))) rfl (vq (.sl 1 true (([-1, IntKind.i64.wrap (a1 + 1), 1099511627776, -4611686018427387904]).map (AV.int .i64))) rfl ⟨(Nat.le_of_ble_eq_true rfl), (Nat.le_of_ble_eq_true rfl), (all_cons ⟨(Nat.le_of_ble_eq_true rfl), rfl⟩ (all_cons ⟨(Nat.le_of_ble_eq_true rfl), rfl⟩ (all_cons ⟨(Nat.le_of_ble_eq_true rfl), rfl⟩ (all_cons ⟨(Nat.le_of_ble_eq_true rfl), rfl⟩ all_nil))))⟩ ?_)))))
    obtain ⟨r8, hr9, h⟩ := bind_some h
    refine a_callM (args := [(.mutp (eT_Su8_i64_u64_Z r1.2)), (.sl 1 true (([-1, IntKind.i64.wrap (a1 + 1), 1099511627776, -4611686018427387904]).map (AV.int .i64)))]) (i := 0) (id := 1000000) (r := (i6 r8.1)) (c := (eT_Su8_i64_u64_Z r8.2)) rfl rfl (Den.argsM (spec_l01Pick_of_src_ok r1.2 ([-1, IntKind.i64.wrap (a1 + 1), 1099511627776, -4611686018427387904]) r8 hr9) rfl rfl (.cons (.loose _) .nil)) rfl trivial (vp (i6 r8.1) rfl (nx _ rfl (a_ret (t_ret ?_))))
    refine ⟨.inr rfl, ?_⟩
    rw [Try.results132]
    cases h
    exact ⟨[], ⟨_, _, _, _, _, rfl, trivial, rfl, .inl ⟨rfl, .inl rfl, ⟨rfl, rfl, rfl⟩⟩⟩, rfl, ⟨_, _, rfl, rfl, rfl⟩⟩
def spec_DrawCarlitzFactorial_c : ACode := (.seq (.region 0 [q 2 (.asg 0 (.const (.int .i64 0)) 2), q 3 (.asg 0 (.const (.int .i64 0)) 2)] false) (.seq (.region 1 [q 5 (.mov (t 0)), q 6 (.call 0 (.func 116) [(t 5)]), q 4 (.asg 0 (t 6) 96)] false) (.seq (.region 2 [q 7 (.mov (t 4)), q 8 (.bslice 0 59 5 [(0, (.const (.int .i64 2))), (1, (.const (.int .i64 3))), (2, (.const (.int .i64 5))), (3, (.const (.int .i64 7))), (4, (.const (.int .i64 4)))]), q 9 (.call 1 (.func 122) [(t 7), (t 8)]), q 10 (.mov (t 4)), q 11 (.mov (t 4)), q 12 (.call 1 (.func 123) [(t 11), (.const (.int .i64 10))]), q 13 (.mov (t 4)), q 14 (.call 1 (.func 123) [(t 13), (.const (.int .i64 30))]), q 15 (.mov (t 4)), q 16 (.call 1 (.func 132) [(t 15), (.const (.int .i64 1000))]), q 17 (.bslice 0 59 3 [(0, (t 12)), (1, (t 14)), (2, (t 16))]), q 18 (.call 1 (.func 122) [(t 10), (t 17)]), q 2 (.asg 0 (t 9) 2), q 3 (.asg 0 (t 18) 2)] false) .ret)))
def spec_DrawCarlitzFactorial_L : Live := [(0, [0]), (1, [0]), (2, [4])]
noncomputable def spec_DrawCarlitzFactorial (a0 : (List Int)) : Option (Int × Int) :=
  (Option.bind (spec_l01From a0) fun r1 => (Option.bind (spec_l01Pick_of_src r1 ([2, 3, 5, 7, 4])) fun r3 => (Option.bind (spec_l01Next_of_src r3.2 10) fun r6 => (Option.bind (spec_l01Next_of_src r6.2 30) fun r9 => (Option.bind (spec_l01Near_of_src r9.2 1000) fun r12 => (Option.bind (spec_l01Pick_of_src r12.2 ([r6.1, r9.1, r12.1])) fun r15 => (some (r3.1, r15.1))))))))
theorem spec_DrawCarlitzFactorial_ok (a0 : (List Int)) (r : (Int × Int)) (h : spec_DrawCarlitzFactorial a0 = some r) : Den Try.prog 37 [(eSu8 a0)] { r := (.tuple [(i6 r.1), (i6 r.2)]) } := by
  refine den_of (rs := [(i6 r.1), (i6 r.2)]) (ac := spec_DrawCarlitzFactorial_c) (L := spec_DrawCarlitzFactorial_L) (n := 19) (m := [(9, 1), (12, 1), (14, 1), (16, 1), (18, 1)]) (c := Try.f37.body.getD .skip) good Try.func37 (by kernel_rfl) (by kernel_rfl) Try.ntmps37 rfl rfl (by kernel_rfl) rfl rfl ?_
  refine a_st (σ' := ⟨[(0, (eSu8 a0))], []⟩) (by kernel_rfl) ?_
  unfold spec_DrawCarlitzFactorial_c
  refine sr (vp (i6 0) rfl (vp (i6 0) rfl (nx ⟨[(0, (eSu8 a0))], []⟩ (by kernel_rfl) (sr (vp (eSu8 a0) rfl ?_)))))
  obtain ⟨r1, hr2, h⟩ := bind_some h
  refine a_callF (args := [(eSu8 a0)]) (u := []) (u2 := []) (r := (ow 2000000)) (fs := [(0, [eT_Su8_i64_u64_Z r1])]) rfl rfl (spec_l01From_ok a0 r1 hr2) rfl rfl rfl (.inl rfl) rfl (vp (ow 1600) rfl (nx ⟨[(4, (ow 4))], [(4, (bk (eT_Su8_i64_u64_Z r1)))]⟩ (by kernel_rfl) (sr (vp (ow 4) rfl (vq (.sl 1 true (([2, 3, 5, 7, 4]).map (AV.int .i64))) rfl ⟨(Nat.le_of_ble_eq_true rfl), (Nat.le_of_ble_eq_true rfl), (all_cons ⟨(Nat.le_of_ble_eq_true rfl), rfl⟩ (all_cons ⟨(Nat.le_of_ble_eq_true rfl), rfl⟩ (all_cons ⟨(Nat.le_of_ble_eq_true rfl), rfl⟩ (all_cons ⟨(Nat.le_of_ble_eq_true rfl), rfl⟩ (all_cons ⟨(Nat.le_of_ble_eq_true rfl), rfl⟩ all_nil)))))⟩ ?_)))))
  obtain ⟨r3, hr4, h⟩ := bind_some h
  refine a_callM (args := [(.mutp (eT_Su8_i64_u64_Z r1)), (.sl 1 true (([2, 3, 5, 7, 4]).map (AV.int .i64)))]) (i := 0) (id := 4) (r := (i6 r3.1)) (c := (eT_Su8_i64_u64_Z r3.2)) rfl rfl (Den.argsM (spec_l01Pick_of_src_ok r1 ([2, 3, 5, 7, 4]) r3 hr4) rfl rfl (.cons (.loose _) .nil)) rfl trivial (vp (ow 4) rfl (vp (ow 4) rfl ?_))
  obtain ⟨r6, hr7, h⟩ := bind_some h
  refine a_callM (args := [(.mutp (eT_Su8_i64_u64_Z r3.2)), (i6 10)]) (i := 0) (id := 4) (r := (i6 r6.1)) (c := (eT_Su8_i64_u64_Z r6.2)) rfl rfl (spec_l01Next_of_src_ok r3.2 10 r6 hr7) rfl trivial (vp (ow 4) rfl ?_)
  obtain ⟨r9, hr10, h⟩ := bind_some h
  refine a_callM (args := [(.mutp (eT_Su8_i64_u64_Z r6.2)), (i6 30)]) (i := 0) (id := 4) (r := (i6 r9.1)) (c := (eT_Su8_i64_u64_Z r9.2)) rfl rfl (spec_l01Next_of_src_ok r6.2 30 r9 hr10) rfl trivial (vp (ow 4) rfl ?_)
  obtain ⟨r12, hr13, h⟩ := bind_some h
  refine a_callM (args := [(.mutp (eT_Su8_i64_u64_Z r9.2)), (i6 1000)]) (i := 0) (id := 4) (r := (i6 r12.1)) (c := (eT_Su8_i64_u64_Z r12.2)) rfl rfl (spec_l01Near_of_src_ok r9.2 1000 r12 hr13) rfl trivial (vq (.sl 1 true (([r6.1, r9.1, r12.1]).map (AV.int .i64))) rfl ⟨(Nat.le_of_ble_eq_true rfl), (Nat.le_of_ble_eq_true rfl), (all_cons ⟨(Nat.le_of_ble_eq_true rfl), rfl⟩ (all_cons ⟨(Nat.le_of_ble_eq_true rfl), rfl⟩ (all_cons ⟨(Nat.le_of_ble_eq_true rfl), rfl⟩ all_nil)))⟩ ?_)
  obtain ⟨r15, hr16, h⟩ := bind_some h
  refine a_callM (args := [(.mutp (eT_Su8_i64_u64_Z r12.2)), (.sl 1 true (([r6.1, r9.1, r12.1]).map (AV.int .i64)))]) (i := 0) (id := 4) (r := (i6 r15.1)) (c := (eT_Su8_i64_u64_Z r15.2)) rfl rfl (Den.argsM (spec_l01Pick_of_src_ok r12.2 ([r6.1, r9.1, r12.1]) r15 hr16) rfl rfl (.cons (.loose _) .nil)) rfl trivial (vp (i6 r3.1) rfl (vp (i6 r15.1) rfl (nx _ rfl (a_ret ?_))))
  refine ⟨.inr rfl, ?_⟩
  rw [Try.results37]
  cases h
  exact ⟨_, _, _, _, _, rfl, trivial, .inl ⟨rfl, .inl rfl⟩, rfl, ⟨_, _, _, _, _, rfl, trivial, .inl ⟨rfl, .inl rfl⟩, rfl, rfl⟩⟩
def impl_prime_numbered_c : ACode := (.seq (.region 0 [q 4 (.asg 1 (.const (.slice none 0 0)) 80)] false) (.seq (.region 1 [q 5 (.asg 2 (.const (.slice none 0 0)) 80)] false) (.seq (.block 0 (.loop (.seq (.seq (.region 2 [q 6 (.mov (t 1)), q 7 (.bin .gtr 2 (t 6) (.const (.int .i64 0)))] false) (.cond (t 7) .skip (.exit 0))) (.seq (.block 1 (.region 4 [q 11 (.mov (t 5)), q 12 (.mov (t 1)), q 13 (.mov (t 0)), q 14 (.bin .rem 2 (t 12) (t 13)), q 15 (.bslice 0 80 1 [(0, (t 14))]), q 16 (.blt 0 .append [(t 11), (t 15)] [80, 80]), q 5 (.asg 2 (t 16) 80)] false)) (.region 3 [q 8 (.mov (t 1)), q 9 (.mov (t 0)), q 10 (.bin .quo 2 (t 8) (t 9)), q 1 (.asg 0 (t 10) 2)] false))))) (.seq (.region 5 [q 17 (.mov (t 5)), q 4 (.asg 1 (t 17) 80)] false) .ret))))
def impl_prime_numbered_L : Live := [(0, [0, 1]), (1, [0, 1]), (2, [0, 1, 5]), (3, [0, 1, 5]), (4, [0, 1, 5]), (5, [5]), (100007, [0, 1, 5, 7])]
noncomputable def impl_prime_numbered_l1 (a0 : Int) (x27 : Int) (x28 : (List Int)) : Option ((Int × (List Int)) ⊕ (List Int)) :=
  (if (decide (x27 > 0)) then (ifp (a0 ≠ 0) ((ifp ((x28.length + ([Int.tmod x27 a0] : List Int).length) * 8 ≤ 140737488355328) ((ifp (a0 ≠ 0) ((some (.inl ((IntKind.i64.wrap (Int.tdiv x27 a0), (x28 ++ ([Int.tmod x27 a0])))))))))))) else (some (.inr x28)))
noncomputable def impl_prime_numbered (a0 : Int) (a1 : Int) : Option (List Int) :=
  (Option.bind (α := (List Int)) ((loopM (fun s : (Int × (List Int)) => impl_prime_numbered_l1 a0 s.1 s.2) (a1, []))) fun x19 => (some x19))
theorem impl_prime_numbered_ok (a0 : Int) (a1 : Int) (r : (List Int)) (h : impl_prime_numbered a0 a1 = some r) : Den Try.prog 119 [(i6 a0), (i6 a1)] { r := (eSi64 r) } := by
  refine den_of (rs := [(eSi64 r)]) (ac := impl_prime_numbered_c) (L := impl_prime_numbered_L) (n := 18) (m := [(4, 1), (5, 2)]) (c := Try.f119.body.getD .skip) good Try.func119 (by kernel_rfl) (by kernel_rfl) Try.ntmps119 rfl rfl (by kernel_rfl) rfl rfl ?_
  refine a_st (σ' := ⟨[(0, (i6 a0)), (1, (i6 a1))], []⟩) (by kernel_rfl) ?_
  unfold impl_prime_numbered_c
  refine sr (vp (eSi64 ([])) rfl (nx ⟨[(0, (i6 a0)), (1, (i6 a1))], []⟩ (by kernel_rfl) (sr (vu (.osl 1500) [(1500, (bk (.row 1 (([]).map (AV.int .i64)))))] rfl trivial rfl (nx ⟨[(0, (i6 a0)), (1, (i6 a1)), (5, (.osl 5))], [(5, (bk (.row 1 (([]).map (AV.int .i64)))))]⟩ (by kernel_rfl) ?_)))))
  obtain ⟨y20, hy21, hk22⟩ := bind_some h
  clear h
  refine a_join (emb := fun (s : (List Int)) => ⟨[(5, (.osl 5))], [(5, (bk (.row 1 (s.map (AV.int .i64)))))]⟩) (pre := fun s => s = y20) ?_ ?_
  · rintro x19 rfl
    have h := hk22
    refine a_st (σ' := ⟨[(5, (.osl 5))], [(5, (bk (.row 1 (x19.map (AV.int .i64)))))]⟩) (by kernel_rfl) (sr (vp (.osl 5) rfl (vu (eSi64 x19) [(5, (bf (.row 1 (x19.map (AV.int .i64)))))] rfl trivial rfl (nx _ rfl (a_ret ?_)))))
    refine ⟨.inr rfl, ?_⟩
    rw [Try.results119]
    cases h
    exact ⟨_, _, _, _, _, rfl, trivial, .inl ⟨rfl, .inl rfl⟩, rfl, rfl⟩
  · have h := hy21
    refine a_block ?_
    refine a_loop (emb := fun (s : (Int × (List Int))) => ⟨[(0, (i6 a0)), (1, (i6 s.1)), (5, (.osl 5))], [(5, (bk (.row 1 (s.2.map (AV.int .i64)))))]⟩) (body := (fun s : (Int × (List Int)) => impl_prime_numbered_l1 a0 s.1 s.2)) (G := fun q => some q = some y20) h rfl ?_ (by kernel_rfl)
    rintro X33 ⟨x27, x28⟩ x34 h hX35
    have h : impl_prime_numbered_l1 a0 x27 x28 = some x34 := h
    refine a_st (σ' := ⟨[(0, (i6 a0)), (1, (i6 x27)), (5, (.osl 5))], [(5, (bk (.row 1 (x28.map (AV.int .i64)))))]⟩) (by kernel_rfl) (a_seq (sr (vp (i6 x27) rfl (vp (.bool ((decide (x27 > 0)))) rfl (nx ⟨[(0, (i6 a0)), (1, (i6 x27)), (5, (.osl 5)), (7, (.bool ((decide (x27 > 0)))))], [(5, (bk (.row 1 (x28.map (AV.int .i64)))))]⟩ (by kernel_rfl) ?_)))))
    cases hb36 : (decide (x27 > 0))
    · have h := ite_f hb36 h
      refine a_cond_f rfl (a_exit (t_exit ?_))
      cases h
      have h := hX35
      refine t_exit (b_exit ?_)
      exact j_leaf x28 (Option.some.inj h) (by kernel_rfl)
    · have h := ite_t hb36 h
      refine a_cond_t rfl (a_skip (a_next (σ' := ⟨[(0, (i6 a0)), (1, (i6 x27)), (5, (.osl 5))], [(5, (bk (.row 1 (x28.map (AV.int .i64)))))]⟩) (by kernel_rfl) (a_seq (a_block (a_region (vp (.osl 5) rfl (vp (i6 x27) rfl (vp (i6 a0) rfl ?_))))))))
      obtain ⟨hc37, h⟩ := ifp_some h
      refine vq (i6 (Int.tmod x27 a0)) rfl hc37 (vq (.sl 1 true (([Int.tmod x27 a0]).map (AV.int .i64))) rfl ⟨(Nat.le_of_ble_eq_true rfl), (Nat.le_of_ble_eq_true rfl), (all_cons ⟨(Nat.le_of_ble_eq_true rfl), rfl⟩ all_nil)⟩ ?_)
      obtain ⟨hc38, h⟩ := ifp_some h
      refine vu (.osl 2600) [(2600, (bk (.row 1 (((x28 ++ ([Int.tmod x27 a0]))).map (AV.int .i64))))), (5, none)] (app_run (i := ⟨.int .i64, 1, 8, (.int .i64 0)⟩) (f := (AV.int .i64)) (l := x28) (l2 := [Int.tmod x27 a0]) rfl rfl rfl rfl (fun _ => rfl) rfl rfl) (app_c (f := (AV.int .i64)) (s := 1) (sz := 1) (by' := 8) (u := []) (id := 5) hc38 (.inr rfl) rfl rfl rfl) rfl (vp (.osl 2600) rfl (a_nil (b_norm (a_next (σ' := ⟨[(0, (i6 a0)), (1, (i6 x27)), (5, (.osl 5))], [(5, (bk (.row 1 (((x28 ++ ([Int.tmod x27 a0]))).map (AV.int .i64)))))]⟩) (by kernel_rfl) (a_region (vp (i6 x27) rfl (vp (i6 a0) rfl ?_)))))))
      obtain ⟨hc39, h⟩ := ifp_some h
      refine vq (i6 (IntKind.i64.wrap (Int.tdiv x27 a0))) rfl hc39 (vp (i6 (IntKind.i64.wrap (Int.tdiv x27 a0))) rfl (a_nil ?_))
      cases h
      exact a_again (by kernel_rfl) hX35
def impl_CarlitzFactorial_c : ACode := (.seq (.region 0 [q 4 (.alloc 25), q 5 (.asg 0 (.const (.int .i64 0)) 2)] false) (.seq (.seq (.region 1 [q 10 (.mov (t 0)), q 11 (.mov (t 1)), q 12 (.call 0 (.func 124) [(t 10), (t 11), (.const (.int .i64 0)), (.const (.int .i64 1000))]), q 6 (.asg 0 (t 12) 2)] false) (.seq (.region 2 [q 13 (.mov (t 6)), q 14 (.bin .neq 2 (t 13) (.const (.int .i64 0)))] false) (.cond (t 14) (.seq (.region 3 [q 15 (.build 25 []), q 16 (.mov (t 6)), ⟨none, .store 25 (t 4) (t 15), none, []⟩, q 5 (.asg 0 (t 16) 2)] false) .ret) .skip))) (.seq (.region 4 [q 7 (.asg 2 (.const (.slice none 0 0)) 108)] false) (.seq (.seq (.region 5 [q 17 (.mov (t 0)), q 18 (.mov (t 1)), q 19 (.call 0 (.func 119) [(t 17), (t 18)]), q 20 (.blt 0 .len [(t 19)] [80]), q 21 (.mov (.const (.int .i64 0)))] false) (.block 0 (.loop (.seq (.region 6 [q 22 (.bin .lss 3 (t 21) (t 20))] false) (.seq (.cond (t 22) .skip (.exit 0)) (.seq (.block 1 (.seq (.region 7 [q 23 (.mov (t 21)), q 24 (.indexAddr 80 (t 19) (t 21)), q 25 (.load 2 (t 24)), q 8 (.asg 0 (t 23) 3), q 9 (.asg 0 (t 25) 2)] false) (.seq (.region 8 [q 26 (.mov (t 9)), q 27 (.mov (.const (.int .i64 0)))] false) (.block 2 (.loop (.seq (.region 9 [q 28 (.bin .lss 2 (t 27) (t 26))] false) (.seq (.cond (t 28) .skip (.exit 2)) (.seq (.block 3 (.region 10 [q 29 (.mov (t 7)), q 30 (.mov (t 0)), q 31 (.mov (t 8)), q 32 (.call 0 (.func 129) [(t 30), (t 31)]), q 33 (.blt 0 .append [(t 29), (t 32)] [108, 108]), q 7 (.asg 2 (t 33) 108)] false)) (.region 11 [q 34 (.bin .add 2 (t 27) (.const (.int .i64 1))), q 27 (.mov (t 34))] false))))))))) (.region 12 [q 35 (.bin .add 3 (t 21) (.const (.int .i64 1))), q 21 (.mov (t 35))] false))))))) (.seq (.region 13 [q 36 (.mov (t 0)), q 37 (.mov (t 7)), q 38 (.call 0 (.func 128) [(t 36), (t 37)]), q 39 (.extract (t 38) 0), q 40 (.extract (t 38) 1), ⟨none, .store 25 (t 4) (t 39), none, []⟩, q 5 (.asg 0 (t 40) 2)] false) .ret)))))
def impl_CarlitzFactorial_L : Live := [(0, [0, 1]), (1, [0, 1, 4]), (2, [0, 1, 4, 6]), (3, [4, 6]), (4, [0, 1, 4]), (5, [0, 1, 4, 7]), (6, [0, 4, 7, 19, 20, 21]), (7, [0, 4, 7, 19, 20, 21]), (8, [0, 4, 7, 8, 9, 19, 20, 21]), (9, [0, 4, 7, 8, 19, 20, 21, 26, 27]), (10, [0, 4, 7, 8, 19, 20, 21, 26, 27]), (11, [0, 4, 7, 8, 19, 20, 21, 26, 27]), (12, [0, 4, 7, 19, 20, 21]), (13, [0, 4, 7]), (100014, [0, 1, 4, 6, 14]), (100022, [0, 4, 7, 19, 20, 21, 22]), (100028, [0, 4, 7, 8, 19, 20, 21, 26, 27, 28])]
noncomputable def impl_CarlitzFactorial_l2 (r151 : (List Int)) (x198 : Int) (a0 : Int) (x279 : Int) (x280 : (List (List Int))) : Option ((Int × (List (List Int))) ⊕ (List (List Int))) :=
  (if (decide (x279 < (rd r151 x198.toNat))) then (Option.bind (impl_prime_first a0 x198) fun r289 => (ifp ((x280.length + r289.length) * 24 ≤ 140737488355328) ((some (.inl ((IntKind.i64.wrap (x279 + 1), (x280 ++ r289)))))))) else (some (.inr x280)))
noncomputable def impl_CarlitzFactorial_l1 (r151 : (List Int)) (a0 : Int) (x198 : Int) (x199 : (List (List Int))) : Option ((Int × (List (List Int))) ⊕ (List (List Int))) :=
  (if (decide (x198 < (r151.length : Int))) then (Option.bind (α := (List (List Int))) ((ifp (0 ≤ x198 ∧ x198 < ((r151.length : Nat) : Int)) ((loopM (fun s : (Int × (List (List Int))) => impl_CarlitzFactorial_l2 r151 x198 a0 s.1 s.2) (0, x199))))) fun x269 => (some (.inl ((IntKind.i64.wrap (x198 + 1), x269))))) else (some (.inr x199)))
noncomputable def impl_CarlitzFactorial (a0 : Int) (a1 : Int) : Option ((Vec Int 64) × Int) :=
  (Option.bind (impl_numberCode a0 a1 0 1000) fun r1 => (if (r1 != 0) then (some (((vrep 64 (0 : Int)), r1))) else (Option.bind (α := (List (List Int))) ((Option.bind (impl_prime_numbered a0 a1) fun r151 => (loopM (fun s : (Int × (List (List Int))) => impl_CarlitzFactorial_l1 r151 a0 s.1 s.2) (0, [])))) fun x147 => (Option.bind (impl_prime_productOf a0 x147) fun r294 => (some (r294.1, r294.2))))))
theorem impl_CarlitzFactorial_ok (a0 : Int) (a1 : Int) (r : ((Vec Int 64) × Int)) (h : impl_CarlitzFactorial a0 a1 = some r) : Den Try.prog 38 [(i6 a0), (i6 a1)] { r := (.tuple [(eA64u8 r.1), (i6 r.2)]) } := by
  refine den_of (rs := [(eA64u8 r.1), (i6 r.2)]) (ac := impl_CarlitzFactorial_c) (L := impl_CarlitzFactorial_L) (n := 41) (m := [(7, 2)]) (c := Try.f38.body.getD .skip) good Try.func38 (by kernel_rfl) (by kernel_rfl) Try.ntmps38 rfl rfl (by kernel_rfl) rfl rfl ?_
  refine a_st (σ' := ⟨[(0, (i6 a0)), (1, (i6 a1))], []⟩) (by kernel_rfl) ?_
  unfold impl_CarlitzFactorial_c
  refine sr (vo 1400 (eA64u8 ((vrep 64 (0 : Int)))) rfl rfl (vp (i6 0) rfl (nx ⟨[(0, (i6 a0)), (1, (i6 a1)), (4, (ow 4))], [(4, (bk (eA64u8 ((vrep 64 (0 : Int))))))]⟩ (by kernel_rfl) (a_seq (sr (vp (i6 a0) rfl (vp (i6 a1) rfl ?_)))))))
  obtain ⟨r1, hr2, h⟩ := bind_some h
  refine a_call (args := [(i6 a0), (i6 a1), (i6 0), (i6 1000)]) (u := []) (r := (i6 r1)) rfl rfl (impl_numberCode_ok a0 a1 0 1000 r1 hr2) rfl (vp (i6 r1) rfl (nx ⟨[(0, (i6 a0)), (1, (i6 a1)), (4, (ow 4)), (6, (i6 r1))], [(4, (bk (eA64u8 ((vrep 64 (0 : Int))))))]⟩ (by kernel_rfl) (sr (vp (i6 r1) rfl (vp (.bool (r1 != 0)) rfl (nx ⟨[(0, (i6 a0)), (1, (i6 a1)), (4, (ow 4)), (6, (i6 r1)), (14, (.bool (r1 != 0)))], [(4, (bk (eA64u8 ((vrep 64 (0 : Int))))))]⟩ (by kernel_rfl) ?_))))))
  cases hb3 : (r1 != 0)
  · have h := ite_f hb3 h
    refine a_cond_f rfl (a_skip (a_next (σ' := ⟨[(0, (i6 a0)), (1, (i6 a1)), (4, (ow 4))], [(4, (bk (eA64u8 ((vrep 64 (0 : Int))))))]⟩) (by kernel_rfl) (sr (vu (.osl 1700) [(1700, (bk (.row 1 (([]).map eSi64))))] rfl trivial rfl (nx ⟨[(0, (i6 a0)), (1, (i6 a1)), (4, (ow 4)), (7, (.osl 7))], [(4, (bk (eA64u8 ((vrep 64 (0 : Int)))))), (7, (bk (.row 1 (([]).map eSi64))))]⟩ (by kernel_rfl) ?_)))))
    obtain ⟨y148, hy149, hk150⟩ := bind_some h
    clear h
    refine a_join (emb := fun (s : (List (List Int))) => ⟨[(0, (i6 a0)), (4, (ow 4)), (7, (.osl 7))], [(4, (bk (eA64u8 ((vrep 64 (0 : Int)))))), (7, (bk (.row 1 (s.map eSi64))))]⟩) (pre := fun s => s = y148) ?_ ?_
    · rintro x147 rfl
      have h := hk150
      refine a_st (σ' := ⟨[(0, (i6 a0)), (4, (ow 4)), (7, (.osl 7))], [(4, (bk (eA64u8 ((vrep 64 (0 : Int)))))), (7, (bk (.row 1 (x147.map eSi64))))]⟩) (by kernel_rfl) (sr (vp (i6 a0) rfl (vp (.osl 7) rfl ?_)))
      obtain ⟨r294, hr295, h⟩ := bind_some h
      refine a_call (args := [(i6 a0), (eSSi64 x147)]) (u := [(7, (bf (.row 1 (x147.map eSi64))))]) (r := (.tuple [(eA64u8 r294.1), (i6 r294.2)])) rfl rfl (impl_prime_productOf_ok a0 x147 r294 hr295) rfl (vb (eA64u8 r294.1) rfl rfl (vb (i6 r294.2) rfl rfl (vs (eA64u8 r294.1) rfl rfl (fun _ => rfl) rfl rfl rfl rfl rfl rfl (vp (i6 r294.2) rfl (nx _ rfl (a_ret ?_))))))
      have hl297 : LdOk [] (eA64u8 r294.1) [] 64 true (eA64u8 r294.1) := (.nil rfl rfl rfl)
      refine ⟨.inr rfl, ?_⟩
      rw [Try.results38]
      cases h
      exact ⟨_, _, _, _, _, ld_own (i := ⟨.arr 64 5, 64, 64, (eA64u8 (vrep 64 (0 : Int)))⟩) rfl rfl rfl hl297, hl297.c, .inl ⟨rfl, .inl rfl⟩, rfl, ⟨_, _, _, _, _, rfl, trivial, .inl ⟨rfl, .inl rfl⟩, rfl, rfl⟩⟩
    · have h := hy149
      refine sr (vp (i6 a0) rfl (vp (i6 a1) rfl ?_))
      obtain ⟨r151, hr152, h⟩ := bind_some h
      refine a_call (args := [(i6 a0), (i6 a1)]) (u := []) (r := (eSi64 r151)) rfl rfl (impl_prime_numbered_ok a0 a1 r151 hr152) rfl (vq (i6 (r151.length : Int)) (len_run rfl rfl) trivial (vp (i6 0) rfl (nx ⟨[(0, (i6 a0)), (4, (ow 4)), (7, (.osl 7)), (19, (eSi64 r151)), (20, (i6 (r151.length : Int))), (21, (i6 0))], [(4, (bk (eA64u8 ((vrep 64 (0 : Int)))))), (7, (bk (.row 1 (([]).map eSi64))))]⟩ (by kernel_rfl) (a_block ?_))))
      refine a_loop (emb := fun (s : (Int × (List (List Int)))) => ⟨[(0, (i6 a0)), (4, (ow 4)), (7, (.osl 7)), (19, (eSi64 r151)), (20, (i6 (r151.length : Int))), (21, (i6 s.1))], [(4, (bk (eA64u8 ((vrep 64 (0 : Int)))))), (7, (bk (.row 1 (s.2.map eSi64))))]⟩) (body := (fun s : (Int × (List (List Int))) => impl_CarlitzFactorial_l1 r151 a0 s.1 s.2)) (G := fun q => some q = some y148) h rfl ?_ (by kernel_rfl)
      rintro X245 ⟨x198, x199⟩ x246 h hX247
      have h : impl_CarlitzFactorial_l1 r151 a0 x198 x199 = some x246 := h
      refine a_st (σ' := ⟨[(0, (i6 a0)), (4, (ow 4)), (7, (.osl 7)), (19, (eSi64 r151)), (20, (i6 (r151.length : Int))), (21, (i6 x198))], [(4, (bk (eA64u8 ((vrep 64 (0 : Int)))))), (7, (bk (.row 1 (x199.map eSi64))))]⟩) (by kernel_rfl) (sr (vp (.bool ((decide (x198 < (r151.length : Int))))) rfl (nx ⟨[(0, (i6 a0)), (4, (ow 4)), (7, (.osl 7)), (19, (eSi64 r151)), (20, (i6 (r151.length : Int))), (21, (i6 x198)), (22, (.bool ((decide (x198 < (r151.length : Int))))))], [(4, (bk (eA64u8 ((vrep 64 (0 : Int)))))), (7, (bk (.row 1 (x199.map eSi64))))]⟩ (by kernel_rfl) (a_seq ?_))))
      cases hb248 : (decide (x198 < (r151.length : Int)))
      · have h := ite_f hb248 h
        refine a_cond_f rfl (a_exit (t_exit ?_))
        cases h
        have h := hX247
        refine t_exit (b_exit ?_)
        exact j_leaf x199 (Option.some.inj h) (by kernel_rfl)
      · have h := ite_t hb248 h
        refine a_cond_t rfl (a_skip (a_next (σ' := ⟨[(0, (i6 a0)), (4, (ow 4)), (7, (.osl 7)), (19, (eSi64 r151)), (20, (i6 (r151.length : Int))), (21, (i6 x198))], [(4, (bk (eA64u8 ((vrep 64 (0 : Int)))))), (7, (bk (.row 1 (x199.map eSi64))))]⟩) (by kernel_rfl) ?_))
        obtain ⟨y270, hy271, hk272⟩ := bind_some h
        clear h
        refine a_join (emb := fun (s : (List (List Int))) => ⟨[(0, (i6 a0)), (4, (ow 4)), (7, (.osl 7)), (19, (eSi64 r151)), (20, (i6 (r151.length : Int))), (21, (i6 x198))], [(4, (bk (eA64u8 ((vrep 64 (0 : Int)))))), (7, (bk (.row 1 (s.map eSi64))))]⟩) (pre := fun s => s = y270) ?_ ?_
        · rintro x269 rfl
          have h := hk272
          refine a_st (σ' := ⟨[(0, (i6 a0)), (4, (ow 4)), (7, (.osl 7)), (19, (eSi64 r151)), (20, (i6 (r151.length : Int))), (21, (i6 x198))], [(4, (bk (eA64u8 ((vrep 64 (0 : Int)))))), (7, (bk (.row 1 (x269.map eSi64))))]⟩) (by kernel_rfl) (a_region (vp (i6 (IntKind.i64.wrap (x198 + 1))) rfl (vp (i6 (IntKind.i64.wrap (x198 + 1))) rfl (a_nil ?_))))
          cases h
          exact a_again (by kernel_rfl) hX247
        · have h := hy271
          refine a_block (sr (vp (i6 x198) rfl ?_))
          obtain ⟨hc273, h⟩ := ifp_some h
          refine vq (.ref (.row 1 (r151.map (AV.int .i64))) [x198.toNat] [x198.toNat * 1]) rfl (lmap hc273) ?_
          have hl274 : LdOk [x198.toNat] (.row 1 (r151.map (AV.int .i64))) [x198.toNat * 1] 1 false (i6 (rd r151 x198.toNat)) := (.row (llt hc273) rfl (.nil rfl rfl rfl))
          refine vq (i6 (rd r151 x198.toNat)) (ld_ref (i := ⟨.int .i64, 1, 8, (.int .i64 0)⟩) rfl rfl hl274) hl274.c (vp (i6 x198) rfl (vp (i6 (rd r151 x198.toNat)) rfl (nx ⟨[(0, (i6 a0)), (4, (ow 4)), (7, (.osl 7)), (8, (i6 x198)), (9, (i6 (rd r151 x198.toNat))), (19, (eSi64 r151)), (20, (i6 (r151.length : Int))), (21, (i6 x198))], [(4, (bk (eA64u8 ((vrep 64 (0 : Int)))))), (7, (bk (.row 1 (x199.map eSi64))))]⟩ (by kernel_rfl) (sr (vp (i6 (rd r151 x198.toNat)) rfl (vp (i6 0) rfl (nx ⟨[(0, (i6 a0)), (4, (ow 4)), (7, (.osl 7)), (8, (i6 x198)), (19, (eSi64 r151)), (20, (i6 (r151.length : Int))), (21, (i6 x198)), (26, (i6 (rd r151 x198.toNat))), (27, (i6 0))], [(4, (bk (eA64u8 ((vrep 64 (0 : Int)))))), (7, (bk (.row 1 (x199.map eSi64))))]⟩ (by kernel_rfl) (a_block ?_))))))))
          refine a_loop (emb := fun (s : (Int × (List (List Int)))) => ⟨[(0, (i6 a0)), (4, (ow 4)), (7, (.osl 7)), (8, (i6 x198)), (19, (eSi64 r151)), (20, (i6 (r151.length : Int))), (21, (i6 x198)), (26, (i6 (rd r151 x198.toNat))), (27, (i6 s.1))], [(4, (bk (eA64u8 ((vrep 64 (0 : Int)))))), (7, (bk (.row 1 (s.2.map eSi64))))]⟩) (body := (fun s : (Int × (List (List Int))) => impl_CarlitzFactorial_l2 r151 x198 a0 s.1 s.2)) (G := fun q => some q = some y270) h rfl ?_ (by kernel_rfl)
          rintro X285 ⟨x279, x280⟩ x286 h hX287
          have h : impl_CarlitzFactorial_l2 r151 x198 a0 x279 x280 = some x286 := h
          refine a_st (σ' := ⟨[(0, (i6 a0)), (4, (ow 4)), (7, (.osl 7)), (8, (i6 x198)), (19, (eSi64 r151)), (20, (i6 (r151.length : Int))), (21, (i6 x198)), (26, (i6 (rd r151 x198.toNat))), (27, (i6 x279))], [(4, (bk (eA64u8 ((vrep 64 (0 : Int)))))), (7, (bk (.row 1 (x280.map eSi64))))]⟩) (by kernel_rfl) (sr (vp (.bool ((decide (x279 < (rd r151 x198.toNat))))) rfl (nx ⟨[(0, (i6 a0)), (4, (ow 4)), (7, (.osl 7)), (8, (i6 x198)), (19, (eSi64 r151)), (20, (i6 (r151.length : Int))), (21, (i6 x198)), (26, (i6 (rd r151 x198.toNat))), (27, (i6 x279)), (28, (.bool ((decide (x279 < (rd r151 x198.toNat))))))], [(4, (bk (eA64u8 ((vrep 64 (0 : Int)))))), (7, (bk (.row 1 (x280.map eSi64))))]⟩ (by kernel_rfl) (a_seq ?_))))
          cases hb288 : (decide (x279 < (rd r151 x198.toNat)))
          · have h := ite_f hb288 h
            refine a_cond_f rfl (a_exit (t_exit ?_))
            cases h
            have h := hX287
            refine t_exit (b_exit (b_norm ?_))
            exact j_leaf x280 (Option.some.inj h) (by kernel_rfl)
          · have h := ite_t hb288 h
            refine a_cond_t rfl (a_skip (a_next (σ' := ⟨[(0, (i6 a0)), (4, (ow 4)), (7, (.osl 7)), (8, (i6 x198)), (19, (eSi64 r151)), (20, (i6 (r151.length : Int))), (21, (i6 x198)), (26, (i6 (rd r151 x198.toNat))), (27, (i6 x279))], [(4, (bk (eA64u8 ((vrep 64 (0 : Int)))))), (7, (bk (.row 1 (x280.map eSi64))))]⟩) (by kernel_rfl) (a_seq (a_block (a_region (vp (.osl 7) rfl (vp (i6 a0) rfl (vp (i6 x198) rfl ?_))))))))
            obtain ⟨r289, hr290, h⟩ := bind_some h
            refine a_call (args := [(i6 a0), (i6 x198)]) (u := []) (r := (eSSi64 r289)) rfl rfl (impl_prime_first_ok a0 x198 r289 hr290) rfl ?_
            obtain ⟨hc291, h⟩ := ifp_some h
            refine vu (.osl 4300) [(4300, (bk (.row 1 ((x280 ++ r289).map eSi64)))), (7, none)] (app_run (i := ⟨.slice 2, 1, 24, (eSi64 [])⟩) (f := eSi64) (l := x280) (l2 := r289) rfl rfl rfl rfl (fun _ => rfl) rfl rfl) (app_c (f := eSi64) (s := 1) (sz := 1) (by' := 24) (u := []) (id := 7) hc291 (.inr rfl) rfl rfl rfl) rfl (vp (.osl 4300) rfl (a_nil (b_norm (a_next (σ' := ⟨[(0, (i6 a0)), (4, (ow 4)), (7, (.osl 7)), (8, (i6 x198)), (19, (eSi64 r151)), (20, (i6 (r151.length : Int))), (21, (i6 x198)), (26, (i6 (rd r151 x198.toNat))), (27, (i6 x279))], [(4, (bk (eA64u8 ((vrep 64 (0 : Int)))))), (7, (bk (.row 1 ((x280 ++ r289).map eSi64))))]⟩) (by kernel_rfl) (a_region (vp (i6 (IntKind.i64.wrap (x279 + 1))) rfl (vp (i6 (IntKind.i64.wrap (x279 + 1))) rfl (a_nil ?_))))))))
            cases h
            exact a_again (by kernel_rfl) hX287
  · have h := ite_t hb3 h
    refine a_cond_t rfl (sr (vq (eA64u8 ((vrep 64 (0 : Int)))) rfl ⟨⟨_, rfl, rfl⟩, all_nil⟩ (vp (i6 r1) rfl (vs (eA64u8 ((vrep 64 (0 : Int)))) rfl rfl (fun _ => rfl) rfl rfl rfl rfl rfl rfl (vp (i6 r1) rfl (nx _ rfl (a_ret (t_ret ?_))))))))
    have hl299 : LdOk [] (eA64u8 ((vrep 64 (0 : Int)))) [] 64 true (eA64u8 ((vrep 64 (0 : Int)))) := (.nil rfl rfl rfl)
    refine ⟨.inr rfl, ?_⟩
    rw [Try.results38]
    cases h
    exact ⟨_, _, _, _, _, ld_own (i := ⟨.arr 64 5, 64, 64, (eA64u8 (vrep 64 (0 : Int)))⟩) rfl rfl rfl hl299, hl299.c, .inl ⟨rfl, .inl rfl⟩, rfl, ⟨_, _, _, _, _, rfl, trivial, .inl ⟨rfl, .inl rfl⟩, rfl, rfl⟩⟩
end Go.Proofs.Ytkbnegemdlnncaa
