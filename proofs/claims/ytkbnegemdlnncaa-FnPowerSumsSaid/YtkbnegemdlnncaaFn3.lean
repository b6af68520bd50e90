/- Functions of the program: plain Lean functions, and that the program computes them. Printed by gen.py. -/
import Derived.Test.YtkbnegemdlnncaaFnT
import Derived.Test.YtkbnegemdlnncaaFn1
import Derived.Test.YtkbnegemdlnncaaFn2
namespace Go.Proofs.Ytkbnegemdlnncaa
open Go.Abs Go.Proofs
set_option linter.unusedSimpArgs false
set_option linter.unusedVariables false
set_option maxHeartbeats 16000000
attribute [local irreducible] Abs.acode Abs.aops Abs.aopsT Abs.thenK Abs.blockK

def spec_l08Power_c : ACode := (.seq (.region 0 [q 4 (.box 25 (t 1)), q 6 (.alloc 25), q 7 (.asg 0 (.const (.bool false)) 4)] false) (.seq (.region 1 [q 11 (.call 0 (.func 133) []), q 8 (.alloc 25), ⟨none, .store 25 (t 8) (t 11), none, []⟩] false) (.seq (.block 0 (.loop (.seq (.seq (.region 2 [q 12 (.mov (t 2)), q 13 (.bin .gtr 2 (t 12) (.const (.int .i64 0)))] false) (.cond (t 13) .skip (.exit 0))) (.seq (.block 1 (.seq (.region 4 [q 17 (.mov (t 0)), q 18 (.load 25 (t 8)), q 19 (.load 25 (t 4)), q 20 (.call 0 (.func 105) [(t 17), (t 18), (t 19)]), q 16 (.mov (t 20)), q 21 (.extract (t 16) 0), q 22 (.extract (t 16) 1), q 9 (.alloc 25), ⟨none, .store 25 (t 9) (t 21), none, []⟩, q 10 (.asg 0 (t 22) 4)] false) (.seq (.seq (.region 5 [q 23 (.mov (t 10)), q 24 (.un .not (t 23))] false) (.cond (t 24) (.seq (.region 6 [q 25 (.build 25 []), ⟨none, .store 25 (t 6) (t 25), none, []⟩, q 7 (.asg 0 (.const (.bool false)) 4)] false) .ret) .skip)) (.region 7 [q 26 (.load 25 (t 9)), ⟨none, .store 25 (t 8) (t 26), none, []⟩] false)))) (.region 3 [q 14 (.mov (t 2)), q 15 (.bin .sub 2 (t 14) (.const (.int .i64 1))), q 2 (.asg 0 (t 15) 2)] false))))) (.seq (.region 8 [q 27 (.load 25 (t 8)), ⟨none, .store 25 (t 6) (t 27), none, []⟩, q 7 (.asg 0 (.const (.bool true)) 4)] false) .ret))))
def spec_l08Power_L : Live := [(0, [0, 1, 2]), (1, [0, 2, 4, 6]), (2, [0, 2, 4, 6, 8]), (3, [0, 2, 4, 6, 8]), (4, [0, 2, 4, 6, 8]), (5, [0, 2, 4, 6, 8, 9, 10]), (6, [6]), (7, [0, 2, 4, 6, 8, 9]), (8, [6, 8]), (100013, [0, 2, 4, 6, 8, 13]), (100024, [0, 2, 4, 6, 8, 9, 24])]
noncomputable def spec_l08Power_l1 (a0 : Int) (a1 : (Vec Int 64)) (x54 : Int) (x55 : (Vec Int 64)) : Option ((Int × (Vec Int 64)) ⊕ ((Vec Int 64) ⊕ ((Vec Int 64) × Bool))) :=
  (if (decide (x54 > 0)) then (Option.bind (spec_l01Times a0 x55 a1) fun r72 => (if (!r72.2) then (some (.inr ((.inr (((vrep 64 (0 : Int)), false)))))) else (some (.inl ((IntKind.i64.wrap (x54 - 1), r72.1)))))) else (some (.inr (.inl x55))))
noncomputable def spec_l08Power (a0 : Int) (a1 : (Vec Int 64)) (a2 : Int) : Option ((Vec Int 64) × Bool) :=
  (Option.bind (spec_l01One) fun r1 => (Option.bind (α := ((Vec Int 64) ⊕ ((Vec Int 64) × Bool))) ((loopM (fun s : (Int × (Vec Int 64)) => spec_l08Power_l1 a0 a1 s.1 s.2) (a2, r1))) fun z => match z with | .inl x40 => (some (x40, true)) | .inr r84 => (some r84)))
theorem spec_l08Power_ok (a0 : Int) (a1 : (Vec Int 64)) (a2 : Int) (r : ((Vec Int 64) × Bool)) (h : spec_l08Power a0 a1 a2 = some r) : Den Try.prog 198 [(i6 a0), (eA64u8 a1), (i6 a2)] { r := (.tuple [(eA64u8 r.1), (.bool r.2)]) } := by
  refine den_of (rs := [(eA64u8 r.1), (.bool r.2)]) (ac := spec_l08Power_c) (L := spec_l08Power_L) (n := 28) (m := []) (c := Try.f198.body.getD .skip) good Try.func198 (by kernel_rfl) (by kernel_rfl) Try.ntmps198 rfl rfl (by kernel_rfl) rfl rfl ?_
  refine a_st (σ' := ⟨[(0, (i6 a0)), (1, (eA64u8 a1)), (2, (i6 a2))], []⟩) (by kernel_rfl) ?_
  unfold spec_l08Power_c
  refine sr (vo 1400 (eA64u8 a1) rfl rfl (vo 1600 (eA64u8 ((vrep 64 (0 : Int)))) rfl rfl (vp (.bool false) rfl (nx ⟨[(0, (i6 a0)), (2, (i6 a2)), (4, (ow 4)), (6, (ow 6))], [(4, (bk (eA64u8 a1))), (6, (bk (eA64u8 ((vrep 64 (0 : Int))))))]⟩ (by kernel_rfl) (sr ?_)))))
  obtain ⟨r1, hr2, h⟩ := bind_some h
  refine a_call (args := []) (u := []) (r := (eA64u8 r1)) rfl rfl (spec_l01One_ok r1 hr2) rfl (vo 1800 (eA64u8 ((vrep 64 (0 : Int)))) rfl rfl (vs (eA64u8 r1) rfl rfl (fun _ => rfl) rfl rfl rfl rfl rfl rfl (nx ⟨[(0, (i6 a0)), (2, (i6 a2)), (4, (ow 4)), (6, (ow 6)), (8, (ow 8))], [(4, (bk (eA64u8 a1))), (6, (bk (eA64u8 ((vrep 64 (0 : Int)))))), (8, (bk (eA64u8 r1)))]⟩ (by kernel_rfl) ?_)))
  obtain ⟨y41, hy42, hk43⟩ := bind_some h
  clear h
  refine a_join (emb := fun (s : (Vec Int 64)) => ⟨[(6, (ow 6)), (8, (ow 8))], [(6, (bk (eA64u8 ((vrep 64 (0 : Int)))))), (8, (bk (eA64u8 s)))]⟩) (pre := fun s => (.inl s) = y41) ?_ ?_
  · rintro x40 rfl
    have h := hk43
    refine a_st (σ' := ⟨[(6, (ow 6)), (8, (ow 8))], [(6, (bk (eA64u8 ((vrep 64 (0 : Int)))))), (8, (bk (eA64u8 x40)))]⟩) (by kernel_rfl) (sr (vl (eA64u8 x40) rfl rfl rfl rfl rfl rfl (vs (eA64u8 x40) rfl rfl (fun _ => rfl) rfl rfl rfl rfl rfl rfl (vp (.bool true) rfl (nx _ rfl (a_ret ?_))))))
    have hl83 : LdOk [] (eA64u8 x40) [] 64 true (eA64u8 x40) := (.nil rfl rfl rfl)
    refine ⟨.inr rfl, ?_⟩
    rw [Try.results198]
    cases h
    exact ⟨_, _, _, _, _, ld_own (i := ⟨.arr 64 5, 64, 64, (eA64u8 (vrep 64 (0 : Int)))⟩) rfl rfl rfl hl83, hl83.c, .inl ⟨rfl, .inl rfl⟩, rfl, ⟨_, _, _, _, _, rfl, trivial, .inl ⟨rfl, .inl rfl⟩, rfl, rfl⟩⟩
  · have h := hy42
    refine a_block ?_
    refine a_loop (emb := fun (s : (Int × (Vec Int 64))) => ⟨[(0, (i6 a0)), (2, (i6 s.1)), (4, (ow 4)), (6, (ow 6)), (8, (ow 8))], [(4, (bk (eA64u8 a1))), (6, (bk (eA64u8 ((vrep 64 (0 : Int)))))), (8, (bk (eA64u8 s.2)))]⟩) (body := (fun s : (Int × (Vec Int 64)) => spec_l08Power_l1 a0 a1 s.1 s.2)) (G := fun q => some q = some y41) h rfl ?_ (by kernel_rfl)
    rintro X66 ⟨x54, x55⟩ x67 h hX68
    have h : spec_l08Power_l1 a0 a1 x54 x55 = some x67 := h
    refine a_st (σ' := ⟨[(0, (i6 a0)), (2, (i6 x54)), (4, (ow 4)), (6, (ow 6)), (8, (ow 8))], [(4, (bk (eA64u8 a1))), (6, (bk (eA64u8 ((vrep 64 (0 : Int)))))), (8, (bk (eA64u8 x55)))]⟩) (by kernel_rfl) (a_seq (sr (vp (i6 x54) rfl (vp (.bool ((decide (x54 > 0)))) rfl (nx ⟨[(0, (i6 a0)), (2, (i6 x54)), (4, (ow 4)), (6, (ow 6)), (8, (ow 8)), (13, (.bool ((decide (x54 > 0)))))], [(4, (bk (eA64u8 a1))), (6, (bk (eA64u8 ((vrep 64 (0 : Int)))))), (8, (bk (eA64u8 x55)))]⟩ (by kernel_rfl) ?_)))))
    cases hb69 : (decide (x54 > 0))
    · have h := ite_f hb69 h
      refine a_cond_f rfl (a_exit (t_exit ?_))
      cases h
      have h := hX68
      refine t_exit (b_exit ?_)
      exact j_leaf x55 (Option.some.inj h) (by kernel_rfl)
    · have h := ite_t hb69 h
      refine a_cond_t rfl (a_skip (a_next (σ' := ⟨[(0, (i6 a0)), (2, (i6 x54)), (4, (ow 4)), (6, (ow 6)), (8, (ow 8))], [(4, (bk (eA64u8 a1))), (6, (bk (eA64u8 ((vrep 64 (0 : Int)))))), (8, (bk (eA64u8 x55)))]⟩) (by kernel_rfl) (a_seq (a_block (sr (vp (i6 a0) rfl (vl (eA64u8 x55) rfl rfl rfl rfl rfl rfl (vl (eA64u8 a1) rfl rfl rfl rfl rfl rfl ?_))))))))
      obtain ⟨r72, hr73, h⟩ := bind_some h
      refine a_call (args := [(i6 a0), (eA64u8 x55), (eA64u8 a1)]) (u := []) (r := (.tuple [(eA64u8 r72.1), (.bool r72.2)])) rfl rfl (spec_l01Times_ok a0 x55 a1 r72 hr73) rfl (vp (.tuple [(eA64u8 r72.1), (.bool r72.2)]) rfl (vb (eA64u8 r72.1) rfl rfl (vb (.bool r72.2) rfl rfl (vo 1900 (eA64u8 ((vrep 64 (0 : Int)))) rfl rfl (vs (eA64u8 r72.1) rfl rfl (fun _ => rfl) rfl rfl rfl rfl rfl rfl (vp (.bool r72.2) rfl (nx ⟨[(0, (i6 a0)), (2, (i6 x54)), (4, (ow 4)), (6, (ow 6)), (8, (ow 8)), (9, (ow 9)), (10, (.bool r72.2))], [(4, (bk (eA64u8 a1))), (6, (bk (eA64u8 ((vrep 64 (0 : Int)))))), (8, (bk (eA64u8 x55))), (9, (bk (eA64u8 r72.1)))]⟩ (by kernel_rfl) (a_seq (sr ?_)))))))))
      refine vp (.bool r72.2) rfl (vp (.bool (!r72.2)) rfl (nx ⟨[(0, (i6 a0)), (2, (i6 x54)), (4, (ow 4)), (6, (ow 6)), (8, (ow 8)), (9, (ow 9)), (24, (.bool (!r72.2)))], [(4, (bk (eA64u8 a1))), (6, (bk (eA64u8 ((vrep 64 (0 : Int)))))), (8, (bk (eA64u8 x55))), (9, (bk (eA64u8 r72.1)))]⟩ (by kernel_rfl) ?_))
      cases hb75 : (!r72.2)
      · have h := ite_f hb75 h
        refine a_cond_f rfl (a_skip (a_next (σ' := ⟨[(0, (i6 a0)), (2, (i6 x54)), (4, (ow 4)), (6, (ow 6)), (8, (ow 8)), (9, (ow 9))], [(4, (bk (eA64u8 a1))), (6, (bk (eA64u8 ((vrep 64 (0 : Int)))))), (8, (bk (eA64u8 x55))), (9, (bk (eA64u8 r72.1)))]⟩) (by kernel_rfl) (a_region (vl (eA64u8 r72.1) rfl rfl rfl rfl rfl rfl (vs (eA64u8 r72.1) rfl rfl (fun _ => rfl) rfl rfl rfl rfl rfl rfl (a_nil (b_norm (a_next (σ' := ⟨[(0, (i6 a0)), (2, (i6 x54)), (4, (ow 4)), (6, (ow 6)), (8, (ow 8))], [(4, (bk (eA64u8 a1))), (6, (bk (eA64u8 ((vrep 64 (0 : Int)))))), (8, (bk (eA64u8 r72.1)))]⟩) (by kernel_rfl) (a_region ?_)))))))))
        refine vp (i6 x54) rfl (vp (i6 (IntKind.i64.wrap (x54 - 1))) rfl (vp (i6 (IntKind.i64.wrap (x54 - 1))) rfl (a_nil ?_)))
        cases h
        exact a_again (by kernel_rfl) hX68
      · have h := ite_t hb75 h
        refine a_cond_t rfl (sr (vq (eA64u8 ((vrep 64 (0 : Int)))) rfl ⟨⟨_, rfl, rfl⟩, all_nil⟩ (vs (eA64u8 ((vrep 64 (0 : Int)))) rfl rfl (fun _ => rfl) rfl rfl rfl rfl rfl rfl (vp (.bool false) rfl (nx _ rfl (a_ret (t_ret (b_ret (t_ret ?_)))))))))
        cases h
        have h := hX68
        refine t_ret (b_ret (t_ret ?_))
        cases h
        have h := hk43
        have hl79 : LdOk [] (eA64u8 ((vrep 64 (0 : Int)))) [] 64 true (eA64u8 ((vrep 64 (0 : Int)))) := (.nil rfl rfl rfl)
        refine ⟨.inr rfl, ?_⟩
        rw [Try.results198]
        cases h
        exact ⟨_, _, _, _, _, ld_own (i := ⟨.arr 64 5, 64, 64, (eA64u8 (vrep 64 (0 : Int)))⟩) rfl rfl rfl hl79, hl79.c, .inl ⟨rfl, .inl rfl⟩, rfl, ⟨_, _, _, _, _, rfl, trivial, .inl ⟨rfl, .inl rfl⟩, rfl, rfl⟩⟩
def spec_l01Add_c : ACode := (.seq (.region 0 [q 5 (.box 25 (t 1)), q 6 (.box 25 (t 2)), q 8 (.alloc 25)] false) (.seq (.seq (.region 1 [q 9 (.asg 0 (.const (.int .i64 0)) 3)] false) (.block 0 (.loop (.seq (.seq (.region 2 [q 10 (.mov (t 9)), q 11 (.bin .lss 3 (t 10) (.const (.int .i64 64)))] false) (.cond (t 11) .skip (.exit 0))) (.seq (.block 1 (.region 4 [q 14 (.mov (t 9)), q 15 (.mov (t 9)), ⟨some 16, .indexAddr 25 (t 5) (t 15), none, [1]⟩, ⟨some 17, .load 5 (t 16), none, [2]⟩, ⟨some 18, .conv 5 2 (t 17), none, [3]⟩, q 19 (.mov (t 3)), q 20 (.mov (t 9)), ⟨some 21, .indexAddr 25 (t 6) (t 20), none, [6]⟩, ⟨some 22, .load 5 (t 21), none, [7]⟩, ⟨some 23, .conv 5 2 (t 22), none, [8]⟩, ⟨some 24, .bin .mul 2 (t 19) (t 23), none, [5, 9]⟩, ⟨some 25, .bin .add 2 (t 18) (t 24), none, [4, 10]⟩, q 26 (.mov (t 0)), ⟨some 27, .bin .rem 2 (t 25) (t 26), none, [11, 12]⟩, q 28 (.mov (t 0)), ⟨some 29, .bin .add 2 (t 27) (t 28), none, [13, 14]⟩, q 30 (.mov (t 0)), ⟨some 31, .bin .rem 2 (t 29) (t 30), none, [15, 16]⟩, ⟨some 32, .conv 2 5 (t 31), none, [17]⟩, ⟨some 33, .indexAddr 25 (t 5) (t 14), none, [0, 0, 1, 2, 3, 4, 5, 6, 7, 8, 9, 10, 11, 12, 13, 14, 15, 16, 17, 18]⟩, ⟨none, .store 5 (t 33) (t 32), none, [19, 18, 0, 1, 2, 3, 4, 5, 6, 7, 8, 9, 10, 11, 12, 13, 14, 15, 16, 17, 18]⟩] true)) (.region 3 [q 12 (.mov (t 9)), q 13 (.bin .add 3 (t 12) (.const (.int .i64 1))), q 9 (.asg 0 (t 13) 3)] false)))))) (.seq (.region 5 [q 34 (.load 25 (t 5)), ⟨none, .store 25 (t 8) (t 34), none, []⟩] false) .ret)))
def spec_l01Add_L : Live := [(0, [0, 1, 2, 3]), (1, [0, 3, 5, 6, 8]), (2, [0, 3, 5, 6, 8, 9]), (3, [0, 3, 5, 6, 8, 9]), (4, [0, 3, 5, 6, 8, 9]), (5, [5, 8]), (100011, [0, 3, 5, 6, 8, 9, 11])]
noncomputable def spec_l01Add_l1 (a3 : Int) (a2 : (Vec Int 64)) (a0 : Int) (x127 : Int) (x128 : (Vec Int 64)) : Option ((Int × (Vec Int 64)) ⊕ (Vec Int 64)) :=
  (if (decide (x127 < 64)) then (ifp (0 ≤ x127 ∧ x127 < ((64 : Nat) : Int)) ((ifp (0 ≤ x127 ∧ x127 < ((64 : Nat) : Int)) ((letp (IntKind.i64.wrap (a3 * (IntKind.i64.wrap (rd a2.1 x127.toNat)))) fun x180 => (letp (IntKind.i64.wrap ((IntKind.i64.wrap (rd x128.1 x127.toNat)) + x180)) fun x182 => (ifp (a0 ≠ 0) ((ifp (a0 ≠ 0) ((letp (IntKind.u8.wrap (Int.tmod (IntKind.i64.wrap ((Int.tmod x182 a0) + a0)) a0)) fun x186 => (ifp (0 ≤ x127 ∧ x127 < ((64 : Nat) : Int)) ((some (.inl ((IntKind.i64.wrap (x127 + 1), (vset x128 x127.toNat x186)))))))))))))))))) else (some (.inr x128)))
noncomputable def spec_l01Add (a0 : Int) (a1 : (Vec Int 64)) (a2 : (Vec Int 64)) (a3 : Int) : Option (Vec Int 64) :=
  (Option.bind (α := (Vec Int 64)) ((loopM (fun s : (Int × (Vec Int 64)) => spec_l01Add_l1 a3 a2 a0 s.1 s.2) (0, a1))) fun x94 => (some x94))
theorem spec_l01Add_ok (a0 : Int) (a1 : (Vec Int 64)) (a2 : (Vec Int 64)) (a3 : Int) (r : (Vec Int 64)) (h : spec_l01Add a0 a1 a2 a3 = some r) : Den Try.prog 121 [(i6 a0), (eA64u8 a1), (eA64u8 a2), (i6 a3)] { r := (eA64u8 r) } := by
  refine den_of (rs := [(eA64u8 r)]) (ac := spec_l01Add_c) (L := spec_l01Add_L) (n := 35) (m := []) (c := Try.f121.body.getD .skip) good Try.func121 (by kernel_rfl) (by kernel_rfl) Try.ntmps121 rfl rfl (by kernel_rfl) rfl rfl ?_
  refine a_st (σ' := ⟨[(0, (i6 a0)), (1, (eA64u8 a1)), (2, (eA64u8 a2)), (3, (i6 a3))], []⟩) (by kernel_rfl) ?_
  unfold spec_l01Add_c
  refine sr (vo 1500 (eA64u8 a1) rfl rfl (vo 1600 (eA64u8 a2) rfl rfl (vo 1800 (eA64u8 ((vrep 64 (0 : Int)))) rfl rfl (nx ⟨[(0, (i6 a0)), (3, (i6 a3)), (5, (ow 5)), (6, (ow 6)), (8, (ow 8))], [(5, (bk (eA64u8 a1))), (6, (bk (eA64u8 a2))), (8, (bk (eA64u8 ((vrep 64 (0 : Int))))))]⟩ (by kernel_rfl) ?_))))
  obtain ⟨y95, hy96, hk97⟩ := bind_some h
  clear h
  refine a_join (emb := fun (s : (Vec Int 64)) => ⟨[(5, (ow 5)), (8, (ow 8))], [(5, (bk (eA64u8 s))), (8, (bk (eA64u8 ((vrep 64 (0 : Int))))))]⟩) (pre := fun s => s = y95) ?_ ?_
  · rintro x94 rfl
    have h := hk97
    refine a_st (σ' := ⟨[(5, (ow 5)), (8, (ow 8))], [(5, (bk (eA64u8 x94))), (8, (bk (eA64u8 ((vrep 64 (0 : Int))))))]⟩) (by kernel_rfl) (sr (vl (eA64u8 x94) rfl rfl rfl rfl rfl rfl (vs (eA64u8 x94) rfl rfl (fun _ => rfl) rfl rfl rfl rfl rfl rfl (nx _ rfl (a_ret ?_)))))
    have hl193 : LdOk [] (eA64u8 x94) [] 64 true (eA64u8 x94) := (.nil rfl rfl rfl)
    refine ⟨.inr rfl, ?_⟩
    rw [Try.results121]
    cases h
    exact ⟨_, _, _, _, _, ld_own (i := ⟨.arr 64 5, 64, 64, (eA64u8 (vrep 64 (0 : Int)))⟩) rfl rfl rfl hl193, hl193.c, .inl ⟨rfl, .inl rfl⟩, rfl, rfl⟩
  · have h := hy96
    refine sr (vp (i6 0) rfl (nx ⟨[(0, (i6 a0)), (3, (i6 a3)), (5, (ow 5)), (6, (ow 6)), (8, (ow 8)), (9, (i6 0))], [(5, (bk (eA64u8 a1))), (6, (bk (eA64u8 a2))), (8, (bk (eA64u8 ((vrep 64 (0 : Int))))))]⟩ (by kernel_rfl) (a_block ?_)))
    refine a_loop (emb := fun (s : (Int × (Vec Int 64))) => ⟨[(0, (i6 a0)), (3, (i6 a3)), (5, (ow 5)), (6, (ow 6)), (8, (ow 8)), (9, (i6 s.1))], [(5, (bk (eA64u8 s.2))), (6, (bk (eA64u8 a2))), (8, (bk (eA64u8 ((vrep 64 (0 : Int))))))]⟩) (body := (fun s : (Int × (Vec Int 64)) => spec_l01Add_l1 a3 a2 a0 s.1 s.2)) (G := fun q => some q = some y95) h rfl ?_ (by kernel_rfl)
    rintro X158 ⟨x127, x128⟩ x159 h hX160
    have h : spec_l01Add_l1 a3 a2 a0 x127 x128 = some x159 := h
    refine a_st (σ' := ⟨[(0, (i6 a0)), (3, (i6 a3)), (5, (ow 5)), (6, (ow 6)), (8, (ow 8)), (9, (i6 x127))], [(5, (bk (eA64u8 x128))), (6, (bk (eA64u8 a2))), (8, (bk (eA64u8 ((vrep 64 (0 : Int))))))]⟩) (by kernel_rfl) (a_seq (sr (vp (i6 x127) rfl (vp (.bool ((decide (x127 < 64)))) rfl (nx ⟨[(0, (i6 a0)), (3, (i6 a3)), (5, (ow 5)), (6, (ow 6)), (8, (ow 8)), (9, (i6 x127)), (11, (.bool ((decide (x127 < 64)))))], [(5, (bk (eA64u8 x128))), (6, (bk (eA64u8 a2))), (8, (bk (eA64u8 ((vrep 64 (0 : Int))))))]⟩ (by kernel_rfl) ?_)))))
    cases hb161 : (decide (x127 < 64))
    · have h := ite_f hb161 h
      refine a_cond_f rfl (a_exit (t_exit ?_))
      cases h
      have h := hX160
      refine t_exit (b_exit ?_)
      exact j_leaf x128 (Option.some.inj h) (by kernel_rfl)
    · have h := ite_t hb161 h
      refine a_cond_t rfl (a_skip (a_next (σ' := ⟨[(0, (i6 a0)), (3, (i6 a3)), (5, (ow 5)), (6, (ow 6)), (8, (ow 8)), (9, (i6 x127))], [(5, (bk (eA64u8 x128))), (6, (bk (eA64u8 a2))), (8, (bk (eA64u8 ((vrep 64 (0 : Int))))))]⟩) (by kernel_rfl) (a_seq (a_block (a_draw [⟨[], [], [], []⟩, ⟨[], [], [], []⟩, ⟨[5], [], [5], [1]⟩, ⟨[5], [], [], [1, 2]⟩, ⟨[], [], [], [1, 2, 3]⟩, ⟨[], [], [], []⟩, ⟨[], [], [], []⟩, ⟨[6], [], [6], [6]⟩, ⟨[6], [], [], [6, 7]⟩, ⟨[], [], [], [6, 7, 8]⟩, ⟨[], [], [], [5, 6, 7, 8, 9]⟩, ⟨[], [], [], [1, 2, 3, 4, 5, 6, 7, 8, 9, 10]⟩, ⟨[], [], [], []⟩, ⟨[], [], [], [1, 2, 3, 4, 5, 6, 7, 8, 9, 10, 11, 12]⟩, ⟨[], [], [], []⟩, ⟨[], [], [], [1, 2, 3, 4, 5, 6, 7, 8, 9, 10, 11, 12, 13, 14]⟩, ⟨[], [], [], []⟩, ⟨[], [], [], [1, 2, 3, 4, 5, 6, 7, 8, 9, 10, 11, 12, 13, 14, 15, 16]⟩, ⟨[], [], [], [1, 2, 3, 4, 5, 6, 7, 8, 9, 10, 11, 12, 13, 14, 15, 16, 17]⟩, ⟨[5], [], [5], [0, 1, 2, 3, 4, 5, 6, 7, 8, 9, 10, 11, 12, 13, 14, 15, 16, 17, 18]⟩, ⟨[5], [5], [], [0, 1, 2, 3, 4, 5, 6, 7, 8, 9, 10, 11, 12, 13, 14, 15, 16, 17, 18, 19]⟩] (by kernel_rfl) (dp (i6 x127) rfl (by kernel_rfl) (dp (i6 x127) rfl (by kernel_rfl) (d_cons ?_))))))))
      obtain ⟨hc176, h⟩ := ifp_some h
      refine vq (.own 5 [x127.toNat] [x127.toNat * 1]) rfl hc176 (d_next (by kernel_rfl) (d_cons ?_))
      have hl177 : LdOk [x127.toNat] (eA64u8 x128) [x127.toNat * 1] 1 false (b8 (rd x128.1 x127.toNat)) := (.arr (vlt x128 hc176) rfl (.nil rfl rfl rfl))
      refine vq (b8 (rd x128.1 x127.toNat)) (ld_own (i := ⟨.int .u8, 1, 1, (.int .u8 0)⟩) rfl rfl rfl hl177) hl177.c (d_next (by kernel_rfl) (dp (i6 (IntKind.i64.wrap (rd x128.1 x127.toNat))) rfl (by kernel_rfl) (dp (i6 a3) rfl (by kernel_rfl) (dp (i6 x127) rfl (by kernel_rfl) (d_cons ?_)))))
      obtain ⟨hc178, h⟩ := ifp_some h
      refine vq (.own 6 [x127.toNat] [x127.toNat * 1]) rfl hc178 (d_next (by kernel_rfl) (d_cons ?_))
      have hl179 : LdOk [x127.toNat] (eA64u8 a2) [x127.toNat * 1] 1 false (b8 (rd a2.1 x127.toNat)) := (.arr (vlt a2 hc178) rfl (.nil rfl rfl rfl))
      refine vq (b8 (rd a2.1 x127.toNat)) (ld_own (i := ⟨.int .u8, 1, 1, (.int .u8 0)⟩) rfl rfl rfl hl179) hl179.c (d_next (by kernel_rfl) (dp (i6 (IntKind.i64.wrap (rd a2.1 x127.toNat))) rfl (by kernel_rfl) (d_cons ?_)))
      obtain ⟨x180, hx181, h⟩ := letp_some h
      refine a_val' (v := (i6 (IntKind.i64.wrap (a3 * (IntKind.i64.wrap (rd a2.1 x127.toNat)))))) (v' := (i6 x180)) (u := []) (u' := []) rfl (congrArg (fun z => ((i6 z) : AV)) hx181) rfl trivial rfl (d_next (by kernel_rfl) (d_cons ?_))
      obtain ⟨x182, hx183, h⟩ := letp_some h
      refine a_val' (v := (i6 (IntKind.i64.wrap ((IntKind.i64.wrap (rd x128.1 x127.toNat)) + x180)))) (v' := (i6 x182)) (u := []) (u' := []) rfl (congrArg (fun z => ((i6 z) : AV)) hx183) rfl trivial rfl (d_next (by kernel_rfl) (dp (i6 a0) rfl (by kernel_rfl) (d_cons ?_)))
      obtain ⟨hc184, h⟩ := ifp_some h
      refine vq (i6 (Int.tmod x182 a0)) rfl hc184 (d_next (by kernel_rfl) (dp (i6 a0) rfl (by kernel_rfl) (dp (i6 (IntKind.i64.wrap ((Int.tmod x182 a0) + a0))) rfl (by kernel_rfl) (dp (i6 a0) rfl (by kernel_rfl) (d_cons ?_)))))
      obtain ⟨hc185, h⟩ := ifp_some h
      refine vq (i6 (Int.tmod (IntKind.i64.wrap ((Int.tmod x182 a0) + a0)) a0)) rfl hc185 (d_next (by kernel_rfl) (d_cons ?_))
      obtain ⟨x186, hx187, h⟩ := letp_some h
      refine a_val' (v := (b8 (IntKind.u8.wrap (Int.tmod (IntKind.i64.wrap ((Int.tmod x182 a0) + a0)) a0)))) (v' := (b8 x186)) (u := []) (u' := []) rfl (congrArg (fun z => ((b8 z) : AV)) hx187) rfl trivial rfl (d_next (by kernel_rfl) (d_cons ?_))
      obtain ⟨hc188, h⟩ := ifp_some h
      refine vq (.own 5 [x127.toNat] [x127.toNat * 1]) rfl hc188 (d_next (by kernel_rfl) (d_cons ?_))
      have hs189 : StOk [x127.toNat] (eA64u8 x128) [x127.toNat * 1] 1 (b8 x186) (eA64u8 (vset x128 x127.toNat x186)) := (.arr (y := x186) (vlt x128 hc188) rfl (.nil rfl rfl rfl rfl))
      refine vu .top [(5, (bk (eA64u8 (vset x128 x127.toNat x186))))] (st_own (i := ⟨.int .u8, 1, 1, (.int .u8 0)⟩) rfl rfl (fun _ => rfl) rfl hs189) (hs189.c rfl) rfl (d_next (by kernel_rfl) (d_nil (b_norm (a_next (σ' := ⟨[(0, (i6 a0)), (3, (i6 a3)), (5, (ow 5)), (6, (ow 6)), (8, (ow 8)), (9, (i6 x127))], [(5, (bk (eA64u8 (vset x128 x127.toNat x186)))), (6, (bk (eA64u8 a2))), (8, (bk (eA64u8 ((vrep 64 (0 : Int))))))]⟩) (by kernel_rfl) (a_region (vp (i6 x127) rfl (vp (i6 (IntKind.i64.wrap (x127 + 1))) rfl (vp (i6 (IntKind.i64.wrap (x127 + 1))) rfl (a_nil ?_)))))))))
      cases h
      exact a_again (by kernel_rfl) hX160
def spec_l08Sum_c : ACode := (.seq (.region 0 [q 6 (.alloc 25), q 7 (.asg 0 (.const (.bool false)) 4)] false) (.seq (.region 1 [q 12 (.build 25 []), q 8 (.alloc 25), ⟨none, .store 25 (t 8) (t 12), none, []⟩] false) (.seq (.seq (.region 2 [q 13 (.mov (t 1)), q 14 (.mov (t 2)), q 15 (.bin .mul 2 (t 13) (t 14)), q 16 (.bin .gtr 2 (t 15) (.const (.int .i64 63)))] false) (.cond (t 16) (.seq (.region 3 [q 17 (.load 25 (t 8)), ⟨none, .store 25 (t 6) (t 17), none, []⟩, q 7 (.asg 0 (.const (.bool false)) 4)] false) .ret) .skip)) (.seq (.seq (.region 4 [q 18 (.mov (t 0)), q 19 (.mov (t 1)), q 20 (.call 0 (.func 149) [(t 18), (t 19)]), q 9 (.asg 0 (t 20) 2)] false) (.block 0 (.loop (.seq (.seq (.region 5 [q 21 (.mov (t 9)), q 22 (.mov (t 0)), q 23 (.mov (t 1)), q 24 (.call 0 (.func 149) [(t 22), (t 23)]), q 25 (.bin .mul 2 (.const (.int .i64 2)) (t 24)), q 26 (.bin .lss 2 (t 21) (t 25))] false) (.cond (t 26) .skip (.exit 0))) (.seq (.block 1 (.seq (.region 7 [q 30 (.mov (t 0)), q 31 (.mov (t 0)), q 32 (.mov (t 9)), q 33 (.call 0 (.func 173) [(t 31), (t 32)]), q 34 (.mov (t 2)), q 35 (.call 0 (.func 198) [(t 30), (t 33), (t 34)]), q 29 (.mov (t 35)), q 36 (.extract (t 29) 0), q 37 (.extract (t 29) 1), q 10 (.alloc 25), ⟨none, .store 25 (t 10) (t 36), none, []⟩, q 11 (.asg 0 (t 37) 4)] false) (.region 8 [q 38 (.mov (t 0)), q 39 (.load 25 (t 8)), q 40 (.load 25 (t 10)), q 41 (.call 0 (.func 121) [(t 38), (t 39), (t 40), (.const (.int .i64 1))]), ⟨none, .store 25 (t 8) (t 41), none, []⟩] false))) (.region 6 [q 27 (.mov (t 9)), q 28 (.bin .add 2 (t 27) (.const (.int .i64 1))), q 9 (.asg 0 (t 28) 2)] false)))))) (.seq (.region 9 [q 42 (.load 25 (t 8)), ⟨none, .store 25 (t 6) (t 42), none, []⟩, q 7 (.asg 0 (.const (.bool true)) 4)] false) .ret)))))
def spec_l08Sum_L : Live := [(0, [0, 1, 2]), (1, [0, 1, 2, 6]), (2, [0, 1, 2, 6, 8]), (3, [6, 8]), (4, [0, 1, 2, 6, 8]), (5, [0, 1, 2, 6, 8, 9]), (6, [0, 1, 2, 6, 8, 9]), (7, [0, 1, 2, 6, 8, 9]), (8, [0, 1, 2, 6, 8, 9, 10]), (9, [6, 8]), (100016, [0, 1, 2, 6, 8, 16]), (100026, [0, 1, 2, 6, 8, 9, 26])]
noncomputable def spec_l08Sum_l1 (a0 : Int) (a1 : Int) (a2 : Int) (x69 : Int) (x70 : (Vec Int 64)) : Option ((Int × (Vec Int 64)) ⊕ (Vec Int 64)) :=
  (Option.bind (spec_l01Count a0 a1) fun r87 => (if (decide (x69 < (IntKind.i64.wrap (2 * r87)))) then (Option.bind (spec_l01Of a0 x69) fun r90 => (Option.bind (spec_l08Power a0 r90 a2) fun r92 => (Option.bind (spec_l01Add a0 x70 r92.1 1) fun r97 => (some (.inl ((IntKind.i64.wrap (x69 + 1), r97))))))) else (some (.inr x70))))
noncomputable def spec_l08Sum (a0 : Int) (a1 : Int) (a2 : Int) : Option ((Vec Int 64) × Bool) :=
  (if (decide ((IntKind.i64.wrap (a1 * a2)) > 63)) then (some (((vrep 64 (0 : Int)), false))) else (Option.bind (α := (Vec Int 64)) ((Option.bind (spec_l01Count a0 a1) fun r54 => (loopM (fun s : (Int × (Vec Int 64)) => spec_l08Sum_l1 a0 a1 a2 s.1 s.2) (r54, (vrep 64 (0 : Int)))))) fun x50 => (some (x50, true))))
theorem spec_l08Sum_ok (a0 : Int) (a1 : Int) (a2 : Int) (r : ((Vec Int 64) × Bool)) (h : spec_l08Sum a0 a1 a2 = some r) : Den Try.prog 146 [(i6 a0), (i6 a1), (i6 a2)] { r := (.tuple [(eA64u8 r.1), (.bool r.2)]) } := by
  refine den_of (rs := [(eA64u8 r.1), (.bool r.2)]) (ac := spec_l08Sum_c) (L := spec_l08Sum_L) (n := 43) (m := []) (c := Try.f146.body.getD .skip) good Try.func146 (by kernel_rfl) (by kernel_rfl) Try.ntmps146 rfl rfl (by kernel_rfl) rfl rfl ?_
  refine a_st (σ' := ⟨[(0, (i6 a0)), (1, (i6 a1)), (2, (i6 a2))], []⟩) (by kernel_rfl) ?_
  unfold spec_l08Sum_c
  refine sr (vo 1600 (eA64u8 ((vrep 64 (0 : Int)))) rfl rfl (vp (.bool false) rfl (nx ⟨[(0, (i6 a0)), (1, (i6 a1)), (2, (i6 a2)), (6, (ow 6))], [(6, (bk (eA64u8 ((vrep 64 (0 : Int))))))]⟩ (by kernel_rfl) (sr (vq (eA64u8 ((vrep 64 (0 : Int)))) rfl ⟨⟨_, rfl, rfl⟩, all_nil⟩ (vo 1800 (eA64u8 ((vrep 64 (0 : Int)))) rfl rfl (vs (eA64u8 ((vrep 64 (0 : Int)))) rfl rfl (fun _ => rfl) rfl rfl rfl rfl rfl rfl (nx ⟨[(0, (i6 a0)), (1, (i6 a1)), (2, (i6 a2)), (6, (ow 6)), (8, (ow 8))], [(6, (bk (eA64u8 ((vrep 64 (0 : Int)))))), (8, (bk (eA64u8 ((vrep 64 (0 : Int))))))]⟩ (by kernel_rfl) (a_seq ?_)))))))))
  refine sr (vp (i6 a1) rfl (vp (i6 a2) rfl (vp (i6 (IntKind.i64.wrap (a1 * a2))) rfl (vp (.bool ((decide ((IntKind.i64.wrap (a1 * a2)) > 63)))) rfl (nx ⟨[(0, (i6 a0)), (1, (i6 a1)), (2, (i6 a2)), (6, (ow 6)), (8, (ow 8)), (16, (.bool ((decide ((IntKind.i64.wrap (a1 * a2)) > 63)))))], [(6, (bk (eA64u8 ((vrep 64 (0 : Int)))))), (8, (bk (eA64u8 ((vrep 64 (0 : Int))))))]⟩ (by kernel_rfl) ?_)))))
  cases hb2 : (decide ((IntKind.i64.wrap (a1 * a2)) > 63))
  · have h := ite_f hb2 h
    refine a_cond_f rfl (a_skip (a_next (σ' := ⟨[(0, (i6 a0)), (1, (i6 a1)), (2, (i6 a2)), (6, (ow 6)), (8, (ow 8))], [(6, (bk (eA64u8 ((vrep 64 (0 : Int)))))), (8, (bk (eA64u8 ((vrep 64 (0 : Int))))))]⟩) (by kernel_rfl) ?_))
    obtain ⟨y51, hy52, hk53⟩ := bind_some h
    clear h
    refine a_join (emb := fun (s : (Vec Int 64)) => ⟨[(6, (ow 6)), (8, (ow 8))], [(6, (bk (eA64u8 ((vrep 64 (0 : Int)))))), (8, (bk (eA64u8 s)))]⟩) (pre := fun s => s = y51) ?_ ?_
    · rintro x50 rfl
      have h := hk53
      refine a_st (σ' := ⟨[(6, (ow 6)), (8, (ow 8))], [(6, (bk (eA64u8 ((vrep 64 (0 : Int)))))), (8, (bk (eA64u8 x50)))]⟩) (by kernel_rfl) (sr (vl (eA64u8 x50) rfl rfl rfl rfl rfl rfl (vs (eA64u8 x50) rfl rfl (fun _ => rfl) rfl rfl rfl rfl rfl rfl (vp (.bool true) rfl (nx _ rfl (a_ret ?_))))))
      have hl103 : LdOk [] (eA64u8 x50) [] 64 true (eA64u8 x50) := (.nil rfl rfl rfl)
      refine ⟨.inr rfl, ?_⟩
      rw [Try.results146]
      cases h
      exact ⟨_, _, _, _, _, ld_own (i := ⟨.arr 64 5, 64, 64, (eA64u8 (vrep 64 (0 : Int)))⟩) rfl rfl rfl hl103, hl103.c, .inl ⟨rfl, .inl rfl⟩, rfl, ⟨_, _, _, _, _, rfl, trivial, .inl ⟨rfl, .inl rfl⟩, rfl, rfl⟩⟩
    · have h := hy52
      refine sr (vp (i6 a0) rfl (vp (i6 a1) rfl ?_))
      obtain ⟨r54, hr55, h⟩ := bind_some h
      refine a_call (args := [(i6 a0), (i6 a1)]) (u := []) (r := (i6 r54)) rfl rfl (spec_l01Count_ok a0 a1 r54 hr55) rfl (vp (i6 r54) rfl (nx ⟨[(0, (i6 a0)), (1, (i6 a1)), (2, (i6 a2)), (6, (ow 6)), (8, (ow 8)), (9, (i6 r54))], [(6, (bk (eA64u8 ((vrep 64 (0 : Int)))))), (8, (bk (eA64u8 ((vrep 64 (0 : Int))))))]⟩ (by kernel_rfl) (a_block ?_)))
      refine a_loop (emb := fun (s : (Int × (Vec Int 64))) => ⟨[(0, (i6 a0)), (1, (i6 a1)), (2, (i6 a2)), (6, (ow 6)), (8, (ow 8)), (9, (i6 s.1))], [(6, (bk (eA64u8 ((vrep 64 (0 : Int)))))), (8, (bk (eA64u8 s.2)))]⟩) (body := (fun s : (Int × (Vec Int 64)) => spec_l08Sum_l1 a0 a1 a2 s.1 s.2)) (G := fun q => some q = some y51) h rfl ?_ (by kernel_rfl)
      rintro X84 ⟨x69, x70⟩ x85 h hX86
      have h : spec_l08Sum_l1 a0 a1 a2 x69 x70 = some x85 := h
      refine a_st (σ' := ⟨[(0, (i6 a0)), (1, (i6 a1)), (2, (i6 a2)), (6, (ow 6)), (8, (ow 8)), (9, (i6 x69))], [(6, (bk (eA64u8 ((vrep 64 (0 : Int)))))), (8, (bk (eA64u8 x70)))]⟩) (by kernel_rfl) (a_seq (sr (vp (i6 x69) rfl (vp (i6 a0) rfl (vp (i6 a1) rfl ?_)))))
      obtain ⟨r87, hr88, h⟩ := bind_some h
      refine a_call (args := [(i6 a0), (i6 a1)]) (u := []) (r := (i6 r87)) rfl rfl (spec_l01Count_ok a0 a1 r87 hr88) rfl (vp (i6 (IntKind.i64.wrap (2 * r87))) rfl (vp (.bool ((decide (x69 < (IntKind.i64.wrap (2 * r87)))))) rfl (nx ⟨[(0, (i6 a0)), (1, (i6 a1)), (2, (i6 a2)), (6, (ow 6)), (8, (ow 8)), (9, (i6 x69)), (26, (.bool ((decide (x69 < (IntKind.i64.wrap (2 * r87)))))))], [(6, (bk (eA64u8 ((vrep 64 (0 : Int)))))), (8, (bk (eA64u8 x70)))]⟩ (by kernel_rfl) ?_)))
      cases hb89 : (decide (x69 < (IntKind.i64.wrap (2 * r87))))
      · have h := ite_f hb89 h
        refine a_cond_f rfl (a_exit (t_exit ?_))
        cases h
        have h := hX86
        refine t_exit (b_exit ?_)
        exact j_leaf x70 (Option.some.inj h) (by kernel_rfl)
      · have h := ite_t hb89 h
        refine a_cond_t rfl (a_skip (a_next (σ' := ⟨[(0, (i6 a0)), (1, (i6 a1)), (2, (i6 a2)), (6, (ow 6)), (8, (ow 8)), (9, (i6 x69))], [(6, (bk (eA64u8 ((vrep 64 (0 : Int)))))), (8, (bk (eA64u8 x70)))]⟩) (by kernel_rfl) (a_seq (a_block (sr (vp (i6 a0) rfl (vp (i6 a0) rfl (vp (i6 x69) rfl ?_))))))))
        obtain ⟨r90, hr91, h⟩ := bind_some h
        refine a_call (args := [(i6 a0), (i6 x69)]) (u := []) (r := (eA64u8 r90)) rfl rfl (spec_l01Of_ok a0 x69 r90 hr91) rfl (vp (i6 a2) rfl ?_)
        obtain ⟨r92, hr93, h⟩ := bind_some h
        refine a_call (args := [(i6 a0), (eA64u8 r90), (i6 a2)]) (u := []) (r := (.tuple [(eA64u8 r92.1), (.bool r92.2)])) rfl rfl (spec_l08Power_ok a0 r90 a2 r92 hr93) rfl (vp (.tuple [(eA64u8 r92.1), (.bool r92.2)]) rfl (vb (eA64u8 r92.1) rfl rfl (vb (.bool r92.2) rfl rfl (vo 2000 (eA64u8 ((vrep 64 (0 : Int)))) rfl rfl (vs (eA64u8 r92.1) rfl rfl (fun _ => rfl) rfl rfl rfl rfl rfl rfl (vp (.bool r92.2) rfl (nx ⟨[(0, (i6 a0)), (1, (i6 a1)), (2, (i6 a2)), (6, (ow 6)), (8, (ow 8)), (9, (i6 x69)), (10, (ow 10))], [(6, (bk (eA64u8 ((vrep 64 (0 : Int)))))), (8, (bk (eA64u8 x70))), (10, (bk (eA64u8 r92.1)))]⟩ (by kernel_rfl) (a_region (vp (i6 a0) rfl ?_)))))))))
        refine vl (eA64u8 x70) rfl rfl rfl rfl rfl rfl (vl (eA64u8 r92.1) rfl rfl rfl rfl rfl rfl ?_)
        obtain ⟨r97, hr98, h⟩ := bind_some h
        refine a_call (args := [(i6 a0), (eA64u8 x70), (eA64u8 r92.1), (i6 1)]) (u := []) (r := (eA64u8 r97)) rfl rfl (spec_l01Add_ok a0 x70 r92.1 1 r97 hr98) rfl (vs (eA64u8 r97) rfl rfl (fun _ => rfl) rfl rfl rfl rfl rfl rfl (a_nil (b_norm (a_next (σ' := ⟨[(0, (i6 a0)), (1, (i6 a1)), (2, (i6 a2)), (6, (ow 6)), (8, (ow 8)), (9, (i6 x69))], [(6, (bk (eA64u8 ((vrep 64 (0 : Int)))))), (8, (bk (eA64u8 r97)))]⟩) (by kernel_rfl) (a_region (vp (i6 x69) rfl (vp (i6 (IntKind.i64.wrap (x69 + 1))) rfl (vp (i6 (IntKind.i64.wrap (x69 + 1))) rfl (a_nil ?_)))))))))
        cases h
        exact a_again (by kernel_rfl) hX86
  · have h := ite_t hb2 h
    refine a_cond_t rfl (sr (vl (eA64u8 ((vrep 64 (0 : Int)))) rfl rfl rfl rfl rfl rfl (vs (eA64u8 ((vrep 64 (0 : Int)))) rfl rfl (fun _ => rfl) rfl rfl rfl rfl rfl rfl (vp (.bool false) rfl (nx _ rfl (a_ret (t_ret ?_)))))))
    have hl106 : LdOk [] (eA64u8 ((vrep 64 (0 : Int)))) [] 64 true (eA64u8 ((vrep 64 (0 : Int)))) := (.nil rfl rfl rfl)
    refine ⟨.inr rfl, ?_⟩
    rw [Try.results146]
    cases h
    exact ⟨_, _, _, _, _, ld_own (i := ⟨.arr 64 5, 64, 64, (eA64u8 (vrep 64 (0 : Int)))⟩) rfl rfl rfl hl106, hl106.c, .inl ⟨rfl, .inl rfl⟩, rfl, ⟨_, _, _, _, _, rfl, trivial, .inl ⟨rfl, .inl rfl⟩, rfl, rfl⟩⟩
def spec_PowerSum_c : ACode := (.seq (.region 0 [q 6 (.alloc 25), q 7 (.asg 0 (.const (.int .i64 0)) 2)] false) (.seq (.seq (.region 1 [q 11 (.mov (t 0)), q 12 (.mov (t 1)), q 13 (.mov (t 2)), q 14 (.bslice 0 59 1 [(0, (t 13))]), q 15 (.call 0 (.func 145) [(t 11), (t 12), (t 14)]), q 8 (.asg 0 (t 15) 2)] false) (.seq (.region 2 [q 16 (.mov (t 8)), q 17 (.bin .neq 2 (t 16) (.const (.int .i64 0)))] false) (.cond (t 17) (.seq (.region 3 [q 18 (.build 25 []), q 19 (.mov (t 8)), ⟨none, .store 25 (t 6) (t 18), none, []⟩, q 7 (.asg 0 (t 19) 2)] false) .ret) .skip))) (.seq (.region 4 [q 21 (.mov (t 0)), q 22 (.mov (t 1)), q 23 (.mov (t 2)), q 24 (.call 0 (.func 146) [(t 21), (t 22), (t 23)]), q 20 (.mov (t 24)), q 25 (.extract (t 20) 0), q 26 (.extract (t 20) 1), q 9 (.alloc 25), ⟨none, .store 25 (t 9) (t 25), none, []⟩, q 10 (.asg 0 (t 26) 4)] false) (.seq (.seq (.region 5 [q 27 (.mov (t 10)), q 28 (.un .not (t 27))] false) (.cond (t 28) (.seq (.region 6 [q 29 (.build 25 []), ⟨none, .store 25 (t 6) (t 29), none, []⟩, q 7 (.asg 0 (.const (.int .i64 3)) 2)] false) .ret) .skip)) (.seq (.region 7 [q 30 (.load 25 (t 9)), ⟨none, .store 25 (t 6) (t 30), none, []⟩, q 7 (.asg 0 (.const (.int .i64 0)) 2)] false) .ret)))))
def spec_PowerSum_L : Live := [(0, [0, 1, 2]), (1, [0, 1, 2, 6]), (2, [0, 1, 2, 6, 8]), (3, [6, 8]), (4, [0, 1, 2, 6]), (5, [6, 9, 10]), (6, [6]), (7, [6, 9]), (100017, [0, 1, 2, 6, 8, 17]), (100028, [6, 9, 28])]
noncomputable def spec_PowerSum (a0 : Int) (a1 : Int) (a2 : Int) : Option ((Vec Int 64) × Int) :=
  (Option.bind (spec_l08Code a0 a1 ([a2])) fun r1 => (if (r1 != 0) then (some (((vrep 64 (0 : Int)), r1))) else (Option.bind (spec_l08Sum a0 a1 a2) fun r4 => (if (!r4.2) then (some (((vrep 64 (0 : Int)), 3))) else (some (r4.1, 0))))))
theorem spec_PowerSum_ok (a0 : Int) (a1 : Int) (a2 : Int) (r : ((Vec Int 64) × Int)) (h : spec_PowerSum a0 a1 a2 = some r) : Den Try.prog 49 [(i6 a0), (i6 a1), (i6 a2)] { r := (.tuple [(eA64u8 r.1), (i6 r.2)]) } := by
  refine den_of (rs := [(eA64u8 r.1), (i6 r.2)]) (ac := spec_PowerSum_c) (L := spec_PowerSum_L) (n := 31) (m := []) (c := Try.f49.body.getD .skip) good Try.func49 (by kernel_rfl) (by kernel_rfl) Try.ntmps49 rfl rfl (by kernel_rfl) rfl rfl ?_
  refine a_st (σ' := ⟨[(0, (i6 a0)), (1, (i6 a1)), (2, (i6 a2))], []⟩) (by kernel_rfl) ?_
  unfold spec_PowerSum_c
  refine sr (vo 1600 (eA64u8 ((vrep 64 (0 : Int)))) rfl rfl (vp (i6 0) rfl (nx ⟨[(0, (i6 a0)), (1, (i6 a1)), (2, (i6 a2)), (6, (ow 6))], [(6, (bk (eA64u8 ((vrep 64 (0 : Int))))))]⟩ (by kernel_rfl) (a_seq (sr (vp (i6 a0) rfl (vp (i6 a1) rfl (vp (i6 a2) rfl (vq (.sl 1 true (([a2]).map (AV.int .i64))) rfl ⟨(Nat.le_of_ble_eq_true rfl), (Nat.le_of_ble_eq_true rfl), (all_cons ⟨(Nat.le_of_ble_eq_true rfl), rfl⟩ all_nil)⟩ ?_)))))))))
  obtain ⟨r1, hr2, h⟩ := bind_some h
  refine a_call (args := [(i6 a0), (i6 a1), (.sl 1 true (([a2]).map (AV.int .i64)))]) (u := []) (r := (i6 r1)) rfl rfl (Den.args (spec_l08Code_ok a0 a1 ([a2]) r1 hr2) rfl rfl (.cons (.refl _) (.cons (.refl _) (.cons (.loose _) .nil)))) rfl (vp (i6 r1) rfl (nx ⟨[(0, (i6 a0)), (1, (i6 a1)), (2, (i6 a2)), (6, (ow 6)), (8, (i6 r1))], [(6, (bk (eA64u8 ((vrep 64 (0 : Int))))))]⟩ (by kernel_rfl) (sr (vp (i6 r1) rfl (vp (.bool (r1 != 0)) rfl (nx ⟨[(0, (i6 a0)), (1, (i6 a1)), (2, (i6 a2)), (6, (ow 6)), (8, (i6 r1)), (17, (.bool (r1 != 0)))], [(6, (bk (eA64u8 ((vrep 64 (0 : Int))))))]⟩ (by kernel_rfl) ?_))))))
  cases hb3 : (r1 != 0)
  · have h := ite_f hb3 h
    refine a_cond_f rfl (a_skip (a_next (σ' := ⟨[(0, (i6 a0)), (1, (i6 a1)), (2, (i6 a2)), (6, (ow 6))], [(6, (bk (eA64u8 ((vrep 64 (0 : Int))))))]⟩) (by kernel_rfl) (sr (vp (i6 a0) rfl (vp (i6 a1) rfl (vp (i6 a2) rfl ?_))))))
    obtain ⟨r4, hr5, h⟩ := bind_some h
    refine a_call (args := [(i6 a0), (i6 a1), (i6 a2)]) (u := []) (r := (.tuple [(eA64u8 r4.1), (.bool r4.2)])) rfl rfl (spec_l08Sum_ok a0 a1 a2 r4 hr5) rfl (vp (.tuple [(eA64u8 r4.1), (.bool r4.2)]) rfl (vb (eA64u8 r4.1) rfl rfl (vb (.bool r4.2) rfl rfl (vo 1900 (eA64u8 ((vrep 64 (0 : Int)))) rfl rfl (vs (eA64u8 r4.1) rfl rfl (fun _ => rfl) rfl rfl rfl rfl rfl rfl (vp (.bool r4.2) rfl (nx ⟨[(6, (ow 6)), (9, (ow 9)), (10, (.bool r4.2))], [(6, (bk (eA64u8 ((vrep 64 (0 : Int)))))), (9, (bk (eA64u8 r4.1)))]⟩ (by kernel_rfl) (a_seq (sr ?_)))))))))
    refine vp (.bool r4.2) rfl (vp (.bool (!r4.2)) rfl (nx ⟨[(6, (ow 6)), (9, (ow 9)), (28, (.bool (!r4.2)))], [(6, (bk (eA64u8 ((vrep 64 (0 : Int)))))), (9, (bk (eA64u8 r4.1)))]⟩ (by kernel_rfl) ?_))
    cases hb7 : (!r4.2)
    · have h := ite_f hb7 h
      refine a_cond_f rfl (a_skip (a_next (σ' := ⟨[(6, (ow 6)), (9, (ow 9))], [(6, (bk (eA64u8 ((vrep 64 (0 : Int)))))), (9, (bk (eA64u8 r4.1)))]⟩) (by kernel_rfl) (sr (vl (eA64u8 r4.1) rfl rfl rfl rfl rfl rfl (vs (eA64u8 r4.1) rfl rfl (fun _ => rfl) rfl rfl rfl rfl rfl rfl (vp (i6 0) rfl (nx _ rfl (a_ret ?_))))))))
      have hl10 : LdOk [] (eA64u8 r4.1) [] 64 true (eA64u8 r4.1) := (.nil rfl rfl rfl)
      refine ⟨.inr rfl, ?_⟩
      rw [Try.results49]
      cases h
      exact ⟨_, _, _, _, _, ld_own (i := ⟨.arr 64 5, 64, 64, (eA64u8 (vrep 64 (0 : Int)))⟩) rfl rfl rfl hl10, hl10.c, .inl ⟨rfl, .inl rfl⟩, rfl, ⟨_, _, _, _, _, rfl, trivial, .inl ⟨rfl, .inl rfl⟩, rfl, rfl⟩⟩
    · have h := ite_t hb7 h
      refine a_cond_t rfl (sr (vq (eA64u8 ((vrep 64 (0 : Int)))) rfl ⟨⟨_, rfl, rfl⟩, all_nil⟩ (vs (eA64u8 ((vrep 64 (0 : Int)))) rfl rfl (fun _ => rfl) rfl rfl rfl rfl rfl rfl (vp (i6 3) rfl (nx _ rfl (a_ret (t_ret ?_)))))))
      have hl12 : LdOk [] (eA64u8 ((vrep 64 (0 : Int)))) [] 64 true (eA64u8 ((vrep 64 (0 : Int)))) := (.nil rfl rfl rfl)
      refine ⟨.inr rfl, ?_⟩
      rw [Try.results49]
      cases h
      exact ⟨_, _, _, _, _, ld_own (i := ⟨.arr 64 5, 64, 64, (eA64u8 (vrep 64 (0 : Int)))⟩) rfl rfl rfl hl12, hl12.c, .inl ⟨rfl, .inl rfl⟩, rfl, ⟨_, _, _, _, _, rfl, trivial, .inl ⟨rfl, .inl rfl⟩, rfl, rfl⟩⟩
  · have h := ite_t hb3 h
    refine a_cond_t rfl (sr (vq (eA64u8 ((vrep 64 (0 : Int)))) rfl ⟨⟨_, rfl, rfl⟩, all_nil⟩ (vp (i6 r1) rfl (vs (eA64u8 ((vrep 64 (0 : Int)))) rfl rfl (fun _ => rfl) rfl rfl rfl rfl rfl rfl (vp (i6 r1) rfl (nx _ rfl (a_ret (t_ret ?_))))))))
    have hl14 : LdOk [] (eA64u8 ((vrep 64 (0 : Int)))) [] 64 true (eA64u8 ((vrep 64 (0 : Int)))) := (.nil rfl rfl rfl)
    refine ⟨.inr rfl, ?_⟩
    rw [Try.results49]
    cases h
    exact ⟨_, _, _, _, _, ld_own (i := ⟨.arr 64 5, 64, 64, (eA64u8 (vrep 64 (0 : Int)))⟩) rfl rfl rfl hl14, hl14.c, .inl ⟨rfl, .inl rfl⟩, rfl, ⟨_, _, _, _, _, rfl, trivial, .inl ⟨rfl, .inl rfl⟩, rfl, rfl⟩⟩
def spec_DrawDigitSum_c : ACode := (.seq (.region 0 [q 2 (.asg 0 (.const (.int .i64 0)) 2), q 3 (.asg 0 (.const (.int .i64 0)) 2)] false) (.seq (.region 1 [q 7 (.mov (t 0)), q 8 (.call 0 (.func 116) [(t 7)]), q 4 (.asg 0 (t 8) 96)] false) (.seq (.region 2 [q 10 (.mov (t 4)), q 11 (.call 1 (.func 141) [(t 10)]), q 9 (.mov (t 11)), q 12 (.extract (t 9) 0), q 13 (.extract (t 9) 1), q 5 (.asg 0 (t 12) 2), q 6 (.asg 0 (t 13) 2)] false) (.seq (.region 3 [q 14 (.mov (t 5)), q 15 (.mov (t 4)), q 16 (.mov (t 4)), q 17 (.call 1 (.func 123) [(t 16), (.const (.int .i64 100))]), q 18 (.mov (t 4)), q 19 (.call 1 (.func 123) [(t 18), (.const (.int .i64 1000000))]), q 20 (.mov (t 4)), q 21 (.call 1 (.func 132) [(t 20), (.const (.int .i64 1000000000000))]), q 22 (.bslice 0 59 3 [(0, (t 17)), (1, (t 19)), (2, (t 21))]), q 23 (.call 1 (.func 122) [(t 15), (t 22)]), q 2 (.asg 0 (t 14) 2), q 3 (.asg 0 (t 23) 2)] false) .ret))))
def spec_DrawDigitSum_L : Live := [(0, [0]), (1, [0]), (2, [4]), (3, [4, 5])]
noncomputable def spec_DrawDigitSum (a0 : (List Int)) : Option (Int × Int) :=
  (Option.bind (spec_l01From a0) fun r1 => (Option.bind (spec_l08Draw_of_src r1) fun r3 => (Option.bind (spec_l01Next_of_src r3.2.2 100) fun r6 => (Option.bind (spec_l01Next_of_src r6.2 1000000) fun r9 => (Option.bind (spec_l01Near_of_src r9.2 1000000000000) fun r12 => (Option.bind (spec_l01Pick_of_src r12.2 ([r6.1, r9.1, r12.1])) fun r15 => (some (r3.1, r15.1))))))))
theorem spec_DrawDigitSum_ok (a0 : (List Int)) (r : (Int × Int)) (h : spec_DrawDigitSum a0 = some r) : Den Try.prog 50 [(eSu8 a0)] { r := (.tuple [(i6 r.1), (i6 r.2)]) } := by
  refine den_of (rs := [(i6 r.1), (i6 r.2)]) (ac := spec_DrawDigitSum_c) (L := spec_DrawDigitSum_L) (n := 24) (m := [(11, 1), (17, 1), (19, 1), (21, 1), (23, 1)]) (c := Try.f50.body.getD .skip) good Try.func50 (by kernel_rfl) (by kernel_rfl) Try.ntmps50 rfl rfl (by kernel_rfl) rfl rfl ?_
  refine a_st (σ' := ⟨[(0, (eSu8 a0))], []⟩) (by kernel_rfl) ?_
  unfold spec_DrawDigitSum_c
  refine sr (vp (i6 0) rfl (vp (i6 0) rfl (nx ⟨[(0, (eSu8 a0))], []⟩ (by kernel_rfl) (sr (vp (eSu8 a0) rfl ?_)))))
  obtain ⟨r1, hr2, h⟩ := bind_some h
  refine a_callF (args := [(eSu8 a0)]) (u := []) (u2 := []) (r := (ow 2000000)) (fs := [(0, [eT_Su8_i64_u64_Z r1])]) rfl rfl (spec_l01From_ok a0 r1 hr2) rfl rfl rfl (.inl rfl) rfl (vp (ow 1800) rfl (nx ⟨[(4, (ow 4))], [(4, (bk (eT_Su8_i64_u64_Z r1)))]⟩ (by kernel_rfl) (sr (vp (ow 4) rfl ?_))))
  obtain ⟨r3, hr4, h⟩ := bind_some h
  refine a_callM (args := [(.mutp (eT_Su8_i64_u64_Z r1))]) (i := 0) (id := 4) (r := (.tuple [(i6 r3.1), (i6 r3.2.1)])) (c := (eT_Su8_i64_u64_Z r3.2.2)) rfl rfl (spec_l08Draw_of_src_ok r1 r3 hr4) rfl trivial (vp (.tuple [(i6 r3.1), (i6 r3.2.1)]) rfl (vb (i6 r3.1) rfl rfl (vb (i6 r3.2.1) rfl rfl (vp (i6 r3.1) rfl (vp (i6 r3.2.1) rfl (nx ⟨[(4, (ow 4)), (5, (i6 r3.1))], [(4, (bk (eT_Su8_i64_u64_Z r3.2.2)))]⟩ (by kernel_rfl) (sr (vp (i6 r3.1) rfl (vp (ow 4) rfl ?_)))))))))
  refine vp (ow 4) rfl ?_
  obtain ⟨r6, hr7, h⟩ := bind_some h
  refine a_callM (args := [(.mutp (eT_Su8_i64_u64_Z r3.2.2)), (i6 100)]) (i := 0) (id := 4) (r := (i6 r6.1)) (c := (eT_Su8_i64_u64_Z r6.2)) rfl rfl (spec_l01Next_of_src_ok r3.2.2 100 r6 hr7) rfl trivial (vp (ow 4) rfl ?_)
  obtain ⟨r9, hr10, h⟩ := bind_some h
  refine a_callM (args := [(.mutp (eT_Su8_i64_u64_Z r6.2)), (i6 1000000)]) (i := 0) (id := 4) (r := (i6 r9.1)) (c := (eT_Su8_i64_u64_Z r9.2)) rfl rfl (spec_l01Next_of_src_ok r6.2 1000000 r9 hr10) rfl trivial (vp (ow 4) rfl ?_)
  obtain ⟨r12, hr13, h⟩ := bind_some h
  refine a_callM (args := [(.mutp (eT_Su8_i64_u64_Z r9.2)), (i6 1000000000000)]) (i := 0) (id := 4) (r := (i6 r12.1)) (c := (eT_Su8_i64_u64_Z r12.2)) rfl rfl (spec_l01Near_of_src_ok r9.2 1000000000000 r12 hr13) rfl trivial (vq (.sl 1 true (([r6.1, r9.1, r12.1]).map (AV.int .i64))) rfl ⟨(Nat.le_of_ble_eq_true rfl), (Nat.le_of_ble_eq_true rfl), (all_cons ⟨(Nat.le_of_ble_eq_true rfl), rfl⟩ (all_cons ⟨(Nat.le_of_ble_eq_true rfl), rfl⟩ (all_cons ⟨(Nat.le_of_ble_eq_true rfl), rfl⟩ all_nil)))⟩ ?_)
  obtain ⟨r15, hr16, h⟩ := bind_some h
  refine a_callM (args := [(.mutp (eT_Su8_i64_u64_Z r12.2)), (.sl 1 true (([r6.1, r9.1, r12.1]).map (AV.int .i64)))]) (i := 0) (id := 4) (r := (i6 r15.1)) (c := (eT_Su8_i64_u64_Z r15.2)) rfl rfl (Den.argsM (spec_l01Pick_of_src_ok r12.2 ([r6.1, r9.1, r12.1]) r15 hr16) rfl rfl (.cons (.loose _) .nil)) rfl trivial (vp (i6 r3.1) rfl (vp (i6 r15.1) rfl (nx _ rfl (a_ret ?_))))
  refine ⟨.inr rfl, ?_⟩
  rw [Try.results50]
  cases h
  exact ⟨_, _, _, _, _, rfl, trivial, .inl ⟨rfl, .inl rfl⟩, rfl, ⟨_, _, _, _, _, rfl, trivial, .inl ⟨rfl, .inl rfl⟩, rfl, rfl⟩⟩
def impl_numberCode_c : ACode := (.seq (.region 0 [q 8 (.asg 0 (.const (.int .i64 0)) 2)] false) (.seq (.block 0 (.seq (.region 1 [q 10 (.mov (t 0)), q 11 (.call 0 (.func 106) [(t 10)]), q 12 (.un .not (t 11)), q 9 (.asg 0 (t 12) 4)] false) (.cond (t 9) (.seq (.region 2 [q 8 (.asg 0 (.const (.int .i64 1)) 2)] false) .ret) (.seq (.region 3 [q 14 (.mov (t 1)), q 15 (.mov (t 2)), q 16 (.mov (t 3)), q 17 (.call 0 (.func 139) [(t 14), (t 15), (t 16)]), q 18 (.un .not (t 17)), q 13 (.asg 0 (t 18) 4)] false) (.cond (t 13) (.seq (.region 4 [q 8 (.asg 0 (.const (.int .i64 2)) 2)] false) .ret) .skip))))) (.seq (.region 5 [q 8 (.asg 0 (.const (.int .i64 0)) 2)] false) .ret)))
def impl_numberCode_L : Live := [(0, [0, 1, 2, 3]), (1, [0, 1, 2, 3]), (2, []), (3, [1, 2, 3]), (4, []), (5, []), (100009, [1, 2, 3, 9]), (100013, [13])]
noncomputable def impl_numberCode (a0 : Int) (a1 : Int) (a2 : Int) (a3 : Int) : Option Int :=
  (Option.bind (impl_isPrime a0) fun r1 => (if (!r1) then (some 1) else (Option.bind (impl_within a1 a2 a3) fun r4 => (if (!r4) then (some 2) else (some 0)))))
theorem impl_numberCode_ok (a0 : Int) (a1 : Int) (a2 : Int) (a3 : Int) (r : Int) (h : impl_numberCode a0 a1 a2 a3 = some r) : Den Try.prog 124 [(i6 a0), (i6 a1), (i6 a2), (i6 a3)] { r := (i6 r) } := by
  refine den_of (rs := [(i6 r)]) (ac := impl_numberCode_c) (L := impl_numberCode_L) (n := 19) (m := []) (c := Try.f124.body.getD .skip) good Try.func124 (by kernel_rfl) (by kernel_rfl) Try.ntmps124 rfl rfl (by kernel_rfl) rfl rfl ?_
  refine a_st (σ' := ⟨[(0, (i6 a0)), (1, (i6 a1)), (2, (i6 a2)), (3, (i6 a3))], []⟩) (by kernel_rfl) ?_
  unfold impl_numberCode_c
  refine sr (vp (i6 0) rfl (nx ⟨[(0, (i6 a0)), (1, (i6 a1)), (2, (i6 a2)), (3, (i6 a3))], []⟩ (by kernel_rfl) (a_seq (a_block (sr (vp (i6 a0) rfl ?_))))))
  obtain ⟨r1, hr2, h⟩ := bind_some h
  refine a_call (args := [(i6 a0)]) (u := []) (r := (.bool r1)) rfl rfl (impl_isPrime_ok a0 r1 hr2) rfl (vp (.bool (!r1)) rfl (vp (.bool (!r1)) rfl (nx ⟨[(1, (i6 a1)), (2, (i6 a2)), (3, (i6 a3)), (9, (.bool (!r1)))], []⟩ (by kernel_rfl) ?_)))
  cases hb3 : (!r1)
  · have h := ite_f hb3 h
    refine a_cond_f rfl (sr (vp (i6 a1) rfl (vp (i6 a2) rfl (vp (i6 a3) rfl ?_))))
    obtain ⟨r4, hr5, h⟩ := bind_some h
    refine a_call (args := [(i6 a1), (i6 a2), (i6 a3)]) (u := []) (r := (.bool r4)) rfl rfl (impl_within_ok a1 a2 a3 r4 hr5) rfl (vp (.bool (!r4)) rfl (vp (.bool (!r4)) rfl (nx ⟨[(13, (.bool (!r4)))], []⟩ (by kernel_rfl) ?_)))
    cases hb6 : (!r4)
    · have h := ite_f hb6 h
      refine a_cond_f rfl (a_skip (b_norm (a_next (σ' := ⟨[], []⟩) (by kernel_rfl) (sr (vp (i6 0) rfl (nx _ rfl (a_ret ?_)))))))
      refine ⟨.inr rfl, ?_⟩
      rw [Try.results124]
      cases h
      exact ⟨_, _, _, _, _, rfl, trivial, .inl ⟨rfl, .inl rfl⟩, rfl, rfl⟩
    · have h := ite_t hb6 h
      refine a_cond_t rfl (sr (vp (i6 2) rfl (nx _ rfl (a_ret (b_ret (t_ret ?_))))))
      refine ⟨.inr rfl, ?_⟩
      rw [Try.results124]
      cases h
      exact ⟨_, _, _, _, _, rfl, trivial, .inl ⟨rfl, .inl rfl⟩, rfl, rfl⟩
  · have h := ite_t hb3 h
    refine a_cond_t rfl (sr (vp (i6 1) rfl (nx _ rfl (a_ret (b_ret (t_ret ?_))))))
    refine ⟨.inr rfl, ?_⟩
    rw [Try.results124]
    cases h
    exact ⟨_, _, _, _, _, rfl, trivial, .inl ⟨rfl, .inl rfl⟩, rfl, rfl⟩
def impl_DigitSum_c : ACode := (.seq (.region 0 [q 4 (.asg 0 (.const (.int .i64 0)) 2), q 5 (.asg 0 (.const (.int .i64 0)) 2)] false) (.seq (.seq (.region 1 [q 10 (.mov (t 0)), q 11 (.mov (t 1)), q 12 (.call 0 (.func 124) [(t 10), (t 11), (.const (.int .i64 0)), (.const (.int .i64 1000000000000))]), q 6 (.asg 0 (t 12) 2)] false) (.seq (.region 2 [q 13 (.mov (t 6)), q 14 (.bin .neq 2 (t 13) (.const (.int .i64 0)))] false) (.cond (t 14) (.seq (.region 3 [q 15 (.mov (t 6)), q 4 (.asg 0 (.const (.int .i64 0)) 2), q 5 (.asg 0 (t 15) 2)] false) .ret) .skip))) (.seq (.region 4 [q 7 (.asg 0 (.const (.int .i64 0)) 2)] false) (.seq (.seq (.region 5 [q 16 (.mov (t 0)), q 17 (.mov (t 1)), q 18 (.call 0 (.func 119) [(t 16), (t 17)]), q 19 (.blt 0 .len [(t 18)] [80]), q 20 (.mov (.const (.int .i64 0)))] false) (.block 0 (.loop (.seq (.region 6 [q 21 (.bin .lss 3 (t 20) (t 19))] false) (.seq (.cond (t 21) .skip (.exit 0)) (.seq (.block 1 (.seq (.region 7 [q 22 (.indexAddr 80 (t 18) (t 20)), q 23 (.load 2 (t 22)), q 9 (.asg 0 (t 23) 2)] false) (.region 8 [q 24 (.mov (t 7)), q 25 (.mov (t 9)), q 26 (.bin .add 2 (t 24) (t 25)), q 7 (.asg 0 (t 26) 2)] false))) (.region 9 [q 27 (.bin .add 3 (t 20) (.const (.int .i64 1))), q 20 (.mov (t 27))] false))))))) (.seq (.region 10 [q 28 (.mov (t 7)), q 4 (.asg 0 (t 28) 2), q 5 (.asg 0 (.const (.int .i64 0)) 2)] false) .ret)))))
def impl_DigitSum_L : Live := [(0, [0, 1]), (1, [0, 1]), (2, [0, 1, 6]), (3, [6]), (4, [0, 1]), (5, [0, 1, 7]), (6, [7, 18, 19, 20]), (7, [7, 18, 19, 20]), (8, [7, 9, 18, 19, 20]), (9, [7, 18, 19, 20]), (10, [7]), (100014, [0, 1, 6, 14]), (100021, [7, 18, 19, 20, 21])]
noncomputable def impl_DigitSum_l1 (r25 : (List Int)) (x30 : Int) (x31 : Int) : Option ((Int × Int) ⊕ Int) :=
  (if (decide (x31 < (r25.length : Int))) then (ifp (0 ≤ x31 ∧ x31 < ((r25.length : Nat) : Int)) ((some (.inl ((IntKind.i64.wrap (x30 + (rd r25 x31.toNat)), IntKind.i64.wrap (x31 + 1))))))) else (some (.inr x30)))
noncomputable def impl_DigitSum (a0 : Int) (a1 : Int) : Option (Int × Int) :=
  (Option.bind (impl_numberCode a0 a1 0 1000000000000) fun r1 => (if (r1 != 0) then (some (0, r1)) else (Option.bind (α := Int) ((Option.bind (impl_prime_numbered a0 a1) fun r25 => (loopM (fun s : (Int × Int) => impl_DigitSum_l1 r25 s.1 s.2) (0, 0)))) fun x21 => (some (x21, 0)))))
theorem impl_DigitSum_ok (a0 : Int) (a1 : Int) (r : (Int × Int)) (h : impl_DigitSum a0 a1 = some r) : Den Try.prog 51 [(i6 a0), (i6 a1)] { r := (.tuple [(i6 r.1), (i6 r.2)]) } := by
  refine den_of (rs := [(i6 r.1), (i6 r.2)]) (ac := impl_DigitSum_c) (L := impl_DigitSum_L) (n := 29) (m := []) (c := Try.f51.body.getD .skip) good Try.func51 (by kernel_rfl) (by kernel_rfl) Try.ntmps51 rfl rfl (by kernel_rfl) rfl rfl ?_
  refine a_st (σ' := ⟨[(0, (i6 a0)), (1, (i6 a1))], []⟩) (by kernel_rfl) ?_
  unfold impl_DigitSum_c
  refine sr (vp (i6 0) rfl (vp (i6 0) rfl (nx ⟨[(0, (i6 a0)), (1, (i6 a1))], []⟩ (by kernel_rfl) (a_seq (sr (vp (i6 a0) rfl (vp (i6 a1) rfl ?_)))))))
  obtain ⟨r1, hr2, h⟩ := bind_some h
  refine a_call (args := [(i6 a0), (i6 a1), (i6 0), (i6 1000000000000)]) (u := []) (r := (i6 r1)) rfl rfl (impl_numberCode_ok a0 a1 0 1000000000000 r1 hr2) rfl (vp (i6 r1) rfl (nx ⟨[(0, (i6 a0)), (1, (i6 a1)), (6, (i6 r1))], []⟩ (by kernel_rfl) (sr (vp (i6 r1) rfl (vp (.bool (r1 != 0)) rfl (nx ⟨[(0, (i6 a0)), (1, (i6 a1)), (6, (i6 r1)), (14, (.bool (r1 != 0)))], []⟩ (by kernel_rfl) ?_))))))
  cases hb3 : (r1 != 0)
  · have h := ite_f hb3 h
    refine a_cond_f rfl (a_skip (a_next (σ' := ⟨[(0, (i6 a0)), (1, (i6 a1))], []⟩) (by kernel_rfl) (sr (vp (i6 0) rfl (nx ⟨[(0, (i6 a0)), (1, (i6 a1)), (7, (i6 0))], []⟩ (by kernel_rfl) ?_)))))
    obtain ⟨y22, hy23, hk24⟩ := bind_some h
    clear h
    refine a_join (emb := fun (s : Int) => ⟨[(7, (i6 s))], []⟩) (pre := fun s => s = y22) ?_ ?_
    · rintro x21 rfl
      have h := hk24
      refine a_st (σ' := ⟨[(7, (i6 x21))], []⟩) (by kernel_rfl) (sr (vp (i6 x21) rfl (vp (i6 x21) rfl (vp (i6 0) rfl (nx _ rfl (a_ret ?_))))))
      refine ⟨.inr rfl, ?_⟩
      rw [Try.results51]
      cases h
      exact ⟨_, _, _, _, _, rfl, trivial, .inl ⟨rfl, .inl rfl⟩, rfl, ⟨_, _, _, _, _, rfl, trivial, .inl ⟨rfl, .inl rfl⟩, rfl, rfl⟩⟩
    · have h := hy23
      refine sr (vp (i6 a0) rfl (vp (i6 a1) rfl ?_))
      obtain ⟨r25, hr26, h⟩ := bind_some h
      refine a_call (args := [(i6 a0), (i6 a1)]) (u := []) (r := (eSi64 r25)) rfl rfl (impl_prime_numbered_ok a0 a1 r25 hr26) rfl (vq (i6 (r25.length : Int)) (len_run rfl rfl) trivial (vp (i6 0) rfl (nx ⟨[(7, (i6 0)), (18, (eSi64 r25)), (19, (i6 (r25.length : Int))), (20, (i6 0))], []⟩ (by kernel_rfl) (a_block ?_))))
      refine a_loop (emb := fun (s : (Int × Int)) => ⟨[(7, (i6 s.1)), (18, (eSi64 r25)), (19, (i6 (r25.length : Int))), (20, (i6 s.2))], []⟩) (body := (fun s : (Int × Int) => impl_DigitSum_l1 r25 s.1 s.2)) (G := fun q => some q = some y22) h rfl ?_ (by kernel_rfl)
      rintro X35 ⟨x30, x31⟩ x36 h hX37
      have h : impl_DigitSum_l1 r25 x30 x31 = some x36 := h
      refine a_st (σ' := ⟨[(7, (i6 x30)), (18, (eSi64 r25)), (19, (i6 (r25.length : Int))), (20, (i6 x31))], []⟩) (by kernel_rfl) (sr (vp (.bool ((decide (x31 < (r25.length : Int))))) rfl (nx ⟨[(7, (i6 x30)), (18, (eSi64 r25)), (19, (i6 (r25.length : Int))), (20, (i6 x31)), (21, (.bool ((decide (x31 < (r25.length : Int))))))], []⟩ (by kernel_rfl) (a_seq ?_))))
      cases hb38 : (decide (x31 < (r25.length : Int)))
      · have h := ite_f hb38 h
        refine a_cond_f rfl (a_exit (t_exit ?_))
        cases h
        have h := hX37
        refine t_exit (b_exit ?_)
        exact j_leaf x30 (Option.some.inj h) (by kernel_rfl)
      · have h := ite_t hb38 h
        refine a_cond_t rfl (a_skip (a_next (σ' := ⟨[(7, (i6 x30)), (18, (eSi64 r25)), (19, (i6 (r25.length : Int))), (20, (i6 x31))], []⟩) (by kernel_rfl) (a_seq (a_block (sr ?_)))))
        obtain ⟨hc39, h⟩ := ifp_some h
        refine vq (.ref (.row 1 (r25.map (AV.int .i64))) [x31.toNat] [x31.toNat * 1]) rfl (lmap hc39) ?_
        have hl40 : LdOk [x31.toNat] (.row 1 (r25.map (AV.int .i64))) [x31.toNat * 1] 1 false (i6 (rd r25 x31.toNat)) := (.row (llt hc39) rfl (.nil rfl rfl rfl))
        refine vq (i6 (rd r25 x31.toNat)) (ld_ref (i := ⟨.int .i64, 1, 8, (.int .i64 0)⟩) rfl rfl hl40) hl40.c (vp (i6 (rd r25 x31.toNat)) rfl (nx ⟨[(7, (i6 x30)), (9, (i6 (rd r25 x31.toNat))), (18, (eSi64 r25)), (19, (i6 (r25.length : Int))), (20, (i6 x31))], []⟩ (by kernel_rfl) (a_region (vp (i6 x30) rfl (vp (i6 (rd r25 x31.toNat)) rfl (vp (i6 (IntKind.i64.wrap (x30 + (rd r25 x31.toNat)))) rfl (vp (i6 (IntKind.i64.wrap (x30 + (rd r25 x31.toNat)))) rfl (a_nil (b_norm ?_)))))))))
        refine a_next (σ' := ⟨[(7, (i6 (IntKind.i64.wrap (x30 + (rd r25 x31.toNat))))), (18, (eSi64 r25)), (19, (i6 (r25.length : Int))), (20, (i6 x31))], []⟩) (by kernel_rfl) (a_region (vp (i6 (IntKind.i64.wrap (x31 + 1))) rfl (vp (i6 (IntKind.i64.wrap (x31 + 1))) rfl (a_nil ?_))))
        cases h
        exact a_again (by kernel_rfl) hX37
  · have h := ite_t hb3 h
    refine a_cond_t rfl (sr (vp (i6 r1) rfl (vp (i6 0) rfl (vp (i6 r1) rfl (nx _ rfl (a_ret (t_ret ?_)))))))
    refine ⟨.inr rfl, ?_⟩
    rw [Try.results51]
    cases h
    exact ⟨_, _, _, _, _, rfl, trivial, .inl ⟨rfl, .inl rfl⟩, rfl, ⟨_, _, _, _, _, rfl, trivial, .inl ⟨rfl, .inl rfl⟩, rfl, rfl⟩⟩
def spec_l04Range_c : ACode := (.seq (.region 0 [q 8 (.asg 0 (.const (.int .i64 0)) 2)] false) (.seq (.block 0 (.seq (.region 1 [q 10 (.mov (t 0)), q 11 (.call 0 (.func 168) [(t 10)]), q 12 (.un .not (t 11)), q 9 (.asg 0 (t 12) 4)] false) (.cond (t 9) (.seq (.region 2 [q 8 (.asg 0 (.const (.int .i64 1)) 2)] false) .ret) (.seq (.region 3 [q 14 (.mov (t 1)), q 15 (.mov (t 2)), q 16 (.mov (t 3)), q 17 (.call 0 (.func 160) [(t 14), (t 15), (t 16)]), q 18 (.un .not (t 17)), q 13 (.asg 0 (t 18) 4)] false) (.cond (t 13) (.seq (.region 4 [q 8 (.asg 0 (.const (.int .i64 2)) 2)] false) .ret) .skip))))) (.seq (.region 5 [q 8 (.asg 0 (.const (.int .i64 0)) 2)] false) .ret)))
def spec_l04Range_L : Live := [(0, [0, 1, 2, 3]), (1, [0, 1, 2, 3]), (2, []), (3, [1, 2, 3]), (4, []), (5, []), (100009, [1, 2, 3, 9]), (100013, [13])]
noncomputable def spec_l04Range (a0 : Int) (a1 : Int) (a2 : Int) (a3 : Int) : Option Int :=
  (Option.bind (spec_l01Prime a0) fun r1 => (if (!r1) then (some 1) else (Option.bind (spec_l01In a1 a2 a3) fun r4 => (if (!r4) then (some 2) else (some 0)))))
theorem spec_l04Range_ok (a0 : Int) (a1 : Int) (a2 : Int) (a3 : Int) (r : Int) (h : spec_l04Range a0 a1 a2 a3 = some r) : Den Try.prog 126 [(i6 a0), (i6 a1), (i6 a2), (i6 a3)] { r := (i6 r) } := by
  refine den_of (rs := [(i6 r)]) (ac := spec_l04Range_c) (L := spec_l04Range_L) (n := 19) (m := []) (c := Try.f126.body.getD .skip) good Try.func126 (by kernel_rfl) (by kernel_rfl) Try.ntmps126 rfl rfl (by kernel_rfl) rfl rfl ?_
  refine a_st (σ' := ⟨[(0, (i6 a0)), (1, (i6 a1)), (2, (i6 a2)), (3, (i6 a3))], []⟩) (by kernel_rfl) ?_
  unfold spec_l04Range_c
  refine sr (vp (i6 0) rfl (nx ⟨[(0, (i6 a0)), (1, (i6 a1)), (2, (i6 a2)), (3, (i6 a3))], []⟩ (by kernel_rfl) (a_seq (a_block (sr (vp (i6 a0) rfl ?_))))))
  obtain ⟨r1, hr2, h⟩ := bind_some h
  refine a_call (args := [(i6 a0)]) (u := []) (r := (.bool r1)) rfl rfl (spec_l01Prime_ok a0 r1 hr2) rfl (vp (.bool (!r1)) rfl (vp (.bool (!r1)) rfl (nx ⟨[(1, (i6 a1)), (2, (i6 a2)), (3, (i6 a3)), (9, (.bool (!r1)))], []⟩ (by kernel_rfl) ?_)))
  cases hb3 : (!r1)
  · have h := ite_f hb3 h
    refine a_cond_f rfl (sr (vp (i6 a1) rfl (vp (i6 a2) rfl (vp (i6 a3) rfl ?_))))
    obtain ⟨r4, hr5, h⟩ := bind_some h
    refine a_call (args := [(i6 a1), (i6 a2), (i6 a3)]) (u := []) (r := (.bool r4)) rfl rfl (spec_l01In_ok a1 a2 a3 r4 hr5) rfl (vp (.bool (!r4)) rfl (vp (.bool (!r4)) rfl (nx ⟨[(13, (.bool (!r4)))], []⟩ (by kernel_rfl) ?_)))
    cases hb6 : (!r4)
    · have h := ite_f hb6 h
      refine a_cond_f rfl (a_skip (b_norm (a_next (σ' := ⟨[], []⟩) (by kernel_rfl) (sr (vp (i6 0) rfl (nx _ rfl (a_ret ?_)))))))
      refine ⟨.inr rfl, ?_⟩
      rw [Try.results126]
      cases h
      exact ⟨_, _, _, _, _, rfl, trivial, .inl ⟨rfl, .inl rfl⟩, rfl, rfl⟩
    · have h := ite_t hb6 h
      refine a_cond_t rfl (sr (vp (i6 2) rfl (nx _ rfl (a_ret (b_ret (t_ret ?_))))))
      refine ⟨.inr rfl, ?_⟩
      rw [Try.results126]
      cases h
      exact ⟨_, _, _, _, _, rfl, trivial, .inl ⟨rfl, .inl rfl⟩, rfl, rfl⟩
  · have h := ite_t hb3 h
    refine a_cond_t rfl (sr (vp (i6 1) rfl (nx _ rfl (a_ret (b_ret (t_ret ?_))))))
    refine ⟨.inr rfl, ?_⟩
    rw [Try.results126]
    cases h
    exact ⟨_, _, _, _, _, rfl, trivial, .inl ⟨rfl, .inl rfl⟩, rfl, rfl⟩
def spec_l08Digits_c : ACode := (.seq (.region 0 [q 4 (.asg 0 (.const (.int .i64 0)) 2)] false) (.seq (.region 1 [q 5 (.asg 0 (.const (.int .i64 0)) 2)] false) (.seq (.block 0 (.loop (.seq (.seq (.region 2 [q 6 (.mov (t 1)), q 7 (.bin .gtr 2 (t 6) (.const (.int .i64 0)))] false) (.cond (t 7) .skip (.exit 0))) (.seq (.block 1 (.region 4 [q 11 (.mov (t 5)), q 12 (.mov (t 1)), q 13 (.mov (t 0)), q 14 (.bin .rem 2 (t 12) (t 13)), q 15 (.bin .add 2 (t 11) (t 14)), q 5 (.asg 0 (t 15) 2)] false)) (.region 3 [q 8 (.mov (t 1)), q 9 (.mov (t 0)), q 10 (.bin .quo 2 (t 8) (t 9)), q 1 (.asg 0 (t 10) 2)] false))))) (.seq (.region 5 [q 16 (.mov (t 5)), q 4 (.asg 0 (t 16) 2)] false) .ret))))
def spec_l08Digits_L : Live := [(0, [0, 1]), (1, [0, 1]), (2, [0, 1, 5]), (3, [0, 1, 5]), (4, [0, 1, 5]), (5, [5]), (100007, [0, 1, 5, 7])]
noncomputable def spec_l08Digits_l1 (a0 : Int) (x23 : Int) (x24 : Int) : Option ((Int × Int) ⊕ Int) :=
  (if (decide (x23 > 0)) then (ifp (a0 ≠ 0) ((ifp (a0 ≠ 0) ((some (.inl ((IntKind.i64.wrap (Int.tdiv x23 a0), IntKind.i64.wrap (x24 + (Int.tmod x23 a0)))))))))) else (some (.inr x24)))
noncomputable def spec_l08Digits (a0 : Int) (a1 : Int) : Option Int :=
  (Option.bind (α := Int) ((loopM (fun s : (Int × Int) => spec_l08Digits_l1 a0 s.1 s.2) (a1, 0))) fun x16 => (some x16))
theorem spec_l08Digits_ok (a0 : Int) (a1 : Int) (r : Int) (h : spec_l08Digits a0 a1 = some r) : Den Try.prog 147 [(i6 a0), (i6 a1)] { r := (i6 r) } := by
  refine den_of (rs := [(i6 r)]) (ac := spec_l08Digits_c) (L := spec_l08Digits_L) (n := 17) (m := []) (c := Try.f147.body.getD .skip) good Try.func147 (by kernel_rfl) (by kernel_rfl) Try.ntmps147 rfl rfl (by kernel_rfl) rfl rfl ?_
  refine a_st (σ' := ⟨[(0, (i6 a0)), (1, (i6 a1))], []⟩) (by kernel_rfl) ?_
  unfold spec_l08Digits_c
  refine sr (vp (i6 0) rfl (nx ⟨[(0, (i6 a0)), (1, (i6 a1))], []⟩ (by kernel_rfl) (sr (vp (i6 0) rfl (nx ⟨[(0, (i6 a0)), (1, (i6 a1)), (5, (i6 0))], []⟩ (by kernel_rfl) ?_)))))
  obtain ⟨y17, hy18, hk19⟩ := bind_some h
  clear h
  refine a_join (emb := fun (s : Int) => ⟨[(5, (i6 s))], []⟩) (pre := fun s => s = y17) ?_ ?_
  · rintro x16 rfl
    have h := hk19
    refine a_st (σ' := ⟨[(5, (i6 x16))], []⟩) (by kernel_rfl) (sr (vp (i6 x16) rfl (vp (i6 x16) rfl (nx _ rfl (a_ret ?_)))))
    refine ⟨.inr rfl, ?_⟩
    rw [Try.results147]
    cases h
    exact ⟨_, _, _, _, _, rfl, trivial, .inl ⟨rfl, .inl rfl⟩, rfl, rfl⟩
  · have h := hy18
    refine a_block ?_
    refine a_loop (emb := fun (s : (Int × Int)) => ⟨[(0, (i6 a0)), (1, (i6 s.1)), (5, (i6 s.2))], []⟩) (body := (fun s : (Int × Int) => spec_l08Digits_l1 a0 s.1 s.2)) (G := fun q => some q = some y17) h rfl ?_ (by kernel_rfl)
    rintro X28 ⟨x23, x24⟩ x29 h hX30
    have h : spec_l08Digits_l1 a0 x23 x24 = some x29 := h
    refine a_st (σ' := ⟨[(0, (i6 a0)), (1, (i6 x23)), (5, (i6 x24))], []⟩) (by kernel_rfl) (a_seq (sr (vp (i6 x23) rfl (vp (.bool ((decide (x23 > 0)))) rfl (nx ⟨[(0, (i6 a0)), (1, (i6 x23)), (5, (i6 x24)), (7, (.bool ((decide (x23 > 0)))))], []⟩ (by kernel_rfl) ?_)))))
    cases hb31 : (decide (x23 > 0))
    · have h := ite_f hb31 h
      refine a_cond_f rfl (a_exit (t_exit ?_))
      cases h
      have h := hX30
      refine t_exit (b_exit ?_)
      exact j_leaf x24 (Option.some.inj h) (by kernel_rfl)
    · have h := ite_t hb31 h
      refine a_cond_t rfl (a_skip (a_next (σ' := ⟨[(0, (i6 a0)), (1, (i6 x23)), (5, (i6 x24))], []⟩) (by kernel_rfl) (a_seq (a_block (a_region (vp (i6 x24) rfl (vp (i6 x23) rfl (vp (i6 a0) rfl ?_))))))))
      obtain ⟨hc32, h⟩ := ifp_some h
      refine vq (i6 (Int.tmod x23 a0)) rfl hc32 (vp (i6 (IntKind.i64.wrap (x24 + (Int.tmod x23 a0)))) rfl (vp (i6 (IntKind.i64.wrap (x24 + (Int.tmod x23 a0)))) rfl (a_nil (b_norm (a_next (σ' := ⟨[(0, (i6 a0)), (1, (i6 x23)), (5, (i6 (IntKind.i64.wrap (x24 + (Int.tmod x23 a0)))))], []⟩) (by kernel_rfl) (a_region (vp (i6 x23) rfl (vp (i6 a0) rfl ?_))))))))
      obtain ⟨hc33, h⟩ := ifp_some h
      refine vq (i6 (IntKind.i64.wrap (Int.tdiv x23 a0))) rfl hc33 (vp (i6 (IntKind.i64.wrap (Int.tdiv x23 a0))) rfl (a_nil ?_))
      cases h
      exact a_again (by kernel_rfl) hX30
def spec_DigitSum_c : ACode := (.seq (.region 0 [q 4 (.asg 0 (.const (.int .i64 0)) 2), q 5 (.asg 0 (.const (.int .i64 0)) 2)] false) (.seq (.seq (.region 1 [q 7 (.mov (t 0)), q 8 (.mov (t 1)), q 9 (.call 0 (.func 126) [(t 7), (t 8), (.const (.int .i64 0)), (.const (.int .i64 1000000000000))]), q 6 (.asg 0 (t 9) 2)] false) (.seq (.region 2 [q 10 (.mov (t 6)), q 11 (.bin .neq 2 (t 10) (.const (.int .i64 0)))] false) (.cond (t 11) (.seq (.region 3 [q 12 (.mov (t 6)), q 4 (.asg 0 (.const (.int .i64 0)) 2), q 5 (.asg 0 (t 12) 2)] false) .ret) .skip))) (.seq (.region 4 [q 13 (.mov (t 0)), q 14 (.mov (t 1)), q 15 (.call 0 (.func 147) [(t 13), (t 14)]), q 4 (.asg 0 (t 15) 2), q 5 (.asg 0 (.const (.int .i64 0)) 2)] false) .ret)))
def spec_DigitSum_L : Live := [(0, [0, 1]), (1, [0, 1]), (2, [0, 1, 6]), (3, [6]), (4, [0, 1]), (100011, [0, 1, 6, 11])]
noncomputable def spec_DigitSum (a0 : Int) (a1 : Int) : Option (Int × Int) :=
  (Option.bind (spec_l04Range a0 a1 0 1000000000000) fun r1 => (if (r1 != 0) then (some (0, r1)) else (Option.bind (spec_l08Digits a0 a1) fun r4 => (some (r4, 0)))))
theorem spec_DigitSum_ok (a0 : Int) (a1 : Int) (r : (Int × Int)) (h : spec_DigitSum a0 a1 = some r) : Den Try.prog 52 [(i6 a0), (i6 a1)] { r := (.tuple [(i6 r.1), (i6 r.2)]) } := by
  refine den_of (rs := [(i6 r.1), (i6 r.2)]) (ac := spec_DigitSum_c) (L := spec_DigitSum_L) (n := 16) (m := []) (c := Try.f52.body.getD .skip) good Try.func52 (by kernel_rfl) (by kernel_rfl) Try.ntmps52 rfl rfl (by kernel_rfl) rfl rfl ?_
  refine a_st (σ' := ⟨[(0, (i6 a0)), (1, (i6 a1))], []⟩) (by kernel_rfl) ?_
  unfold spec_DigitSum_c
  refine sr (vp (i6 0) rfl (vp (i6 0) rfl (nx ⟨[(0, (i6 a0)), (1, (i6 a1))], []⟩ (by kernel_rfl) (a_seq (sr (vp (i6 a0) rfl (vp (i6 a1) rfl ?_)))))))
  obtain ⟨r1, hr2, h⟩ := bind_some h
  refine a_call (args := [(i6 a0), (i6 a1), (i6 0), (i6 1000000000000)]) (u := []) (r := (i6 r1)) rfl rfl (spec_l04Range_ok a0 a1 0 1000000000000 r1 hr2) rfl (vp (i6 r1) rfl (nx ⟨[(0, (i6 a0)), (1, (i6 a1)), (6, (i6 r1))], []⟩ (by kernel_rfl) (sr (vp (i6 r1) rfl (vp (.bool (r1 != 0)) rfl (nx ⟨[(0, (i6 a0)), (1, (i6 a1)), (6, (i6 r1)), (11, (.bool (r1 != 0)))], []⟩ (by kernel_rfl) ?_))))))
  cases hb3 : (r1 != 0)
  · have h := ite_f hb3 h
    refine a_cond_f rfl (a_skip (a_next (σ' := ⟨[(0, (i6 a0)), (1, (i6 a1))], []⟩) (by kernel_rfl) (sr (vp (i6 a0) rfl (vp (i6 a1) rfl ?_)))))
    obtain ⟨r4, hr5, h⟩ := bind_some h
    refine a_call (args := [(i6 a0), (i6 a1)]) (u := []) (r := (i6 r4)) rfl rfl (spec_l08Digits_ok a0 a1 r4 hr5) rfl (vp (i6 r4) rfl (vp (i6 0) rfl (nx _ rfl (a_ret ?_))))
    refine ⟨.inr rfl, ?_⟩
    rw [Try.results52]
    cases h
    exact ⟨_, _, _, _, _, rfl, trivial, .inl ⟨rfl, .inl rfl⟩, rfl, ⟨_, _, _, _, _, rfl, trivial, .inl ⟨rfl, .inl rfl⟩, rfl, rfl⟩⟩
  · have h := ite_t hb3 h
    refine a_cond_t rfl (sr (vp (i6 r1) rfl (vp (i6 0) rfl (vp (i6 r1) rfl (nx _ rfl (a_ret (t_ret ?_)))))))
    refine ⟨.inr rfl, ?_⟩
    rw [Try.results52]
    cases h
    exact ⟨_, _, _, _, _, rfl, trivial, .inl ⟨rfl, .inl rfl⟩, rfl, ⟨_, _, _, _, _, rfl, trivial, .inl ⟨rfl, .inl rfl⟩, rfl, rfl⟩⟩
def spec_DrawZetaAt_c : ACode := (.seq (.region 0 [q 2 (.asg 0 (.const (.int .i64 0)) 2), q 3 (.asg 0 (.const (.int .i64 0)) 2)] false) (.seq (.region 1 [q 7 (.mov (t 0)), q 8 (.call 0 (.func 116) [(t 7)]), q 4 (.asg 0 (t 8) 96)] false) (.seq (.region 2 [q 10 (.mov (t 4)), q 11 (.call 1 (.func 141) [(t 10)]), q 9 (.mov (t 11)), q 12 (.extract (t 9) 0), q 13 (.extract (t 9) 1), q 5 (.asg 0 (t 12) 2), q 6 (.asg 0 (t 13) 2)] false) (.seq (.region 3 [q 14 (.mov (t 5)), q 15 (.mov (t 4)), q 16 (.mov (t 4)), q 17 (.call 1 (.func 123) [(t 16), (.const (.int .i64 8))]), q 18 (.mov (t 4)), q 19 (.call 1 (.func 123) [(t 18), (.const (.int .i64 20))]), q 20 (.mov (t 4)), q 21 (.call 1 (.func 132) [(t 20), (.const (.int .i64 40))]), q 22 (.bslice 0 59 3 [(0, (t 17)), (1, (t 19)), (2, (t 21))]), q 23 (.call 1 (.func 122) [(t 15), (t 22)]), q 2 (.asg 0 (t 14) 2), q 3 (.asg 0 (t 23) 2)] false) .ret))))
def spec_DrawZetaAt_L : Live := [(0, [0]), (1, [0]), (2, [4]), (3, [4, 5])]
noncomputable def spec_DrawZetaAt (a0 : (List Int)) : Option (Int × Int) :=
  (Option.bind (spec_l01From a0) fun r1 => (Option.bind (spec_l08Draw_of_src r1) fun r3 => (Option.bind (spec_l01Next_of_src r3.2.2 8) fun r6 => (Option.bind (spec_l01Next_of_src r6.2 20) fun r9 => (Option.bind (spec_l01Near_of_src r9.2 40) fun r12 => (Option.bind (spec_l01Pick_of_src r12.2 ([r6.1, r9.1, r12.1])) fun r15 => (some (r3.1, r15.1))))))))
theorem spec_DrawZetaAt_ok (a0 : (List Int)) (r : (Int × Int)) (h : spec_DrawZetaAt a0 = some r) : Den Try.prog 53 [(eSu8 a0)] { r := (.tuple [(i6 r.1), (i6 r.2)]) } := by
  refine den_of (rs := [(i6 r.1), (i6 r.2)]) (ac := spec_DrawZetaAt_c) (L := spec_DrawZetaAt_L) (n := 24) (m := [(11, 1), (17, 1), (19, 1), (21, 1), (23, 1)]) (c := Try.f53.body.getD .skip) good Try.func53 (by kernel_rfl) (by kernel_rfl) Try.ntmps53 rfl rfl (by kernel_rfl) rfl rfl ?_
  refine a_st (σ' := ⟨[(0, (eSu8 a0))], []⟩) (by kernel_rfl) ?_
  unfold spec_DrawZetaAt_c
  refine sr (vp (i6 0) rfl (vp (i6 0) rfl (nx ⟨[(0, (eSu8 a0))], []⟩ (by kernel_rfl) (sr (vp (eSu8 a0) rfl ?_)))))
  obtain ⟨r1, hr2, h⟩ := bind_some h
  refine a_callF (args := [(eSu8 a0)]) (u := []) (u2 := []) (r := (ow 2000000)) (fs := [(0, [eT_Su8_i64_u64_Z r1])]) rfl rfl (spec_l01From_ok a0 r1 hr2) rfl rfl rfl (.inl rfl) rfl (vp (ow 1800) rfl (nx ⟨[(4, (ow 4))], [(4, (bk (eT_Su8_i64_u64_Z r1)))]⟩ (by kernel_rfl) (sr (vp (ow 4) rfl ?_))))
  obtain ⟨r3, hr4, h⟩ := bind_some h
  refine a_callM (args := [(.mutp (eT_Su8_i64_u64_Z r1))]) (i := 0) (id := 4) (r := (.tuple [(i6 r3.1), (i6 r3.2.1)])) (c := (eT_Su8_i64_u64_Z r3.2.2)) rfl rfl (spec_l08Draw_of_src_ok r1 r3 hr4) rfl trivial (vp (.tuple [(i6 r3.1), (i6 r3.2.1)]) rfl (vb (i6 r3.1) rfl rfl (vb (i6 r3.2.1) rfl rfl (vp (i6 r3.1) rfl (vp (i6 r3.2.1) rfl (nx ⟨[(4, (ow 4)), (5, (i6 r3.1))], [(4, (bk (eT_Su8_i64_u64_Z r3.2.2)))]⟩ (by kernel_rfl) (sr (vp (i6 r3.1) rfl (vp (ow 4) rfl ?_)))))))))
  refine vp (ow 4) rfl ?_
  obtain ⟨r6, hr7, h⟩ := bind_some h
  refine a_callM (args := [(.mutp (eT_Su8_i64_u64_Z r3.2.2)), (i6 8)]) (i := 0) (id := 4) (r := (i6 r6.1)) (c := (eT_Su8_i64_u64_Z r6.2)) rfl rfl (spec_l01Next_of_src_ok r3.2.2 8 r6 hr7) rfl trivial (vp (ow 4) rfl ?_)
  obtain ⟨r9, hr10, h⟩ := bind_some h
  refine a_callM (args := [(.mutp (eT_Su8_i64_u64_Z r6.2)), (i6 20)]) (i := 0) (id := 4) (r := (i6 r9.1)) (c := (eT_Su8_i64_u64_Z r9.2)) rfl rfl (spec_l01Next_of_src_ok r6.2 20 r9 hr10) rfl trivial (vp (ow 4) rfl ?_)
  obtain ⟨r12, hr13, h⟩ := bind_some h
  refine a_callM (args := [(.mutp (eT_Su8_i64_u64_Z r9.2)), (i6 40)]) (i := 0) (id := 4) (r := (i6 r12.1)) (c := (eT_Su8_i64_u64_Z r12.2)) rfl rfl (spec_l01Near_of_src_ok r9.2 40 r12 hr13) rfl trivial (vq (.sl 1 true (([r6.1, r9.1, r12.1]).map (AV.int .i64))) rfl ⟨(Nat.le_of_ble_eq_true rfl), (Nat.le_of_ble_eq_true rfl), (all_cons ⟨(Nat.le_of_ble_eq_true rfl), rfl⟩ (all_cons ⟨(Nat.le_of_ble_eq_true rfl), rfl⟩ (all_cons ⟨(Nat.le_of_ble_eq_true rfl), rfl⟩ all_nil)))⟩ ?_)
  obtain ⟨r15, hr16, h⟩ := bind_some h
  refine a_callM (args := [(.mutp (eT_Su8_i64_u64_Z r12.2)), (.sl 1 true (([r6.1, r9.1, r12.1]).map (AV.int .i64)))]) (i := 0) (id := 4) (r := (i6 r15.1)) (c := (eT_Su8_i64_u64_Z r15.2)) rfl rfl (Den.argsM (spec_l01Pick_of_src_ok r12.2 ([r6.1, r9.1, r12.1]) r15 hr16) rfl rfl (.cons (.loose _) .nil)) rfl trivial (vp (i6 r3.1) rfl (vp (i6 r15.1) rfl (nx _ rfl (a_ret ?_))))
  refine ⟨.inr rfl, ?_⟩
  rw [Try.results53]
  cases h
  exact ⟨_, _, _, _, _, rfl, trivial, .inl ⟨rfl, .inl rfl⟩, rfl, ⟨_, _, _, _, _, rfl, trivial, .inl ⟨rfl, .inl rfl⟩, rfl, rfl⟩⟩
def impl_ZetaAt_c : ACode := (.seq (.region 0 [q 4 (.alloc 25), q 5 (.asg 0 (.const (.int .i64 0)) 2)] false) (.seq (.seq (.region 1 [q 12 (.mov (t 0)), q 13 (.mov (t 1)), q 14 (.call 0 (.func 124) [(t 12), (t 13), (.const (.int .i64 0)), (.const (.int .i64 40))]), q 6 (.asg 0 (t 14) 2)] false) (.seq (.region 2 [q 15 (.mov (t 6)), q 16 (.bin .neq 2 (t 15) (.const (.int .i64 0)))] false) (.cond (t 16) (.seq (.region 3 [q 17 (.build 25 []), q 18 (.mov (t 6)), ⟨none, .store 25 (t 4) (t 17), none, []⟩, q 5 (.asg 0 (t 18) 2)] false) .ret) .skip))) (.seq (.region 4 [q 20 (.mov (t 0)), q 21 (.mov (t 1)), q 22 (.call 0 (.func 51) [(t 20), (t 21)]), q 19 (.mov (t 22)), q 23 (.extract (t 19) 0), q 24 (.extract (t 19) 1), q 7 (.asg 0 (t 23) 2), q 8 (.asg 0 (t 24) 2)] false) (.seq (.region 5 [q 25 (.mov (t 7)), q 26 (.mov (t 0)), q 27 (.bin .sub 2 (t 26) (.const (.int .i64 1))), q 28 (.bin .quo 2 (t 25) (t 27)), q 9 (.asg 0 (t 28) 2)] false) (.seq (.block 0 (.seq (.region 6 [q 30 (.mov (t 0)), q 31 (.mov (t 9)), q 32 (.call 0 (.func 148) [(t 30), (t 31)]), q 33 (.un .not (t 32)), q 29 (.asg 0 (t 33) 4)] false) (.cond (t 29) (.seq (.region 7 [q 34 (.build 25 []), ⟨none, .store 25 (t 4) (t 34), none, []⟩, q 5 (.asg 0 (.const (.int .i64 2)) 2)] false) .ret) (.seq (.region 8 [q 36 (.mov (t 9)), q 37 (.mov (t 1)), q 38 (.bin .mul 2 (t 36) (t 37)), q 39 (.bin .gtr 2 (t 38) (.const (.int .i64 63))), q 35 (.asg 0 (t 39) 4)] false) (.cond (t 35) (.seq (.region 9 [q 40 (.build 25 []), ⟨none, .store 25 (t 4) (t 40), none, []⟩, q 5 (.asg 0 (.const (.int .i64 3)) 2)] false) .ret) .skip))))) (.seq (.region 10 [q 10 (.asg 1 (.const (.slice none 0 0)) 80)] false) (.seq (.seq (.region 11 [q 41 (.mov (t 9)), q 42 (.bin .add 2 (t 41) (.const (.int .i64 1))), q 43 (.mov (.const (.int .i64 0)))] false) (.block 1 (.loop (.seq (.region 12 [q 44 (.bin .lss 2 (t 43) (t 42))] false) (.seq (.cond (t 44) .skip (.exit 1)) (.seq (.block 2 (.seq (.region 13 [q 45 (.mov (t 43)), q 11 (.asg 0 (t 45) 2)] false) (.region 14 [q 46 (.mov (t 0)), q 47 (.mov (t 10)), q 48 (.mov (t 0)), q 49 (.mov (t 11)), q 50 (.mov (t 1)), q 51 (.call 0 (.func 144) [(t 48), (t 49), (t 50)]), q 52 (.call 0 (.func 109) [(t 46), (t 47), (t 51), (.const (.int .i64 1))]), q 10 (.asg 1 (t 52) 80)] false))) (.region 15 [q 53 (.bin .add 2 (t 43) (.const (.int .i64 1))), q 43 (.mov (t 53))] false))))))) (.seq (.region 16 [q 54 (.mov (t 10)), q 55 (.call 0 (.func 101) [(t 54)]), q 56 (.extract (t 55) 0), q 57 (.extract (t 55) 1), ⟨none, .store 25 (t 4) (t 56), none, []⟩, q 5 (.asg 0 (t 57) 2)] false) .ret))))))))
def impl_ZetaAt_L : Live := [(0, [0, 1]), (1, [0, 1, 4]), (2, [0, 1, 4, 6]), (3, [4, 6]), (4, [0, 1, 4]), (5, [0, 1, 4, 7]), (6, [0, 1, 4, 9]), (7, [4]), (8, [0, 1, 4, 9]), (9, [4]), (10, [0, 1, 4, 9]), (11, [0, 1, 4, 9, 10]), (12, [0, 1, 4, 10, 42, 43]), (13, [0, 1, 4, 10, 42, 43]), (14, [0, 1, 4, 10, 11, 42, 43]), (15, [0, 1, 4, 10, 42, 43]), (16, [4, 10]), (100016, [0, 1, 4, 6, 16]), (100029, [0, 1, 4, 9, 29]), (100035, [0, 1, 4, 9, 35]), (100044, [0, 1, 4, 10, 42, 43, 44])]
noncomputable def impl_ZetaAt_l1 (x40 : Int) (a0 : Int) (a1 : Int) (x47 : (List Int)) (x48 : Int) : Option (((List Int) × Int) ⊕ (List Int)) :=
  (if (decide (x48 < x40)) then (Option.bind (impl_prime_powerSum a0 x48 a1) fun r58 => (Option.bind (impl_prime_combine a0 x47 r58 1) fun r60 => (some (.inl ((r60, IntKind.i64.wrap (x48 + 1))))))) else (some (.inr x47)))
noncomputable def impl_ZetaAt (a0 : Int) (a1 : Int) : Option ((Vec Int 64) × Int) :=
  (Option.bind (impl_numberCode a0 a1 0 40) fun r1 => (if (r1 != 0) then (some (((vrep 64 (0 : Int)), r1))) else (Option.bind (impl_DigitSum a0 a1) fun r4 => (ifp ((IntKind.i64.wrap (a0 - 1)) ≠ 0) ((Option.bind (impl_prime_isSummed a0 (IntKind.i64.wrap (Int.tdiv r4.1 (IntKind.i64.wrap (a0 - 1))))) fun r7 => (if (!r7) then (some (((vrep 64 (0 : Int)), 2))) else (letp (IntKind.i64.wrap ((IntKind.i64.wrap (Int.tdiv r4.1 (IntKind.i64.wrap (a0 - 1)))) * a1)) fun x10 => (if (decide (x10 > 63)) then (some (((vrep 64 (0 : Int)), 3))) else (Option.bind (α := (List Int)) ((letp (IntKind.i64.wrap ((IntKind.i64.wrap (Int.tdiv r4.1 (IntKind.i64.wrap (a0 - 1)))) + 1)) fun x40 => (loopM (fun s : ((List Int) × Int) => impl_ZetaAt_l1 x40 a0 a1 s.1 s.2) ([], 0)))) fun x36 => (Option.bind (impl_told x36) fun r63 => (some (r63.1, r63.2)))))))))))))
theorem impl_ZetaAt_ok (a0 : Int) (a1 : Int) (r : ((Vec Int 64) × Int)) (h : impl_ZetaAt a0 a1 = some r) : Den Try.prog 54 [(i6 a0), (i6 a1)] { r := (.tuple [(eA64u8 r.1), (i6 r.2)]) } := by
  refine den_of (rs := [(eA64u8 r.1), (i6 r.2)]) (ac := impl_ZetaAt_c) (L := impl_ZetaAt_L) (n := 58) (m := [(10, 1)]) (c := Try.f54.body.getD .skip) good Try.func54 (by kernel_rfl) (by kernel_rfl) Try.ntmps54 rfl rfl (by kernel_rfl) rfl rfl ?_
  refine a_st (σ' := ⟨[(0, (i6 a0)), (1, (i6 a1))], []⟩) (by kernel_rfl) ?_
  unfold impl_ZetaAt_c
  refine sr (vo 1400 (eA64u8 ((vrep 64 (0 : Int)))) rfl rfl (vp (i6 0) rfl (nx ⟨[(0, (i6 a0)), (1, (i6 a1)), (4, (ow 4))], [(4, (bk (eA64u8 ((vrep 64 (0 : Int))))))]⟩ (by kernel_rfl) (a_seq (sr (vp (i6 a0) rfl (vp (i6 a1) rfl ?_)))))))
  obtain ⟨r1, hr2, h⟩ := bind_some h
  refine a_call (args := [(i6 a0), (i6 a1), (i6 0), (i6 40)]) (u := []) (r := (i6 r1)) rfl rfl (impl_numberCode_ok a0 a1 0 40 r1 hr2) rfl (vp (i6 r1) rfl (nx ⟨[(0, (i6 a0)), (1, (i6 a1)), (4, (ow 4)), (6, (i6 r1))], [(4, (bk (eA64u8 ((vrep 64 (0 : Int))))))]⟩ (by kernel_rfl) (sr (vp (i6 r1) rfl (vp (.bool (r1 != 0)) rfl (nx ⟨[(0, (i6 a0)), (1, (i6 a1)), (4, (ow 4)), (6, (i6 r1)), (16, (.bool (r1 != 0)))], [(4, (bk (eA64u8 ((vrep 64 (0 : Int))))))]⟩ (by kernel_rfl) ?_))))))
  cases hb3 : (r1 != 0)
  · have h := ite_f hb3 h
    refine a_cond_f rfl (a_skip (a_next (σ' := ⟨[(0, (i6 a0)), (1, (i6 a1)), (4, (ow 4))], [(4, (bk (eA64u8 ((vrep 64 (0 : Int))))))]⟩) (by kernel_rfl) (sr (vp (i6 a0) rfl (vp (i6 a1) rfl ?_)))))
    obtain ⟨r4, hr5, h⟩ := bind_some h
    refine a_call (args := [(i6 a0), (i6 a1)]) (u := []) (r := (.tuple [(i6 r4.1), (i6 r4.2)])) rfl rfl (impl_DigitSum_ok a0 a1 r4 hr5) rfl (vp (.tuple [(i6 r4.1), (i6 r4.2)]) rfl (vb (i6 r4.1) rfl rfl (vb (i6 r4.2) rfl rfl (vp (i6 r4.1) rfl (vp (i6 r4.2) rfl (nx ⟨[(0, (i6 a0)), (1, (i6 a1)), (4, (ow 4)), (7, (i6 r4.1))], [(4, (bk (eA64u8 ((vrep 64 (0 : Int))))))]⟩ (by kernel_rfl) (sr (vp (i6 r4.1) rfl (vp (i6 a0) rfl ?_)))))))))
    refine vp (i6 (IntKind.i64.wrap (a0 - 1))) rfl ?_
    obtain ⟨hc6, h⟩ := ifp_some h
    refine vq (i6 (IntKind.i64.wrap (Int.tdiv r4.1 (IntKind.i64.wrap (a0 - 1))))) rfl hc6 (vp (i6 (IntKind.i64.wrap (Int.tdiv r4.1 (IntKind.i64.wrap (a0 - 1))))) rfl (nx ⟨[(0, (i6 a0)), (1, (i6 a1)), (4, (ow 4)), (9, (i6 (IntKind.i64.wrap (Int.tdiv r4.1 (IntKind.i64.wrap (a0 - 1))))))], [(4, (bk (eA64u8 ((vrep 64 (0 : Int))))))]⟩ (by kernel_rfl) (a_seq (a_block (sr (vp (i6 a0) rfl (vp (i6 (IntKind.i64.wrap (Int.tdiv r4.1 (IntKind.i64.wrap (a0 - 1))))) rfl ?_)))))))
    obtain ⟨r7, hr8, h⟩ := bind_some h
    refine a_call (args := [(i6 a0), (i6 (IntKind.i64.wrap (Int.tdiv r4.1 (IntKind.i64.wrap (a0 - 1)))))]) (u := []) (r := (.bool r7)) rfl rfl (impl_prime_isSummed_ok a0 (IntKind.i64.wrap (Int.tdiv r4.1 (IntKind.i64.wrap (a0 - 1)))) r7 hr8) rfl (vp (.bool (!r7)) rfl (vp (.bool (!r7)) rfl (nx ⟨[(0, (i6 a0)), (1, (i6 a1)), (4, (ow 4)), (9, (i6 (IntKind.i64.wrap (Int.tdiv r4.1 (IntKind.i64.wrap (a0 - 1)))))), (29, (.bool (!r7)))], [(4, (bk (eA64u8 ((vrep 64 (0 : Int))))))]⟩ (by kernel_rfl) ?_)))
    cases hb9 : (!r7)
    · have h := ite_f hb9 h
      refine a_cond_f rfl (sr (vp (i6 (IntKind.i64.wrap (Int.tdiv r4.1 (IntKind.i64.wrap (a0 - 1))))) rfl (vp (i6 a1) rfl ?_)))
      obtain ⟨x10, hx11, h⟩ := letp_some h
      refine a_val' (v := (i6 (IntKind.i64.wrap ((IntKind.i64.wrap (Int.tdiv r4.1 (IntKind.i64.wrap (a0 - 1)))) * a1)))) (v' := (i6 x10)) (u := []) (u' := []) rfl (congrArg (fun z => ((i6 z) : AV)) hx11) rfl trivial rfl (vp (.bool ((decide (x10 > 63)))) rfl (vp (.bool ((decide (x10 > 63)))) rfl (nx ⟨[(0, (i6 a0)), (1, (i6 a1)), (4, (ow 4)), (9, (i6 (IntKind.i64.wrap (Int.tdiv r4.1 (IntKind.i64.wrap (a0 - 1)))))), (35, (.bool ((decide (x10 > 63)))))], [(4, (bk (eA64u8 ((vrep 64 (0 : Int))))))]⟩ (by kernel_rfl) ?_)))
      cases hb12 : (decide (x10 > 63))
      · have h := ite_f hb12 h
        refine a_cond_f rfl (a_skip (b_norm (a_next (σ' := ⟨[(0, (i6 a0)), (1, (i6 a1)), (4, (ow 4)), (9, (i6 (IntKind.i64.wrap (Int.tdiv r4.1 (IntKind.i64.wrap (a0 - 1))))))], [(4, (bk (eA64u8 ((vrep 64 (0 : Int))))))]⟩) (by kernel_rfl) (sr (vp (eSi64 ([])) rfl (nx ⟨[(0, (i6 a0)), (1, (i6 a1)), (4, (ow 4)), (9, (i6 (IntKind.i64.wrap (Int.tdiv r4.1 (IntKind.i64.wrap (a0 - 1)))))), (10, (eSi64 ([])))], [(4, (bk (eA64u8 ((vrep 64 (0 : Int))))))]⟩ (by kernel_rfl) ?_))))))
        obtain ⟨y37, hy38, hk39⟩ := bind_some h
        clear h
        refine a_join (emb := fun (s : (List Int)) => ⟨[(4, (ow 4)), (10, (eSi64 s))], [(4, (bk (eA64u8 ((vrep 64 (0 : Int))))))]⟩) (pre := fun s => s = y37) ?_ ?_
        · rintro x36 rfl
          have h := hk39
          refine a_st (σ' := ⟨[(4, (ow 4)), (10, (eSi64 x36))], [(4, (bk (eA64u8 ((vrep 64 (0 : Int))))))]⟩) (by kernel_rfl) (sr (vp (eSi64 x36) rfl ?_))
          obtain ⟨r63, hr64, h⟩ := bind_some h
          refine a_call (args := [(eSi64 x36)]) (u := []) (r := (.tuple [(eA64u8 r63.1), (i6 r63.2)])) rfl rfl (impl_told_ok x36 r63 hr64) rfl (vb (eA64u8 r63.1) rfl rfl (vb (i6 r63.2) rfl rfl (vs (eA64u8 r63.1) rfl rfl (fun _ => rfl) rfl rfl rfl rfl rfl rfl (vp (i6 r63.2) rfl (nx _ rfl (a_ret ?_))))))
          have hl66 : LdOk [] (eA64u8 r63.1) [] 64 true (eA64u8 r63.1) := (.nil rfl rfl rfl)
          refine ⟨.inr rfl, ?_⟩
          rw [Try.results54]
          cases h
          exact ⟨_, _, _, _, _, ld_own (i := ⟨.arr 64 5, 64, 64, (eA64u8 (vrep 64 (0 : Int)))⟩) rfl rfl rfl hl66, hl66.c, .inl ⟨rfl, .inl rfl⟩, rfl, ⟨_, _, _, _, _, rfl, trivial, .inl ⟨rfl, .inl rfl⟩, rfl, rfl⟩⟩
        · have h := hy38
          refine sr (vp (i6 (IntKind.i64.wrap (Int.tdiv r4.1 (IntKind.i64.wrap (a0 - 1))))) rfl ?_)
          obtain ⟨x40, hx41, h⟩ := letp_some h
          refine a_val' (v := (i6 (IntKind.i64.wrap ((IntKind.i64.wrap (Int.tdiv r4.1 (IntKind.i64.wrap (a0 - 1)))) + 1)))) (v' := (i6 x40)) (u := []) (u' := []) rfl (congrArg (fun z => ((i6 z) : AV)) hx41) rfl trivial rfl (vp (i6 0) rfl (nx ⟨[(0, (i6 a0)), (1, (i6 a1)), (4, (ow 4)), (10, (eSi64 ([]))), (42, (i6 x40)), (43, (i6 0))], [(4, (bk (eA64u8 ((vrep 64 (0 : Int))))))]⟩ (by kernel_rfl) (a_block ?_)))
          refine a_loop (emb := fun (s : ((List Int) × Int)) => ⟨[(0, (i6 a0)), (1, (i6 a1)), (4, (ow 4)), (10, (eSi64 s.1)), (42, (i6 x40)), (43, (i6 s.2))], [(4, (bk (eA64u8 ((vrep 64 (0 : Int))))))]⟩) (body := (fun s : ((List Int) × Int) => impl_ZetaAt_l1 x40 a0 a1 s.1 s.2)) (G := fun q => some q = some y37) h rfl ?_ (by kernel_rfl)
          rintro X54 ⟨x47, x48⟩ x55 h hX56
          have h : impl_ZetaAt_l1 x40 a0 a1 x47 x48 = some x55 := h
          refine a_st (σ' := ⟨[(0, (i6 a0)), (1, (i6 a1)), (4, (ow 4)), (10, (eSi64 x47)), (42, (i6 x40)), (43, (i6 x48))], [(4, (bk (eA64u8 ((vrep 64 (0 : Int))))))]⟩) (by kernel_rfl) (sr (vp (.bool ((decide (x48 < x40)))) rfl (nx ⟨[(0, (i6 a0)), (1, (i6 a1)), (4, (ow 4)), (10, (eSi64 x47)), (42, (i6 x40)), (43, (i6 x48)), (44, (.bool ((decide (x48 < x40)))))], [(4, (bk (eA64u8 ((vrep 64 (0 : Int))))))]⟩ (by kernel_rfl) (a_seq ?_))))
          cases hb57 : (decide (x48 < x40))
          · have h := ite_f hb57 h
            refine a_cond_f rfl (a_exit (t_exit ?_))
            cases h
            have h := hX56
            refine t_exit (b_exit ?_)
            exact j_leaf x47 (Option.some.inj h) (by kernel_rfl)
          · have h := ite_t hb57 h
            refine a_cond_t rfl (a_skip (a_next (σ' := ⟨[(0, (i6 a0)), (1, (i6 a1)), (4, (ow 4)), (10, (eSi64 x47)), (42, (i6 x40)), (43, (i6 x48))], [(4, (bk (eA64u8 ((vrep 64 (0 : Int))))))]⟩) (by kernel_rfl) (a_seq (a_block (sr (vp (i6 x48) rfl (vp (i6 x48) rfl (nx ⟨[(0, (i6 a0)), (1, (i6 a1)), (4, (ow 4)), (10, (eSi64 x47)), (11, (i6 x48)), (42, (i6 x40)), (43, (i6 x48))], [(4, (bk (eA64u8 ((vrep 64 (0 : Int))))))]⟩ (by kernel_rfl) (a_region ?_)))))))))
            refine vp (i6 a0) rfl (vp (eSi64 x47) rfl (vp (i6 a0) rfl (vp (i6 x48) rfl (vp (i6 a1) rfl ?_))))
            obtain ⟨r58, hr59, h⟩ := bind_some h
            refine a_call (args := [(i6 a0), (i6 x48), (i6 a1)]) (u := []) (r := (eSi64 r58)) rfl rfl (impl_prime_powerSum_ok a0 x48 a1 r58 hr59) rfl ?_
            obtain ⟨r60, hr61, h⟩ := bind_some h
            refine a_call (args := [(i6 a0), (eSi64 x47), (eSi64 r58), (i6 1)]) (u := []) (r := (eSi64 r60)) rfl rfl (impl_prime_combine_ok a0 x47 r58 1 r60 hr61) rfl (vp (eSi64 r60) rfl (a_nil (b_norm (a_next (σ' := ⟨[(0, (i6 a0)), (1, (i6 a1)), (4, (ow 4)), (10, (eSi64 r60)), (42, (i6 x40)), (43, (i6 x48))], [(4, (bk (eA64u8 ((vrep 64 (0 : Int))))))]⟩) (by kernel_rfl) (a_region (vp (i6 (IntKind.i64.wrap (x48 + 1))) rfl (vp (i6 (IntKind.i64.wrap (x48 + 1))) rfl (a_nil ?_))))))))
            cases h
            exact a_again (by kernel_rfl) hX56
      · have h := ite_t hb12 h
        refine a_cond_t rfl (sr (vq (eA64u8 ((vrep 64 (0 : Int)))) rfl ⟨⟨_, rfl, rfl⟩, all_nil⟩ (vs (eA64u8 ((vrep 64 (0 : Int)))) rfl rfl (fun _ => rfl) rfl rfl rfl rfl rfl rfl (vp (i6 3) rfl (nx _ rfl (a_ret (b_ret (t_ret ?_))))))))
        have hl68 : LdOk [] (eA64u8 ((vrep 64 (0 : Int)))) [] 64 true (eA64u8 ((vrep 64 (0 : Int)))) := (.nil rfl rfl rfl)
        refine ⟨.inr rfl, ?_⟩
        rw [Try.results54]
        cases h
        exact ⟨_, _, _, _, _, ld_own (i := ⟨.arr 64 5, 64, 64, (eA64u8 (vrep 64 (0 : Int)))⟩) rfl rfl rfl hl68, hl68.c, .inl ⟨rfl, .inl rfl⟩, rfl, ⟨_, _, _, _, _, rfl, trivial, .inl ⟨rfl, .inl rfl⟩, rfl, rfl⟩⟩
    · have h := ite_t hb9 h
      refine a_cond_t rfl (sr (vq (eA64u8 ((vrep 64 (0 : Int)))) rfl ⟨⟨_, rfl, rfl⟩, all_nil⟩ (vs (eA64u8 ((vrep 64 (0 : Int)))) rfl rfl (fun _ => rfl) rfl rfl rfl rfl rfl rfl (vp (i6 2) rfl (nx _ rfl (a_ret (b_ret (t_ret ?_))))))))
      have hl70 : LdOk [] (eA64u8 ((vrep 64 (0 : Int)))) [] 64 true (eA64u8 ((vrep 64 (0 : Int)))) := (.nil rfl rfl rfl)
      refine ⟨.inr rfl, ?_⟩
      rw [Try.results54]
      cases h
      exact ⟨_, _, _, _, _, ld_own (i := ⟨.arr 64 5, 64, 64, (eA64u8 (vrep 64 (0 : Int)))⟩) rfl rfl rfl hl70, hl70.c, .inl ⟨rfl, .inl rfl⟩, rfl, ⟨_, _, _, _, _, rfl, trivial, .inl ⟨rfl, .inl rfl⟩, rfl, rfl⟩⟩
  · have h := ite_t hb3 h
    refine a_cond_t rfl (sr (vq (eA64u8 ((vrep 64 (0 : Int)))) rfl ⟨⟨_, rfl, rfl⟩, all_nil⟩ (vp (i6 r1) rfl (vs (eA64u8 ((vrep 64 (0 : Int)))) rfl rfl (fun _ => rfl) rfl rfl rfl rfl rfl rfl (vp (i6 r1) rfl (nx _ rfl (a_ret (t_ret ?_))))))))
    have hl72 : LdOk [] (eA64u8 ((vrep 64 (0 : Int)))) [] 64 true (eA64u8 ((vrep 64 (0 : Int)))) := (.nil rfl rfl rfl)
    refine ⟨.inr rfl, ?_⟩
    rw [Try.results54]
    cases h
    exact ⟨_, _, _, _, _, ld_own (i := ⟨.arr 64 5, 64, 64, (eA64u8 (vrep 64 (0 : Int)))⟩) rfl rfl rfl hl72, hl72.c, .inl ⟨rfl, .inl rfl⟩, rfl, ⟨_, _, _, _, _, rfl, trivial, .inl ⟨rfl, .inl rfl⟩, rfl, rfl⟩⟩
def spec_ZetaAt_c : ACode := (.seq (.region 0 [q 4 (.alloc 25), q 5 (.asg 0 (.const (.int .i64 0)) 2)] false) (.seq (.seq (.region 1 [q 12 (.mov (t 0)), q 13 (.mov (t 1)), q 14 (.call 0 (.func 126) [(t 12), (t 13), (.const (.int .i64 0)), (.const (.int .i64 40))]), q 6 (.asg 0 (t 14) 2)] false) (.seq (.region 2 [q 15 (.mov (t 6)), q 16 (.bin .neq 2 (t 15) (.const (.int .i64 0)))] false) (.cond (t 16) (.seq (.region 3 [q 17 (.build 25 []), q 18 (.mov (t 6)), ⟨none, .store 25 (t 4) (t 17), none, []⟩, q 5 (.asg 0 (t 18) 2)] false) .ret) .skip))) (.seq (.region 4 [q 19 (.build 25 []), q 20 (.mov (t 0)), q 21 (.mov (t 1)), ⟨some 22, .call 0 (.func 147) [(t 20), (t 21)], none, [1, 2]⟩, q 23 (.mov (t 0)), ⟨some 24, .bin .sub 2 (t 23) (.const (.int .i64 1)), none, [4]⟩, ⟨some 25, .bin .quo 2 (t 22) (t 24), none, [3, 5]⟩, q 7 (.alloc 25), ⟨none, .store 25 (t 7) (t 19), none, [7, 0, 3, 0, 7]⟩, ⟨some 8, .asg 0 (t 25) 2, none, [6, 8, 0, 1, 2, 3, 4, 5, 6, 7, 8]⟩] true) (.seq (.seq (.region 5 [q 26 (.mov (t 0)), q 27 (.mov (t 8)), q 28 (.call 0 (.func 149) [(t 26), (t 27)]), q 29 (.bin .gtr 2 (t 28) (.const (.int .i64 343)))] false) (.cond (t 29) (.seq (.region 6 [q 30 (.build 25 []), ⟨none, .store 25 (t 4) (t 30), none, []⟩, q 5 (.asg 0 (.const (.int .i64 2)) 2)] false) .ret) .skip)) (.seq (.seq (.region 7 [q 9 (.asg 0 (.const (.int .i64 0)) 2)] false) (.block 0 (.loop (.seq (.seq (.region 8 [q 31 (.mov (t 9)), q 32 (.mov (t 8)), q 33 (.bin .leq 2 (t 31) (t 32))] false) (.cond (t 33) .skip (.exit 0))) (.seq (.block 1 (.seq (.region 10 [q 37 (.mov (t 0)), q 38 (.mov (t 9)), q 39 (.mov (t 1)), q 40 (.call 0 (.func 146) [(t 37), (t 38), (t 39)]), q 36 (.mov (t 40)), q 41 (.extract (t 36) 0), q 42 (.extract (t 36) 1), q 10 (.alloc 25), ⟨none, .store 25 (t 10) (t 41), none, []⟩, q 11 (.asg 0 (t 42) 4)] false) (.seq (.seq (.region 11 [q 43 (.mov (t 11)), q 44 (.un .not (t 43))] false) (.cond (t 44) (.seq (.region 12 [q 45 (.build 25 []), ⟨none, .store 25 (t 4) (t 45), none, []⟩, q 5 (.asg 0 (.const (.int .i64 3)) 2)] false) .ret) .skip)) (.region 13 [q 46 (.mov (t 0)), q 47 (.load 25 (t 7)), q 48 (.load 25 (t 10)), q 49 (.call 0 (.func 121) [(t 46), (t 47), (t 48), (.const (.int .i64 1))]), ⟨none, .store 25 (t 7) (t 49), none, []⟩] false)))) (.region 9 [q 34 (.mov (t 9)), q 35 (.bin .add 2 (t 34) (.const (.int .i64 1))), q 9 (.asg 0 (t 35) 2)] false)))))) (.seq (.region 14 [q 50 (.load 25 (t 7)), ⟨none, .store 25 (t 4) (t 50), none, []⟩, q 5 (.asg 0 (.const (.int .i64 0)) 2)] false) .ret))))))
def spec_ZetaAt_L : Live := [(0, [0, 1]), (1, [0, 1, 4]), (2, [0, 1, 4, 6]), (3, [4, 6]), (4, [0, 1, 4]), (5, [0, 1, 4, 7, 8]), (6, [4]), (7, [0, 1, 4, 7, 8]), (8, [0, 1, 4, 7, 8, 9]), (9, [0, 1, 4, 7, 8, 9]), (10, [0, 1, 4, 7, 8, 9]), (11, [0, 1, 4, 7, 8, 9, 10, 11]), (12, [4]), (13, [0, 1, 4, 7, 8, 9, 10]), (14, [4, 7]), (100016, [0, 1, 4, 6, 16]), (100029, [0, 1, 4, 7, 8, 29]), (100033, [0, 1, 4, 7, 8, 9, 33]), (100044, [0, 1, 4, 7, 8, 9, 10, 44])]
noncomputable def spec_ZetaAt_l1 (r8 : Int) (a0 : Int) (a1 : Int) (x77 : Int) (x78 : (Vec Int 64)) : Option ((Int × (Vec Int 64)) ⊕ ((Vec Int 64) ⊕ ((Vec Int 64) × Int))) :=
  (letp ((decide (x77 ≤ (IntKind.i64.wrap (Int.tdiv r8 (IntKind.i64.wrap (a0 - 1))))))) fun x95 => (if x95 then (Option.bind (spec_l08Sum a0 x77 a1) fun r98 => (if (!r98.2) then (some (.inr ((.inr (((vrep 64 (0 : Int)), 3)))))) else (Option.bind (spec_l01Add a0 x78 r98.1 1) fun r104 => (some (.inl ((IntKind.i64.wrap (x77 + 1), r104))))))) else (some (.inr (.inl x78)))))
noncomputable def spec_ZetaAt (a0 : Int) (a1 : Int) : Option ((Vec Int 64) × Int) :=
  (Option.bind (spec_l04Range a0 a1 0 40) fun r1 => (if (r1 != 0) then (some (((vrep 64 (0 : Int)), r1))) else (Option.bind (spec_l08Digits a0 a1) fun r8 => (ifp ((IntKind.i64.wrap (a0 - 1)) ≠ 0) ((Option.bind (spec_l01Count a0 (IntKind.i64.wrap (Int.tdiv r8 (IntKind.i64.wrap (a0 - 1))))) fun r12 => (if (decide (r12 > 343)) then (some (((vrep 64 (0 : Int)), 2))) else (Option.bind (α := ((Vec Int 64) ⊕ ((Vec Int 64) × Int))) ((loopM (fun s : (Int × (Vec Int 64)) => spec_ZetaAt_l1 r8 a0 a1 s.1 s.2) (0, (vrep 64 (0 : Int))))) fun z => match z with | .inl x60 => (some (x60, 0)) | .inr r113 => (some r113)))))))))
theorem spec_ZetaAt_ok (a0 : Int) (a1 : Int) (r : ((Vec Int 64) × Int)) (h : spec_ZetaAt a0 a1 = some r) : Den Try.prog 55 [(i6 a0), (i6 a1)] { r := (.tuple [(eA64u8 r.1), (i6 r.2)]) } := by
  refine den_of (rs := [(eA64u8 r.1), (i6 r.2)]) (ac := spec_ZetaAt_c) (L := spec_ZetaAt_L) (n := 51) (m := []) (c := Try.f55.body.getD .skip) good Try.func55 (by kernel_rfl) (by kernel_rfl) Try.ntmps55 rfl rfl (by kernel_rfl) rfl rfl ?_
  refine a_st (σ' := ⟨[(0, (i6 a0)), (1, (i6 a1))], []⟩) (by kernel_rfl) ?_
  unfold spec_ZetaAt_c
  refine sr (vo 1400 (eA64u8 ((vrep 64 (0 : Int)))) rfl rfl (vp (i6 0) rfl (nx ⟨[(0, (i6 a0)), (1, (i6 a1)), (4, (ow 4))], [(4, (bk (eA64u8 ((vrep 64 (0 : Int))))))]⟩ (by kernel_rfl) (a_seq (sr (vp (i6 a0) rfl (vp (i6 a1) rfl ?_)))))))
  obtain ⟨r1, hr2, h⟩ := bind_some h
  refine a_call (args := [(i6 a0), (i6 a1), (i6 0), (i6 40)]) (u := []) (r := (i6 r1)) rfl rfl (spec_l04Range_ok a0 a1 0 40 r1 hr2) rfl (vp (i6 r1) rfl (nx ⟨[(0, (i6 a0)), (1, (i6 a1)), (4, (ow 4)), (6, (i6 r1))], [(4, (bk (eA64u8 ((vrep 64 (0 : Int))))))]⟩ (by kernel_rfl) (sr (vp (i6 r1) rfl (vp (.bool (r1 != 0)) rfl (nx ⟨[(0, (i6 a0)), (1, (i6 a1)), (4, (ow 4)), (6, (i6 r1)), (16, (.bool (r1 != 0)))], [(4, (bk (eA64u8 ((vrep 64 (0 : Int))))))]⟩ (by kernel_rfl) ?_))))))
  cases hb3 : (r1 != 0)
  · have h := ite_f hb3 h
    refine a_cond_f rfl (a_skip (a_next (σ' := ⟨[(0, (i6 a0)), (1, (i6 a1)), (4, (ow 4))], [(4, (bk (eA64u8 ((vrep 64 (0 : Int))))))]⟩) (by kernel_rfl) (a_seq (a_draw [⟨[], [], [], []⟩, ⟨[], [], [], []⟩, ⟨[], [], [], []⟩, ⟨[], [], [], [1, 2]⟩, ⟨[], [], [], []⟩, ⟨[], [], [], [4]⟩, ⟨[], [], [], [1, 2, 3, 4, 5]⟩, ⟨[1700], [1700], [1700], []⟩, ⟨[1700], [1700], [], [0, 1, 2, 3, 7]⟩, ⟨[], [], [], [0, 1, 2, 3, 4, 5, 6, 7, 8]⟩] (by kernel_rfl) (d_cons (vq (eA64u8 ((vrep 64 (0 : Int)))) rfl ⟨⟨_, rfl, rfl⟩, all_nil⟩ (d_next (by kernel_rfl) (dp (i6 a0) rfl (by kernel_rfl) (dp (i6 a1) rfl (by kernel_rfl) ?_)))))))))
    refine d_cons ?_
    obtain ⟨r8, hr9, h⟩ := bind_some h
    refine a_call (args := [(i6 a0), (i6 a1)]) (u := []) (r := (i6 r8)) rfl rfl (spec_l08Digits_ok a0 a1 r8 hr9) rfl (d_next (by kernel_rfl) (dp (i6 a0) rfl (by kernel_rfl) (dp (i6 (IntKind.i64.wrap (a0 - 1))) rfl (by kernel_rfl) (d_cons ?_))))
    obtain ⟨hc10, h⟩ := ifp_some h
    refine vq (i6 (IntKind.i64.wrap (Int.tdiv r8 (IntKind.i64.wrap (a0 - 1))))) rfl hc10 (d_next (by kernel_rfl) (d_cons (vo 1700 (eA64u8 ((vrep 64 (0 : Int)))) rfl rfl (d_next (by kernel_rfl) (d_cons (vs (eA64u8 ((vrep 64 (0 : Int)))) rfl rfl (fun _ => rfl) rfl rfl rfl rfl rfl rfl (d_next (by kernel_rfl) (dp (i6 (IntKind.i64.wrap (Int.tdiv r8 (IntKind.i64.wrap (a0 - 1))))) rfl (by kernel_rfl) (d_nil ?_)))))))))
    refine a_next (σ' := ⟨[(0, (i6 a0)), (1, (i6 a1)), (4, (ow 4)), (7, (ow 7)), (8, (i6 (IntKind.i64.wrap (Int.tdiv r8 (IntKind.i64.wrap (a0 - 1))))))], [(4, (bk (eA64u8 ((vrep 64 (0 : Int)))))), (7, (bk (eA64u8 ((vrep 64 (0 : Int))))))]⟩) (by kernel_rfl) (a_seq (sr (vp (i6 a0) rfl (vp (i6 (IntKind.i64.wrap (Int.tdiv r8 (IntKind.i64.wrap (a0 - 1))))) rfl ?_))))
    obtain ⟨r12, hr13, h⟩ := bind_some h
    refine a_call (args := [(i6 a0), (i6 (IntKind.i64.wrap (Int.tdiv r8 (IntKind.i64.wrap (a0 - 1)))))]) (u := []) (r := (i6 r12)) rfl rfl (spec_l01Count_ok a0 (IntKind.i64.wrap (Int.tdiv r8 (IntKind.i64.wrap (a0 - 1)))) r12 hr13) rfl (vp (.bool ((decide (r12 > 343)))) rfl (nx ⟨[(0, (i6 a0)), (1, (i6 a1)), (4, (ow 4)), (7, (ow 7)), (8, (i6 (IntKind.i64.wrap (Int.tdiv r8 (IntKind.i64.wrap (a0 - 1)))))), (29, (.bool ((decide (r12 > 343)))))], [(4, (bk (eA64u8 ((vrep 64 (0 : Int)))))), (7, (bk (eA64u8 ((vrep 64 (0 : Int))))))]⟩ (by kernel_rfl) ?_))
    cases hb14 : (decide (r12 > 343))
    · have h := ite_f hb14 h
      refine a_cond_f rfl (a_skip (a_next (σ' := ⟨[(0, (i6 a0)), (1, (i6 a1)), (4, (ow 4)), (7, (ow 7)), (8, (i6 (IntKind.i64.wrap (Int.tdiv r8 (IntKind.i64.wrap (a0 - 1))))))], [(4, (bk (eA64u8 ((vrep 64 (0 : Int)))))), (7, (bk (eA64u8 ((vrep 64 (0 : Int))))))]⟩) (by kernel_rfl) ?_))
      obtain ⟨y61, hy62, hk63⟩ := bind_some h
      clear h
      refine a_join (emb := fun (s : (Vec Int 64)) => ⟨[(4, (ow 4)), (7, (ow 7))], [(4, (bk (eA64u8 ((vrep 64 (0 : Int)))))), (7, (bk (eA64u8 s)))]⟩) (pre := fun s => (.inl s) = y61) ?_ ?_
      · rintro x60 rfl
        have h := hk63
        refine a_st (σ' := ⟨[(4, (ow 4)), (7, (ow 7))], [(4, (bk (eA64u8 ((vrep 64 (0 : Int)))))), (7, (bk (eA64u8 x60)))]⟩) (by kernel_rfl) (sr (vl (eA64u8 x60) rfl rfl rfl rfl rfl rfl (vs (eA64u8 x60) rfl rfl (fun _ => rfl) rfl rfl rfl rfl rfl rfl (vp (i6 0) rfl (nx _ rfl (a_ret ?_))))))
        have hl112 : LdOk [] (eA64u8 x60) [] 64 true (eA64u8 x60) := (.nil rfl rfl rfl)
        refine ⟨.inr rfl, ?_⟩
        rw [Try.results55]
        cases h
        exact ⟨_, _, _, _, _, ld_own (i := ⟨.arr 64 5, 64, 64, (eA64u8 (vrep 64 (0 : Int)))⟩) rfl rfl rfl hl112, hl112.c, .inl ⟨rfl, .inl rfl⟩, rfl, ⟨_, _, _, _, _, rfl, trivial, .inl ⟨rfl, .inl rfl⟩, rfl, rfl⟩⟩
      · have h := hy62
        refine sr (vp (i6 0) rfl (nx ⟨[(0, (i6 a0)), (1, (i6 a1)), (4, (ow 4)), (7, (ow 7)), (8, (i6 (IntKind.i64.wrap (Int.tdiv r8 (IntKind.i64.wrap (a0 - 1)))))), (9, (i6 0))], [(4, (bk (eA64u8 ((vrep 64 (0 : Int)))))), (7, (bk (eA64u8 ((vrep 64 (0 : Int))))))]⟩ (by kernel_rfl) (a_block ?_)))
        refine a_loop (emb := fun (s : (Int × (Vec Int 64))) => ⟨[(0, (i6 a0)), (1, (i6 a1)), (4, (ow 4)), (7, (ow 7)), (8, (i6 (IntKind.i64.wrap (Int.tdiv r8 (IntKind.i64.wrap (a0 - 1)))))), (9, (i6 s.1))], [(4, (bk (eA64u8 ((vrep 64 (0 : Int)))))), (7, (bk (eA64u8 s.2)))]⟩) (body := (fun s : (Int × (Vec Int 64)) => spec_ZetaAt_l1 r8 a0 a1 s.1 s.2)) (G := fun q => some q = some y61) h rfl ?_ (by kernel_rfl)
        rintro X92 ⟨x77, x78⟩ x93 h hX94
        have h : spec_ZetaAt_l1 r8 a0 a1 x77 x78 = some x93 := h
        refine a_st (σ' := ⟨[(0, (i6 a0)), (1, (i6 a1)), (4, (ow 4)), (7, (ow 7)), (8, (i6 (IntKind.i64.wrap (Int.tdiv r8 (IntKind.i64.wrap (a0 - 1)))))), (9, (i6 x77))], [(4, (bk (eA64u8 ((vrep 64 (0 : Int)))))), (7, (bk (eA64u8 x78)))]⟩) (by kernel_rfl) (a_seq (sr (vp (i6 x77) rfl (vp (i6 (IntKind.i64.wrap (Int.tdiv r8 (IntKind.i64.wrap (a0 - 1))))) rfl ?_))))
        obtain ⟨x95, hx96, h⟩ := letp_some h
        refine a_val' (v := (.bool ((decide (x77 ≤ (IntKind.i64.wrap (Int.tdiv r8 (IntKind.i64.wrap (a0 - 1))))))))) (v' := (.bool x95)) (u := []) (u' := []) rfl (congrArg (fun z => ((.bool z) : AV)) hx96) rfl trivial rfl (nx ⟨[(0, (i6 a0)), (1, (i6 a1)), (4, (ow 4)), (7, (ow 7)), (8, (i6 (IntKind.i64.wrap (Int.tdiv r8 (IntKind.i64.wrap (a0 - 1)))))), (9, (i6 x77)), (33, (.bool x95))], [(4, (bk (eA64u8 ((vrep 64 (0 : Int)))))), (7, (bk (eA64u8 x78)))]⟩ (by kernel_rfl) ?_)
        cases hb97 : x95
        · have h := ite_f hb97 h
          refine a_cond_f rfl (a_exit (t_exit ?_))
          cases h
          have h := hX94
          refine t_exit (b_exit ?_)
          exact j_leaf x78 (Option.some.inj h) (by kernel_rfl)
        · have h := ite_t hb97 h
          refine a_cond_t rfl (a_skip (a_next (σ' := ⟨[(0, (i6 a0)), (1, (i6 a1)), (4, (ow 4)), (7, (ow 7)), (8, (i6 (IntKind.i64.wrap (Int.tdiv r8 (IntKind.i64.wrap (a0 - 1)))))), (9, (i6 x77))], [(4, (bk (eA64u8 ((vrep 64 (0 : Int)))))), (7, (bk (eA64u8 x78)))]⟩) (by kernel_rfl) (a_seq (a_block (sr (vp (i6 a0) rfl (vp (i6 x77) rfl (vp (i6 a1) rfl ?_))))))))
          obtain ⟨r98, hr99, h⟩ := bind_some h
          refine a_call (args := [(i6 a0), (i6 x77), (i6 a1)]) (u := []) (r := (.tuple [(eA64u8 r98.1), (.bool r98.2)])) rfl rfl (spec_l08Sum_ok a0 x77 a1 r98 hr99) rfl (vp (.tuple [(eA64u8 r98.1), (.bool r98.2)]) rfl (vb (eA64u8 r98.1) rfl rfl (vb (.bool r98.2) rfl rfl (vo 2000 (eA64u8 ((vrep 64 (0 : Int)))) rfl rfl (vs (eA64u8 r98.1) rfl rfl (fun _ => rfl) rfl rfl rfl rfl rfl rfl (vp (.bool r98.2) rfl (nx ⟨[(0, (i6 a0)), (1, (i6 a1)), (4, (ow 4)), (7, (ow 7)), (8, (i6 (IntKind.i64.wrap (Int.tdiv r8 (IntKind.i64.wrap (a0 - 1)))))), (9, (i6 x77)), (10, (ow 10)), (11, (.bool r98.2))], [(4, (bk (eA64u8 ((vrep 64 (0 : Int)))))), (7, (bk (eA64u8 x78))), (10, (bk (eA64u8 r98.1)))]⟩ (by kernel_rfl) (a_seq (sr ?_)))))))))
          refine vp (.bool r98.2) rfl (vp (.bool (!r98.2)) rfl (nx ⟨[(0, (i6 a0)), (1, (i6 a1)), (4, (ow 4)), (7, (ow 7)), (8, (i6 (IntKind.i64.wrap (Int.tdiv r8 (IntKind.i64.wrap (a0 - 1)))))), (9, (i6 x77)), (10, (ow 10)), (44, (.bool (!r98.2)))], [(4, (bk (eA64u8 ((vrep 64 (0 : Int)))))), (7, (bk (eA64u8 x78))), (10, (bk (eA64u8 r98.1)))]⟩ (by kernel_rfl) ?_))
          cases hb101 : (!r98.2)
          · have h := ite_f hb101 h
            refine a_cond_f rfl (a_skip (a_next (σ' := ⟨[(0, (i6 a0)), (1, (i6 a1)), (4, (ow 4)), (7, (ow 7)), (8, (i6 (IntKind.i64.wrap (Int.tdiv r8 (IntKind.i64.wrap (a0 - 1)))))), (9, (i6 x77)), (10, (ow 10))], [(4, (bk (eA64u8 ((vrep 64 (0 : Int)))))), (7, (bk (eA64u8 x78))), (10, (bk (eA64u8 r98.1)))]⟩) (by kernel_rfl) (a_region (vp (i6 a0) rfl (vl (eA64u8 x78) rfl rfl rfl rfl rfl rfl (vl (eA64u8 r98.1) rfl rfl rfl rfl rfl rfl ?_))))))
            obtain ⟨r104, hr105, h⟩ := bind_some h
            refine a_call (args := [(i6 a0), (eA64u8 x78), (eA64u8 r98.1), (i6 1)]) (u := []) (r := (eA64u8 r104)) rfl rfl (spec_l01Add_ok a0 x78 r98.1 1 r104 hr105) rfl (vs (eA64u8 r104) rfl rfl (fun _ => rfl) rfl rfl rfl rfl rfl rfl (a_nil (b_norm (a_next (σ' := ⟨[(0, (i6 a0)), (1, (i6 a1)), (4, (ow 4)), (7, (ow 7)), (8, (i6 (IntKind.i64.wrap (Int.tdiv r8 (IntKind.i64.wrap (a0 - 1)))))), (9, (i6 x77))], [(4, (bk (eA64u8 ((vrep 64 (0 : Int)))))), (7, (bk (eA64u8 r104)))]⟩) (by kernel_rfl) (a_region (vp (i6 x77) rfl (vp (i6 (IntKind.i64.wrap (x77 + 1))) rfl (vp (i6 (IntKind.i64.wrap (x77 + 1))) rfl (a_nil ?_)))))))))
            cases h
            exact a_again (by kernel_rfl) hX94
          · have h := ite_t hb101 h
            refine a_cond_t rfl (sr (vq (eA64u8 ((vrep 64 (0 : Int)))) rfl ⟨⟨_, rfl, rfl⟩, all_nil⟩ (vs (eA64u8 ((vrep 64 (0 : Int)))) rfl rfl (fun _ => rfl) rfl rfl rfl rfl rfl rfl (vp (i6 3) rfl (nx _ rfl (a_ret (t_ret (b_ret (t_ret ?_)))))))))
            cases h
            have h := hX94
            refine t_ret (b_ret (t_ret ?_))
            cases h
            have h := hk63
            have hl108 : LdOk [] (eA64u8 ((vrep 64 (0 : Int)))) [] 64 true (eA64u8 ((vrep 64 (0 : Int)))) := (.nil rfl rfl rfl)
            refine ⟨.inr rfl, ?_⟩
            rw [Try.results55]
            cases h
            exact ⟨_, _, _, _, _, ld_own (i := ⟨.arr 64 5, 64, 64, (eA64u8 (vrep 64 (0 : Int)))⟩) rfl rfl rfl hl108, hl108.c, .inl ⟨rfl, .inl rfl⟩, rfl, ⟨_, _, _, _, _, rfl, trivial, .inl ⟨rfl, .inl rfl⟩, rfl, rfl⟩⟩
    · have h := ite_t hb14 h
      refine a_cond_t rfl (sr (vq (eA64u8 ((vrep 64 (0 : Int)))) rfl ⟨⟨_, rfl, rfl⟩, all_nil⟩ (vs (eA64u8 ((vrep 64 (0 : Int)))) rfl rfl (fun _ => rfl) rfl rfl rfl rfl rfl rfl (vp (i6 2) rfl (nx _ rfl (a_ret (t_ret ?_)))))))
      have hl115 : LdOk [] (eA64u8 ((vrep 64 (0 : Int)))) [] 64 true (eA64u8 ((vrep 64 (0 : Int)))) := (.nil rfl rfl rfl)
      refine ⟨.inr rfl, ?_⟩
      rw [Try.results55]
      cases h
      exact ⟨_, _, _, _, _, ld_own (i := ⟨.arr 64 5, 64, 64, (eA64u8 (vrep 64 (0 : Int)))⟩) rfl rfl rfl hl115, hl115.c, .inl ⟨rfl, .inl rfl⟩, rfl, ⟨_, _, _, _, _, rfl, trivial, .inl ⟨rfl, .inl rfl⟩, rfl, rfl⟩⟩
  · have h := ite_t hb3 h
    refine a_cond_t rfl (sr (vq (eA64u8 ((vrep 64 (0 : Int)))) rfl ⟨⟨_, rfl, rfl⟩, all_nil⟩ (vp (i6 r1) rfl (vs (eA64u8 ((vrep 64 (0 : Int)))) rfl rfl (fun _ => rfl) rfl rfl rfl rfl rfl rfl (vp (i6 r1) rfl (nx _ rfl (a_ret (t_ret ?_))))))))
    have hl117 : LdOk [] (eA64u8 ((vrep 64 (0 : Int)))) [] 64 true (eA64u8 ((vrep 64 (0 : Int)))) := (.nil rfl rfl rfl)
    refine ⟨.inr rfl, ?_⟩
    rw [Try.results55]
    cases h
    exact ⟨_, _, _, _, _, ld_own (i := ⟨.arr 64 5, 64, 64, (eA64u8 (vrep 64 (0 : Int)))⟩) rfl rfl rfl hl117, hl117.c, .inl ⟨rfl, .inl rfl⟩, rfl, ⟨_, _, _, _, _, rfl, trivial, .inl ⟨rfl, .inl rfl⟩, rfl, rfl⟩⟩
def spec_DrawNestedSum_c : ACode := (.seq (.region 0 [q 2 (.asg 0 (.const (.int .i64 0)) 2), q 3 (.asg 0 (.const (.int .i64 0)) 2), q 4 (.asg 0 (.const (.int .i64 0)) 2), q 5 (.asg 0 (.const (.int .i64 0)) 2)] false) (.seq (.region 1 [q 9 (.mov (t 0)), q 10 (.call 0 (.func 116) [(t 9)]), q 6 (.asg 0 (t 10) 96)] false) (.seq (.region 2 [q 12 (.mov (t 6)), q 13 (.call 1 (.func 141) [(t 12)]), q 11 (.mov (t 13)), q 14 (.extract (t 11) 0), q 15 (.extract (t 11) 1), q 7 (.asg 0 (t 14) 2), q 8 (.asg 0 (t 15) 2)] false) (.seq (.region 3 [q 16 (.mov (t 7)), q 17 (.mov (t 8)), q 18 (.mov (t 6)), q 19 (.mov (t 6)), q 20 (.call 1 (.func 123) [(t 19), (.const (.int .i64 6))]), q 21 (.mov (t 6)), q 22 (.call 1 (.func 132) [(t 21), (.const (.int .i64 40))]), q 23 (.bslice 0 59 2 [(0, (t 20)), (1, (t 22))]), q 24 (.call 1 (.func 122) [(t 18), (t 23)]), q 25 (.mov (t 6)), q 26 (.call 1 (.func 123) [(t 25), (.const (.int .i64 8))]), q 2 (.asg 0 (t 16) 2), q 3 (.asg 0 (t 17) 2), q 4 (.asg 0 (t 24) 2), q 5 (.asg 0 (t 26) 2)] false) .ret))))
def spec_DrawNestedSum_L : Live := [(0, [0]), (1, [0]), (2, [6]), (3, [6, 7, 8])]
noncomputable def spec_DrawNestedSum (a0 : (List Int)) : Option (Int × Int × Int × Int) :=
  (Option.bind (spec_l01From a0) fun r1 => (Option.bind (spec_l08Draw_of_src r1) fun r3 => (Option.bind (spec_l01Next_of_src r3.2.2 6) fun r6 => (Option.bind (spec_l01Near_of_src r6.2 40) fun r9 => (Option.bind (spec_l01Pick_of_src r9.2 ([r6.1, r9.1])) fun r12 => (Option.bind (spec_l01Next_of_src r12.2 8) fun r15 => (some (r3.1, r3.2.1, r12.1, r15.1))))))))
theorem spec_DrawNestedSum_ok (a0 : (List Int)) (r : (Int × Int × Int × Int)) (h : spec_DrawNestedSum a0 = some r) : Den Try.prog 56 [(eSu8 a0)] { r := (.tuple [(i6 r.1), (i6 r.2.1), (i6 r.2.2.1), (i6 r.2.2.2)]) } := by
  refine den_of (rs := [(i6 r.1), (i6 r.2.1), (i6 r.2.2.1), (i6 r.2.2.2)]) (ac := spec_DrawNestedSum_c) (L := spec_DrawNestedSum_L) (n := 27) (m := [(13, 1), (20, 1), (22, 1), (24, 1), (26, 1)]) (c := Try.f56.body.getD .skip) good Try.func56 (by kernel_rfl) (by kernel_rfl) Try.ntmps56 rfl rfl (by kernel_rfl) rfl rfl ?_
  refine a_st (σ' := ⟨[(0, (eSu8 a0))], []⟩) (by kernel_rfl) ?_
  unfold spec_DrawNestedSum_c
  refine sr (vp (i6 0) rfl (vp (i6 0) rfl (vp (i6 0) rfl (vp (i6 0) rfl (nx ⟨[(0, (eSu8 a0))], []⟩ (by kernel_rfl) (sr (vp (eSu8 a0) rfl ?_)))))))
  obtain ⟨r1, hr2, h⟩ := bind_some h
  refine a_callF (args := [(eSu8 a0)]) (u := []) (u2 := []) (r := (ow 2000000)) (fs := [(0, [eT_Su8_i64_u64_Z r1])]) rfl rfl (spec_l01From_ok a0 r1 hr2) rfl rfl rfl (.inl rfl) rfl (vp (ow 2000) rfl (nx ⟨[(6, (ow 6))], [(6, (bk (eT_Su8_i64_u64_Z r1)))]⟩ (by kernel_rfl) (sr (vp (ow 6) rfl ?_))))
  obtain ⟨r3, hr4, h⟩ := bind_some h
  refine a_callM (args := [(.mutp (eT_Su8_i64_u64_Z r1))]) (i := 0) (id := 6) (r := (.tuple [(i6 r3.1), (i6 r3.2.1)])) (c := (eT_Su8_i64_u64_Z r3.2.2)) rfl rfl (spec_l08Draw_of_src_ok r1 r3 hr4) rfl trivial (vp (.tuple [(i6 r3.1), (i6 r3.2.1)]) rfl (vb (i6 r3.1) rfl rfl (vb (i6 r3.2.1) rfl rfl (vp (i6 r3.1) rfl (vp (i6 r3.2.1) rfl (nx ⟨[(6, (ow 6)), (7, (i6 r3.1)), (8, (i6 r3.2.1))], [(6, (bk (eT_Su8_i64_u64_Z r3.2.2)))]⟩ (by kernel_rfl) (sr (vp (i6 r3.1) rfl (vp (i6 r3.2.1) rfl ?_)))))))))
  refine vp (ow 6) rfl (vp (ow 6) rfl ?_)
  obtain ⟨r6, hr7, h⟩ := bind_some h
  refine a_callM (args := [(.mutp (eT_Su8_i64_u64_Z r3.2.2)), (i6 6)]) (i := 0) (id := 6) (r := (i6 r6.1)) (c := (eT_Su8_i64_u64_Z r6.2)) rfl rfl (spec_l01Next_of_src_ok r3.2.2 6 r6 hr7) rfl trivial (vp (ow 6) rfl ?_)
  obtain ⟨r9, hr10, h⟩ := bind_some h
  refine a_callM (args := [(.mutp (eT_Su8_i64_u64_Z r6.2)), (i6 40)]) (i := 0) (id := 6) (r := (i6 r9.1)) (c := (eT_Su8_i64_u64_Z r9.2)) rfl rfl (spec_l01Near_of_src_ok r6.2 40 r9 hr10) rfl trivial (vq (.sl 1 true (([r6.1, r9.1]).map (AV.int .i64))) rfl ⟨(Nat.le_of_ble_eq_true rfl), (Nat.le_of_ble_eq_true rfl), (all_cons ⟨(Nat.le_of_ble_eq_true rfl), rfl⟩ (all_cons ⟨(Nat.le_of_ble_eq_true rfl), rfl⟩ all_nil))⟩ ?_)
  obtain ⟨r12, hr13, h⟩ := bind_some h
  refine a_callM (args := [(.mutp (eT_Su8_i64_u64_Z r9.2)), (.sl 1 true (([r6.1, r9.1]).map (AV.int .i64)))]) (i := 0) (id := 6) (r := (i6 r12.1)) (c := (eT_Su8_i64_u64_Z r12.2)) rfl rfl (Den.argsM (spec_l01Pick_of_src_ok r9.2 ([r6.1, r9.1]) r12 hr13) rfl rfl (.cons (.loose _) .nil)) rfl trivial (vp (ow 6) rfl ?_)
  obtain ⟨r15, hr16, h⟩ := bind_some h
  refine a_callM (args := [(.mutp (eT_Su8_i64_u64_Z r12.2)), (i6 8)]) (i := 0) (id := 6) (r := (i6 r15.1)) (c := (eT_Su8_i64_u64_Z r15.2)) rfl rfl (spec_l01Next_of_src_ok r12.2 8 r15 hr16) rfl trivial (vp (i6 r3.1) rfl (vp (i6 r3.2.1) rfl (vp (i6 r12.1) rfl (vp (i6 r15.1) rfl (nx _ rfl (a_ret ?_))))))
  refine ⟨.inr rfl, ?_⟩
  rw [Try.results56]
  cases h
  exact ⟨_, _, _, _, _, rfl, trivial, .inl ⟨rfl, .inl rfl⟩, rfl, ⟨_, _, _, _, _, rfl, trivial, .inl ⟨rfl, .inl rfl⟩, rfl, ⟨_, _, _, _, _, rfl, trivial, .inl ⟨rfl, .inl rfl⟩, rfl, ⟨_, _, _, _, _, rfl, trivial, .inl ⟨rfl, .inl rfl⟩, rfl, rfl⟩⟩⟩⟩
end Go.Proofs.Ytkbnegemdlnncaa
