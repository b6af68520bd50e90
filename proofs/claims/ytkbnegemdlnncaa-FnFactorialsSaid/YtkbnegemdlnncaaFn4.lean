/- Functions of the program: plain Lean functions, and that the program computes them. Printed by gen.py. -/
import Derived.Test.YtkbnegemdlnncaaFnT
import Derived.Test.YtkbnegemdlnncaaFn1
import Derived.Test.YtkbnegemdlnncaaFn2
import Derived.Test.YtkbnegemdlnncaaFn3
namespace Go.Proofs.Ytkbnegemdlnncaa
open Go.Abs Go.Proofs
set_option linter.unusedSimpArgs false
set_option linter.unusedVariables false
set_option maxHeartbeats 16000000
attribute [local irreducible] Abs.acode Abs.aops Abs.aopsT Abs.thenK Abs.blockK

def spec_CarlitzFactorial_c : ACode := (.seq (.region 0 [q 4 (.alloc 25), q 5 (.asg 0 (.const (.int .i64 0)) 2)] false) (.seq (.seq (.region 1 [q 14 (.mov (t 0)), q 15 (.mov (t 1)), q 16 (.call 0 (.func 126) [(t 14), (t 15), (.const (.int .i64 0)), (.const (.int .i64 1000))]), q 6 (.asg 0 (t 16) 2)] false) (.seq (.region 2 [q 17 (.mov (t 6)), q 18 (.bin .neq 2 (t 17) (.const (.int .i64 0)))] false) (.cond (t 18) (.seq (.region 3 [q 19 (.build 25 []), q 20 (.mov (t 6)), ⟨none, .store 25 (t 4) (t 19), none, []⟩, q 5 (.asg 0 (t 20) 2)] false) .ret) .skip))) (.seq (.region 4 [q 21 (.call 0 (.func 133) []), q 7 (.alloc 25), ⟨none, .store 25 (t 7) (t 21), none, []⟩] false) (.seq (.seq (.region 5 [q 8 (.asg 0 (.const (.int .i64 0)) 2)] false) (.block 0 (.loop (.seq (.seq (.region 6 [q 22 (.mov (t 1)), q 23 (.bin .gtr 2 (t 22) (.const (.int .i64 0)))] false) (.cond (t 23) .skip (.exit 0))) (.seq (.block 1 (.seq (.seq (.region 8 [q 26 (.mov (t 1)), q 27 (.mov (t 0)), q 28 (.bin .rem 2 (t 26) (t 27)), q 9 (.asg 0 (t 28) 2)] false) (.block 2 (.loop (.seq (.seq (.region 9 [q 29 (.mov (t 9)), q 30 (.bin .gtr 2 (t 29) (.const (.int .i64 0)))] false) (.cond (t 30) .skip (.exit 2))) (.seq (.block 3 (.seq (.region 11 [q 34 (.mov (t 0)), q 35 (.mov (t 8)), q 36 (.call 0 (.func 130) [(t 34), (t 35), (.const (.bool false))]), q 33 (.mov (t 36)), q 37 (.extract (t 33) 0), q 38 (.extract (t 33) 1), q 10 (.alloc 25), ⟨none, .store 25 (t 10) (t 37), none, []⟩, q 11 (.asg 0 (t 38) 4)] false) (.seq (.seq (.region 12 [q 39 (.mov (t 11)), q 40 (.un .not (t 39))] false) (.cond (t 40) (.seq (.region 13 [q 41 (.build 25 []), ⟨none, .store 25 (t 4) (t 41), none, []⟩, q 5 (.asg 0 (.const (.int .i64 3)) 2)] false) .ret) .skip)) (.seq (.region 14 [q 43 (.mov (t 0)), q 44 (.load 25 (t 7)), q 45 (.load 25 (t 10)), q 46 (.call 0 (.func 105) [(t 43), (t 44), (t 45)]), q 42 (.mov (t 46)), q 47 (.extract (t 42) 0), q 48 (.extract (t 42) 1), q 12 (.alloc 25), ⟨none, .store 25 (t 12) (t 47), none, []⟩, q 13 (.asg 0 (t 48) 4)] false) (.seq (.seq (.region 15 [q 49 (.mov (t 13)), q 50 (.un .not (t 49))] false) (.cond (t 50) (.seq (.region 16 [q 51 (.build 25 []), ⟨none, .store 25 (t 4) (t 51), none, []⟩, q 5 (.asg 0 (.const (.int .i64 3)) 2)] false) .ret) .skip)) (.region 17 [q 52 (.load 25 (t 12)), ⟨none, .store 25 (t 7) (t 52), none, []⟩] false)))))) (.region 10 [q 31 (.mov (t 9)), q 32 (.bin .sub 2 (t 31) (.const (.int .i64 1))), q 9 (.asg 0 (t 32) 2)] false)))))) (.region 18 [q 53 (.mov (t 1)), q 54 (.mov (t 0)), q 55 (.bin .quo 2 (t 53) (t 54)), q 1 (.asg 0 (t 55) 2)] false))) (.region 7 [q 24 (.mov (t 8)), q 25 (.bin .add 2 (t 24) (.const (.int .i64 1))), q 8 (.asg 0 (t 25) 2)] false)))))) (.seq (.region 19 [q 56 (.load 25 (t 7)), ⟨none, .store 25 (t 4) (t 56), none, []⟩, q 5 (.asg 0 (.const (.int .i64 0)) 2)] false) .ret)))))
def spec_CarlitzFactorial_L : Live := [(0, [0, 1]), (1, [0, 1, 4]), (2, [0, 1, 4, 6]), (3, [4, 6]), (4, [0, 1, 4]), (5, [0, 1, 4, 7]), (6, [0, 1, 4, 7, 8]), (7, [0, 1, 4, 7, 8]), (8, [0, 1, 4, 7, 8]), (9, [0, 1, 4, 7, 8, 9]), (10, [0, 1, 4, 7, 8, 9]), (11, [0, 1, 4, 7, 8, 9]), (12, [0, 1, 4, 7, 8, 9, 10, 11]), (13, [4]), (14, [0, 1, 4, 7, 8, 9, 10]), (15, [0, 1, 4, 7, 8, 9, 12, 13]), (16, [4]), (17, [0, 1, 4, 7, 8, 9, 12]), (18, [0, 1, 4, 7, 8]), (19, [4, 7]), (100018, [0, 1, 4, 6, 18]), (100023, [0, 1, 4, 7, 8, 23]), (100030, [0, 1, 4, 7, 8, 9, 30]), (100040, [0, 1, 4, 7, 8, 9, 10, 40]), (100050, [0, 1, 4, 7, 8, 9, 12, 50])]
noncomputable def spec_CarlitzFactorial_l2 (a0 : Int) (x463 : Int) (x652 : Int) (x653 : (Vec Int 64)) : Option ((Int × (Vec Int 64)) ⊕ ((Vec Int 64) ⊕ ((Vec Int 64) × Int))) :=
  (if (decide (x652 > 0)) then (Option.bind (spec_l04Factorial a0 x463 false) fun r673 => (if (!r673.2) then (some (.inr ((.inr (((vrep 64 (0 : Int)), 3)))))) else (Option.bind (spec_l01Times a0 x653 r673.1) fun r679 => (if (!r679.2) then (some (.inr ((.inr (((vrep 64 (0 : Int)), 3)))))) else (some (.inl ((IntKind.i64.wrap (x652 - 1), r679.1)))))))) else (some (.inr (.inl x653))))
noncomputable def spec_CarlitzFactorial_l1 (a0 : Int) (x462 : Int) (x463 : Int) (x464 : (Vec Int 64)) : Option ((Int × Int × (Vec Int 64)) ⊕ ((Vec Int 64) ⊕ ((Vec Int 64) × Int))) :=
  (if (decide (x462 > 0)) then (Option.bind (α := ((Vec Int 64) ⊕ ((Vec Int 64) × Int))) ((ifp (a0 ≠ 0) ((loopM (fun s : (Int × (Vec Int 64)) => spec_CarlitzFactorial_l2 a0 x463 s.1 s.2) (Int.tmod x462 a0, x464))))) fun z => match z with | .inl x632 => (ifp (a0 ≠ 0) ((some (.inl ((IntKind.i64.wrap (Int.tdiv x462 a0), IntKind.i64.wrap (x463 + 1), x632)))))) | .inr r691 => (some (.inr (.inr r691)))) else (some (.inr (.inl x464))))
noncomputable def spec_CarlitzFactorial (a0 : Int) (a1 : Int) : Option ((Vec Int 64) × Int) :=
  (Option.bind (spec_l04Range a0 a1 0 1000) fun r1 => (if (r1 != 0) then (some (((vrep 64 (0 : Int)), r1))) else (Option.bind (spec_l01One) fun r4 => (Option.bind (α := ((Vec Int 64) ⊕ ((Vec Int 64) × Int))) ((loopM (fun s : (Int × Int × (Vec Int 64)) => spec_CarlitzFactorial_l1 a0 s.1 s.2.1 s.2.2) (a1, 0, r4))) fun z => match z with | .inl x347 => (some (x347, 0)) | .inr r696 => (some r696)))))
theorem spec_CarlitzFactorial_ok (a0 : Int) (a1 : Int) (r : ((Vec Int 64) × Int)) (h : spec_CarlitzFactorial a0 a1 = some r) : Den Try.prog 39 [(i6 a0), (i6 a1)] { r := (.tuple [(eA64u8 r.1), (i6 r.2)]) } := by
  refine den_of (rs := [(eA64u8 r.1), (i6 r.2)]) (ac := spec_CarlitzFactorial_c) (L := spec_CarlitzFactorial_L) (n := 57) (m := []) (c := Try.f39.body.getD .skip) good Try.func39 (by kernel_rfl) (by kernel_rfl) Try.ntmps39 rfl rfl (by kernel_rfl) rfl rfl ?_
  refine a_st (σ' := ⟨[(0, (i6 a0)), (1, (i6 a1))], []⟩) (by kernel_rfl) ?_
  unfold spec_CarlitzFactorial_c
  refine sr (vo 1400 (eA64u8 ((vrep 64 (0 : Int)))) rfl rfl (vp (i6 0) rfl (nx ⟨[(0, (i6 a0)), (1, (i6 a1)), (4, (ow 4))], [(4, (bk (eA64u8 ((vrep 64 (0 : Int))))))]⟩ (by kernel_rfl) (a_seq (sr (vp (i6 a0) rfl (vp (i6 a1) rfl ?_)))))))
  obtain ⟨r1, hr2, h⟩ := bind_some h
  refine a_call (args := [(i6 a0), (i6 a1), (i6 0), (i6 1000)]) (u := []) (r := (i6 r1)) rfl rfl (spec_l04Range_ok a0 a1 0 1000 r1 hr2) rfl (vp (i6 r1) rfl (nx ⟨[(0, (i6 a0)), (1, (i6 a1)), (4, (ow 4)), (6, (i6 r1))], [(4, (bk (eA64u8 ((vrep 64 (0 : Int))))))]⟩ (by kernel_rfl) (sr (vp (i6 r1) rfl (vp (.bool (r1 != 0)) rfl (nx ⟨[(0, (i6 a0)), (1, (i6 a1)), (4, (ow 4)), (6, (i6 r1)), (18, (.bool (r1 != 0)))], [(4, (bk (eA64u8 ((vrep 64 (0 : Int))))))]⟩ (by kernel_rfl) ?_))))))
  cases hb3 : (r1 != 0)
  · have h := ite_f hb3 h
    refine a_cond_f rfl (a_skip (a_next (σ' := ⟨[(0, (i6 a0)), (1, (i6 a1)), (4, (ow 4))], [(4, (bk (eA64u8 ((vrep 64 (0 : Int))))))]⟩) (by kernel_rfl) (sr ?_)))
    obtain ⟨r4, hr5, h⟩ := bind_some h
    refine a_call (args := []) (u := []) (r := (eA64u8 r4)) rfl rfl (spec_l01One_ok r4 hr5) rfl (vo 1700 (eA64u8 ((vrep 64 (0 : Int)))) rfl rfl (vs (eA64u8 r4) rfl rfl (fun _ => rfl) rfl rfl rfl rfl rfl rfl (nx ⟨[(0, (i6 a0)), (1, (i6 a1)), (4, (ow 4)), (7, (ow 7))], [(4, (bk (eA64u8 ((vrep 64 (0 : Int)))))), (7, (bk (eA64u8 r4)))]⟩ (by kernel_rfl) ?_)))
    obtain ⟨y348, hy349, hk350⟩ := bind_some h
    clear h
    refine a_join (emb := fun (s : (Vec Int 64)) => ⟨[(4, (ow 4)), (7, (ow 7))], [(4, (bk (eA64u8 ((vrep 64 (0 : Int)))))), (7, (bk (eA64u8 s)))]⟩) (pre := fun s => (.inl s) = y348) ?_ ?_
    · rintro x347 rfl
      have h := hk350
      refine a_st (σ' := ⟨[(4, (ow 4)), (7, (ow 7))], [(4, (bk (eA64u8 ((vrep 64 (0 : Int)))))), (7, (bk (eA64u8 x347)))]⟩) (by kernel_rfl) (sr (vl (eA64u8 x347) rfl rfl rfl rfl rfl rfl (vs (eA64u8 x347) rfl rfl (fun _ => rfl) rfl rfl rfl rfl rfl rfl (vp (i6 0) rfl (nx _ rfl (a_ret ?_))))))
      have hl695 : LdOk [] (eA64u8 x347) [] 64 true (eA64u8 x347) := (.nil rfl rfl rfl)
      refine ⟨.inr rfl, ?_⟩
      rw [Try.results39]
      cases h
      exact ⟨_, _, _, _, _, ld_own (i := ⟨.arr 64 5, 64, 64, (eA64u8 (vrep 64 (0 : Int)))⟩) rfl rfl rfl hl695, hl695.c, .inl ⟨rfl, .inl rfl⟩, rfl, ⟨_, _, _, _, _, rfl, trivial, .inl ⟨rfl, .inl rfl⟩, rfl, rfl⟩⟩
    · have h := hy349
      refine sr (vp (i6 0) rfl (nx ⟨[(0, (i6 a0)), (1, (i6 a1)), (4, (ow 4)), (7, (ow 7)), (8, (i6 0))], [(4, (bk (eA64u8 ((vrep 64 (0 : Int)))))), (7, (bk (eA64u8 r4)))]⟩ (by kernel_rfl) (a_block ?_)))
      refine a_loop (emb := fun (s : (Int × Int × (Vec Int 64))) => ⟨[(0, (i6 a0)), (1, (i6 s.1)), (4, (ow 4)), (7, (ow 7)), (8, (i6 s.2.1))], [(4, (bk (eA64u8 ((vrep 64 (0 : Int)))))), (7, (bk (eA64u8 s.2.2)))]⟩) (body := (fun s : (Int × Int × (Vec Int 64)) => spec_CarlitzFactorial_l1 a0 s.1 s.2.1 s.2.2)) (G := fun q => some q = some y348) h rfl ?_ (by kernel_rfl)
      rintro X576 ⟨x462, x463, x464⟩ x577 h hX578
      have h : spec_CarlitzFactorial_l1 a0 x462 x463 x464 = some x577 := h
      refine a_st (σ' := ⟨[(0, (i6 a0)), (1, (i6 x462)), (4, (ow 4)), (7, (ow 7)), (8, (i6 x463))], [(4, (bk (eA64u8 ((vrep 64 (0 : Int)))))), (7, (bk (eA64u8 x464)))]⟩) (by kernel_rfl) (a_seq (sr (vp (i6 x462) rfl (vp (.bool ((decide (x462 > 0)))) rfl (nx ⟨[(0, (i6 a0)), (1, (i6 x462)), (4, (ow 4)), (7, (ow 7)), (8, (i6 x463)), (23, (.bool ((decide (x462 > 0)))))], [(4, (bk (eA64u8 ((vrep 64 (0 : Int)))))), (7, (bk (eA64u8 x464)))]⟩ (by kernel_rfl) ?_)))))
      cases hb579 : (decide (x462 > 0))
      · have h := ite_f hb579 h
        refine a_cond_f rfl (a_exit (t_exit ?_))
        cases h
        have h := hX578
        refine t_exit (b_exit ?_)
        exact j_leaf x464 (Option.some.inj h) (by kernel_rfl)
      · have h := ite_t hb579 h
        refine a_cond_t rfl (a_skip (a_next (σ' := ⟨[(0, (i6 a0)), (1, (i6 x462)), (4, (ow 4)), (7, (ow 7)), (8, (i6 x463))], [(4, (bk (eA64u8 ((vrep 64 (0 : Int)))))), (7, (bk (eA64u8 x464)))]⟩) (by kernel_rfl) (a_seq (a_block ?_))))
        obtain ⟨y633, hy634, hk635⟩ := bind_some h
        clear h
        refine a_join (emb := fun (s : (Vec Int 64)) => ⟨[(0, (i6 a0)), (1, (i6 x462)), (4, (ow 4)), (7, (ow 7)), (8, (i6 x463))], [(4, (bk (eA64u8 ((vrep 64 (0 : Int)))))), (7, (bk (eA64u8 s)))]⟩) (pre := fun s => (.inl s) = y633) ?_ ?_
        · rintro x632 rfl
          have h := hk635
          refine a_st (σ' := ⟨[(0, (i6 a0)), (1, (i6 x462)), (4, (ow 4)), (7, (ow 7)), (8, (i6 x463))], [(4, (bk (eA64u8 ((vrep 64 (0 : Int)))))), (7, (bk (eA64u8 x632)))]⟩) (by kernel_rfl) (a_region (vp (i6 x462) rfl (vp (i6 a0) rfl ?_)))
          obtain ⟨hc690, h⟩ := ifp_some h
          refine vq (i6 (IntKind.i64.wrap (Int.tdiv x462 a0))) rfl hc690 (vp (i6 (IntKind.i64.wrap (Int.tdiv x462 a0))) rfl (a_nil (b_norm (a_next (σ' := ⟨[(0, (i6 a0)), (1, (i6 (IntKind.i64.wrap (Int.tdiv x462 a0)))), (4, (ow 4)), (7, (ow 7)), (8, (i6 x463))], [(4, (bk (eA64u8 ((vrep 64 (0 : Int)))))), (7, (bk (eA64u8 x632)))]⟩) (by kernel_rfl) (a_region (vp (i6 x463) rfl (vp (i6 (IntKind.i64.wrap (x463 + 1))) rfl (vp (i6 (IntKind.i64.wrap (x463 + 1))) rfl (a_nil ?_)))))))))
          cases h
          exact a_again (by kernel_rfl) hX578
        · have h := hy634
          refine sr (vp (i6 x462) rfl (vp (i6 a0) rfl ?_))
          obtain ⟨hc636, h⟩ := ifp_some h
          refine vq (i6 (Int.tmod x462 a0)) rfl hc636 (vp (i6 (Int.tmod x462 a0)) rfl (nx ⟨[(0, (i6 a0)), (1, (i6 x462)), (4, (ow 4)), (7, (ow 7)), (8, (i6 x463)), (9, (i6 (Int.tmod x462 a0)))], [(4, (bk (eA64u8 ((vrep 64 (0 : Int)))))), (7, (bk (eA64u8 x464)))]⟩ (by kernel_rfl) (a_block ?_)))
          refine a_loop (emb := fun (s : (Int × (Vec Int 64))) => ⟨[(0, (i6 a0)), (1, (i6 x462)), (4, (ow 4)), (7, (ow 7)), (8, (i6 x463)), (9, (i6 s.1))], [(4, (bk (eA64u8 ((vrep 64 (0 : Int)))))), (7, (bk (eA64u8 s.2)))]⟩) (body := (fun s : (Int × (Vec Int 64)) => spec_CarlitzFactorial_l2 a0 x463 s.1 s.2)) (G := fun q => some q = some y633) h rfl ?_ (by kernel_rfl)
          rintro X669 ⟨x652, x653⟩ x670 h hX671
          have h : spec_CarlitzFactorial_l2 a0 x463 x652 x653 = some x670 := h
          refine a_st (σ' := ⟨[(0, (i6 a0)), (1, (i6 x462)), (4, (ow 4)), (7, (ow 7)), (8, (i6 x463)), (9, (i6 x652))], [(4, (bk (eA64u8 ((vrep 64 (0 : Int)))))), (7, (bk (eA64u8 x653)))]⟩) (by kernel_rfl) (a_seq (sr (vp (i6 x652) rfl (vp (.bool ((decide (x652 > 0)))) rfl (nx ⟨[(0, (i6 a0)), (1, (i6 x462)), (4, (ow 4)), (7, (ow 7)), (8, (i6 x463)), (9, (i6 x652)), (30, (.bool ((decide (x652 > 0)))))], [(4, (bk (eA64u8 ((vrep 64 (0 : Int)))))), (7, (bk (eA64u8 x653)))]⟩ (by kernel_rfl) ?_)))))
          cases hb672 : (decide (x652 > 0))
          · have h := ite_f hb672 h
            refine a_cond_f rfl (a_exit (t_exit ?_))
            cases h
            have h := hX671
            refine t_exit (b_exit ?_)
            exact j_leaf x653 (Option.some.inj h) (by kernel_rfl)
          · have h := ite_t hb672 h
            refine a_cond_t rfl (a_skip (a_next (σ' := ⟨[(0, (i6 a0)), (1, (i6 x462)), (4, (ow 4)), (7, (ow 7)), (8, (i6 x463)), (9, (i6 x652))], [(4, (bk (eA64u8 ((vrep 64 (0 : Int)))))), (7, (bk (eA64u8 x653)))]⟩) (by kernel_rfl) (a_seq (a_block (sr (vp (i6 a0) rfl (vp (i6 x463) rfl ?_)))))))
            obtain ⟨r673, hr674, h⟩ := bind_some h
            refine a_call (args := [(i6 a0), (i6 x463), (.bool false)]) (u := []) (r := (.tuple [(eA64u8 r673.1), (.bool r673.2)])) rfl rfl (spec_l04Factorial_ok a0 x463 false r673 hr674) rfl (vp (.tuple [(eA64u8 r673.1), (.bool r673.2)]) rfl (vb (eA64u8 r673.1) rfl rfl (vb (.bool r673.2) rfl rfl (vo 2000 (eA64u8 ((vrep 64 (0 : Int)))) rfl rfl (vs (eA64u8 r673.1) rfl rfl (fun _ => rfl) rfl rfl rfl rfl rfl rfl (vp (.bool r673.2) rfl (nx ⟨[(0, (i6 a0)), (1, (i6 x462)), (4, (ow 4)), (7, (ow 7)), (8, (i6 x463)), (9, (i6 x652)), (10, (ow 10)), (11, (.bool r673.2))], [(4, (bk (eA64u8 ((vrep 64 (0 : Int)))))), (7, (bk (eA64u8 x653))), (10, (bk (eA64u8 r673.1)))]⟩ (by kernel_rfl) (a_seq (sr ?_)))))))))
            refine vp (.bool r673.2) rfl (vp (.bool (!r673.2)) rfl (nx ⟨[(0, (i6 a0)), (1, (i6 x462)), (4, (ow 4)), (7, (ow 7)), (8, (i6 x463)), (9, (i6 x652)), (10, (ow 10)), (40, (.bool (!r673.2)))], [(4, (bk (eA64u8 ((vrep 64 (0 : Int)))))), (7, (bk (eA64u8 x653))), (10, (bk (eA64u8 r673.1)))]⟩ (by kernel_rfl) ?_))
            cases hb676 : (!r673.2)
            · have h := ite_f hb676 h
              refine a_cond_f rfl (a_skip (a_next (σ' := ⟨[(0, (i6 a0)), (1, (i6 x462)), (4, (ow 4)), (7, (ow 7)), (8, (i6 x463)), (9, (i6 x652)), (10, (ow 10))], [(4, (bk (eA64u8 ((vrep 64 (0 : Int)))))), (7, (bk (eA64u8 x653))), (10, (bk (eA64u8 r673.1)))]⟩) (by kernel_rfl) (sr (vp (i6 a0) rfl (vl (eA64u8 x653) rfl rfl rfl rfl rfl rfl (vl (eA64u8 r673.1) rfl rfl rfl rfl rfl rfl ?_))))))
              obtain ⟨r679, hr680, h⟩ := bind_some h
              refine a_call (args := [(i6 a0), (eA64u8 x653), (eA64u8 r673.1)]) (u := []) (r := (.tuple [(eA64u8 r679.1), (.bool r679.2)])) rfl rfl (spec_l01Times_ok a0 x653 r673.1 r679 hr680) rfl (vp (.tuple [(eA64u8 r679.1), (.bool r679.2)]) rfl (vb (eA64u8 r679.1) rfl rfl (vb (.bool r679.2) rfl rfl (vo 2200 (eA64u8 ((vrep 64 (0 : Int)))) rfl rfl (vs (eA64u8 r679.1) rfl rfl (fun _ => rfl) rfl rfl rfl rfl rfl rfl (vp (.bool r679.2) rfl (nx ⟨[(0, (i6 a0)), (1, (i6 x462)), (4, (ow 4)), (7, (ow 7)), (8, (i6 x463)), (9, (i6 x652)), (12, (ow 12)), (13, (.bool r679.2))], [(4, (bk (eA64u8 ((vrep 64 (0 : Int)))))), (7, (bk (eA64u8 x653))), (12, (bk (eA64u8 r679.1)))]⟩ (by kernel_rfl) (a_seq (sr ?_)))))))))
              refine vp (.bool r679.2) rfl (vp (.bool (!r679.2)) rfl (nx ⟨[(0, (i6 a0)), (1, (i6 x462)), (4, (ow 4)), (7, (ow 7)), (8, (i6 x463)), (9, (i6 x652)), (12, (ow 12)), (50, (.bool (!r679.2)))], [(4, (bk (eA64u8 ((vrep 64 (0 : Int)))))), (7, (bk (eA64u8 x653))), (12, (bk (eA64u8 r679.1)))]⟩ (by kernel_rfl) ?_))
              cases hb682 : (!r679.2)
              · have h := ite_f hb682 h
                refine a_cond_f rfl (a_skip (a_next (σ' := ⟨[(0, (i6 a0)), (1, (i6 x462)), (4, (ow 4)), (7, (ow 7)), (8, (i6 x463)), (9, (i6 x652)), (12, (ow 12))], [(4, (bk (eA64u8 ((vrep 64 (0 : Int)))))), (7, (bk (eA64u8 x653))), (12, (bk (eA64u8 r679.1)))]⟩) (by kernel_rfl) (a_region (vl (eA64u8 r679.1) rfl rfl rfl rfl rfl rfl (vs (eA64u8 r679.1) rfl rfl (fun _ => rfl) rfl rfl rfl rfl rfl rfl (a_nil (b_norm (a_next (σ' := ⟨[(0, (i6 a0)), (1, (i6 x462)), (4, (ow 4)), (7, (ow 7)), (8, (i6 x463)), (9, (i6 x652))], [(4, (bk (eA64u8 ((vrep 64 (0 : Int)))))), (7, (bk (eA64u8 r679.1)))]⟩) (by kernel_rfl) (a_region ?_)))))))))
                refine vp (i6 x652) rfl (vp (i6 (IntKind.i64.wrap (x652 - 1))) rfl (vp (i6 (IntKind.i64.wrap (x652 - 1))) rfl (a_nil ?_)))
                cases h
                exact a_again (by kernel_rfl) hX671
              · have h := ite_t hb682 h
                refine a_cond_t rfl (sr (vq (eA64u8 ((vrep 64 (0 : Int)))) rfl ⟨⟨_, rfl, rfl⟩, all_nil⟩ (vs (eA64u8 ((vrep 64 (0 : Int)))) rfl rfl (fun _ => rfl) rfl rfl rfl rfl rfl rfl (vp (i6 3) rfl (nx _ rfl (a_ret (t_ret (b_ret (t_ret ?_)))))))))
                cases h
                have h := hX671
                refine t_ret (b_ret (t_ret ?_))
                cases h
                have h := hk635
                refine b_ret (t_ret ?_)
                cases h
                have h := hX578
                refine t_ret (b_ret (t_ret ?_))
                cases h
                have h := hk350
                have hl686 : LdOk [] (eA64u8 ((vrep 64 (0 : Int)))) [] 64 true (eA64u8 ((vrep 64 (0 : Int)))) := (.nil rfl rfl rfl)
                refine ⟨.inr rfl, ?_⟩
                rw [Try.results39]
                cases h
                exact ⟨_, _, _, _, _, ld_own (i := ⟨.arr 64 5, 64, 64, (eA64u8 (vrep 64 (0 : Int)))⟩) rfl rfl rfl hl686, hl686.c, .inl ⟨rfl, .inl rfl⟩, rfl, ⟨_, _, _, _, _, rfl, trivial, .inl ⟨rfl, .inl rfl⟩, rfl, rfl⟩⟩
            · have h := ite_t hb676 h
              refine a_cond_t rfl (sr (vq (eA64u8 ((vrep 64 (0 : Int)))) rfl ⟨⟨_, rfl, rfl⟩, all_nil⟩ (vs (eA64u8 ((vrep 64 (0 : Int)))) rfl rfl (fun _ => rfl) rfl rfl rfl rfl rfl rfl (vp (i6 3) rfl (nx _ rfl (a_ret (t_ret (b_ret (t_ret ?_)))))))))
              cases h
              have h := hX671
              refine t_ret (b_ret (t_ret ?_))
              cases h
              have h := hk635
              refine b_ret (t_ret ?_)
              cases h
              have h := hX578
              refine t_ret (b_ret (t_ret ?_))
              cases h
              have h := hk350
              have hl688 : LdOk [] (eA64u8 ((vrep 64 (0 : Int)))) [] 64 true (eA64u8 ((vrep 64 (0 : Int)))) := (.nil rfl rfl rfl)
              refine ⟨.inr rfl, ?_⟩
              rw [Try.results39]
              cases h
              exact ⟨_, _, _, _, _, ld_own (i := ⟨.arr 64 5, 64, 64, (eA64u8 (vrep 64 (0 : Int)))⟩) rfl rfl rfl hl688, hl688.c, .inl ⟨rfl, .inl rfl⟩, rfl, ⟨_, _, _, _, _, rfl, trivial, .inl ⟨rfl, .inl rfl⟩, rfl, rfl⟩⟩
  · have h := ite_t hb3 h
    refine a_cond_t rfl (sr (vq (eA64u8 ((vrep 64 (0 : Int)))) rfl ⟨⟨_, rfl, rfl⟩, all_nil⟩ (vp (i6 r1) rfl (vs (eA64u8 ((vrep 64 (0 : Int)))) rfl rfl (fun _ => rfl) rfl rfl rfl rfl rfl rfl (vp (i6 r1) rfl (nx _ rfl (a_ret (t_ret ?_))))))))
    have hl698 : LdOk [] (eA64u8 ((vrep 64 (0 : Int)))) [] 64 true (eA64u8 ((vrep 64 (0 : Int)))) := (.nil rfl rfl rfl)
    refine ⟨.inr rfl, ?_⟩
    rw [Try.results39]
    cases h
    exact ⟨_, _, _, _, _, ld_own (i := ⟨.arr 64 5, 64, 64, (eA64u8 (vrep 64 (0 : Int)))⟩) rfl rfl rfl hl698, hl698.c, .inl ⟨rfl, .inl rfl⟩, rfl, ⟨_, _, _, _, _, rfl, trivial, .inl ⟨rfl, .inl rfl⟩, rfl, rfl⟩⟩
def impl_isPoly_c1_of_p_c : ACode := (.seq (.region 0 [q 3 (.asg 0 (.const (.bool false)) 4)] false) (.seq (.region 1 [q 4 (.mov (t 0)), q 5 (.conv 5 2 (t 4)), q 6 (.load 2 (t 1)), q 7 (.bin .lss 2 (t 5) (t 6)), q 3 (.asg 0 (t 7) 4)] false) .ret))
def impl_isPoly_c1_of_p_L : Live := [(0, [0, 1]), (1, [0, 1])]
noncomputable def impl_isPoly_c1_of_p (a0 : Int) (a1 : Int) : Option Bool :=
  (some ((decide ((IntKind.i64.wrap a0) < a1))))
theorem impl_isPoly_c1_of_p_ok (a0 : Int) (a1 : Int) (r : Bool) (h : impl_isPoly_c1_of_p a0 a1 = some r) : Den Try.prog 182 [(b8 a0), (.ref (i6 a1) [] [])] { r := (.bool r) } := by
  refine den_of (rs := [(.bool r)]) (ac := impl_isPoly_c1_of_p_c) (L := impl_isPoly_c1_of_p_L) (n := 8) (m := []) (c := Try.f182.body.getD .skip) good Try.func182 (by kernel_rfl) (by kernel_rfl) Try.ntmps182 rfl rfl (by kernel_rfl) rfl rfl ?_
  refine a_st (σ' := ⟨[(0, (b8 a0)), (1, (.ref (i6 a1) [] []))], []⟩) (by kernel_rfl) ?_
  unfold impl_isPoly_c1_of_p_c
  refine sr (vp (.bool false) rfl (nx ⟨[(0, (b8 a0)), (1, (.ref (i6 a1) [] []))], []⟩ (by kernel_rfl) (sr (vp (b8 a0) rfl (vp (i6 (IntKind.i64.wrap a0)) rfl ?_)))))
  have hl1 : LdOk [] (i6 a1) [] 1 false (i6 a1) := (.nil rfl rfl rfl)
  refine vq (i6 a1) (ld_ref (i := ⟨.int .i64, 1, 8, (.int .i64 0)⟩) rfl rfl hl1) hl1.c (vp (.bool ((decide ((IntKind.i64.wrap a0) < a1)))) rfl (vp (.bool ((decide ((IntKind.i64.wrap a0) < a1)))) rfl (nx _ rfl (a_ret ?_))))
  refine ⟨.inr rfl, ?_⟩
  rw [Try.results182]
  cases h
  exact ⟨_, _, _, _, _, rfl, trivial, .inl ⟨rfl, .inl rfl⟩, rfl, rfl⟩
def impl_areAll_byte__c1_of_p_c : ACode := (.seq (.region 0 [q 3 (.asg 0 (.const (.bool false)) 4)] false) (.seq (.region 1 [q 4 (.load 149 (t 1)), q 5 (.mov (t 0)), q 6 (.call 0 (t 4) [(t 5)]), q 7 (.un .not (t 6)), q 3 (.asg 0 (t 7) 4)] false) .ret))
def impl_areAll_byte__c1_of_p_L : Live := [(0, [0, 1]), (1, [0, 1])]
noncomputable def impl_areAll_byte__c1_of_p (a0 : Int) (a1c0 : Int) : Option Bool :=
  (Option.bind (impl_isPoly_c1_of_p a0 a1c0) fun r2 => (some (!r2)))
theorem impl_areAll_byte__c1_of_p_ok (a0 : Int) (a1c0 : Int) (r : Bool) (h : impl_areAll_byte__c1_of_p a0 a1c0 = some r) : Den Try.prog 203 [(b8 a0), (.ref (.clo 182 [] [(.ref (i6 a1c0) [] [])]) [] [])] { r := (.bool r) } := by
  refine den_of (rs := [(.bool r)]) (ac := impl_areAll_byte__c1_of_p_c) (L := impl_areAll_byte__c1_of_p_L) (n := 8) (m := []) (c := Try.f203.body.getD .skip) good Try.func203 (by kernel_rfl) (by kernel_rfl) Try.ntmps203 rfl rfl (by kernel_rfl) rfl rfl ?_
  refine a_st (σ' := ⟨[(0, (b8 a0)), (1, (.ref (.clo 182 [] [(.ref (i6 a1c0) [] [])]) [] []))], []⟩) (by kernel_rfl) ?_
  unfold impl_areAll_byte__c1_of_p_c
  refine sr (vp (.bool false) rfl (nx ⟨[(0, (b8 a0)), (1, (.ref (.clo 182 [] [(.ref (i6 a1c0) [] [])]) [] []))], []⟩ (by kernel_rfl) (sr ?_)))
  have hl1 : LdOk [] (.clo 182 [] [(.ref (i6 a1c0) [] [])]) [] 1 false (.clo 182 [] [(.ref (i6 a1c0) [] [])]) := (.nil rfl rfl rfl)
  refine vq (.clo 182 [] [(.ref (i6 a1c0) [] [])]) (ld_ref (i := ⟨.other, 1, 8, (.raw .nilFunc)⟩) rfl rfl hl1) hl1.c (vp (b8 a0) rfl ?_)
  obtain ⟨r2, hr3, h⟩ := bind_some h
  refine a_call (args := [(b8 a0), (.ref (i6 a1c0) [] [])]) (u := []) (r := (.bool r2)) rfl rfl (impl_isPoly_c1_of_p_ok a0 a1c0 r2 hr3) rfl (vp (.bool (!r2)) rfl (vp (.bool (!r2)) rfl (nx _ rfl (a_ret ?_))))
  refine ⟨.inr rfl, ?_⟩
  rw [Try.results203]
  cases h
  exact ⟨_, _, _, _, _, rfl, trivial, .inl ⟨rfl, .inl rfl⟩, rfl, rfl⟩
def slices_IndexFunc_byte_byte_of_impl_areAll_byte__c1_p_c : ACode := (.seq (.region 0 [q 4 (.asg 0 (.const (.int .i64 0)) 3)] false) (.seq (.seq (.region 1 [q 6 (.mov (t 0)), q 7 (.blt 0 .len [(t 6)] [22]), q 8 (.mov (.const (.int .i64 0)))] false) (.block 0 (.loop (.seq (.region 2 [q 9 (.bin .lss 3 (t 8) (t 7))] false) (.seq (.cond (t 9) .skip (.exit 0)) (.seq (.block 1 (.seq (.region 3 [q 10 (.mov (t 8)), q 5 (.asg 0 (t 10) 3)] false) (.seq (.region 4 [q 11 (.mov (t 1)), q 12 (.mov (t 0)), q 13 (.mov (t 5)), q 14 (.indexAddr 22 (t 12) (t 13)), q 15 (.load 5 (t 14)), q 16 (.call 0 (t 11) [(t 15)])] false) (.cond (t 16) (.seq (.region 5 [q 17 (.mov (t 5)), q 4 (.asg 0 (t 17) 3)] false) .ret) .skip)))) (.region 6 [q 18 (.bin .add 3 (t 8) (.const (.int .i64 1))), q 8 (.mov (t 18))] false))))))) (.seq (.region 7 [q 4 (.asg 0 (.const (.int .i64 (-1))) 3)] false) .ret)))
def slices_IndexFunc_byte_byte_of_impl_areAll_byte__c1_p_L : Live := [(0, [0, 1]), (1, [0, 1]), (2, [0, 1, 7, 8]), (3, [0, 1, 7, 8]), (4, [0, 1, 5, 7, 8]), (5, [5]), (6, [0, 1, 7, 8]), (7, []), (100009, [0, 1, 7, 8, 9]), (100016, [0, 1, 5, 7, 8, 16])]
noncomputable def slices_IndexFunc_byte_byte_of_impl_areAll_byte__c1_p_l1 (a0 : (List Int)) (a1c0c0 : Int) (x33 : Int) : Option (Int ⊕ (Unit ⊕ Int)) :=
  (if (decide (x33 < (a0.length : Int))) then (ifp (0 ≤ x33 ∧ x33 < ((a0.length : Nat) : Int)) ((Option.bind (impl_areAll_byte__c1_of_p (rd a0 x33.toNat) a1c0c0) fun r46 => (if r46 then (some (.inr (.inr x33))) else (some (.inl (IntKind.i64.wrap (x33 + 1)))))))) else (some (.inr (((.inl ()))))))
noncomputable def slices_IndexFunc_byte_byte_of_impl_areAll_byte__c1_p (a0 : (List Int)) (a1c0c0 : Int) : Option Int :=
  (Option.bind (α := (Unit ⊕ Int)) ((loopM (fun s : Int => slices_IndexFunc_byte_byte_of_impl_areAll_byte__c1_p_l1 a0 a1c0c0 s) 0)) fun z => match z with | .inl _ => (some (-1)) | .inr r50 => (some r50))
theorem slices_IndexFunc_byte_byte_of_impl_areAll_byte__c1_p_ok (a0 : (List Int)) (a1c0c0 : Int) (r : Int) (h : slices_IndexFunc_byte_byte_of_impl_areAll_byte__c1_p a0 a1c0c0 = some r) : Den Try.prog 209 [(eSu8 a0), (.clo 203 [] [(.ref (.clo 182 [] [(.ref (i6 a1c0c0) [] [])]) [] [])])] { r := (i6 r) } := by
  refine den_of (rs := [(i6 r)]) (ac := slices_IndexFunc_byte_byte_of_impl_areAll_byte__c1_p_c) (L := slices_IndexFunc_byte_byte_of_impl_areAll_byte__c1_p_L) (n := 19) (m := []) (c := Try.f209.body.getD .skip) good Try.func209 (by kernel_rfl) (by kernel_rfl) Try.ntmps209 rfl rfl (by kernel_rfl) rfl rfl ?_
  refine a_st (σ' := ⟨[(0, (eSu8 a0)), (1, (.clo 203 [] [(.ref (.clo 182 [] [(.ref (i6 a1c0c0) [] [])]) [] [])]))], []⟩) (by kernel_rfl) ?_
  unfold slices_IndexFunc_byte_byte_of_impl_areAll_byte__c1_p_c
  refine sr (vp (i6 0) rfl (nx ⟨[(0, (eSu8 a0)), (1, (.clo 203 [] [(.ref (.clo 182 [] [(.ref (i6 a1c0c0) [] [])]) [] [])]))], []⟩ (by kernel_rfl) ?_))
  obtain ⟨y24, hy25, hk26⟩ := bind_some h
  clear h
  refine a_join (emb := fun (s : Unit) => ⟨[], []⟩) (pre := fun s => (.inl s) = y24) ?_ ?_
  · rintro _ rfl
    have h := hk26
    refine a_st (σ' := ⟨[], []⟩) (by kernel_rfl) (sr (vp (i6 (-1)) rfl (nx _ rfl (a_ret ?_))))
    refine ⟨.inr rfl, ?_⟩
    rw [Try.results209]
    cases h
    exact ⟨_, _, _, _, _, rfl, trivial, .inl ⟨rfl, .inl rfl⟩, rfl, rfl⟩
  · have h := hy25
    refine sr (vp (eSu8 a0) rfl (vq (i6 (a0.length : Int)) (len_run rfl rfl) trivial (vp (i6 0) rfl (nx ⟨[(0, (eSu8 a0)), (1, (.clo 203 [] [(.ref (.clo 182 [] [(.ref (i6 a1c0c0) [] [])]) [] [])])), (7, (i6 (a0.length : Int))), (8, (i6 0))], []⟩ (by kernel_rfl) (a_block ?_)))))
    refine a_loop (emb := fun (s : Int) => ⟨[(0, (eSu8 a0)), (1, (.clo 203 [] [(.ref (.clo 182 [] [(.ref (i6 a1c0c0) [] [])]) [] [])])), (7, (i6 (a0.length : Int))), (8, (i6 s))], []⟩) (body := (fun s : Int => slices_IndexFunc_byte_byte_of_impl_areAll_byte__c1_p_l1 a0 a1c0c0 s)) (G := fun q => some q = some y24) h rfl ?_ (by kernel_rfl)
    rintro X40 x33 x41 h hX42
    have h : slices_IndexFunc_byte_byte_of_impl_areAll_byte__c1_p_l1 a0 a1c0c0 x33 = some x41 := h
    refine a_st (σ' := ⟨[(0, (eSu8 a0)), (1, (.clo 203 [] [(.ref (.clo 182 [] [(.ref (i6 a1c0c0) [] [])]) [] [])])), (7, (i6 (a0.length : Int))), (8, (i6 x33))], []⟩) (by kernel_rfl) (sr (vp (.bool ((decide (x33 < (a0.length : Int))))) rfl (nx ⟨[(0, (eSu8 a0)), (1, (.clo 203 [] [(.ref (.clo 182 [] [(.ref (i6 a1c0c0) [] [])]) [] [])])), (7, (i6 (a0.length : Int))), (8, (i6 x33)), (9, (.bool ((decide (x33 < (a0.length : Int))))))], []⟩ (by kernel_rfl) (a_seq ?_))))
    cases hb43 : (decide (x33 < (a0.length : Int)))
    · have h := ite_f hb43 h
      refine a_cond_f rfl (a_exit (t_exit ?_))
      cases h
      have h := hX42
      refine t_exit (b_exit ?_)
      exact j_leaf () (Option.some.inj h) (by kernel_rfl)
    · have h := ite_t hb43 h
      refine a_cond_t rfl (a_skip (a_next (σ' := ⟨[(0, (eSu8 a0)), (1, (.clo 203 [] [(.ref (.clo 182 [] [(.ref (i6 a1c0c0) [] [])]) [] [])])), (7, (i6 (a0.length : Int))), (8, (i6 x33))], []⟩) (by kernel_rfl) (a_seq (a_block (sr (vp (i6 x33) rfl (vp (i6 x33) rfl (nx ⟨[(0, (eSu8 a0)), (1, (.clo 203 [] [(.ref (.clo 182 [] [(.ref (i6 a1c0c0) [] [])]) [] [])])), (5, (i6 x33)), (7, (i6 (a0.length : Int))), (8, (i6 x33))], []⟩ (by kernel_rfl) (sr ?_)))))))))
      refine vp (.clo 203 [] [(.ref (.clo 182 [] [(.ref (i6 a1c0c0) [] [])]) [] [])]) rfl (vp (eSu8 a0) rfl (vp (i6 x33) rfl ?_))
      obtain ⟨hc44, h⟩ := ifp_some h
      refine vq (.ref (.row 1 (a0.map (AV.int .u8))) [x33.toNat] [x33.toNat * 1]) rfl (lmap hc44) ?_
      have hl45 : LdOk [x33.toNat] (.row 1 (a0.map (AV.int .u8))) [x33.toNat * 1] 1 false (b8 (rd a0 x33.toNat)) := (.row (llt hc44) rfl (.nil rfl rfl rfl))
      refine vq (b8 (rd a0 x33.toNat)) (ld_ref (i := ⟨.int .u8, 1, 1, (.int .u8 0)⟩) rfl rfl hl45) hl45.c ?_
      obtain ⟨r46, hr47, h⟩ := bind_some h
      refine a_call (args := [(b8 (rd a0 x33.toNat)), (.ref (.clo 182 [] [(.ref (i6 a1c0c0) [] [])]) [] [])]) (u := []) (r := (.bool r46)) rfl rfl (impl_areAll_byte__c1_of_p_ok (rd a0 x33.toNat) a1c0c0 r46 hr47) rfl (nx ⟨[(0, (eSu8 a0)), (1, (.clo 203 [] [(.ref (.clo 182 [] [(.ref (i6 a1c0c0) [] [])]) [] [])])), (5, (i6 x33)), (7, (i6 (a0.length : Int))), (8, (i6 x33)), (16, (.bool r46))], []⟩ (by kernel_rfl) ?_)
      cases hb48 : r46
      · have h := ite_f hb48 h
        refine a_cond_f rfl (a_skip (b_norm (a_next (σ' := ⟨[(0, (eSu8 a0)), (1, (.clo 203 [] [(.ref (.clo 182 [] [(.ref (i6 a1c0c0) [] [])]) [] [])])), (7, (i6 (a0.length : Int))), (8, (i6 x33))], []⟩) (by kernel_rfl) (a_region (vp (i6 (IntKind.i64.wrap (x33 + 1))) rfl (vp (i6 (IntKind.i64.wrap (x33 + 1))) rfl (a_nil ?_)))))))
        cases h
        exact a_again (by kernel_rfl) hX42
      · have h := ite_t hb48 h
        refine a_cond_t rfl (sr (vp (i6 x33) rfl (vp (i6 x33) rfl (nx _ rfl (a_ret (b_ret (t_ret ?_)))))))
        cases h
        have h := hX42
        refine t_ret (b_ret (t_ret ?_))
        cases h
        have h := hk26
        refine ⟨.inr rfl, ?_⟩
        rw [Try.results209]
        cases h
        exact ⟨_, _, _, _, _, rfl, trivial, .inl ⟨rfl, .inl rfl⟩, rfl, rfl⟩
def slices_ContainsFunc_byte_byte_of_impl_areAll_byte__c1_p_c : ACode := (.seq (.region 0 [q 4 (.asg 0 (.const (.bool false)) 4)] false) (.seq (.region 1 [q 5 (.mov (t 0)), q 6 (.mov (t 1)), q 7 (.call 0 (.func 209) [(t 5), (t 6)]), q 8 (.bin .geq 3 (t 7) (.const (.int .i64 0))), q 4 (.asg 0 (t 8) 4)] false) .ret))
def slices_ContainsFunc_byte_byte_of_impl_areAll_byte__c1_p_L : Live := [(0, [0, 1]), (1, [0, 1])]
noncomputable def slices_ContainsFunc_byte_byte_of_impl_areAll_byte__c1_p (a0 : (List Int)) (a1c0c0 : Int) : Option Bool :=
  (Option.bind (slices_IndexFunc_byte_byte_of_impl_areAll_byte__c1_p a0 a1c0c0) fun r1 => (some ((decide (r1 ≥ 0)))))
theorem slices_ContainsFunc_byte_byte_of_impl_areAll_byte__c1_p_ok (a0 : (List Int)) (a1c0c0 : Int) (r : Bool) (h : slices_ContainsFunc_byte_byte_of_impl_areAll_byte__c1_p a0 a1c0c0 = some r) : Den Try.prog 202 [(eSu8 a0), (.clo 203 [] [(.ref (.clo 182 [] [(.ref (i6 a1c0c0) [] [])]) [] [])])] { r := (.bool r) } := by
  refine den_of (rs := [(.bool r)]) (ac := slices_ContainsFunc_byte_byte_of_impl_areAll_byte__c1_p_c) (L := slices_ContainsFunc_byte_byte_of_impl_areAll_byte__c1_p_L) (n := 9) (m := []) (c := Try.f202.body.getD .skip) good Try.func202 (by kernel_rfl) (by kernel_rfl) Try.ntmps202 rfl rfl (by kernel_rfl) rfl rfl ?_
  refine a_st (σ' := ⟨[(0, (eSu8 a0)), (1, (.clo 203 [] [(.ref (.clo 182 [] [(.ref (i6 a1c0c0) [] [])]) [] [])]))], []⟩) (by kernel_rfl) ?_
  unfold slices_ContainsFunc_byte_byte_of_impl_areAll_byte__c1_p_c
  refine sr (vp (.bool false) rfl (nx ⟨[(0, (eSu8 a0)), (1, (.clo 203 [] [(.ref (.clo 182 [] [(.ref (i6 a1c0c0) [] [])]) [] [])]))], []⟩ (by kernel_rfl) (sr (vp (eSu8 a0) rfl (vp (.clo 203 [] [(.ref (.clo 182 [] [(.ref (i6 a1c0c0) [] [])]) [] [])]) rfl ?_)))))
  obtain ⟨r1, hr2, h⟩ := bind_some h
  refine a_call (args := [(eSu8 a0), (.clo 203 [] [(.ref (.clo 182 [] [(.ref (i6 a1c0c0) [] [])]) [] [])])]) (u := []) (r := (i6 r1)) rfl rfl (slices_IndexFunc_byte_byte_of_impl_areAll_byte__c1_p_ok a0 a1c0c0 r1 hr2) rfl (vp (.bool ((decide (r1 ≥ 0)))) rfl (vp (.bool ((decide (r1 ≥ 0)))) rfl (nx _ rfl (a_ret ?_))))
  refine ⟨.inr rfl, ?_⟩
  rw [Try.results202]
  cases h
  exact ⟨_, _, _, _, _, rfl, trivial, .inl ⟨rfl, .inl rfl⟩, rfl, rfl⟩
def impl_areAll_byte_of_impl_isPoly_c1_p_c : ACode := (.seq (.region 0 [q 3 (.box 149 (t 1)), q 4 (.asg 0 (.const (.bool false)) 4)] false) (.seq (.region 1 [q 5 (.mov (t 0)), q 6 (.mkfn 203 [] [(t 3)]), q 7 (.call 0 (.func 202) [(t 5), (t 6)]), q 8 (.un .not (t 7)), q 4 (.asg 0 (t 8) 4)] false) .ret))
def impl_areAll_byte_of_impl_isPoly_c1_p_L : Live := [(0, [0, 1]), (1, [0, 3])]
noncomputable def impl_areAll_byte_of_impl_isPoly_c1_p (a0 : (List Int)) (a1c0 : Int) : Option Bool :=
  (Option.bind (slices_ContainsFunc_byte_byte_of_impl_areAll_byte__c1_p a0 a1c0) fun r1 => (some (!r1)))
theorem impl_areAll_byte_of_impl_isPoly_c1_p_ok (a0 : (List Int)) (a1c0 : Int) (r : Bool) (h : impl_areAll_byte_of_impl_isPoly_c1_p a0 a1c0 = some r) : Den Try.prog 181 [(eSu8 a0), (.clo 182 [] [(.ref (i6 a1c0) [] [])])] { r := (.bool r) } := by
  refine den_of (rs := [(.bool r)]) (ac := impl_areAll_byte_of_impl_isPoly_c1_p_c) (L := impl_areAll_byte_of_impl_isPoly_c1_p_L) (n := 9) (m := []) (c := Try.f181.body.getD .skip) good Try.func181 (by kernel_rfl) (by kernel_rfl) Try.ntmps181 rfl rfl (by kernel_rfl) rfl rfl ?_
  refine a_st (σ' := ⟨[(0, (eSu8 a0)), (1, (.clo 182 [] [(.ref (i6 a1c0) [] [])]))], []⟩) (by kernel_rfl) ?_
  unfold impl_areAll_byte_of_impl_isPoly_c1_p_c
  refine sr (vo 1300 (.clo 182 [] [(.ref (i6 a1c0) [] [])]) rfl rfl (vp (.bool false) rfl (nx ⟨[(0, (eSu8 a0)), (3, (ow 3))], [(3, (bk (.clo 182 [] [(.ref (i6 a1c0) [] [])])))]⟩ (by kernel_rfl) (sr (vp (eSu8 a0) rfl (vu (.clo 203 [] [(.ref (.clo 182 [] [(.ref (i6 a1c0) [] [])]) [] [])]) [(3, (bf (.clo 182 [] [(.ref (i6 a1c0) [] [])])))] rfl trivial rfl ?_))))))
  obtain ⟨r1, hr2, h⟩ := bind_some h
  refine a_call (args := [(eSu8 a0), (.clo 203 [] [(.ref (.clo 182 [] [(.ref (i6 a1c0) [] [])]) [] [])])]) (u := []) (r := (.bool r1)) rfl rfl (slices_ContainsFunc_byte_byte_of_impl_areAll_byte__c1_p_ok a0 a1c0 r1 hr2) rfl (vp (.bool (!r1)) rfl (vp (.bool (!r1)) rfl (nx _ rfl (a_ret ?_))))
  refine ⟨.inr rfl, ?_⟩
  rw [Try.results181]
  cases h
  exact ⟨_, _, _, _, _, rfl, trivial, .inl ⟨rfl, .inl rfl⟩, rfl, rfl⟩
def impl_isPoly_c : ACode := (.seq (.region 0 [q 2 (.box 2 (t 0)), q 3 (.box 25 (t 1)), q 4 (.asg 0 (.const (.bool false)) 4)] false) (.seq (.region 1 [q 5 (.slice 25 (t 3) none none none), q 6 (.mkfn 182 [] [(t 2)]), q 7 (.call 0 (.func 181) [(t 5), (t 6)]), q 4 (.asg 0 (t 7) 4)] false) .ret))
def impl_isPoly_L : Live := [(0, [0, 1]), (1, [2, 3])]
noncomputable def impl_isPoly (a0 : Int) (a1 : (Vec Int 64)) : Option Bool :=
  (Option.bind (impl_areAll_byte_of_impl_isPoly_c1_p a1.1 a0) fun r1 => (some r1))
theorem impl_isPoly_ok (a0 : Int) (a1 : (Vec Int 64)) (r : Bool) (h : impl_isPoly a0 a1 = some r) : Den Try.prog 107 [(i6 a0), (eA64u8 a1)] { r := (.bool r) } := by
  refine den_of (rs := [(.bool r)]) (ac := impl_isPoly_c) (L := impl_isPoly_L) (n := 8) (m := []) (c := Try.f107.body.getD .skip) good Try.func107 (by kernel_rfl) (by kernel_rfl) Try.ntmps107 rfl rfl (by kernel_rfl) rfl rfl ?_
  refine a_st (σ' := ⟨[(0, (i6 a0)), (1, (eA64u8 a1))], []⟩) (by kernel_rfl) ?_
  unfold impl_isPoly_c
  refine sr (vo 1200 (i6 a0) rfl rfl (vo 1300 (eA64u8 a1) rfl rfl (vp (.bool false) rfl (nx ⟨[(2, (ow 2)), (3, (ow 3))], [(2, (bk (i6 a0))), (3, (bk (eA64u8 a1)))]⟩ (by kernel_rfl) (sr (vu (.sl 1 true (a1.1.map (AV.int .u8))) [(3, (bf (eA64u8 a1)))] rfl ⟨rfl, trivial, rfl, rfl⟩ rfl (vu (.clo 182 [] [(.ref (i6 a0) [] [])]) [(2, (bf (i6 a0)))] rfl trivial rfl ?_)))))))
  obtain ⟨r1, hr2, h⟩ := bind_some h
  refine a_call (args := [(.sl 1 true (a1.1.map (AV.int .u8))), (.clo 182 [] [(.ref (i6 a0) [] [])])]) (u := []) (r := (.bool r1)) rfl rfl (Den.args (impl_areAll_byte_of_impl_isPoly_c1_p_ok a1.1 a0 r1 hr2) rfl rfl (.cons (.loose _) (.cons (.refl _) .nil))) rfl (vp (.bool r1) rfl (nx _ rfl (a_ret ?_)))
  refine ⟨.inr rfl, ?_⟩
  rw [Try.results107]
  cases h
  exact ⟨_, _, _, _, _, rfl, trivial, .inl ⟨rfl, .inl rfl⟩, rfl, rfl⟩
def impl_polysCode_c1_of_p_c : ACode := (.seq (.region 0 [q 2 (.box 25 (t 0)), q 3 (.asg 0 (.const (.bool false)) 4)] false) (.seq (.region 1 [q 4 (.load 2 (t 1)), q 5 (.load 25 (t 2)), q 6 (.call 0 (.func 107) [(t 4), (t 5)]), q 3 (.asg 0 (t 6) 4)] false) .ret))
def impl_polysCode_c1_of_p_L : Live := [(0, [0, 1]), (1, [1, 2])]
noncomputable def impl_polysCode_c1_of_p (a0 : (Vec Int 64)) (a1 : Int) : Option Bool :=
  (Option.bind (impl_isPoly a1 a0) fun r3 => (some r3))
theorem impl_polysCode_c1_of_p_ok (a0 : (Vec Int 64)) (a1 : Int) (r : Bool) (h : impl_polysCode_c1_of_p a0 a1 = some r) : Den Try.prog 179 [(eA64u8 a0), (.ref (i6 a1) [] [])] { r := (.bool r) } := by
  refine den_of (rs := [(.bool r)]) (ac := impl_polysCode_c1_of_p_c) (L := impl_polysCode_c1_of_p_L) (n := 7) (m := []) (c := Try.f179.body.getD .skip) good Try.func179 (by kernel_rfl) (by kernel_rfl) Try.ntmps179 rfl rfl (by kernel_rfl) rfl rfl ?_
  refine a_st (σ' := ⟨[(0, (eA64u8 a0)), (1, (.ref (i6 a1) [] []))], []⟩) (by kernel_rfl) ?_
  unfold impl_polysCode_c1_of_p_c
  refine sr (vo 1200 (eA64u8 a0) rfl rfl (vp (.bool false) rfl (nx ⟨[(1, (.ref (i6 a1) [] [])), (2, (ow 2))], [(2, (bk (eA64u8 a0)))]⟩ (by kernel_rfl) (sr ?_))))
  have hl1 : LdOk [] (i6 a1) [] 1 false (i6 a1) := (.nil rfl rfl rfl)
  refine vq (i6 a1) (ld_ref (i := ⟨.int .i64, 1, 8, (.int .i64 0)⟩) rfl rfl hl1) hl1.c (vl (eA64u8 a0) rfl rfl rfl rfl rfl rfl ?_)
  obtain ⟨r3, hr4, h⟩ := bind_some h
  refine a_call (args := [(i6 a1), (eA64u8 a0)]) (u := []) (r := (.bool r3)) rfl rfl (impl_isPoly_ok a1 a0 r3 hr4) rfl (vp (.bool r3) rfl (nx _ rfl (a_ret ?_)))
  refine ⟨.inr rfl, ?_⟩
  rw [Try.results179]
  cases h
  exact ⟨_, _, _, _, _, rfl, trivial, .inl ⟨rfl, .inl rfl⟩, rfl, rfl⟩
def impl_areAll_impl_Poly__c1_of_p_c : ACode := (.seq (.region 0 [q 2 (.box 25 (t 0)), q 3 (.asg 0 (.const (.bool false)) 4)] false) (.seq (.region 1 [q 4 (.load 147 (t 1)), q 5 (.load 25 (t 2)), q 6 (.call 0 (t 4) [(t 5)]), q 7 (.un .not (t 6)), q 3 (.asg 0 (t 7) 4)] false) .ret))
def impl_areAll_impl_Poly__c1_of_p_L : Live := [(0, [0, 1]), (1, [1, 2])]
noncomputable def impl_areAll_impl_Poly__c1_of_p (a0 : (Vec Int 64)) (a1c0 : Int) : Option Bool :=
  (Option.bind (impl_polysCode_c1_of_p a0 a1c0) fun r3 => (some (!r3)))
theorem impl_areAll_impl_Poly__c1_of_p_ok (a0 : (Vec Int 64)) (a1c0 : Int) (r : Bool) (h : impl_areAll_impl_Poly__c1_of_p a0 a1c0 = some r) : Den Try.prog 201 [(eA64u8 a0), (.ref (.clo 179 [] [(.ref (i6 a1c0) [] [])]) [] [])] { r := (.bool r) } := by
  refine den_of (rs := [(.bool r)]) (ac := impl_areAll_impl_Poly__c1_of_p_c) (L := impl_areAll_impl_Poly__c1_of_p_L) (n := 8) (m := []) (c := Try.f201.body.getD .skip) good Try.func201 (by kernel_rfl) (by kernel_rfl) Try.ntmps201 rfl rfl (by kernel_rfl) rfl rfl ?_
  refine a_st (σ' := ⟨[(0, (eA64u8 a0)), (1, (.ref (.clo 179 [] [(.ref (i6 a1c0) [] [])]) [] []))], []⟩) (by kernel_rfl) ?_
  unfold impl_areAll_impl_Poly__c1_of_p_c
  refine sr (vo 1200 (eA64u8 a0) rfl rfl (vp (.bool false) rfl (nx ⟨[(1, (.ref (.clo 179 [] [(.ref (i6 a1c0) [] [])]) [] [])), (2, (ow 2))], [(2, (bk (eA64u8 a0)))]⟩ (by kernel_rfl) (sr ?_))))
  have hl1 : LdOk [] (.clo 179 [] [(.ref (i6 a1c0) [] [])]) [] 1 false (.clo 179 [] [(.ref (i6 a1c0) [] [])]) := (.nil rfl rfl rfl)
  refine vq (.clo 179 [] [(.ref (i6 a1c0) [] [])]) (ld_ref (i := ⟨.other, 1, 8, (.raw .nilFunc)⟩) rfl rfl hl1) hl1.c (vl (eA64u8 a0) rfl rfl rfl rfl rfl rfl ?_)
  obtain ⟨r3, hr4, h⟩ := bind_some h
  refine a_call (args := [(eA64u8 a0), (.ref (i6 a1c0) [] [])]) (u := []) (r := (.bool r3)) rfl rfl (impl_polysCode_c1_of_p_ok a0 a1c0 r3 hr4) rfl (vp (.bool (!r3)) rfl (vp (.bool (!r3)) rfl (nx _ rfl (a_ret ?_))))
  refine ⟨.inr rfl, ?_⟩
  rw [Try.results201]
  cases h
  exact ⟨_, _, _, _, _, rfl, trivial, .inl ⟨rfl, .inl rfl⟩, rfl, rfl⟩
def slices_IndexFunc_impl_Poly_impl_Poly_of_impl_areAll_impl_Poly__c1_p_c : ACode := (.seq (.region 0 [q 4 (.asg 0 (.const (.int .i64 0)) 3)] false) (.seq (.seq (.region 1 [q 6 (.mov (t 0)), q 7 (.blt 0 .len [(t 6)] [55]), q 8 (.mov (.const (.int .i64 0)))] false) (.block 0 (.loop (.seq (.region 2 [q 9 (.bin .lss 3 (t 8) (t 7))] false) (.seq (.cond (t 9) .skip (.exit 0)) (.seq (.block 1 (.seq (.region 3 [q 10 (.mov (t 8)), q 5 (.asg 0 (t 10) 3)] false) (.seq (.region 4 [q 11 (.mov (t 1)), q 12 (.mov (t 0)), q 13 (.mov (t 5)), q 14 (.indexAddr 55 (t 12) (t 13)), q 15 (.load 25 (t 14)), q 16 (.call 0 (t 11) [(t 15)])] false) (.cond (t 16) (.seq (.region 5 [q 17 (.mov (t 5)), q 4 (.asg 0 (t 17) 3)] false) .ret) .skip)))) (.region 6 [q 18 (.bin .add 3 (t 8) (.const (.int .i64 1))), q 8 (.mov (t 18))] false))))))) (.seq (.region 7 [q 4 (.asg 0 (.const (.int .i64 (-1))) 3)] false) .ret)))
def slices_IndexFunc_impl_Poly_impl_Poly_of_impl_areAll_impl_Poly__c1_p_L : Live := [(0, [0, 1]), (1, [0, 1]), (2, [0, 1, 7, 8]), (3, [0, 1, 7, 8]), (4, [0, 1, 5, 7, 8]), (5, [5]), (6, [0, 1, 7, 8]), (7, []), (100009, [0, 1, 7, 8, 9]), (100016, [0, 1, 5, 7, 8, 16])]
noncomputable def slices_IndexFunc_impl_Poly_impl_Poly_of_impl_areAll_impl_Poly__c1_p_l1 (a0 : (List (Vec Int 64))) (a1c0c0 : Int) (x33 : Int) : Option (Int ⊕ (Unit ⊕ Int)) :=
  (if (decide (x33 < (a0.length : Int))) then (ifp (0 ≤ x33 ∧ x33 < ((a0.length : Nat) : Int)) ((Option.bind (impl_areAll_impl_Poly__c1_of_p (rd a0 x33.toNat) a1c0c0) fun r46 => (if r46 then (some (.inr (.inr x33))) else (some (.inl (IntKind.i64.wrap (x33 + 1)))))))) else (some (.inr (((.inl ()))))))
noncomputable def slices_IndexFunc_impl_Poly_impl_Poly_of_impl_areAll_impl_Poly__c1_p (a0 : (List (Vec Int 64))) (a1c0c0 : Int) : Option Int :=
  (Option.bind (α := (Unit ⊕ Int)) ((loopM (fun s : Int => slices_IndexFunc_impl_Poly_impl_Poly_of_impl_areAll_impl_Poly__c1_p_l1 a0 a1c0c0 s) 0)) fun z => match z with | .inl _ => (some (-1)) | .inr r50 => (some r50))
theorem slices_IndexFunc_impl_Poly_impl_Poly_of_impl_areAll_impl_Poly__c1_p_ok (a0 : (List (Vec Int 64))) (a1c0c0 : Int) (r : Int) (h : slices_IndexFunc_impl_Poly_impl_Poly_of_impl_areAll_impl_Poly__c1_p a0 a1c0c0 = some r) : Den Try.prog 208 [(eSA64u8 a0), (.clo 201 [] [(.ref (.clo 179 [] [(.ref (i6 a1c0c0) [] [])]) [] [])])] { r := (i6 r) } := by
  refine den_of (rs := [(i6 r)]) (ac := slices_IndexFunc_impl_Poly_impl_Poly_of_impl_areAll_impl_Poly__c1_p_c) (L := slices_IndexFunc_impl_Poly_impl_Poly_of_impl_areAll_impl_Poly__c1_p_L) (n := 19) (m := []) (c := Try.f208.body.getD .skip) good Try.func208 (by kernel_rfl) (by kernel_rfl) Try.ntmps208 rfl rfl (by kernel_rfl) rfl rfl ?_
  refine a_st (σ' := ⟨[(0, (eSA64u8 a0)), (1, (.clo 201 [] [(.ref (.clo 179 [] [(.ref (i6 a1c0c0) [] [])]) [] [])]))], []⟩) (by kernel_rfl) ?_
  unfold slices_IndexFunc_impl_Poly_impl_Poly_of_impl_areAll_impl_Poly__c1_p_c
  refine sr (vp (i6 0) rfl (nx ⟨[(0, (eSA64u8 a0)), (1, (.clo 201 [] [(.ref (.clo 179 [] [(.ref (i6 a1c0c0) [] [])]) [] [])]))], []⟩ (by kernel_rfl) ?_))
  obtain ⟨y24, hy25, hk26⟩ := bind_some h
  clear h
  refine a_join (emb := fun (s : Unit) => ⟨[], []⟩) (pre := fun s => (.inl s) = y24) ?_ ?_
  · rintro _ rfl
    have h := hk26
    refine a_st (σ' := ⟨[], []⟩) (by kernel_rfl) (sr (vp (i6 (-1)) rfl (nx _ rfl (a_ret ?_))))
    refine ⟨.inr rfl, ?_⟩
    rw [Try.results208]
    cases h
    exact ⟨_, _, _, _, _, rfl, trivial, .inl ⟨rfl, .inl rfl⟩, rfl, rfl⟩
  · have h := hy25
    refine sr (vp (eSA64u8 a0) rfl (vq (i6 (a0.length : Int)) (len_run rfl rfl) trivial (vp (i6 0) rfl (nx ⟨[(0, (eSA64u8 a0)), (1, (.clo 201 [] [(.ref (.clo 179 [] [(.ref (i6 a1c0c0) [] [])]) [] [])])), (7, (i6 (a0.length : Int))), (8, (i6 0))], []⟩ (by kernel_rfl) (a_block ?_)))))
    refine a_loop (emb := fun (s : Int) => ⟨[(0, (eSA64u8 a0)), (1, (.clo 201 [] [(.ref (.clo 179 [] [(.ref (i6 a1c0c0) [] [])]) [] [])])), (7, (i6 (a0.length : Int))), (8, (i6 s))], []⟩) (body := (fun s : Int => slices_IndexFunc_impl_Poly_impl_Poly_of_impl_areAll_impl_Poly__c1_p_l1 a0 a1c0c0 s)) (G := fun q => some q = some y24) h rfl ?_ (by kernel_rfl)
    rintro X40 x33 x41 h hX42
    have h : slices_IndexFunc_impl_Poly_impl_Poly_of_impl_areAll_impl_Poly__c1_p_l1 a0 a1c0c0 x33 = some x41 := h
    refine a_st (σ' := ⟨[(0, (eSA64u8 a0)), (1, (.clo 201 [] [(.ref (.clo 179 [] [(.ref (i6 a1c0c0) [] [])]) [] [])])), (7, (i6 (a0.length : Int))), (8, (i6 x33))], []⟩) (by kernel_rfl) (sr (vp (.bool ((decide (x33 < (a0.length : Int))))) rfl (nx ⟨[(0, (eSA64u8 a0)), (1, (.clo 201 [] [(.ref (.clo 179 [] [(.ref (i6 a1c0c0) [] [])]) [] [])])), (7, (i6 (a0.length : Int))), (8, (i6 x33)), (9, (.bool ((decide (x33 < (a0.length : Int))))))], []⟩ (by kernel_rfl) (a_seq ?_))))
    cases hb43 : (decide (x33 < (a0.length : Int)))
    · have h := ite_f hb43 h
      refine a_cond_f rfl (a_exit (t_exit ?_))
      cases h
      have h := hX42
      refine t_exit (b_exit ?_)
      exact j_leaf () (Option.some.inj h) (by kernel_rfl)
    · have h := ite_t hb43 h
      refine a_cond_t rfl (a_skip (a_next (σ' := ⟨[(0, (eSA64u8 a0)), (1, (.clo 201 [] [(.ref (.clo 179 [] [(.ref (i6 a1c0c0) [] [])]) [] [])])), (7, (i6 (a0.length : Int))), (8, (i6 x33))], []⟩) (by kernel_rfl) (a_seq (a_block (sr (vp (i6 x33) rfl (vp (i6 x33) rfl (nx ⟨[(0, (eSA64u8 a0)), (1, (.clo 201 [] [(.ref (.clo 179 [] [(.ref (i6 a1c0c0) [] [])]) [] [])])), (5, (i6 x33)), (7, (i6 (a0.length : Int))), (8, (i6 x33))], []⟩ (by kernel_rfl) (sr ?_)))))))))
      refine vp (.clo 201 [] [(.ref (.clo 179 [] [(.ref (i6 a1c0c0) [] [])]) [] [])]) rfl (vp (eSA64u8 a0) rfl (vp (i6 x33) rfl ?_))
      obtain ⟨hc44, h⟩ := ifp_some h
      refine vq (.ref (.row 64 (a0.map eA64u8)) [x33.toNat] [x33.toNat * 64]) rfl (lmap hc44) ?_
      have hl45 : LdOk [x33.toNat] (.row 64 (a0.map eA64u8)) [x33.toNat * 64] 64 true (eA64u8 (rd a0 x33.toNat)) := (.row (llt hc44) rfl (.nil rfl rfl rfl))
      refine vq (eA64u8 (rd a0 x33.toNat)) (ld_ref (i := ⟨.arr 64 5, 64, 64, (eA64u8 (vrep 64 (0 : Int)))⟩) rfl rfl hl45) hl45.c ?_
      obtain ⟨r46, hr47, h⟩ := bind_some h
      refine a_call (args := [(eA64u8 (rd a0 x33.toNat)), (.ref (.clo 179 [] [(.ref (i6 a1c0c0) [] [])]) [] [])]) (u := []) (r := (.bool r46)) rfl rfl (impl_areAll_impl_Poly__c1_of_p_ok (rd a0 x33.toNat) a1c0c0 r46 hr47) rfl (nx ⟨[(0, (eSA64u8 a0)), (1, (.clo 201 [] [(.ref (.clo 179 [] [(.ref (i6 a1c0c0) [] [])]) [] [])])), (5, (i6 x33)), (7, (i6 (a0.length : Int))), (8, (i6 x33)), (16, (.bool r46))], []⟩ (by kernel_rfl) ?_)
      cases hb48 : r46
      · have h := ite_f hb48 h
        refine a_cond_f rfl (a_skip (b_norm (a_next (σ' := ⟨[(0, (eSA64u8 a0)), (1, (.clo 201 [] [(.ref (.clo 179 [] [(.ref (i6 a1c0c0) [] [])]) [] [])])), (7, (i6 (a0.length : Int))), (8, (i6 x33))], []⟩) (by kernel_rfl) (a_region (vp (i6 (IntKind.i64.wrap (x33 + 1))) rfl (vp (i6 (IntKind.i64.wrap (x33 + 1))) rfl (a_nil ?_)))))))
        cases h
        exact a_again (by kernel_rfl) hX42
      · have h := ite_t hb48 h
        refine a_cond_t rfl (sr (vp (i6 x33) rfl (vp (i6 x33) rfl (nx _ rfl (a_ret (b_ret (t_ret ?_)))))))
        cases h
        have h := hX42
        refine t_ret (b_ret (t_ret ?_))
        cases h
        have h := hk26
        refine ⟨.inr rfl, ?_⟩
        rw [Try.results208]
        cases h
        exact ⟨_, _, _, _, _, rfl, trivial, .inl ⟨rfl, .inl rfl⟩, rfl, rfl⟩
def slices_ContainsFunc_impl_Poly_impl_Poly_of_impl_areAll_impl_Poly__c1_p_c : ACode := (.seq (.region 0 [q 4 (.asg 0 (.const (.bool false)) 4)] false) (.seq (.region 1 [q 5 (.mov (t 0)), q 6 (.mov (t 1)), q 7 (.call 0 (.func 208) [(t 5), (t 6)]), q 8 (.bin .geq 3 (t 7) (.const (.int .i64 0))), q 4 (.asg 0 (t 8) 4)] false) .ret))
def slices_ContainsFunc_impl_Poly_impl_Poly_of_impl_areAll_impl_Poly__c1_p_L : Live := [(0, [0, 1]), (1, [0, 1])]
noncomputable def slices_ContainsFunc_impl_Poly_impl_Poly_of_impl_areAll_impl_Poly__c1_p (a0 : (List (Vec Int 64))) (a1c0c0 : Int) : Option Bool :=
  (Option.bind (slices_IndexFunc_impl_Poly_impl_Poly_of_impl_areAll_impl_Poly__c1_p a0 a1c0c0) fun r1 => (some ((decide (r1 ≥ 0)))))
theorem slices_ContainsFunc_impl_Poly_impl_Poly_of_impl_areAll_impl_Poly__c1_p_ok (a0 : (List (Vec Int 64))) (a1c0c0 : Int) (r : Bool) (h : slices_ContainsFunc_impl_Poly_impl_Poly_of_impl_areAll_impl_Poly__c1_p a0 a1c0c0 = some r) : Den Try.prog 200 [(eSA64u8 a0), (.clo 201 [] [(.ref (.clo 179 [] [(.ref (i6 a1c0c0) [] [])]) [] [])])] { r := (.bool r) } := by
  refine den_of (rs := [(.bool r)]) (ac := slices_ContainsFunc_impl_Poly_impl_Poly_of_impl_areAll_impl_Poly__c1_p_c) (L := slices_ContainsFunc_impl_Poly_impl_Poly_of_impl_areAll_impl_Poly__c1_p_L) (n := 9) (m := []) (c := Try.f200.body.getD .skip) good Try.func200 (by kernel_rfl) (by kernel_rfl) Try.ntmps200 rfl rfl (by kernel_rfl) rfl rfl ?_
  refine a_st (σ' := ⟨[(0, (eSA64u8 a0)), (1, (.clo 201 [] [(.ref (.clo 179 [] [(.ref (i6 a1c0c0) [] [])]) [] [])]))], []⟩) (by kernel_rfl) ?_
  unfold slices_ContainsFunc_impl_Poly_impl_Poly_of_impl_areAll_impl_Poly__c1_p_c
  refine sr (vp (.bool false) rfl (nx ⟨[(0, (eSA64u8 a0)), (1, (.clo 201 [] [(.ref (.clo 179 [] [(.ref (i6 a1c0c0) [] [])]) [] [])]))], []⟩ (by kernel_rfl) (sr (vp (eSA64u8 a0) rfl (vp (.clo 201 [] [(.ref (.clo 179 [] [(.ref (i6 a1c0c0) [] [])]) [] [])]) rfl ?_)))))
  obtain ⟨r1, hr2, h⟩ := bind_some h
  refine a_call (args := [(eSA64u8 a0), (.clo 201 [] [(.ref (.clo 179 [] [(.ref (i6 a1c0c0) [] [])]) [] [])])]) (u := []) (r := (i6 r1)) rfl rfl (slices_IndexFunc_impl_Poly_impl_Poly_of_impl_areAll_impl_Poly__c1_p_ok a0 a1c0c0 r1 hr2) rfl (vp (.bool ((decide (r1 ≥ 0)))) rfl (vp (.bool ((decide (r1 ≥ 0)))) rfl (nx _ rfl (a_ret ?_))))
  refine ⟨.inr rfl, ?_⟩
  rw [Try.results200]
  cases h
  exact ⟨_, _, _, _, _, rfl, trivial, .inl ⟨rfl, .inl rfl⟩, rfl, rfl⟩
def impl_areAll_impl_Poly_of_impl_polysCode_c1_p_c : ACode := (.seq (.region 0 [q 3 (.box 147 (t 1)), q 4 (.asg 0 (.const (.bool false)) 4)] false) (.seq (.region 1 [q 5 (.mov (t 0)), q 6 (.mkfn 201 [] [(t 3)]), q 7 (.call 0 (.func 200) [(t 5), (t 6)]), q 8 (.un .not (t 7)), q 4 (.asg 0 (t 8) 4)] false) .ret))
def impl_areAll_impl_Poly_of_impl_polysCode_c1_p_L : Live := [(0, [0, 1]), (1, [0, 3])]
noncomputable def impl_areAll_impl_Poly_of_impl_polysCode_c1_p (a0 : (List (Vec Int 64))) (a1c0 : Int) : Option Bool :=
  (Option.bind (slices_ContainsFunc_impl_Poly_impl_Poly_of_impl_areAll_impl_Poly__c1_p a0 a1c0) fun r1 => (some (!r1)))
theorem impl_areAll_impl_Poly_of_impl_polysCode_c1_p_ok (a0 : (List (Vec Int 64))) (a1c0 : Int) (r : Bool) (h : impl_areAll_impl_Poly_of_impl_polysCode_c1_p a0 a1c0 = some r) : Den Try.prog 178 [(eSA64u8 a0), (.clo 179 [] [(.ref (i6 a1c0) [] [])])] { r := (.bool r) } := by
  refine den_of (rs := [(.bool r)]) (ac := impl_areAll_impl_Poly_of_impl_polysCode_c1_p_c) (L := impl_areAll_impl_Poly_of_impl_polysCode_c1_p_L) (n := 9) (m := []) (c := Try.f178.body.getD .skip) good Try.func178 (by kernel_rfl) (by kernel_rfl) Try.ntmps178 rfl rfl (by kernel_rfl) rfl rfl ?_
  refine a_st (σ' := ⟨[(0, (eSA64u8 a0)), (1, (.clo 179 [] [(.ref (i6 a1c0) [] [])]))], []⟩) (by kernel_rfl) ?_
  unfold impl_areAll_impl_Poly_of_impl_polysCode_c1_p_c
  refine sr (vo 1300 (.clo 179 [] [(.ref (i6 a1c0) [] [])]) rfl rfl (vp (.bool false) rfl (nx ⟨[(0, (eSA64u8 a0)), (3, (ow 3))], [(3, (bk (.clo 179 [] [(.ref (i6 a1c0) [] [])])))]⟩ (by kernel_rfl) (sr (vp (eSA64u8 a0) rfl (vu (.clo 201 [] [(.ref (.clo 179 [] [(.ref (i6 a1c0) [] [])]) [] [])]) [(3, (bf (.clo 179 [] [(.ref (i6 a1c0) [] [])])))] rfl trivial rfl ?_))))))
  obtain ⟨r1, hr2, h⟩ := bind_some h
  refine a_call (args := [(eSA64u8 a0), (.clo 201 [] [(.ref (.clo 179 [] [(.ref (i6 a1c0) [] [])]) [] [])])]) (u := []) (r := (.bool r1)) rfl rfl (slices_ContainsFunc_impl_Poly_impl_Poly_of_impl_areAll_impl_Poly__c1_p_ok a0 a1c0 r1 hr2) rfl (vp (.bool (!r1)) rfl (vp (.bool (!r1)) rfl (nx _ rfl (a_ret ?_))))
  refine ⟨.inr rfl, ?_⟩
  rw [Try.results178]
  cases h
  exact ⟨_, _, _, _, _, rfl, trivial, .inl ⟨rfl, .inl rfl⟩, rfl, rfl⟩
def impl_polysCode_c : ACode := (.seq (.region 0 [q 2 (.box 2 (t 0)), q 4 (.asg 0 (.const (.int .i64 0)) 2)] false) (.seq (.seq (.region 1 [q 5 (.load 2 (t 2)), q 6 (.call 0 (.func 106) [(t 5)]), q 7 (.un .not (t 6)), q 8 (.mov (t 7)), ⟨some 9, .mov (t 1), some (8, false), []⟩, ⟨some 10, .mkfn 179 [] [(t 2)], some (8, false), []⟩, ⟨some 11, .call 0 (.func 178) [(t 9), (t 10)], some (8, false), []⟩, ⟨some 12, .un .not (t 11), some (8, false), []⟩, q 13 (.pick (t 8) (.const (.bool true)) (t 12))] false) (.cond (t 13) (.seq (.region 2 [q 4 (.asg 0 (.const (.int .i64 1)) 2)] false) .ret) .skip)) (.seq (.region 3 [q 4 (.asg 0 (.const (.int .i64 0)) 2)] false) .ret)))
def impl_polysCode_L : Live := [(0, [0, 1]), (1, [1, 2]), (2, []), (3, []), (100013, [13])]
noncomputable def impl_polysCode (a0 : Int) (a1 : (List (Vec Int 64))) : Option Int :=
  (Option.bind (α := Bool) ((Option.bind (impl_isPrime a0) fun r12 => (if (!r12) then (some true) else (Option.bind (impl_areAll_impl_Poly_of_impl_polysCode_c1_p a1 a0) fun r15 => (some (!r15)))))) fun x7 => (if x7 then (some 1) else (some 0)))
theorem impl_polysCode_ok (a0 : Int) (a1 : (List (Vec Int 64))) (r : Int) (h : impl_polysCode a0 a1 = some r) : Den Try.prog 100 [(i6 a0), (eSA64u8 a1)] { r := (i6 r) } := by
  refine den_of (rs := [(i6 r)]) (ac := impl_polysCode_c) (L := impl_polysCode_L) (n := 14) (m := []) (c := Try.f100.body.getD .skip) good Try.func100 (by kernel_rfl) (by kernel_rfl) Try.ntmps100 rfl rfl (by kernel_rfl) rfl rfl ?_
  refine a_st (σ' := ⟨[(0, (i6 a0)), (1, (eSA64u8 a1))], []⟩) (by kernel_rfl) ?_
  unfold impl_polysCode_c
  refine sr (vo 1200 (i6 a0) rfl rfl (vp (i6 0) rfl (nx ⟨[(1, (eSA64u8 a1)), (2, (ow 2))], [(2, (bk (i6 a0)))]⟩ (by kernel_rfl) (a_seq ?_))))
  obtain ⟨y8, hy9, hk10⟩ := bind_some h
  clear h
  refine a_join (emb := fun (s : Bool) => ⟨[(13, (.bool s))], []⟩) (pre := fun s => s = y8) ?_ ?_
  · rintro x7 rfl
    have h := hk10
    refine a_st (σ' := ⟨[(13, (.bool x7))], []⟩) (by kernel_rfl) ?_
    cases hb17 : x7
    · have h := ite_f hb17 h
      refine a_cond_f rfl (a_skip (a_next (σ' := ⟨[], []⟩) (by kernel_rfl) (sr (vp (i6 0) rfl (nx _ rfl (a_ret ?_))))))
      refine ⟨.inr rfl, ?_⟩
      rw [Try.results100]
      cases h
      exact ⟨_, _, _, _, _, rfl, trivial, .inl ⟨rfl, .inl rfl⟩, rfl, rfl⟩
    · have h := ite_t hb17 h
      refine a_cond_t rfl (sr (vp (i6 1) rfl (nx _ rfl (a_ret (t_ret ?_)))))
      refine ⟨.inr rfl, ?_⟩
      rw [Try.results100]
      cases h
      exact ⟨_, _, _, _, _, rfl, trivial, .inl ⟨rfl, .inl rfl⟩, rfl, rfl⟩
  · have h := hy9
    refine a_region (vl (i6 a0) rfl rfl rfl rfl rfl rfl ?_)
    obtain ⟨r12, hr13, h⟩ := bind_some h
    refine a_call (args := [(i6 a0)]) (u := []) (r := (.bool r12)) rfl rfl (impl_isPrime_ok a0 r12 hr13) rfl (vp (.bool (!r12)) rfl (vp (.bool (!r12)) rfl ?_))
    cases hb14 : (!r12)
    · have h := ite_f hb14 h
      refine gp (eSA64u8 a1) rfl rfl (a_gval rfl (v := (.clo 179 [] [(.ref (i6 a0) [] [])])) (u := [(2, (bf (i6 a0)))]) rfl trivial rfl ?_)
      obtain ⟨r15, hr16, h⟩ := bind_some h
      refine a_gcall rfl (args := [(eSA64u8 a1), (.clo 179 [] [(.ref (i6 a0) [] [])])]) (u := []) (r := (.bool r15)) rfl rfl (impl_areAll_impl_Poly_of_impl_polysCode_c1_p_ok a1 a0 r15 hr16) rfl (gp (.bool (!r15)) rfl rfl (vp (.bool (!r15)) rfl (a_nil ?_)))
      exact j_leaf (!r15) (Option.some.inj h) (by kernel_rfl)
    · have h := ite_t hb14 h
      refine a_gskip rfl (a_gskip rfl (a_gskip rfl (a_gskip rfl (vp (.bool true) rfl (a_nil ?_)))))
      exact j_leaf true (Option.some.inj h) (by kernel_rfl)
def impl_rowOf_c : ACode := (.seq (.region 0 [q 1 (.box 25 (t 0)), q 2 (.asg 1 (.const (.slice none 0 0)) 80)] false) (.seq (.region 1 [q 3 (.asg 2 (.const (.slice none 0 0)) 80)] false) (.seq (.seq (.region 2 [q 6 (.load 25 (t 1)), q 7 (.mov (.const (.int .i64 0)))] false) (.block 0 (.loop (.seq (.region 3 [q 8 (.bin .lss 3 (t 7) (.const (.int .i64 64)))] false) (.seq (.cond (t 8) .skip (.exit 0)) (.seq (.block 1 (.seq (.region 4 [q 9 (.index 25 (t 6) (t 7)), q 5 (.asg 0 (t 9) 5)] false) (.region 5 [q 10 (.mov (t 3)), q 11 (.mov (t 5)), q 12 (.conv 5 2 (t 11)), q 13 (.bslice 0 80 1 [(0, (t 12))]), q 14 (.blt 0 .append [(t 10), (t 13)] [80, 80]), q 3 (.asg 2 (t 14) 80)] false))) (.region 6 [q 15 (.bin .add 3 (t 7) (.const (.int .i64 1))), q 7 (.mov (t 15))] false))))))) (.seq (.region 7 [q 16 (.mov (t 3)), q 17 (.call 0 (.func 180) [(t 16)]), q 2 (.asg 1 (t 17) 80)] false) .ret))))
def impl_rowOf_L : Live := [(0, [0]), (1, [1]), (2, [1, 3]), (3, [3, 6, 7]), (4, [3, 6, 7]), (5, [3, 5, 6, 7]), (6, [3, 6, 7]), (7, [3]), (100008, [3, 6, 7, 8])]
noncomputable def impl_rowOf_l1 (a0 : (Vec Int 64)) (x25 : Int) (x26 : (List Int)) : Option ((Int × (List Int)) ⊕ (List Int)) :=
  (if (decide (x25 < 64)) then (ifp (0 ≤ x25 ∧ x25 < ((64 : Nat) : Int)) ((ifp ((x26.length + ([IntKind.i64.wrap (rd a0.1 x25.toNat)] : List Int).length) * 8 ≤ 140737488355328) ((some (.inl ((IntKind.i64.wrap (x25 + 1), (x26 ++ ([IntKind.i64.wrap (rd a0.1 x25.toNat)])))))))))) else (some (.inr x26)))
noncomputable def impl_rowOf (a0 : (Vec Int 64)) : Option (List Int) :=
  (Option.bind (α := (List Int)) ((loopM (fun s : (Int × (List Int)) => impl_rowOf_l1 a0 s.1 s.2) (0, []))) fun x17 => (Option.bind (impl_row_trimmed x17) fun r37 => (some r37)))
theorem impl_rowOf_ok (a0 : (Vec Int 64)) (r : (List Int)) (h : impl_rowOf a0 = some r) : Den Try.prog 103 [(eA64u8 a0)] { r := (eSi64 r) } := by
  refine den_of (rs := [(eSi64 r)]) (ac := impl_rowOf_c) (L := impl_rowOf_L) (n := 18) (m := [(2, 1), (3, 2)]) (c := Try.f103.body.getD .skip) good Try.func103 (by kernel_rfl) (by kernel_rfl) Try.ntmps103 rfl rfl (by kernel_rfl) rfl rfl ?_
  refine a_st (σ' := ⟨[(0, (eA64u8 a0))], []⟩) (by kernel_rfl) ?_
  unfold impl_rowOf_c
  refine sr (vo 1100 (eA64u8 a0) rfl rfl (vp (eSi64 ([])) rfl (nx ⟨[(1, (ow 1))], [(1, (bk (eA64u8 a0)))]⟩ (by kernel_rfl) (sr (vu (.osl 1300) [(1300, (bk (.row 1 (([]).map (AV.int .i64)))))] rfl trivial rfl (nx ⟨[(1, (ow 1)), (3, (.osl 3))], [(1, (bk (eA64u8 a0))), (3, (bk (.row 1 (([]).map (AV.int .i64)))))]⟩ (by kernel_rfl) ?_))))))
  obtain ⟨y18, hy19, hk20⟩ := bind_some h
  clear h
  refine a_join (emb := fun (s : (List Int)) => ⟨[(3, (.osl 3))], [(3, (bk (.row 1 (s.map (AV.int .i64)))))]⟩) (pre := fun s => s = y18) ?_ ?_
  · rintro x17 rfl
    have h := hk20
    refine a_st (σ' := ⟨[(3, (.osl 3))], [(3, (bk (.row 1 (x17.map (AV.int .i64)))))]⟩) (by kernel_rfl) (sr (vp (.osl 3) rfl ?_))
    obtain ⟨r37, hr38, h⟩ := bind_some h
    refine a_call (args := [(eSi64 x17)]) (u := [(3, (bf (.row 1 (x17.map (AV.int .i64)))))]) (r := (eSi64 r37)) rfl rfl (impl_row_trimmed_ok x17 r37 hr38) rfl (vp (eSi64 r37) rfl (nx _ rfl (a_ret ?_)))
    refine ⟨.inr rfl, ?_⟩
    rw [Try.results103]
    cases h
    exact ⟨_, _, _, _, _, rfl, trivial, .inl ⟨rfl, .inl rfl⟩, rfl, rfl⟩
  · have h := hy19
    refine sr (vl (eA64u8 a0) rfl rfl rfl rfl rfl rfl (vp (i6 0) rfl (nx ⟨[(3, (.osl 3)), (6, (eA64u8 a0)), (7, (i6 0))], [(3, (bk (.row 1 (([]).map (AV.int .i64)))))]⟩ (by kernel_rfl) (a_block ?_))))
    refine a_loop (emb := fun (s : (Int × (List Int))) => ⟨[(3, (.osl 3)), (6, (eA64u8 a0)), (7, (i6 s.1))], [(3, (bk (.row 1 (s.2.map (AV.int .i64)))))]⟩) (body := (fun s : (Int × (List Int)) => impl_rowOf_l1 a0 s.1 s.2)) (G := fun q => some q = some y18) h rfl ?_ (by kernel_rfl)
    rintro X30 ⟨x25, x26⟩ x31 h hX32
    have h : impl_rowOf_l1 a0 x25 x26 = some x31 := h
    refine a_st (σ' := ⟨[(3, (.osl 3)), (6, (eA64u8 a0)), (7, (i6 x25))], [(3, (bk (.row 1 (x26.map (AV.int .i64)))))]⟩) (by kernel_rfl) (sr (vp (.bool ((decide (x25 < 64)))) rfl (nx ⟨[(3, (.osl 3)), (6, (eA64u8 a0)), (7, (i6 x25)), (8, (.bool ((decide (x25 < 64)))))], [(3, (bk (.row 1 (x26.map (AV.int .i64)))))]⟩ (by kernel_rfl) (a_seq ?_))))
    cases hb33 : (decide (x25 < 64))
    · have h := ite_f hb33 h
      refine a_cond_f rfl (a_exit (t_exit ?_))
      cases h
      have h := hX32
      refine t_exit (b_exit ?_)
      exact j_leaf x26 (Option.some.inj h) (by kernel_rfl)
    · have h := ite_t hb33 h
      refine a_cond_t rfl (a_skip (a_next (σ' := ⟨[(3, (.osl 3)), (6, (eA64u8 a0)), (7, (i6 x25))], [(3, (bk (.row 1 (x26.map (AV.int .i64)))))]⟩) (by kernel_rfl) (a_seq (a_block (sr ?_)))))
      obtain ⟨hc34, h⟩ := ifp_some h
      refine vq (b8 (rd a0.1 x25.toNat)) (ix_run (i := ⟨.int .u8, 1, 1, (.int .u8 0)⟩) (f := (AV.int .u8)) rfl rfl rfl rfl (vlt a0 hc34)) ⟨hc34.1, hc34.2, rfl, rfl, rfl, rfl⟩ (vp (b8 (rd a0.1 x25.toNat)) rfl (nx ⟨[(3, (.osl 3)), (5, (b8 (rd a0.1 x25.toNat))), (6, (eA64u8 a0)), (7, (i6 x25))], [(3, (bk (.row 1 (x26.map (AV.int .i64)))))]⟩ (by kernel_rfl) (a_region (vp (.osl 3) rfl (vp (b8 (rd a0.1 x25.toNat)) rfl (vp (i6 (IntKind.i64.wrap (rd a0.1 x25.toNat))) rfl (vq (.sl 1 true (([IntKind.i64.wrap (rd a0.1 x25.toNat)]).map (AV.int .i64))) rfl ⟨(Nat.le_of_ble_eq_true rfl), (Nat.le_of_ble_eq_true rfl), (all_cons ⟨(Nat.le_of_ble_eq_true rfl), rfl⟩ all_nil)⟩ ?_)))))))
      obtain ⟨hc35, h⟩ := ifp_some h
      refine vu (.osl 2400) [(2400, (bk (.row 1 (((x26 ++ ([IntKind.i64.wrap (rd a0.1 x25.toNat)]))).map (AV.int .i64))))), (3, none)] (app_run (i := ⟨.int .i64, 1, 8, (.int .i64 0)⟩) (f := (AV.int .i64)) (l := x26) (l2 := [IntKind.i64.wrap (rd a0.1 x25.toNat)]) rfl rfl rfl rfl (fun _ => rfl) rfl rfl) (app_c (f := (AV.int .i64)) (s := 1) (sz := 1) (by' := 8) (u := []) (id := 3) hc35 (.inr rfl) rfl rfl rfl) rfl (vp (.osl 2400) rfl (a_nil (b_norm (a_next (σ' := ⟨[(3, (.osl 3)), (6, (eA64u8 a0)), (7, (i6 x25))], [(3, (bk (.row 1 (((x26 ++ ([IntKind.i64.wrap (rd a0.1 x25.toNat)]))).map (AV.int .i64)))))]⟩) (by kernel_rfl) (a_region (vp (i6 (IntKind.i64.wrap (x25 + 1))) rfl (vp (i6 (IntKind.i64.wrap (x25 + 1))) rfl (a_nil ?_))))))))
      cases h
      exact a_again (by kernel_rfl) hX32
def impl_isNumber_c : ACode := (.seq (.region 0 [q 2 (.asg 0 (.const (.bool false)) 4)] false) (.seq (.region 1 [q 3 (.mov (t 0)), q 4 (.call 0 (.func 139) [(t 3), (.const (.int .i64 0)), (.const (.int .i64 1000000000000))]), q 2 (.asg 0 (t 4) 4)] false) .ret))
def impl_isNumber_L : Live := [(0, [0]), (1, [0])]
noncomputable def impl_isNumber (a0 : Int) : Option Bool :=
  (Option.bind (impl_within a0 0 1000000000000) fun r1 => (some r1))
theorem impl_isNumber_ok (a0 : Int) (r : Bool) (h : impl_isNumber a0 = some r) : Den Try.prog 118 [(i6 a0)] { r := (.bool r) } := by
  refine den_of (rs := [(.bool r)]) (ac := impl_isNumber_c) (L := impl_isNumber_L) (n := 5) (m := []) (c := Try.f118.body.getD .skip) good Try.func118 (by kernel_rfl) (by kernel_rfl) Try.ntmps118 rfl rfl (by kernel_rfl) rfl rfl ?_
  refine a_st (σ' := ⟨[(0, (i6 a0))], []⟩) (by kernel_rfl) ?_
  unfold impl_isNumber_c
  refine sr (vp (.bool false) rfl (nx ⟨[(0, (i6 a0))], []⟩ (by kernel_rfl) (sr (vp (i6 a0) rfl ?_))))
  obtain ⟨r1, hr2, h⟩ := bind_some h
  refine a_call (args := [(i6 a0), (i6 0), (i6 1000000000000)]) (u := []) (r := (.bool r1)) rfl rfl (impl_within_ok a0 0 1000000000000 r1 hr2) rfl (vp (.bool r1) rfl (nx _ rfl (a_ret ?_)))
  refine ⟨.inr rfl, ?_⟩
  rw [Try.results118]
  cases h
  exact ⟨_, _, _, _, _, rfl, trivial, .inl ⟨rfl, .inl rfl⟩, rfl, rfl⟩
def slices_Clone_impl_row_int64_fresh_c : ACode := (.seq (.region 0 [q 2 (.asg 2 (.const (.slice none 0 0)) 80)] false) (.seq (.seq (.region 1 [q 3 (.mov (t 0)), q 4 (.bin .eql 80 (t 3) (.const (.slice none 0 0)))] false) (.cond (t 4) (.seq (.region 2 [q 2 (.asg 2 (.const (.slice none 0 0)) 80)] false) .ret) .skip)) (.seq (.region 3 [q 5 (.bslice 0 80 0 []), q 6 (.mov (t 0)), q 7 (.blt 0 .append [(t 5), (t 6)] [80, 80]), q 2 (.asg 2 (t 7) 80)] false) .ret)))
def slices_Clone_impl_row_int64_fresh_L : Live := [(0, [0]), (1, [0]), (2, []), (3, [0]), (100004, [0, 4])]
noncomputable def slices_Clone_impl_row_int64_fresh (a0 : (List Int)) : Option (List Int) :=
  (ifc (a0 = [] → ((some ([]))) = ((ifp ((([] : List Int).length + a0.length) * 8 ≤ 140737488355328) ((some ((([] : List Int) ++ a0))))))) ((ifp ((([] : List Int).length + a0.length) * 8 ≤ 140737488355328) ((some ((([] : List Int) ++ a0)))))))
theorem slices_Clone_impl_row_int64_fresh_ok (a0 : (List Int)) (r : (List Int)) (h : slices_Clone_impl_row_int64_fresh a0 = some r) : Den Try.prog 184 [(eSi64 a0)] { r := (.osl 2000000), ms := [], fs := [(1, r.map (AV.int .i64))] } := by
  refine den_ofX (rs := [(.osl 2000000)]) (ac := slices_Clone_impl_row_int64_fresh_c) (L := slices_Clone_impl_row_int64_fresh_L) (n := 8) (m := [(2, 2)]) (c := Try.f184.body.getD .skip) good Try.func184 (by kernel_rfl) (by kernel_rfl) Try.ntmps184 rfl rfl (by kernel_rfl) rfl ?_
  refine a_st (σ' := ⟨[(0, (eSi64 a0))], []⟩) (by kernel_rfl) ?_
  unfold slices_Clone_impl_row_int64_fresh_c
  refine sr (vu (.osl 1200) [(1200, (bk (.row 1 (([]).map (AV.int .i64)))))] rfl trivial rfl (nx ⟨[(0, (eSi64 a0))], []⟩ (by kernel_rfl) (a_seq (sr (vp (eSi64 a0) rfl ?_)))))
  obtain ⟨hq2, h⟩ := ifc_some h
  refine a_split (v := .bool true) (v' := .bool false) rfl rfl (fun hn3 => ?_) ?_
  · have h := (hq2 (List.map_eq_nil_iff.1 hn3)).trans h
    refine nx ⟨[(0, (eSi64 a0)), (4, (.bool true))], []⟩ (by kernel_rfl) (a_cond_t rfl (sr (vu (.osl 1200) [(1200, (bk (.row 1 (([]).map (AV.int .i64)))))] rfl trivial rfl (nx _ rfl (a_ret (t_ret ?_))))))
    refine ⟨.inr rfl, ?_⟩
    rw [Try.results184]
    cases h
    exact ⟨[some 1200], ⟨_, _, _, _, _, rfl, trivial, rfl, .inr (.inl ⟨_, _, _, _, _, rfl, rfl, rfl, rfl, rfl, rfl, ⟨rfl, rfl, rfl⟩⟩)⟩, rfl, rfl⟩
  · skip
    refine nx ⟨[(0, (eSi64 a0)), (4, (.bool false))], []⟩ (by kernel_rfl) (a_cond_f rfl (a_skip (a_next (σ' := ⟨[(0, (eSi64 a0))], []⟩) (by kernel_rfl) (sr (vq (.sl 1 true (([]).map (AV.int .i64))) rfl ⟨(Nat.le_of_ble_eq_true rfl), (Nat.le_of_ble_eq_true rfl), all_nil⟩ (vp (eSi64 a0) rfl ?_))))))
    obtain ⟨hc1, h⟩ := ifp_some h
    refine vu (.osl 1700) [(1700, (bk (.row 1 (((([] : List Int) ++ a0)).map (AV.int .i64)))))] (appt_run (i := ⟨.int .i64, 1, 8, (.int .i64 0)⟩) (f := (AV.int .i64)) (l := []) (l2 := a0) rfl rfl rfl rfl (fun _ => rfl) rfl) (appt_c (f := (AV.int .i64)) (s := 1) (sz := 1) (sz' := 1) (by' := 8) hc1 (.inl rfl) (.inl rfl) (.inr rfl) rfl rfl) rfl (vp (.osl 1700) rfl (nx _ rfl (a_ret ?_)))
    refine ⟨.inr rfl, ?_⟩
    rw [Try.results184]
    cases h
    exact ⟨[some 1700], ⟨_, _, _, _, _, rfl, trivial, rfl, .inr (.inl ⟨_, _, _, _, _, rfl, rfl, rfl, rfl, rfl, rfl, ⟨rfl, rfl, rfl⟩⟩)⟩, rfl, rfl⟩
def impl_row_lead_c : ACode := (.seq (.region 0 [q 2 (.asg 0 (.const (.int .i64 0)) 2)] false) (.seq (.seq (.region 1 [q 3 (.mov (t 0)), q 4 (.blt 0 .len [(t 3)] [80]), q 5 (.bin .eql 3 (t 4) (.const (.int .i64 0)))] false) (.cond (t 5) (.seq (.region 2 [q 2 (.asg 0 (.const (.int .i64 0)) 2)] false) .ret) .skip)) (.seq (.region 3 [q 6 (.mov (t 0)), q 7 (.mov (t 0)), q 8 (.blt 0 .len [(t 7)] [80]), q 9 (.bin .sub 3 (t 8) (.const (.int .i64 1))), q 10 (.indexAddr 80 (t 6) (t 9)), q 11 (.load 2 (t 10)), q 2 (.asg 0 (t 11) 2)] false) .ret)))
def impl_row_lead_L : Live := [(0, [0]), (1, [0]), (2, []), (3, [0]), (100005, [0, 5])]
noncomputable def impl_row_lead (a0 : (List Int)) : Option Int :=
  (if ((a0.length : Int) == 0) then (some 0) else (ifp (0 ≤ IntKind.i64.wrap ((a0.length : Int) - 1) ∧ IntKind.i64.wrap ((a0.length : Int) - 1) < ((a0.length : Nat) : Int)) ((some ((rd a0 (IntKind.i64.wrap ((a0.length : Int) - 1)).toNat))))))
theorem impl_row_lead_ok (a0 : (List Int)) (r : Int) (h : impl_row_lead a0 = some r) : Den Try.prog 186 [(eSi64 a0)] { r := (i6 r) } := by
  refine den_of (rs := [(i6 r)]) (ac := impl_row_lead_c) (L := impl_row_lead_L) (n := 12) (m := []) (c := Try.f186.body.getD .skip) good Try.func186 (by kernel_rfl) (by kernel_rfl) Try.ntmps186 rfl rfl (by kernel_rfl) rfl rfl ?_
  refine a_st (σ' := ⟨[(0, (eSi64 a0))], []⟩) (by kernel_rfl) ?_
  unfold impl_row_lead_c
  refine sr (vp (i6 0) rfl (nx ⟨[(0, (eSi64 a0))], []⟩ (by kernel_rfl) (a_seq (sr (vp (eSi64 a0) rfl (vq (i6 (a0.length : Int)) (len_run rfl rfl) trivial (vp (.bool (((a0.length : Int) == 0))) rfl (nx ⟨[(0, (eSi64 a0)), (5, (.bool (((a0.length : Int) == 0))))], []⟩ (by kernel_rfl) ?_))))))))
  cases hb1 : ((a0.length : Int) == 0)
  · have h := ite_f hb1 h
    refine a_cond_f rfl (a_skip (a_next (σ' := ⟨[(0, (eSi64 a0))], []⟩) (by kernel_rfl) (sr (vp (eSi64 a0) rfl (vp (eSi64 a0) rfl (vq (i6 (a0.length : Int)) (len_run rfl rfl) trivial (vp (i6 (IntKind.i64.wrap ((a0.length : Int) - 1))) rfl ?_)))))))
    obtain ⟨hc2, h⟩ := ifp_some h
    refine vq (.ref (.row 1 (a0.map (AV.int .i64))) [(IntKind.i64.wrap ((a0.length : Int) - 1)).toNat] [(IntKind.i64.wrap ((a0.length : Int) - 1)).toNat * 1]) rfl (lmap hc2) ?_
    have hl3 : LdOk [(IntKind.i64.wrap ((a0.length : Int) - 1)).toNat] (.row 1 (a0.map (AV.int .i64))) [(IntKind.i64.wrap ((a0.length : Int) - 1)).toNat * 1] 1 false (i6 ((rd a0 (IntKind.i64.wrap ((a0.length : Int) - 1)).toNat))) := (.row (llt hc2) rfl (.nil rfl rfl rfl))
    refine vq (i6 ((rd a0 (IntKind.i64.wrap ((a0.length : Int) - 1)).toNat))) (ld_ref (i := ⟨.int .i64, 1, 8, (.int .i64 0)⟩) rfl rfl hl3) hl3.c (vp (i6 ((rd a0 (IntKind.i64.wrap ((a0.length : Int) - 1)).toNat))) rfl (nx _ rfl (a_ret ?_)))
    refine ⟨.inr rfl, ?_⟩
    rw [Try.results186]
    cases h
    exact ⟨_, _, _, _, _, rfl, trivial, .inl ⟨rfl, .inl rfl⟩, rfl, rfl⟩
  · have h := ite_t hb1 h
    refine a_cond_t rfl (sr (vp (i6 0) rfl (nx _ rfl (a_ret (t_ret ?_)))))
    refine ⟨.inr rfl, ?_⟩
    rw [Try.results186]
    cases h
    exact ⟨_, _, _, _, _, rfl, trivial, .inl ⟨rfl, .inl rfl⟩, rfl, rfl⟩
def impl_prime_inverse_c : ACode := (.seq (.region 0 [q 4 (.asg 0 (.const (.int .i64 0)) 2)] false) (.seq (.region 1 [q 5 (.asg 0 (.const (.int .i64 1)) 2)] false) (.seq (.seq (.region 2 [q 6 (.mov (t 0)), q 7 (.bin .sub 2 (t 6) (.const (.int .i64 2))), q 8 (.mov (.const (.int .i64 0)))] false) (.block 0 (.loop (.seq (.region 3 [q 9 (.bin .lss 2 (t 8) (t 7))] false) (.seq (.cond (t 9) .skip (.exit 0)) (.seq (.block 1 (.region 4 [q 10 (.mov (t 5)), q 11 (.mov (t 1)), q 12 (.bin .mul 2 (t 10) (t 11)), q 13 (.mov (t 0)), q 14 (.bin .rem 2 (t 12) (t 13)), q 5 (.asg 0 (t 14) 2)] false)) (.region 5 [q 15 (.bin .add 2 (t 8) (.const (.int .i64 1))), q 8 (.mov (t 15))] false))))))) (.seq (.region 6 [q 16 (.mov (t 5)), q 4 (.asg 0 (t 16) 2)] false) .ret))))
def impl_prime_inverse_L : Live := [(0, [0, 1]), (1, [0, 1]), (2, [0, 1, 5]), (3, [0, 1, 5, 7, 8]), (4, [0, 1, 5, 7, 8]), (5, [0, 1, 5, 7, 8]), (6, [5]), (100009, [0, 1, 5, 7, 8, 9])]
noncomputable def impl_prime_inverse_l1 (a0 : Int) (a1 : Int) (x19 : Int) (x20 : Int) : Option ((Int × Int) ⊕ Int) :=
  (if (decide (x20 < (IntKind.i64.wrap (a0 - 2)))) then (ifp (a0 ≠ 0) ((some (.inl ((Int.tmod (IntKind.i64.wrap (x19 * a1)) a0, IntKind.i64.wrap (x20 + 1))))))) else (some (.inr x19)))
noncomputable def impl_prime_inverse (a0 : Int) (a1 : Int) : Option Int :=
  (Option.bind (α := Int) ((loopM (fun s : (Int × Int) => impl_prime_inverse_l1 a0 a1 s.1 s.2) (1, 0))) fun x13 => (some x13))
theorem impl_prime_inverse_ok (a0 : Int) (a1 : Int) (r : Int) (h : impl_prime_inverse a0 a1 = some r) : Den Try.prog 185 [(i6 a0), (i6 a1)] { r := (i6 r) } := by
  refine den_of (rs := [(i6 r)]) (ac := impl_prime_inverse_c) (L := impl_prime_inverse_L) (n := 17) (m := []) (c := Try.f185.body.getD .skip) good Try.func185 (by kernel_rfl) (by kernel_rfl) Try.ntmps185 rfl rfl (by kernel_rfl) rfl rfl ?_
  refine a_st (σ' := ⟨[(0, (i6 a0)), (1, (i6 a1))], []⟩) (by kernel_rfl) ?_
  unfold impl_prime_inverse_c
  refine sr (vp (i6 0) rfl (nx ⟨[(0, (i6 a0)), (1, (i6 a1))], []⟩ (by kernel_rfl) (sr (vp (i6 1) rfl (nx ⟨[(0, (i6 a0)), (1, (i6 a1)), (5, (i6 1))], []⟩ (by kernel_rfl) ?_)))))
  obtain ⟨y14, hy15, hk16⟩ := bind_some h
  clear h
  refine a_join (emb := fun (s : Int) => ⟨[(5, (i6 s))], []⟩) (pre := fun s => s = y14) ?_ ?_
  · rintro x13 rfl
    have h := hk16
    refine a_st (σ' := ⟨[(5, (i6 x13))], []⟩) (by kernel_rfl) (sr (vp (i6 x13) rfl (vp (i6 x13) rfl (nx _ rfl (a_ret ?_)))))
    refine ⟨.inr rfl, ?_⟩
    rw [Try.results185]
    cases h
    exact ⟨_, _, _, _, _, rfl, trivial, .inl ⟨rfl, .inl rfl⟩, rfl, rfl⟩
  · have h := hy15
    refine sr (vp (i6 a0) rfl (vp (i6 (IntKind.i64.wrap (a0 - 2))) rfl (vp (i6 0) rfl (nx ⟨[(0, (i6 a0)), (1, (i6 a1)), (5, (i6 1)), (7, (i6 (IntKind.i64.wrap (a0 - 2)))), (8, (i6 0))], []⟩ (by kernel_rfl) (a_block ?_)))))
    refine a_loop (emb := fun (s : (Int × Int)) => ⟨[(0, (i6 a0)), (1, (i6 a1)), (5, (i6 s.1)), (7, (i6 (IntKind.i64.wrap (a0 - 2)))), (8, (i6 s.2))], []⟩) (body := (fun s : (Int × Int) => impl_prime_inverse_l1 a0 a1 s.1 s.2)) (G := fun q => some q = some y14) h rfl ?_ (by kernel_rfl)
    rintro X23 ⟨x19, x20⟩ x24 h hX25
    have h : impl_prime_inverse_l1 a0 a1 x19 x20 = some x24 := h
    refine a_st (σ' := ⟨[(0, (i6 a0)), (1, (i6 a1)), (5, (i6 x19)), (7, (i6 (IntKind.i64.wrap (a0 - 2)))), (8, (i6 x20))], []⟩) (by kernel_rfl) (sr (vp (.bool ((decide (x20 < (IntKind.i64.wrap (a0 - 2)))))) rfl (nx ⟨[(0, (i6 a0)), (1, (i6 a1)), (5, (i6 x19)), (7, (i6 (IntKind.i64.wrap (a0 - 2)))), (8, (i6 x20)), (9, (.bool ((decide (x20 < (IntKind.i64.wrap (a0 - 2)))))))], []⟩ (by kernel_rfl) (a_seq ?_))))
    cases hb26 : (decide (x20 < (IntKind.i64.wrap (a0 - 2))))
    · have h := ite_f hb26 h
      refine a_cond_f rfl (a_exit (t_exit ?_))
      cases h
      have h := hX25
      refine t_exit (b_exit ?_)
      exact j_leaf x19 (Option.some.inj h) (by kernel_rfl)
    · have h := ite_t hb26 h
      refine a_cond_t rfl (a_skip (a_next (σ' := ⟨[(0, (i6 a0)), (1, (i6 a1)), (5, (i6 x19)), (7, (i6 (IntKind.i64.wrap (a0 - 2)))), (8, (i6 x20))], []⟩) (by kernel_rfl) (a_seq (a_block (a_region (vp (i6 x19) rfl (vp (i6 a1) rfl (vp (i6 (IntKind.i64.wrap (x19 * a1))) rfl (vp (i6 a0) rfl ?_)))))))))
      obtain ⟨hc27, h⟩ := ifp_some h
      refine vq (i6 (Int.tmod (IntKind.i64.wrap (x19 * a1)) a0)) rfl hc27 (vp (i6 (Int.tmod (IntKind.i64.wrap (x19 * a1)) a0)) rfl (a_nil (b_norm (a_next (σ' := ⟨[(0, (i6 a0)), (1, (i6 a1)), (5, (i6 (Int.tmod (IntKind.i64.wrap (x19 * a1)) a0))), (7, (i6 (IntKind.i64.wrap (a0 - 2)))), (8, (i6 x20))], []⟩) (by kernel_rfl) (a_region (vp (i6 (IntKind.i64.wrap (x20 + 1))) rfl (vp (i6 (IntKind.i64.wrap (x20 + 1))) rfl (a_nil ?_))))))))
      cases h
      exact a_again (by kernel_rfl) hX25
def impl_prime_divide_c : ACode := (.seq (.region 0 [q 6 (.asg 1 (.const (.slice none 0 0)) 80), q 7 (.asg 1 (.const (.slice none 0 0)) 80)] false) (.seq (.region 1 [q 15 (.mov (t 1)), q 16 (.call 0 (.func 184) [(t 15)]), q 8 (.asg 2 (t 16) 80)] false) (.seq (.seq (.region 2 [q 17 (.mov (t 1)), q 18 (.blt 0 .len [(t 17)] [80]), q 19 (.mov (t 2)), q 20 (.blt 0 .len [(t 19)] [80]), q 21 (.bin .lss 3 (t 18) (t 20))] false) (.cond (t 21) (.seq (.region 3 [q 22 (.mov (t 8)), q 6 (.asg 1 (.const (.slice none 0 0)) 80), q 7 (.asg 1 (t 22) 80)] false) .ret) .skip)) (.seq (.region 4 [q 23 (.mov (t 1)), q 24 (.blt 0 .len [(t 23)] [80]), q 25 (.mov (t 2)), q 26 (.blt 0 .len [(t 25)] [80]), q 27 (.bin .sub 3 (t 24) (t 26)), q 28 (.bin .add 3 (t 27) (.const (.int .i64 1))), q 29 (.mkslice 80 (t 28) (t 28)), q 9 (.asg 2 (t 29) 80)] false) (.seq (.region 5 [q 30 (.mov (t 0)), q 31 (.mov (t 2)), q 32 (.call 0 (.func 186) [(t 31)]), q 33 (.call 0 (.func 185) [(t 30), (t 32)]), q 10 (.asg 0 (t 33) 2)] false) (.seq (.seq (.region 6 [q 34 (.mov (t 9)), q 35 (.blt 0 .len [(t 34)] [80]), q 36 (.bin .sub 3 (t 35) (.const (.int .i64 1))), q 11 (.asg 0 (t 36) 3)] false) (.block 0 (.loop (.seq (.seq (.region 7 [q 37 (.mov (t 11)), q 38 (.bin .geq 3 (t 37) (.const (.int .i64 0)))] false) (.cond (t 38) .skip (.exit 0))) (.seq (.block 1 (.seq (.region 9 [q 41 (.mov (t 8)), q 42 (.mov (t 11)), q 43 (.mov (t 2)), q 44 (.blt 0 .len [(t 43)] [80]), q 45 (.bin .add 3 (t 42) (t 44)), q 46 (.bin .sub 3 (t 45) (.const (.int .i64 1))), q 47 (.indexAddr 80 (t 41) (t 46)), q 48 (.load 2 (t 47)), q 49 (.mov (t 10)), q 50 (.bin .mul 2 (t 48) (t 49)), q 51 (.mov (t 0)), q 52 (.bin .rem 2 (t 50) (t 51)), q 12 (.asg 0 (t 52) 2)] false) (.seq (.region 10 [q 53 (.mov (t 9)), q 54 (.mov (t 11)), q 55 (.mov (t 12)), q 56 (.indexAddr 80 (t 53) (t 54)), ⟨none, .store 2 (t 56) (t 55), none, []⟩] false) (.seq (.region 11 [q 57 (.mov (t 2)), q 58 (.blt 0 .len [(t 57)] [80]), q 59 (.mov (.const (.int .i64 0)))] false) (.block 2 (.loop (.seq (.region 12 [q 60 (.bin .lss 3 (t 59) (t 58))] false) (.seq (.cond (t 60) .skip (.exit 2)) (.seq (.block 3 (.seq (.region 13 [q 61 (.mov (t 59)), q 62 (.indexAddr 80 (t 57) (t 59)), q 63 (.load 2 (t 62)), q 13 (.asg 0 (t 61) 3), q 14 (.asg 0 (t 63) 2)] false) (.region 14 [q 64 (.mov (t 8)), q 65 (.mov (t 11)), q 66 (.mov (t 13)), q 67 (.bin .add 3 (t 65) (t 66)), q 68 (.mov (t 0)), q 69 (.mov (t 8)), q 70 (.mov (t 11)), q 71 (.mov (t 13)), q 72 (.bin .add 3 (t 70) (t 71)), q 73 (.indexAddr 80 (t 69) (t 72)), q 74 (.load 2 (t 73)), q 75 (.mov (t 12)), q 76 (.mov (t 14)), q 77 (.bin .mul 2 (t 75) (t 76)), q 78 (.bin .sub 2 (t 74) (t 77)), q 79 (.call 0 (.func 183) [(t 68), (t 78)]), q 80 (.indexAddr 80 (t 64) (t 67)), ⟨none, .store 2 (t 80) (t 79), none, []⟩] false))) (.region 15 [q 81 (.bin .add 3 (t 59) (.const (.int .i64 1))), q 59 (.mov (t 81))] false)))))))))) (.region 8 [q 39 (.mov (t 11)), q 40 (.bin .sub 3 (t 39) (.const (.int .i64 1))), q 11 (.asg 0 (t 40) 3)] false)))))) (.seq (.region 16 [q 82 (.mov (t 9)), q 83 (.call 0 (.func 180) [(t 82)]), q 84 (.mov (t 8)), q 85 (.call 0 (.func 180) [(t 84)]), q 6 (.asg 1 (t 83) 80), q 7 (.asg 1 (t 85) 80)] false) .ret)))))))
def impl_prime_divide_L : Live := [(0, [0, 1, 2]), (1, [0, 1, 2]), (2, [0, 1, 2, 8]), (3, [8]), (4, [0, 1, 2, 8]), (5, [0, 2, 8, 9]), (6, [0, 2, 8, 9, 10]), (7, [0, 2, 8, 9, 10, 11]), (8, [0, 2, 8, 9, 10, 11]), (9, [0, 2, 8, 9, 10, 11]), (10, [0, 2, 8, 9, 10, 11, 12]), (11, [0, 2, 8, 9, 10, 11, 12]), (12, [0, 2, 8, 9, 10, 11, 12, 57, 58, 59]), (13, [0, 2, 8, 9, 10, 11, 12, 57, 58, 59]), (14, [0, 2, 8, 9, 10, 11, 12, 13, 14, 57, 58, 59]), (15, [0, 2, 8, 9, 10, 11, 12, 57, 58, 59]), (16, [8, 9]), (100021, [0, 1, 2, 8, 21]), (100038, [0, 2, 8, 9, 10, 11, 38]), (100060, [0, 2, 8, 9, 10, 11, 12, 57, 58, 59, 60])]
noncomputable def impl_prime_divide_l2 (a2 : (List Int)) (x467 : Int) (x468 : (List Int)) (x641 : Int) (r9 : Int) (a0 : Int) (x469 : (List Int)) (x661 : Int) (x662 : (List Int)) : Option ((Int × (List Int)) ⊕ ((List Int) × (List Int))) :=
  (if (decide (x661 < (a2.length : Int))) then (ifp (0 ≤ x661 ∧ x661 < ((a2.length : Nat) : Int)) ((ifp (0 ≤ IntKind.i64.wrap (x467 + x661) ∧ IntKind.i64.wrap (x467 + x661) < ((x662.length : Nat) : Int)) ((letp (IntKind.i64.wrap ((Int.tmod (IntKind.i64.wrap ((rd x468 x641.toNat) * r9)) a0) * (rd a2 x661.toNat))) fun x684 => (letp (IntKind.i64.wrap (((rd x662 (IntKind.i64.wrap (x467 + x661)).toNat)) - x684)) fun x686 => (Option.bind (impl_prime_reduce a0 x686) fun r688 => (ifp (0 ≤ IntKind.i64.wrap (x467 + x661) ∧ IntKind.i64.wrap (x467 + x661) < ((x662.length : Nat) : Int)) ((some (.inl ((IntKind.i64.wrap (x661 + 1), (x662.set (IntKind.i64.wrap (x467 + x661)).toNat r688)))))))))))))) else (some (.inr (((x662, (x469.set x467.toNat (Int.tmod (IntKind.i64.wrap ((rd x468 x641.toNat) * r9)) a0))))))))
noncomputable def impl_prime_divide_l1 (a2 : (List Int)) (a0 : Int) (r9 : Int) (x467 : Int) (x468 : (List Int)) (x469 : (List Int)) : Option ((Int × (List Int) × (List Int)) ⊕ ((List Int) × (List Int))) :=
  (if (decide (x467 ≥ 0)) then (Option.bind (α := ((List Int) × (List Int))) ((letp (IntKind.i64.wrap ((IntKind.i64.wrap (x467 + (a2.length : Int))) - 1)) fun x641 => (ifp (0 ≤ x641 ∧ x641 < ((x468.length : Nat) : Int)) ((ifp (a0 ≠ 0) ((ifp (0 ≤ x467 ∧ x467 < ((x469.length : Nat) : Int)) ((loopM (fun s : (Int × (List Int)) => impl_prime_divide_l2 a2 x467 x468 x641 r9 a0 x469 s.1 s.2) (0, x468)))))))))) fun ⟨x636, x637⟩ => (some (.inl ((IntKind.i64.wrap (x467 - 1), x636, x637))))) else (some (.inr (x468, x469))))
noncomputable def impl_prime_divide (a0 : Int) (a1 : (List Int)) (a2 : (List Int)) : Option ((List Int) × (List Int)) :=
  (Option.bind (slices_Clone_impl_row_int64_fresh a1) fun r1 => (if (decide ((a1.length : Int) < (a2.length : Int))) then (some ([], r1)) else (letp (IntKind.i64.wrap ((IntKind.i64.wrap ((a1.length : Int) - (a2.length : Int))) + 1)) fun x4 => (ifp (0 ≤ x4 ∧ x4 ≤ 140737488355328 ∧ 8 * x4 ≤ 140737488355328) ((Option.bind (impl_row_lead a2) fun r7 => (Option.bind (impl_prime_inverse a0 r7) fun r9 => (Option.bind (α := ((List Int) × (List Int))) ((letp (IntKind.i64.wrap ((((List.replicate x4.toNat (0 : Int)).length : Int)) - 1)) fun x355 => (loopM (fun s : (Int × (List Int) × (List Int)) => impl_prime_divide_l1 a2 a0 r9 s.1 s.2.1 s.2.2) (x355, r1, List.replicate x4.toNat (0 : Int))))) fun ⟨x350, x351⟩ => (Option.bind (impl_row_trimmed x351) fun r694 => (Option.bind (impl_row_trimmed x350) fun r696 => (some (r694, r696))))))))))))
theorem impl_prime_divide_ok (a0 : Int) (a1 : (List Int)) (a2 : (List Int)) (r : ((List Int) × (List Int))) (h : impl_prime_divide a0 a1 a2 = some r) : Den Try.prog 110 [(i6 a0), (eSi64 a1), (eSi64 a2)] { r := (.tuple [(eSi64 r.1), (eSi64 r.2)]) } := by
  refine den_of (rs := [(eSi64 r.1), (eSi64 r.2)]) (ac := impl_prime_divide_c) (L := impl_prime_divide_L) (n := 86) (m := [(6, 1), (7, 1), (8, 2), (9, 2)]) (c := Try.f110.body.getD .skip) good Try.func110 (by kernel_rfl) (by kernel_rfl) Try.ntmps110 rfl rfl (by kernel_rfl) rfl rfl ?_
  refine a_st (σ' := ⟨[(0, (i6 a0)), (1, (eSi64 a1)), (2, (eSi64 a2))], []⟩) (by kernel_rfl) ?_
  unfold impl_prime_divide_c
  refine sr (vp (eSi64 ([])) rfl (vp (eSi64 ([])) rfl (nx ⟨[(0, (i6 a0)), (1, (eSi64 a1)), (2, (eSi64 a2))], []⟩ (by kernel_rfl) (sr (vp (eSi64 a1) rfl ?_)))))
  obtain ⟨r1, hr2, h⟩ := bind_some h
  refine a_callF (args := [(eSi64 a1)]) (u := []) (u2 := []) (r := (.osl 2000000)) (fs := [(1, r1.map (AV.int .i64))]) rfl rfl (slices_Clone_impl_row_int64_fresh_ok a1 r1 hr2) rfl rfl rfl (.inl rfl) rfl (vp (.osl 2600) rfl (nx ⟨[(0, (i6 a0)), (1, (eSi64 a1)), (2, (eSi64 a2)), (8, (.osl 8))], [(8, (bk (.row 1 (r1.map (AV.int .i64)))))]⟩ (by kernel_rfl) (a_seq (sr (vp (eSi64 a1) rfl (vq (i6 (a1.length : Int)) (len_run rfl rfl) trivial (vp (eSi64 a2) rfl (vq (i6 (a2.length : Int)) (len_run rfl rfl) trivial (vp (.bool ((decide ((a1.length : Int) < (a2.length : Int))))) rfl ?_)))))))))
  refine nx ⟨[(0, (i6 a0)), (1, (eSi64 a1)), (2, (eSi64 a2)), (8, (.osl 8)), (21, (.bool ((decide ((a1.length : Int) < (a2.length : Int))))))], [(8, (bk (.row 1 (r1.map (AV.int .i64)))))]⟩ (by kernel_rfl) ?_
  cases hb3 : (decide ((a1.length : Int) < (a2.length : Int)))
  · have h := ite_f hb3 h
    refine a_cond_f rfl (a_skip (a_next (σ' := ⟨[(0, (i6 a0)), (1, (eSi64 a1)), (2, (eSi64 a2)), (8, (.osl 8))], [(8, (bk (.row 1 (r1.map (AV.int .i64)))))]⟩) (by kernel_rfl) (sr (vp (eSi64 a1) rfl (vq (i6 (a1.length : Int)) (len_run rfl rfl) trivial (vp (eSi64 a2) rfl (vq (i6 (a2.length : Int)) (len_run rfl rfl) trivial (vp (i6 (IntKind.i64.wrap ((a1.length : Int) - (a2.length : Int)))) rfl ?_))))))))
    obtain ⟨x4, hx5, h⟩ := letp_some h
    refine a_val' (v := (i6 (IntKind.i64.wrap ((IntKind.i64.wrap ((a1.length : Int) - (a2.length : Int))) + 1)))) (v' := (i6 x4)) (u := []) (u' := []) rfl (congrArg (fun z => ((i6 z) : AV)) hx5) rfl trivial rfl ?_
    obtain ⟨hc6, h⟩ := ifp_some h
    refine vu (.osl 3900) [(3900, (bk (.row 1 ((List.replicate x4.toNat (0 : Int)).map (AV.int .i64)))))] (mk_run (i := ⟨.int .i64, 1, 8, (.int .i64 0)⟩) (f := (AV.int .i64)) (y := (0 : Int)) rfl rfl rfl rfl rfl rfl) ⟨rfl, hc6.1, hc6.2.1, hc6.2.2, (Nat.le_of_ble_eq_true rfl)⟩ rfl (vp (.osl 3900) rfl (nx ⟨[(0, (i6 a0)), (2, (eSi64 a2)), (8, (.osl 8)), (9, (.osl 9))], [(8, (bk (.row 1 (r1.map (AV.int .i64))))), (9, (bk (.row 1 ((List.replicate x4.toNat (0 : Int)).map (AV.int .i64)))))]⟩ (by kernel_rfl) (sr (vp (i6 a0) rfl (vp (eSi64 a2) rfl ?_)))))
    obtain ⟨r7, hr8, h⟩ := bind_some h
    refine a_call (args := [(eSi64 a2)]) (u := []) (r := (i6 r7)) rfl rfl (impl_row_lead_ok a2 r7 hr8) rfl ?_
    obtain ⟨r9, hr10, h⟩ := bind_some h
    refine a_call (args := [(i6 a0), (i6 r7)]) (u := []) (r := (i6 r9)) rfl rfl (impl_prime_inverse_ok a0 r7 r9 hr10) rfl (vp (i6 r9) rfl (nx ⟨[(0, (i6 a0)), (2, (eSi64 a2)), (8, (.osl 8)), (9, (.osl 9)), (10, (i6 r9))], [(8, (bk (.row 1 (r1.map (AV.int .i64))))), (9, (bk (.row 1 ((List.replicate x4.toNat (0 : Int)).map (AV.int .i64)))))]⟩ (by kernel_rfl) ?_))
    obtain ⟨y352, hy353, hk354⟩ := bind_some h
    clear h
    refine a_join (emb := fun (s : ((List Int) × (List Int))) => ⟨[(8, (.osl 8)), (9, (.osl 9))], [(8, (bk (.row 1 (s.1.map (AV.int .i64))))), (9, (bk (.row 1 (s.2.map (AV.int .i64)))))]⟩) (pre := fun s => s = y352) ?_ ?_
    · rintro ⟨x350, x351⟩ rfl
      have h := hk354
      refine a_st (σ' := ⟨[(8, (.osl 8)), (9, (.osl 9))], [(8, (bk (.row 1 (x350.map (AV.int .i64))))), (9, (bk (.row 1 (x351.map (AV.int .i64)))))]⟩) (by kernel_rfl) (sr (vp (.osl 9) rfl ?_))
      obtain ⟨r694, hr695, h⟩ := bind_some h
      refine a_call (args := [(eSi64 x351)]) (u := [(9, (bf (.row 1 (x351.map (AV.int .i64)))))]) (r := (eSi64 r694)) rfl rfl (impl_row_trimmed_ok x351 r694 hr695) rfl (vp (.osl 8) rfl ?_)
      obtain ⟨r696, hr697, h⟩ := bind_some h
      refine a_call (args := [(eSi64 x350)]) (u := [(8, (bf (.row 1 (x350.map (AV.int .i64)))))]) (r := (eSi64 r696)) rfl rfl (impl_row_trimmed_ok x350 r696 hr697) rfl (vp (eSi64 r694) rfl (vp (eSi64 r696) rfl (nx _ rfl (a_ret ?_))))
      refine ⟨.inr rfl, ?_⟩
      rw [Try.results110]
      cases h
      exact ⟨_, _, _, _, _, rfl, trivial, .inl ⟨rfl, .inl rfl⟩, rfl, ⟨_, _, _, _, _, rfl, trivial, .inl ⟨rfl, .inl rfl⟩, rfl, rfl⟩⟩
    · have h := hy353
      refine sr (vp (.osl 9) rfl (vq (i6 (((List.replicate x4.toNat (0 : Int)).length : Int))) (leno_run rfl rfl rfl) trivial ?_))
      obtain ⟨x355, hx356, h⟩ := letp_some h
      refine a_val' (v := (i6 (IntKind.i64.wrap ((((List.replicate x4.toNat (0 : Int)).length : Int)) - 1)))) (v' := (i6 x355)) (u := []) (u' := []) rfl (congrArg (fun z => ((i6 z) : AV)) hx356) rfl trivial rfl (vp (i6 x355) rfl (nx ⟨[(0, (i6 a0)), (2, (eSi64 a2)), (8, (.osl 8)), (9, (.osl 9)), (10, (i6 r9)), (11, (i6 x355))], [(8, (bk (.row 1 (r1.map (AV.int .i64))))), (9, (bk (.row 1 ((List.replicate x4.toNat (0 : Int)).map (AV.int .i64)))))]⟩ (by kernel_rfl) (a_block ?_)))
      refine a_loop (emb := fun (s : (Int × (List Int) × (List Int))) => ⟨[(0, (i6 a0)), (2, (eSi64 a2)), (8, (.osl 8)), (9, (.osl 9)), (10, (i6 r9)), (11, (i6 s.1))], [(8, (bk (.row 1 (s.2.1.map (AV.int .i64))))), (9, (bk (.row 1 (s.2.2.map (AV.int .i64)))))]⟩) (body := (fun s : (Int × (List Int) × (List Int)) => impl_prime_divide_l1 a2 a0 r9 s.1 s.2.1 s.2.2)) (G := fun q => some q = some y352) h rfl ?_ (by kernel_rfl)
      rintro X580 ⟨x467, x468, x469⟩ x581 h hX582
      have h : impl_prime_divide_l1 a2 a0 r9 x467 x468 x469 = some x581 := h
      refine a_st (σ' := ⟨[(0, (i6 a0)), (2, (eSi64 a2)), (8, (.osl 8)), (9, (.osl 9)), (10, (i6 r9)), (11, (i6 x467))], [(8, (bk (.row 1 (x468.map (AV.int .i64))))), (9, (bk (.row 1 (x469.map (AV.int .i64)))))]⟩) (by kernel_rfl) (a_seq (sr (vp (i6 x467) rfl (vp (.bool ((decide (x467 ≥ 0)))) rfl (nx ⟨[(0, (i6 a0)), (2, (eSi64 a2)), (8, (.osl 8)), (9, (.osl 9)), (10, (i6 r9)), (11, (i6 x467)), (38, (.bool ((decide (x467 ≥ 0)))))], [(8, (bk (.row 1 (x468.map (AV.int .i64))))), (9, (bk (.row 1 (x469.map (AV.int .i64)))))]⟩ (by kernel_rfl) ?_)))))
      cases hb583 : (decide (x467 ≥ 0))
      · have h := ite_f hb583 h
        refine a_cond_f rfl (a_exit (t_exit ?_))
        cases h
        have h := hX582
        refine t_exit (b_exit ?_)
        exact j_leaf (x468, x469) (Option.some.inj h) (by kernel_rfl)
      · have h := ite_t hb583 h
        refine a_cond_t rfl (a_skip (a_next (σ' := ⟨[(0, (i6 a0)), (2, (eSi64 a2)), (8, (.osl 8)), (9, (.osl 9)), (10, (i6 r9)), (11, (i6 x467))], [(8, (bk (.row 1 (x468.map (AV.int .i64))))), (9, (bk (.row 1 (x469.map (AV.int .i64)))))]⟩) (by kernel_rfl) ?_))
        obtain ⟨y638, hy639, hk640⟩ := bind_some h
        clear h
        refine a_join (emb := fun (s : ((List Int) × (List Int))) => ⟨[(0, (i6 a0)), (2, (eSi64 a2)), (8, (.osl 8)), (9, (.osl 9)), (10, (i6 r9)), (11, (i6 x467))], [(8, (bk (.row 1 (s.1.map (AV.int .i64))))), (9, (bk (.row 1 (s.2.map (AV.int .i64)))))]⟩) (pre := fun s => s = y638) ?_ ?_
        · rintro ⟨x636, x637⟩ rfl
          have h := hk640
          refine a_st (σ' := ⟨[(0, (i6 a0)), (2, (eSi64 a2)), (8, (.osl 8)), (9, (.osl 9)), (10, (i6 r9)), (11, (i6 x467))], [(8, (bk (.row 1 (x636.map (AV.int .i64))))), (9, (bk (.row 1 (x637.map (AV.int .i64)))))]⟩) (by kernel_rfl) (a_region (vp (i6 x467) rfl (vp (i6 (IntKind.i64.wrap (x467 - 1))) rfl (vp (i6 (IntKind.i64.wrap (x467 - 1))) rfl (a_nil ?_)))))
          cases h
          exact a_again (by kernel_rfl) hX582
        · have h := hy639
          refine a_block (sr (vp (.osl 8) rfl (vp (i6 x467) rfl (vp (eSi64 a2) rfl (vq (i6 (a2.length : Int)) (len_run rfl rfl) trivial (vp (i6 (IntKind.i64.wrap (x467 + (a2.length : Int)))) rfl ?_))))))
          obtain ⟨x641, hx642, h⟩ := letp_some h
          refine a_val' (v := (i6 (IntKind.i64.wrap ((IntKind.i64.wrap (x467 + (a2.length : Int))) - 1)))) (v' := (i6 x641)) (u := []) (u' := []) rfl (congrArg (fun z => ((i6 z) : AV)) hx642) rfl trivial rfl ?_
          obtain ⟨hc643, h⟩ := ifp_some h
          refine vq (.own 8 [x641.toNat] [x641.toNat * 1]) rfl (lmap hc643) ?_
          have hl644 : LdOk [x641.toNat] (.row 1 (x468.map (AV.int .i64))) [x641.toNat * 1] 1 false (i6 (rd x468 x641.toNat)) := (.row (llt hc643) rfl (.nil rfl rfl rfl))
          refine vq (i6 (rd x468 x641.toNat)) (ld_own (i := ⟨.int .i64, 1, 8, (.int .i64 0)⟩) rfl rfl rfl hl644) hl644.c (vp (i6 r9) rfl (vp (i6 (IntKind.i64.wrap ((rd x468 x641.toNat) * r9))) rfl (vp (i6 a0) rfl ?_)))
          obtain ⟨hc645, h⟩ := ifp_some h
          refine vq (i6 (Int.tmod (IntKind.i64.wrap ((rd x468 x641.toNat) * r9)) a0)) rfl hc645 (vp (i6 (Int.tmod (IntKind.i64.wrap ((rd x468 x641.toNat) * r9)) a0)) rfl (nx ⟨[(0, (i6 a0)), (2, (eSi64 a2)), (8, (.osl 8)), (9, (.osl 9)), (10, (i6 r9)), (11, (i6 x467)), (12, (i6 (Int.tmod (IntKind.i64.wrap ((rd x468 x641.toNat) * r9)) a0)))], [(8, (bk (.row 1 (x468.map (AV.int .i64))))), (9, (bk (.row 1 (x469.map (AV.int .i64)))))]⟩ (by kernel_rfl) (sr (vp (.osl 9) rfl (vp (i6 x467) rfl (vp (i6 (Int.tmod (IntKind.i64.wrap ((rd x468 x641.toNat) * r9)) a0)) rfl ?_))))))
          obtain ⟨hc646, h⟩ := ifp_some h
          refine vq (.own 9 [x467.toNat] [x467.toNat * 1]) rfl (lmap hc646) ?_
          have hs647 : StOk [x467.toNat] (.row 1 (x469.map (AV.int .i64))) [x467.toNat * 1] 1 (i6 (Int.tmod (IntKind.i64.wrap ((rd x468 x641.toNat) * r9)) a0)) (.row 1 (((x469.set x467.toNat (Int.tmod (IntKind.i64.wrap ((rd x468 x641.toNat) * r9)) a0))).map (AV.int .i64))) := (.row (y := Int.tmod (IntKind.i64.wrap ((rd x468 x641.toNat) * r9)) a0) (llt hc646) rfl (.nil rfl rfl rfl rfl))
          refine vu .top [(9, (bk (.row 1 (((x469.set x467.toNat (Int.tmod (IntKind.i64.wrap ((rd x468 x641.toNat) * r9)) a0))).map (AV.int .i64)))))] (st_own (i := ⟨.int .i64, 1, 8, (.int .i64 0)⟩) rfl rfl (fun _ => rfl) rfl hs647) (hs647.c rfl) rfl (nx ⟨[(0, (i6 a0)), (2, (eSi64 a2)), (8, (.osl 8)), (9, (.osl 9)), (10, (i6 r9)), (11, (i6 x467)), (12, (i6 (Int.tmod (IntKind.i64.wrap ((rd x468 x641.toNat) * r9)) a0)))], [(8, (bk (.row 1 (x468.map (AV.int .i64))))), (9, (bk (.row 1 (((x469.set x467.toNat (Int.tmod (IntKind.i64.wrap ((rd x468 x641.toNat) * r9)) a0))).map (AV.int .i64)))))]⟩ (by kernel_rfl) (sr (vp (eSi64 a2) rfl (vq (i6 (a2.length : Int)) (len_run rfl rfl) trivial (vp (i6 0) rfl (nx ⟨[(0, (i6 a0)), (2, (eSi64 a2)), (8, (.osl 8)), (9, (.osl 9)), (10, (i6 r9)), (11, (i6 x467)), (12, (i6 (Int.tmod (IntKind.i64.wrap ((rd x468 x641.toNat) * r9)) a0))), (57, (eSi64 a2)), (58, (i6 (a2.length : Int))), (59, (i6 0))], [(8, (bk (.row 1 (x468.map (AV.int .i64))))), (9, (bk (.row 1 (((x469.set x467.toNat (Int.tmod (IntKind.i64.wrap ((rd x468 x641.toNat) * r9)) a0))).map (AV.int .i64)))))]⟩ (by kernel_rfl) (a_block ?_)))))))
          refine a_loop (emb := fun (s : (Int × (List Int))) => ⟨[(0, (i6 a0)), (2, (eSi64 a2)), (8, (.osl 8)), (9, (.osl 9)), (10, (i6 r9)), (11, (i6 x467)), (12, (i6 (Int.tmod (IntKind.i64.wrap ((rd x468 x641.toNat) * r9)) a0))), (57, (eSi64 a2)), (58, (i6 (a2.length : Int))), (59, (i6 s.1))], [(8, (bk (.row 1 (s.2.map (AV.int .i64))))), (9, (bk (.row 1 (((x469.set x467.toNat (Int.tmod (IntKind.i64.wrap ((rd x468 x641.toNat) * r9)) a0))).map (AV.int .i64)))))]⟩) (body := (fun s : (Int × (List Int)) => impl_prime_divide_l2 a2 x467 x468 x641 r9 a0 x469 s.1 s.2)) (G := fun q => some q = some y638) h rfl ?_ (by kernel_rfl)
          rintro X676 ⟨x661, x662⟩ x677 h hX678
          have h : impl_prime_divide_l2 a2 x467 x468 x641 r9 a0 x469 x661 x662 = some x677 := h
          refine a_st (σ' := ⟨[(0, (i6 a0)), (2, (eSi64 a2)), (8, (.osl 8)), (9, (.osl 9)), (10, (i6 r9)), (11, (i6 x467)), (12, (i6 (Int.tmod (IntKind.i64.wrap ((rd x468 x641.toNat) * r9)) a0))), (57, (eSi64 a2)), (58, (i6 (a2.length : Int))), (59, (i6 x661))], [(8, (bk (.row 1 (x662.map (AV.int .i64))))), (9, (bk (.row 1 (((x469.set x467.toNat (Int.tmod (IntKind.i64.wrap ((rd x468 x641.toNat) * r9)) a0))).map (AV.int .i64)))))]⟩) (by kernel_rfl) (sr (vp (.bool ((decide (x661 < (a2.length : Int))))) rfl (nx ⟨[(0, (i6 a0)), (2, (eSi64 a2)), (8, (.osl 8)), (9, (.osl 9)), (10, (i6 r9)), (11, (i6 x467)), (12, (i6 (Int.tmod (IntKind.i64.wrap ((rd x468 x641.toNat) * r9)) a0))), (57, (eSi64 a2)), (58, (i6 (a2.length : Int))), (59, (i6 x661)), (60, (.bool ((decide (x661 < (a2.length : Int))))))], [(8, (bk (.row 1 (x662.map (AV.int .i64))))), (9, (bk (.row 1 (((x469.set x467.toNat (Int.tmod (IntKind.i64.wrap ((rd x468 x641.toNat) * r9)) a0))).map (AV.int .i64)))))]⟩ (by kernel_rfl) (a_seq ?_))))
          cases hb679 : (decide (x661 < (a2.length : Int)))
          · have h := ite_f hb679 h
            refine a_cond_f rfl (a_exit (t_exit ?_))
            cases h
            have h := hX678
            refine t_exit (b_exit (b_norm ?_))
            exact j_leaf ((x662, (x469.set x467.toNat (Int.tmod (IntKind.i64.wrap ((rd x468 x641.toNat) * r9)) a0)))) (Option.some.inj h) (by kernel_rfl)
          · have h := ite_t hb679 h
            refine a_cond_t rfl (a_skip (a_next (σ' := ⟨[(0, (i6 a0)), (2, (eSi64 a2)), (8, (.osl 8)), (9, (.osl 9)), (10, (i6 r9)), (11, (i6 x467)), (12, (i6 (Int.tmod (IntKind.i64.wrap ((rd x468 x641.toNat) * r9)) a0))), (57, (eSi64 a2)), (58, (i6 (a2.length : Int))), (59, (i6 x661))], [(8, (bk (.row 1 (x662.map (AV.int .i64))))), (9, (bk (.row 1 (((x469.set x467.toNat (Int.tmod (IntKind.i64.wrap ((rd x468 x641.toNat) * r9)) a0))).map (AV.int .i64)))))]⟩) (by kernel_rfl) (a_seq (a_block (sr (vp (i6 x661) rfl ?_))))))
            obtain ⟨hc680, h⟩ := ifp_some h
            refine vq (.ref (.row 1 (a2.map (AV.int .i64))) [x661.toNat] [x661.toNat * 1]) rfl (lmap hc680) ?_
            have hl681 : LdOk [x661.toNat] (.row 1 (a2.map (AV.int .i64))) [x661.toNat * 1] 1 false (i6 (rd a2 x661.toNat)) := (.row (llt hc680) rfl (.nil rfl rfl rfl))
            refine vq (i6 (rd a2 x661.toNat)) (ld_ref (i := ⟨.int .i64, 1, 8, (.int .i64 0)⟩) rfl rfl hl681) hl681.c (vp (i6 x661) rfl (vp (i6 (rd a2 x661.toNat)) rfl (nx ⟨[(0, (i6 a0)), (2, (eSi64 a2)), (8, (.osl 8)), (9, (.osl 9)), (10, (i6 r9)), (11, (i6 x467)), (12, (i6 (Int.tmod (IntKind.i64.wrap ((rd x468 x641.toNat) * r9)) a0))), (13, (i6 x661)), (14, (i6 (rd a2 x661.toNat))), (57, (eSi64 a2)), (58, (i6 (a2.length : Int))), (59, (i6 x661))], [(8, (bk (.row 1 (x662.map (AV.int .i64))))), (9, (bk (.row 1 (((x469.set x467.toNat (Int.tmod (IntKind.i64.wrap ((rd x468 x641.toNat) * r9)) a0))).map (AV.int .i64)))))]⟩ (by kernel_rfl) (a_region (vp (.osl 8) rfl (vp (i6 x467) rfl (vp (i6 x661) rfl (vp (i6 (IntKind.i64.wrap (x467 + x661))) rfl (vp (i6 a0) rfl ?_)))))))))
            refine vp (.osl 8) rfl (vp (i6 x467) rfl (vp (i6 x661) rfl (vp (i6 (IntKind.i64.wrap (x467 + x661))) rfl ?_)))
            obtain ⟨hc682, h⟩ := ifp_some h
            refine vq (.own 8 [(IntKind.i64.wrap (x467 + x661)).toNat] [(IntKind.i64.wrap (x467 + x661)).toNat * 1]) rfl (lmap hc682) ?_
            have hl683 : LdOk [(IntKind.i64.wrap (x467 + x661)).toNat] (.row 1 (x662.map (AV.int .i64))) [(IntKind.i64.wrap (x467 + x661)).toNat * 1] 1 false (i6 ((rd x662 (IntKind.i64.wrap (x467 + x661)).toNat))) := (.row (llt hc682) rfl (.nil rfl rfl rfl))
            refine vq (i6 ((rd x662 (IntKind.i64.wrap (x467 + x661)).toNat))) (ld_own (i := ⟨.int .i64, 1, 8, (.int .i64 0)⟩) rfl rfl rfl hl683) hl683.c (vp (i6 (Int.tmod (IntKind.i64.wrap ((rd x468 x641.toNat) * r9)) a0)) rfl (vp (i6 (rd a2 x661.toNat)) rfl ?_))
            obtain ⟨x684, hx685, h⟩ := letp_some h
            refine a_val' (v := (i6 (IntKind.i64.wrap ((Int.tmod (IntKind.i64.wrap ((rd x468 x641.toNat) * r9)) a0) * (rd a2 x661.toNat))))) (v' := (i6 x684)) (u := []) (u' := []) rfl (congrArg (fun z => ((i6 z) : AV)) hx685) rfl trivial rfl ?_
            obtain ⟨x686, hx687, h⟩ := letp_some h
            refine a_val' (v := (i6 (IntKind.i64.wrap (((rd x662 (IntKind.i64.wrap (x467 + x661)).toNat)) - x684)))) (v' := (i6 x686)) (u := []) (u' := []) rfl (congrArg (fun z => ((i6 z) : AV)) hx687) rfl trivial rfl ?_
            obtain ⟨r688, hr689, h⟩ := bind_some h
            refine a_call (args := [(i6 a0), (i6 x686)]) (u := []) (r := (i6 r688)) rfl rfl (impl_prime_reduce_ok a0 x686 r688 hr689) rfl ?_
            obtain ⟨hc690, h⟩ := ifp_some h
            refine vq (.own 8 [(IntKind.i64.wrap (x467 + x661)).toNat] [(IntKind.i64.wrap (x467 + x661)).toNat * 1]) rfl (lmap hc690) ?_
            have hs691 : StOk [(IntKind.i64.wrap (x467 + x661)).toNat] (.row 1 (x662.map (AV.int .i64))) [(IntKind.i64.wrap (x467 + x661)).toNat * 1] 1 (i6 r688) (.row 1 (((x662.set (IntKind.i64.wrap (x467 + x661)).toNat r688)).map (AV.int .i64))) := (.row (y := r688) (llt hc690) rfl (.nil rfl rfl rfl rfl))
            refine vu .top [(8, (bk (.row 1 (((x662.set (IntKind.i64.wrap (x467 + x661)).toNat r688)).map (AV.int .i64)))))] (st_own (i := ⟨.int .i64, 1, 8, (.int .i64 0)⟩) rfl rfl (fun _ => rfl) rfl hs691) (hs691.c rfl) rfl (a_nil (b_norm (a_next (σ' := ⟨[(0, (i6 a0)), (2, (eSi64 a2)), (8, (.osl 8)), (9, (.osl 9)), (10, (i6 r9)), (11, (i6 x467)), (12, (i6 (Int.tmod (IntKind.i64.wrap ((rd x468 x641.toNat) * r9)) a0))), (57, (eSi64 a2)), (58, (i6 (a2.length : Int))), (59, (i6 x661))], [(8, (bk (.row 1 (((x662.set (IntKind.i64.wrap (x467 + x661)).toNat r688)).map (AV.int .i64))))), (9, (bk (.row 1 (((x469.set x467.toNat (Int.tmod (IntKind.i64.wrap ((rd x468 x641.toNat) * r9)) a0))).map (AV.int .i64)))))]⟩) (by kernel_rfl) (a_region (vp (i6 (IntKind.i64.wrap (x661 + 1))) rfl (vp (i6 (IntKind.i64.wrap (x661 + 1))) rfl (a_nil ?_)))))))
            cases h
            exact a_again (by kernel_rfl) hX678
  · have h := ite_t hb3 h
    refine a_cond_t rfl (sr (vp (.osl 8) rfl (vp (eSi64 ([])) rfl (vu (eSi64 r1) [(8, (bf (.row 1 (r1.map (AV.int .i64)))))] rfl trivial rfl (nx _ rfl (a_ret (t_ret ?_)))))))
    refine ⟨.inr rfl, ?_⟩
    rw [Try.results110]
    cases h
    exact ⟨_, _, _, _, _, rfl, trivial, .inl ⟨rfl, .inl rfl⟩, rfl, ⟨_, _, _, _, _, rfl, trivial, .inl ⟨rfl, .inl rfl⟩, rfl, rfl⟩⟩
def impl_prime_rest_c : ACode := (.seq (.region 0 [q 6 (.asg 1 (.const (.slice none 0 0)) 80)] false) (.seq (.region 1 [q 10 (.mov (t 0)), q 11 (.mov (t 1)), q 12 (.mov (t 2)), q 13 (.call 0 (.func 110) [(t 10), (t 11), (t 12)]), q 9 (.mov (t 13)), q 14 (.extract (t 9) 0), q 15 (.extract (t 9) 1), q 7 (.asg 1 (t 14) 80), q 8 (.asg 1 (t 15) 80)] false) (.seq (.region 2 [q 16 (.mov (t 8)), q 6 (.asg 1 (t 16) 80)] false) .ret)))
def impl_prime_rest_L : Live := [(0, [0, 1, 2]), (1, [0, 1, 2]), (2, [8])]
noncomputable def impl_prime_rest (a0 : Int) (a1 : (List Int)) (a2 : (List Int)) : Option (List Int) :=
  (Option.bind (impl_prime_divide a0 a1 a2) fun r1 => (some r1.2))
theorem impl_prime_rest_ok (a0 : Int) (a1 : (List Int)) (a2 : (List Int)) (r : (List Int)) (h : impl_prime_rest a0 a1 a2 = some r) : Den Try.prog 162 [(i6 a0), (eSi64 a1), (eSi64 a2)] { r := (eSi64 r) } := by
  refine den_of (rs := [(eSi64 r)]) (ac := impl_prime_rest_c) (L := impl_prime_rest_L) (n := 17) (m := [(6, 1), (7, 1), (8, 1)]) (c := Try.f162.body.getD .skip) good Try.func162 (by kernel_rfl) (by kernel_rfl) Try.ntmps162 rfl rfl (by kernel_rfl) rfl rfl ?_
  refine a_st (σ' := ⟨[(0, (i6 a0)), (1, (eSi64 a1)), (2, (eSi64 a2))], []⟩) (by kernel_rfl) ?_
  unfold impl_prime_rest_c
  refine sr (vp (eSi64 ([])) rfl (nx ⟨[(0, (i6 a0)), (1, (eSi64 a1)), (2, (eSi64 a2))], []⟩ (by kernel_rfl) (sr (vp (i6 a0) rfl (vp (eSi64 a1) rfl (vp (eSi64 a2) rfl ?_))))))
  obtain ⟨r1, hr2, h⟩ := bind_some h
  refine a_call (args := [(i6 a0), (eSi64 a1), (eSi64 a2)]) (u := []) (r := (.tuple [(eSi64 r1.1), (eSi64 r1.2)])) rfl rfl (impl_prime_divide_ok a0 a1 a2 r1 hr2) rfl (vp (.tuple [(eSi64 r1.1), (eSi64 r1.2)]) rfl (vb (eSi64 r1.1) rfl rfl (vb (eSi64 r1.2) rfl rfl (vp (eSi64 r1.1) rfl (vp (eSi64 r1.2) rfl (nx ⟨[(8, (eSi64 r1.2))], []⟩ (by kernel_rfl) (sr (vp (eSi64 r1.2) rfl (vp (eSi64 r1.2) rfl ?_)))))))))
  refine nx _ rfl (a_ret ?_)
  refine ⟨.inr rfl, ?_⟩
  rw [Try.results162]
  cases h
  exact ⟨_, _, _, _, _, rfl, trivial, .inl ⟨rfl, .inl rfl⟩, rfl, rfl⟩
end Go.Proofs.Ytkbnegemdlnncaa
