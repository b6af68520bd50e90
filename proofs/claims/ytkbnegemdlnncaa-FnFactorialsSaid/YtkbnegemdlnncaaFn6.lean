/- Functions of the program: plain Lean functions, and that the program computes them. Printed by gen.py. -/
import Derived.Test.YtkbnegemdlnncaaFnT
import Derived.Test.YtkbnegemdlnncaaFn2
import Derived.Test.YtkbnegemdlnncaaFn3
namespace Go.Proofs.Ytkbnegemdlnncaa
open Go.Abs Go.Proofs
set_option linter.unusedSimpArgs false
set_option linter.unusedVariables false
set_option maxHeartbeats 16000000
attribute [local irreducible] Abs.acode Abs.aops Abs.aopsT Abs.thenK Abs.blockK

def spec_l08Power_c : ACode := (.seq (.region 0 [q 4 (.box 25 (t 1)), q 6 (.alloc 25), q 7 (.asg 0 (.const (.bool false)) 4)] false) (.seq (.region 1 [q 11 (.call 0 (.func 133) []), q 8 (.alloc 25), ⟨none, .store 25 (t 8) (t 11), none, []⟩] false) (.seq (.block 0 (.loop (.seq (.seq (.region 2 [q 12 (.mov (t 2)), q 13 (.bin .gtr 2 (t 12) (.const (.int .i64 0)))] false) (.cond (t 13) .skip (.exit 0))) (.seq (.block 1 (.seq (.region 4 [q 17 (.mov (t 0)), q 18 (.load 25 (t 8)), q 19 (.load 25 (t 4)), q 20 (.call 0 (.func 105) [(t 17), (t 18), (t 19)]), q 16 (.mov (t 20)), q 21 (.extract (t 16) 0), q 22 (.extract (t 16) 1), q 9 (.alloc 25), ⟨none, .store 25 (t 9) (t 21), none, []⟩, q 10 (.asg 0 (t 22) 4)] false) (.seq (.seq (.region 5 [q 23 (.mov (t 10)), q 24 (.un .not (t 23))] false) (.cond (t 24) (.seq (.region 6 [q 25 (.build 25 []), ⟨none, .store 25 (t 6) (t 25), none, []⟩, q 7 (.asg 0 (.const (.bool false)) 4)] false) .ret) .skip)) (.region 7 [q 26 (.load 25 (t 9)), ⟨none, .store 25 (t 8) (t 26), none, []⟩] false)))) (.region 3 [q 14 (.mov (t 2)), q 15 (.bin .sub 2 (t 14) (.const (.int .i64 1))), q 2 (.asg 0 (t 15) 2)] false))))) (.seq (.region 8 [q 27 (.load 25 (t 8)), ⟨none, .store 25 (t 6) (t 27), none, []⟩, q 7 (.asg 0 (.const (.bool true)) 4)] false) .ret))))
def spec_l08Power_L : Live := [(0, [0, 1, 2]), (1, [0, 2, 4, 6]), (2, [0, 2, 4, 6, 8]), (3, [0, 2, 4, 6, 8]), (4, [0, 2, 4, 6, 8]), (5, [0, 2, 4, 6, 8, 9, 10]), (6, [6]), (7, [0, 2, 4, 6, 8, 9]), (8, [6, 8]), (100013, [0, 2, 4, 6, 8, 13]), (100024, [0, 2, 4, 6, 8, 9, 24])]
noncomputable def spec_l08Power_l1 (a0 : Int) (a1 : (Vec Int 64)) (x54 : Int) (x55 : (Vec Int 64)) : Option ((Int × (Vec Int 64)) ⊕ ((Vec Int 64) ⊕ ((Vec Int 64) × Bool))) :=
  (if (decide (x54 > 0)) then (Option.bind (spec_l01Times a0 x55 a1) fun r72 => (if (!r72.2) then (some (.inr ((.inr (((vrep 64 (0 : Int)), false)))))) else (some (.inl ((IntKind.i64.wrap (x54 - 1), r72.1)))))) else (some (.inr (.inl x55))))
noncomputable def spec_l08Power (a0 : Int) (a1 : (Vec Int 64)) (a2 : Int) : Option ((Vec Int 64) × Bool) :=
  (Option.bind (spec_l01One) fun r1 => (Option.bind (α := ((Vec Int 64) ⊕ ((Vec Int 64) × Bool))) ((loopM (fun s : (Int × (Vec Int 64)) => spec_l08Power_l1 a0 a1 s.1 s.2) (a2, r1))) fun z => match z with | .inl x40 => (some (x40, true)) | .inr r84 => (some r84)))
theorem spec_l08Power_ok (a0 : Int) (a1 : (Vec Int 64)) (a2 : Int) (r : ((Vec Int 64) × Bool)) (h : spec_l08Power a0 a1 a2 = some r) : Den Try.prog 198 [(i6 a0), (eA64u8 a1), (i6 a2)] { r := (.tuple [(eA64u8 r.1), (.bool r.2)]) } := by
  refine den_of (rs := [(eA64u8 r.1), (.bool r.2)]) (ac := spec_l08Power_c) (L := spec_l08Power_L) (n := 28) (m := []) (c := Try.f198.body.getD .skip) good Try.func198 (by kernel_rfl) (by kernel_rfl) Try.ntmps198 rfl rfl (by kernel_rfl) rfl rfl ?_
  refine a_st (σ' := ⟨[(0, (i6 a0)), (1, (eA64u8 a1)), (2, (i6 a2))], []⟩) (by kernel_rfl) ?_
  unfold spec_l08Power_c
  refine sr (vo 1400 (eA64u8 a1) rfl rfl (vo 1600 (eA64u8 ((vrep 64 (0 : Int)))) rfl rfl (vp (.bool false) rfl (nx ⟨[(0, (i6 a0)), (2, (i6 a2)), (4, (ow 4)), (6, (ow 6))], [(4, (bk (eA64u8 a1))), (6, (bk (eA64u8 ((vrep 64 (0 : Int))))))]⟩ (by kernel_rfl) (sr ?_)))))
  obtain ⟨r1, hr2, h⟩ := bind_some h
  refine a_call (args := []) (u := []) (r := (eA64u8 r1)) rfl rfl (spec_l01One_ok r1 hr2) rfl (vo 1800 (eA64u8 ((vrep 64 (0 : Int)))) rfl rfl (vs (eA64u8 r1) rfl rfl (fun _ => rfl) rfl rfl rfl rfl rfl rfl (nx ⟨[(0, (i6 a0)), (2, (i6 a2)), (4, (ow 4)), (6, (ow 6)), (8, (ow 8))], [(4, (bk (eA64u8 a1))), (6, (bk (eA64u8 ((vrep 64 (0 : Int)))))), (8, (bk (eA64u8 r1)))]⟩ (by kernel_rfl) ?_)))
  obtain ⟨y41, hy42, hk43⟩ := bind_some h
  clear h
  refine a_join (emb := fun (s : (Vec Int 64)) => ⟨[(6, (ow 6)), (8, (ow 8))], [(6, (bk (eA64u8 ((vrep 64 (0 : Int)))))), (8, (bk (eA64u8 s)))]⟩) (pre := fun s => (.inl s) = y41) ?_ ?_
  · rintro x40 rfl
    have h := hk43
    refine a_st (σ' := ⟨[(6, (ow 6)), (8, (ow 8))], [(6, (bk (eA64u8 ((vrep 64 (0 : Int)))))), (8, (bk (eA64u8 x40)))]⟩) (by kernel_rfl) (sr (vl (eA64u8 x40) rfl rfl rfl rfl rfl rfl (vs (eA64u8 x40) rfl rfl (fun _ => rfl) rfl rfl rfl rfl rfl rfl (vp (.bool true) rfl (nx _ rfl (a_ret ?_))))))
    have hl83 : LdOk [] (eA64u8 x40) [] 64 true (eA64u8 x40) := (.nil rfl rfl rfl)
    refine ⟨.inr rfl, ?_⟩
    rw [Try.results198]
    cases h
    exact ⟨_, _, _, _, _, ld_own (i := ⟨.arr 64 5, 64, 64, (eA64u8 (vrep 64 (0 : Int)))⟩) rfl rfl rfl hl83, hl83.c, .inl ⟨rfl, .inl rfl⟩, rfl, ⟨_, _, _, _, _, rfl, trivial, .inl ⟨rfl, .inl rfl⟩, rfl, rfl⟩⟩
  · have h := hy42
    refine a_block ?_
    refine a_loop (emb := fun (s : (Int × (Vec Int 64))) => ⟨[(0, (i6 a0)), (2, (i6 s.1)), (4, (ow 4)), (6, (ow 6)), (8, (ow 8))], [(4, (bk (eA64u8 a1))), (6, (bk (eA64u8 ((vrep 64 (0 : Int)))))), (8, (bk (eA64u8 s.2)))]⟩) (body := (fun s : (Int × (Vec Int 64)) => spec_l08Power_l1 a0 a1 s.1 s.2)) (G := fun q => some q = some y41) h rfl ?_ (by kernel_rfl)
    rintro X66 ⟨x54, x55⟩ x67 h hX68
    have h : spec_l08Power_l1 a0 a1 x54 x55 = some x67 := h
    refine a_st (σ' := ⟨[(0, (i6 a0)), (2, (i6 x54)), (4, (ow 4)), (6, (ow 6)), (8, (ow 8))], [(4, (bk (eA64u8 a1))), (6, (bk (eA64u8 ((vrep 64 (0 : Int)))))), (8, (bk (eA64u8 x55)))]⟩) (by kernel_rfl) (a_seq (sr (vp (i6 x54) rfl (vp (.bool ((decide (x54 > 0)))) rfl (nx ⟨[(0, (i6 a0)), (2, (i6 x54)), (4, (ow 4)), (6, (ow 6)), (8, (ow 8)), (13, (.bool ((decide (x54 > 0)))))], [(4, (bk (eA64u8 a1))), (6, (bk (eA64u8 ((vrep 64 (0 : Int)))))), (8, (bk (eA64u8 x55)))]⟩ (by kernel_rfl) ?_)))))
    cases hb69 : (decide (x54 > 0))
    · have h := ite_f hb69 h
      refine a_cond_f rfl (a_exit (t_exit ?_))
      cases h
      have h := hX68
      refine t_exit (b_exit ?_)
      exact j_leaf x55 (Option.some.inj h) (by kernel_rfl)
    · have h := ite_t hb69 h
      refine a_cond_t rfl (a_skip (a_next (σ' := ⟨[(0, (i6 a0)), (2, (i6 x54)), (4, (ow 4)), (6, (ow 6)), (8, (ow 8))], [(4, (bk (eA64u8 a1))), (6, (bk (eA64u8 ((vrep 64 (0 : Int)))))), (8, (bk (eA64u8 x55)))]⟩) (by kernel_rfl) (a_seq (a_block (sr (vp (i6 a0) rfl (vl (eA64u8 x55) rfl rfl rfl rfl rfl rfl (vl (eA64u8 a1) rfl rfl rfl rfl rfl rfl ?_))))))))
      obtain ⟨r72, hr73, h⟩ := bind_some h
      refine a_call (args := [(i6 a0), (eA64u8 x55), (eA64u8 a1)]) (u := []) (r := (.tuple [(eA64u8 r72.1), (.bool r72.2)])) rfl rfl (spec_l01Times_ok a0 x55 a1 r72 hr73) rfl (vp (.tuple [(eA64u8 r72.1), (.bool r72.2)]) rfl (vb (eA64u8 r72.1) rfl rfl (vb (.bool r72.2) rfl rfl (vo 1900 (eA64u8 ((vrep 64 (0 : Int)))) rfl rfl (vs (eA64u8 r72.1) rfl rfl (fun _ => rfl) rfl rfl rfl rfl rfl rfl (vp (.bool r72.2) rfl (nx ⟨[(0, (i6 a0)), (2, (i6 x54)), (4, (ow 4)), (6, (ow 6)), (8, (ow 8)), (9, (ow 9)), (10, (.bool r72.2))], [(4, (bk (eA64u8 a1))), (6, (bk (eA64u8 ((vrep 64 (0 : Int)))))), (8, (bk (eA64u8 x55))), (9, (bk (eA64u8 r72.1)))]⟩ (by kernel_rfl) (a_seq (sr ?_)))))))))
      refine vp (.bool r72.2) rfl (vp (.bool (!r72.2)) rfl (nx ⟨[(0, (i6 a0)), (2, (i6 x54)), (4, (ow 4)), (6, (ow 6)), (8, (ow 8)), (9, (ow 9)), (24, (.bool (!r72.2)))], [(4, (bk (eA64u8 a1))), (6, (bk (eA64u8 ((vrep 64 (0 : Int)))))), (8, (bk (eA64u8 x55))), (9, (bk (eA64u8 r72.1)))]⟩ (by kernel_rfl) ?_))
      cases hb75 : (!r72.2)
      · have h := ite_f hb75 h
        refine a_cond_f rfl (a_skip (a_next (σ' := ⟨[(0, (i6 a0)), (2, (i6 x54)), (4, (ow 4)), (6, (ow 6)), (8, (ow 8)), (9, (ow 9))], [(4, (bk (eA64u8 a1))), (6, (bk (eA64u8 ((vrep 64 (0 : Int)))))), (8, (bk (eA64u8 x55))), (9, (bk (eA64u8 r72.1)))]⟩) (by kernel_rfl) (a_region (vl (eA64u8 r72.1) rfl rfl rfl rfl rfl rfl (vs (eA64u8 r72.1) rfl rfl (fun _ => rfl) rfl rfl rfl rfl rfl rfl (a_nil (b_norm (a_next (σ' := ⟨[(0, (i6 a0)), (2, (i6 x54)), (4, (ow 4)), (6, (ow 6)), (8, (ow 8))], [(4, (bk (eA64u8 a1))), (6, (bk (eA64u8 ((vrep 64 (0 : Int)))))), (8, (bk (eA64u8 r72.1)))]⟩) (by kernel_rfl) (a_region ?_)))))))))
        refine vp (i6 x54) rfl (vp (i6 (IntKind.i64.wrap (x54 - 1))) rfl (vp (i6 (IntKind.i64.wrap (x54 - 1))) rfl (a_nil ?_)))
        cases h
        exact a_again (by kernel_rfl) hX68
      · have h := ite_t hb75 h
        refine a_cond_t rfl (sr (vq (eA64u8 ((vrep 64 (0 : Int)))) rfl ⟨⟨_, rfl, rfl⟩, all_nil⟩ (vs (eA64u8 ((vrep 64 (0 : Int)))) rfl rfl (fun _ => rfl) rfl rfl rfl rfl rfl rfl (vp (.bool false) rfl (nx _ rfl (a_ret (t_ret (b_ret (t_ret ?_)))))))))
        cases h
        have h := hX68
        refine t_ret (b_ret (t_ret ?_))
        cases h
        have h := hk43
        have hl79 : LdOk [] (eA64u8 ((vrep 64 (0 : Int)))) [] 64 true (eA64u8 ((vrep 64 (0 : Int)))) := (.nil rfl rfl rfl)
        refine ⟨.inr rfl, ?_⟩
        rw [Try.results198]
        cases h
        exact ⟨_, _, _, _, _, ld_own (i := ⟨.arr 64 5, 64, 64, (eA64u8 (vrep 64 (0 : Int)))⟩) rfl rfl rfl hl79, hl79.c, .inl ⟨rfl, .inl rfl⟩, rfl, ⟨_, _, _, _, _, rfl, trivial, .inl ⟨rfl, .inl rfl⟩, rfl, rfl⟩⟩
end Go.Proofs.Ytkbnegemdlnncaa
