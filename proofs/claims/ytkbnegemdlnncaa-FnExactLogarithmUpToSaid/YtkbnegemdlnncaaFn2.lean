/- Functions of the program: plain Lean functions, and that the program computes them. Printed by gen.py. -/
import Derived.Test.YtkbnegemdlnncaaFnT
import Derived.Test.YtkbnegemdlnncaaFn1
namespace Go.Proofs.Ytkbnegemdlnncaa
open Go.Abs Go.Proofs
set_option linter.unusedSimpArgs false
set_option linter.unusedVariables false
set_option maxHeartbeats 16000000
attribute [local irreducible] Abs.acode Abs.aops Abs.aopsT Abs.thenK Abs.blockK

def spec_l04Factorial_c : ACode := (.seq (.region 0 [q 6 (.alloc 25), q 7 (.asg 0 (.const (.bool false)) 4)] false) (.seq (.region 1 [q 14 (.call 0 (.func 133) []), q 8 (.alloc 25), ⟨none, .store 25 (t 8) (t 14), none, []⟩] false) (.seq (.seq (.region 2 [q 9 (.asg 0 (.const (.int .i64 0)) 2)] false) (.block 0 (.loop (.seq (.seq (.region 3 [q 15 (.mov (t 9)), q 16 (.mov (t 1)), q 17 (.bin .lss 2 (t 15) (t 16))] false) (.cond (t 17) .skip (.exit 0))) (.seq (.block 1 (.seq (.region 5 [q 21 (.mov (t 0)), q 22 (.mov (t 1)), q 23 (.mov (t 9)), q 24 (.call 0 (.func 127) [(t 21), (t 22), (t 23)]), q 20 (.mov (t 24)), q 25 (.extract (t 20) 0), q 26 (.extract (t 20) 1), q 10 (.alloc 25), ⟨none, .store 25 (t 10) (t 25), none, []⟩, q 11 (.asg 0 (t 26) 4)] false) (.seq (.seq (.region 6 [q 27 (.mov (t 2))] false) (.cond (t 27) (.region 7 [q 29 (.mov (t 0)), q 30 (.mov (t 9)), q 31 (.bin .add 2 (t 30) (.const (.int .i64 1))), q 32 (.call 0 (.func 127) [(t 29), (t 31), (.const (.int .i64 0))]), q 28 (.mov (t 32)), q 33 (.extract (t 28) 0), q 34 (.extract (t 28) 1), ⟨none, .store 25 (t 10) (t 33), none, []⟩, q 11 (.asg 0 (t 34) 4)] false) .skip)) (.seq (.seq (.region 8 [q 35 (.mov (t 11)), q 36 (.un .not (t 35))] false) (.cond (t 36) (.seq (.region 9 [q 37 (.build 25 []), ⟨none, .store 25 (t 6) (t 37), none, []⟩, q 7 (.asg 0 (.const (.bool false)) 4)] false) .ret) .skip)) (.seq (.region 10 [q 39 (.mov (t 0)), q 40 (.load 25 (t 8)), q 41 (.load 25 (t 10)), q 42 (.call 0 (.func 105) [(t 39), (t 40), (t 41)]), q 38 (.mov (t 42)), q 43 (.extract (t 38) 0), q 44 (.extract (t 38) 1), q 12 (.alloc 25), ⟨none, .store 25 (t 12) (t 43), none, []⟩, q 13 (.asg 0 (t 44) 4)] false) (.seq (.seq (.region 11 [q 45 (.mov (t 13)), q 46 (.un .not (t 45))] false) (.cond (t 46) (.seq (.region 12 [q 47 (.build 25 []), ⟨none, .store 25 (t 6) (t 47), none, []⟩, q 7 (.asg 0 (.const (.bool false)) 4)] false) .ret) .skip)) (.region 13 [q 48 (.load 25 (t 12)), ⟨none, .store 25 (t 8) (t 48), none, []⟩] false))))))) (.region 4 [q 18 (.mov (t 9)), q 19 (.bin .add 2 (t 18) (.const (.int .i64 1))), q 9 (.asg 0 (t 19) 2)] false)))))) (.seq (.region 14 [q 49 (.load 25 (t 8)), ⟨none, .store 25 (t 6) (t 49), none, []⟩, q 7 (.asg 0 (.const (.bool true)) 4)] false) .ret))))
def spec_l04Factorial_L : Live := [(0, [0, 1, 2]), (1, [0, 1, 2, 6]), (2, [0, 1, 2, 6, 8]), (3, [0, 1, 2, 6, 8, 9]), (4, [0, 1, 2, 6, 8, 9]), (5, [0, 1, 2, 6, 8, 9]), (6, [0, 1, 2, 6, 8, 9, 10, 11]), (7, [0, 1, 2, 6, 8, 9, 10]), (8, [0, 1, 2, 6, 8, 9, 10, 11]), (9, [6]), (10, [0, 1, 2, 6, 8, 9, 10]), (11, [0, 1, 2, 6, 8, 9, 12, 13]), (12, [6]), (13, [0, 1, 2, 6, 8, 9, 12]), (14, [6, 8]), (100017, [0, 1, 2, 6, 8, 9, 17]), (100027, [0, 1, 2, 6, 8, 9, 10, 11, 27]), (100036, [0, 1, 2, 6, 8, 9, 10, 36]), (100046, [0, 1, 2, 6, 8, 9, 12, 46])]
noncomputable def spec_l04Factorial_l1 (a1 : Int) (a0 : Int) (x131 : Bool) (x132 : Int) (x133 : (Vec Int 64)) : Option ((Bool × Int × (Vec Int 64)) ⊕ ((Vec Int 64) ⊕ ((Vec Int 64) × Bool))) :=
  (if (decide (x132 < a1)) then (Option.bind (spec_l04Bracket a0 a1 x132) fun r167 => (Option.bind (α := (Bool × Bool × (Vec Int 64))) ((if x131 then (Option.bind (spec_l04Bracket a0 (IntKind.i64.wrap (x132 + 1)) 0) fun r181 => (some (true, r181.2, r181.1))) else (some (false, r167.2, r167.1)))) fun ⟨x174, x175, x176⟩ => (if (!x175) then (some (.inr ((.inr (((vrep 64 (0 : Int)), false)))))) else (Option.bind (spec_l01Times a0 x133 x176) fun r187 => (if (!r187.2) then (some (.inr ((.inr (((vrep 64 (0 : Int)), false)))))) else (some (.inl ((x174, IntKind.i64.wrap (x132 + 1), r187.1))))))))) else (some (.inr (.inl x133))))
noncomputable def spec_l04Factorial (a0 : Int) (a1 : Int) (a2 : Bool) : Option ((Vec Int 64) × Bool) :=
  (Option.bind (spec_l01One) fun r1 => (Option.bind (α := ((Vec Int 64) ⊕ ((Vec Int 64) × Bool))) ((loopM (fun s : (Bool × Int × (Vec Int 64)) => spec_l04Factorial_l1 a1 a0 s.1 s.2.1 s.2.2) (a2, 0, r1))) fun z => match z with | .inl x98 => (some (x98, true)) | .inr r201 => (some r201)))
theorem spec_l04Factorial_ok (a0 : Int) (a1 : Int) (a2 : Bool) (r : ((Vec Int 64) × Bool)) (h : spec_l04Factorial a0 a1 a2 = some r) : Den Try.prog 130 [(i6 a0), (i6 a1), (.bool a2)] { r := (.tuple [(eA64u8 r.1), (.bool r.2)]) } := by
  refine den_of (rs := [(eA64u8 r.1), (.bool r.2)]) (ac := spec_l04Factorial_c) (L := spec_l04Factorial_L) (n := 50) (m := []) (c := Try.f130.body.getD .skip) good Try.func130 (by kernel_rfl) (by kernel_rfl) Try.ntmps130 rfl rfl (by kernel_rfl) rfl rfl ?_
  refine a_st (σ' := ⟨[(0, (i6 a0)), (1, (i6 a1)), (2, (.bool a2))], []⟩) (by kernel_rfl) ?_
  unfold spec_l04Factorial_c
  refine sr (vo 1600 (eA64u8 ((vrep 64 (0 : Int)))) rfl rfl (vp (.bool false) rfl (nx ⟨[(0, (i6 a0)), (1, (i6 a1)), (2, (.bool a2)), (6, (ow 6))], [(6, (bk (eA64u8 ((vrep 64 (0 : Int))))))]⟩ (by kernel_rfl) (sr ?_))))
  obtain ⟨r1, hr2, h⟩ := bind_some h
  refine a_call (args := []) (u := []) (r := (eA64u8 r1)) rfl rfl (spec_l01One_ok r1 hr2) rfl (vo 1800 (eA64u8 ((vrep 64 (0 : Int)))) rfl rfl (vs (eA64u8 r1) rfl rfl (fun _ => rfl) rfl rfl rfl rfl rfl rfl (nx ⟨[(0, (i6 a0)), (1, (i6 a1)), (2, (.bool a2)), (6, (ow 6)), (8, (ow 8))], [(6, (bk (eA64u8 ((vrep 64 (0 : Int)))))), (8, (bk (eA64u8 r1)))]⟩ (by kernel_rfl) ?_)))
  obtain ⟨y99, hy100, hk101⟩ := bind_some h
  clear h
  refine a_join (emb := fun (s : (Vec Int 64)) => ⟨[(6, (ow 6)), (8, (ow 8))], [(6, (bk (eA64u8 ((vrep 64 (0 : Int)))))), (8, (bk (eA64u8 s)))]⟩) (pre := fun s => (.inl s) = y99) ?_ ?_
  · rintro x98 rfl
    have h := hk101
    refine a_st (σ' := ⟨[(6, (ow 6)), (8, (ow 8))], [(6, (bk (eA64u8 ((vrep 64 (0 : Int)))))), (8, (bk (eA64u8 x98)))]⟩) (by kernel_rfl) (sr (vl (eA64u8 x98) rfl rfl rfl rfl rfl rfl (vs (eA64u8 x98) rfl rfl (fun _ => rfl) rfl rfl rfl rfl rfl rfl (vp (.bool true) rfl (nx _ rfl (a_ret ?_))))))
    have hl200 : LdOk [] (eA64u8 x98) [] 64 true (eA64u8 x98) := (.nil rfl rfl rfl)
    refine ⟨.inr rfl, ?_⟩
    rw [Try.results130]
    cases h
    exact ⟨_, _, _, _, _, ld_own (i := ⟨.arr 64 5, 64, 64, (eA64u8 (vrep 64 (0 : Int)))⟩) rfl rfl rfl hl200, hl200.c, .inl ⟨rfl, .inl rfl⟩, rfl, ⟨_, _, _, _, _, rfl, trivial, .inl ⟨rfl, .inl rfl⟩, rfl, rfl⟩⟩
  · have h := hy100
    refine sr (vp (i6 0) rfl (nx ⟨[(0, (i6 a0)), (1, (i6 a1)), (2, (.bool a2)), (6, (ow 6)), (8, (ow 8)), (9, (i6 0))], [(6, (bk (eA64u8 ((vrep 64 (0 : Int)))))), (8, (bk (eA64u8 r1)))]⟩ (by kernel_rfl) (a_block ?_)))
    refine a_loop (emb := fun (s : (Bool × Int × (Vec Int 64))) => ⟨[(0, (i6 a0)), (1, (i6 a1)), (2, (.bool s.1)), (6, (ow 6)), (8, (ow 8)), (9, (i6 s.2.1))], [(6, (bk (eA64u8 ((vrep 64 (0 : Int)))))), (8, (bk (eA64u8 s.2.2)))]⟩) (body := (fun s : (Bool × Int × (Vec Int 64)) => spec_l04Factorial_l1 a1 a0 s.1 s.2.1 s.2.2)) (G := fun q => some q = some y99) h rfl ?_ (by kernel_rfl)
    rintro X163 ⟨x131, x132, x133⟩ x164 h hX165
    have h : spec_l04Factorial_l1 a1 a0 x131 x132 x133 = some x164 := h
    refine a_st (σ' := ⟨[(0, (i6 a0)), (1, (i6 a1)), (2, (.bool x131)), (6, (ow 6)), (8, (ow 8)), (9, (i6 x132))], [(6, (bk (eA64u8 ((vrep 64 (0 : Int)))))), (8, (bk (eA64u8 x133)))]⟩) (by kernel_rfl) (a_seq (sr (vp (i6 x132) rfl (vp (i6 a1) rfl (vp (.bool ((decide (x132 < a1)))) rfl (nx ⟨[(0, (i6 a0)), (1, (i6 a1)), (2, (.bool x131)), (6, (ow 6)), (8, (ow 8)), (9, (i6 x132)), (17, (.bool ((decide (x132 < a1)))))], [(6, (bk (eA64u8 ((vrep 64 (0 : Int)))))), (8, (bk (eA64u8 x133)))]⟩ (by kernel_rfl) ?_))))))
    cases hb166 : (decide (x132 < a1))
    · have h := ite_f hb166 h
      refine a_cond_f rfl (a_exit (t_exit ?_))
      cases h
      have h := hX165
      refine t_exit (b_exit ?_)
      exact j_leaf x133 (Option.some.inj h) (by kernel_rfl)
    · have h := ite_t hb166 h
      refine a_cond_t rfl (a_skip (a_next (σ' := ⟨[(0, (i6 a0)), (1, (i6 a1)), (2, (.bool x131)), (6, (ow 6)), (8, (ow 8)), (9, (i6 x132))], [(6, (bk (eA64u8 ((vrep 64 (0 : Int)))))), (8, (bk (eA64u8 x133)))]⟩) (by kernel_rfl) (a_seq (a_block (sr (vp (i6 a0) rfl (vp (i6 a1) rfl (vp (i6 x132) rfl ?_))))))))
      obtain ⟨r167, hr168, h⟩ := bind_some h
      refine a_call (args := [(i6 a0), (i6 a1), (i6 x132)]) (u := []) (r := (.tuple [(eA64u8 r167.1), (.bool r167.2)])) rfl rfl (spec_l04Bracket_ok a0 a1 x132 r167 hr168) rfl (vp (.tuple [(eA64u8 r167.1), (.bool r167.2)]) rfl (vb (eA64u8 r167.1) rfl rfl (vb (.bool r167.2) rfl rfl (vo 2000 (eA64u8 ((vrep 64 (0 : Int)))) rfl rfl (vs (eA64u8 r167.1) rfl rfl (fun _ => rfl) rfl rfl rfl rfl rfl rfl (vp (.bool r167.2) rfl (nx ⟨[(0, (i6 a0)), (1, (i6 a1)), (2, (.bool x131)), (6, (ow 6)), (8, (ow 8)), (9, (i6 x132)), (10, (ow 10)), (11, (.bool r167.2))], [(6, (bk (eA64u8 ((vrep 64 (0 : Int)))))), (8, (bk (eA64u8 x133))), (10, (bk (eA64u8 r167.1)))]⟩ (by kernel_rfl) ?_)))))))
      obtain ⟨y177, hy178, hk179⟩ := bind_some h
      clear h
      refine a_join (emb := fun (s : (Bool × Bool × (Vec Int 64))) => ⟨[(0, (i6 a0)), (1, (i6 a1)), (2, (.bool s.1)), (6, (ow 6)), (8, (ow 8)), (9, (i6 x132)), (10, (ow 10)), (11, (.bool s.2.1))], [(6, (bk (eA64u8 ((vrep 64 (0 : Int)))))), (8, (bk (eA64u8 x133))), (10, (bk (eA64u8 s.2.2)))]⟩) (pre := fun s => s = y177) ?_ ?_
      · rintro ⟨x174, x175, x176⟩ rfl
        have h := hk179
        refine a_st (σ' := ⟨[(0, (i6 a0)), (1, (i6 a1)), (2, (.bool x174)), (6, (ow 6)), (8, (ow 8)), (9, (i6 x132)), (10, (ow 10)), (11, (.bool x175))], [(6, (bk (eA64u8 ((vrep 64 (0 : Int)))))), (8, (bk (eA64u8 x133))), (10, (bk (eA64u8 x176)))]⟩) (by kernel_rfl) (a_seq (sr (vp (.bool x175) rfl (vp (.bool (!x175)) rfl (nx ⟨[(0, (i6 a0)), (1, (i6 a1)), (2, (.bool x174)), (6, (ow 6)), (8, (ow 8)), (9, (i6 x132)), (10, (ow 10)), (36, (.bool (!x175)))], [(6, (bk (eA64u8 ((vrep 64 (0 : Int)))))), (8, (bk (eA64u8 x133))), (10, (bk (eA64u8 x176)))]⟩ (by kernel_rfl) ?_)))))
        cases hb184 : (!x175)
        · have h := ite_f hb184 h
          refine a_cond_f rfl (a_skip (a_next (σ' := ⟨[(0, (i6 a0)), (1, (i6 a1)), (2, (.bool x174)), (6, (ow 6)), (8, (ow 8)), (9, (i6 x132)), (10, (ow 10))], [(6, (bk (eA64u8 ((vrep 64 (0 : Int)))))), (8, (bk (eA64u8 x133))), (10, (bk (eA64u8 x176)))]⟩) (by kernel_rfl) (sr (vp (i6 a0) rfl (vl (eA64u8 x133) rfl rfl rfl rfl rfl rfl (vl (eA64u8 x176) rfl rfl rfl rfl rfl rfl ?_))))))
          obtain ⟨r187, hr188, h⟩ := bind_some h
          refine a_call (args := [(i6 a0), (eA64u8 x133), (eA64u8 x176)]) (u := []) (r := (.tuple [(eA64u8 r187.1), (.bool r187.2)])) rfl rfl (spec_l01Times_ok a0 x133 x176 r187 hr188) rfl (vp (.tuple [(eA64u8 r187.1), (.bool r187.2)]) rfl (vb (eA64u8 r187.1) rfl rfl (vb (.bool r187.2) rfl rfl (vo 2200 (eA64u8 ((vrep 64 (0 : Int)))) rfl rfl (vs (eA64u8 r187.1) rfl rfl (fun _ => rfl) rfl rfl rfl rfl rfl rfl (vp (.bool r187.2) rfl (nx ⟨[(0, (i6 a0)), (1, (i6 a1)), (2, (.bool x174)), (6, (ow 6)), (8, (ow 8)), (9, (i6 x132)), (12, (ow 12)), (13, (.bool r187.2))], [(6, (bk (eA64u8 ((vrep 64 (0 : Int)))))), (8, (bk (eA64u8 x133))), (12, (bk (eA64u8 r187.1)))]⟩ (by kernel_rfl) (a_seq (sr ?_)))))))))
          refine vp (.bool r187.2) rfl (vp (.bool (!r187.2)) rfl (nx ⟨[(0, (i6 a0)), (1, (i6 a1)), (2, (.bool x174)), (6, (ow 6)), (8, (ow 8)), (9, (i6 x132)), (12, (ow 12)), (46, (.bool (!r187.2)))], [(6, (bk (eA64u8 ((vrep 64 (0 : Int)))))), (8, (bk (eA64u8 x133))), (12, (bk (eA64u8 r187.1)))]⟩ (by kernel_rfl) ?_))
          cases hb190 : (!r187.2)
          · have h := ite_f hb190 h
            refine a_cond_f rfl (a_skip (a_next (σ' := ⟨[(0, (i6 a0)), (1, (i6 a1)), (2, (.bool x174)), (6, (ow 6)), (8, (ow 8)), (9, (i6 x132)), (12, (ow 12))], [(6, (bk (eA64u8 ((vrep 64 (0 : Int)))))), (8, (bk (eA64u8 x133))), (12, (bk (eA64u8 r187.1)))]⟩) (by kernel_rfl) (a_region (vl (eA64u8 r187.1) rfl rfl rfl rfl rfl rfl (vs (eA64u8 r187.1) rfl rfl (fun _ => rfl) rfl rfl rfl rfl rfl rfl (a_nil (b_norm (a_next (σ' := ⟨[(0, (i6 a0)), (1, (i6 a1)), (2, (.bool x174)), (6, (ow 6)), (8, (ow 8)), (9, (i6 x132))], [(6, (bk (eA64u8 ((vrep 64 (0 : Int)))))), (8, (bk (eA64u8 r187.1)))]⟩) (by kernel_rfl) (a_region ?_)))))))))
            refine vp (i6 x132) rfl (vp (i6 (IntKind.i64.wrap (x132 + 1))) rfl (vp (i6 (IntKind.i64.wrap (x132 + 1))) rfl (a_nil ?_)))
            cases h
            exact a_again (by kernel_rfl) hX165
          · have h := ite_t hb190 h
            refine a_cond_t rfl (sr (vq (eA64u8 ((vrep 64 (0 : Int)))) rfl ⟨⟨_, rfl, rfl⟩, all_nil⟩ (vs (eA64u8 ((vrep 64 (0 : Int)))) rfl rfl (fun _ => rfl) rfl rfl rfl rfl rfl rfl (vp (.bool false) rfl (nx _ rfl (a_ret (t_ret (b_ret (t_ret ?_)))))))))
            cases h
            have h := hX165
            refine t_ret (b_ret (t_ret ?_))
            cases h
            have h := hk101
            have hl194 : LdOk [] (eA64u8 ((vrep 64 (0 : Int)))) [] 64 true (eA64u8 ((vrep 64 (0 : Int)))) := (.nil rfl rfl rfl)
            refine ⟨.inr rfl, ?_⟩
            rw [Try.results130]
            cases h
            exact ⟨_, _, _, _, _, ld_own (i := ⟨.arr 64 5, 64, 64, (eA64u8 (vrep 64 (0 : Int)))⟩) rfl rfl rfl hl194, hl194.c, .inl ⟨rfl, .inl rfl⟩, rfl, ⟨_, _, _, _, _, rfl, trivial, .inl ⟨rfl, .inl rfl⟩, rfl, rfl⟩⟩
        · have h := ite_t hb184 h
          refine a_cond_t rfl (sr (vq (eA64u8 ((vrep 64 (0 : Int)))) rfl ⟨⟨_, rfl, rfl⟩, all_nil⟩ (vs (eA64u8 ((vrep 64 (0 : Int)))) rfl rfl (fun _ => rfl) rfl rfl rfl rfl rfl rfl (vp (.bool false) rfl (nx _ rfl (a_ret (t_ret (b_ret (t_ret ?_)))))))))
          cases h
          have h := hX165
          refine t_ret (b_ret (t_ret ?_))
          cases h
          have h := hk101
          have hl196 : LdOk [] (eA64u8 ((vrep 64 (0 : Int)))) [] 64 true (eA64u8 ((vrep 64 (0 : Int)))) := (.nil rfl rfl rfl)
          refine ⟨.inr rfl, ?_⟩
          rw [Try.results130]
          cases h
          exact ⟨_, _, _, _, _, ld_own (i := ⟨.arr 64 5, 64, 64, (eA64u8 (vrep 64 (0 : Int)))⟩) rfl rfl rfl hl196, hl196.c, .inl ⟨rfl, .inl rfl⟩, rfl, ⟨_, _, _, _, _, rfl, trivial, .inl ⟨rfl, .inl rfl⟩, rfl, rfl⟩⟩
      · have h := hy178
        refine sr (vp (.bool x131) rfl (nx ⟨[(0, (i6 a0)), (1, (i6 a1)), (2, (.bool x131)), (6, (ow 6)), (8, (ow 8)), (9, (i6 x132)), (10, (ow 10)), (11, (.bool r167.2)), (27, (.bool x131))], [(6, (bk (eA64u8 ((vrep 64 (0 : Int)))))), (8, (bk (eA64u8 x133))), (10, (bk (eA64u8 r167.1)))]⟩ (by kernel_rfl) ?_))
        cases hb180 : x131
        · have h := ite_f hb180 h
          refine a_cond_f rfl (a_skip ?_)
          exact j_leaf (false, r167.2, r167.1) (Option.some.inj h) (by kernel_rfl)
        · have h := ite_t hb180 h
          refine a_cond_t rfl (a_region (vp (i6 a0) rfl (vp (i6 x132) rfl (vp (i6 (IntKind.i64.wrap (x132 + 1))) rfl ?_))))
          obtain ⟨r181, hr182, h⟩ := bind_some h
          refine a_call (args := [(i6 a0), (i6 (IntKind.i64.wrap (x132 + 1))), (i6 0)]) (u := []) (r := (.tuple [(eA64u8 r181.1), (.bool r181.2)])) rfl rfl (spec_l04Bracket_ok a0 (IntKind.i64.wrap (x132 + 1)) 0 r181 hr182) rfl (vp (.tuple [(eA64u8 r181.1), (.bool r181.2)]) rfl (vb (eA64u8 r181.1) rfl rfl (vb (.bool r181.2) rfl rfl (vs (eA64u8 r181.1) rfl rfl (fun _ => rfl) rfl rfl rfl rfl rfl rfl (vp (.bool r181.2) rfl (a_nil ?_))))))
          exact j_leaf (true, r181.2, r181.1) (Option.some.inj h) (by kernel_rfl)
def spec_l10Raised_c : ACode := (.seq (.region 0 [q 4 (.box 25 (t 1)), q 6 (.alloc 25)] false) (.seq (.region 1 [q 10 (.mov (t 0)), q 11 (.load 25 (t 4)), q 12 (.mov (t 2)), q 13 (.call 0 (.func 190) [(t 10), (t 11), (t 12)]), q 9 (.mov (t 13)), q 14 (.extract (t 9) 0), q 15 (.extract (t 9) 1), q 7 (.alloc 25), ⟨none, .store 25 (t 7) (t 14), none, []⟩, q 8 (.asg 0 (t 15) 4)] false) (.seq (.region 2 [q 16 (.load 25 (t 7)), ⟨none, .store 25 (t 6) (t 16), none, []⟩] false) .ret)))
def spec_l10Raised_L : Live := [(0, [0, 1, 2]), (1, [0, 2, 4, 6]), (2, [6, 7])]
noncomputable def spec_l10Raised (a0 : Int) (a1 : (Vec Int 64)) (a2 : Int) : Option (Vec Int 64) :=
  (Option.bind (spec_l04Raise a0 a1 a2) fun r2 => (some r2.1))
theorem spec_l10Raised_ok (a0 : Int) (a1 : (Vec Int 64)) (a2 : Int) (r : (Vec Int 64)) (h : spec_l10Raised a0 a1 a2 = some r) : Den Try.prog 191 [(i6 a0), (eA64u8 a1), (i6 a2)] { r := (eA64u8 r) } := by
  refine den_of (rs := [(eA64u8 r)]) (ac := spec_l10Raised_c) (L := spec_l10Raised_L) (n := 17) (m := []) (c := Try.f191.body.getD .skip) good Try.func191 (by kernel_rfl) (by kernel_rfl) Try.ntmps191 rfl rfl (by kernel_rfl) rfl rfl ?_
  refine a_st (σ' := ⟨[(0, (i6 a0)), (1, (eA64u8 a1)), (2, (i6 a2))], []⟩) (by kernel_rfl) ?_
  unfold spec_l10Raised_c
  refine sr (vo 1400 (eA64u8 a1) rfl rfl (vo 1600 (eA64u8 ((vrep 64 (0 : Int)))) rfl rfl (nx ⟨[(0, (i6 a0)), (2, (i6 a2)), (4, (ow 4)), (6, (ow 6))], [(4, (bk (eA64u8 a1))), (6, (bk (eA64u8 ((vrep 64 (0 : Int))))))]⟩ (by kernel_rfl) (sr (vp (i6 a0) rfl (vl (eA64u8 a1) rfl rfl rfl rfl rfl rfl (vp (i6 a2) rfl ?_)))))))
  obtain ⟨r2, hr3, h⟩ := bind_some h
  refine a_call (args := [(i6 a0), (eA64u8 a1), (i6 a2)]) (u := []) (r := (.tuple [(eA64u8 r2.1), (.bool r2.2)])) rfl rfl (spec_l04Raise_ok a0 a1 a2 r2 hr3) rfl (vp (.tuple [(eA64u8 r2.1), (.bool r2.2)]) rfl (vb (eA64u8 r2.1) rfl rfl (vb (.bool r2.2) rfl rfl (vo 1700 (eA64u8 ((vrep 64 (0 : Int)))) rfl rfl (vs (eA64u8 r2.1) rfl rfl (fun _ => rfl) rfl rfl rfl rfl rfl rfl (vp (.bool r2.2) rfl (nx ⟨[(6, (ow 6)), (7, (ow 7))], [(6, (bk (eA64u8 ((vrep 64 (0 : Int)))))), (7, (bk (eA64u8 r2.1)))]⟩ (by kernel_rfl) (sr (vl (eA64u8 r2.1) rfl rfl rfl rfl rfl rfl ?_)))))))))
  refine vs (eA64u8 r2.1) rfl rfl (fun _ => rfl) rfl rfl rfl rfl rfl rfl (nx _ rfl (a_ret ?_))
  have hl7 : LdOk [] (eA64u8 r2.1) [] 64 true (eA64u8 r2.1) := (.nil rfl rfl rfl)
  refine ⟨.inr rfl, ?_⟩
  rw [Try.results191]
  cases h
  exact ⟨_, _, _, _, _, ld_own (i := ⟨.arr 64 5, 64, 64, (eA64u8 (vrep 64 (0 : Int)))⟩) rfl rfl rfl hl7, hl7.c, .inl ⟨rfl, .inl rfl⟩, rfl, rfl⟩
def spec_l01Inverse_c : ACode := (.seq (.region 0 [q 4 (.asg 0 (.const (.int .u8 0)) 5)] false) (.seq (.seq (.region 1 [q 5 (.asg 0 (.const (.int .i64 1)) 2)] false) (.block 0 (.loop (.seq (.seq (.region 2 [q 6 (.mov (t 5)), q 7 (.mov (t 0)), q 8 (.bin .lss 2 (t 6) (t 7))] false) (.cond (t 8) .skip (.exit 0))) (.seq (.block 1 (.seq (.region 4 [q 11 (.mov (t 5)), q 12 (.mov (t 1)), q 13 (.conv 5 2 (t 12)), q 14 (.bin .mul 2 (t 11) (t 13)), q 15 (.mov (t 0)), q 16 (.bin .rem 2 (t 14) (t 15)), q 17 (.bin .eql 2 (t 16) (.const (.int .i64 1)))] false) (.cond (t 17) (.seq (.region 5 [q 18 (.mov (t 5)), q 19 (.conv 2 5 (t 18)), q 4 (.asg 0 (t 19) 5)] false) .ret) .skip))) (.region 3 [q 9 (.mov (t 5)), q 10 (.bin .add 2 (t 9) (.const (.int .i64 1))), q 5 (.asg 0 (t 10) 2)] false)))))) (.seq (.region 6 [q 4 (.asg 0 (.const (.int .u8 0)) 5)] false) .ret)))
def spec_l01Inverse_L : Live := [(0, [0, 1]), (1, [0, 1]), (2, [0, 1, 5]), (3, [0, 1, 5]), (4, [0, 1, 5]), (5, [5]), (6, []), (100008, [0, 1, 5, 8]), (100017, [0, 1, 5, 17])]
noncomputable def spec_l01Inverse_l1 (a0 : Int) (a1 : Int) (x29 : Int) : Option (Int ⊕ (Unit ⊕ Int)) :=
  (if (decide (x29 < a0)) then (ifp (a0 ≠ 0) ((letp (((Int.tmod (IntKind.i64.wrap (x29 * (IntKind.i64.wrap a1))) a0) == 1)) fun x40 => (if x40 then (some (.inr ((.inr (IntKind.u8.wrap x29))))) else (some (.inl (IntKind.i64.wrap (x29 + 1)))))))) else (some (.inr (((.inl ()))))))
noncomputable def spec_l01Inverse (a0 : Int) (a1 : Int) : Option Int :=
  (Option.bind (α := (Unit ⊕ Int)) ((loopM (fun s : Int => spec_l01Inverse_l1 a0 a1 s) 1)) fun z => match z with | .inl _ => (some 0) | .inr r44 => (some r44))
theorem spec_l01Inverse_ok (a0 : Int) (a1 : Int) (r : Int) (h : spec_l01Inverse a0 a1 = some r) : Den Try.prog 187 [(i6 a0), (b8 a1)] { r := (b8 r) } := by
  refine den_of (rs := [(b8 r)]) (ac := spec_l01Inverse_c) (L := spec_l01Inverse_L) (n := 20) (m := []) (c := Try.f187.body.getD .skip) good Try.func187 (by kernel_rfl) (by kernel_rfl) Try.ntmps187 rfl rfl (by kernel_rfl) rfl rfl ?_
  refine a_st (σ' := ⟨[(0, (i6 a0)), (1, (b8 a1))], []⟩) (by kernel_rfl) ?_
  unfold spec_l01Inverse_c
  refine sr (vp (b8 0) rfl (nx ⟨[(0, (i6 a0)), (1, (b8 a1))], []⟩ (by kernel_rfl) ?_))
  obtain ⟨y21, hy22, hk23⟩ := bind_some h
  clear h
  refine a_join (emb := fun (s : Unit) => ⟨[], []⟩) (pre := fun s => (.inl s) = y21) ?_ ?_
  · rintro _ rfl
    have h := hk23
    refine a_st (σ' := ⟨[], []⟩) (by kernel_rfl) (sr (vp (b8 0) rfl (nx _ rfl (a_ret ?_))))
    refine ⟨.inr rfl, ?_⟩
    rw [Try.results187]
    cases h
    exact ⟨_, _, _, _, _, rfl, trivial, .inl ⟨rfl, .inl rfl⟩, rfl, rfl⟩
  · have h := hy22
    refine sr (vp (i6 1) rfl (nx ⟨[(0, (i6 a0)), (1, (b8 a1)), (5, (i6 1))], []⟩ (by kernel_rfl) (a_block ?_)))
    refine a_loop (emb := fun (s : Int) => ⟨[(0, (i6 a0)), (1, (b8 a1)), (5, (i6 s))], []⟩) (body := (fun s : Int => spec_l01Inverse_l1 a0 a1 s)) (G := fun q => some q = some y21) h rfl ?_ (by kernel_rfl)
    rintro X35 x29 x36 h hX37
    have h : spec_l01Inverse_l1 a0 a1 x29 = some x36 := h
    refine a_st (σ' := ⟨[(0, (i6 a0)), (1, (b8 a1)), (5, (i6 x29))], []⟩) (by kernel_rfl) (a_seq (sr (vp (i6 x29) rfl (vp (i6 a0) rfl (vp (.bool ((decide (x29 < a0)))) rfl (nx ⟨[(0, (i6 a0)), (1, (b8 a1)), (5, (i6 x29)), (8, (.bool ((decide (x29 < a0)))))], []⟩ (by kernel_rfl) ?_))))))
    cases hb38 : (decide (x29 < a0))
    · have h := ite_f hb38 h
      refine a_cond_f rfl (a_exit (t_exit ?_))
      cases h
      have h := hX37
      refine t_exit (b_exit ?_)
      exact j_leaf () (Option.some.inj h) (by kernel_rfl)
    · have h := ite_t hb38 h
      refine a_cond_t rfl (a_skip (a_next (σ' := ⟨[(0, (i6 a0)), (1, (b8 a1)), (5, (i6 x29))], []⟩) (by kernel_rfl) (a_seq (a_block (sr (vp (i6 x29) rfl (vp (b8 a1) rfl (vp (i6 (IntKind.i64.wrap a1)) rfl (vp (i6 (IntKind.i64.wrap (x29 * (IntKind.i64.wrap a1)))) rfl ?_)))))))))
      refine vp (i6 a0) rfl ?_
      obtain ⟨hc39, h⟩ := ifp_some h
      refine vq (i6 (Int.tmod (IntKind.i64.wrap (x29 * (IntKind.i64.wrap a1))) a0)) rfl hc39 ?_
      obtain ⟨x40, hx41, h⟩ := letp_some h
      refine a_val' (v := (.bool (((Int.tmod (IntKind.i64.wrap (x29 * (IntKind.i64.wrap a1))) a0) == 1)))) (v' := (.bool x40)) (u := []) (u' := []) rfl (congrArg (fun z => ((.bool z) : AV)) hx41) rfl trivial rfl (nx ⟨[(0, (i6 a0)), (1, (b8 a1)), (5, (i6 x29)), (17, (.bool x40))], []⟩ (by kernel_rfl) ?_)
      cases hb42 : x40
      · have h := ite_f hb42 h
        refine a_cond_f rfl (a_skip (b_norm (a_next (σ' := ⟨[(0, (i6 a0)), (1, (b8 a1)), (5, (i6 x29))], []⟩) (by kernel_rfl) (a_region (vp (i6 x29) rfl (vp (i6 (IntKind.i64.wrap (x29 + 1))) rfl (vp (i6 (IntKind.i64.wrap (x29 + 1))) rfl (a_nil ?_))))))))
        cases h
        exact a_again (by kernel_rfl) hX37
      · have h := ite_t hb42 h
        refine a_cond_t rfl (sr (vp (i6 x29) rfl (vp (b8 (IntKind.u8.wrap x29)) rfl (vp (b8 (IntKind.u8.wrap x29)) rfl (nx _ rfl (a_ret (b_ret (t_ret ?_))))))))
        cases h
        have h := hX37
        refine t_ret (b_ret (t_ret ?_))
        cases h
        have h := hk23
        refine ⟨.inr rfl, ?_⟩
        rw [Try.results187]
        cases h
        exact ⟨_, _, _, _, _, rfl, trivial, .inl ⟨rfl, .inl rfl⟩, rfl, rfl⟩
def spec_l01Divide_c : ACode := (.seq (.region 0 [q 4 (.box 25 (t 1)), q 5 (.box 25 (t 2)), q 6 (.alloc 25), q 7 (.alloc 25)] false) (.seq (.region 1 [q 14 (.build 25 []), q 15 (.load 25 (t 5)), q 16 (.call 0 (.func 112) [(t 15)]), q 8 (.alloc 25), ⟨none, .store 25 (t 8) (t 14), none, []⟩, q 9 (.asg 0 (t 16) 2)] false) (.seq (.region 2 [q 17 (.mov (t 0)), q 18 (.mov (t 9)), q 19 (.indexAddr 25 (t 5) (t 18)), q 20 (.load 5 (t 19)), q 21 (.call 0 (.func 187) [(t 17), (t 20)]), q 22 (.conv 5 2 (t 21)), q 10 (.asg 0 (t 22) 2)] false) (.seq (.seq (.region 3 [q 23 (.load 25 (t 4)), q 24 (.call 0 (.func 112) [(t 23)]), q 11 (.asg 0 (t 24) 2)] false) (.block 0 (.loop (.seq (.seq (.region 4 [q 25 (.mov (t 11)), q 26 (.mov (t 9)), q 27 (.bin .geq 2 (t 25) (t 26))] false) (.cond (t 27) .skip (.exit 0))) (.seq (.block 1 (.seq (.region 6 [q 30 (.mov (t 11)), q 31 (.indexAddr 25 (t 4) (t 30)), q 32 (.load 5 (t 31)), q 33 (.conv 5 2 (t 32)), q 34 (.mov (t 10)), q 35 (.bin .mul 2 (t 33) (t 34)), q 36 (.mov (t 0)), q 37 (.bin .rem 2 (t 35) (t 36)), q 12 (.asg 0 (t 37) 2)] false) (.seq (.region 7 [q 38 (.mov (t 11)), q 39 (.mov (t 9)), q 40 (.bin .sub 2 (t 38) (t 39)), q 41 (.mov (t 12)), q 42 (.conv 2 5 (t 41)), q 43 (.indexAddr 25 (t 8) (t 40)), ⟨none, .store 5 (t 43) (t 42), none, []⟩] false) (.seq (.region 8 [q 13 (.asg 0 (.const (.int .i64 0)) 2)] false) (.block 2 (.loop (.seq (.seq (.region 9 [q 44 (.mov (t 13)), q 45 (.mov (t 9)), q 46 (.bin .leq 2 (t 44) (t 45)), q 47 (.mov (t 46)), ⟨some 48, .mov (t 12), some (47, true), []⟩, ⟨some 49, .bin .neq 2 (t 48) (.const (.int .i64 0)), some (47, true), []⟩, q 50 (.pick (t 47) (t 49) (.const (.bool false)))] false) (.cond (t 50) .skip (.exit 2))) (.seq (.block 3 (.region 11 [q 53 (.mov (t 11)), q 54 (.mov (t 9)), ⟨some 55, .bin .sub 2 (t 53) (t 54), none, [0, 1]⟩, q 56 (.mov (t 13)), ⟨some 57, .bin .add 2 (t 55) (t 56), none, [2, 3]⟩, q 58 (.mov (t 11)), q 59 (.mov (t 9)), ⟨some 60, .bin .sub 2 (t 58) (t 59), none, [5, 6]⟩, q 61 (.mov (t 13)), ⟨some 62, .bin .add 2 (t 60) (t 61), none, [7, 8]⟩, ⟨some 63, .indexAddr 25 (t 4) (t 62), none, [9]⟩, ⟨some 64, .load 5 (t 63), none, [10]⟩, ⟨some 65, .conv 5 2 (t 64), none, [11]⟩, q 66 (.mov (t 12)), q 67 (.mov (t 13)), ⟨some 68, .indexAddr 25 (t 5) (t 67), none, [14]⟩, ⟨some 69, .load 5 (t 68), none, [15]⟩, ⟨some 70, .conv 5 2 (t 69), none, [16]⟩, ⟨some 71, .bin .mul 2 (t 66) (t 70), none, [13, 17]⟩, ⟨some 72, .bin .sub 2 (t 65) (t 71), none, [12, 18]⟩, q 73 (.mov (t 0)), ⟨some 74, .bin .rem 2 (t 72) (t 73), none, [19, 20]⟩, q 75 (.mov (t 0)), ⟨some 76, .bin .add 2 (t 74) (t 75), none, [21, 22]⟩, q 77 (.mov (t 0)), ⟨some 78, .bin .rem 2 (t 76) (t 77), none, [23, 24]⟩, ⟨some 79, .conv 2 5 (t 78), none, [25]⟩, ⟨some 80, .indexAddr 25 (t 4) (t 57), none, [4, 0, 1, 2, 3, 4, 5, 6, 7, 8, 9, 10, 11, 12, 13, 14, 15, 16, 17, 18, 19, 20, 21, 22, 23, 24, 25, 26]⟩, ⟨none, .store 5 (t 80) (t 79), none, [27, 26, 0, 1, 2, 3, 4, 5, 6, 7, 8, 9, 10, 11, 12, 13, 14, 15, 16, 17, 18, 19, 20, 21, 22, 23, 24, 25, 26]⟩] true)) (.region 10 [q 51 (.mov (t 13)), q 52 (.bin .add 2 (t 51) (.const (.int .i64 1))), q 13 (.asg 0 (t 52) 2)] false))))))))) (.region 5 [q 28 (.mov (t 11)), q 29 (.bin .sub 2 (t 28) (.const (.int .i64 1))), q 11 (.asg 0 (t 29) 2)] false)))))) (.seq (.region 12 [q 81 (.load 25 (t 8)), q 82 (.load 25 (t 4)), ⟨none, .store 25 (t 6) (t 81), none, [0, 0]⟩, ⟨none, .store 25 (t 7) (t 82), none, [1, 2, 0, 1, 2]⟩] true) .ret)))))
def spec_l01Divide_L : Live := [(0, [0, 1, 2]), (1, [0, 4, 5, 6, 7]), (2, [0, 4, 5, 6, 7, 8, 9]), (3, [0, 4, 5, 6, 7, 8, 9, 10]), (4, [0, 4, 5, 6, 7, 8, 9, 10, 11]), (5, [0, 4, 5, 6, 7, 8, 9, 10, 11]), (6, [0, 4, 5, 6, 7, 8, 9, 10, 11]), (7, [0, 4, 5, 6, 7, 8, 9, 10, 11, 12]), (8, [0, 4, 5, 6, 7, 8, 9, 10, 11, 12]), (9, [0, 4, 5, 6, 7, 8, 9, 10, 11, 12, 13]), (10, [0, 4, 5, 6, 7, 8, 9, 10, 11, 12, 13]), (11, [0, 4, 5, 6, 7, 8, 9, 10, 11, 12, 13]), (12, [4, 6, 7, 8]), (100027, [0, 4, 5, 6, 7, 8, 9, 10, 11, 27]), (100050, [0, 4, 5, 6, 7, 8, 9, 10, 11, 12, 13, 50])]
noncomputable def spec_l01Divide_l2 (r2 : Int) (x1405 : Int) (a0 : Int) (x995 : Int) (a2 : (Vec Int 64)) (x997 : (Vec Int 64)) (x1449 : Int) (x1450 : (Vec Int 64)) : Option ((Int × (Vec Int 64)) ⊕ ((Vec Int 64) × (Vec Int 64))) :=
  (Option.bind (α := Bool) ((if (decide (x1449 ≤ r2)) then (some (((Int.tmod x1405 a0) != 0))) else (some false))) fun x1494 => (if x1494 then (ifp (0 ≤ IntKind.i64.wrap ((IntKind.i64.wrap (x995 - r2)) + x1449) ∧ IntKind.i64.wrap ((IntKind.i64.wrap (x995 - r2)) + x1449) < ((64 : Nat) : Int)) ((letp ((rd x1450.1 (IntKind.i64.wrap ((IntKind.i64.wrap (x995 - r2)) + x1449)).toNat)) fun x1518 => (ifp (0 ≤ x1449 ∧ x1449 < ((64 : Nat) : Int)) ((letp (IntKind.i64.wrap ((Int.tmod x1405 a0) * (IntKind.i64.wrap (rd a2.1 x1449.toNat)))) fun x1522 => (ifp (a0 ≠ 0) ((letp (Int.tmod (IntKind.i64.wrap ((IntKind.i64.wrap x1518) - x1522)) a0) fun x1525 => (ifp (a0 ≠ 0) ((letp (IntKind.u8.wrap (Int.tmod (IntKind.i64.wrap (x1525 + a0)) a0)) fun x1528 => (ifp (0 ≤ IntKind.i64.wrap ((IntKind.i64.wrap (x995 - r2)) + x1449) ∧ IntKind.i64.wrap ((IntKind.i64.wrap (x995 - r2)) + x1449) < ((64 : Nat) : Int)) ((some (.inl ((IntKind.i64.wrap (x1449 + 1), (vset x1450 (IntKind.i64.wrap ((IntKind.i64.wrap (x995 - r2)) + x1449)).toNat x1528))))))))))))))))))) else (some (.inr (((x1450, (vset x997 (IntKind.i64.wrap (x995 - r2)).toNat (IntKind.u8.wrap (Int.tmod x1405 a0))))))))))
noncomputable def spec_l01Divide_l1 (r2 : Int) (r7 : Int) (a0 : Int) (a2 : (Vec Int 64)) (x995 : Int) (x996 : (Vec Int 64)) (x997 : (Vec Int 64)) : Option ((Int × (Vec Int 64) × (Vec Int 64)) ⊕ ((Vec Int 64) × (Vec Int 64))) :=
  (if (decide (x995 ≥ r2)) then (Option.bind (α := ((Vec Int 64) × (Vec Int 64))) ((ifp (0 ≤ x995 ∧ x995 < ((64 : Nat) : Int)) ((letp (IntKind.i64.wrap ((IntKind.i64.wrap (rd x996.1 x995.toNat)) * (IntKind.i64.wrap r7))) fun x1405 => (ifp (a0 ≠ 0) ((ifp (0 ≤ IntKind.i64.wrap (x995 - r2) ∧ IntKind.i64.wrap (x995 - r2) < ((64 : Nat) : Int)) ((loopM (fun s : (Int × (Vec Int 64)) => spec_l01Divide_l2 r2 x1405 a0 x995 a2 x997 s.1 s.2) (0, x996)))))))))) fun ⟨x1398, x1399⟩ => (some (.inl ((IntKind.i64.wrap (x995 - 1), x1398, x1399))))) else (some (.inr (x996, x997))))
noncomputable def spec_l01Divide (a0 : Int) (a1 : (Vec Int 64)) (a2 : (Vec Int 64)) : Option ((Vec Int 64) × (Vec Int 64)) :=
  (Option.bind (spec_l01Deg a2) fun r2 => (ifp (0 ≤ r2 ∧ r2 < ((64 : Nat) : Int)) ((Option.bind (spec_l01Inverse a0 (rd a2.1 r2.toNat)) fun r7 => (Option.bind (α := ((Vec Int 64) × (Vec Int 64))) ((Option.bind (spec_l01Deg a1) fun r751 => (loopM (fun s : (Int × (Vec Int 64) × (Vec Int 64)) => spec_l01Divide_l1 r2 r7 a0 a2 s.1 s.2.1 s.2.2) (r751, a1, (vrep 64 (0 : Int)))))) fun ⟨x745, x746⟩ => (some (x746, x745)))))))
theorem spec_l01Divide_ok (a0 : Int) (a1 : (Vec Int 64)) (a2 : (Vec Int 64)) (r : ((Vec Int 64) × (Vec Int 64))) (h : spec_l01Divide a0 a1 a2 = some r) : Den Try.prog 113 [(i6 a0), (eA64u8 a1), (eA64u8 a2)] { r := (.tuple [(eA64u8 r.1), (eA64u8 r.2)]) } := by
  refine den_of (rs := [(eA64u8 r.1), (eA64u8 r.2)]) (ac := spec_l01Divide_c) (L := spec_l01Divide_L) (n := 83) (m := []) (c := Try.f113.body.getD .skip) good Try.func113 (by kernel_rfl) (by kernel_rfl) Try.ntmps113 rfl rfl (by kernel_rfl) rfl rfl ?_
  refine a_st (σ' := ⟨[(0, (i6 a0)), (1, (eA64u8 a1)), (2, (eA64u8 a2))], []⟩) (by kernel_rfl) ?_
  unfold spec_l01Divide_c
  refine sr (vo 1400 (eA64u8 a1) rfl rfl (vo 1500 (eA64u8 a2) rfl rfl (vo 1600 (eA64u8 ((vrep 64 (0 : Int)))) rfl rfl (vo 1700 (eA64u8 ((vrep 64 (0 : Int)))) rfl rfl (nx ⟨[(0, (i6 a0)), (4, (ow 4)), (5, (ow 5)), (6, (ow 6)), (7, (ow 7))], [(4, (bk (eA64u8 a1))), (5, (bk (eA64u8 a2))), (6, (bk (eA64u8 ((vrep 64 (0 : Int)))))), (7, (bk (eA64u8 ((vrep 64 (0 : Int))))))]⟩ (by kernel_rfl) (sr (vq (eA64u8 ((vrep 64 (0 : Int)))) rfl ⟨⟨_, rfl, rfl⟩, all_nil⟩ (vl (eA64u8 a2) rfl rfl rfl rfl rfl rfl ?_))))))))
  obtain ⟨r2, hr3, h⟩ := bind_some h
  refine a_call (args := [(eA64u8 a2)]) (u := []) (r := (i6 r2)) rfl rfl (spec_l01Deg_ok a2 r2 hr3) rfl (vo 1800 (eA64u8 ((vrep 64 (0 : Int)))) rfl rfl (vs (eA64u8 ((vrep 64 (0 : Int)))) rfl rfl (fun _ => rfl) rfl rfl rfl rfl rfl rfl (vp (i6 r2) rfl (nx ⟨[(0, (i6 a0)), (4, (ow 4)), (5, (ow 5)), (6, (ow 6)), (7, (ow 7)), (8, (ow 8)), (9, (i6 r2))], [(4, (bk (eA64u8 a1))), (5, (bk (eA64u8 a2))), (6, (bk (eA64u8 ((vrep 64 (0 : Int)))))), (7, (bk (eA64u8 ((vrep 64 (0 : Int)))))), (8, (bk (eA64u8 ((vrep 64 (0 : Int))))))]⟩ (by kernel_rfl) (sr (vp (i6 a0) rfl (vp (i6 r2) rfl ?_)))))))
  obtain ⟨hc5, h⟩ := ifp_some h
  refine vq (.own 5 [r2.toNat] [r2.toNat * 1]) rfl hc5 ?_
  have hl6 : LdOk [r2.toNat] (eA64u8 a2) [r2.toNat * 1] 1 false (b8 (rd a2.1 r2.toNat)) := (.arr (vlt a2 hc5) rfl (.nil rfl rfl rfl))
  refine vq (b8 (rd a2.1 r2.toNat)) (ld_own (i := ⟨.int .u8, 1, 1, (.int .u8 0)⟩) rfl rfl rfl hl6) hl6.c ?_
  obtain ⟨r7, hr8, h⟩ := bind_some h
  refine a_call (args := [(i6 a0), (b8 (rd a2.1 r2.toNat))]) (u := []) (r := (b8 r7)) rfl rfl (spec_l01Inverse_ok a0 (rd a2.1 r2.toNat) r7 hr8) rfl (vp (i6 (IntKind.i64.wrap r7)) rfl (vp (i6 (IntKind.i64.wrap r7)) rfl (nx ⟨[(0, (i6 a0)), (4, (ow 4)), (5, (ow 5)), (6, (ow 6)), (7, (ow 7)), (8, (ow 8)), (9, (i6 r2)), (10, (i6 (IntKind.i64.wrap r7)))], [(4, (bk (eA64u8 a1))), (5, (bk (eA64u8 a2))), (6, (bk (eA64u8 ((vrep 64 (0 : Int)))))), (7, (bk (eA64u8 ((vrep 64 (0 : Int)))))), (8, (bk (eA64u8 ((vrep 64 (0 : Int))))))]⟩ (by kernel_rfl) ?_)))
  obtain ⟨y747, hy748, hk749⟩ := bind_some h
  clear h
  refine a_join (emb := fun (s : ((Vec Int 64) × (Vec Int 64))) => ⟨[(4, (ow 4)), (6, (ow 6)), (7, (ow 7)), (8, (ow 8))], [(4, (bk (eA64u8 s.1))), (6, (bk (eA64u8 ((vrep 64 (0 : Int)))))), (7, (bk (eA64u8 ((vrep 64 (0 : Int)))))), (8, (bk (eA64u8 s.2)))]⟩) (pre := fun s => s = y747) ?_ ?_
  · rintro ⟨x745, x746⟩ rfl
    have h := hk749
    refine a_st (σ' := ⟨[(4, (ow 4)), (6, (ow 6)), (7, (ow 7)), (8, (ow 8))], [(4, (bk (eA64u8 x745))), (6, (bk (eA64u8 ((vrep 64 (0 : Int)))))), (7, (bk (eA64u8 ((vrep 64 (0 : Int)))))), (8, (bk (eA64u8 x746)))]⟩) (by kernel_rfl) (a_seq (a_draw [⟨[8], [], [], []⟩, ⟨[4], [], [], []⟩, ⟨[6], [6], [], [0]⟩, ⟨[7], [7], [], [0, 1, 2]⟩] (by kernel_rfl) (d_cons (vl (eA64u8 x746) rfl rfl rfl rfl rfl rfl (d_next (by kernel_rfl) (d_cons (vl (eA64u8 x745) rfl rfl rfl rfl rfl rfl (d_next (by kernel_rfl) (d_cons ?_)))))))))
    refine vs (eA64u8 x746) rfl rfl (fun _ => rfl) rfl rfl rfl rfl rfl rfl (d_next (by kernel_rfl) (d_cons (vs (eA64u8 x745) rfl rfl (fun _ => rfl) rfl rfl rfl rfl rfl rfl (d_next (by kernel_rfl) (d_nil (a_next rfl (a_ret ?_)))))))
    have hl1542 : LdOk [] (eA64u8 x746) [] 64 true (eA64u8 x746) := (.nil rfl rfl rfl)
    have hl1543 : LdOk [] (eA64u8 x745) [] 64 true (eA64u8 x745) := (.nil rfl rfl rfl)
    refine ⟨.inr rfl, ?_⟩
    rw [Try.results113]
    cases h
    exact ⟨_, _, _, _, _, ld_own (i := ⟨.arr 64 5, 64, 64, (eA64u8 (vrep 64 (0 : Int)))⟩) rfl rfl rfl hl1542, hl1542.c, .inl ⟨rfl, .inl rfl⟩, rfl, ⟨_, _, _, _, _, ld_own (i := ⟨.arr 64 5, 64, 64, (eA64u8 (vrep 64 (0 : Int)))⟩) rfl rfl rfl hl1543, hl1543.c, .inl ⟨rfl, .inl rfl⟩, rfl, rfl⟩⟩
  · have h := hy748
    refine sr (vl (eA64u8 a1) rfl rfl rfl rfl rfl rfl ?_)
    obtain ⟨r751, hr752, h⟩ := bind_some h
    refine a_call (args := [(eA64u8 a1)]) (u := []) (r := (i6 r751)) rfl rfl (spec_l01Deg_ok a1 r751 hr752) rfl (vp (i6 r751) rfl (nx ⟨[(0, (i6 a0)), (4, (ow 4)), (5, (ow 5)), (6, (ow 6)), (7, (ow 7)), (8, (ow 8)), (9, (i6 r2)), (10, (i6 (IntKind.i64.wrap r7))), (11, (i6 r751))], [(4, (bk (eA64u8 a1))), (5, (bk (eA64u8 a2))), (6, (bk (eA64u8 ((vrep 64 (0 : Int)))))), (7, (bk (eA64u8 ((vrep 64 (0 : Int)))))), (8, (bk (eA64u8 ((vrep 64 (0 : Int))))))]⟩ (by kernel_rfl) (a_block ?_)))
    refine a_loop (emb := fun (s : (Int × (Vec Int 64) × (Vec Int 64))) => ⟨[(0, (i6 a0)), (4, (ow 4)), (5, (ow 5)), (6, (ow 6)), (7, (ow 7)), (8, (ow 8)), (9, (i6 r2)), (10, (i6 (IntKind.i64.wrap r7))), (11, (i6 s.1))], [(4, (bk (eA64u8 s.2.1))), (5, (bk (eA64u8 a2))), (6, (bk (eA64u8 ((vrep 64 (0 : Int)))))), (7, (bk (eA64u8 ((vrep 64 (0 : Int)))))), (8, (bk (eA64u8 s.2.2)))]⟩) (body := (fun s : (Int × (Vec Int 64) × (Vec Int 64)) => spec_l01Divide_l1 r2 r7 a0 a2 s.1 s.2.1 s.2.2)) (G := fun q => some q = some y747) h rfl ?_ (by kernel_rfl)
    rintro X1264 ⟨x995, x996, x997⟩ x1265 h hX1266
    have h : spec_l01Divide_l1 r2 r7 a0 a2 x995 x996 x997 = some x1265 := h
    refine a_st (σ' := ⟨[(0, (i6 a0)), (4, (ow 4)), (5, (ow 5)), (6, (ow 6)), (7, (ow 7)), (8, (ow 8)), (9, (i6 r2)), (10, (i6 (IntKind.i64.wrap r7))), (11, (i6 x995))], [(4, (bk (eA64u8 x996))), (5, (bk (eA64u8 a2))), (6, (bk (eA64u8 ((vrep 64 (0 : Int)))))), (7, (bk (eA64u8 ((vrep 64 (0 : Int)))))), (8, (bk (eA64u8 x997)))]⟩) (by kernel_rfl) (a_seq (sr (vp (i6 x995) rfl (vp (i6 r2) rfl (vp (.bool ((decide (x995 ≥ r2)))) rfl (nx ⟨[(0, (i6 a0)), (4, (ow 4)), (5, (ow 5)), (6, (ow 6)), (7, (ow 7)), (8, (ow 8)), (9, (i6 r2)), (10, (i6 (IntKind.i64.wrap r7))), (11, (i6 x995)), (27, (.bool ((decide (x995 ≥ r2)))))], [(4, (bk (eA64u8 x996))), (5, (bk (eA64u8 a2))), (6, (bk (eA64u8 ((vrep 64 (0 : Int)))))), (7, (bk (eA64u8 ((vrep 64 (0 : Int)))))), (8, (bk (eA64u8 x997)))]⟩ (by kernel_rfl) ?_))))))
    cases hb1267 : (decide (x995 ≥ r2))
    · have h := ite_f hb1267 h
      refine a_cond_f rfl (a_exit (t_exit ?_))
      cases h
      have h := hX1266
      refine t_exit (b_exit ?_)
      exact j_leaf (x996, x997) (Option.some.inj h) (by kernel_rfl)
    · have h := ite_t hb1267 h
      refine a_cond_t rfl (a_skip (a_next (σ' := ⟨[(0, (i6 a0)), (4, (ow 4)), (5, (ow 5)), (6, (ow 6)), (7, (ow 7)), (8, (ow 8)), (9, (i6 r2)), (10, (i6 (IntKind.i64.wrap r7))), (11, (i6 x995))], [(4, (bk (eA64u8 x996))), (5, (bk (eA64u8 a2))), (6, (bk (eA64u8 ((vrep 64 (0 : Int)))))), (7, (bk (eA64u8 ((vrep 64 (0 : Int)))))), (8, (bk (eA64u8 x997)))]⟩) (by kernel_rfl) ?_))
      obtain ⟨y1400, hy1401, hk1402⟩ := bind_some h
      clear h
      refine a_join (emb := fun (s : ((Vec Int 64) × (Vec Int 64))) => ⟨[(0, (i6 a0)), (4, (ow 4)), (5, (ow 5)), (6, (ow 6)), (7, (ow 7)), (8, (ow 8)), (9, (i6 r2)), (10, (i6 (IntKind.i64.wrap r7))), (11, (i6 x995))], [(4, (bk (eA64u8 s.1))), (5, (bk (eA64u8 a2))), (6, (bk (eA64u8 ((vrep 64 (0 : Int)))))), (7, (bk (eA64u8 ((vrep 64 (0 : Int)))))), (8, (bk (eA64u8 s.2)))]⟩) (pre := fun s => s = y1400) ?_ ?_
      · rintro ⟨x1398, x1399⟩ rfl
        have h := hk1402
        refine a_st (σ' := ⟨[(0, (i6 a0)), (4, (ow 4)), (5, (ow 5)), (6, (ow 6)), (7, (ow 7)), (8, (ow 8)), (9, (i6 r2)), (10, (i6 (IntKind.i64.wrap r7))), (11, (i6 x995))], [(4, (bk (eA64u8 x1398))), (5, (bk (eA64u8 a2))), (6, (bk (eA64u8 ((vrep 64 (0 : Int)))))), (7, (bk (eA64u8 ((vrep 64 (0 : Int)))))), (8, (bk (eA64u8 x1399)))]⟩) (by kernel_rfl) (a_region (vp (i6 x995) rfl (vp (i6 (IntKind.i64.wrap (x995 - 1))) rfl (vp (i6 (IntKind.i64.wrap (x995 - 1))) rfl (a_nil ?_)))))
        cases h
        exact a_again (by kernel_rfl) hX1266
      · have h := hy1401
        refine a_block (sr (vp (i6 x995) rfl ?_))
        obtain ⟨hc1403, h⟩ := ifp_some h
        refine vq (.own 4 [x995.toNat] [x995.toNat * 1]) rfl hc1403 ?_
        have hl1404 : LdOk [x995.toNat] (eA64u8 x996) [x995.toNat * 1] 1 false (b8 (rd x996.1 x995.toNat)) := (.arr (vlt x996 hc1403) rfl (.nil rfl rfl rfl))
        refine vq (b8 (rd x996.1 x995.toNat)) (ld_own (i := ⟨.int .u8, 1, 1, (.int .u8 0)⟩) rfl rfl rfl hl1404) hl1404.c (vp (i6 (IntKind.i64.wrap (rd x996.1 x995.toNat))) rfl (vp (i6 (IntKind.i64.wrap r7)) rfl ?_))
        obtain ⟨x1405, hx1406, h⟩ := letp_some h
        refine a_val' (v := (i6 (IntKind.i64.wrap ((IntKind.i64.wrap (rd x996.1 x995.toNat)) * (IntKind.i64.wrap r7))))) (v' := (i6 x1405)) (u := []) (u' := []) rfl (congrArg (fun z => ((i6 z) : AV)) hx1406) rfl trivial rfl (vp (i6 a0) rfl ?_)
        obtain ⟨hc1407, h⟩ := ifp_some h
        refine vq (i6 (Int.tmod x1405 a0)) rfl hc1407 (vp (i6 (Int.tmod x1405 a0)) rfl (nx ⟨[(0, (i6 a0)), (4, (ow 4)), (5, (ow 5)), (6, (ow 6)), (7, (ow 7)), (8, (ow 8)), (9, (i6 r2)), (10, (i6 (IntKind.i64.wrap r7))), (11, (i6 x995)), (12, (i6 (Int.tmod x1405 a0)))], [(4, (bk (eA64u8 x996))), (5, (bk (eA64u8 a2))), (6, (bk (eA64u8 ((vrep 64 (0 : Int)))))), (7, (bk (eA64u8 ((vrep 64 (0 : Int)))))), (8, (bk (eA64u8 x997)))]⟩ (by kernel_rfl) (sr (vp (i6 x995) rfl (vp (i6 r2) rfl (vp (i6 (IntKind.i64.wrap (x995 - r2))) rfl (vp (i6 (Int.tmod x1405 a0)) rfl (vp (b8 (IntKind.u8.wrap (Int.tmod x1405 a0))) rfl ?_))))))))
        obtain ⟨hc1408, h⟩ := ifp_some h
        refine vq (.own 8 [(IntKind.i64.wrap (x995 - r2)).toNat] [(IntKind.i64.wrap (x995 - r2)).toNat * 1]) rfl hc1408 ?_
        have hs1409 : StOk [(IntKind.i64.wrap (x995 - r2)).toNat] (eA64u8 x997) [(IntKind.i64.wrap (x995 - r2)).toNat * 1] 1 (b8 (IntKind.u8.wrap (Int.tmod x1405 a0))) (eA64u8 ((vset x997 (IntKind.i64.wrap (x995 - r2)).toNat (IntKind.u8.wrap (Int.tmod x1405 a0))))) := (.arr (y := IntKind.u8.wrap (Int.tmod x1405 a0)) (vlt x997 hc1408) rfl (.nil rfl rfl rfl rfl))
        refine vu .top [(8, (bk (eA64u8 ((vset x997 (IntKind.i64.wrap (x995 - r2)).toNat (IntKind.u8.wrap (Int.tmod x1405 a0)))))))] (st_own (i := ⟨.int .u8, 1, 1, (.int .u8 0)⟩) rfl rfl (fun _ => rfl) rfl hs1409) (hs1409.c rfl) rfl (nx ⟨[(0, (i6 a0)), (4, (ow 4)), (5, (ow 5)), (6, (ow 6)), (7, (ow 7)), (8, (ow 8)), (9, (i6 r2)), (10, (i6 (IntKind.i64.wrap r7))), (11, (i6 x995)), (12, (i6 (Int.tmod x1405 a0)))], [(4, (bk (eA64u8 x996))), (5, (bk (eA64u8 a2))), (6, (bk (eA64u8 ((vrep 64 (0 : Int)))))), (7, (bk (eA64u8 ((vrep 64 (0 : Int)))))), (8, (bk (eA64u8 ((vset x997 (IntKind.i64.wrap (x995 - r2)).toNat (IntKind.u8.wrap (Int.tmod x1405 a0)))))))]⟩ (by kernel_rfl) (sr (vp (i6 0) rfl (nx ⟨[(0, (i6 a0)), (4, (ow 4)), (5, (ow 5)), (6, (ow 6)), (7, (ow 7)), (8, (ow 8)), (9, (i6 r2)), (10, (i6 (IntKind.i64.wrap r7))), (11, (i6 x995)), (12, (i6 (Int.tmod x1405 a0))), (13, (i6 0))], [(4, (bk (eA64u8 x996))), (5, (bk (eA64u8 a2))), (6, (bk (eA64u8 ((vrep 64 (0 : Int)))))), (7, (bk (eA64u8 ((vrep 64 (0 : Int)))))), (8, (bk (eA64u8 ((vset x997 (IntKind.i64.wrap (x995 - r2)).toNat (IntKind.u8.wrap (Int.tmod x1405 a0)))))))]⟩ (by kernel_rfl) (a_block ?_)))))
        refine a_loop (emb := fun (s : (Int × (Vec Int 64))) => ⟨[(0, (i6 a0)), (4, (ow 4)), (5, (ow 5)), (6, (ow 6)), (7, (ow 7)), (8, (ow 8)), (9, (i6 r2)), (10, (i6 (IntKind.i64.wrap r7))), (11, (i6 x995)), (12, (i6 (Int.tmod x1405 a0))), (13, (i6 s.1))], [(4, (bk (eA64u8 s.2))), (5, (bk (eA64u8 a2))), (6, (bk (eA64u8 ((vrep 64 (0 : Int)))))), (7, (bk (eA64u8 ((vrep 64 (0 : Int)))))), (8, (bk (eA64u8 ((vset x997 (IntKind.i64.wrap (x995 - r2)).toNat (IntKind.u8.wrap (Int.tmod x1405 a0)))))))]⟩) (body := (fun s : (Int × (Vec Int 64)) => spec_l01Divide_l2 r2 x1405 a0 x995 a2 x997 s.1 s.2)) (G := fun q => some q = some y1400) h rfl ?_ (by kernel_rfl)
        rintro X1490 ⟨x1449, x1450⟩ x1491 h hX1492
        have h : spec_l01Divide_l2 r2 x1405 a0 x995 a2 x997 x1449 x1450 = some x1491 := h
        refine a_st (σ' := ⟨[(0, (i6 a0)), (4, (ow 4)), (5, (ow 5)), (6, (ow 6)), (7, (ow 7)), (8, (ow 8)), (9, (i6 r2)), (10, (i6 (IntKind.i64.wrap r7))), (11, (i6 x995)), (12, (i6 (Int.tmod x1405 a0))), (13, (i6 x1449))], [(4, (bk (eA64u8 x1450))), (5, (bk (eA64u8 a2))), (6, (bk (eA64u8 ((vrep 64 (0 : Int)))))), (7, (bk (eA64u8 ((vrep 64 (0 : Int)))))), (8, (bk (eA64u8 ((vset x997 (IntKind.i64.wrap (x995 - r2)).toNat (IntKind.u8.wrap (Int.tmod x1405 a0)))))))]⟩) (by kernel_rfl) (a_seq ?_)
        obtain ⟨y1495, hy1496, hk1497⟩ := bind_some h
        clear h
        refine a_join (emb := fun (s : Bool) => ⟨[(0, (i6 a0)), (4, (ow 4)), (5, (ow 5)), (6, (ow 6)), (7, (ow 7)), (8, (ow 8)), (9, (i6 r2)), (10, (i6 (IntKind.i64.wrap r7))), (11, (i6 x995)), (12, (i6 (Int.tmod x1405 a0))), (13, (i6 x1449)), (50, (.bool s))], [(4, (bk (eA64u8 x1450))), (5, (bk (eA64u8 a2))), (6, (bk (eA64u8 ((vrep 64 (0 : Int)))))), (7, (bk (eA64u8 ((vrep 64 (0 : Int)))))), (8, (bk (eA64u8 ((vset x997 (IntKind.i64.wrap (x995 - r2)).toNat (IntKind.u8.wrap (Int.tmod x1405 a0)))))))]⟩) (pre := fun s => s = y1495) ?_ ?_
        · rintro x1494 rfl
          have h := hk1497
          refine a_st (σ' := ⟨[(0, (i6 a0)), (4, (ow 4)), (5, (ow 5)), (6, (ow 6)), (7, (ow 7)), (8, (ow 8)), (9, (i6 r2)), (10, (i6 (IntKind.i64.wrap r7))), (11, (i6 x995)), (12, (i6 (Int.tmod x1405 a0))), (13, (i6 x1449)), (50, (.bool x1494))], [(4, (bk (eA64u8 x1450))), (5, (bk (eA64u8 a2))), (6, (bk (eA64u8 ((vrep 64 (0 : Int)))))), (7, (bk (eA64u8 ((vrep 64 (0 : Int)))))), (8, (bk (eA64u8 ((vset x997 (IntKind.i64.wrap (x995 - r2)).toNat (IntKind.u8.wrap (Int.tmod x1405 a0)))))))]⟩) (by kernel_rfl) ?_
          cases hb1499 : x1494
          · have h := ite_f hb1499 h
            refine a_cond_f rfl (a_exit (t_exit ?_))
            cases h
            have h := hX1492
            refine t_exit (b_exit (b_norm ?_))
            exact j_leaf ((x1450, (vset x997 (IntKind.i64.wrap (x995 - r2)).toNat (IntKind.u8.wrap (Int.tmod x1405 a0))))) (Option.some.inj h) (by kernel_rfl)
          · have h := ite_t hb1499 h
            refine a_cond_t rfl (a_skip (a_next (σ' := ⟨[(0, (i6 a0)), (4, (ow 4)), (5, (ow 5)), (6, (ow 6)), (7, (ow 7)), (8, (ow 8)), (9, (i6 r2)), (10, (i6 (IntKind.i64.wrap r7))), (11, (i6 x995)), (12, (i6 (Int.tmod x1405 a0))), (13, (i6 x1449))], [(4, (bk (eA64u8 x1450))), (5, (bk (eA64u8 a2))), (6, (bk (eA64u8 ((vrep 64 (0 : Int)))))), (7, (bk (eA64u8 ((vrep 64 (0 : Int)))))), (8, (bk (eA64u8 ((vset x997 (IntKind.i64.wrap (x995 - r2)).toNat (IntKind.u8.wrap (Int.tmod x1405 a0)))))))]⟩) (by kernel_rfl) (a_seq (a_block (a_draw [⟨[], [], [], []⟩, ⟨[], [], [], []⟩, ⟨[], [], [], [0, 1]⟩, ⟨[], [], [], []⟩, ⟨[], [], [], [0, 1, 2, 3]⟩, ⟨[], [], [], []⟩, ⟨[], [], [], []⟩, ⟨[], [], [], [5, 6]⟩, ⟨[], [], [], []⟩, ⟨[], [], [], [5, 6, 7, 8]⟩, ⟨[4], [], [4], [5, 6, 7, 8, 9]⟩, ⟨[4], [], [], [5, 6, 7, 8, 9, 10]⟩, ⟨[], [], [], [5, 6, 7, 8, 9, 10, 11]⟩, ⟨[], [], [], []⟩, ⟨[], [], [], []⟩, ⟨[5], [], [5], [14]⟩, ⟨[5], [], [], [14, 15]⟩, ⟨[], [], [], [14, 15, 16]⟩, ⟨[], [], [], [13, 14, 15, 16, 17]⟩, ⟨[], [], [], [5, 6, 7, 8, 9, 10, 11, 12, 13, 14, 15, 16, 17, 18]⟩, ⟨[], [], [], []⟩, ⟨[], [], [], [5, 6, 7, 8, 9, 10, 11, 12, 13, 14, 15, 16, 17, 18, 19, 20]⟩, ⟨[], [], [], []⟩, ⟨[], [], [], [5, 6, 7, 8, 9, 10, 11, 12, 13, 14, 15, 16, 17, 18, 19, 20, 21, 22]⟩, ⟨[], [], [], []⟩, ⟨[], [], [], [5, 6, 7, 8, 9, 10, 11, 12, 13, 14, 15, 16, 17, 18, 19, 20, 21, 22, 23, 24]⟩, ⟨[], [], [], [5, 6, 7, 8, 9, 10, 11, 12, 13, 14, 15, 16, 17, 18, 19, 20, 21, 22, 23, 24, 25]⟩, ⟨[4], [], [4], [0, 1, 2, 3, 4, 5, 6, 7, 8, 9, 10, 11, 12, 13, 14, 15, 16, 17, 18, 19, 20, 21, 22, 23, 24, 25, 26]⟩, ⟨[4], [4], [], [0, 1, 2, 3, 4, 5, 6, 7, 8, 9, 10, 11, 12, 13, 14, 15, 16, 17, 18, 19, 20, 21, 22, 23, 24, 25, 26, 27]⟩] (by kernel_rfl) (dp (i6 x995) rfl (by kernel_rfl) (dp (i6 r2) rfl (by kernel_rfl) (dp (i6 (IntKind.i64.wrap (x995 - r2))) rfl (by kernel_rfl) (dp (i6 x1449) rfl (by kernel_rfl) ?_)))))))))
            refine dp (i6 (IntKind.i64.wrap ((IntKind.i64.wrap (x995 - r2)) + x1449))) rfl (by kernel_rfl) (dp (i6 x995) rfl (by kernel_rfl) (dp (i6 r2) rfl (by kernel_rfl) (dp (i6 (IntKind.i64.wrap (x995 - r2))) rfl (by kernel_rfl) (dp (i6 x1449) rfl (by kernel_rfl) (dp (i6 (IntKind.i64.wrap ((IntKind.i64.wrap (x995 - r2)) + x1449))) rfl (by kernel_rfl) (d_cons ?_))))))
            obtain ⟨hc1516, h⟩ := ifp_some h
            refine vq (.own 4 [(IntKind.i64.wrap ((IntKind.i64.wrap (x995 - r2)) + x1449)).toNat] [(IntKind.i64.wrap ((IntKind.i64.wrap (x995 - r2)) + x1449)).toNat * 1]) rfl hc1516 (d_next (by kernel_rfl) (d_cons ?_))
            have hl1517 : LdOk [(IntKind.i64.wrap ((IntKind.i64.wrap (x995 - r2)) + x1449)).toNat] (eA64u8 x1450) [(IntKind.i64.wrap ((IntKind.i64.wrap (x995 - r2)) + x1449)).toNat * 1] 1 false (b8 ((rd x1450.1 (IntKind.i64.wrap ((IntKind.i64.wrap (x995 - r2)) + x1449)).toNat))) := (.arr (vlt x1450 hc1516) rfl (.nil rfl rfl rfl))
            obtain ⟨x1518, hx1519, h⟩ := letp_some h
            refine a_val' (v := (b8 ((rd x1450.1 (IntKind.i64.wrap ((IntKind.i64.wrap (x995 - r2)) + x1449)).toNat)))) (v' := (b8 x1518)) (u := []) (u' := []) (ld_own (i := ⟨.int .u8, 1, 1, (.int .u8 0)⟩) rfl rfl rfl hl1517) (congrArg (fun z => ((b8 z) : AV)) hx1519) rfl hl1517.c rfl (d_next (by kernel_rfl) (dp (i6 (IntKind.i64.wrap x1518)) rfl (by kernel_rfl) (dp (i6 (Int.tmod x1405 a0)) rfl (by kernel_rfl) (dp (i6 x1449) rfl (by kernel_rfl) (d_cons ?_)))))
            obtain ⟨hc1520, h⟩ := ifp_some h
            refine vq (.own 5 [x1449.toNat] [x1449.toNat * 1]) rfl hc1520 (d_next (by kernel_rfl) (d_cons ?_))
            have hl1521 : LdOk [x1449.toNat] (eA64u8 a2) [x1449.toNat * 1] 1 false (b8 (rd a2.1 x1449.toNat)) := (.arr (vlt a2 hc1520) rfl (.nil rfl rfl rfl))
            refine vq (b8 (rd a2.1 x1449.toNat)) (ld_own (i := ⟨.int .u8, 1, 1, (.int .u8 0)⟩) rfl rfl rfl hl1521) hl1521.c (d_next (by kernel_rfl) (dp (i6 (IntKind.i64.wrap (rd a2.1 x1449.toNat))) rfl (by kernel_rfl) (d_cons ?_)))
            obtain ⟨x1522, hx1523, h⟩ := letp_some h
            refine a_val' (v := (i6 (IntKind.i64.wrap ((Int.tmod x1405 a0) * (IntKind.i64.wrap (rd a2.1 x1449.toNat)))))) (v' := (i6 x1522)) (u := []) (u' := []) rfl (congrArg (fun z => ((i6 z) : AV)) hx1523) rfl trivial rfl (d_next (by kernel_rfl) (dp (i6 (IntKind.i64.wrap ((IntKind.i64.wrap x1518) - x1522))) rfl (by kernel_rfl) (dp (i6 a0) rfl (by kernel_rfl) (d_cons ?_))))
            obtain ⟨hc1524, h⟩ := ifp_some h
            obtain ⟨x1525, hx1526, h⟩ := letp_some h
            refine a_val' (v := (i6 (Int.tmod (IntKind.i64.wrap ((IntKind.i64.wrap x1518) - x1522)) a0))) (v' := (i6 x1525)) (u := []) (u' := []) rfl (congrArg (fun z => ((i6 z) : AV)) hx1526) rfl hc1524 rfl (d_next (by kernel_rfl) (dp (i6 a0) rfl (by kernel_rfl) (dp (i6 (IntKind.i64.wrap (x1525 + a0))) rfl (by kernel_rfl) (dp (i6 a0) rfl (by kernel_rfl) (d_cons ?_)))))
            obtain ⟨hc1527, h⟩ := ifp_some h
            refine vq (i6 (Int.tmod (IntKind.i64.wrap (x1525 + a0)) a0)) rfl hc1527 (d_next (by kernel_rfl) (d_cons ?_))
            obtain ⟨x1528, hx1529, h⟩ := letp_some h
            refine a_val' (v := (b8 (IntKind.u8.wrap (Int.tmod (IntKind.i64.wrap (x1525 + a0)) a0)))) (v' := (b8 x1528)) (u := []) (u' := []) rfl (congrArg (fun z => ((b8 z) : AV)) hx1529) rfl trivial rfl (d_next (by kernel_rfl) (d_cons ?_))
            obtain ⟨hc1530, h⟩ := ifp_some h
            refine vq (.own 4 [(IntKind.i64.wrap ((IntKind.i64.wrap (x995 - r2)) + x1449)).toNat] [(IntKind.i64.wrap ((IntKind.i64.wrap (x995 - r2)) + x1449)).toNat * 1]) rfl hc1530 (d_next (by kernel_rfl) (d_cons ?_))
            have hs1531 : StOk [(IntKind.i64.wrap ((IntKind.i64.wrap (x995 - r2)) + x1449)).toNat] (eA64u8 x1450) [(IntKind.i64.wrap ((IntKind.i64.wrap (x995 - r2)) + x1449)).toNat * 1] 1 (b8 x1528) (eA64u8 ((vset x1450 (IntKind.i64.wrap ((IntKind.i64.wrap (x995 - r2)) + x1449)).toNat x1528))) := (.arr (y := x1528) (vlt x1450 hc1530) rfl (.nil rfl rfl rfl rfl))
            refine vu .top [(4, (bk (eA64u8 ((vset x1450 (IntKind.i64.wrap ((IntKind.i64.wrap (x995 - r2)) + x1449)).toNat x1528)))))] (st_own (i := ⟨.int .u8, 1, 1, (.int .u8 0)⟩) rfl rfl (fun _ => rfl) rfl hs1531) (hs1531.c rfl) rfl (d_next (by kernel_rfl) (d_nil (b_norm (a_next (σ' := ⟨[(0, (i6 a0)), (4, (ow 4)), (5, (ow 5)), (6, (ow 6)), (7, (ow 7)), (8, (ow 8)), (9, (i6 r2)), (10, (i6 (IntKind.i64.wrap r7))), (11, (i6 x995)), (12, (i6 (Int.tmod x1405 a0))), (13, (i6 x1449))], [(4, (bk (eA64u8 ((vset x1450 (IntKind.i64.wrap ((IntKind.i64.wrap (x995 - r2)) + x1449)).toNat x1528))))), (5, (bk (eA64u8 a2))), (6, (bk (eA64u8 ((vrep 64 (0 : Int)))))), (7, (bk (eA64u8 ((vrep 64 (0 : Int)))))), (8, (bk (eA64u8 ((vset x997 (IntKind.i64.wrap (x995 - r2)).toNat (IntKind.u8.wrap (Int.tmod x1405 a0)))))))]⟩) (by kernel_rfl) (a_region (vp (i6 x1449) rfl (vp (i6 (IntKind.i64.wrap (x1449 + 1))) rfl (vp (i6 (IntKind.i64.wrap (x1449 + 1))) rfl (a_nil ?_)))))))))
            cases h
            exact a_again (by kernel_rfl) hX1492
        · have h := hy1496
          refine a_region (vp (i6 x1449) rfl (vp (i6 r2) rfl (vp (.bool ((decide (x1449 ≤ r2)))) rfl (vp (.bool ((decide (x1449 ≤ r2)))) rfl ?_))))
          cases hb1498 : (decide (x1449 ≤ r2))
          · have h := ite_f hb1498 h
            refine a_gskip rfl (a_gskip rfl (vp (.bool false) rfl (a_nil ?_)))
            exact j_leaf false (Option.some.inj h) (by kernel_rfl)
          · have h := ite_t hb1498 h
            refine gp (i6 (Int.tmod x1405 a0)) rfl rfl (gp (.bool (((Int.tmod x1405 a0) != 0))) rfl rfl (vp (.bool (((Int.tmod x1405 a0) != 0))) rfl (a_nil ?_)))
            exact j_leaf (((Int.tmod x1405 a0) != 0)) (Option.some.inj h) (by kernel_rfl)
def spec_l01Bezout_c : ACode := (.seq (.region 0 [q 4 (.box 25 (t 1)), q 5 (.box 25 (t 2)), q 6 (.alloc 25), q 7 (.alloc 25), q 8 (.alloc 25)] false) (.seq (.region 1 [q 22 (.call 0 (.func 133) []), q 23 (.build 25 []), q 24 (.build 25 []), q 25 (.call 0 (.func 133) []), q 9 (.alloc 25), q 10 (.alloc 25), q 11 (.alloc 25), q 12 (.alloc 25), ⟨none, .store 25 (t 9) (t 22), none, []⟩, ⟨none, .store 25 (t 10) (t 23), none, []⟩, ⟨none, .store 25 (t 11) (t 24), none, []⟩, ⟨none, .store 25 (t 12) (t 25), none, []⟩] false) (.seq (.block 0 (.loop (.seq (.seq (.region 2 [q 26 (.load 25 (t 5)), q 27 (.call 0 (.func 112) [(t 26)]), q 28 (.bin .geq 2 (t 27) (.const (.int .i64 0)))] false) (.cond (t 28) .skip (.exit 0))) (.block 1 (.seq (.region 3 [q 30 (.mov (t 0)), q 31 (.load 25 (t 4)), q 32 (.load 25 (t 5)), q 33 (.call 0 (.func 113) [(t 30), (t 31), (t 32)]), q 29 (.mov (t 33)), q 34 (.extract (t 29) 0), q 35 (.extract (t 29) 1), q 13 (.alloc 25), q 14 (.alloc 25), ⟨none, .store 25 (t 13) (t 34), none, []⟩, ⟨none, .store 25 (t 14) (t 35), none, []⟩] false) (.seq (.region 4 [q 37 (.mov (t 0)), q 38 (.load 25 (t 13)), q 39 (.load 25 (t 10)), q 40 (.call 0 (.func 105) [(t 37), (t 38), (t 39)]), q 36 (.mov (t 40)), q 41 (.extract (t 36) 0), q 42 (.extract (t 36) 1), q 15 (.alloc 25), ⟨none, .store 25 (t 15) (t 41), none, []⟩, q 16 (.asg 0 (t 42) 4)] false) (.seq (.region 5 [q 44 (.mov (t 0)), q 45 (.load 25 (t 13)), q 46 (.load 25 (t 12)), q 47 (.call 0 (.func 105) [(t 44), (t 45), (t 46)]), q 43 (.mov (t 47)), q 48 (.extract (t 43) 0), q 49 (.extract (t 43) 1), q 17 (.alloc 25), ⟨none, .store 25 (t 17) (t 48), none, []⟩, q 18 (.asg 0 (t 49) 4)] false) (.seq (.region 6 [q 50 (.mov (t 0)), q 51 (.load 25 (t 9)), q 52 (.load 25 (t 15)), ⟨some 53, .call 0 (.func 121) [(t 50), (t 51), (t 52), (.const (.int .i64 (-1)))], none, [0, 1, 2]⟩, q 54 (.mov (t 0)), q 55 (.load 25 (t 11)), q 56 (.load 25 (t 17)), ⟨some 57, .call 0 (.func 121) [(t 54), (t 55), (t 56), (.const (.int .i64 (-1)))], none, [4, 5, 6, 3]⟩, q 19 (.alloc 25), q 20 (.alloc 25), ⟨none, .store 25 (t 19) (t 53), none, [8, 3, 7, 0, 1, 2, 3, 8, 9]⟩, ⟨none, .store 25 (t 20) (t 57), none, [9, 7, 10, 0, 1, 2, 3, 4, 5, 6, 7, 8, 9, 10]⟩] true) (.seq (.region 7 [q 58 (.load 25 (t 5)), ⟨none, .store 25 (t 4) (t 58), none, []⟩] false) (.seq (.region 8 [q 59 (.load 25 (t 14)), ⟨none, .store 25 (t 5) (t 59), none, []⟩] false) (.seq (.region 9 [q 60 (.load 25 (t 10)), ⟨none, .store 25 (t 9) (t 60), none, []⟩] false) (.seq (.region 10 [q 61 (.load 25 (t 12)), ⟨none, .store 25 (t 11) (t 61), none, []⟩] false) (.seq (.region 11 [q 62 (.load 25 (t 19)), ⟨none, .store 25 (t 10) (t 62), none, []⟩] false) (.region 12 [q 63 (.load 25 (t 20)), ⟨none, .store 25 (t 12) (t 63), none, []⟩] false)))))))))))))) (.seq (.region 13 [q 64 (.mov (t 0)), q 65 (.load 25 (t 4)), q 66 (.call 0 (.func 112) [(t 65)]), q 67 (.indexAddr 25 (t 4) (t 66)), q 68 (.load 5 (t 67)), q 69 (.call 0 (.func 187) [(t 64), (t 68)]), q 70 (.conv 5 2 (t 69)), q 21 (.asg 0 (t 70) 2)] false) (.seq (.region 14 [q 71 (.mov (t 0)), q 72 (.build 25 []), q 73 (.load 25 (t 4)), q 74 (.mov (t 21)), ⟨some 75, .call 0 (.func 121) [(t 71), (t 72), (t 73), (t 74)], none, [0, 1, 2, 3]⟩, q 76 (.mov (t 0)), q 77 (.build 25 []), q 78 (.load 25 (t 9)), q 79 (.mov (t 21)), ⟨some 80, .call 0 (.func 121) [(t 76), (t 77), (t 78), (t 79)], none, [5, 6, 7, 8, 4]⟩, q 81 (.mov (t 0)), q 82 (.build 25 []), q 83 (.load 25 (t 11)), q 84 (.mov (t 21)), ⟨some 85, .call 0 (.func 121) [(t 81), (t 82), (t 83), (t 84)], none, [10, 11, 12, 13, 9]⟩, ⟨none, .store 25 (t 6) (t 75), none, [4, 14, 0, 1, 2, 3, 4]⟩, ⟨none, .store 25 (t 7) (t 80), none, [9, 15, 0, 1, 2, 3, 4, 5, 6, 7, 8, 9, 15]⟩, ⟨none, .store 25 (t 8) (t 85), none, [14, 16, 0, 1, 2, 3, 4, 5, 6, 7, 8, 9, 10, 11, 12, 13, 14, 15, 16]⟩] true) .ret)))))
def spec_l01Bezout_L : Live := [(0, [0, 1, 2]), (1, [0, 4, 5, 6, 7, 8]), (2, [0, 4, 5, 6, 7, 8, 9, 10, 11, 12]), (3, [0, 4, 5, 6, 7, 8, 9, 10, 11, 12]), (4, [0, 4, 5, 6, 7, 8, 9, 10, 11, 12, 13, 14]), (5, [0, 4, 5, 6, 7, 8, 9, 10, 11, 12, 13, 14, 15]), (6, [0, 4, 5, 6, 7, 8, 9, 10, 11, 12, 14, 15, 17]), (7, [0, 4, 5, 6, 7, 8, 9, 10, 11, 12, 14, 19, 20]), (8, [0, 4, 5, 6, 7, 8, 9, 10, 11, 12, 14, 19, 20]), (9, [0, 4, 5, 6, 7, 8, 9, 10, 11, 12, 19, 20]), (10, [0, 4, 5, 6, 7, 8, 9, 10, 11, 12, 19, 20]), (11, [0, 4, 5, 6, 7, 8, 9, 10, 11, 12, 19, 20]), (12, [0, 4, 5, 6, 7, 8, 9, 10, 11, 12, 20]), (13, [0, 4, 6, 7, 8, 9, 11]), (14, [0, 4, 6, 7, 8, 9, 11, 21]), (100028, [0, 4, 5, 6, 7, 8, 9, 10, 11, 12, 28])]
noncomputable def spec_l01Bezout_l1 (a0 : Int) (x233 : (Vec Int 64)) (x234 : (Vec Int 64)) (x235 : (Vec Int 64)) (x236 : (Vec Int 64)) (x237 : (Vec Int 64)) (x238 : (Vec Int 64)) : Option (((Vec Int 64) × (Vec Int 64) × (Vec Int 64) × (Vec Int 64) × (Vec Int 64) × (Vec Int 64)) ⊕ ((Vec Int 64) × (Vec Int 64) × (Vec Int 64))) :=
  (Option.bind (spec_l01Deg x234) fun r295 => (if (decide (r295 ≥ 0)) then (Option.bind (spec_l01Divide a0 x233 x234) fun r300 => (Option.bind (spec_l01Times a0 r300.1 x236) fun r306 => (Option.bind (spec_l01Times a0 r300.1 x238) fun r311 => (Option.bind (spec_l01Add a0 x235 r306.1 (-1)) fun r326 => (Option.bind (spec_l01Add a0 x237 r311.1 (-1)) fun r330 => (some (.inl (x234, r300.2, x236, r326, x238, r330)))))))) else (some (.inr (x233, x235, x237)))))
noncomputable def spec_l01Bezout (a0 : Int) (a1 : (Vec Int 64)) (a2 : (Vec Int 64)) : Option ((Vec Int 64) × (Vec Int 64) × (Vec Int 64)) :=
  (Option.bind (spec_l01One) fun r1 => (Option.bind (spec_l01One) fun r3 => (Option.bind (α := ((Vec Int 64) × (Vec Int 64) × (Vec Int 64))) ((loopM (fun s : ((Vec Int 64) × (Vec Int 64) × (Vec Int 64) × (Vec Int 64) × (Vec Int 64) × (Vec Int 64)) => spec_l01Bezout_l1 a0 s.1 s.2.1 s.2.2.1 s.2.2.2.1 s.2.2.2.2.1 s.2.2.2.2.2) (a1, a2, r1, (vrep 64 (0 : Int)), (vrep 64 (0 : Int)), r3))) fun ⟨x175, x176, x177⟩ => (Option.bind (spec_l01Deg x175) fun r348 => (ifp (0 ≤ r348 ∧ r348 < ((64 : Nat) : Int)) ((Option.bind (spec_l01Inverse a0 (rd x175.1 r348.toNat)) fun r352 => (Option.bind (spec_l01Add a0 ((vrep 64 (0 : Int))) x175 (IntKind.i64.wrap r352)) fun r367 => (Option.bind (spec_l01Add a0 ((vrep 64 (0 : Int))) x176 (IntKind.i64.wrap r352)) fun r370 => (Option.bind (spec_l01Add a0 ((vrep 64 (0 : Int))) x177 (IntKind.i64.wrap r352)) fun r373 => (some (r367, r370, r373))))))))))))
theorem spec_l01Bezout_ok (a0 : Int) (a1 : (Vec Int 64)) (a2 : (Vec Int 64)) (r : ((Vec Int 64) × (Vec Int 64) × (Vec Int 64))) (h : spec_l01Bezout a0 a1 a2 = some r) : Den Try.prog 204 [(i6 a0), (eA64u8 a1), (eA64u8 a2)] { r := (.tuple [(eA64u8 r.1), (eA64u8 r.2.1), (eA64u8 r.2.2)]) } := by
  refine den_of (rs := [(eA64u8 r.1), (eA64u8 r.2.1), (eA64u8 r.2.2)]) (ac := spec_l01Bezout_c) (L := spec_l01Bezout_L) (n := 86) (m := []) (c := Try.f204.body.getD .skip) good Try.func204 (by kernel_rfl) (by kernel_rfl) Try.ntmps204 rfl rfl (by kernel_rfl) rfl rfl ?_
  refine a_st (σ' := ⟨[(0, (i6 a0)), (1, (eA64u8 a1)), (2, (eA64u8 a2))], []⟩) (by kernel_rfl) ?_
  unfold spec_l01Bezout_c
  refine sr (vo 1400 (eA64u8 a1) rfl rfl (vo 1500 (eA64u8 a2) rfl rfl (vo 1600 (eA64u8 ((vrep 64 (0 : Int)))) rfl rfl (vo 1700 (eA64u8 ((vrep 64 (0 : Int)))) rfl rfl (vo 1800 (eA64u8 ((vrep 64 (0 : Int)))) rfl rfl (nx ⟨[(0, (i6 a0)), (4, (ow 4)), (5, (ow 5)), (6, (ow 6)), (7, (ow 7)), (8, (ow 8))], [(4, (bk (eA64u8 a1))), (5, (bk (eA64u8 a2))), (6, (bk (eA64u8 ((vrep 64 (0 : Int)))))), (7, (bk (eA64u8 ((vrep 64 (0 : Int)))))), (8, (bk (eA64u8 ((vrep 64 (0 : Int))))))]⟩ (by kernel_rfl) (sr ?_)))))))
  obtain ⟨r1, hr2, h⟩ := bind_some h
  refine a_call (args := []) (u := []) (r := (eA64u8 r1)) rfl rfl (spec_l01One_ok r1 hr2) rfl (vq (eA64u8 ((vrep 64 (0 : Int)))) rfl ⟨⟨_, rfl, rfl⟩, all_nil⟩ (vq (eA64u8 ((vrep 64 (0 : Int)))) rfl ⟨⟨_, rfl, rfl⟩, all_nil⟩ ?_))
  obtain ⟨r3, hr4, h⟩ := bind_some h
  refine a_call (args := []) (u := []) (r := (eA64u8 r3)) rfl rfl (spec_l01One_ok r3 hr4) rfl (vo 1900 (eA64u8 ((vrep 64 (0 : Int)))) rfl rfl (vo 2000 (eA64u8 ((vrep 64 (0 : Int)))) rfl rfl (vo 2100 (eA64u8 ((vrep 64 (0 : Int)))) rfl rfl (vo 2200 (eA64u8 ((vrep 64 (0 : Int)))) rfl rfl (vs (eA64u8 r1) rfl rfl (fun _ => rfl) rfl rfl rfl rfl rfl rfl (vs (eA64u8 ((vrep 64 (0 : Int)))) rfl rfl (fun _ => rfl) rfl rfl rfl rfl rfl rfl (vs (eA64u8 ((vrep 64 (0 : Int)))) rfl rfl (fun _ => rfl) rfl rfl rfl rfl rfl rfl (vs (eA64u8 r3) rfl rfl (fun _ => rfl) rfl rfl rfl rfl rfl rfl (nx ⟨[(0, (i6 a0)), (4, (ow 4)), (5, (ow 5)), (6, (ow 6)), (7, (ow 7)), (8, (ow 8)), (9, (ow 9)), (10, (ow 10)), (11, (ow 11)), (12, (ow 12))], [(4, (bk (eA64u8 a1))), (5, (bk (eA64u8 a2))), (6, (bk (eA64u8 ((vrep 64 (0 : Int)))))), (7, (bk (eA64u8 ((vrep 64 (0 : Int)))))), (8, (bk (eA64u8 ((vrep 64 (0 : Int)))))), (9, (bk (eA64u8 r1))), (10, (bk (eA64u8 ((vrep 64 (0 : Int)))))), (11, (bk (eA64u8 ((vrep 64 (0 : Int)))))), (12, (bk (eA64u8 r3)))]⟩ (by kernel_rfl) ?_)))))))))
  obtain ⟨y178, hy179, hk180⟩ := bind_some h
  clear h
  refine a_join (emb := fun (s : ((Vec Int 64) × (Vec Int 64) × (Vec Int 64))) => ⟨[(0, (i6 a0)), (4, (ow 4)), (6, (ow 6)), (7, (ow 7)), (8, (ow 8)), (9, (ow 9)), (11, (ow 11))], [(4, (bk (eA64u8 s.1))), (6, (bk (eA64u8 ((vrep 64 (0 : Int)))))), (7, (bk (eA64u8 ((vrep 64 (0 : Int)))))), (8, (bk (eA64u8 ((vrep 64 (0 : Int)))))), (9, (bk (eA64u8 s.2.1))), (11, (bk (eA64u8 s.2.2)))]⟩) (pre := fun s => s = y178) ?_ ?_
  · rintro ⟨x175, x176, x177⟩ rfl
    have h := hk180
    refine a_st (σ' := ⟨[(0, (i6 a0)), (4, (ow 4)), (6, (ow 6)), (7, (ow 7)), (8, (ow 8)), (9, (ow 9)), (11, (ow 11))], [(4, (bk (eA64u8 x175))), (6, (bk (eA64u8 ((vrep 64 (0 : Int)))))), (7, (bk (eA64u8 ((vrep 64 (0 : Int)))))), (8, (bk (eA64u8 ((vrep 64 (0 : Int)))))), (9, (bk (eA64u8 x176))), (11, (bk (eA64u8 x177)))]⟩) (by kernel_rfl) (sr (vp (i6 a0) rfl (vl (eA64u8 x175) rfl rfl rfl rfl rfl rfl ?_)))
    obtain ⟨r348, hr349, h⟩ := bind_some h
    refine a_call (args := [(eA64u8 x175)]) (u := []) (r := (i6 r348)) rfl rfl (spec_l01Deg_ok x175 r348 hr349) rfl ?_
    obtain ⟨hc350, h⟩ := ifp_some h
    refine vq (.own 4 [r348.toNat] [r348.toNat * 1]) rfl hc350 ?_
    have hl351 : LdOk [r348.toNat] (eA64u8 x175) [r348.toNat * 1] 1 false (b8 (rd x175.1 r348.toNat)) := (.arr (vlt x175 hc350) rfl (.nil rfl rfl rfl))
    refine vq (b8 (rd x175.1 r348.toNat)) (ld_own (i := ⟨.int .u8, 1, 1, (.int .u8 0)⟩) rfl rfl rfl hl351) hl351.c ?_
    obtain ⟨r352, hr353, h⟩ := bind_some h
    refine a_call (args := [(i6 a0), (b8 (rd x175.1 r348.toNat))]) (u := []) (r := (b8 r352)) rfl rfl (spec_l01Inverse_ok a0 (rd x175.1 r348.toNat) r352 hr353) rfl (vp (i6 (IntKind.i64.wrap r352)) rfl (vp (i6 (IntKind.i64.wrap r352)) rfl (nx ⟨[(0, (i6 a0)), (4, (ow 4)), (6, (ow 6)), (7, (ow 7)), (8, (ow 8)), (9, (ow 9)), (11, (ow 11)), (21, (i6 (IntKind.i64.wrap r352)))], [(4, (bk (eA64u8 x175))), (6, (bk (eA64u8 ((vrep 64 (0 : Int)))))), (7, (bk (eA64u8 ((vrep 64 (0 : Int)))))), (8, (bk (eA64u8 ((vrep 64 (0 : Int)))))), (9, (bk (eA64u8 x176))), (11, (bk (eA64u8 x177)))]⟩ (by kernel_rfl) (a_seq (a_draw [⟨[], [], [], []⟩, ⟨[], [], [], []⟩, ⟨[4], [], [], []⟩, ⟨[], [], [], []⟩, ⟨[], [], [], [0, 1, 2, 3]⟩, ⟨[], [], [], []⟩, ⟨[], [], [], []⟩, ⟨[9], [], [], []⟩, ⟨[], [], [], []⟩, ⟨[], [], [], [0, 1, 2, 3, 4, 5, 6, 7, 8]⟩, ⟨[], [], [], []⟩, ⟨[], [], [], []⟩, ⟨[11], [], [], []⟩, ⟨[], [], [], []⟩, ⟨[], [], [], [0, 1, 2, 3, 4, 5, 6, 7, 8, 9, 10, 11, 12, 13]⟩, ⟨[6], [6], [], [0, 1, 2, 3, 4, 5, 6, 7, 8, 9, 10, 11, 12, 13, 14]⟩, ⟨[7], [7], [], [0, 1, 2, 3, 4, 5, 6, 7, 8, 9, 10, 11, 12, 13, 14, 15]⟩, ⟨[8], [8], [], [0, 1, 2, 3, 4, 5, 6, 7, 8, 9, 10, 11, 12, 13, 14, 15, 16]⟩] (by kernel_rfl) (dp (i6 a0) rfl (by kernel_rfl) (d_cons (vq (eA64u8 ((vrep 64 (0 : Int)))) rfl ⟨⟨_, rfl, rfl⟩, all_nil⟩ (d_next (by kernel_rfl) ?_)))))))))
    refine d_cons (vl (eA64u8 x175) rfl rfl rfl rfl rfl rfl (d_next (by kernel_rfl) (dp (i6 (IntKind.i64.wrap r352)) rfl (by kernel_rfl) (d_cons ?_))))
    obtain ⟨r367, hr368, h⟩ := bind_some h
    refine a_call (args := [(i6 a0), (eA64u8 ((vrep 64 (0 : Int)))), (eA64u8 x175), (i6 (IntKind.i64.wrap r352))]) (u := []) (r := (eA64u8 r367)) rfl rfl (spec_l01Add_ok a0 ((vrep 64 (0 : Int))) x175 (IntKind.i64.wrap r352) r367 hr368) rfl (d_next (by kernel_rfl) (dp (i6 a0) rfl (by kernel_rfl) (d_cons (vq (eA64u8 ((vrep 64 (0 : Int)))) rfl ⟨⟨_, rfl, rfl⟩, all_nil⟩ (d_next (by kernel_rfl) (d_cons (vl (eA64u8 x176) rfl rfl rfl rfl rfl rfl (d_next (by kernel_rfl) (dp (i6 (IntKind.i64.wrap r352)) rfl (by kernel_rfl) ?_)))))))))
    refine d_cons ?_
    obtain ⟨r370, hr371, h⟩ := bind_some h
    refine a_call (args := [(i6 a0), (eA64u8 ((vrep 64 (0 : Int)))), (eA64u8 x176), (i6 (IntKind.i64.wrap r352))]) (u := []) (r := (eA64u8 r370)) rfl rfl (spec_l01Add_ok a0 ((vrep 64 (0 : Int))) x176 (IntKind.i64.wrap r352) r370 hr371) rfl (d_next (by kernel_rfl) (dp (i6 a0) rfl (by kernel_rfl) (d_cons (vq (eA64u8 ((vrep 64 (0 : Int)))) rfl ⟨⟨_, rfl, rfl⟩, all_nil⟩ (d_next (by kernel_rfl) (d_cons (vl (eA64u8 x177) rfl rfl rfl rfl rfl rfl (d_next (by kernel_rfl) (dp (i6 (IntKind.i64.wrap r352)) rfl (by kernel_rfl) ?_)))))))))
    refine d_cons ?_
    obtain ⟨r373, hr374, h⟩ := bind_some h
    refine a_call (args := [(i6 a0), (eA64u8 ((vrep 64 (0 : Int)))), (eA64u8 x177), (i6 (IntKind.i64.wrap r352))]) (u := []) (r := (eA64u8 r373)) rfl rfl (spec_l01Add_ok a0 ((vrep 64 (0 : Int))) x177 (IntKind.i64.wrap r352) r373 hr374) rfl (d_next (by kernel_rfl) (d_cons (vs (eA64u8 r367) rfl rfl (fun _ => rfl) rfl rfl rfl rfl rfl rfl (d_next (by kernel_rfl) (d_cons (vs (eA64u8 r370) rfl rfl (fun _ => rfl) rfl rfl rfl rfl rfl rfl (d_next (by kernel_rfl) (d_cons (vs (eA64u8 r373) rfl rfl (fun _ => rfl) rfl rfl rfl rfl rfl rfl ?_)))))))))
    refine d_next (by kernel_rfl) (d_nil (a_next rfl (a_ret ?_)))
    have hl378 : LdOk [] (eA64u8 r367) [] 64 true (eA64u8 r367) := (.nil rfl rfl rfl)
    have hl379 : LdOk [] (eA64u8 r370) [] 64 true (eA64u8 r370) := (.nil rfl rfl rfl)
    have hl380 : LdOk [] (eA64u8 r373) [] 64 true (eA64u8 r373) := (.nil rfl rfl rfl)
    refine ⟨.inr rfl, ?_⟩
    rw [Try.results204]
    cases h
    exact ⟨_, _, _, _, _, ld_own (i := ⟨.arr 64 5, 64, 64, (eA64u8 (vrep 64 (0 : Int)))⟩) rfl rfl rfl hl378, hl378.c, .inl ⟨rfl, .inl rfl⟩, rfl, ⟨_, _, _, _, _, ld_own (i := ⟨.arr 64 5, 64, 64, (eA64u8 (vrep 64 (0 : Int)))⟩) rfl rfl rfl hl379, hl379.c, .inl ⟨rfl, .inl rfl⟩, rfl, ⟨_, _, _, _, _, ld_own (i := ⟨.arr 64 5, 64, 64, (eA64u8 (vrep 64 (0 : Int)))⟩) rfl rfl rfl hl380, hl380.c, .inl ⟨rfl, .inl rfl⟩, rfl, rfl⟩⟩⟩
  · have h := hy179
    refine a_block ?_
    refine a_loop (emb := fun (s : ((Vec Int 64) × (Vec Int 64) × (Vec Int 64) × (Vec Int 64) × (Vec Int 64) × (Vec Int 64))) => ⟨[(0, (i6 a0)), (4, (ow 4)), (5, (ow 5)), (6, (ow 6)), (7, (ow 7)), (8, (ow 8)), (9, (ow 9)), (10, (ow 10)), (11, (ow 11)), (12, (ow 12))], [(4, (bk (eA64u8 s.1))), (5, (bk (eA64u8 s.2.1))), (6, (bk (eA64u8 ((vrep 64 (0 : Int)))))), (7, (bk (eA64u8 ((vrep 64 (0 : Int)))))), (8, (bk (eA64u8 ((vrep 64 (0 : Int)))))), (9, (bk (eA64u8 s.2.2.1))), (10, (bk (eA64u8 s.2.2.2.1))), (11, (bk (eA64u8 s.2.2.2.2.1))), (12, (bk (eA64u8 s.2.2.2.2.2)))]⟩) (body := (fun s : ((Vec Int 64) × (Vec Int 64) × (Vec Int 64) × (Vec Int 64) × (Vec Int 64) × (Vec Int 64)) => spec_l01Bezout_l1 a0 s.1 s.2.1 s.2.2.1 s.2.2.2.1 s.2.2.2.2.1 s.2.2.2.2.2)) (G := fun q => some q = some y178) h rfl ?_ (by kernel_rfl)
    rintro X291 ⟨x233, x234, x235, x236, x237, x238⟩ x292 h hX293
    have h : spec_l01Bezout_l1 a0 x233 x234 x235 x236 x237 x238 = some x292 := h
    refine a_st (σ' := ⟨[(0, (i6 a0)), (4, (ow 4)), (5, (ow 5)), (6, (ow 6)), (7, (ow 7)), (8, (ow 8)), (9, (ow 9)), (10, (ow 10)), (11, (ow 11)), (12, (ow 12))], [(4, (bk (eA64u8 x233))), (5, (bk (eA64u8 x234))), (6, (bk (eA64u8 ((vrep 64 (0 : Int)))))), (7, (bk (eA64u8 ((vrep 64 (0 : Int)))))), (8, (bk (eA64u8 ((vrep 64 (0 : Int)))))), (9, (bk (eA64u8 x235))), (10, (bk (eA64u8 x236))), (11, (bk (eA64u8 x237))), (12, (bk (eA64u8 x238)))]⟩) (by kernel_rfl) (a_seq (sr (vl (eA64u8 x234) rfl rfl rfl rfl rfl rfl ?_)))
    obtain ⟨r295, hr296, h⟩ := bind_some h
    refine a_call (args := [(eA64u8 x234)]) (u := []) (r := (i6 r295)) rfl rfl (spec_l01Deg_ok x234 r295 hr296) rfl (vp (.bool ((decide (r295 ≥ 0)))) rfl (nx ⟨[(0, (i6 a0)), (4, (ow 4)), (5, (ow 5)), (6, (ow 6)), (7, (ow 7)), (8, (ow 8)), (9, (ow 9)), (10, (ow 10)), (11, (ow 11)), (12, (ow 12)), (28, (.bool ((decide (r295 ≥ 0)))))], [(4, (bk (eA64u8 x233))), (5, (bk (eA64u8 x234))), (6, (bk (eA64u8 ((vrep 64 (0 : Int)))))), (7, (bk (eA64u8 ((vrep 64 (0 : Int)))))), (8, (bk (eA64u8 ((vrep 64 (0 : Int)))))), (9, (bk (eA64u8 x235))), (10, (bk (eA64u8 x236))), (11, (bk (eA64u8 x237))), (12, (bk (eA64u8 x238)))]⟩ (by kernel_rfl) ?_))
    cases hb297 : (decide (r295 ≥ 0))
    · have h := ite_f hb297 h
      refine a_cond_f rfl (a_exit (t_exit ?_))
      cases h
      have h := hX293
      refine t_exit (b_exit ?_)
      exact j_leaf (x233, x235, x237) (Option.some.inj h) (by kernel_rfl)
    · have h := ite_t hb297 h
      refine a_cond_t rfl (a_skip (a_next (σ' := ⟨[(0, (i6 a0)), (4, (ow 4)), (5, (ow 5)), (6, (ow 6)), (7, (ow 7)), (8, (ow 8)), (9, (ow 9)), (10, (ow 10)), (11, (ow 11)), (12, (ow 12))], [(4, (bk (eA64u8 x233))), (5, (bk (eA64u8 x234))), (6, (bk (eA64u8 ((vrep 64 (0 : Int)))))), (7, (bk (eA64u8 ((vrep 64 (0 : Int)))))), (8, (bk (eA64u8 ((vrep 64 (0 : Int)))))), (9, (bk (eA64u8 x235))), (10, (bk (eA64u8 x236))), (11, (bk (eA64u8 x237))), (12, (bk (eA64u8 x238)))]⟩) (by kernel_rfl) (a_block (sr (vp (i6 a0) rfl (vl (eA64u8 x233) rfl rfl rfl rfl rfl rfl (vl (eA64u8 x234) rfl rfl rfl rfl rfl rfl ?_)))))))
      obtain ⟨r300, hr301, h⟩ := bind_some h
      refine a_call (args := [(i6 a0), (eA64u8 x233), (eA64u8 x234)]) (u := []) (r := (.tuple [(eA64u8 r300.1), (eA64u8 r300.2)])) rfl rfl (spec_l01Divide_ok a0 x233 x234 r300 hr301) rfl (vp (.tuple [(eA64u8 r300.1), (eA64u8 r300.2)]) rfl (vb (eA64u8 r300.1) rfl rfl (vb (eA64u8 r300.2) rfl rfl (vo 2300 (eA64u8 ((vrep 64 (0 : Int)))) rfl rfl (vo 2400 (eA64u8 ((vrep 64 (0 : Int)))) rfl rfl (vs (eA64u8 r300.1) rfl rfl (fun _ => rfl) rfl rfl rfl rfl rfl rfl (vs (eA64u8 r300.2) rfl rfl (fun _ => rfl) rfl rfl rfl rfl rfl rfl (nx ⟨[(0, (i6 a0)), (4, (ow 4)), (5, (ow 5)), (6, (ow 6)), (7, (ow 7)), (8, (ow 8)), (9, (ow 9)), (10, (ow 10)), (11, (ow 11)), (12, (ow 12)), (13, (ow 13)), (14, (ow 14))], [(4, (bk (eA64u8 x233))), (5, (bk (eA64u8 x234))), (6, (bk (eA64u8 ((vrep 64 (0 : Int)))))), (7, (bk (eA64u8 ((vrep 64 (0 : Int)))))), (8, (bk (eA64u8 ((vrep 64 (0 : Int)))))), (9, (bk (eA64u8 x235))), (10, (bk (eA64u8 x236))), (11, (bk (eA64u8 x237))), (12, (bk (eA64u8 x238))), (13, (bk (eA64u8 r300.1))), (14, (bk (eA64u8 r300.2)))]⟩ (by kernel_rfl) (sr ?_)))))))))
      refine vp (i6 a0) rfl (vl (eA64u8 r300.1) rfl rfl rfl rfl rfl rfl (vl (eA64u8 x236) rfl rfl rfl rfl rfl rfl ?_))
      obtain ⟨r306, hr307, h⟩ := bind_some h
      refine a_call (args := [(i6 a0), (eA64u8 r300.1), (eA64u8 x236)]) (u := []) (r := (.tuple [(eA64u8 r306.1), (.bool r306.2)])) rfl rfl (spec_l01Times_ok a0 r300.1 x236 r306 hr307) rfl (vp (.tuple [(eA64u8 r306.1), (.bool r306.2)]) rfl (vb (eA64u8 r306.1) rfl rfl (vb (.bool r306.2) rfl rfl (vo 2500 (eA64u8 ((vrep 64 (0 : Int)))) rfl rfl (vs (eA64u8 r306.1) rfl rfl (fun _ => rfl) rfl rfl rfl rfl rfl rfl (vp (.bool r306.2) rfl (nx ⟨[(0, (i6 a0)), (4, (ow 4)), (5, (ow 5)), (6, (ow 6)), (7, (ow 7)), (8, (ow 8)), (9, (ow 9)), (10, (ow 10)), (11, (ow 11)), (12, (ow 12)), (13, (ow 13)), (14, (ow 14)), (15, (ow 15))], [(4, (bk (eA64u8 x233))), (5, (bk (eA64u8 x234))), (6, (bk (eA64u8 ((vrep 64 (0 : Int)))))), (7, (bk (eA64u8 ((vrep 64 (0 : Int)))))), (8, (bk (eA64u8 ((vrep 64 (0 : Int)))))), (9, (bk (eA64u8 x235))), (10, (bk (eA64u8 x236))), (11, (bk (eA64u8 x237))), (12, (bk (eA64u8 x238))), (13, (bk (eA64u8 r300.1))), (14, (bk (eA64u8 r300.2))), (15, (bk (eA64u8 r306.1)))]⟩ (by kernel_rfl) (sr (vp (i6 a0) rfl ?_)))))))))
      refine vl (eA64u8 r300.1) rfl rfl rfl rfl rfl rfl (vl (eA64u8 x238) rfl rfl rfl rfl rfl rfl ?_)
      obtain ⟨r311, hr312, h⟩ := bind_some h
      refine a_call (args := [(i6 a0), (eA64u8 r300.1), (eA64u8 x238)]) (u := []) (r := (.tuple [(eA64u8 r311.1), (.bool r311.2)])) rfl rfl (spec_l01Times_ok a0 r300.1 x238 r311 hr312) rfl (vp (.tuple [(eA64u8 r311.1), (.bool r311.2)]) rfl (vb (eA64u8 r311.1) rfl rfl (vb (.bool r311.2) rfl rfl (vo 2700 (eA64u8 ((vrep 64 (0 : Int)))) rfl rfl (vs (eA64u8 r311.1) rfl rfl (fun _ => rfl) rfl rfl rfl rfl rfl rfl (vp (.bool r311.2) rfl (nx ⟨[(0, (i6 a0)), (4, (ow 4)), (5, (ow 5)), (6, (ow 6)), (7, (ow 7)), (8, (ow 8)), (9, (ow 9)), (10, (ow 10)), (11, (ow 11)), (12, (ow 12)), (14, (ow 14)), (15, (ow 15)), (17, (ow 17))], [(4, (bk (eA64u8 x233))), (5, (bk (eA64u8 x234))), (6, (bk (eA64u8 ((vrep 64 (0 : Int)))))), (7, (bk (eA64u8 ((vrep 64 (0 : Int)))))), (8, (bk (eA64u8 ((vrep 64 (0 : Int)))))), (9, (bk (eA64u8 x235))), (10, (bk (eA64u8 x236))), (11, (bk (eA64u8 x237))), (12, (bk (eA64u8 x238))), (14, (bk (eA64u8 r300.2))), (15, (bk (eA64u8 r306.1))), (17, (bk (eA64u8 r311.1)))]⟩ (by kernel_rfl) (a_seq (a_draw [⟨[], [], [], []⟩, ⟨[9], [], [], []⟩, ⟨[15], [], [], []⟩, ⟨[], [], [], [0, 1, 2]⟩, ⟨[], [], [], []⟩, ⟨[11], [], [], []⟩, ⟨[17], [], [], []⟩, ⟨[], [], [], [0, 1, 2, 3, 4, 5, 6]⟩, ⟨[2900], [2900], [2900], []⟩, ⟨[3000], [3000], [3000], []⟩, ⟨[2900], [2900], [], [0, 1, 2, 3, 4, 5, 6, 7, 8, 9]⟩, ⟨[3000], [3000], [], [0, 1, 2, 3, 4, 5, 6, 7, 8, 9, 10]⟩] (by kernel_rfl) ?_)))))))))
      refine dp (i6 a0) rfl (by kernel_rfl) (d_cons (vl (eA64u8 x235) rfl rfl rfl rfl rfl rfl (d_next (by kernel_rfl) (d_cons (vl (eA64u8 r306.1) rfl rfl rfl rfl rfl rfl (d_next (by kernel_rfl) (d_cons ?_)))))))
      obtain ⟨r326, hr327, h⟩ := bind_some h
      refine a_call (args := [(i6 a0), (eA64u8 x235), (eA64u8 r306.1), (i6 (-1))]) (u := []) (r := (eA64u8 r326)) rfl rfl (spec_l01Add_ok a0 x235 r306.1 (-1) r326 hr327) rfl (d_next (by kernel_rfl) (dp (i6 a0) rfl (by kernel_rfl) (d_cons (vl (eA64u8 x237) rfl rfl rfl rfl rfl rfl (d_next (by kernel_rfl) (d_cons (vl (eA64u8 r311.1) rfl rfl rfl rfl rfl rfl (d_next (by kernel_rfl) (d_cons ?_)))))))))
      obtain ⟨r330, hr331, h⟩ := bind_some h
      refine a_call (args := [(i6 a0), (eA64u8 x237), (eA64u8 r311.1), (i6 (-1))]) (u := []) (r := (eA64u8 r330)) rfl rfl (spec_l01Add_ok a0 x237 r311.1 (-1) r330 hr331) rfl (d_next (by kernel_rfl) (d_cons (vo 2900 (eA64u8 ((vrep 64 (0 : Int)))) rfl rfl (d_next (by kernel_rfl) (d_cons (vo 3000 (eA64u8 ((vrep 64 (0 : Int)))) rfl rfl (d_next (by kernel_rfl) (d_cons (vs (eA64u8 r326) rfl rfl (fun _ => rfl) rfl rfl rfl rfl rfl rfl ?_)))))))))
      refine d_next (by kernel_rfl) (d_cons (vs (eA64u8 r330) rfl rfl (fun _ => rfl) rfl rfl rfl rfl rfl rfl (d_next (by kernel_rfl) (d_nil (a_next (σ' := ⟨[(0, (i6 a0)), (4, (ow 4)), (5, (ow 5)), (6, (ow 6)), (7, (ow 7)), (8, (ow 8)), (9, (ow 9)), (10, (ow 10)), (11, (ow 11)), (12, (ow 12)), (14, (ow 14)), (19, (ow 19)), (20, (ow 20))], [(4, (bk (eA64u8 x233))), (5, (bk (eA64u8 x234))), (6, (bk (eA64u8 ((vrep 64 (0 : Int)))))), (7, (bk (eA64u8 ((vrep 64 (0 : Int)))))), (8, (bk (eA64u8 ((vrep 64 (0 : Int)))))), (9, (bk (eA64u8 x235))), (10, (bk (eA64u8 x236))), (11, (bk (eA64u8 x237))), (12, (bk (eA64u8 x238))), (14, (bk (eA64u8 r300.2))), (19, (bk (eA64u8 r326))), (20, (bk (eA64u8 r330)))]⟩) (by kernel_rfl) (sr (vl (eA64u8 x234) rfl rfl rfl rfl rfl rfl (vs (eA64u8 x234) rfl rfl (fun _ => rfl) rfl rfl rfl rfl rfl rfl (nx ⟨[(0, (i6 a0)), (4, (ow 4)), (5, (ow 5)), (6, (ow 6)), (7, (ow 7)), (8, (ow 8)), (9, (ow 9)), (10, (ow 10)), (11, (ow 11)), (12, (ow 12)), (14, (ow 14)), (19, (ow 19)), (20, (ow 20))], [(4, (bk (eA64u8 x234))), (5, (bk (eA64u8 x234))), (6, (bk (eA64u8 ((vrep 64 (0 : Int)))))), (7, (bk (eA64u8 ((vrep 64 (0 : Int)))))), (8, (bk (eA64u8 ((vrep 64 (0 : Int)))))), (9, (bk (eA64u8 x235))), (10, (bk (eA64u8 x236))), (11, (bk (eA64u8 x237))), (12, (bk (eA64u8 x238))), (14, (bk (eA64u8 r300.2))), (19, (bk (eA64u8 r326))), (20, (bk (eA64u8 r330)))]⟩ (by kernel_rfl) ?_)))))))))
      refine sr (vl (eA64u8 r300.2) rfl rfl rfl rfl rfl rfl (vs (eA64u8 r300.2) rfl rfl (fun _ => rfl) rfl rfl rfl rfl rfl rfl (nx ⟨[(0, (i6 a0)), (4, (ow 4)), (5, (ow 5)), (6, (ow 6)), (7, (ow 7)), (8, (ow 8)), (9, (ow 9)), (10, (ow 10)), (11, (ow 11)), (12, (ow 12)), (19, (ow 19)), (20, (ow 20))], [(4, (bk (eA64u8 x234))), (5, (bk (eA64u8 r300.2))), (6, (bk (eA64u8 ((vrep 64 (0 : Int)))))), (7, (bk (eA64u8 ((vrep 64 (0 : Int)))))), (8, (bk (eA64u8 ((vrep 64 (0 : Int)))))), (9, (bk (eA64u8 x235))), (10, (bk (eA64u8 x236))), (11, (bk (eA64u8 x237))), (12, (bk (eA64u8 x238))), (19, (bk (eA64u8 r326))), (20, (bk (eA64u8 r330)))]⟩ (by kernel_rfl) (sr (vl (eA64u8 x236) rfl rfl rfl rfl rfl rfl (vs (eA64u8 x236) rfl rfl (fun _ => rfl) rfl rfl rfl rfl rfl rfl (nx ⟨[(0, (i6 a0)), (4, (ow 4)), (5, (ow 5)), (6, (ow 6)), (7, (ow 7)), (8, (ow 8)), (9, (ow 9)), (10, (ow 10)), (11, (ow 11)), (12, (ow 12)), (19, (ow 19)), (20, (ow 20))], [(4, (bk (eA64u8 x234))), (5, (bk (eA64u8 r300.2))), (6, (bk (eA64u8 ((vrep 64 (0 : Int)))))), (7, (bk (eA64u8 ((vrep 64 (0 : Int)))))), (8, (bk (eA64u8 ((vrep 64 (0 : Int)))))), (9, (bk (eA64u8 x236))), (10, (bk (eA64u8 x236))), (11, (bk (eA64u8 x237))), (12, (bk (eA64u8 x238))), (19, (bk (eA64u8 r326))), (20, (bk (eA64u8 r330)))]⟩ (by kernel_rfl) (sr (vl (eA64u8 x238) rfl rfl rfl rfl rfl rfl ?_)))))))))
      refine vs (eA64u8 x238) rfl rfl (fun _ => rfl) rfl rfl rfl rfl rfl rfl (nx ⟨[(0, (i6 a0)), (4, (ow 4)), (5, (ow 5)), (6, (ow 6)), (7, (ow 7)), (8, (ow 8)), (9, (ow 9)), (10, (ow 10)), (11, (ow 11)), (12, (ow 12)), (19, (ow 19)), (20, (ow 20))], [(4, (bk (eA64u8 x234))), (5, (bk (eA64u8 r300.2))), (6, (bk (eA64u8 ((vrep 64 (0 : Int)))))), (7, (bk (eA64u8 ((vrep 64 (0 : Int)))))), (8, (bk (eA64u8 ((vrep 64 (0 : Int)))))), (9, (bk (eA64u8 x236))), (10, (bk (eA64u8 x236))), (11, (bk (eA64u8 x238))), (12, (bk (eA64u8 x238))), (19, (bk (eA64u8 r326))), (20, (bk (eA64u8 r330)))]⟩ (by kernel_rfl) (sr (vl (eA64u8 r326) rfl rfl rfl rfl rfl rfl (vs (eA64u8 r326) rfl rfl (fun _ => rfl) rfl rfl rfl rfl rfl rfl (nx ⟨[(0, (i6 a0)), (4, (ow 4)), (5, (ow 5)), (6, (ow 6)), (7, (ow 7)), (8, (ow 8)), (9, (ow 9)), (10, (ow 10)), (11, (ow 11)), (12, (ow 12)), (20, (ow 20))], [(4, (bk (eA64u8 x234))), (5, (bk (eA64u8 r300.2))), (6, (bk (eA64u8 ((vrep 64 (0 : Int)))))), (7, (bk (eA64u8 ((vrep 64 (0 : Int)))))), (8, (bk (eA64u8 ((vrep 64 (0 : Int)))))), (9, (bk (eA64u8 x236))), (10, (bk (eA64u8 r326))), (11, (bk (eA64u8 x238))), (12, (bk (eA64u8 x238))), (20, (bk (eA64u8 r330)))]⟩ (by kernel_rfl) (a_region (vl (eA64u8 r330) rfl rfl rfl rfl rfl rfl (vs (eA64u8 r330) rfl rfl (fun _ => rfl) rfl rfl rfl rfl rfl rfl (a_nil ?_)))))))))
      refine b_norm ?_
      cases h
      exact a_again (by kernel_rfl) hX293
def spec_l01Gcd_c : ACode := (.seq (.region 0 [q 4 (.box 25 (t 1)), q 5 (.box 25 (t 2)), q 6 (.alloc 25)] false) (.seq (.seq (.region 1 [q 10 (.load 25 (t 4)), q 11 (.call 0 (.func 112) [(t 10)]), q 12 (.bin .lss 2 (t 11) (.const (.int .i64 0))), q 13 (.mov (t 12)), ⟨some 14, .load 25 (t 5), some (13, true), []⟩, ⟨some 15, .call 0 (.func 112) [(t 14)], some (13, true), []⟩, ⟨some 16, .bin .lss 2 (t 15) (.const (.int .i64 0)), some (13, true), []⟩, q 17 (.pick (t 13) (t 16) (.const (.bool false)))] false) (.cond (t 17) (.seq (.region 2 [q 18 (.build 25 []), ⟨none, .store 25 (t 6) (t 18), none, []⟩] false) .ret) .skip)) (.seq (.region 3 [q 20 (.mov (t 0)), q 21 (.load 25 (t 4)), q 22 (.load 25 (t 5)), q 23 (.call 0 (.func 204) [(t 20), (t 21), (t 22)]), q 19 (.mov (t 23)), q 24 (.extract (t 19) 0), q 25 (.extract (t 19) 1), q 26 (.extract (t 19) 2), q 7 (.alloc 25), q 8 (.alloc 25), q 9 (.alloc 25), ⟨none, .store 25 (t 7) (t 24), none, []⟩, ⟨none, .store 25 (t 8) (t 25), none, []⟩, ⟨none, .store 25 (t 9) (t 26), none, []⟩] false) (.seq (.region 4 [q 27 (.load 25 (t 7)), ⟨none, .store 25 (t 6) (t 27), none, []⟩] false) .ret))))
def spec_l01Gcd_L : Live := [(0, [0, 1, 2]), (1, [0, 4, 5, 6]), (2, [6]), (3, [0, 4, 5, 6]), (4, [6, 7]), (100017, [0, 4, 5, 6, 17])]
noncomputable def spec_l01Gcd (a0 : Int) (a1 : (Vec Int 64)) (a2 : (Vec Int 64)) : Option (Vec Int 64) :=
  (Option.bind (α := Bool) ((Option.bind (spec_l01Deg a1) fun r13 => (if (decide (r13 < 0)) then (Option.bind (spec_l01Deg a2) fun r17 => (some ((decide (r17 < 0))))) else (some false)))) fun x8 => (if x8 then (some ((vrep 64 (0 : Int)))) else (Option.bind (spec_l01Bezout a0 a1 a2) fun r22 => (some r22.1))))
theorem spec_l01Gcd_ok (a0 : Int) (a1 : (Vec Int 64)) (a2 : (Vec Int 64)) (r : (Vec Int 64)) (h : spec_l01Gcd a0 a1 a2 = some r) : Den Try.prog 192 [(i6 a0), (eA64u8 a1), (eA64u8 a2)] { r := (eA64u8 r) } := by
  refine den_of (rs := [(eA64u8 r)]) (ac := spec_l01Gcd_c) (L := spec_l01Gcd_L) (n := 28) (m := []) (c := Try.f192.body.getD .skip) good Try.func192 (by kernel_rfl) (by kernel_rfl) Try.ntmps192 rfl rfl (by kernel_rfl) rfl rfl ?_
  refine a_st (σ' := ⟨[(0, (i6 a0)), (1, (eA64u8 a1)), (2, (eA64u8 a2))], []⟩) (by kernel_rfl) ?_
  unfold spec_l01Gcd_c
  refine sr (vo 1400 (eA64u8 a1) rfl rfl (vo 1500 (eA64u8 a2) rfl rfl (vo 1600 (eA64u8 ((vrep 64 (0 : Int)))) rfl rfl (nx ⟨[(0, (i6 a0)), (4, (ow 4)), (5, (ow 5)), (6, (ow 6))], [(4, (bk (eA64u8 a1))), (5, (bk (eA64u8 a2))), (6, (bk (eA64u8 ((vrep 64 (0 : Int))))))]⟩ (by kernel_rfl) (a_seq ?_)))))
  obtain ⟨y9, hy10, hk11⟩ := bind_some h
  clear h
  refine a_join (emb := fun (s : Bool) => ⟨[(0, (i6 a0)), (4, (ow 4)), (5, (ow 5)), (6, (ow 6)), (17, (.bool s))], [(4, (bk (eA64u8 a1))), (5, (bk (eA64u8 a2))), (6, (bk (eA64u8 ((vrep 64 (0 : Int))))))]⟩) (pre := fun s => s = y9) ?_ ?_
  · rintro x8 rfl
    have h := hk11
    refine a_st (σ' := ⟨[(0, (i6 a0)), (4, (ow 4)), (5, (ow 5)), (6, (ow 6)), (17, (.bool x8))], [(4, (bk (eA64u8 a1))), (5, (bk (eA64u8 a2))), (6, (bk (eA64u8 ((vrep 64 (0 : Int))))))]⟩) (by kernel_rfl) ?_
    cases hb19 : x8
    · have h := ite_f hb19 h
      refine a_cond_f rfl (a_skip (a_next (σ' := ⟨[(0, (i6 a0)), (4, (ow 4)), (5, (ow 5)), (6, (ow 6))], [(4, (bk (eA64u8 a1))), (5, (bk (eA64u8 a2))), (6, (bk (eA64u8 ((vrep 64 (0 : Int))))))]⟩) (by kernel_rfl) (sr (vp (i6 a0) rfl (vl (eA64u8 a1) rfl rfl rfl rfl rfl rfl (vl (eA64u8 a2) rfl rfl rfl rfl rfl rfl ?_))))))
      obtain ⟨r22, hr23, h⟩ := bind_some h
      refine a_call (args := [(i6 a0), (eA64u8 a1), (eA64u8 a2)]) (u := []) (r := (.tuple [(eA64u8 r22.1), (eA64u8 r22.2.1), (eA64u8 r22.2.2)])) rfl rfl (spec_l01Bezout_ok a0 a1 a2 r22 hr23) rfl (vp (.tuple [(eA64u8 r22.1), (eA64u8 r22.2.1), (eA64u8 r22.2.2)]) rfl (vb (eA64u8 r22.1) rfl rfl (vb (eA64u8 r22.2.1) rfl rfl (vb (eA64u8 r22.2.2) rfl rfl (vo 1700 (eA64u8 ((vrep 64 (0 : Int)))) rfl rfl (vo 1800 (eA64u8 ((vrep 64 (0 : Int)))) rfl rfl (vo 1900 (eA64u8 ((vrep 64 (0 : Int)))) rfl rfl (vs (eA64u8 r22.1) rfl rfl (fun _ => rfl) rfl rfl rfl rfl rfl rfl (vs (eA64u8 r22.2.1) rfl rfl (fun _ => rfl) rfl rfl rfl rfl rfl rfl ?_)))))))))
      refine vs (eA64u8 r22.2.2) rfl rfl (fun _ => rfl) rfl rfl rfl rfl rfl rfl (nx ⟨[(6, (ow 6)), (7, (ow 7))], [(6, (bk (eA64u8 ((vrep 64 (0 : Int)))))), (7, (bk (eA64u8 r22.1)))]⟩ (by kernel_rfl) (sr (vl (eA64u8 r22.1) rfl rfl rfl rfl rfl rfl (vs (eA64u8 r22.1) rfl rfl (fun _ => rfl) rfl rfl rfl rfl rfl rfl (nx _ rfl (a_ret ?_))))))
      have hl29 : LdOk [] (eA64u8 r22.1) [] 64 true (eA64u8 r22.1) := (.nil rfl rfl rfl)
      refine ⟨.inr rfl, ?_⟩
      rw [Try.results192]
      cases h
      exact ⟨_, _, _, _, _, ld_own (i := ⟨.arr 64 5, 64, 64, (eA64u8 (vrep 64 (0 : Int)))⟩) rfl rfl rfl hl29, hl29.c, .inl ⟨rfl, .inl rfl⟩, rfl, rfl⟩
    · have h := ite_t hb19 h
      refine a_cond_t rfl (sr (vq (eA64u8 ((vrep 64 (0 : Int)))) rfl ⟨⟨_, rfl, rfl⟩, all_nil⟩ (vs (eA64u8 ((vrep 64 (0 : Int)))) rfl rfl (fun _ => rfl) rfl rfl rfl rfl rfl rfl (nx _ rfl (a_ret (t_ret ?_))))))
      have hl31 : LdOk [] (eA64u8 ((vrep 64 (0 : Int)))) [] 64 true (eA64u8 ((vrep 64 (0 : Int)))) := (.nil rfl rfl rfl)
      refine ⟨.inr rfl, ?_⟩
      rw [Try.results192]
      cases h
      exact ⟨_, _, _, _, _, ld_own (i := ⟨.arr 64 5, 64, 64, (eA64u8 (vrep 64 (0 : Int)))⟩) rfl rfl rfl hl31, hl31.c, .inl ⟨rfl, .inl rfl⟩, rfl, rfl⟩
  · have h := hy10
    refine a_region (vl (eA64u8 a1) rfl rfl rfl rfl rfl rfl ?_)
    obtain ⟨r13, hr14, h⟩ := bind_some h
    refine a_call (args := [(eA64u8 a1)]) (u := []) (r := (i6 r13)) rfl rfl (spec_l01Deg_ok a1 r13 hr14) rfl (vp (.bool ((decide (r13 < 0)))) rfl (vp (.bool ((decide (r13 < 0)))) rfl ?_))
    cases hb15 : (decide (r13 < 0))
    · have h := ite_f hb15 h
      refine a_gskip rfl (a_gskip rfl (a_gskip rfl (vp (.bool false) rfl (a_nil ?_))))
      exact j_leaf false (Option.some.inj h) (by kernel_rfl)
    · have h := ite_t hb15 h
      have hl16 : LdOk [] (eA64u8 a2) [] 64 true (eA64u8 a2) := (.nil rfl rfl rfl)
      refine gq (eA64u8 a2) rfl (ld_own (i := ⟨.arr 64 5, 64, 64, (eA64u8 (vrep 64 (0 : Int)))⟩) rfl rfl rfl hl16) hl16.c ?_
      obtain ⟨r17, hr18, h⟩ := bind_some h
      refine a_gcall rfl (args := [(eA64u8 a2)]) (u := []) (r := (i6 r17)) rfl rfl (spec_l01Deg_ok a2 r17 hr18) rfl (gp (.bool ((decide (r17 < 0)))) rfl rfl (vp (.bool ((decide (r17 < 0)))) rfl (a_nil ?_)))
      exact j_leaf ((decide (r17 < 0))) (Option.some.inj h) (by kernel_rfl)
end Go.Proofs.Ytkbnegemdlnncaa
