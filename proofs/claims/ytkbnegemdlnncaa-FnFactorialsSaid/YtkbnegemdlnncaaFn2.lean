/- Functions of the program: plain Lean functions, and that the program computes them. Printed by gen.py. -/
import Derived.Test.YtkbnegemdlnncaaFnT
import Derived.Test.YtkbnegemdlnncaaFn1
namespace Go.Proofs.Ytkbnegemdlnncaa
open Go.Abs Go.Proofs
set_option linter.unusedSimpArgs false
set_option linter.unusedVariables false
set_option maxHeartbeats 16000000
attribute [local irreducible] Abs.acode Abs.aops Abs.aopsT Abs.thenK Abs.blockK

def spec_l01Deg_c : ACode := (.seq (.region 0 [q 1 (.box 25 (t 0)), q 2 (.asg 0 (.const (.int .i64 0)) 2)] false) (.seq (.region 1 [q 3 (.asg 0 (.const (.int .i64 63)) 2)] false) (.seq (.block 0 (.loop (.seq (.seq (.region 2 [q 4 (.mov (t 3)), q 5 (.bin .geq 2 (t 4) (.const (.int .i64 0))), q 6 (.mov (t 5)), ⟨some 7, .mov (t 3), some (6, true), []⟩, ⟨some 8, .indexAddr 25 (t 1) (t 7), some (6, true), []⟩, ⟨some 9, .load 5 (t 8), some (6, true), []⟩, ⟨some 10, .bin .eql 5 (t 9) (.const (.int .u8 0)), some (6, true), []⟩, q 11 (.pick (t 6) (t 10) (.const (.bool false)))] false) (.cond (t 11) .skip (.exit 0))) (.block 1 (.region 3 [q 12 (.mov (t 3)), q 13 (.bin .sub 2 (t 12) (.const (.int .i64 1))), q 3 (.asg 0 (t 13) 2)] false))))) (.seq (.region 4 [q 14 (.mov (t 3)), q 2 (.asg 0 (t 14) 2)] false) .ret))))
def spec_l01Deg_L : Live := [(0, [0]), (1, [1]), (2, [1, 3]), (3, [1, 3]), (4, [3]), (100011, [1, 3, 11])]
noncomputable def spec_l01Deg_l1 (a0 : (Vec Int 64)) (x54 : Int) : Option (Int ⊕ Int) :=
  (Option.bind (α := Bool) ((if (decide (x54 ≥ 0)) then (ifp (0 ≤ x54 ∧ x54 < ((64 : Nat) : Int)) ((some (((rd a0.1 x54.toNat) == 0))))) else (some false))) fun x72 => (if x72 then (some (.inl (IntKind.i64.wrap (x54 - 1)))) else (some (.inr x54))))
noncomputable def spec_l01Deg (a0 : (Vec Int 64)) : Option Int :=
  (Option.bind (α := Int) ((loopM (fun s : Int => spec_l01Deg_l1 a0 s) 63)) fun x39 => (some x39))
theorem spec_l01Deg_ok (a0 : (Vec Int 64)) (r : Int) (h : spec_l01Deg a0 = some r) : Den Try.prog 112 [(eA64u8 a0)] { r := (i6 r) } := by
  refine den_of (rs := [(i6 r)]) (ac := spec_l01Deg_c) (L := spec_l01Deg_L) (n := 15) (m := []) (c := Try.f112.body.getD .skip) good Try.func112 (by kernel_rfl) (by kernel_rfl) Try.ntmps112 rfl rfl (by kernel_rfl) rfl rfl ?_
  refine a_st (σ' := ⟨[(0, (eA64u8 a0))], []⟩) (by kernel_rfl) ?_
  unfold spec_l01Deg_c
  refine sr (vo 1100 (eA64u8 a0) rfl rfl (vp (i6 0) rfl (nx ⟨[(1, (ow 1))], [(1, (bk (eA64u8 a0)))]⟩ (by kernel_rfl) (sr (vp (i6 63) rfl (nx ⟨[(1, (ow 1)), (3, (i6 63))], [(1, (bk (eA64u8 a0)))]⟩ (by kernel_rfl) ?_))))))
  obtain ⟨y40, hy41, hk42⟩ := bind_some h
  clear h
  refine a_join (emb := fun (s : Int) => ⟨[(3, (i6 s))], []⟩) (pre := fun s => s = y40) ?_ ?_
  · rintro x39 rfl
    have h := hk42
    refine a_st (σ' := ⟨[(3, (i6 x39))], []⟩) (by kernel_rfl) (sr (vp (i6 x39) rfl (vp (i6 x39) rfl (nx _ rfl (a_ret ?_)))))
    refine ⟨.inr rfl, ?_⟩
    rw [Try.results112]
    cases h
    exact ⟨_, _, _, _, _, rfl, trivial, .inl ⟨rfl, .inl rfl⟩, rfl, rfl⟩
  · have h := hy41
    refine a_block ?_
    refine a_loop (emb := fun (s : Int) => ⟨[(1, (ow 1)), (3, (i6 s))], [(1, (bk (eA64u8 a0)))]⟩) (body := (fun s : Int => spec_l01Deg_l1 a0 s)) (G := fun q => some q = some y40) h rfl ?_ (by kernel_rfl)
    rintro X66 x54 x67 h hX68
    have h : spec_l01Deg_l1 a0 x54 = some x67 := h
    refine a_st (σ' := ⟨[(1, (ow 1)), (3, (i6 x54))], [(1, (bk (eA64u8 a0)))]⟩) (by kernel_rfl) (a_seq ?_)
    obtain ⟨y73, hy74, hk75⟩ := bind_some h
    clear h
    refine a_join (emb := fun (s : Bool) => ⟨[(1, (ow 1)), (3, (i6 x54)), (11, (.bool s))], [(1, (bk (eA64u8 a0)))]⟩) (pre := fun s => s = y73) ?_ ?_
    · rintro x72 rfl
      have h := hk75
      refine a_st (σ' := ⟨[(1, (ow 1)), (3, (i6 x54)), (11, (.bool x72))], [(1, (bk (eA64u8 a0)))]⟩) (by kernel_rfl) ?_
      cases hb79 : x72
      · have h := ite_f hb79 h
        refine a_cond_f rfl (a_exit (t_exit ?_))
        cases h
        have h := hX68
        refine t_exit (b_exit ?_)
        exact j_leaf x54 (Option.some.inj h) (by kernel_rfl)
      · have h := ite_t hb79 h
        refine a_cond_t rfl (a_skip (a_next (σ' := ⟨[(1, (ow 1)), (3, (i6 x54))], [(1, (bk (eA64u8 a0)))]⟩) (by kernel_rfl) (a_block (a_region (vp (i6 x54) rfl (vp (i6 (IntKind.i64.wrap (x54 - 1))) rfl (vp (i6 (IntKind.i64.wrap (x54 - 1))) rfl (a_nil (b_norm ?_)))))))))
        cases h
        exact a_again (by kernel_rfl) hX68
    · have h := hy74
      refine a_region (vp (i6 x54) rfl (vp (.bool ((decide (x54 ≥ 0)))) rfl (vp (.bool ((decide (x54 ≥ 0)))) rfl ?_)))
      cases hb76 : (decide (x54 ≥ 0))
      · have h := ite_f hb76 h
        refine a_gskip rfl (a_gskip rfl (a_gskip rfl (a_gskip rfl (vp (.bool false) rfl (a_nil ?_)))))
        exact j_leaf false (Option.some.inj h) (by kernel_rfl)
      · have h := ite_t hb76 h
        refine gp (i6 x54) rfl rfl ?_
        obtain ⟨hc77, h⟩ := ifp_some h
        refine gq (.own 1 [x54.toNat] [x54.toNat * 1]) rfl rfl hc77 ?_
        have hl78 : LdOk [x54.toNat] (eA64u8 a0) [x54.toNat * 1] 1 false (b8 (rd a0.1 x54.toNat)) := (.arr (vlt a0 hc77) rfl (.nil rfl rfl rfl))
        refine gq (b8 (rd a0.1 x54.toNat)) rfl (ld_own (i := ⟨.int .u8, 1, 1, (.int .u8 0)⟩) rfl rfl rfl hl78) hl78.c (gp (.bool (((rd a0.1 x54.toNat) == 0))) rfl rfl (vp (.bool (((rd a0.1 x54.toNat) == 0))) rfl (a_nil ?_)))
        exact j_leaf (((rd a0.1 x54.toNat) == 0)) (Option.some.inj h) (by kernel_rfl)
def spec_l04Raise_c : ACode := (.seq (.region 0 [q 4 (.box 25 (t 1)), q 6 (.alloc 25), q 7 (.asg 0 (.const (.bool false)) 4)] false) (.seq (.region 1 [q 13 (.build 25 []), q 14 (.load 25 (t 4)), q 15 (.call 0 (.func 112) [(t 14)]), q 8 (.alloc 25), ⟨none, .store 25 (t 8) (t 13), none, []⟩, q 9 (.asg 0 (t 15) 2)] false) (.seq (.seq (.region 2 [q 10 (.asg 0 (.const (.int .i64 0)) 2)] false) (.block 0 (.loop (.seq (.seq (.region 3 [q 16 (.mov (t 10)), q 17 (.mov (t 9)), q 18 (.bin .leq 2 (t 16) (t 17))] false) (.cond (t 18) .skip (.exit 0))) (.seq (.block 1 (.seq (.seq (.region 5 [q 21 (.mov (t 10)), q 22 (.indexAddr 25 (t 4) (t 21)), q 23 (.load 5 (t 22)), q 24 (.bin .eql 5 (t 23) (.const (.int .u8 0)))] false) (.cond (t 24) (.exit 1) .skip)) (.seq (.region 6 [q 25 (.mov (t 10)), q 11 (.asg 0 (t 25) 2)] false) (.seq (.seq (.region 7 [q 12 (.asg 0 (.const (.int .i64 0)) 2)] false) (.block 2 (.loop (.seq (.seq (.region 8 [q 26 (.mov (t 12)), q 27 (.mov (t 2)), q 28 (.bin .lss 2 (t 26) (t 27)), q 29 (.mov (t 28)), ⟨some 30, .mov (t 11), some (29, true), []⟩, ⟨some 31, .bin .gtr 2 (t 30) (.const (.int .i64 0)), some (29, true), []⟩, q 32 (.pick (t 29) (t 31) (.const (.bool false)))] false) (.cond (t 32) .skip (.exit 2))) (.seq (.block 3 (.seq (.region 10 [q 35 (.mov (t 11)), q 36 (.mov (t 0)), q 37 (.bin .mul 2 (t 35) (t 36)), q 11 (.asg 0 (t 37) 2)] false) (.seq (.region 11 [q 38 (.mov (t 11)), q 39 (.bin .gtr 2 (t 38) (.const (.int .i64 63)))] false) (.cond (t 39) (.seq (.region 12 [q 40 (.build 25 []), ⟨none, .store 25 (t 6) (t 40), none, []⟩, q 7 (.asg 0 (.const (.bool false)) 4)] false) .ret) .skip)))) (.region 9 [q 33 (.mov (t 12)), q 34 (.bin .add 2 (t 33) (.const (.int .i64 1))), q 12 (.asg 0 (t 34) 2)] false)))))) (.region 13 [q 41 (.mov (t 11)), q 42 (.mov (t 10)), q 43 (.indexAddr 25 (t 4) (t 42)), q 44 (.load 5 (t 43)), q 45 (.indexAddr 25 (t 8) (t 41)), ⟨none, .store 5 (t 45) (t 44), none, []⟩] false))))) (.region 4 [q 19 (.mov (t 10)), q 20 (.bin .add 2 (t 19) (.const (.int .i64 1))), q 10 (.asg 0 (t 20) 2)] false)))))) (.seq (.region 14 [q 46 (.load 25 (t 8)), ⟨none, .store 25 (t 6) (t 46), none, []⟩, q 7 (.asg 0 (.const (.bool true)) 4)] false) .ret))))
def spec_l04Raise_L : Live := [(0, [0, 1, 2]), (1, [0, 2, 4, 6]), (2, [0, 2, 4, 6, 8, 9]), (3, [0, 2, 4, 6, 8, 9, 10]), (4, [0, 2, 4, 6, 8, 9, 10]), (5, [0, 2, 4, 6, 8, 9, 10]), (6, [0, 2, 4, 6, 8, 9, 10]), (7, [0, 2, 4, 6, 8, 9, 10, 11]), (8, [0, 2, 4, 6, 8, 9, 10, 11, 12]), (9, [0, 2, 4, 6, 8, 9, 10, 11, 12]), (10, [0, 2, 4, 6, 8, 9, 10, 11, 12]), (11, [0, 2, 4, 6, 8, 9, 10, 11, 12]), (12, [6]), (13, [0, 2, 4, 6, 8, 9, 10, 11]), (14, [6, 8]), (100018, [0, 2, 4, 6, 8, 9, 10, 18]), (100024, [0, 2, 4, 6, 8, 9, 10, 24]), (100032, [0, 2, 4, 6, 8, 9, 10, 11, 12, 32]), (100039, [0, 2, 4, 6, 8, 9, 10, 11, 12, 39])]
noncomputable def spec_l04Raise_l2 (a2 : Int) (a0 : Int) (x962 : Int) (x963 : Int) : Option ((Int × Int) ⊕ (Int ⊕ ((Vec Int 64) × Bool))) :=
  (Option.bind (α := Bool) ((if (decide (x963 < a2)) then (some ((decide (x962 > 0)))) else (some false))) fun x977 => (if x977 then (if (decide ((IntKind.i64.wrap (x962 * a0)) > 63)) then (some (.inr ((.inr (((vrep 64 (0 : Int)), false)))))) else (some (.inl ((IntKind.i64.wrap (x962 * a0), IntKind.i64.wrap (x963 + 1)))))) else (some (.inr (.inl x962)))))
noncomputable def spec_l04Raise_l1 (r2 : Int) (a1 : (Vec Int 64)) (a2 : Int) (a0 : Int) (x663 : Int) (x664 : (Vec Int 64)) : Option ((Int × (Vec Int 64)) ⊕ ((Vec Int 64) ⊕ ((Vec Int 64) × Bool))) :=
  (if (decide (x663 ≤ r2)) then (Option.bind (α := ((Vec Int 64) ⊕ ((Vec Int 64) × Bool))) ((ifp (0 ≤ x663 ∧ x663 < ((64 : Nat) : Int)) ((if ((rd a1.1 x663.toNat) == 0) then (some (.inl x664)) else (Option.bind (α := (Int ⊕ ((Vec Int 64) × Bool))) ((loopM (fun s : (Int × Int) => spec_l04Raise_l2 a2 a0 s.1 s.2) (x663, 0))) fun z => match z with | .inl x949 => (ifp (0 ≤ x663 ∧ x663 < ((64 : Nat) : Int)) ((ifp (0 ≤ x949 ∧ x949 < ((64 : Nat) : Int)) ((some ((.inl (vset x664 x949.toNat (rd a1.1 x663.toNat))))))))) | .inr r991 => (some (.inr r991))))))) fun z => match z with | .inl x909 => (some (.inl ((IntKind.i64.wrap (x663 + 1), x909)))) | .inr r992 => (some (.inr (.inr r992)))) else (some (.inr (.inl x664))))
noncomputable def spec_l04Raise (a0 : Int) (a1 : (Vec Int 64)) (a2 : Int) : Option ((Vec Int 64) × Bool) :=
  (Option.bind (spec_l01Deg a1) fun r2 => (Option.bind (α := ((Vec Int 64) ⊕ ((Vec Int 64) × Bool))) ((loopM (fun s : (Int × (Vec Int 64)) => spec_l04Raise_l1 r2 a1 a2 a0 s.1 s.2) (0, (vrep 64 (0 : Int))))) fun z => match z with | .inl x497 => (some (x497, true)) | .inr r997 => (some r997)))
theorem spec_l04Raise_ok (a0 : Int) (a1 : (Vec Int 64)) (a2 : Int) (r : ((Vec Int 64) × Bool)) (h : spec_l04Raise a0 a1 a2 = some r) : Den Try.prog 190 [(i6 a0), (eA64u8 a1), (i6 a2)] { r := (.tuple [(eA64u8 r.1), (.bool r.2)]) } := by
  refine den_of (rs := [(eA64u8 r.1), (.bool r.2)]) (ac := spec_l04Raise_c) (L := spec_l04Raise_L) (n := 47) (m := []) (c := Try.f190.body.getD .skip) good Try.func190 (by kernel_rfl) (by kernel_rfl) Try.ntmps190 rfl rfl (by kernel_rfl) rfl rfl ?_
  refine a_st (σ' := ⟨[(0, (i6 a0)), (1, (eA64u8 a1)), (2, (i6 a2))], []⟩) (by kernel_rfl) ?_
  unfold spec_l04Raise_c
  refine sr (vo 1400 (eA64u8 a1) rfl rfl (vo 1600 (eA64u8 ((vrep 64 (0 : Int)))) rfl rfl (vp (.bool false) rfl (nx ⟨[(0, (i6 a0)), (2, (i6 a2)), (4, (ow 4)), (6, (ow 6))], [(4, (bk (eA64u8 a1))), (6, (bk (eA64u8 ((vrep 64 (0 : Int))))))]⟩ (by kernel_rfl) (sr (vq (eA64u8 ((vrep 64 (0 : Int)))) rfl ⟨⟨_, rfl, rfl⟩, all_nil⟩ (vl (eA64u8 a1) rfl rfl rfl rfl rfl rfl ?_)))))))
  obtain ⟨r2, hr3, h⟩ := bind_some h
  refine a_call (args := [(eA64u8 a1)]) (u := []) (r := (i6 r2)) rfl rfl (spec_l01Deg_ok a1 r2 hr3) rfl (vo 1800 (eA64u8 ((vrep 64 (0 : Int)))) rfl rfl (vs (eA64u8 ((vrep 64 (0 : Int)))) rfl rfl (fun _ => rfl) rfl rfl rfl rfl rfl rfl (vp (i6 r2) rfl (nx ⟨[(0, (i6 a0)), (2, (i6 a2)), (4, (ow 4)), (6, (ow 6)), (8, (ow 8)), (9, (i6 r2))], [(4, (bk (eA64u8 a1))), (6, (bk (eA64u8 ((vrep 64 (0 : Int)))))), (8, (bk (eA64u8 ((vrep 64 (0 : Int))))))]⟩ (by kernel_rfl) ?_))))
  obtain ⟨y498, hy499, hk500⟩ := bind_some h
  clear h
  refine a_join (emb := fun (s : (Vec Int 64)) => ⟨[(6, (ow 6)), (8, (ow 8))], [(6, (bk (eA64u8 ((vrep 64 (0 : Int)))))), (8, (bk (eA64u8 s)))]⟩) (pre := fun s => (.inl s) = y498) ?_ ?_
  · rintro x497 rfl
    have h := hk500
    refine a_st (σ' := ⟨[(6, (ow 6)), (8, (ow 8))], [(6, (bk (eA64u8 ((vrep 64 (0 : Int)))))), (8, (bk (eA64u8 x497)))]⟩) (by kernel_rfl) (sr (vl (eA64u8 x497) rfl rfl rfl rfl rfl rfl (vs (eA64u8 x497) rfl rfl (fun _ => rfl) rfl rfl rfl rfl rfl rfl (vp (.bool true) rfl (nx _ rfl (a_ret ?_))))))
    have hl996 : LdOk [] (eA64u8 x497) [] 64 true (eA64u8 x497) := (.nil rfl rfl rfl)
    refine ⟨.inr rfl, ?_⟩
    rw [Try.results190]
    cases h
    exact ⟨_, _, _, _, _, ld_own (i := ⟨.arr 64 5, 64, 64, (eA64u8 (vrep 64 (0 : Int)))⟩) rfl rfl rfl hl996, hl996.c, .inl ⟨rfl, .inl rfl⟩, rfl, ⟨_, _, _, _, _, rfl, trivial, .inl ⟨rfl, .inl rfl⟩, rfl, rfl⟩⟩
  · have h := hy499
    refine sr (vp (i6 0) rfl (nx ⟨[(0, (i6 a0)), (2, (i6 a2)), (4, (ow 4)), (6, (ow 6)), (8, (ow 8)), (9, (i6 r2)), (10, (i6 0))], [(4, (bk (eA64u8 a1))), (6, (bk (eA64u8 ((vrep 64 (0 : Int)))))), (8, (bk (eA64u8 ((vrep 64 (0 : Int))))))]⟩ (by kernel_rfl) (a_block ?_)))
    refine a_loop (emb := fun (s : (Int × (Vec Int 64))) => ⟨[(0, (i6 a0)), (2, (i6 a2)), (4, (ow 4)), (6, (ow 6)), (8, (ow 8)), (9, (i6 r2)), (10, (i6 s.1))], [(4, (bk (eA64u8 a1))), (6, (bk (eA64u8 ((vrep 64 (0 : Int)))))), (8, (bk (eA64u8 s.2)))]⟩) (body := (fun s : (Int × (Vec Int 64)) => spec_l04Raise_l1 r2 a1 a2 a0 s.1 s.2)) (G := fun q => some q = some y498) h rfl ?_ (by kernel_rfl)
    rintro X827 ⟨x663, x664⟩ x828 h hX829
    have h : spec_l04Raise_l1 r2 a1 a2 a0 x663 x664 = some x828 := h
    refine a_st (σ' := ⟨[(0, (i6 a0)), (2, (i6 a2)), (4, (ow 4)), (6, (ow 6)), (8, (ow 8)), (9, (i6 r2)), (10, (i6 x663))], [(4, (bk (eA64u8 a1))), (6, (bk (eA64u8 ((vrep 64 (0 : Int)))))), (8, (bk (eA64u8 x664)))]⟩) (by kernel_rfl) (a_seq (sr (vp (i6 x663) rfl (vp (i6 r2) rfl (vp (.bool ((decide (x663 ≤ r2)))) rfl (nx ⟨[(0, (i6 a0)), (2, (i6 a2)), (4, (ow 4)), (6, (ow 6)), (8, (ow 8)), (9, (i6 r2)), (10, (i6 x663)), (18, (.bool ((decide (x663 ≤ r2)))))], [(4, (bk (eA64u8 a1))), (6, (bk (eA64u8 ((vrep 64 (0 : Int)))))), (8, (bk (eA64u8 x664)))]⟩ (by kernel_rfl) ?_))))))
    cases hb830 : (decide (x663 ≤ r2))
    · have h := ite_f hb830 h
      refine a_cond_f rfl (a_exit (t_exit ?_))
      cases h
      have h := hX829
      refine t_exit (b_exit ?_)
      exact j_leaf x664 (Option.some.inj h) (by kernel_rfl)
    · have h := ite_t hb830 h
      refine a_cond_t rfl (a_skip (a_next (σ' := ⟨[(0, (i6 a0)), (2, (i6 a2)), (4, (ow 4)), (6, (ow 6)), (8, (ow 8)), (9, (i6 r2)), (10, (i6 x663))], [(4, (bk (eA64u8 a1))), (6, (bk (eA64u8 ((vrep 64 (0 : Int)))))), (8, (bk (eA64u8 x664)))]⟩) (by kernel_rfl) ?_))
      obtain ⟨y910, hy911, hk912⟩ := bind_some h
      clear h
      refine a_join (emb := fun (s : (Vec Int 64)) => ⟨[(0, (i6 a0)), (2, (i6 a2)), (4, (ow 4)), (6, (ow 6)), (8, (ow 8)), (9, (i6 r2)), (10, (i6 x663))], [(4, (bk (eA64u8 a1))), (6, (bk (eA64u8 ((vrep 64 (0 : Int)))))), (8, (bk (eA64u8 s)))]⟩) (pre := fun s => (.inl s) = y910) ?_ ?_
      · rintro x909 rfl
        have h := hk912
        refine a_st (σ' := ⟨[(0, (i6 a0)), (2, (i6 a2)), (4, (ow 4)), (6, (ow 6)), (8, (ow 8)), (9, (i6 r2)), (10, (i6 x663))], [(4, (bk (eA64u8 a1))), (6, (bk (eA64u8 ((vrep 64 (0 : Int)))))), (8, (bk (eA64u8 x909)))]⟩) (by kernel_rfl) (a_region (vp (i6 x663) rfl (vp (i6 (IntKind.i64.wrap (x663 + 1))) rfl (vp (i6 (IntKind.i64.wrap (x663 + 1))) rfl (a_nil ?_)))))
        cases h
        exact a_again (by kernel_rfl) hX829
      · have h := hy911
        refine a_block (a_seq (sr (vp (i6 x663) rfl ?_)))
        obtain ⟨hc913, h⟩ := ifp_some h
        refine vq (.own 4 [x663.toNat] [x663.toNat * 1]) rfl hc913 ?_
        have hl914 : LdOk [x663.toNat] (eA64u8 a1) [x663.toNat * 1] 1 false (b8 (rd a1.1 x663.toNat)) := (.arr (vlt a1 hc913) rfl (.nil rfl rfl rfl))
        refine vq (b8 (rd a1.1 x663.toNat)) (ld_own (i := ⟨.int .u8, 1, 1, (.int .u8 0)⟩) rfl rfl rfl hl914) hl914.c (vp (.bool (((rd a1.1 x663.toNat) == 0))) rfl (nx ⟨[(0, (i6 a0)), (2, (i6 a2)), (4, (ow 4)), (6, (ow 6)), (8, (ow 8)), (9, (i6 r2)), (10, (i6 x663)), (24, (.bool (((rd a1.1 x663.toNat) == 0))))], [(4, (bk (eA64u8 a1))), (6, (bk (eA64u8 ((vrep 64 (0 : Int)))))), (8, (bk (eA64u8 x664)))]⟩ (by kernel_rfl) ?_))
        cases hb915 : ((rd a1.1 x663.toNat) == 0)
        · have h := ite_f hb915 h
          refine a_cond_f rfl (a_skip (a_next (σ' := ⟨[(0, (i6 a0)), (2, (i6 a2)), (4, (ow 4)), (6, (ow 6)), (8, (ow 8)), (9, (i6 r2)), (10, (i6 x663))], [(4, (bk (eA64u8 a1))), (6, (bk (eA64u8 ((vrep 64 (0 : Int)))))), (8, (bk (eA64u8 x664)))]⟩) (by kernel_rfl) (sr (vp (i6 x663) rfl (vp (i6 x663) rfl (nx ⟨[(0, (i6 a0)), (2, (i6 a2)), (4, (ow 4)), (6, (ow 6)), (8, (ow 8)), (9, (i6 r2)), (10, (i6 x663)), (11, (i6 x663))], [(4, (bk (eA64u8 a1))), (6, (bk (eA64u8 ((vrep 64 (0 : Int)))))), (8, (bk (eA64u8 x664)))]⟩ (by kernel_rfl) ?_))))))
          obtain ⟨y950, hy951, hk952⟩ := bind_some h
          clear h
          refine a_join (emb := fun (s : Int) => ⟨[(0, (i6 a0)), (2, (i6 a2)), (4, (ow 4)), (6, (ow 6)), (8, (ow 8)), (9, (i6 r2)), (10, (i6 x663)), (11, (i6 s))], [(4, (bk (eA64u8 a1))), (6, (bk (eA64u8 ((vrep 64 (0 : Int)))))), (8, (bk (eA64u8 x664)))]⟩) (pre := fun s => (.inl s) = y950) ?_ ?_
          · rintro x949 rfl
            have h := hk952
            refine a_st (σ' := ⟨[(0, (i6 a0)), (2, (i6 a2)), (4, (ow 4)), (6, (ow 6)), (8, (ow 8)), (9, (i6 r2)), (10, (i6 x663)), (11, (i6 x949))], [(4, (bk (eA64u8 a1))), (6, (bk (eA64u8 ((vrep 64 (0 : Int)))))), (8, (bk (eA64u8 x664)))]⟩) (by kernel_rfl) (a_region (vp (i6 x949) rfl (vp (i6 x663) rfl ?_)))
            obtain ⟨hc987, h⟩ := ifp_some h
            refine vq (.own 4 [x663.toNat] [x663.toNat * 1]) rfl hc987 ?_
            have hl988 : LdOk [x663.toNat] (eA64u8 a1) [x663.toNat * 1] 1 false (b8 (rd a1.1 x663.toNat)) := (.arr (vlt a1 hc987) rfl (.nil rfl rfl rfl))
            refine vq (b8 (rd a1.1 x663.toNat)) (ld_own (i := ⟨.int .u8, 1, 1, (.int .u8 0)⟩) rfl rfl rfl hl988) hl988.c ?_
            obtain ⟨hc989, h⟩ := ifp_some h
            refine vq (.own 8 [x949.toNat] [x949.toNat * 1]) rfl hc989 ?_
            have hs990 : StOk [x949.toNat] (eA64u8 x664) [x949.toNat * 1] 1 (b8 (rd a1.1 x663.toNat)) (eA64u8 ((vset x664 x949.toNat (rd a1.1 x663.toNat)))) := (.arr (y := (rd a1.1 x663.toNat)) (vlt x664 hc989) rfl (.nil rfl rfl rfl rfl))
            refine vu .top [(8, (bk (eA64u8 ((vset x664 x949.toNat (rd a1.1 x663.toNat))))))] (st_own (i := ⟨.int .u8, 1, 1, (.int .u8 0)⟩) rfl rfl (fun _ => rfl) rfl hs990) (hs990.c rfl) rfl (a_nil (b_norm ?_))
            exact j_leaf ((vset x664 x949.toNat (rd a1.1 x663.toNat))) (Option.some.inj h) (by kernel_rfl)
          · have h := hy951
            refine sr (vp (i6 0) rfl (nx ⟨[(0, (i6 a0)), (2, (i6 a2)), (4, (ow 4)), (6, (ow 6)), (8, (ow 8)), (9, (i6 r2)), (10, (i6 x663)), (11, (i6 x663)), (12, (i6 0))], [(4, (bk (eA64u8 a1))), (6, (bk (eA64u8 ((vrep 64 (0 : Int)))))), (8, (bk (eA64u8 x664)))]⟩ (by kernel_rfl) (a_block ?_)))
            refine a_loop (emb := fun (s : (Int × Int)) => ⟨[(0, (i6 a0)), (2, (i6 a2)), (4, (ow 4)), (6, (ow 6)), (8, (ow 8)), (9, (i6 r2)), (10, (i6 x663)), (11, (i6 s.1)), (12, (i6 s.2))], [(4, (bk (eA64u8 a1))), (6, (bk (eA64u8 ((vrep 64 (0 : Int)))))), (8, (bk (eA64u8 x664)))]⟩) (body := (fun s : (Int × Int) => spec_l04Raise_l2 a2 a0 s.1 s.2)) (G := fun q => some q = some y950) h rfl ?_ (by kernel_rfl)
            rintro X973 ⟨x962, x963⟩ x974 h hX975
            have h : spec_l04Raise_l2 a2 a0 x962 x963 = some x974 := h
            refine a_st (σ' := ⟨[(0, (i6 a0)), (2, (i6 a2)), (4, (ow 4)), (6, (ow 6)), (8, (ow 8)), (9, (i6 r2)), (10, (i6 x663)), (11, (i6 x962)), (12, (i6 x963))], [(4, (bk (eA64u8 a1))), (6, (bk (eA64u8 ((vrep 64 (0 : Int)))))), (8, (bk (eA64u8 x664)))]⟩) (by kernel_rfl) (a_seq ?_)
            obtain ⟨y978, hy979, hk980⟩ := bind_some h
            clear h
            refine a_join (emb := fun (s : Bool) => ⟨[(0, (i6 a0)), (2, (i6 a2)), (4, (ow 4)), (6, (ow 6)), (8, (ow 8)), (9, (i6 r2)), (10, (i6 x663)), (11, (i6 x962)), (12, (i6 x963)), (32, (.bool s))], [(4, (bk (eA64u8 a1))), (6, (bk (eA64u8 ((vrep 64 (0 : Int)))))), (8, (bk (eA64u8 x664)))]⟩) (pre := fun s => s = y978) ?_ ?_
            · rintro x977 rfl
              have h := hk980
              refine a_st (σ' := ⟨[(0, (i6 a0)), (2, (i6 a2)), (4, (ow 4)), (6, (ow 6)), (8, (ow 8)), (9, (i6 r2)), (10, (i6 x663)), (11, (i6 x962)), (12, (i6 x963)), (32, (.bool x977))], [(4, (bk (eA64u8 a1))), (6, (bk (eA64u8 ((vrep 64 (0 : Int)))))), (8, (bk (eA64u8 x664)))]⟩) (by kernel_rfl) ?_
              cases hb982 : x977
              · have h := ite_f hb982 h
                refine a_cond_f rfl (a_exit (t_exit ?_))
                cases h
                have h := hX975
                refine t_exit (b_exit ?_)
                exact j_leaf x962 (Option.some.inj h) (by kernel_rfl)
              · have h := ite_t hb982 h
                refine a_cond_t rfl (a_skip (a_next (σ' := ⟨[(0, (i6 a0)), (2, (i6 a2)), (4, (ow 4)), (6, (ow 6)), (8, (ow 8)), (9, (i6 r2)), (10, (i6 x663)), (11, (i6 x962)), (12, (i6 x963))], [(4, (bk (eA64u8 a1))), (6, (bk (eA64u8 ((vrep 64 (0 : Int)))))), (8, (bk (eA64u8 x664)))]⟩) (by kernel_rfl) (a_seq (a_block (sr (vp (i6 x962) rfl (vp (i6 a0) rfl (vp (i6 (IntKind.i64.wrap (x962 * a0))) rfl (vp (i6 (IntKind.i64.wrap (x962 * a0))) rfl ?_)))))))))
                refine nx ⟨[(0, (i6 a0)), (2, (i6 a2)), (4, (ow 4)), (6, (ow 6)), (8, (ow 8)), (9, (i6 r2)), (10, (i6 x663)), (11, (i6 (IntKind.i64.wrap (x962 * a0)))), (12, (i6 x963))], [(4, (bk (eA64u8 a1))), (6, (bk (eA64u8 ((vrep 64 (0 : Int)))))), (8, (bk (eA64u8 x664)))]⟩ (by kernel_rfl) (sr (vp (i6 (IntKind.i64.wrap (x962 * a0))) rfl (vp (.bool ((decide ((IntKind.i64.wrap (x962 * a0)) > 63)))) rfl (nx ⟨[(0, (i6 a0)), (2, (i6 a2)), (4, (ow 4)), (6, (ow 6)), (8, (ow 8)), (9, (i6 r2)), (10, (i6 x663)), (11, (i6 (IntKind.i64.wrap (x962 * a0)))), (12, (i6 x963)), (39, (.bool ((decide ((IntKind.i64.wrap (x962 * a0)) > 63)))))], [(4, (bk (eA64u8 a1))), (6, (bk (eA64u8 ((vrep 64 (0 : Int)))))), (8, (bk (eA64u8 x664)))]⟩ (by kernel_rfl) ?_))))
                cases hb983 : (decide ((IntKind.i64.wrap (x962 * a0)) > 63))
                · have h := ite_f hb983 h
                  refine a_cond_f rfl (a_skip (b_norm (a_next (σ' := ⟨[(0, (i6 a0)), (2, (i6 a2)), (4, (ow 4)), (6, (ow 6)), (8, (ow 8)), (9, (i6 r2)), (10, (i6 x663)), (11, (i6 (IntKind.i64.wrap (x962 * a0)))), (12, (i6 x963))], [(4, (bk (eA64u8 a1))), (6, (bk (eA64u8 ((vrep 64 (0 : Int)))))), (8, (bk (eA64u8 x664)))]⟩) (by kernel_rfl) (a_region (vp (i6 x963) rfl (vp (i6 (IntKind.i64.wrap (x963 + 1))) rfl (vp (i6 (IntKind.i64.wrap (x963 + 1))) rfl (a_nil ?_))))))))
                  cases h
                  exact a_again (by kernel_rfl) hX975
                · have h := ite_t hb983 h
                  refine a_cond_t rfl (sr (vq (eA64u8 ((vrep 64 (0 : Int)))) rfl ⟨⟨_, rfl, rfl⟩, all_nil⟩ (vs (eA64u8 ((vrep 64 (0 : Int)))) rfl rfl (fun _ => rfl) rfl rfl rfl rfl rfl rfl (vp (.bool false) rfl (nx _ rfl (a_ret (b_ret (t_ret ?_))))))))
                  cases h
                  have h := hX975
                  refine t_ret (b_ret (t_ret ?_))
                  cases h
                  have h := hk952
                  refine b_ret (t_ret ?_)
                  cases h
                  have h := hk912
                  cases h
                  have h := hX829
                  refine t_ret (b_ret (t_ret ?_))
                  cases h
                  have h := hk500
                  have hl985 : LdOk [] (eA64u8 ((vrep 64 (0 : Int)))) [] 64 true (eA64u8 ((vrep 64 (0 : Int)))) := (.nil rfl rfl rfl)
                  refine ⟨.inr rfl, ?_⟩
                  rw [Try.results190]
                  cases h
                  exact ⟨_, _, _, _, _, ld_own (i := ⟨.arr 64 5, 64, 64, (eA64u8 (vrep 64 (0 : Int)))⟩) rfl rfl rfl hl985, hl985.c, .inl ⟨rfl, .inl rfl⟩, rfl, ⟨_, _, _, _, _, rfl, trivial, .inl ⟨rfl, .inl rfl⟩, rfl, rfl⟩⟩
            · have h := hy979
              refine a_region (vp (i6 x963) rfl (vp (i6 a2) rfl (vp (.bool ((decide (x963 < a2)))) rfl (vp (.bool ((decide (x963 < a2)))) rfl ?_))))
              cases hb981 : (decide (x963 < a2))
              · have h := ite_f hb981 h
                refine a_gskip rfl (a_gskip rfl (vp (.bool false) rfl (a_nil ?_)))
                exact j_leaf false (Option.some.inj h) (by kernel_rfl)
              · have h := ite_t hb981 h
                refine gp (i6 x962) rfl rfl (gp (.bool ((decide (x962 > 0)))) rfl rfl (vp (.bool ((decide (x962 > 0)))) rfl (a_nil ?_)))
                exact j_leaf ((decide (x962 > 0))) (Option.some.inj h) (by kernel_rfl)
        · have h := ite_t hb915 h
          refine a_cond_t rfl (a_exit (t_exit (b_exit ?_)))
          exact j_leaf x664 (Option.some.inj h) (by kernel_rfl)
def spec_l01Add_c : ACode := (.seq (.region 0 [q 5 (.box 25 (t 1)), q 6 (.box 25 (t 2)), q 8 (.alloc 25)] false) (.seq (.seq (.region 1 [q 9 (.asg 0 (.const (.int .i64 0)) 3)] false) (.block 0 (.loop (.seq (.seq (.region 2 [q 10 (.mov (t 9)), q 11 (.bin .lss 3 (t 10) (.const (.int .i64 64)))] false) (.cond (t 11) .skip (.exit 0))) (.seq (.block 1 (.region 4 [q 14 (.mov (t 9)), q 15 (.mov (t 9)), ⟨some 16, .indexAddr 25 (t 5) (t 15), none, [1]⟩, ⟨some 17, .load 5 (t 16), none, [2]⟩, ⟨some 18, .conv 5 2 (t 17), none, [3]⟩, q 19 (.mov (t 3)), q 20 (.mov (t 9)), ⟨some 21, .indexAddr 25 (t 6) (t 20), none, [6]⟩, ⟨some 22, .load 5 (t 21), none, [7]⟩, ⟨some 23, .conv 5 2 (t 22), none, [8]⟩, ⟨some 24, .bin .mul 2 (t 19) (t 23), none, [5, 9]⟩, ⟨some 25, .bin .add 2 (t 18) (t 24), none, [4, 10]⟩, q 26 (.mov (t 0)), ⟨some 27, .bin .rem 2 (t 25) (t 26), none, [11, 12]⟩, q 28 (.mov (t 0)), ⟨some 29, .bin .add 2 (t 27) (t 28), none, [13, 14]⟩, q 30 (.mov (t 0)), ⟨some 31, .bin .rem 2 (t 29) (t 30), none, [15, 16]⟩, ⟨some 32, .conv 2 5 (t 31), none, [17]⟩, ⟨some 33, .indexAddr 25 (t 5) (t 14), none, [0, 0, 1, 2, 3, 4, 5, 6, 7, 8, 9, 10, 11, 12, 13, 14, 15, 16, 17, 18]⟩, ⟨none, .store 5 (t 33) (t 32), none, [19, 18, 0, 1, 2, 3, 4, 5, 6, 7, 8, 9, 10, 11, 12, 13, 14, 15, 16, 17, 18]⟩] true)) (.region 3 [q 12 (.mov (t 9)), q 13 (.bin .add 3 (t 12) (.const (.int .i64 1))), q 9 (.asg 0 (t 13) 3)] false)))))) (.seq (.region 5 [q 34 (.load 25 (t 5)), ⟨none, .store 25 (t 8) (t 34), none, []⟩] false) .ret)))
def spec_l01Add_L : Live := [(0, [0, 1, 2, 3]), (1, [0, 3, 5, 6, 8]), (2, [0, 3, 5, 6, 8, 9]), (3, [0, 3, 5, 6, 8, 9]), (4, [0, 3, 5, 6, 8, 9]), (5, [5, 8]), (100011, [0, 3, 5, 6, 8, 9, 11])]
noncomputable def spec_l01Add_l1 (a3 : Int) (a2 : (Vec Int 64)) (a0 : Int) (x127 : Int) (x128 : (Vec Int 64)) : Option ((Int × (Vec Int 64)) ⊕ (Vec Int 64)) :=
  (if (decide (x127 < 64)) then (ifp (0 ≤ x127 ∧ x127 < ((64 : Nat) : Int)) ((ifp (0 ≤ x127 ∧ x127 < ((64 : Nat) : Int)) ((letp (IntKind.i64.wrap (a3 * (IntKind.i64.wrap (rd a2.1 x127.toNat)))) fun x180 => (letp (IntKind.i64.wrap ((IntKind.i64.wrap (rd x128.1 x127.toNat)) + x180)) fun x182 => (ifp (a0 ≠ 0) ((ifp (a0 ≠ 0) ((letp (IntKind.u8.wrap (Int.tmod (IntKind.i64.wrap ((Int.tmod x182 a0) + a0)) a0)) fun x186 => (ifp (0 ≤ x127 ∧ x127 < ((64 : Nat) : Int)) ((some (.inl ((IntKind.i64.wrap (x127 + 1), (vset x128 x127.toNat x186)))))))))))))))))) else (some (.inr x128)))
noncomputable def spec_l01Add (a0 : Int) (a1 : (Vec Int 64)) (a2 : (Vec Int 64)) (a3 : Int) : Option (Vec Int 64) :=
  (Option.bind (α := (Vec Int 64)) ((loopM (fun s : (Int × (Vec Int 64)) => spec_l01Add_l1 a3 a2 a0 s.1 s.2) (0, a1))) fun x94 => (some x94))
theorem spec_l01Add_ok (a0 : Int) (a1 : (Vec Int 64)) (a2 : (Vec Int 64)) (a3 : Int) (r : (Vec Int 64)) (h : spec_l01Add a0 a1 a2 a3 = some r) : Den Try.prog 121 [(i6 a0), (eA64u8 a1), (eA64u8 a2), (i6 a3)] { r := (eA64u8 r) } := by
  refine den_of (rs := [(eA64u8 r)]) (ac := spec_l01Add_c) (L := spec_l01Add_L) (n := 35) (m := []) (c := Try.f121.body.getD .skip) good Try.func121 (by kernel_rfl) (by kernel_rfl) Try.ntmps121 rfl rfl (by kernel_rfl) rfl rfl ?_
  refine a_st (σ' := ⟨[(0, (i6 a0)), (1, (eA64u8 a1)), (2, (eA64u8 a2)), (3, (i6 a3))], []⟩) (by kernel_rfl) ?_
  unfold spec_l01Add_c
  refine sr (vo 1500 (eA64u8 a1) rfl rfl (vo 1600 (eA64u8 a2) rfl rfl (vo 1800 (eA64u8 ((vrep 64 (0 : Int)))) rfl rfl (nx ⟨[(0, (i6 a0)), (3, (i6 a3)), (5, (ow 5)), (6, (ow 6)), (8, (ow 8))], [(5, (bk (eA64u8 a1))), (6, (bk (eA64u8 a2))), (8, (bk (eA64u8 ((vrep 64 (0 : Int))))))]⟩ (by kernel_rfl) ?_))))
  obtain ⟨y95, hy96, hk97⟩ := bind_some h
  clear h
  refine a_join (emb := fun (s : (Vec Int 64)) => ⟨[(5, (ow 5)), (8, (ow 8))], [(5, (bk (eA64u8 s))), (8, (bk (eA64u8 ((vrep 64 (0 : Int))))))]⟩) (pre := fun s => s = y95) ?_ ?_
  · rintro x94 rfl
    have h := hk97
    refine a_st (σ' := ⟨[(5, (ow 5)), (8, (ow 8))], [(5, (bk (eA64u8 x94))), (8, (bk (eA64u8 ((vrep 64 (0 : Int))))))]⟩) (by kernel_rfl) (sr (vl (eA64u8 x94) rfl rfl rfl rfl rfl rfl (vs (eA64u8 x94) rfl rfl (fun _ => rfl) rfl rfl rfl rfl rfl rfl (nx _ rfl (a_ret ?_)))))
    have hl193 : LdOk [] (eA64u8 x94) [] 64 true (eA64u8 x94) := (.nil rfl rfl rfl)
    refine ⟨.inr rfl, ?_⟩
    rw [Try.results121]
    cases h
    exact ⟨_, _, _, _, _, ld_own (i := ⟨.arr 64 5, 64, 64, (eA64u8 (vrep 64 (0 : Int)))⟩) rfl rfl rfl hl193, hl193.c, .inl ⟨rfl, .inl rfl⟩, rfl, rfl⟩
  · have h := hy96
    refine sr (vp (i6 0) rfl (nx ⟨[(0, (i6 a0)), (3, (i6 a3)), (5, (ow 5)), (6, (ow 6)), (8, (ow 8)), (9, (i6 0))], [(5, (bk (eA64u8 a1))), (6, (bk (eA64u8 a2))), (8, (bk (eA64u8 ((vrep 64 (0 : Int))))))]⟩ (by kernel_rfl) (a_block ?_)))
    refine a_loop (emb := fun (s : (Int × (Vec Int 64))) => ⟨[(0, (i6 a0)), (3, (i6 a3)), (5, (ow 5)), (6, (ow 6)), (8, (ow 8)), (9, (i6 s.1))], [(5, (bk (eA64u8 s.2))), (6, (bk (eA64u8 a2))), (8, (bk (eA64u8 ((vrep 64 (0 : Int))))))]⟩) (body := (fun s : (Int × (Vec Int 64)) => spec_l01Add_l1 a3 a2 a0 s.1 s.2)) (G := fun q => some q = some y95) h rfl ?_ (by kernel_rfl)
    rintro X158 ⟨x127, x128⟩ x159 h hX160
    have h : spec_l01Add_l1 a3 a2 a0 x127 x128 = some x159 := h
    refine a_st (σ' := ⟨[(0, (i6 a0)), (3, (i6 a3)), (5, (ow 5)), (6, (ow 6)), (8, (ow 8)), (9, (i6 x127))], [(5, (bk (eA64u8 x128))), (6, (bk (eA64u8 a2))), (8, (bk (eA64u8 ((vrep 64 (0 : Int))))))]⟩) (by kernel_rfl) (a_seq (sr (vp (i6 x127) rfl (vp (.bool ((decide (x127 < 64)))) rfl (nx ⟨[(0, (i6 a0)), (3, (i6 a3)), (5, (ow 5)), (6, (ow 6)), (8, (ow 8)), (9, (i6 x127)), (11, (.bool ((decide (x127 < 64)))))], [(5, (bk (eA64u8 x128))), (6, (bk (eA64u8 a2))), (8, (bk (eA64u8 ((vrep 64 (0 : Int))))))]⟩ (by kernel_rfl) ?_)))))
    cases hb161 : (decide (x127 < 64))
    · have h := ite_f hb161 h
      refine a_cond_f rfl (a_exit (t_exit ?_))
      cases h
      have h := hX160
      refine t_exit (b_exit ?_)
      exact j_leaf x128 (Option.some.inj h) (by kernel_rfl)
    · have h := ite_t hb161 h
      refine a_cond_t rfl (a_skip (a_next (σ' := ⟨[(0, (i6 a0)), (3, (i6 a3)), (5, (ow 5)), (6, (ow 6)), (8, (ow 8)), (9, (i6 x127))], [(5, (bk (eA64u8 x128))), (6, (bk (eA64u8 a2))), (8, (bk (eA64u8 ((vrep 64 (0 : Int))))))]⟩) (by kernel_rfl) (a_seq (a_block (a_draw [⟨[], [], [], []⟩, ⟨[], [], [], []⟩, ⟨[5], [], [5], [1]⟩, ⟨[5], [], [], [1, 2]⟩, ⟨[], [], [], [1, 2, 3]⟩, ⟨[], [], [], []⟩, ⟨[], [], [], []⟩, ⟨[6], [], [6], [6]⟩, ⟨[6], [], [], [6, 7]⟩, ⟨[], [], [], [6, 7, 8]⟩, ⟨[], [], [], [5, 6, 7, 8, 9]⟩, ⟨[], [], [], [1, 2, 3, 4, 5, 6, 7, 8, 9, 10]⟩, ⟨[], [], [], []⟩, ⟨[], [], [], [1, 2, 3, 4, 5, 6, 7, 8, 9, 10, 11, 12]⟩, ⟨[], [], [], []⟩, ⟨[], [], [], [1, 2, 3, 4, 5, 6, 7, 8, 9, 10, 11, 12, 13, 14]⟩, ⟨[], [], [], []⟩, ⟨[], [], [], [1, 2, 3, 4, 5, 6, 7, 8, 9, 10, 11, 12, 13, 14, 15, 16]⟩, ⟨[], [], [], [1, 2, 3, 4, 5, 6, 7, 8, 9, 10, 11, 12, 13, 14, 15, 16, 17]⟩, ⟨[5], [], [5], [0, 1, 2, 3, 4, 5, 6, 7, 8, 9, 10, 11, 12, 13, 14, 15, 16, 17, 18]⟩, ⟨[5], [5], [], [0, 1, 2, 3, 4, 5, 6, 7, 8, 9, 10, 11, 12, 13, 14, 15, 16, 17, 18, 19]⟩] (by kernel_rfl) (dp (i6 x127) rfl (by kernel_rfl) (dp (i6 x127) rfl (by kernel_rfl) (d_cons ?_))))))))
      obtain ⟨hc176, h⟩ := ifp_some h
      refine vq (.own 5 [x127.toNat] [x127.toNat * 1]) rfl hc176 (d_next (by kernel_rfl) (d_cons ?_))
      have hl177 : LdOk [x127.toNat] (eA64u8 x128) [x127.toNat * 1] 1 false (b8 (rd x128.1 x127.toNat)) := (.arr (vlt x128 hc176) rfl (.nil rfl rfl rfl))
      refine vq (b8 (rd x128.1 x127.toNat)) (ld_own (i := ⟨.int .u8, 1, 1, (.int .u8 0)⟩) rfl rfl rfl hl177) hl177.c (d_next (by kernel_rfl) (dp (i6 (IntKind.i64.wrap (rd x128.1 x127.toNat))) rfl (by kernel_rfl) (dp (i6 a3) rfl (by kernel_rfl) (dp (i6 x127) rfl (by kernel_rfl) (d_cons ?_)))))
      obtain ⟨hc178, h⟩ := ifp_some h
      refine vq (.own 6 [x127.toNat] [x127.toNat * 1]) rfl hc178 (d_next (by kernel_rfl) (d_cons ?_))
      have hl179 : LdOk [x127.toNat] (eA64u8 a2) [x127.toNat * 1] 1 false (b8 (rd a2.1 x127.toNat)) := (.arr (vlt a2 hc178) rfl (.nil rfl rfl rfl))
      refine vq (b8 (rd a2.1 x127.toNat)) (ld_own (i := ⟨.int .u8, 1, 1, (.int .u8 0)⟩) rfl rfl rfl hl179) hl179.c (d_next (by kernel_rfl) (dp (i6 (IntKind.i64.wrap (rd a2.1 x127.toNat))) rfl (by kernel_rfl) (d_cons ?_)))
      obtain ⟨x180, hx181, h⟩ := letp_some h
      refine a_val' (v := (i6 (IntKind.i64.wrap (a3 * (IntKind.i64.wrap (rd a2.1 x127.toNat)))))) (v' := (i6 x180)) (u := []) (u' := []) rfl (congrArg (fun z => ((i6 z) : AV)) hx181) rfl trivial rfl (d_next (by kernel_rfl) (d_cons ?_))
      obtain ⟨x182, hx183, h⟩ := letp_some h
      refine a_val' (v := (i6 (IntKind.i64.wrap ((IntKind.i64.wrap (rd x128.1 x127.toNat)) + x180)))) (v' := (i6 x182)) (u := []) (u' := []) rfl (congrArg (fun z => ((i6 z) : AV)) hx183) rfl trivial rfl (d_next (by kernel_rfl) (dp (i6 a0) rfl (by kernel_rfl) (d_cons ?_)))
      obtain ⟨hc184, h⟩ := ifp_some h
      refine vq (i6 (Int.tmod x182 a0)) rfl hc184 (d_next (by kernel_rfl) (dp (i6 a0) rfl (by kernel_rfl) (dp (i6 (IntKind.i64.wrap ((Int.tmod x182 a0) + a0))) rfl (by kernel_rfl) (dp (i6 a0) rfl (by kernel_rfl) (d_cons ?_)))))
      obtain ⟨hc185, h⟩ := ifp_some h
      refine vq (i6 (Int.tmod (IntKind.i64.wrap ((Int.tmod x182 a0) + a0)) a0)) rfl hc185 (d_next (by kernel_rfl) (d_cons ?_))
      obtain ⟨x186, hx187, h⟩ := letp_some h
      refine a_val' (v := (b8 (IntKind.u8.wrap (Int.tmod (IntKind.i64.wrap ((Int.tmod x182 a0) + a0)) a0)))) (v' := (b8 x186)) (u := []) (u' := []) rfl (congrArg (fun z => ((b8 z) : AV)) hx187) rfl trivial rfl (d_next (by kernel_rfl) (d_cons ?_))
      obtain ⟨hc188, h⟩ := ifp_some h
      refine vq (.own 5 [x127.toNat] [x127.toNat * 1]) rfl hc188 (d_next (by kernel_rfl) (d_cons ?_))
      have hs189 : StOk [x127.toNat] (eA64u8 x128) [x127.toNat * 1] 1 (b8 x186) (eA64u8 (vset x128 x127.toNat x186)) := (.arr (y := x186) (vlt x128 hc188) rfl (.nil rfl rfl rfl rfl))
      refine vu .top [(5, (bk (eA64u8 (vset x128 x127.toNat x186))))] (st_own (i := ⟨.int .u8, 1, 1, (.int .u8 0)⟩) rfl rfl (fun _ => rfl) rfl hs189) (hs189.c rfl) rfl (d_next (by kernel_rfl) (d_nil (b_norm (a_next (σ' := ⟨[(0, (i6 a0)), (3, (i6 a3)), (5, (ow 5)), (6, (ow 6)), (8, (ow 8)), (9, (i6 x127))], [(5, (bk (eA64u8 (vset x128 x127.toNat x186)))), (6, (bk (eA64u8 a2))), (8, (bk (eA64u8 ((vrep 64 (0 : Int))))))]⟩) (by kernel_rfl) (a_region (vp (i6 x127) rfl (vp (i6 (IntKind.i64.wrap (x127 + 1))) rfl (vp (i6 (IntKind.i64.wrap (x127 + 1))) rfl (a_nil ?_)))))))))
      cases h
      exact a_again (by kernel_rfl) hX160
def spec_l04Bracket_c : ACode := (.seq (.region 0 [q 6 (.alloc 25), q 7 (.asg 0 (.const (.bool false)) 4)] false) (.seq (.region 1 [q 13 (.mov (t 0)), q 14 (.call 0 (.func 166) []), q 15 (.mov (t 1)), q 16 (.call 0 (.func 190) [(t 13), (t 14), (t 15)]), q 12 (.mov (t 16)), q 17 (.extract (t 12) 0), q 18 (.extract (t 12) 1), q 8 (.alloc 25), ⟨none, .store 25 (t 8) (t 17), none, []⟩, q 9 (.asg 0 (t 18) 4)] false) (.seq (.region 2 [q 20 (.mov (t 0)), q 21 (.call 0 (.func 166) []), q 22 (.mov (t 2)), q 23 (.call 0 (.func 190) [(t 20), (t 21), (t 22)]), q 19 (.mov (t 23)), q 24 (.extract (t 19) 0), q 25 (.extract (t 19) 1), q 10 (.alloc 25), ⟨none, .store 25 (t 10) (t 24), none, []⟩, q 11 (.asg 0 (t 25) 4)] false) (.seq (.region 3 [q 26 (.mov (t 0)), q 27 (.load 25 (t 8)), q 28 (.load 25 (t 10)), q 29 (.call 0 (.func 121) [(t 26), (t 27), (t 28), (.const (.int .i64 (-1)))]), q 30 (.mov (t 9)), q 31 (.mov (t 30)), ⟨some 32, .mov (t 11), some (31, true), []⟩, q 33 (.pick (t 31) (t 32) (.const (.bool false))), ⟨none, .store 25 (t 6) (t 29), none, []⟩, q 7 (.asg 0 (t 33) 4)] false) .ret))))
def spec_l04Bracket_L : Live := [(0, [0, 1, 2]), (1, [0, 1, 2, 6]), (2, [0, 2, 6, 8, 9]), (3, [0, 6, 8, 9, 10, 11])]
noncomputable def spec_l04Bracket (a0 : Int) (a1 : Int) (a2 : Int) : Option ((Vec Int 64) × Bool) :=
  (Option.bind (spec_l01T) fun r1 => (Option.bind (spec_l04Raise a0 r1 a1) fun r3 => (Option.bind (spec_l01T) fun r6 => (Option.bind (spec_l04Raise a0 r6 a2) fun r8 => (Option.bind (spec_l01Add a0 r3.1 r8.1 (-1)) fun r13 => (if r3.2 then (some (r13, r8.2)) else (some (r13, false))))))))
theorem spec_l04Bracket_ok (a0 : Int) (a1 : Int) (a2 : Int) (r : ((Vec Int 64) × Bool)) (h : spec_l04Bracket a0 a1 a2 = some r) : Den Try.prog 127 [(i6 a0), (i6 a1), (i6 a2)] { r := (.tuple [(eA64u8 r.1), (.bool r.2)]) } := by
  refine den_of (rs := [(eA64u8 r.1), (.bool r.2)]) (ac := spec_l04Bracket_c) (L := spec_l04Bracket_L) (n := 34) (m := []) (c := Try.f127.body.getD .skip) good Try.func127 (by kernel_rfl) (by kernel_rfl) Try.ntmps127 rfl rfl (by kernel_rfl) rfl rfl ?_
  refine a_st (σ' := ⟨[(0, (i6 a0)), (1, (i6 a1)), (2, (i6 a2))], []⟩) (by kernel_rfl) ?_
  unfold spec_l04Bracket_c
  refine sr (vo 1600 (eA64u8 ((vrep 64 (0 : Int)))) rfl rfl (vp (.bool false) rfl (nx ⟨[(0, (i6 a0)), (1, (i6 a1)), (2, (i6 a2)), (6, (ow 6))], [(6, (bk (eA64u8 ((vrep 64 (0 : Int))))))]⟩ (by kernel_rfl) (sr (vp (i6 a0) rfl ?_)))))
  obtain ⟨r1, hr2, h⟩ := bind_some h
  refine a_call (args := []) (u := []) (r := (eA64u8 r1)) rfl rfl (spec_l01T_ok r1 hr2) rfl (vp (i6 a1) rfl ?_)
  obtain ⟨r3, hr4, h⟩ := bind_some h
  refine a_call (args := [(i6 a0), (eA64u8 r1), (i6 a1)]) (u := []) (r := (.tuple [(eA64u8 r3.1), (.bool r3.2)])) rfl rfl (spec_l04Raise_ok a0 r1 a1 r3 hr4) rfl (vp (.tuple [(eA64u8 r3.1), (.bool r3.2)]) rfl (vb (eA64u8 r3.1) rfl rfl (vb (.bool r3.2) rfl rfl (vo 1800 (eA64u8 ((vrep 64 (0 : Int)))) rfl rfl (vs (eA64u8 r3.1) rfl rfl (fun _ => rfl) rfl rfl rfl rfl rfl rfl (vp (.bool r3.2) rfl (nx ⟨[(0, (i6 a0)), (2, (i6 a2)), (6, (ow 6)), (8, (ow 8)), (9, (.bool r3.2))], [(6, (bk (eA64u8 ((vrep 64 (0 : Int)))))), (8, (bk (eA64u8 r3.1)))]⟩ (by kernel_rfl) (sr (vp (i6 a0) rfl ?_)))))))))
  obtain ⟨r6, hr7, h⟩ := bind_some h
  refine a_call (args := []) (u := []) (r := (eA64u8 r6)) rfl rfl (spec_l01T_ok r6 hr7) rfl (vp (i6 a2) rfl ?_)
  obtain ⟨r8, hr9, h⟩ := bind_some h
  refine a_call (args := [(i6 a0), (eA64u8 r6), (i6 a2)]) (u := []) (r := (.tuple [(eA64u8 r8.1), (.bool r8.2)])) rfl rfl (spec_l04Raise_ok a0 r6 a2 r8 hr9) rfl (vp (.tuple [(eA64u8 r8.1), (.bool r8.2)]) rfl (vb (eA64u8 r8.1) rfl rfl (vb (.bool r8.2) rfl rfl (vo 2000 (eA64u8 ((vrep 64 (0 : Int)))) rfl rfl (vs (eA64u8 r8.1) rfl rfl (fun _ => rfl) rfl rfl rfl rfl rfl rfl (vp (.bool r8.2) rfl (nx ⟨[(0, (i6 a0)), (6, (ow 6)), (8, (ow 8)), (9, (.bool r3.2)), (10, (ow 10)), (11, (.bool r8.2))], [(6, (bk (eA64u8 ((vrep 64 (0 : Int)))))), (8, (bk (eA64u8 r3.1))), (10, (bk (eA64u8 r8.1)))]⟩ (by kernel_rfl) (sr (vp (i6 a0) rfl ?_)))))))))
  refine vl (eA64u8 r3.1) rfl rfl rfl rfl rfl rfl (vl (eA64u8 r8.1) rfl rfl rfl rfl rfl rfl ?_)
  obtain ⟨r13, hr14, h⟩ := bind_some h
  refine a_call (args := [(i6 a0), (eA64u8 r3.1), (eA64u8 r8.1), (i6 (-1))]) (u := []) (r := (eA64u8 r13)) rfl rfl (spec_l01Add_ok a0 r3.1 r8.1 (-1) r13 hr14) rfl (vp (.bool r3.2) rfl (vp (.bool r3.2) rfl ?_))
  cases hb15 : r3.2
  · have h := ite_f hb15 h
    refine a_gskip rfl (vp (.bool false) rfl (vs (eA64u8 r13) rfl rfl (fun _ => rfl) rfl rfl rfl rfl rfl rfl (vp (.bool false) rfl (nx _ rfl (a_ret ?_)))))
    have hl17 : LdOk [] (eA64u8 r13) [] 64 true (eA64u8 r13) := (.nil rfl rfl rfl)
    refine ⟨.inr rfl, ?_⟩
    rw [Try.results127]
    cases h
    exact ⟨_, _, _, _, _, ld_own (i := ⟨.arr 64 5, 64, 64, (eA64u8 (vrep 64 (0 : Int)))⟩) rfl rfl rfl hl17, hl17.c, .inl ⟨rfl, .inl rfl⟩, rfl, ⟨_, _, _, _, _, rfl, trivial, .inl ⟨rfl, .inl rfl⟩, rfl, rfl⟩⟩
  · have h := ite_t hb15 h
    refine gp (.bool r8.2) rfl rfl (vp (.bool r8.2) rfl (vs (eA64u8 r13) rfl rfl (fun _ => rfl) rfl rfl rfl rfl rfl rfl (vp (.bool r8.2) rfl (nx _ rfl (a_ret ?_)))))
    have hl19 : LdOk [] (eA64u8 r13) [] 64 true (eA64u8 r13) := (.nil rfl rfl rfl)
    refine ⟨.inr rfl, ?_⟩
    rw [Try.results127]
    cases h
    exact ⟨_, _, _, _, _, ld_own (i := ⟨.arr 64 5, 64, 64, (eA64u8 (vrep 64 (0 : Int)))⟩) rfl rfl rfl hl19, hl19.c, .inl ⟨rfl, .inl rfl⟩, rfl, ⟨_, _, _, _, _, rfl, trivial, .inl ⟨rfl, .inl rfl⟩, rfl, rfl⟩⟩
def spec_BracketOf_c : ACode := (.seq (.region 0 [q 4 (.alloc 25), q 5 (.asg 0 (.const (.int .i64 0)) 2)] false) (.seq (.seq (.region 1 [q 9 (.mov (t 0)), q 10 (.mov (t 1)), q 11 (.call 0 (.func 126) [(t 9), (t 10), (.const (.int .i64 1)), (.const (.int .i64 6))]), q 6 (.asg 0 (t 11) 2)] false) (.seq (.region 2 [q 12 (.mov (t 6)), q 13 (.bin .neq 2 (t 12) (.const (.int .i64 0)))] false) (.cond (t 13) (.seq (.region 3 [q 14 (.build 25 []), q 15 (.mov (t 6)), ⟨none, .store 25 (t 4) (t 14), none, []⟩, q 5 (.asg 0 (t 15) 2)] false) .ret) .skip))) (.seq (.region 4 [q 17 (.mov (t 0)), q 18 (.mov (t 1)), q 19 (.call 0 (.func 127) [(t 17), (t 18), (.const (.int .i64 0))]), q 16 (.mov (t 19)), q 20 (.extract (t 16) 0), q 21 (.extract (t 16) 1), q 7 (.alloc 25), ⟨none, .store 25 (t 7) (t 20), none, []⟩, q 8 (.asg 0 (t 21) 4)] false) (.seq (.seq (.region 5 [q 22 (.mov (t 8)), q 23 (.un .not (t 22))] false) (.cond (t 23) (.seq (.region 6 [q 24 (.build 25 []), ⟨none, .store 25 (t 4) (t 24), none, []⟩, q 5 (.asg 0 (.const (.int .i64 3)) 2)] false) .ret) .skip)) (.seq (.region 7 [q 25 (.load 25 (t 7)), ⟨none, .store 25 (t 4) (t 25), none, []⟩, q 5 (.asg 0 (.const (.int .i64 0)) 2)] false) .ret)))))
def spec_BracketOf_L : Live := [(0, [0, 1]), (1, [0, 1, 4]), (2, [0, 1, 4, 6]), (3, [4, 6]), (4, [0, 1, 4]), (5, [4, 7, 8]), (6, [4]), (7, [4, 7]), (100013, [0, 1, 4, 6, 13]), (100023, [4, 7, 23])]
noncomputable def spec_BracketOf (a0 : Int) (a1 : Int) : Option ((Vec Int 64) × Int) :=
  (Option.bind (spec_l04Range a0 a1 1 6) fun r1 => (if (r1 != 0) then (some (((vrep 64 (0 : Int)), r1))) else (Option.bind (spec_l04Bracket a0 a1 0) fun r4 => (if (!r4.2) then (some (((vrep 64 (0 : Int)), 3))) else (some (r4.1, 0))))))
theorem spec_BracketOf_ok (a0 : Int) (a1 : Int) (r : ((Vec Int 64) × Int)) (h : spec_BracketOf a0 a1 = some r) : Den Try.prog 32 [(i6 a0), (i6 a1)] { r := (.tuple [(eA64u8 r.1), (i6 r.2)]) } := by
  refine den_of (rs := [(eA64u8 r.1), (i6 r.2)]) (ac := spec_BracketOf_c) (L := spec_BracketOf_L) (n := 26) (m := []) (c := Try.f32.body.getD .skip) good Try.func32 (by kernel_rfl) (by kernel_rfl) Try.ntmps32 rfl rfl (by kernel_rfl) rfl rfl ?_
  refine a_st (σ' := ⟨[(0, (i6 a0)), (1, (i6 a1))], []⟩) (by kernel_rfl) ?_
  unfold spec_BracketOf_c
  refine sr (vo 1400 (eA64u8 ((vrep 64 (0 : Int)))) rfl rfl (vp (i6 0) rfl (nx ⟨[(0, (i6 a0)), (1, (i6 a1)), (4, (ow 4))], [(4, (bk (eA64u8 ((vrep 64 (0 : Int))))))]⟩ (by kernel_rfl) (a_seq (sr (vp (i6 a0) rfl (vp (i6 a1) rfl ?_)))))))
  obtain ⟨r1, hr2, h⟩ := bind_some h
  refine a_call (args := [(i6 a0), (i6 a1), (i6 1), (i6 6)]) (u := []) (r := (i6 r1)) rfl rfl (spec_l04Range_ok a0 a1 1 6 r1 hr2) rfl (vp (i6 r1) rfl (nx ⟨[(0, (i6 a0)), (1, (i6 a1)), (4, (ow 4)), (6, (i6 r1))], [(4, (bk (eA64u8 ((vrep 64 (0 : Int))))))]⟩ (by kernel_rfl) (sr (vp (i6 r1) rfl (vp (.bool (r1 != 0)) rfl (nx ⟨[(0, (i6 a0)), (1, (i6 a1)), (4, (ow 4)), (6, (i6 r1)), (13, (.bool (r1 != 0)))], [(4, (bk (eA64u8 ((vrep 64 (0 : Int))))))]⟩ (by kernel_rfl) ?_))))))
  cases hb3 : (r1 != 0)
  · have h := ite_f hb3 h
    refine a_cond_f rfl (a_skip (a_next (σ' := ⟨[(0, (i6 a0)), (1, (i6 a1)), (4, (ow 4))], [(4, (bk (eA64u8 ((vrep 64 (0 : Int))))))]⟩) (by kernel_rfl) (sr (vp (i6 a0) rfl (vp (i6 a1) rfl ?_)))))
    obtain ⟨r4, hr5, h⟩ := bind_some h
    refine a_call (args := [(i6 a0), (i6 a1), (i6 0)]) (u := []) (r := (.tuple [(eA64u8 r4.1), (.bool r4.2)])) rfl rfl (spec_l04Bracket_ok a0 a1 0 r4 hr5) rfl (vp (.tuple [(eA64u8 r4.1), (.bool r4.2)]) rfl (vb (eA64u8 r4.1) rfl rfl (vb (.bool r4.2) rfl rfl (vo 1700 (eA64u8 ((vrep 64 (0 : Int)))) rfl rfl (vs (eA64u8 r4.1) rfl rfl (fun _ => rfl) rfl rfl rfl rfl rfl rfl (vp (.bool r4.2) rfl (nx ⟨[(4, (ow 4)), (7, (ow 7)), (8, (.bool r4.2))], [(4, (bk (eA64u8 ((vrep 64 (0 : Int)))))), (7, (bk (eA64u8 r4.1)))]⟩ (by kernel_rfl) (a_seq (sr ?_)))))))))
    refine vp (.bool r4.2) rfl (vp (.bool (!r4.2)) rfl (nx ⟨[(4, (ow 4)), (7, (ow 7)), (23, (.bool (!r4.2)))], [(4, (bk (eA64u8 ((vrep 64 (0 : Int)))))), (7, (bk (eA64u8 r4.1)))]⟩ (by kernel_rfl) ?_))
    cases hb7 : (!r4.2)
    · have h := ite_f hb7 h
      refine a_cond_f rfl (a_skip (a_next (σ' := ⟨[(4, (ow 4)), (7, (ow 7))], [(4, (bk (eA64u8 ((vrep 64 (0 : Int)))))), (7, (bk (eA64u8 r4.1)))]⟩) (by kernel_rfl) (sr (vl (eA64u8 r4.1) rfl rfl rfl rfl rfl rfl (vs (eA64u8 r4.1) rfl rfl (fun _ => rfl) rfl rfl rfl rfl rfl rfl (vp (i6 0) rfl (nx _ rfl (a_ret ?_))))))))
      have hl10 : LdOk [] (eA64u8 r4.1) [] 64 true (eA64u8 r4.1) := (.nil rfl rfl rfl)
      refine ⟨.inr rfl, ?_⟩
      rw [Try.results32]
      cases h
      exact ⟨_, _, _, _, _, ld_own (i := ⟨.arr 64 5, 64, 64, (eA64u8 (vrep 64 (0 : Int)))⟩) rfl rfl rfl hl10, hl10.c, .inl ⟨rfl, .inl rfl⟩, rfl, ⟨_, _, _, _, _, rfl, trivial, .inl ⟨rfl, .inl rfl⟩, rfl, rfl⟩⟩
    · have h := ite_t hb7 h
      refine a_cond_t rfl (sr (vq (eA64u8 ((vrep 64 (0 : Int)))) rfl ⟨⟨_, rfl, rfl⟩, all_nil⟩ (vs (eA64u8 ((vrep 64 (0 : Int)))) rfl rfl (fun _ => rfl) rfl rfl rfl rfl rfl rfl (vp (i6 3) rfl (nx _ rfl (a_ret (t_ret ?_)))))))
      have hl12 : LdOk [] (eA64u8 ((vrep 64 (0 : Int)))) [] 64 true (eA64u8 ((vrep 64 (0 : Int)))) := (.nil rfl rfl rfl)
      refine ⟨.inr rfl, ?_⟩
      rw [Try.results32]
      cases h
      exact ⟨_, _, _, _, _, ld_own (i := ⟨.arr 64 5, 64, 64, (eA64u8 (vrep 64 (0 : Int)))⟩) rfl rfl rfl hl12, hl12.c, .inl ⟨rfl, .inl rfl⟩, rfl, ⟨_, _, _, _, _, rfl, trivial, .inl ⟨rfl, .inl rfl⟩, rfl, rfl⟩⟩
  · have h := ite_t hb3 h
    refine a_cond_t rfl (sr (vq (eA64u8 ((vrep 64 (0 : Int)))) rfl ⟨⟨_, rfl, rfl⟩, all_nil⟩ (vp (i6 r1) rfl (vs (eA64u8 ((vrep 64 (0 : Int)))) rfl rfl (fun _ => rfl) rfl rfl rfl rfl rfl rfl (vp (i6 r1) rfl (nx _ rfl (a_ret (t_ret ?_))))))))
    have hl14 : LdOk [] (eA64u8 ((vrep 64 (0 : Int)))) [] 64 true (eA64u8 ((vrep 64 (0 : Int)))) := (.nil rfl rfl rfl)
    refine ⟨.inr rfl, ?_⟩
    rw [Try.results32]
    cases h
    exact ⟨_, _, _, _, _, ld_own (i := ⟨.arr 64 5, 64, 64, (eA64u8 (vrep 64 (0 : Int)))⟩) rfl rfl rfl hl14, hl14.c, .inl ⟨rfl, .inl rfl⟩, rfl, ⟨_, _, _, _, _, rfl, trivial, .inl ⟨rfl, .inl rfl⟩, rfl, rfl⟩⟩
def impl_prime_first_c : ACode := (.seq (.region 0 [q 4 (.asg 1 (.const (.slice none 0 0)) 108)] false) (.seq (.region 1 [q 5 (.asg 2 (.const (.slice none 0 0)) 108)] false) (.seq (.seq (.region 2 [q 7 (.mov (t 1)), q 8 (.mov (.const (.int .i64 0)))] false) (.block 0 (.loop (.seq (.region 3 [q 9 (.bin .lss 2 (t 8) (t 7))] false) (.seq (.cond (t 9) .skip (.exit 0)) (.seq (.block 1 (.seq (.region 4 [q 10 (.mov (t 8)), q 6 (.asg 0 (t 10) 2)] false) (.region 5 [q 11 (.mov (t 5)), q 12 (.mov (t 0)), q 13 (.mov (t 1)), q 14 (.mov (t 6)), q 15 (.call 0 (.func 125) [(t 12), (t 13), (t 14)]), q 16 (.bslice 0 108 1 [(0, (t 15))]), q 17 (.blt 0 .append [(t 11), (t 16)] [108, 108]), q 5 (.asg 2 (t 17) 108)] false))) (.region 6 [q 18 (.bin .add 2 (t 8) (.const (.int .i64 1))), q 8 (.mov (t 18))] false))))))) (.seq (.region 7 [q 19 (.mov (t 5)), q 4 (.asg 1 (t 19) 108)] false) .ret))))
def impl_prime_first_L : Live := [(0, [0, 1]), (1, [0, 1]), (2, [0, 1, 5]), (3, [0, 1, 5, 7, 8]), (4, [0, 1, 5, 7, 8]), (5, [0, 1, 5, 6, 7, 8]), (6, [0, 1, 5, 7, 8]), (7, [5]), (100009, [0, 1, 5, 7, 8, 9])]
noncomputable def impl_prime_first_l1 (a1 : Int) (a0 : Int) (x27 : Int) (x28 : (List (List Int))) : Option ((Int × (List (List Int))) ⊕ (List (List Int))) :=
  (if (decide (x27 < a1)) then (Option.bind (impl_prime_bracket a0 a1 x27) fun r37 => (ifp ((x28.length + ([r37] : List (List Int)).length) * 24 ≤ 140737488355328) ((some (.inl ((IntKind.i64.wrap (x27 + 1), (x28 ++ ([r37]))))))))) else (some (.inr x28)))
noncomputable def impl_prime_first (a0 : Int) (a1 : Int) : Option (List (List Int)) :=
  (Option.bind (α := (List (List Int))) ((loopM (fun s : (Int × (List (List Int))) => impl_prime_first_l1 a1 a0 s.1 s.2) (0, []))) fun x19 => (some x19))
theorem impl_prime_first_ok (a0 : Int) (a1 : Int) (r : (List (List Int))) (h : impl_prime_first a0 a1 = some r) : Den Try.prog 129 [(i6 a0), (i6 a1)] { r := (eSSi64 r) } := by
  refine den_of (rs := [(eSSi64 r)]) (ac := impl_prime_first_c) (L := impl_prime_first_L) (n := 20) (m := [(4, 1), (5, 2)]) (c := Try.f129.body.getD .skip) good Try.func129 (by kernel_rfl) (by kernel_rfl) Try.ntmps129 rfl rfl (by kernel_rfl) rfl rfl ?_
  refine a_st (σ' := ⟨[(0, (i6 a0)), (1, (i6 a1))], []⟩) (by kernel_rfl) ?_
  unfold impl_prime_first_c
  refine sr (vp (eSSi64 ([])) rfl (nx ⟨[(0, (i6 a0)), (1, (i6 a1))], []⟩ (by kernel_rfl) (sr (vu (.osl 1500) [(1500, (bk (.row 1 (([]).map eSi64))))] rfl trivial rfl (nx ⟨[(0, (i6 a0)), (1, (i6 a1)), (5, (.osl 5))], [(5, (bk (.row 1 (([]).map eSi64))))]⟩ (by kernel_rfl) ?_)))))
  obtain ⟨y20, hy21, hk22⟩ := bind_some h
  clear h
  refine a_join (emb := fun (s : (List (List Int))) => ⟨[(5, (.osl 5))], [(5, (bk (.row 1 (s.map eSi64))))]⟩) (pre := fun s => s = y20) ?_ ?_
  · rintro x19 rfl
    have h := hk22
    refine a_st (σ' := ⟨[(5, (.osl 5))], [(5, (bk (.row 1 (x19.map eSi64))))]⟩) (by kernel_rfl) (sr (vp (.osl 5) rfl (vu (eSSi64 x19) [(5, (bf (.row 1 (x19.map eSi64))))] rfl trivial rfl (nx _ rfl (a_ret ?_)))))
    refine ⟨.inr rfl, ?_⟩
    rw [Try.results129]
    cases h
    exact ⟨_, _, _, _, _, rfl, trivial, .inl ⟨rfl, .inl rfl⟩, rfl, rfl⟩
  · have h := hy21
    refine sr (vp (i6 a1) rfl (vp (i6 0) rfl (nx ⟨[(0, (i6 a0)), (1, (i6 a1)), (5, (.osl 5)), (7, (i6 a1)), (8, (i6 0))], [(5, (bk (.row 1 (([]).map eSi64))))]⟩ (by kernel_rfl) (a_block ?_))))
    refine a_loop (emb := fun (s : (Int × (List (List Int)))) => ⟨[(0, (i6 a0)), (1, (i6 a1)), (5, (.osl 5)), (7, (i6 a1)), (8, (i6 s.1))], [(5, (bk (.row 1 (s.2.map eSi64))))]⟩) (body := (fun s : (Int × (List (List Int))) => impl_prime_first_l1 a1 a0 s.1 s.2)) (G := fun q => some q = some y20) h rfl ?_ (by kernel_rfl)
    rintro X33 ⟨x27, x28⟩ x34 h hX35
    have h : impl_prime_first_l1 a1 a0 x27 x28 = some x34 := h
    refine a_st (σ' := ⟨[(0, (i6 a0)), (1, (i6 a1)), (5, (.osl 5)), (7, (i6 a1)), (8, (i6 x27))], [(5, (bk (.row 1 (x28.map eSi64))))]⟩) (by kernel_rfl) (sr (vp (.bool ((decide (x27 < a1)))) rfl (nx ⟨[(0, (i6 a0)), (1, (i6 a1)), (5, (.osl 5)), (7, (i6 a1)), (8, (i6 x27)), (9, (.bool ((decide (x27 < a1)))))], [(5, (bk (.row 1 (x28.map eSi64))))]⟩ (by kernel_rfl) (a_seq ?_))))
    cases hb36 : (decide (x27 < a1))
    · have h := ite_f hb36 h
      refine a_cond_f rfl (a_exit (t_exit ?_))
      cases h
      have h := hX35
      refine t_exit (b_exit ?_)
      exact j_leaf x28 (Option.some.inj h) (by kernel_rfl)
    · have h := ite_t hb36 h
      refine a_cond_t rfl (a_skip (a_next (σ' := ⟨[(0, (i6 a0)), (1, (i6 a1)), (5, (.osl 5)), (7, (i6 a1)), (8, (i6 x27))], [(5, (bk (.row 1 (x28.map eSi64))))]⟩) (by kernel_rfl) (a_seq (a_block (sr (vp (i6 x27) rfl (vp (i6 x27) rfl (nx ⟨[(0, (i6 a0)), (1, (i6 a1)), (5, (.osl 5)), (6, (i6 x27)), (7, (i6 a1)), (8, (i6 x27))], [(5, (bk (.row 1 (x28.map eSi64))))]⟩ (by kernel_rfl) (a_region ?_)))))))))
      refine vp (.osl 5) rfl (vp (i6 a0) rfl (vp (i6 a1) rfl (vp (i6 x27) rfl ?_)))
      obtain ⟨r37, hr38, h⟩ := bind_some h
      refine a_call (args := [(i6 a0), (i6 a1), (i6 x27)]) (u := []) (r := (eSi64 r37)) rfl rfl (impl_prime_bracket_ok a0 a1 x27 r37 hr38) rfl (vq (.sl 1 true (([r37]).map eSi64)) rfl ⟨(Nat.le_of_ble_eq_true rfl), (Nat.le_of_ble_eq_true rfl), (all_cons ⟨(Nat.le_of_ble_eq_true rfl), rfl⟩ all_nil)⟩ ?_)
      obtain ⟨hc39, h⟩ := ifp_some h
      refine vu (.osl 2700) [(2700, (bk (.row 1 (((x28 ++ ([r37]))).map eSi64)))), (5, none)] (app_run (i := ⟨.slice 2, 1, 24, (eSi64 [])⟩) (f := eSi64) (l := x28) (l2 := [r37]) rfl rfl rfl rfl (fun _ => rfl) rfl rfl) (app_c (f := eSi64) (s := 1) (sz := 1) (by' := 24) (u := []) (id := 5) hc39 (.inr rfl) rfl rfl rfl) rfl (vp (.osl 2700) rfl (a_nil (b_norm (a_next (σ' := ⟨[(0, (i6 a0)), (1, (i6 a1)), (5, (.osl 5)), (7, (i6 a1)), (8, (i6 x27))], [(5, (bk (.row 1 (((x28 ++ ([r37]))).map eSi64))))]⟩) (by kernel_rfl) (a_region (vp (i6 (IntKind.i64.wrap (x27 + 1))) rfl (vp (i6 (IntKind.i64.wrap (x27 + 1))) rfl (a_nil ?_))))))))
      cases h
      exact a_again (by kernel_rfl) hX35
def impl_prime_times_c : ACode := (.seq (.region 0 [q 6 (.asg 1 (.const (.slice none 0 0)) 80)] false) (.seq (.seq (.region 1 [q 14 (.mov (t 1)), q 15 (.blt 0 .len [(t 14)] [80]), q 16 (.bin .eql 3 (t 15) (.const (.int .i64 0))), q 17 (.mov (t 16)), ⟨some 18, .mov (t 2), some (17, false), []⟩, ⟨some 19, .blt 0 .len [(t 18)] [80], some (17, false), []⟩, ⟨some 20, .bin .eql 3 (t 19) (.const (.int .i64 0)), some (17, false), []⟩, q 21 (.pick (t 17) (.const (.bool true)) (t 20))] false) (.cond (t 21) (.seq (.region 2 [q 6 (.asg 1 (.const (.slice none 0 0)) 80)] false) .ret) .skip)) (.seq (.region 3 [q 22 (.mov (t 1)), q 23 (.blt 0 .len [(t 22)] [80]), q 24 (.mov (t 2)), q 25 (.blt 0 .len [(t 24)] [80]), q 26 (.bin .add 3 (t 23) (t 25)), q 27 (.bin .sub 3 (t 26) (.const (.int .i64 1))), q 28 (.mkslice 80 (t 27) (t 27)), q 7 (.asg 2 (t 28) 80)] false) (.seq (.seq (.region 4 [q 29 (.mov (t 1)), q 30 (.blt 0 .len [(t 29)] [80]), q 31 (.mov (.const (.int .i64 0)))] false) (.block 0 (.loop (.seq (.region 5 [q 32 (.bin .lss 3 (t 31) (t 30))] false) (.seq (.cond (t 32) .skip (.exit 0)) (.seq (.block 1 (.seq (.region 6 [q 33 (.mov (t 31)), q 34 (.indexAddr 80 (t 29) (t 31)), q 35 (.load 2 (t 34)), q 8 (.asg 0 (t 33) 3), q 9 (.asg 0 (t 35) 2)] false) (.seq (.region 7 [q 36 (.mov (t 2)), q 37 (.blt 0 .len [(t 36)] [80]), q 38 (.mov (.const (.int .i64 0)))] false) (.block 2 (.loop (.seq (.region 8 [q 39 (.bin .lss 3 (t 38) (t 37))] false) (.seq (.cond (t 39) .skip (.exit 2)) (.seq (.block 3 (.seq (.region 9 [q 40 (.mov (t 38)), q 41 (.indexAddr 80 (t 36) (t 38)), q 42 (.load 2 (t 41)), q 10 (.asg 0 (t 40) 3), q 11 (.asg 0 (t 42) 2)] false) (.region 10 [q 43 (.mov (t 7)), q 44 (.mov (t 8)), q 45 (.mov (t 10)), q 46 (.bin .add 3 (t 44) (t 45)), q 47 (.indexAddr 80 (t 43) (t 46)), q 48 (.load 2 (t 47)), q 49 (.mov (t 9)), q 50 (.mov (t 11)), q 51 (.bin .mul 2 (t 49) (t 50)), q 52 (.bin .add 2 (t 48) (t 51)), q 53 (.indexAddr 80 (t 43) (t 46)), ⟨none, .store 2 (t 53) (t 52), none, []⟩] false))) (.region 11 [q 54 (.bin .add 3 (t 38) (.const (.int .i64 1))), q 38 (.mov (t 54))] false))))))))) (.region 12 [q 55 (.bin .add 3 (t 31) (.const (.int .i64 1))), q 31 (.mov (t 55))] false))))))) (.seq (.seq (.region 13 [q 56 (.mov (t 7)), q 57 (.blt 0 .len [(t 56)] [80]), q 58 (.mov (.const (.int .i64 0)))] false) (.block 4 (.loop (.seq (.region 14 [q 59 (.bin .lss 3 (t 58) (t 57))] false) (.seq (.cond (t 59) .skip (.exit 4)) (.seq (.block 5 (.seq (.region 15 [q 60 (.mov (t 58)), q 61 (.indexAddr 80 (t 56) (t 58)), q 62 (.load 2 (t 61)), q 12 (.asg 0 (t 60) 3), q 13 (.asg 0 (t 62) 2)] false) (.region 16 [q 63 (.mov (t 7)), q 64 (.mov (t 12)), q 65 (.mov (t 13)), q 66 (.mov (t 0)), q 67 (.bin .rem 2 (t 65) (t 66)), q 68 (.indexAddr 80 (t 63) (t 64)), ⟨none, .store 2 (t 68) (t 67), none, []⟩] false))) (.region 17 [q 69 (.bin .add 3 (t 58) (.const (.int .i64 1))), q 58 (.mov (t 69))] false))))))) (.seq (.region 18 [q 70 (.mov (t 7)), q 71 (.call 0 (.func 180) [(t 70)]), q 6 (.asg 1 (t 71) 80)] false) .ret))))))
def impl_prime_times_L : Live := [(0, [0, 1, 2]), (1, [0, 1, 2]), (2, []), (3, [0, 1, 2]), (4, [0, 1, 2, 7]), (5, [0, 2, 7, 29, 30, 31]), (6, [0, 2, 7, 29, 30, 31]), (7, [0, 2, 7, 8, 9, 29, 30, 31]), (8, [0, 2, 7, 8, 9, 29, 30, 31, 36, 37, 38]), (9, [0, 2, 7, 8, 9, 29, 30, 31, 36, 37, 38]), (10, [0, 2, 7, 8, 9, 10, 11, 29, 30, 31, 36, 37, 38]), (11, [0, 2, 7, 8, 9, 29, 30, 31, 36, 37, 38]), (12, [0, 2, 7, 29, 30, 31]), (13, [0, 7]), (14, [0, 7, 56, 57, 58]), (15, [0, 7, 56, 57, 58]), (16, [0, 7, 12, 13, 56, 57, 58]), (17, [0, 7, 56, 57, 58]), (18, [7]), (100021, [0, 1, 2, 21]), (100032, [0, 2, 7, 29, 30, 31, 32]), (100039, [0, 2, 7, 8, 9, 29, 30, 31, 36, 37, 38, 39]), (100059, [0, 7, 56, 57, 58, 59])]
noncomputable def impl_prime_times_l2 (a2 : (List Int)) (x353 : Int) (a1 : (List Int)) (x492 : Int) (x493 : (List Int)) : Option ((Int × (List Int)) ⊕ (List Int)) :=
  (if (decide (x492 < (a2.length : Int))) then (ifp (0 ≤ x492 ∧ x492 < ((a2.length : Nat) : Int)) ((ifp (0 ≤ IntKind.i64.wrap (x353 + x492) ∧ IntKind.i64.wrap (x353 + x492) < ((x493.length : Nat) : Int)) ((letp (IntKind.i64.wrap (((rd x493 (IntKind.i64.wrap (x353 + x492)).toNat)) + (IntKind.i64.wrap ((rd a1 x353.toNat) * (rd a2 x492.toNat))))) fun x511 => (ifp (0 ≤ IntKind.i64.wrap (x353 + x492) ∧ IntKind.i64.wrap (x353 + x492) < ((x493.length : Nat) : Int)) ((some (.inl ((IntKind.i64.wrap (x492 + 1), (x493.set (IntKind.i64.wrap (x353 + x492)).toNat x511)))))))))))) else (some (.inr x493)))
noncomputable def impl_prime_times_l1 (a1 : (List Int)) (a2 : (List Int)) (x353 : Int) (x354 : (List Int)) : Option ((Int × (List Int)) ⊕ (List Int)) :=
  (if (decide (x353 < (a1.length : Int))) then (Option.bind (α := (List Int)) ((ifp (0 ≤ x353 ∧ x353 < ((a1.length : Nat) : Int)) ((loopM (fun s : (Int × (List Int)) => impl_prime_times_l2 a2 x353 a1 s.1 s.2) (0, x354))))) fun x475 => (some (.inl ((IntKind.i64.wrap (x353 + 1), x475))))) else (some (.inr x354)))
noncomputable def impl_prime_times_l3 (x262 : (List Int)) (a0 : Int) (x551 : Int) (x552 : (List Int)) : Option ((Int × (List Int)) ⊕ (List Int)) :=
  (if (decide (x551 < (x262.length : Int))) then (ifp (0 ≤ x551 ∧ x551 < ((x552.length : Nat) : Int)) ((ifp (a0 ≠ 0) ((ifp (0 ≤ x551 ∧ x551 < ((x552.length : Nat) : Int)) ((some (.inl ((IntKind.i64.wrap (x551 + 1), (x552.set x551.toNat (Int.tmod (rd x552 x551.toNat) a0)))))))))))) else (some (.inr x552)))
noncomputable def impl_prime_times (a0 : Int) (a1 : (List Int)) (a2 : (List Int)) : Option (List Int) :=
  (Option.bind (α := Bool) ((if ((a1.length : Int) == 0) then (some true) else (some (((a2.length : Int) == 0))))) fun x2 => (if x2 then (some ([])) else (letp (IntKind.i64.wrap ((IntKind.i64.wrap ((a1.length : Int) + (a2.length : Int))) - 1)) fun x8 => (ifp (0 ≤ x8 ∧ x8 ≤ 140737488355328 ∧ 8 * x8 ≤ 140737488355328) ((Option.bind (α := (List Int)) ((loopM (fun s : (Int × (List Int)) => impl_prime_times_l1 a1 a2 s.1 s.2) (0, List.replicate x8.toNat (0 : Int)))) fun x262 => (Option.bind (α := (List Int)) ((loopM (fun s : (Int × (List Int)) => impl_prime_times_l3 x262 a0 s.1 s.2) (0, x262))) fun x541 => (Option.bind (impl_row_trimmed x541) fun r569 => (some r569)))))))))
theorem impl_prime_times_ok (a0 : Int) (a1 : (List Int)) (a2 : (List Int)) (r : (List Int)) (h : impl_prime_times a0 a1 a2 = some r) : Den Try.prog 102 [(i6 a0), (eSi64 a1), (eSi64 a2)] { r := (eSi64 r) } := by
  refine den_of (rs := [(eSi64 r)]) (ac := impl_prime_times_c) (L := impl_prime_times_L) (n := 72) (m := [(6, 1), (7, 2)]) (c := Try.f102.body.getD .skip) good Try.func102 (by kernel_rfl) (by kernel_rfl) Try.ntmps102 rfl rfl (by kernel_rfl) rfl rfl ?_
  refine a_st (σ' := ⟨[(0, (i6 a0)), (1, (eSi64 a1)), (2, (eSi64 a2))], []⟩) (by kernel_rfl) ?_
  unfold impl_prime_times_c
  refine sr (vp (eSi64 ([])) rfl (nx ⟨[(0, (i6 a0)), (1, (eSi64 a1)), (2, (eSi64 a2))], []⟩ (by kernel_rfl) (a_seq ?_)))
  obtain ⟨y3, hy4, hk5⟩ := bind_some h
  clear h
  refine a_join (emb := fun (s : Bool) => ⟨[(0, (i6 a0)), (1, (eSi64 a1)), (2, (eSi64 a2)), (21, (.bool s))], []⟩) (pre := fun s => s = y3) ?_ ?_
  · rintro x2 rfl
    have h := hk5
    refine a_st (σ' := ⟨[(0, (i6 a0)), (1, (eSi64 a1)), (2, (eSi64 a2)), (21, (.bool x2))], []⟩) (by kernel_rfl) ?_
    cases hb7 : x2
    · have h := ite_f hb7 h
      refine a_cond_f rfl (a_skip (a_next (σ' := ⟨[(0, (i6 a0)), (1, (eSi64 a1)), (2, (eSi64 a2))], []⟩) (by kernel_rfl) (sr (vp (eSi64 a1) rfl (vq (i6 (a1.length : Int)) (len_run rfl rfl) trivial (vp (eSi64 a2) rfl (vq (i6 (a2.length : Int)) (len_run rfl rfl) trivial (vp (i6 (IntKind.i64.wrap ((a1.length : Int) + (a2.length : Int)))) rfl ?_))))))))
      obtain ⟨x8, hx9, h⟩ := letp_some h
      refine a_val' (v := (i6 (IntKind.i64.wrap ((IntKind.i64.wrap ((a1.length : Int) + (a2.length : Int))) - 1)))) (v' := (i6 x8)) (u := []) (u' := []) rfl (congrArg (fun z => ((i6 z) : AV)) hx9) rfl trivial rfl ?_
      obtain ⟨hc10, h⟩ := ifp_some h
      refine vu (.osl 3800) [(3800, (bk (.row 1 ((List.replicate x8.toNat (0 : Int)).map (AV.int .i64)))))] (mk_run (i := ⟨.int .i64, 1, 8, (.int .i64 0)⟩) (f := (AV.int .i64)) (y := (0 : Int)) rfl rfl rfl rfl rfl rfl) ⟨rfl, hc10.1, hc10.2.1, hc10.2.2, (Nat.le_of_ble_eq_true rfl)⟩ rfl (vp (.osl 3800) rfl (nx ⟨[(0, (i6 a0)), (1, (eSi64 a1)), (2, (eSi64 a2)), (7, (.osl 7))], [(7, (bk (.row 1 ((List.replicate x8.toNat (0 : Int)).map (AV.int .i64)))))]⟩ (by kernel_rfl) ?_))
      obtain ⟨y263, hy264, hk265⟩ := bind_some h
      clear h
      refine a_join (emb := fun (s : (List Int)) => ⟨[(0, (i6 a0)), (7, (.osl 7))], [(7, (bk (.row 1 (s.map (AV.int .i64)))))]⟩) (pre := fun s => s = y263) ?_ ?_
      · rintro x262 rfl
        have h := hk265
        refine a_st (σ' := ⟨[(0, (i6 a0)), (7, (.osl 7))], [(7, (bk (.row 1 (x262.map (AV.int .i64)))))]⟩) (by kernel_rfl) ?_
        obtain ⟨y542, hy543, hk544⟩ := bind_some h
        clear h
        refine a_join (emb := fun (s : (List Int)) => ⟨[(7, (.osl 7))], [(7, (bk (.row 1 (s.map (AV.int .i64)))))]⟩) (pre := fun s => s = y542) ?_ ?_
        · rintro x541 rfl
          have h := hk544
          refine a_st (σ' := ⟨[(7, (.osl 7))], [(7, (bk (.row 1 (x541.map (AV.int .i64)))))]⟩) (by kernel_rfl) (sr (vp (.osl 7) rfl ?_))
          obtain ⟨r569, hr570, h⟩ := bind_some h
          refine a_call (args := [(eSi64 x541)]) (u := [(7, (bf (.row 1 (x541.map (AV.int .i64)))))]) (r := (eSi64 r569)) rfl rfl (impl_row_trimmed_ok x541 r569 hr570) rfl (vp (eSi64 r569) rfl (nx _ rfl (a_ret ?_)))
          refine ⟨.inr rfl, ?_⟩
          rw [Try.results102]
          cases h
          exact ⟨_, _, _, _, _, rfl, trivial, .inl ⟨rfl, .inl rfl⟩, rfl, rfl⟩
        · have h := hy543
          refine sr (vp (.osl 7) rfl (vq (i6 (x262.length : Int)) (leno_run rfl rfl rfl) trivial (vp (i6 0) rfl (nx ⟨[(0, (i6 a0)), (7, (.osl 7)), (56, (.osl 7)), (57, (i6 (x262.length : Int))), (58, (i6 0))], [(7, (bk (.row 1 (x262.map (AV.int .i64)))))]⟩ (by kernel_rfl) (a_block ?_)))))
          refine a_loop (emb := fun (s : (Int × (List Int))) => ⟨[(0, (i6 a0)), (7, (.osl 7)), (56, (.osl 7)), (57, (i6 (x262.length : Int))), (58, (i6 s.1))], [(7, (bk (.row 1 (s.2.map (AV.int .i64)))))]⟩) (body := (fun s : (Int × (List Int)) => impl_prime_times_l3 x262 a0 s.1 s.2)) (G := fun q => some q = some y542) h rfl ?_ (by kernel_rfl)
          rintro X559 ⟨x551, x552⟩ x560 h hX561
          have h : impl_prime_times_l3 x262 a0 x551 x552 = some x560 := h
          refine a_st (σ' := ⟨[(0, (i6 a0)), (7, (.osl 7)), (56, (.osl 7)), (57, (i6 (x262.length : Int))), (58, (i6 x551))], [(7, (bk (.row 1 (x552.map (AV.int .i64)))))]⟩) (by kernel_rfl) (sr (vp (.bool ((decide (x551 < (x262.length : Int))))) rfl (nx ⟨[(0, (i6 a0)), (7, (.osl 7)), (56, (.osl 7)), (57, (i6 (x262.length : Int))), (58, (i6 x551)), (59, (.bool ((decide (x551 < (x262.length : Int))))))], [(7, (bk (.row 1 (x552.map (AV.int .i64)))))]⟩ (by kernel_rfl) (a_seq ?_))))
          cases hb562 : (decide (x551 < (x262.length : Int)))
          · have h := ite_f hb562 h
            refine a_cond_f rfl (a_exit (t_exit ?_))
            cases h
            have h := hX561
            refine t_exit (b_exit ?_)
            exact j_leaf x552 (Option.some.inj h) (by kernel_rfl)
          · have h := ite_t hb562 h
            refine a_cond_t rfl (a_skip (a_next (σ' := ⟨[(0, (i6 a0)), (7, (.osl 7)), (56, (.osl 7)), (57, (i6 (x262.length : Int))), (58, (i6 x551))], [(7, (bk (.row 1 (x552.map (AV.int .i64)))))]⟩) (by kernel_rfl) (a_seq (a_block (sr (vp (i6 x551) rfl ?_))))))
            obtain ⟨hc563, h⟩ := ifp_some h
            refine vq (.own 7 [x551.toNat] [x551.toNat * 1]) rfl (lmap hc563) ?_
            have hl564 : LdOk [x551.toNat] (.row 1 (x552.map (AV.int .i64))) [x551.toNat * 1] 1 false (i6 (rd x552 x551.toNat)) := (.row (llt hc563) rfl (.nil rfl rfl rfl))
            refine vq (i6 (rd x552 x551.toNat)) (ld_own (i := ⟨.int .i64, 1, 8, (.int .i64 0)⟩) rfl rfl rfl hl564) hl564.c (vp (i6 x551) rfl (vp (i6 (rd x552 x551.toNat)) rfl (nx ⟨[(0, (i6 a0)), (7, (.osl 7)), (12, (i6 x551)), (13, (i6 (rd x552 x551.toNat))), (56, (.osl 7)), (57, (i6 (x262.length : Int))), (58, (i6 x551))], [(7, (bk (.row 1 (x552.map (AV.int .i64)))))]⟩ (by kernel_rfl) (a_region (vp (.osl 7) rfl (vp (i6 x551) rfl (vp (i6 (rd x552 x551.toNat)) rfl (vp (i6 a0) rfl ?_))))))))
            obtain ⟨hc565, h⟩ := ifp_some h
            refine vq (i6 (Int.tmod (rd x552 x551.toNat) a0)) rfl hc565 ?_
            obtain ⟨hc566, h⟩ := ifp_some h
            refine vq (.own 7 [x551.toNat] [x551.toNat * 1]) rfl (lmap hc566) ?_
            have hs567 : StOk [x551.toNat] (.row 1 (x552.map (AV.int .i64))) [x551.toNat * 1] 1 (i6 (Int.tmod (rd x552 x551.toNat) a0)) (.row 1 (((x552.set x551.toNat (Int.tmod (rd x552 x551.toNat) a0))).map (AV.int .i64))) := (.row (y := Int.tmod (rd x552 x551.toNat) a0) (llt hc566) rfl (.nil rfl rfl rfl rfl))
            refine vu .top [(7, (bk (.row 1 (((x552.set x551.toNat (Int.tmod (rd x552 x551.toNat) a0))).map (AV.int .i64)))))] (st_own (i := ⟨.int .i64, 1, 8, (.int .i64 0)⟩) rfl rfl (fun _ => rfl) rfl hs567) (hs567.c rfl) rfl (a_nil (b_norm (a_next (σ' := ⟨[(0, (i6 a0)), (7, (.osl 7)), (56, (.osl 7)), (57, (i6 (x262.length : Int))), (58, (i6 x551))], [(7, (bk (.row 1 (((x552.set x551.toNat (Int.tmod (rd x552 x551.toNat) a0))).map (AV.int .i64)))))]⟩) (by kernel_rfl) (a_region (vp (i6 (IntKind.i64.wrap (x551 + 1))) rfl (vp (i6 (IntKind.i64.wrap (x551 + 1))) rfl (a_nil ?_)))))))
            cases h
            exact a_again (by kernel_rfl) hX561
      · have h := hy264
        refine sr (vp (eSi64 a1) rfl (vq (i6 (a1.length : Int)) (len_run rfl rfl) trivial (vp (i6 0) rfl (nx ⟨[(0, (i6 a0)), (2, (eSi64 a2)), (7, (.osl 7)), (29, (eSi64 a1)), (30, (i6 (a1.length : Int))), (31, (i6 0))], [(7, (bk (.row 1 ((List.replicate x8.toNat (0 : Int)).map (AV.int .i64)))))]⟩ (by kernel_rfl) (a_block ?_)))))
        refine a_loop (emb := fun (s : (Int × (List Int))) => ⟨[(0, (i6 a0)), (2, (eSi64 a2)), (7, (.osl 7)), (29, (eSi64 a1)), (30, (i6 (a1.length : Int))), (31, (i6 s.1))], [(7, (bk (.row 1 (s.2.map (AV.int .i64)))))]⟩) (body := (fun s : (Int × (List Int)) => impl_prime_times_l1 a1 a2 s.1 s.2)) (G := fun q => some q = some y263) h rfl ?_ (by kernel_rfl)
        rintro X434 ⟨x353, x354⟩ x435 h hX436
        have h : impl_prime_times_l1 a1 a2 x353 x354 = some x435 := h
        refine a_st (σ' := ⟨[(0, (i6 a0)), (2, (eSi64 a2)), (7, (.osl 7)), (29, (eSi64 a1)), (30, (i6 (a1.length : Int))), (31, (i6 x353))], [(7, (bk (.row 1 (x354.map (AV.int .i64)))))]⟩) (by kernel_rfl) (sr (vp (.bool ((decide (x353 < (a1.length : Int))))) rfl (nx ⟨[(0, (i6 a0)), (2, (eSi64 a2)), (7, (.osl 7)), (29, (eSi64 a1)), (30, (i6 (a1.length : Int))), (31, (i6 x353)), (32, (.bool ((decide (x353 < (a1.length : Int))))))], [(7, (bk (.row 1 (x354.map (AV.int .i64)))))]⟩ (by kernel_rfl) (a_seq ?_))))
        cases hb437 : (decide (x353 < (a1.length : Int)))
        · have h := ite_f hb437 h
          refine a_cond_f rfl (a_exit (t_exit ?_))
          cases h
          have h := hX436
          refine t_exit (b_exit ?_)
          exact j_leaf x354 (Option.some.inj h) (by kernel_rfl)
        · have h := ite_t hb437 h
          refine a_cond_t rfl (a_skip (a_next (σ' := ⟨[(0, (i6 a0)), (2, (eSi64 a2)), (7, (.osl 7)), (29, (eSi64 a1)), (30, (i6 (a1.length : Int))), (31, (i6 x353))], [(7, (bk (.row 1 (x354.map (AV.int .i64)))))]⟩) (by kernel_rfl) ?_))
          obtain ⟨y476, hy477, hk478⟩ := bind_some h
          clear h
          refine a_join (emb := fun (s : (List Int)) => ⟨[(0, (i6 a0)), (2, (eSi64 a2)), (7, (.osl 7)), (29, (eSi64 a1)), (30, (i6 (a1.length : Int))), (31, (i6 x353))], [(7, (bk (.row 1 (s.map (AV.int .i64)))))]⟩) (pre := fun s => s = y476) ?_ ?_
          · rintro x475 rfl
            have h := hk478
            refine a_st (σ' := ⟨[(0, (i6 a0)), (2, (eSi64 a2)), (7, (.osl 7)), (29, (eSi64 a1)), (30, (i6 (a1.length : Int))), (31, (i6 x353))], [(7, (bk (.row 1 (x475.map (AV.int .i64)))))]⟩) (by kernel_rfl) (a_region (vp (i6 (IntKind.i64.wrap (x353 + 1))) rfl (vp (i6 (IntKind.i64.wrap (x353 + 1))) rfl (a_nil ?_))))
            cases h
            exact a_again (by kernel_rfl) hX436
          · have h := hy477
            refine a_block (sr (vp (i6 x353) rfl ?_))
            obtain ⟨hc479, h⟩ := ifp_some h
            refine vq (.ref (.row 1 (a1.map (AV.int .i64))) [x353.toNat] [x353.toNat * 1]) rfl (lmap hc479) ?_
            have hl480 : LdOk [x353.toNat] (.row 1 (a1.map (AV.int .i64))) [x353.toNat * 1] 1 false (i6 (rd a1 x353.toNat)) := (.row (llt hc479) rfl (.nil rfl rfl rfl))
            refine vq (i6 (rd a1 x353.toNat)) (ld_ref (i := ⟨.int .i64, 1, 8, (.int .i64 0)⟩) rfl rfl hl480) hl480.c (vp (i6 x353) rfl (vp (i6 (rd a1 x353.toNat)) rfl (nx ⟨[(0, (i6 a0)), (2, (eSi64 a2)), (7, (.osl 7)), (8, (i6 x353)), (9, (i6 (rd a1 x353.toNat))), (29, (eSi64 a1)), (30, (i6 (a1.length : Int))), (31, (i6 x353))], [(7, (bk (.row 1 (x354.map (AV.int .i64)))))]⟩ (by kernel_rfl) (sr (vp (eSi64 a2) rfl (vq (i6 (a2.length : Int)) (len_run rfl rfl) trivial (vp (i6 0) rfl (nx ⟨[(0, (i6 a0)), (2, (eSi64 a2)), (7, (.osl 7)), (8, (i6 x353)), (9, (i6 (rd a1 x353.toNat))), (29, (eSi64 a1)), (30, (i6 (a1.length : Int))), (31, (i6 x353)), (36, (eSi64 a2)), (37, (i6 (a2.length : Int))), (38, (i6 0))], [(7, (bk (.row 1 (x354.map (AV.int .i64)))))]⟩ (by kernel_rfl) (a_block ?_)))))))))
            refine a_loop (emb := fun (s : (Int × (List Int))) => ⟨[(0, (i6 a0)), (2, (eSi64 a2)), (7, (.osl 7)), (8, (i6 x353)), (9, (i6 (rd a1 x353.toNat))), (29, (eSi64 a1)), (30, (i6 (a1.length : Int))), (31, (i6 x353)), (36, (eSi64 a2)), (37, (i6 (a2.length : Int))), (38, (i6 s.1))], [(7, (bk (.row 1 (s.2.map (AV.int .i64)))))]⟩) (body := (fun s : (Int × (List Int)) => impl_prime_times_l2 a2 x353 a1 s.1 s.2)) (G := fun q => some q = some y476) h rfl ?_ (by kernel_rfl)
            rintro X503 ⟨x492, x493⟩ x504 h hX505
            have h : impl_prime_times_l2 a2 x353 a1 x492 x493 = some x504 := h
            refine a_st (σ' := ⟨[(0, (i6 a0)), (2, (eSi64 a2)), (7, (.osl 7)), (8, (i6 x353)), (9, (i6 (rd a1 x353.toNat))), (29, (eSi64 a1)), (30, (i6 (a1.length : Int))), (31, (i6 x353)), (36, (eSi64 a2)), (37, (i6 (a2.length : Int))), (38, (i6 x492))], [(7, (bk (.row 1 (x493.map (AV.int .i64)))))]⟩) (by kernel_rfl) (sr (vp (.bool ((decide (x492 < (a2.length : Int))))) rfl (nx ⟨[(0, (i6 a0)), (2, (eSi64 a2)), (7, (.osl 7)), (8, (i6 x353)), (9, (i6 (rd a1 x353.toNat))), (29, (eSi64 a1)), (30, (i6 (a1.length : Int))), (31, (i6 x353)), (36, (eSi64 a2)), (37, (i6 (a2.length : Int))), (38, (i6 x492)), (39, (.bool ((decide (x492 < (a2.length : Int))))))], [(7, (bk (.row 1 (x493.map (AV.int .i64)))))]⟩ (by kernel_rfl) (a_seq ?_))))
            cases hb506 : (decide (x492 < (a2.length : Int)))
            · have h := ite_f hb506 h
              refine a_cond_f rfl (a_exit (t_exit ?_))
              cases h
              have h := hX505
              refine t_exit (b_exit (b_norm ?_))
              exact j_leaf x493 (Option.some.inj h) (by kernel_rfl)
            · have h := ite_t hb506 h
              refine a_cond_t rfl (a_skip (a_next (σ' := ⟨[(0, (i6 a0)), (2, (eSi64 a2)), (7, (.osl 7)), (8, (i6 x353)), (9, (i6 (rd a1 x353.toNat))), (29, (eSi64 a1)), (30, (i6 (a1.length : Int))), (31, (i6 x353)), (36, (eSi64 a2)), (37, (i6 (a2.length : Int))), (38, (i6 x492))], [(7, (bk (.row 1 (x493.map (AV.int .i64)))))]⟩) (by kernel_rfl) (a_seq (a_block (sr (vp (i6 x492) rfl ?_))))))
              obtain ⟨hc507, h⟩ := ifp_some h
              refine vq (.ref (.row 1 (a2.map (AV.int .i64))) [x492.toNat] [x492.toNat * 1]) rfl (lmap hc507) ?_
              have hl508 : LdOk [x492.toNat] (.row 1 (a2.map (AV.int .i64))) [x492.toNat * 1] 1 false (i6 (rd a2 x492.toNat)) := (.row (llt hc507) rfl (.nil rfl rfl rfl))
              refine vq (i6 (rd a2 x492.toNat)) (ld_ref (i := ⟨.int .i64, 1, 8, (.int .i64 0)⟩) rfl rfl hl508) hl508.c (vp (i6 x492) rfl (vp (i6 (rd a2 x492.toNat)) rfl (nx ⟨[(0, (i6 a0)), (2, (eSi64 a2)), (7, (.osl 7)), (8, (i6 x353)), (9, (i6 (rd a1 x353.toNat))), (10, (i6 x492)), (11, (i6 (rd a2 x492.toNat))), (29, (eSi64 a1)), (30, (i6 (a1.length : Int))), (31, (i6 x353)), (36, (eSi64 a2)), (37, (i6 (a2.length : Int))), (38, (i6 x492))], [(7, (bk (.row 1 (x493.map (AV.int .i64)))))]⟩ (by kernel_rfl) (a_region (vp (.osl 7) rfl (vp (i6 x353) rfl (vp (i6 x492) rfl (vp (i6 (IntKind.i64.wrap (x353 + x492))) rfl ?_))))))))
              obtain ⟨hc509, h⟩ := ifp_some h
              refine vq (.own 7 [(IntKind.i64.wrap (x353 + x492)).toNat] [(IntKind.i64.wrap (x353 + x492)).toNat * 1]) rfl (lmap hc509) ?_
              have hl510 : LdOk [(IntKind.i64.wrap (x353 + x492)).toNat] (.row 1 (x493.map (AV.int .i64))) [(IntKind.i64.wrap (x353 + x492)).toNat * 1] 1 false (i6 ((rd x493 (IntKind.i64.wrap (x353 + x492)).toNat))) := (.row (llt hc509) rfl (.nil rfl rfl rfl))
              refine vq (i6 ((rd x493 (IntKind.i64.wrap (x353 + x492)).toNat))) (ld_own (i := ⟨.int .i64, 1, 8, (.int .i64 0)⟩) rfl rfl rfl hl510) hl510.c (vp (i6 (rd a1 x353.toNat)) rfl (vp (i6 (rd a2 x492.toNat)) rfl (vp (i6 (IntKind.i64.wrap ((rd a1 x353.toNat) * (rd a2 x492.toNat)))) rfl ?_)))
              obtain ⟨x511, hx512, h⟩ := letp_some h
              refine a_val' (v := (i6 (IntKind.i64.wrap (((rd x493 (IntKind.i64.wrap (x353 + x492)).toNat)) + (IntKind.i64.wrap ((rd a1 x353.toNat) * (rd a2 x492.toNat))))))) (v' := (i6 x511)) (u := []) (u' := []) rfl (congrArg (fun z => ((i6 z) : AV)) hx512) rfl trivial rfl ?_
              obtain ⟨hc513, h⟩ := ifp_some h
              refine vq (.own 7 [(IntKind.i64.wrap (x353 + x492)).toNat] [(IntKind.i64.wrap (x353 + x492)).toNat * 1]) rfl (lmap hc513) ?_
              have hs514 : StOk [(IntKind.i64.wrap (x353 + x492)).toNat] (.row 1 (x493.map (AV.int .i64))) [(IntKind.i64.wrap (x353 + x492)).toNat * 1] 1 (i6 x511) (.row 1 (((x493.set (IntKind.i64.wrap (x353 + x492)).toNat x511)).map (AV.int .i64))) := (.row (y := x511) (llt hc513) rfl (.nil rfl rfl rfl rfl))
              refine vu .top [(7, (bk (.row 1 (((x493.set (IntKind.i64.wrap (x353 + x492)).toNat x511)).map (AV.int .i64)))))] (st_own (i := ⟨.int .i64, 1, 8, (.int .i64 0)⟩) rfl rfl (fun _ => rfl) rfl hs514) (hs514.c rfl) rfl (a_nil (b_norm (a_next (σ' := ⟨[(0, (i6 a0)), (2, (eSi64 a2)), (7, (.osl 7)), (8, (i6 x353)), (9, (i6 (rd a1 x353.toNat))), (29, (eSi64 a1)), (30, (i6 (a1.length : Int))), (31, (i6 x353)), (36, (eSi64 a2)), (37, (i6 (a2.length : Int))), (38, (i6 x492))], [(7, (bk (.row 1 (((x493.set (IntKind.i64.wrap (x353 + x492)).toNat x511)).map (AV.int .i64)))))]⟩) (by kernel_rfl) (a_region (vp (i6 (IntKind.i64.wrap (x492 + 1))) rfl (vp (i6 (IntKind.i64.wrap (x492 + 1))) rfl (a_nil ?_)))))))
              cases h
              exact a_again (by kernel_rfl) hX505
    · have h := ite_t hb7 h
      refine a_cond_t rfl (sr (vp (eSi64 ([])) rfl (nx _ rfl (a_ret (t_ret ?_)))))
      refine ⟨.inr rfl, ?_⟩
      rw [Try.results102]
      cases h
      exact ⟨_, _, _, _, _, rfl, trivial, .inl ⟨rfl, .inl rfl⟩, rfl, rfl⟩
  · have h := hy4
    refine a_region (vp (eSi64 a1) rfl (vq (i6 (a1.length : Int)) (len_run rfl rfl) trivial (vp (.bool (((a1.length : Int) == 0))) rfl (vp (.bool (((a1.length : Int) == 0))) rfl ?_))))
    cases hb6 : ((a1.length : Int) == 0)
    · have h := ite_f hb6 h
      refine gp (eSi64 a2) rfl rfl (gq (i6 (a2.length : Int)) rfl (len_run rfl rfl) trivial (gp (.bool (((a2.length : Int) == 0))) rfl rfl (vp (.bool (((a2.length : Int) == 0))) rfl (a_nil ?_))))
      exact j_leaf (((a2.length : Int) == 0)) (Option.some.inj h) (by kernel_rfl)
    · have h := ite_t hb6 h
      refine a_gskip rfl (a_gskip rfl (a_gskip rfl (vp (.bool true) rfl (a_nil ?_))))
      exact j_leaf true (Option.some.inj h) (by kernel_rfl)
def impl_prime_productOf_c : ACode := (.seq (.region 0 [q 4 (.alloc 25), q 5 (.asg 0 (.const (.int .i64 0)) 2)] false) (.seq (.region 1 [q 9 (.bslice 0 80 1 [(0, (.const (.int .i64 1)))]), q 6 (.asg 1 (t 9) 80)] false) (.seq (.seq (.region 2 [q 10 (.mov (t 1)), q 11 (.blt 0 .len [(t 10)] [108]), q 12 (.mov (.const (.int .i64 0)))] false) (.block 0 (.loop (.seq (.region 3 [q 13 (.bin .lss 3 (t 12) (t 11))] false) (.seq (.cond (t 13) .skip (.exit 0)) (.seq (.block 1 (.seq (.region 4 [q 14 (.indexAddr 108 (t 10) (t 12)), q 15 (.load 80 (t 14)), q 8 (.asg 1 (t 15) 80)] false) (.seq (.seq (.region 5 [q 16 (.mov (t 6)), q 17 (.call 0 (.func 114) [(t 16)]), q 18 (.mov (t 8)), q 19 (.call 0 (.func 114) [(t 18)]), q 20 (.bin .add 2 (t 17) (t 19)), q 21 (.bin .gtr 2 (t 20) (.const (.int .i64 63)))] false) (.cond (t 21) (.seq (.region 6 [q 22 (.build 25 []), ⟨none, .store 25 (t 4) (t 22), none, []⟩, q 5 (.asg 0 (.const (.int .i64 3)) 2)] false) .ret) .skip)) (.region 7 [q 23 (.mov (t 0)), q 24 (.mov (t 6)), q 25 (.mov (t 8)), q 26 (.call 0 (.func 102) [(t 23), (t 24), (t 25)]), q 6 (.asg 1 (t 26) 80)] false)))) (.region 8 [q 27 (.bin .add 3 (t 12) (.const (.int .i64 1))), q 12 (.mov (t 27))] false))))))) (.seq (.region 9 [q 28 (.mov (t 6)), q 29 (.call 0 (.func 101) [(t 28)]), q 30 (.extract (t 29) 0), q 31 (.extract (t 29) 1), ⟨none, .store 25 (t 4) (t 30), none, []⟩, q 5 (.asg 0 (t 31) 2)] false) .ret))))
def impl_prime_productOf_L : Live := [(0, [0, 1]), (1, [0, 1, 4]), (2, [0, 1, 4, 6]), (3, [0, 4, 6, 10, 11, 12]), (4, [0, 4, 6, 10, 11, 12]), (5, [0, 4, 6, 8, 10, 11, 12]), (6, [4]), (7, [0, 4, 6, 8, 10, 11, 12]), (8, [0, 4, 6, 10, 11, 12]), (9, [4, 6]), (100013, [0, 4, 6, 10, 11, 12, 13]), (100021, [0, 4, 6, 8, 10, 11, 12, 21])]
noncomputable def impl_prime_productOf_l1 (a1 : (List (List Int))) (a0 : Int) (x55 : (List Int)) (x56 : Int) : Option (((List Int) × Int) ⊕ ((List Int) ⊕ ((Vec Int 64) × Int))) :=
  (if (decide (x56 < (a1.length : Int))) then (ifp (0 ≤ x56 ∧ x56 < ((a1.length : Nat) : Int)) ((Option.bind (impl_row_degree x55) fun r74 => (Option.bind (impl_row_degree (rd a1 x56.toNat)) fun r76 => (if (decide ((IntKind.i64.wrap (r74 + r76)) > 63)) then (some (.inr ((.inr (((vrep 64 (0 : Int)), 3)))))) else (Option.bind (impl_prime_times a0 x55 (rd a1 x56.toNat)) fun r79 => (some (.inl ((r79, IntKind.i64.wrap (x56 + 1))))))))))) else (some (.inr (.inl x55))))
noncomputable def impl_prime_productOf (a0 : Int) (a1 : (List (List Int))) : Option ((Vec Int 64) × Int) :=
  (Option.bind (α := ((List Int) ⊕ ((Vec Int 64) × Int))) ((loopM (fun s : ((List Int) × Int) => impl_prime_productOf_l1 a1 a0 s.1 s.2) ([1], 0))) fun z => match z with | .inl x40 => (Option.bind (impl_told x40) fun r84 => (some (r84.1, r84.2))) | .inr r88 => (some r88))
theorem impl_prime_productOf_ok (a0 : Int) (a1 : (List (List Int))) (r : ((Vec Int 64) × Int)) (h : impl_prime_productOf a0 a1 = some r) : Den Try.prog 128 [(i6 a0), (eSSi64 a1)] { r := (.tuple [(eA64u8 r.1), (i6 r.2)]) } := by
  refine den_of (rs := [(eA64u8 r.1), (i6 r.2)]) (ac := impl_prime_productOf_c) (L := impl_prime_productOf_L) (n := 32) (m := [(6, 1), (8, 1)]) (c := Try.f128.body.getD .skip) good Try.func128 (by kernel_rfl) (by kernel_rfl) Try.ntmps128 rfl rfl (by kernel_rfl) rfl rfl ?_
  refine a_st (σ' := ⟨[(0, (i6 a0)), (1, (eSSi64 a1))], []⟩) (by kernel_rfl) ?_
  unfold impl_prime_productOf_c
  refine sr (vo 1400 (eA64u8 ((vrep 64 (0 : Int)))) rfl rfl (vp (i6 0) rfl (nx ⟨[(0, (i6 a0)), (1, (eSSi64 a1)), (4, (ow 4))], [(4, (bk (eA64u8 ((vrep 64 (0 : Int))))))]⟩ (by kernel_rfl) (sr (vq (.sl 1 true (([1]).map (AV.int .i64))) rfl ⟨(Nat.le_of_ble_eq_true rfl), (Nat.le_of_ble_eq_true rfl), (all_cons ⟨(Nat.le_of_ble_eq_true rfl), rfl⟩ all_nil)⟩ (vq (eSi64 ([1])) (asg_tight (i := ⟨.int .i64, 1, 8, (.int .i64 0)⟩) (f := (AV.int .i64)) (l := [1]) rfl rfl rfl) trivial (nx ⟨[(0, (i6 a0)), (1, (eSSi64 a1)), (4, (ow 4)), (6, (eSi64 ([1])))], [(4, (bk (eA64u8 ((vrep 64 (0 : Int))))))]⟩ (by kernel_rfl) ?_)))))))
  obtain ⟨y41, hy42, hk43⟩ := bind_some h
  clear h
  refine a_join (emb := fun (s : (List Int)) => ⟨[(4, (ow 4)), (6, (eSi64 s))], [(4, (bk (eA64u8 ((vrep 64 (0 : Int))))))]⟩) (pre := fun s => (.inl s) = y41) ?_ ?_
  · rintro x40 rfl
    have h := hk43
    refine a_st (σ' := ⟨[(4, (ow 4)), (6, (eSi64 x40))], [(4, (bk (eA64u8 ((vrep 64 (0 : Int))))))]⟩) (by kernel_rfl) (sr (vp (eSi64 x40) rfl ?_))
    obtain ⟨r84, hr85, h⟩ := bind_some h
    refine a_call (args := [(eSi64 x40)]) (u := []) (r := (.tuple [(eA64u8 r84.1), (i6 r84.2)])) rfl rfl (impl_told_ok x40 r84 hr85) rfl (vb (eA64u8 r84.1) rfl rfl (vb (i6 r84.2) rfl rfl (vs (eA64u8 r84.1) rfl rfl (fun _ => rfl) rfl rfl rfl rfl rfl rfl (vp (i6 r84.2) rfl (nx _ rfl (a_ret ?_))))))
    have hl87 : LdOk [] (eA64u8 r84.1) [] 64 true (eA64u8 r84.1) := (.nil rfl rfl rfl)
    refine ⟨.inr rfl, ?_⟩
    rw [Try.results128]
    cases h
    exact ⟨_, _, _, _, _, ld_own (i := ⟨.arr 64 5, 64, 64, (eA64u8 (vrep 64 (0 : Int)))⟩) rfl rfl rfl hl87, hl87.c, .inl ⟨rfl, .inl rfl⟩, rfl, ⟨_, _, _, _, _, rfl, trivial, .inl ⟨rfl, .inl rfl⟩, rfl, rfl⟩⟩
  · have h := hy42
    refine sr (vp (eSSi64 a1) rfl (vq (i6 (a1.length : Int)) (len_run rfl rfl) trivial (vp (i6 0) rfl (nx ⟨[(0, (i6 a0)), (4, (ow 4)), (6, (eSi64 ([1]))), (10, (eSSi64 a1)), (11, (i6 (a1.length : Int))), (12, (i6 0))], [(4, (bk (eA64u8 ((vrep 64 (0 : Int))))))]⟩ (by kernel_rfl) (a_block ?_)))))
    refine a_loop (emb := fun (s : ((List Int) × Int)) => ⟨[(0, (i6 a0)), (4, (ow 4)), (6, (eSi64 s.1)), (10, (eSSi64 a1)), (11, (i6 (a1.length : Int))), (12, (i6 s.2))], [(4, (bk (eA64u8 ((vrep 64 (0 : Int))))))]⟩) (body := (fun s : ((List Int) × Int) => impl_prime_productOf_l1 a1 a0 s.1 s.2)) (G := fun q => some q = some y41) h rfl ?_ (by kernel_rfl)
    rintro X68 ⟨x55, x56⟩ x69 h hX70
    have h : impl_prime_productOf_l1 a1 a0 x55 x56 = some x69 := h
    refine a_st (σ' := ⟨[(0, (i6 a0)), (4, (ow 4)), (6, (eSi64 x55)), (10, (eSSi64 a1)), (11, (i6 (a1.length : Int))), (12, (i6 x56))], [(4, (bk (eA64u8 ((vrep 64 (0 : Int))))))]⟩) (by kernel_rfl) (sr (vp (.bool ((decide (x56 < (a1.length : Int))))) rfl (nx ⟨[(0, (i6 a0)), (4, (ow 4)), (6, (eSi64 x55)), (10, (eSSi64 a1)), (11, (i6 (a1.length : Int))), (12, (i6 x56)), (13, (.bool ((decide (x56 < (a1.length : Int))))))], [(4, (bk (eA64u8 ((vrep 64 (0 : Int))))))]⟩ (by kernel_rfl) (a_seq ?_))))
    cases hb71 : (decide (x56 < (a1.length : Int)))
    · have h := ite_f hb71 h
      refine a_cond_f rfl (a_exit (t_exit ?_))
      cases h
      have h := hX70
      refine t_exit (b_exit ?_)
      exact j_leaf x55 (Option.some.inj h) (by kernel_rfl)
    · have h := ite_t hb71 h
      refine a_cond_t rfl (a_skip (a_next (σ' := ⟨[(0, (i6 a0)), (4, (ow 4)), (6, (eSi64 x55)), (10, (eSSi64 a1)), (11, (i6 (a1.length : Int))), (12, (i6 x56))], [(4, (bk (eA64u8 ((vrep 64 (0 : Int))))))]⟩) (by kernel_rfl) (a_seq (a_block (sr ?_)))))
      obtain ⟨hc72, h⟩ := ifp_some h
      refine vq (.ref (.row 1 (a1.map eSi64)) [x56.toNat] [x56.toNat * 1]) rfl (lmap hc72) ?_
      have hl73 : LdOk [x56.toNat] (.row 1 (a1.map eSi64)) [x56.toNat * 1] 1 false (eSi64 (rd a1 x56.toNat)) := (.row (llt hc72) rfl (.nil rfl rfl rfl))
      refine vq (eSi64 (rd a1 x56.toNat)) (ld_ref (i := ⟨.slice 2, 1, 24, (eSi64 [])⟩) rfl rfl hl73) hl73.c (vp (eSi64 (rd a1 x56.toNat)) rfl (nx ⟨[(0, (i6 a0)), (4, (ow 4)), (6, (eSi64 x55)), (8, (eSi64 (rd a1 x56.toNat))), (10, (eSSi64 a1)), (11, (i6 (a1.length : Int))), (12, (i6 x56))], [(4, (bk (eA64u8 ((vrep 64 (0 : Int))))))]⟩ (by kernel_rfl) (a_seq (sr (vp (eSi64 x55) rfl ?_)))))
      obtain ⟨r74, hr75, h⟩ := bind_some h
      refine a_call (args := [(eSi64 x55)]) (u := []) (r := (i6 r74)) rfl rfl (impl_row_degree_ok x55 r74 hr75) rfl (vp (eSi64 (rd a1 x56.toNat)) rfl ?_)
      obtain ⟨r76, hr77, h⟩ := bind_some h
      refine a_call (args := [(eSi64 (rd a1 x56.toNat))]) (u := []) (r := (i6 r76)) rfl rfl (impl_row_degree_ok (rd a1 x56.toNat) r76 hr77) rfl (vp (i6 (IntKind.i64.wrap (r74 + r76))) rfl (vp (.bool ((decide ((IntKind.i64.wrap (r74 + r76)) > 63)))) rfl (nx ⟨[(0, (i6 a0)), (4, (ow 4)), (6, (eSi64 x55)), (8, (eSi64 (rd a1 x56.toNat))), (10, (eSSi64 a1)), (11, (i6 (a1.length : Int))), (12, (i6 x56)), (21, (.bool ((decide ((IntKind.i64.wrap (r74 + r76)) > 63)))))], [(4, (bk (eA64u8 ((vrep 64 (0 : Int))))))]⟩ (by kernel_rfl) ?_)))
      cases hb78 : (decide ((IntKind.i64.wrap (r74 + r76)) > 63))
      · have h := ite_f hb78 h
        refine a_cond_f rfl (a_skip (a_next (σ' := ⟨[(0, (i6 a0)), (4, (ow 4)), (6, (eSi64 x55)), (8, (eSi64 (rd a1 x56.toNat))), (10, (eSSi64 a1)), (11, (i6 (a1.length : Int))), (12, (i6 x56))], [(4, (bk (eA64u8 ((vrep 64 (0 : Int))))))]⟩) (by kernel_rfl) (a_region (vp (i6 a0) rfl (vp (eSi64 x55) rfl (vp (eSi64 (rd a1 x56.toNat)) rfl ?_))))))
        obtain ⟨r79, hr80, h⟩ := bind_some h
        refine a_call (args := [(i6 a0), (eSi64 x55), (eSi64 (rd a1 x56.toNat))]) (u := []) (r := (eSi64 r79)) rfl rfl (impl_prime_times_ok a0 x55 (rd a1 x56.toNat) r79 hr80) rfl (vp (eSi64 r79) rfl (a_nil (b_norm (a_next (σ' := ⟨[(0, (i6 a0)), (4, (ow 4)), (6, (eSi64 r79)), (10, (eSSi64 a1)), (11, (i6 (a1.length : Int))), (12, (i6 x56))], [(4, (bk (eA64u8 ((vrep 64 (0 : Int))))))]⟩) (by kernel_rfl) (a_region (vp (i6 (IntKind.i64.wrap (x56 + 1))) rfl (vp (i6 (IntKind.i64.wrap (x56 + 1))) rfl (a_nil ?_))))))))
        cases h
        exact a_again (by kernel_rfl) hX70
      · have h := ite_t hb78 h
        refine a_cond_t rfl (sr (vq (eA64u8 ((vrep 64 (0 : Int)))) rfl ⟨⟨_, rfl, rfl⟩, all_nil⟩ (vs (eA64u8 ((vrep 64 (0 : Int)))) rfl rfl (fun _ => rfl) rfl rfl rfl rfl rfl rfl (vp (i6 3) rfl (nx _ rfl (a_ret (t_ret (b_ret (t_ret ?_)))))))))
        cases h
        have h := hX70
        refine t_ret (b_ret (t_ret ?_))
        cases h
        have h := hk43
        have hl82 : LdOk [] (eA64u8 ((vrep 64 (0 : Int)))) [] 64 true (eA64u8 ((vrep 64 (0 : Int)))) := (.nil rfl rfl rfl)
        refine ⟨.inr rfl, ?_⟩
        rw [Try.results128]
        cases h
        exact ⟨_, _, _, _, _, ld_own (i := ⟨.arr 64 5, 64, 64, (eA64u8 (vrep 64 (0 : Int)))⟩) rfl rfl rfl hl82, hl82.c, .inl ⟨rfl, .inl rfl⟩, rfl, ⟨_, _, _, _, _, rfl, trivial, .inl ⟨rfl, .inl rfl⟩, rfl, rfl⟩⟩
def impl_FirstFactorial_c : ACode := (.seq (.region 0 [q 4 (.alloc 25), q 5 (.asg 0 (.const (.int .i64 0)) 2)] false) (.seq (.seq (.region 1 [q 7 (.mov (t 0)), q 8 (.mov (t 1)), q 9 (.call 0 (.func 124) [(t 7), (t 8), (.const (.int .i64 0)), (.const (.int .i64 6))]), q 6 (.asg 0 (t 9) 2)] false) (.seq (.region 2 [q 10 (.mov (t 6)), q 11 (.bin .neq 2 (t 10) (.const (.int .i64 0)))] false) (.cond (t 11) (.seq (.region 3 [q 12 (.build 25 []), q 13 (.mov (t 6)), ⟨none, .store 25 (t 4) (t 12), none, []⟩, q 5 (.asg 0 (t 13) 2)] false) .ret) .skip))) (.seq (.region 4 [q 14 (.mov (t 0)), q 15 (.mov (t 0)), q 16 (.mov (t 1)), q 17 (.call 0 (.func 129) [(t 15), (t 16)]), q 18 (.call 0 (.func 128) [(t 14), (t 17)]), q 19 (.extract (t 18) 0), q 20 (.extract (t 18) 1), ⟨none, .store 25 (t 4) (t 19), none, []⟩, q 5 (.asg 0 (t 20) 2)] false) .ret)))
def impl_FirstFactorial_L : Live := [(0, [0, 1]), (1, [0, 1, 4]), (2, [0, 1, 4, 6]), (3, [4, 6]), (4, [0, 1, 4]), (100011, [0, 1, 4, 6, 11])]
noncomputable def impl_FirstFactorial (a0 : Int) (a1 : Int) : Option ((Vec Int 64) × Int) :=
  (Option.bind (impl_numberCode a0 a1 0 6) fun r1 => (if (r1 != 0) then (some (((vrep 64 (0 : Int)), r1))) else (Option.bind (impl_prime_first a0 a1) fun r4 => (Option.bind (impl_prime_productOf a0 r4) fun r6 => (some (r6.1, r6.2))))))
theorem impl_FirstFactorial_ok (a0 : Int) (a1 : Int) (r : ((Vec Int 64) × Int)) (h : impl_FirstFactorial a0 a1 = some r) : Den Try.prog 33 [(i6 a0), (i6 a1)] { r := (.tuple [(eA64u8 r.1), (i6 r.2)]) } := by
  refine den_of (rs := [(eA64u8 r.1), (i6 r.2)]) (ac := impl_FirstFactorial_c) (L := impl_FirstFactorial_L) (n := 21) (m := []) (c := Try.f33.body.getD .skip) good Try.func33 (by kernel_rfl) (by kernel_rfl) Try.ntmps33 rfl rfl (by kernel_rfl) rfl rfl ?_
  refine a_st (σ' := ⟨[(0, (i6 a0)), (1, (i6 a1))], []⟩) (by kernel_rfl) ?_
  unfold impl_FirstFactorial_c
  refine sr (vo 1400 (eA64u8 ((vrep 64 (0 : Int)))) rfl rfl (vp (i6 0) rfl (nx ⟨[(0, (i6 a0)), (1, (i6 a1)), (4, (ow 4))], [(4, (bk (eA64u8 ((vrep 64 (0 : Int))))))]⟩ (by kernel_rfl) (a_seq (sr (vp (i6 a0) rfl (vp (i6 a1) rfl ?_)))))))
  obtain ⟨r1, hr2, h⟩ := bind_some h
  refine a_call (args := [(i6 a0), (i6 a1), (i6 0), (i6 6)]) (u := []) (r := (i6 r1)) rfl rfl (impl_numberCode_ok a0 a1 0 6 r1 hr2) rfl (vp (i6 r1) rfl (nx ⟨[(0, (i6 a0)), (1, (i6 a1)), (4, (ow 4)), (6, (i6 r1))], [(4, (bk (eA64u8 ((vrep 64 (0 : Int))))))]⟩ (by kernel_rfl) (sr (vp (i6 r1) rfl (vp (.bool (r1 != 0)) rfl (nx ⟨[(0, (i6 a0)), (1, (i6 a1)), (4, (ow 4)), (6, (i6 r1)), (11, (.bool (r1 != 0)))], [(4, (bk (eA64u8 ((vrep 64 (0 : Int))))))]⟩ (by kernel_rfl) ?_))))))
  cases hb3 : (r1 != 0)
  · have h := ite_f hb3 h
    refine a_cond_f rfl (a_skip (a_next (σ' := ⟨[(0, (i6 a0)), (1, (i6 a1)), (4, (ow 4))], [(4, (bk (eA64u8 ((vrep 64 (0 : Int))))))]⟩) (by kernel_rfl) (sr (vp (i6 a0) rfl (vp (i6 a0) rfl (vp (i6 a1) rfl ?_))))))
    obtain ⟨r4, hr5, h⟩ := bind_some h
    refine a_call (args := [(i6 a0), (i6 a1)]) (u := []) (r := (eSSi64 r4)) rfl rfl (impl_prime_first_ok a0 a1 r4 hr5) rfl ?_
    obtain ⟨r6, hr7, h⟩ := bind_some h
    refine a_call (args := [(i6 a0), (eSSi64 r4)]) (u := []) (r := (.tuple [(eA64u8 r6.1), (i6 r6.2)])) rfl rfl (impl_prime_productOf_ok a0 r4 r6 hr7) rfl (vb (eA64u8 r6.1) rfl rfl (vb (i6 r6.2) rfl rfl (vs (eA64u8 r6.1) rfl rfl (fun _ => rfl) rfl rfl rfl rfl rfl rfl (vp (i6 r6.2) rfl (nx _ rfl (a_ret ?_))))))
    have hl9 : LdOk [] (eA64u8 r6.1) [] 64 true (eA64u8 r6.1) := (.nil rfl rfl rfl)
    refine ⟨.inr rfl, ?_⟩
    rw [Try.results33]
    cases h
    exact ⟨_, _, _, _, _, ld_own (i := ⟨.arr 64 5, 64, 64, (eA64u8 (vrep 64 (0 : Int)))⟩) rfl rfl rfl hl9, hl9.c, .inl ⟨rfl, .inl rfl⟩, rfl, ⟨_, _, _, _, _, rfl, trivial, .inl ⟨rfl, .inl rfl⟩, rfl, rfl⟩⟩
  · have h := ite_t hb3 h
    refine a_cond_t rfl (sr (vq (eA64u8 ((vrep 64 (0 : Int)))) rfl ⟨⟨_, rfl, rfl⟩, all_nil⟩ (vp (i6 r1) rfl (vs (eA64u8 ((vrep 64 (0 : Int)))) rfl rfl (fun _ => rfl) rfl rfl rfl rfl rfl rfl (vp (i6 r1) rfl (nx _ rfl (a_ret (t_ret ?_))))))))
    have hl11 : LdOk [] (eA64u8 ((vrep 64 (0 : Int)))) [] 64 true (eA64u8 ((vrep 64 (0 : Int)))) := (.nil rfl rfl rfl)
    refine ⟨.inr rfl, ?_⟩
    rw [Try.results33]
    cases h
    exact ⟨_, _, _, _, _, ld_own (i := ⟨.arr 64 5, 64, 64, (eA64u8 (vrep 64 (0 : Int)))⟩) rfl rfl rfl hl11, hl11.c, .inl ⟨rfl, .inl rfl⟩, rfl, ⟨_, _, _, _, _, rfl, trivial, .inl ⟨rfl, .inl rfl⟩, rfl, rfl⟩⟩
def spec_l01One_c : ACode := (.seq (.region 0 [q 0 (.alloc 25)] false) (.seq (.region 1 [q 1 (.build 25 [(0, (.const (.int .u8 1)))]), ⟨none, .store 25 (t 0) (t 1), none, []⟩] false) .ret))
def spec_l01One_L : Live := [(0, []), (1, [0])]
noncomputable def spec_l01One  : Option (Vec Int 64) :=
  (some ((vset (vrep 64 (0 : Int)) 0 1)))
theorem spec_l01One_ok  (r : (Vec Int 64)) (h : spec_l01One = some r) : Den Try.prog 133 [] { r := (eA64u8 r) } := by
  refine den_of (rs := [(eA64u8 r)]) (ac := spec_l01One_c) (L := spec_l01One_L) (n := 2) (m := []) (c := Try.f133.body.getD .skip) good Try.func133 (by kernel_rfl) (by kernel_rfl) Try.ntmps133 rfl rfl (by kernel_rfl) rfl rfl ?_
  refine a_st (σ' := ⟨[], []⟩) (by kernel_rfl) ?_
  unfold spec_l01One_c
  refine sr (vo 1000 (eA64u8 ((vrep 64 (0 : Int)))) rfl rfl (nx ⟨[(0, (ow 0))], [(0, (bk (eA64u8 ((vrep 64 (0 : Int))))))]⟩ (by kernel_rfl) (sr (vq (eA64u8 ((vset (vrep 64 (0 : Int)) 0 1))) rfl ⟨⟨_, rfl, rfl⟩, (all_cons ⟨(Nat.le_of_ble_eq_true rfl), rfl⟩ all_nil)⟩ (vs (eA64u8 ((vset (vrep 64 (0 : Int)) 0 1))) rfl rfl (fun _ => rfl) rfl rfl rfl rfl rfl rfl (nx _ rfl (a_ret ?_)))))))
  have hl2 : LdOk [] (eA64u8 ((vset (vrep 64 (0 : Int)) 0 1))) [] 64 true (eA64u8 ((vset (vrep 64 (0 : Int)) 0 1))) := (.nil rfl rfl rfl)
  refine ⟨.inr rfl, ?_⟩
  rw [Try.results133]
  cases h
  exact ⟨_, _, _, _, _, ld_own (i := ⟨.arr 64 5, 64, 64, (eA64u8 (vrep 64 (0 : Int)))⟩) rfl rfl rfl hl2, hl2.c, .inl ⟨rfl, .inl rfl⟩, rfl, rfl⟩
end Go.Proofs.Ytkbnegemdlnncaa
