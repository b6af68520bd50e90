/- Functions of the program: plain Lean functions, and that the program computes them. Printed by gen.py. -/
import Derived.Test.YtkbnegemdlnncaaFnT
namespace Go.Proofs.Ytkbnegemdlnncaa
open Go.Abs Go.Proofs
set_option linter.unusedSimpArgs false
set_option linter.unusedVariables false
set_option maxHeartbeats 16000000
attribute [local irreducible] Abs.acode Abs.aops Abs.aopsT Abs.thenK Abs.blockK

def laws_toPoly_c : ACode := (.seq (.region 0 [q 1 (.box 24 (t 0)), q 2 (.alloc 25)] false) (.seq (.region 1 [q 3 (.alloc 25)] false) (.seq (.seq (.region 2 [q 4 (.asg 0 (.const (.int .i64 0)) 3)] false) (.block 0 (.loop (.seq (.seq (.region 3 [q 5 (.mov (t 4)), q 6 (.bin .lss 3 (t 5) (.const (.int .i64 64)))] false) (.cond (t 6) .skip (.exit 0))) (.seq (.block 1 (.region 5 [q 9 (.mov (t 4)), q 10 (.mov (t 4)), q 11 (.indexAddr 24 (t 1) (t 10)), q 12 (.load 5 (t 11)), q 13 (.indexAddr 25 (t 3) (t 9)), ⟨none, .store 5 (t 13) (t 12), none, []⟩] false)) (.region 4 [q 7 (.mov (t 4)), q 8 (.bin .add 3 (t 7) (.const (.int .i64 1))), q 4 (.asg 0 (t 8) 3)] false)))))) (.seq (.region 6 [q 14 (.load 25 (t 3)), ⟨none, .store 25 (t 2) (t 14), none, []⟩] false) .ret))))
def laws_toPoly_L : Live := [(0, [0]), (1, [1, 2]), (2, [1, 2, 3]), (3, [1, 2, 3, 4]), (4, [1, 2, 3, 4]), (5, [1, 2, 3, 4]), (6, [2, 3]), (100006, [1, 2, 3, 4, 6])]
noncomputable def laws_toPoly_l1 (a0 : (Vec Int 64)) (x31 : Int) (x32 : (Vec Int 64)) : Option ((Int × (Vec Int 64)) ⊕ (Vec Int 64)) :=
  (if (decide (x31 < 64)) then (ifp (0 ≤ x31 ∧ x31 < ((64 : Nat) : Int)) ((ifp (0 ≤ x31 ∧ x31 < ((64 : Nat) : Int)) ((some (.inl ((IntKind.i64.wrap (x31 + 1), (vset x32 x31.toNat (rd a0.1 x31.toNat)))))))))) else (some (.inr x32)))
noncomputable def laws_toPoly (a0 : (Vec Int 64)) : Option (Vec Int 64) :=
  (Option.bind (α := (Vec Int 64)) ((loopM (fun s : (Int × (Vec Int 64)) => laws_toPoly_l1 a0 s.1 s.2) (0, (vrep 64 (0 : Int))))) fun x22 => (some x22))
theorem laws_toPoly_ok (a0 : (Vec Int 64)) (r : (Vec Int 64)) (h : laws_toPoly a0 = some r) : Den Try.prog 42 [(eA64u8 a0)] { r := (eA64u8 r) } := by
  refine den_of (rs := [(eA64u8 r)]) (ac := laws_toPoly_c) (L := laws_toPoly_L) (n := 15) (m := []) (c := Try.f42.body.getD .skip) good Try.func42 (by kernel_rfl) (by kernel_rfl) Try.ntmps42 rfl rfl (by kernel_rfl) rfl rfl ?_
  refine a_st (σ' := ⟨[(0, (eA64u8 a0))], []⟩) (by kernel_rfl) ?_
  unfold laws_toPoly_c
  refine sr (vo 1100 (eA64u8 a0) rfl rfl (vo 1200 (eA64u8 ((vrep 64 (0 : Int)))) rfl rfl (nx ⟨[(1, (ow 1)), (2, (ow 2))], [(1, (bk (eA64u8 a0))), (2, (bk (eA64u8 ((vrep 64 (0 : Int))))))]⟩ (by kernel_rfl) (sr (vo 1300 (eA64u8 ((vrep 64 (0 : Int)))) rfl rfl (nx ⟨[(1, (ow 1)), (2, (ow 2)), (3, (ow 3))], [(1, (bk (eA64u8 a0))), (2, (bk (eA64u8 ((vrep 64 (0 : Int)))))), (3, (bk (eA64u8 ((vrep 64 (0 : Int))))))]⟩ (by kernel_rfl) ?_))))))
  obtain ⟨y23, hy24, hk25⟩ := bind_some h
  clear h
  refine a_join (emb := fun (s : (Vec Int 64)) => ⟨[(2, (ow 2)), (3, (ow 3))], [(2, (bk (eA64u8 ((vrep 64 (0 : Int)))))), (3, (bk (eA64u8 s)))]⟩) (pre := fun s => s = y23) ?_ ?_
  · rintro x22 rfl
    have h := hk25
    refine a_st (σ' := ⟨[(2, (ow 2)), (3, (ow 3))], [(2, (bk (eA64u8 ((vrep 64 (0 : Int)))))), (3, (bk (eA64u8 x22)))]⟩) (by kernel_rfl) (sr (vl (eA64u8 x22) rfl rfl rfl rfl rfl rfl (vs (eA64u8 x22) rfl rfl (fun _ => rfl) rfl rfl rfl rfl rfl rfl (nx _ rfl (a_ret ?_)))))
    have hl49 : LdOk [] (eA64u8 x22) [] 64 true (eA64u8 x22) := (.nil rfl rfl rfl)
    refine ⟨.inr rfl, ?_⟩
    rw [Try.results42]
    cases h
    exact ⟨_, _, _, _, _, ld_own (i := ⟨.arr 64 5, 64, 64, (eA64u8 (vrep 64 (0 : Int)))⟩) rfl rfl rfl hl49, hl49.c, .inl ⟨rfl, .inl rfl⟩, rfl, rfl⟩
  · have h := hy24
    refine sr (vp (i6 0) rfl (nx ⟨[(1, (ow 1)), (2, (ow 2)), (3, (ow 3)), (4, (i6 0))], [(1, (bk (eA64u8 a0))), (2, (bk (eA64u8 ((vrep 64 (0 : Int)))))), (3, (bk (eA64u8 ((vrep 64 (0 : Int))))))]⟩ (by kernel_rfl) (a_block ?_)))
    refine a_loop (emb := fun (s : (Int × (Vec Int 64))) => ⟨[(1, (ow 1)), (2, (ow 2)), (3, (ow 3)), (4, (i6 s.1))], [(1, (bk (eA64u8 a0))), (2, (bk (eA64u8 ((vrep 64 (0 : Int)))))), (3, (bk (eA64u8 s.2)))]⟩) (body := (fun s : (Int × (Vec Int 64)) => laws_toPoly_l1 a0 s.1 s.2)) (G := fun q => some q = some y23) h rfl ?_ (by kernel_rfl)
    rintro X38 ⟨x31, x32⟩ x39 h hX40
    have h : laws_toPoly_l1 a0 x31 x32 = some x39 := h
    refine a_st (σ' := ⟨[(1, (ow 1)), (2, (ow 2)), (3, (ow 3)), (4, (i6 x31))], [(1, (bk (eA64u8 a0))), (2, (bk (eA64u8 ((vrep 64 (0 : Int)))))), (3, (bk (eA64u8 x32)))]⟩) (by kernel_rfl) (a_seq (sr (vp (i6 x31) rfl (vp (.bool ((decide (x31 < 64)))) rfl (nx ⟨[(1, (ow 1)), (2, (ow 2)), (3, (ow 3)), (4, (i6 x31)), (6, (.bool ((decide (x31 < 64)))))], [(1, (bk (eA64u8 a0))), (2, (bk (eA64u8 ((vrep 64 (0 : Int)))))), (3, (bk (eA64u8 x32)))]⟩ (by kernel_rfl) ?_)))))
    cases hb41 : (decide (x31 < 64))
    · have h := ite_f hb41 h
      refine a_cond_f rfl (a_exit (t_exit ?_))
      cases h
      have h := hX40
      refine t_exit (b_exit ?_)
      exact j_leaf x32 (Option.some.inj h) (by kernel_rfl)
    · have h := ite_t hb41 h
      refine a_cond_t rfl (a_skip (a_next (σ' := ⟨[(1, (ow 1)), (2, (ow 2)), (3, (ow 3)), (4, (i6 x31))], [(1, (bk (eA64u8 a0))), (2, (bk (eA64u8 ((vrep 64 (0 : Int)))))), (3, (bk (eA64u8 x32)))]⟩) (by kernel_rfl) (a_seq (a_block (a_region (vp (i6 x31) rfl (vp (i6 x31) rfl ?_)))))))
      obtain ⟨hc42, h⟩ := ifp_some h
      refine vq (.own 1 [x31.toNat] [x31.toNat * 1]) rfl hc42 ?_
      have hl43 : LdOk [x31.toNat] (eA64u8 a0) [x31.toNat * 1] 1 false (b8 (rd a0.1 x31.toNat)) := (.arr (vlt a0 hc42) rfl (.nil rfl rfl rfl))
      refine vq (b8 (rd a0.1 x31.toNat)) (ld_own (i := ⟨.int .u8, 1, 1, (.int .u8 0)⟩) rfl rfl rfl hl43) hl43.c ?_
      obtain ⟨hc44, h⟩ := ifp_some h
      refine vq (.own 3 [x31.toNat] [x31.toNat * 1]) rfl hc44 ?_
      have hs45 : StOk [x31.toNat] (eA64u8 x32) [x31.toNat * 1] 1 (b8 (rd a0.1 x31.toNat)) (eA64u8 ((vset x32 x31.toNat (rd a0.1 x31.toNat)))) := (.arr (y := (rd a0.1 x31.toNat)) (vlt x32 hc44) rfl (.nil rfl rfl rfl rfl))
      refine vu .top [(3, (bk (eA64u8 ((vset x32 x31.toNat (rd a0.1 x31.toNat))))))] (st_own (i := ⟨.int .u8, 1, 1, (.int .u8 0)⟩) rfl rfl (fun _ => rfl) rfl hs45) (hs45.c rfl) rfl (a_nil (b_norm (a_next (σ' := ⟨[(1, (ow 1)), (2, (ow 2)), (3, (ow 3)), (4, (i6 x31))], [(1, (bk (eA64u8 a0))), (2, (bk (eA64u8 ((vrep 64 (0 : Int)))))), (3, (bk (eA64u8 ((vset x32 x31.toNat (rd a0.1 x31.toNat))))))]⟩) (by kernel_rfl) (a_region (vp (i6 x31) rfl (vp (i6 (IntKind.i64.wrap (x31 + 1))) rfl (vp (i6 (IntKind.i64.wrap (x31 + 1))) rfl (a_nil ?_))))))))
      cases h
      exact a_again (by kernel_rfl) hX40
def spec_l01Prime_c : ACode := (.seq (.region 0 [q 2 (.asg 0 (.const (.bool false)) 4)] false) (.seq (.region 1 [q 3 (.mov (t 0)), q 4 (.bin .eql 2 (t 3) (.const (.int .i64 2))), q 5 (.mov (t 4)), ⟨some 6, .mov (t 0), some (5, false), []⟩, ⟨some 7, .bin .eql 2 (t 6) (.const (.int .i64 3)), some (5, false), []⟩, q 8 (.pick (t 5) (.const (.bool true)) (t 7)), q 9 (.mov (t 8)), ⟨some 10, .mov (t 0), some (9, false), []⟩, ⟨some 11, .bin .eql 2 (t 10) (.const (.int .i64 5)), some (9, false), []⟩, q 12 (.pick (t 9) (.const (.bool true)) (t 11)), q 13 (.mov (t 12)), ⟨some 14, .mov (t 0), some (13, false), []⟩, ⟨some 15, .bin .eql 2 (t 14) (.const (.int .i64 7)), some (13, false), []⟩, q 16 (.pick (t 13) (.const (.bool true)) (t 15)), q 2 (.asg 0 (t 16) 4)] false) .ret))
def spec_l01Prime_L : Live := [(0, [0]), (1, [0])]
noncomputable def spec_l01Prime (a0 : Int) : Option Bool :=
  (if (a0 == 2) then (some true) else (if (a0 == 3) then (some true) else (if (a0 == 5) then (some true) else (some (a0 == 7)))))
theorem spec_l01Prime_ok (a0 : Int) (r : Bool) (h : spec_l01Prime a0 = some r) : Den Try.prog 168 [(i6 a0)] { r := (.bool r) } := by
  refine den_of (rs := [(.bool r)]) (ac := spec_l01Prime_c) (L := spec_l01Prime_L) (n := 17) (m := []) (c := Try.f168.body.getD .skip) good Try.func168 (by kernel_rfl) (by kernel_rfl) Try.ntmps168 rfl rfl (by kernel_rfl) rfl rfl ?_
  refine a_st (σ' := ⟨[(0, (i6 a0))], []⟩) (by kernel_rfl) ?_
  unfold spec_l01Prime_c
  refine sr (vp (.bool false) rfl (nx ⟨[(0, (i6 a0))], []⟩ (by kernel_rfl) (sr (vp (i6 a0) rfl (vp (.bool (a0 == 2)) rfl (vp (.bool (a0 == 2)) rfl ?_))))))
  cases hb1 : (a0 == 2)
  · have h := ite_f hb1 h
    refine gp (i6 a0) rfl rfl (gp (.bool (a0 == 3)) rfl rfl (vp (.bool (a0 == 3)) rfl (vp (.bool (a0 == 3)) rfl ?_)))
    cases hb2 : (a0 == 3)
    · have h := ite_f hb2 h
      refine gp (i6 a0) rfl rfl (gp (.bool (a0 == 5)) rfl rfl (vp (.bool (a0 == 5)) rfl (vp (.bool (a0 == 5)) rfl ?_)))
      cases hb3 : (a0 == 5)
      · have h := ite_f hb3 h
        refine gp (i6 a0) rfl rfl (gp (.bool (a0 == 7)) rfl rfl (vp (.bool (a0 == 7)) rfl (vp (.bool (a0 == 7)) rfl (nx _ rfl (a_ret ?_)))))
        refine ⟨.inr rfl, ?_⟩
        rw [Try.results168]
        cases h
        exact ⟨_, _, _, _, _, rfl, trivial, .inl ⟨rfl, .inl rfl⟩, rfl, rfl⟩
      · have h := ite_t hb3 h
        refine a_gskip rfl (a_gskip rfl (vp (.bool true) rfl (vp (.bool true) rfl (nx _ rfl (a_ret ?_)))))
        refine ⟨.inr rfl, ?_⟩
        rw [Try.results168]
        cases h
        exact ⟨_, _, _, _, _, rfl, trivial, .inl ⟨rfl, .inl rfl⟩, rfl, rfl⟩
    · have h := ite_t hb2 h
      refine a_gskip rfl (a_gskip rfl (vp (.bool true) rfl (vp (.bool true) rfl (a_gskip rfl (a_gskip rfl (vp (.bool true) rfl (vp (.bool true) rfl (nx _ rfl (a_ret ?_)))))))))
      refine ⟨.inr rfl, ?_⟩
      rw [Try.results168]
      cases h
      exact ⟨_, _, _, _, _, rfl, trivial, .inl ⟨rfl, .inl rfl⟩, rfl, rfl⟩
  · have h := ite_t hb1 h
    refine a_gskip rfl (a_gskip rfl (vp (.bool true) rfl (vp (.bool true) rfl (a_gskip rfl (a_gskip rfl (vp (.bool true) rfl (vp (.bool true) rfl (a_gskip rfl (a_gskip rfl ?_)))))))))
    refine vp (.bool true) rfl (vp (.bool true) rfl (nx _ rfl (a_ret ?_)))
    refine ⟨.inr rfl, ?_⟩
    rw [Try.results168]
    cases h
    exact ⟨_, _, _, _, _, rfl, trivial, .inl ⟨rfl, .inl rfl⟩, rfl, rfl⟩
def spec_l01Is_c : ACode := (.seq (.region 0 [q 3 (.box 25 (t 1)), q 4 (.asg 0 (.const (.bool false)) 4)] false) (.seq (.seq (.region 1 [q 5 (.asg 0 (.const (.int .i64 0)) 3)] false) (.block 0 (.loop (.seq (.seq (.region 2 [q 6 (.mov (t 5)), q 7 (.bin .lss 3 (t 6) (.const (.int .i64 64)))] false) (.cond (t 7) .skip (.exit 0))) (.seq (.block 1 (.seq (.region 4 [q 10 (.mov (t 5)), q 11 (.indexAddr 25 (t 3) (t 10)), q 12 (.load 5 (t 11)), q 13 (.conv 5 2 (t 12)), q 14 (.mov (t 0)), q 15 (.bin .geq 2 (t 13) (t 14))] false) (.cond (t 15) (.seq (.region 5 [q 4 (.asg 0 (.const (.bool false)) 4)] false) .ret) .skip))) (.region 3 [q 8 (.mov (t 5)), q 9 (.bin .add 3 (t 8) (.const (.int .i64 1))), q 5 (.asg 0 (t 9) 3)] false)))))) (.seq (.region 6 [q 16 (.mov (t 0)), q 17 (.call 0 (.func 168) [(t 16)]), q 4 (.asg 0 (t 17) 4)] false) .ret)))
def spec_l01Is_L : Live := [(0, [0, 1]), (1, [0, 3]), (2, [0, 3, 5]), (3, [0, 3, 5]), (4, [0, 3, 5]), (5, []), (6, [0]), (100007, [0, 3, 5, 7]), (100015, [0, 3, 5, 15])]
noncomputable def spec_l01Is_l1 (a1 : (Vec Int 64)) (a0 : Int) (x29 : Int) : Option (Int ⊕ (Unit ⊕ Bool)) :=
  (if (decide (x29 < 64)) then (ifp (0 ≤ x29 ∧ x29 < ((64 : Nat) : Int)) ((if (decide ((IntKind.i64.wrap (rd a1.1 x29.toNat)) ≥ a0)) then (some (.inr (.inr false))) else (some (.inl (IntKind.i64.wrap (x29 + 1))))))) else (some (.inr (((.inl ()))))))
noncomputable def spec_l01Is (a0 : Int) (a1 : (Vec Int 64)) : Option Bool :=
  (Option.bind (α := (Unit ⊕ Bool)) ((loopM (fun s : Int => spec_l01Is_l1 a1 a0 s) 0)) fun z => match z with | .inl _ => (Option.bind (spec_l01Prime a0) fun r42 => (some r42)) | .inr r44 => (some r44))
theorem spec_l01Is_ok (a0 : Int) (a1 : (Vec Int 64)) (r : Bool) (h : spec_l01Is a0 a1 = some r) : Den Try.prog 108 [(i6 a0), (eA64u8 a1)] { r := (.bool r) } := by
  refine den_of (rs := [(.bool r)]) (ac := spec_l01Is_c) (L := spec_l01Is_L) (n := 18) (m := []) (c := Try.f108.body.getD .skip) good Try.func108 (by kernel_rfl) (by kernel_rfl) Try.ntmps108 rfl rfl (by kernel_rfl) rfl rfl ?_
  refine a_st (σ' := ⟨[(0, (i6 a0)), (1, (eA64u8 a1))], []⟩) (by kernel_rfl) ?_
  unfold spec_l01Is_c
  refine sr (vo 1300 (eA64u8 a1) rfl rfl (vp (.bool false) rfl (nx ⟨[(0, (i6 a0)), (3, (ow 3))], [(3, (bk (eA64u8 a1)))]⟩ (by kernel_rfl) ?_)))
  obtain ⟨y20, hy21, hk22⟩ := bind_some h
  clear h
  refine a_join (emb := fun (s : Unit) => ⟨[(0, (i6 a0))], []⟩) (pre := fun s => (.inl s) = y20) ?_ ?_
  · rintro _ rfl
    have h := hk22
    refine a_st (σ' := ⟨[(0, (i6 a0))], []⟩) (by kernel_rfl) (sr (vp (i6 a0) rfl ?_))
    obtain ⟨r42, hr43, h⟩ := bind_some h
    refine a_call (args := [(i6 a0)]) (u := []) (r := (.bool r42)) rfl rfl (spec_l01Prime_ok a0 r42 hr43) rfl (vp (.bool r42) rfl (nx _ rfl (a_ret ?_)))
    refine ⟨.inr rfl, ?_⟩
    rw [Try.results108]
    cases h
    exact ⟨_, _, _, _, _, rfl, trivial, .inl ⟨rfl, .inl rfl⟩, rfl, rfl⟩
  · have h := hy21
    refine sr (vp (i6 0) rfl (nx ⟨[(0, (i6 a0)), (3, (ow 3)), (5, (i6 0))], [(3, (bk (eA64u8 a1)))]⟩ (by kernel_rfl) (a_block ?_)))
    refine a_loop (emb := fun (s : Int) => ⟨[(0, (i6 a0)), (3, (ow 3)), (5, (i6 s))], [(3, (bk (eA64u8 a1)))]⟩) (body := (fun s : Int => spec_l01Is_l1 a1 a0 s)) (G := fun q => some q = some y20) h rfl ?_ (by kernel_rfl)
    rintro X34 x29 x35 h hX36
    have h : spec_l01Is_l1 a1 a0 x29 = some x35 := h
    refine a_st (σ' := ⟨[(0, (i6 a0)), (3, (ow 3)), (5, (i6 x29))], [(3, (bk (eA64u8 a1)))]⟩) (by kernel_rfl) (a_seq (sr (vp (i6 x29) rfl (vp (.bool ((decide (x29 < 64)))) rfl (nx ⟨[(0, (i6 a0)), (3, (ow 3)), (5, (i6 x29)), (7, (.bool ((decide (x29 < 64)))))], [(3, (bk (eA64u8 a1)))]⟩ (by kernel_rfl) ?_)))))
    cases hb37 : (decide (x29 < 64))
    · have h := ite_f hb37 h
      refine a_cond_f rfl (a_exit (t_exit ?_))
      cases h
      have h := hX36
      refine t_exit (b_exit ?_)
      exact j_leaf () (Option.some.inj h) (by kernel_rfl)
    · have h := ite_t hb37 h
      refine a_cond_t rfl (a_skip (a_next (σ' := ⟨[(0, (i6 a0)), (3, (ow 3)), (5, (i6 x29))], [(3, (bk (eA64u8 a1)))]⟩) (by kernel_rfl) (a_seq (a_block (sr (vp (i6 x29) rfl ?_))))))
      obtain ⟨hc38, h⟩ := ifp_some h
      refine vq (.own 3 [x29.toNat] [x29.toNat * 1]) rfl hc38 ?_
      have hl39 : LdOk [x29.toNat] (eA64u8 a1) [x29.toNat * 1] 1 false (b8 (rd a1.1 x29.toNat)) := (.arr (vlt a1 hc38) rfl (.nil rfl rfl rfl))
      refine vq (b8 (rd a1.1 x29.toNat)) (ld_own (i := ⟨.int .u8, 1, 1, (.int .u8 0)⟩) rfl rfl rfl hl39) hl39.c (vp (i6 (IntKind.i64.wrap (rd a1.1 x29.toNat))) rfl (vp (i6 a0) rfl (vp (.bool ((decide ((IntKind.i64.wrap (rd a1.1 x29.toNat)) ≥ a0)))) rfl (nx ⟨[(0, (i6 a0)), (3, (ow 3)), (5, (i6 x29)), (15, (.bool ((decide ((IntKind.i64.wrap (rd a1.1 x29.toNat)) ≥ a0)))))], [(3, (bk (eA64u8 a1)))]⟩ (by kernel_rfl) ?_))))
      cases hb40 : (decide ((IntKind.i64.wrap (rd a1.1 x29.toNat)) ≥ a0))
      · have h := ite_f hb40 h
        refine a_cond_f rfl (a_skip (b_norm (a_next (σ' := ⟨[(0, (i6 a0)), (3, (ow 3)), (5, (i6 x29))], [(3, (bk (eA64u8 a1)))]⟩) (by kernel_rfl) (a_region (vp (i6 x29) rfl (vp (i6 (IntKind.i64.wrap (x29 + 1))) rfl (vp (i6 (IntKind.i64.wrap (x29 + 1))) rfl (a_nil ?_))))))))
        cases h
        exact a_again (by kernel_rfl) hX36
      · have h := ite_t hb40 h
        refine a_cond_t rfl (sr (vp (.bool false) rfl (nx _ rfl (a_ret (b_ret (t_ret ?_))))))
        cases h
        have h := hX36
        refine t_ret (b_ret (t_ret ?_))
        cases h
        have h := hk22
        refine ⟨.inr rfl, ?_⟩
        rw [Try.results108]
        cases h
        exact ⟨_, _, _, _, _, rfl, trivial, .inl ⟨rfl, .inl rfl⟩, rfl, rfl⟩
def spec_l01Code_c : ACode := (.seq (.region 0 [q 4 (.asg 0 (.const (.int .i64 0)) 2)] false) (.seq (.seq (.region 1 [q 6 (.mov (t 0)), q 7 (.call 0 (.func 168) [(t 6)]), q 8 (.un .not (t 7))] false) (.cond (t 8) (.seq (.region 2 [q 4 (.asg 0 (.const (.int .i64 1)) 2)] false) .ret) .skip)) (.seq (.seq (.region 3 [q 5 (.asg 0 (.const (.int .i64 0)) 3)] false) (.block 0 (.loop (.seq (.seq (.region 4 [q 9 (.mov (t 5)), q 10 (.mov (t 1)), q 11 (.blt 0 .len [(t 10)] [55]), q 12 (.bin .lss 3 (t 9) (t 11))] false) (.cond (t 12) .skip (.exit 0))) (.seq (.block 1 (.seq (.region 6 [q 15 (.mov (t 0)), q 16 (.mov (t 1)), q 17 (.mov (t 5)), q 18 (.indexAddr 55 (t 16) (t 17)), q 19 (.load 25 (t 18)), q 20 (.call 0 (.func 108) [(t 15), (t 19)]), q 21 (.un .not (t 20))] false) (.cond (t 21) (.seq (.region 7 [q 4 (.asg 0 (.const (.int .i64 1)) 2)] false) .ret) .skip))) (.region 5 [q 13 (.mov (t 5)), q 14 (.bin .add 3 (t 13) (.const (.int .i64 1))), q 5 (.asg 0 (t 14) 3)] false)))))) (.seq (.region 8 [q 4 (.asg 0 (.const (.int .i64 0)) 2)] false) .ret))))
def spec_l01Code_L : Live := [(0, [0, 1]), (1, [0, 1]), (2, []), (3, [0, 1]), (4, [0, 1, 5]), (5, [0, 1, 5]), (6, [0, 1, 5]), (7, []), (8, []), (100008, [0, 1, 8]), (100012, [0, 1, 5, 12]), (100021, [0, 1, 5, 21])]
noncomputable def spec_l01Code_l1 (a1 : (List (Vec Int 64))) (a0 : Int) (x36 : Int) : Option (Int ⊕ (Unit ⊕ Int)) :=
  (if (decide (x36 < (a1.length : Int))) then (ifp (0 ≤ x36 ∧ x36 < ((a1.length : Nat) : Int)) ((Option.bind (spec_l01Is a0 (rd a1 x36.toNat)) fun r49 => (if (!r49) then (some (.inr (.inr 1))) else (some (.inl (IntKind.i64.wrap (x36 + 1)))))))) else (some (.inr (((.inl ()))))))
noncomputable def spec_l01Code (a0 : Int) (a1 : (List (Vec Int 64))) : Option Int :=
  (Option.bind (spec_l01Prime a0) fun r1 => (if (!r1) then (some 1) else (Option.bind (α := (Unit ⊕ Int)) ((loopM (fun s : Int => spec_l01Code_l1 a1 a0 s) 0)) fun z => match z with | .inl _ => (some 0) | .inr r53 => (some r53))))
theorem spec_l01Code_ok (a0 : Int) (a1 : (List (Vec Int 64))) (r : Int) (h : spec_l01Code a0 a1 = some r) : Den Try.prog 104 [(i6 a0), (eSA64u8 a1)] { r := (i6 r) } := by
  refine den_of (rs := [(i6 r)]) (ac := spec_l01Code_c) (L := spec_l01Code_L) (n := 22) (m := []) (c := Try.f104.body.getD .skip) good Try.func104 (by kernel_rfl) (by kernel_rfl) Try.ntmps104 rfl rfl (by kernel_rfl) rfl rfl ?_
  refine a_st (σ' := ⟨[(0, (i6 a0)), (1, (eSA64u8 a1))], []⟩) (by kernel_rfl) ?_
  unfold spec_l01Code_c
  refine sr (vp (i6 0) rfl (nx ⟨[(0, (i6 a0)), (1, (eSA64u8 a1))], []⟩ (by kernel_rfl) (a_seq (sr (vp (i6 a0) rfl ?_)))))
  obtain ⟨r1, hr2, h⟩ := bind_some h
  refine a_call (args := [(i6 a0)]) (u := []) (r := (.bool r1)) rfl rfl (spec_l01Prime_ok a0 r1 hr2) rfl (vp (.bool (!r1)) rfl (nx ⟨[(0, (i6 a0)), (1, (eSA64u8 a1)), (8, (.bool (!r1)))], []⟩ (by kernel_rfl) ?_))
  cases hb3 : (!r1)
  · have h := ite_f hb3 h
    refine a_cond_f rfl (a_skip (a_next (σ' := ⟨[(0, (i6 a0)), (1, (eSA64u8 a1))], []⟩) (by kernel_rfl) ?_))
    obtain ⟨y27, hy28, hk29⟩ := bind_some h
    clear h
    refine a_join (emb := fun (s : Unit) => ⟨[], []⟩) (pre := fun s => (.inl s) = y27) ?_ ?_
    · rintro _ rfl
      have h := hk29
      refine a_st (σ' := ⟨[], []⟩) (by kernel_rfl) (sr (vp (i6 0) rfl (nx _ rfl (a_ret ?_))))
      refine ⟨.inr rfl, ?_⟩
      rw [Try.results104]
      cases h
      exact ⟨_, _, _, _, _, rfl, trivial, .inl ⟨rfl, .inl rfl⟩, rfl, rfl⟩
    · have h := hy28
      refine sr (vp (i6 0) rfl (nx ⟨[(0, (i6 a0)), (1, (eSA64u8 a1)), (5, (i6 0))], []⟩ (by kernel_rfl) (a_block ?_)))
      refine a_loop (emb := fun (s : Int) => ⟨[(0, (i6 a0)), (1, (eSA64u8 a1)), (5, (i6 s))], []⟩) (body := (fun s : Int => spec_l01Code_l1 a1 a0 s)) (G := fun q => some q = some y27) h rfl ?_ (by kernel_rfl)
      rintro X43 x36 x44 h hX45
      have h : spec_l01Code_l1 a1 a0 x36 = some x44 := h
      refine a_st (σ' := ⟨[(0, (i6 a0)), (1, (eSA64u8 a1)), (5, (i6 x36))], []⟩) (by kernel_rfl) (a_seq (sr (vp (i6 x36) rfl (vp (eSA64u8 a1) rfl (vq (i6 (a1.length : Int)) (len_run rfl rfl) trivial (vp (.bool ((decide (x36 < (a1.length : Int))))) rfl (nx ⟨[(0, (i6 a0)), (1, (eSA64u8 a1)), (5, (i6 x36)), (12, (.bool ((decide (x36 < (a1.length : Int))))))], []⟩ (by kernel_rfl) ?_)))))))
      cases hb46 : (decide (x36 < (a1.length : Int)))
      · have h := ite_f hb46 h
        refine a_cond_f rfl (a_exit (t_exit ?_))
        cases h
        have h := hX45
        refine t_exit (b_exit ?_)
        exact j_leaf () (Option.some.inj h) (by kernel_rfl)
      · have h := ite_t hb46 h
        refine a_cond_t rfl (a_skip (a_next (σ' := ⟨[(0, (i6 a0)), (1, (eSA64u8 a1)), (5, (i6 x36))], []⟩) (by kernel_rfl) (a_seq (a_block (sr (vp (i6 a0) rfl (vp (eSA64u8 a1) rfl (vp (i6 x36) rfl ?_))))))))
        obtain ⟨hc47, h⟩ := ifp_some h
        refine vq (.ref (.row 64 (a1.map eA64u8)) [x36.toNat] [x36.toNat * 64]) rfl (lmap hc47) ?_
        have hl48 : LdOk [x36.toNat] (.row 64 (a1.map eA64u8)) [x36.toNat * 64] 64 true (eA64u8 (rd a1 x36.toNat)) := (.row (llt hc47) rfl (.nil rfl rfl rfl))
        refine vq (eA64u8 (rd a1 x36.toNat)) (ld_ref (i := ⟨.arr 64 5, 64, 64, (eA64u8 (vrep 64 (0 : Int)))⟩) rfl rfl hl48) hl48.c ?_
        obtain ⟨r49, hr50, h⟩ := bind_some h
        refine a_call (args := [(i6 a0), (eA64u8 (rd a1 x36.toNat))]) (u := []) (r := (.bool r49)) rfl rfl (spec_l01Is_ok a0 (rd a1 x36.toNat) r49 hr50) rfl (vp (.bool (!r49)) rfl (nx ⟨[(0, (i6 a0)), (1, (eSA64u8 a1)), (5, (i6 x36)), (21, (.bool (!r49)))], []⟩ (by kernel_rfl) ?_))
        cases hb51 : (!r49)
        · have h := ite_f hb51 h
          refine a_cond_f rfl (a_skip (b_norm (a_next (σ' := ⟨[(0, (i6 a0)), (1, (eSA64u8 a1)), (5, (i6 x36))], []⟩) (by kernel_rfl) (a_region (vp (i6 x36) rfl (vp (i6 (IntKind.i64.wrap (x36 + 1))) rfl (vp (i6 (IntKind.i64.wrap (x36 + 1))) rfl (a_nil ?_))))))))
          cases h
          exact a_again (by kernel_rfl) hX45
        · have h := ite_t hb51 h
          refine a_cond_t rfl (sr (vp (i6 1) rfl (nx _ rfl (a_ret (b_ret (t_ret ?_))))))
          cases h
          have h := hX45
          refine t_ret (b_ret (t_ret ?_))
          cases h
          have h := hk29
          refine ⟨.inr rfl, ?_⟩
          rw [Try.results104]
          cases h
          exact ⟨_, _, _, _, _, rfl, trivial, .inl ⟨rfl, .inl rfl⟩, rfl, rfl⟩
  · have h := ite_t hb3 h
    refine a_cond_t rfl (sr (vp (i6 1) rfl (nx _ rfl (a_ret (t_ret ?_)))))
    refine ⟨.inr rfl, ?_⟩
    rw [Try.results104]
    cases h
    exact ⟨_, _, _, _, _, rfl, trivial, .inl ⟨rfl, .inl rfl⟩, rfl, rfl⟩
def spec_l10Code_c : ACode := (.seq (.region 0 [q 4 (.box 25 (t 1)), q 5 (.box 25 (t 2)), q 6 (.asg 0 (.const (.int .i64 0)) 2)] false) (.seq (.block 0 (.seq (.region 1 [q 8 (.mov (t 0)), q 9 (.load 25 (t 4)), q 10 (.load 25 (t 5)), q 11 (.bslice 0 55 2 [(0, (t 9)), (1, (t 10))]), q 12 (.call 0 (.func 104) [(t 8), (t 11)]), q 13 (.bin .neq 2 (t 12) (.const (.int .i64 0))), q 7 (.asg 0 (t 13) 4)] false) (.cond (t 7) (.seq (.region 2 [q 6 (.asg 0 (.const (.int .i64 1)) 2)] false) .ret) (.seq (.region 3 [q 15 (.load 25 (t 5)), q 16 (.build 25 []), q 17 (.bin .eql 25 (t 15) (t 16)), q 14 (.asg 0 (t 17) 4)] false) (.cond (t 14) (.seq (.region 4 [q 6 (.asg 0 (.const (.int .i64 5)) 2)] false) .ret) .skip))))) (.seq (.region 5 [q 6 (.asg 0 (.const (.int .i64 0)) 2)] false) .ret)))
def spec_l10Code_L : Live := [(0, [0, 1, 2]), (1, [0, 4, 5]), (2, []), (3, [5]), (4, []), (5, []), (100007, [5, 7]), (100014, [14])]
noncomputable def spec_l10Code (a0 : Int) (a1 : (Vec Int 64)) (a2 : (Vec Int 64)) : Option Int :=
  (Option.bind (spec_l01Code a0 ([a1, a2])) fun r3 => (if (r3 != 0) then (some 1) else (if (decide (a2 = ((vrep 64 (0 : Int))))) then (some 5) else (some 0))))
theorem spec_l10Code_ok (a0 : Int) (a1 : (Vec Int 64)) (a2 : (Vec Int 64)) (r : Int) (h : spec_l10Code a0 a1 a2 = some r) : Den Try.prog 153 [(i6 a0), (eA64u8 a1), (eA64u8 a2)] { r := (i6 r) } := by
  refine den_of (rs := [(i6 r)]) (ac := spec_l10Code_c) (L := spec_l10Code_L) (n := 18) (m := []) (c := Try.f153.body.getD .skip) good Try.func153 (by kernel_rfl) (by kernel_rfl) Try.ntmps153 rfl rfl (by kernel_rfl) rfl rfl ?_
  refine a_st (σ' := ⟨[(0, (i6 a0)), (1, (eA64u8 a1)), (2, (eA64u8 a2))], []⟩) (by kernel_rfl) ?_
  unfold spec_l10Code_c
  refine sr (vo 1400 (eA64u8 a1) rfl rfl (vo 1500 (eA64u8 a2) rfl rfl (vp (i6 0) rfl (nx ⟨[(0, (i6 a0)), (4, (ow 4)), (5, (ow 5))], [(4, (bk (eA64u8 a1))), (5, (bk (eA64u8 a2)))]⟩ (by kernel_rfl) (a_seq (a_block (sr (vp (i6 a0) rfl (vl (eA64u8 a1) rfl rfl rfl rfl rfl rfl ?_)))))))))
  refine vl (eA64u8 a2) rfl rfl rfl rfl rfl rfl (vq (.sl 64 true (([a1, a2]).map eA64u8)) rfl ⟨(Nat.le_of_ble_eq_true rfl), (Nat.le_of_ble_eq_true rfl), (all_cons ⟨(Nat.le_of_ble_eq_true rfl), rfl⟩ (all_cons ⟨(Nat.le_of_ble_eq_true rfl), rfl⟩ all_nil))⟩ ?_)
  obtain ⟨r3, hr4, h⟩ := bind_some h
  refine a_call (args := [(i6 a0), (.sl 64 true (([a1, a2]).map eA64u8))]) (u := []) (r := (i6 r3)) rfl rfl (Den.args (spec_l01Code_ok a0 ([a1, a2]) r3 hr4) rfl rfl (.cons (.refl _) (.cons (.loose _) .nil))) rfl (vp (.bool (r3 != 0)) rfl (vp (.bool (r3 != 0)) rfl (nx ⟨[(5, (ow 5)), (7, (.bool (r3 != 0)))], [(5, (bk (eA64u8 a2)))]⟩ (by kernel_rfl) ?_)))
  cases hb5 : (r3 != 0)
  · have h := ite_f hb5 h
    refine a_cond_f rfl (sr (vl (eA64u8 a2) rfl rfl rfl rfl rfl rfl (vq (eA64u8 ((vrep 64 (0 : Int)))) rfl ⟨⟨_, rfl, rfl⟩, all_nil⟩ (vq (.bool ((decide (a2 = ((vrep 64 (0 : Int))))))) (eqa_run (f := (AV.int .u8)) (a := a2.1) (b := ((vrep 64 (0 : Int))).1) rfl rfl (eqb_vec (fun _ _ => eqb_int _ _) a2 ((vrep 64 (0 : Int))))) (cmp_arr (g := 8) (f := (AV.int .u8)) (x := a2) (y := ((vrep 64 (0 : Int)))) rfl rfl rfl (fun _ _ => rfl) (fun _ _ => cmp_int rfl)) (vp (.bool ((decide (a2 = ((vrep 64 (0 : Int))))))) rfl (nx ⟨[(14, (.bool ((decide (a2 = ((vrep 64 (0 : Int))))))))], []⟩ (by kernel_rfl) ?_))))))
    cases hb7 : (decide (a2 = ((vrep 64 (0 : Int)))))
    · have h := ite_f hb7 h
      refine a_cond_f rfl (a_skip (b_norm (a_next (σ' := ⟨[], []⟩) (by kernel_rfl) (sr (vp (i6 0) rfl (nx _ rfl (a_ret ?_)))))))
      refine ⟨.inr rfl, ?_⟩
      rw [Try.results153]
      cases h
      exact ⟨_, _, _, _, _, rfl, trivial, .inl ⟨rfl, .inl rfl⟩, rfl, rfl⟩
    · have h := ite_t hb7 h
      refine a_cond_t rfl (sr (vp (i6 5) rfl (nx _ rfl (a_ret (b_ret (t_ret ?_))))))
      refine ⟨.inr rfl, ?_⟩
      rw [Try.results153]
      cases h
      exact ⟨_, _, _, _, _, rfl, trivial, .inl ⟨rfl, .inl rfl⟩, rfl, rfl⟩
  · have h := ite_t hb5 h
    refine a_cond_t rfl (sr (vp (i6 1) rfl (nx _ rfl (a_ret (b_ret (t_ret ?_))))))
    refine ⟨.inr rfl, ?_⟩
    rw [Try.results153]
    cases h
    exact ⟨_, _, _, _, _, rfl, trivial, .inl ⟨rfl, .inl rfl⟩, rfl, rfl⟩
def spec_l01In_c : ACode := (.seq (.region 0 [q 6 (.asg 0 (.const (.bool false)) 4)] false) (.seq (.region 1 [q 7 (.mov (t 0)), q 8 (.mov (t 1)), q 9 (.bin .geq 2 (t 7) (t 8)), q 10 (.mov (t 9)), ⟨some 11, .mov (t 0), some (10, true), []⟩, ⟨some 12, .mov (t 2), some (10, true), []⟩, ⟨some 13, .bin .leq 2 (t 11) (t 12), some (10, true), []⟩, q 14 (.pick (t 10) (t 13) (.const (.bool false))), q 6 (.asg 0 (t 14) 4)] false) .ret))
def spec_l01In_L : Live := [(0, [0, 1, 2]), (1, [0, 1, 2])]
noncomputable def spec_l01In (a0 : Int) (a1 : Int) (a2 : Int) : Option Bool :=
  (if (decide (a0 ≥ a1)) then (some ((decide (a0 ≤ a2)))) else (some false))
theorem spec_l01In_ok (a0 : Int) (a1 : Int) (a2 : Int) (r : Bool) (h : spec_l01In a0 a1 a2 = some r) : Den Try.prog 160 [(i6 a0), (i6 a1), (i6 a2)] { r := (.bool r) } := by
  refine den_of (rs := [(.bool r)]) (ac := spec_l01In_c) (L := spec_l01In_L) (n := 15) (m := []) (c := Try.f160.body.getD .skip) good Try.func160 (by kernel_rfl) (by kernel_rfl) Try.ntmps160 rfl rfl (by kernel_rfl) rfl rfl ?_
  refine a_st (σ' := ⟨[(0, (i6 a0)), (1, (i6 a1)), (2, (i6 a2))], []⟩) (by kernel_rfl) ?_
  unfold spec_l01In_c
  refine sr (vp (.bool false) rfl (nx ⟨[(0, (i6 a0)), (1, (i6 a1)), (2, (i6 a2))], []⟩ (by kernel_rfl) (sr (vp (i6 a0) rfl (vp (i6 a1) rfl (vp (.bool ((decide (a0 ≥ a1)))) rfl (vp (.bool ((decide (a0 ≥ a1)))) rfl ?_)))))))
  cases hb1 : (decide (a0 ≥ a1))
  · have h := ite_f hb1 h
    refine a_gskip rfl (a_gskip rfl (a_gskip rfl (vp (.bool false) rfl (vp (.bool false) rfl (nx _ rfl (a_ret ?_))))))
    refine ⟨.inr rfl, ?_⟩
    rw [Try.results160]
    cases h
    exact ⟨_, _, _, _, _, rfl, trivial, .inl ⟨rfl, .inl rfl⟩, rfl, rfl⟩
  · have h := ite_t hb1 h
    refine gp (i6 a0) rfl rfl (gp (i6 a2) rfl rfl (gp (.bool ((decide (a0 ≤ a2)))) rfl rfl (vp (.bool ((decide (a0 ≤ a2)))) rfl (vp (.bool ((decide (a0 ≤ a2)))) rfl (nx _ rfl (a_ret ?_))))))
    refine ⟨.inr rfl, ?_⟩
    rw [Try.results160]
    cases h
    exact ⟨_, _, _, _, _, rfl, trivial, .inl ⟨rfl, .inl rfl⟩, rfl, rfl⟩
def spec_l10Cut_c : ACode := (.seq (.region 0 [q 5 (.box 25 (t 1)), q 6 (.box 25 (t 2)), q 8 (.asg 0 (.const (.int .i64 0)) 2)] false) (.seq (.region 1 [q 10 (.mov (t 0)), q 11 (.load 25 (t 5)), q 12 (.load 25 (t 6)), q 13 (.call 0 (.func 153) [(t 10), (t 11), (t 12)]), q 9 (.asg 0 (t 13) 2)] false) (.seq (.seq (.region 2 [q 14 (.mov (t 9)), q 15 (.bin .neq 2 (t 14) (.const (.int .i64 1))), q 16 (.mov (t 15)), ⟨some 17, .mov (t 3), some (16, true), []⟩, ⟨some 18, .call 0 (.func 160) [(t 17), (.const (.int .i64 1)), (.const (.int .i64 4))], some (16, true), []⟩, ⟨some 19, .un .not (t 18), some (16, true), []⟩, q 20 (.pick (t 16) (t 19) (.const (.bool false)))] false) (.cond (t 20) (.region 3 [q 9 (.asg 0 (.const (.int .i64 2)) 2)] false) .skip)) (.seq (.region 4 [q 21 (.mov (t 9)), q 8 (.asg 0 (t 21) 2)] false) .ret))))
def spec_l10Cut_L : Live := [(0, [0, 1, 2, 3]), (1, [0, 3, 5, 6]), (2, [3, 9]), (3, []), (4, [9]), (100020, [9, 20])]
noncomputable def spec_l10Cut (a0 : Int) (a1 : (Vec Int 64)) (a2 : (Vec Int 64)) (a3 : Int) : Option Int :=
  (Option.bind (spec_l10Code a0 a1 a2) fun r3 => (Option.bind (α := Int) ((Option.bind (α := Bool) ((if (r3 != 1) then (Option.bind (spec_l01In a3 1 4) fun r28 => (some (!r28))) else (some false))) fun x23 => (if x23 then (some 2) else (some r3)))) fun x16 => (some x16)))
theorem spec_l10Cut_ok (a0 : Int) (a1 : (Vec Int 64)) (a2 : (Vec Int 64)) (a3 : Int) (r : Int) (h : spec_l10Cut a0 a1 a2 a3 = some r) : Den Try.prog 136 [(i6 a0), (eA64u8 a1), (eA64u8 a2), (i6 a3)] { r := (i6 r) } := by
  refine den_of (rs := [(i6 r)]) (ac := spec_l10Cut_c) (L := spec_l10Cut_L) (n := 22) (m := []) (c := Try.f136.body.getD .skip) good Try.func136 (by kernel_rfl) (by kernel_rfl) Try.ntmps136 rfl rfl (by kernel_rfl) rfl rfl ?_
  refine a_st (σ' := ⟨[(0, (i6 a0)), (1, (eA64u8 a1)), (2, (eA64u8 a2)), (3, (i6 a3))], []⟩) (by kernel_rfl) ?_
  unfold spec_l10Cut_c
  refine sr (vo 1500 (eA64u8 a1) rfl rfl (vo 1600 (eA64u8 a2) rfl rfl (vp (i6 0) rfl (nx ⟨[(0, (i6 a0)), (3, (i6 a3)), (5, (ow 5)), (6, (ow 6))], [(5, (bk (eA64u8 a1))), (6, (bk (eA64u8 a2)))]⟩ (by kernel_rfl) (sr (vp (i6 a0) rfl (vl (eA64u8 a1) rfl rfl rfl rfl rfl rfl (vl (eA64u8 a2) rfl rfl rfl rfl rfl rfl ?_))))))))
  obtain ⟨r3, hr4, h⟩ := bind_some h
  refine a_call (args := [(i6 a0), (eA64u8 a1), (eA64u8 a2)]) (u := []) (r := (i6 r3)) rfl rfl (spec_l10Code_ok a0 a1 a2 r3 hr4) rfl (vp (i6 r3) rfl (nx ⟨[(3, (i6 a3)), (9, (i6 r3))], []⟩ (by kernel_rfl) ?_))
  obtain ⟨y17, hy18, hk19⟩ := bind_some h
  clear h
  refine a_join (emb := fun (s : Int) => ⟨[(9, (i6 s))], []⟩) (pre := fun s => s = y17) ?_ ?_
  · rintro x16 rfl
    have h := hk19
    refine a_st (σ' := ⟨[(9, (i6 x16))], []⟩) (by kernel_rfl) (sr (vp (i6 x16) rfl (vp (i6 x16) rfl (nx _ rfl (a_ret ?_)))))
    refine ⟨.inr rfl, ?_⟩
    rw [Try.results136]
    cases h
    exact ⟨_, _, _, _, _, rfl, trivial, .inl ⟨rfl, .inl rfl⟩, rfl, rfl⟩
  · have h := hy18
    obtain ⟨y24, hy25, hk26⟩ := bind_some h
    clear h
    refine a_join (emb := fun (s : Bool) => ⟨[(9, (i6 r3)), (20, (.bool s))], []⟩) (pre := fun s => s = y24) ?_ ?_
    · rintro x23 rfl
      have h := hk26
      refine a_st (σ' := ⟨[(9, (i6 r3)), (20, (.bool x23))], []⟩) (by kernel_rfl) ?_
      cases hb30 : x23
      · have h := ite_f hb30 h
        refine a_cond_f rfl (a_skip ?_)
        exact j_leaf r3 (Option.some.inj h) (by kernel_rfl)
      · have h := ite_t hb30 h
        refine a_cond_t rfl (a_region (vp (i6 2) rfl (a_nil ?_)))
        exact j_leaf 2 (Option.some.inj h) (by kernel_rfl)
    · have h := hy25
      refine a_region (vp (i6 r3) rfl (vp (.bool (r3 != 1)) rfl (vp (.bool (r3 != 1)) rfl ?_)))
      cases hb27 : (r3 != 1)
      · have h := ite_f hb27 h
        refine a_gskip rfl (a_gskip rfl (a_gskip rfl (vp (.bool false) rfl (a_nil ?_))))
        exact j_leaf false (Option.some.inj h) (by kernel_rfl)
      · have h := ite_t hb27 h
        refine gp (i6 a3) rfl rfl ?_
        obtain ⟨r28, hr29, h⟩ := bind_some h
        refine a_gcall rfl (args := [(i6 a3), (i6 1), (i6 4)]) (u := []) (r := (.bool r28)) rfl rfl (spec_l01In_ok a3 1 4 r28 hr29) rfl (gp (.bool (!r28)) rfl rfl (vp (.bool (!r28)) rfl (a_nil ?_)))
        exact j_leaf (!r28) (Option.some.inj h) (by kernel_rfl)
def spec_l01One_c : ACode := (.seq (.region 0 [q 0 (.alloc 25)] false) (.seq (.region 1 [q 1 (.build 25 [(0, (.const (.int .u8 1)))]), ⟨none, .store 25 (t 0) (t 1), none, []⟩] false) .ret))
def spec_l01One_L : Live := [(0, []), (1, [0])]
noncomputable def spec_l01One  : Option (Vec Int 64) :=
  (some ((vset (vrep 64 (0 : Int)) 0 1)))
theorem spec_l01One_ok  (r : (Vec Int 64)) (h : spec_l01One = some r) : Den Try.prog 133 [] { r := (eA64u8 r) } := by
  refine den_of (rs := [(eA64u8 r)]) (ac := spec_l01One_c) (L := spec_l01One_L) (n := 2) (m := []) (c := Try.f133.body.getD .skip) good Try.func133 (by kernel_rfl) (by kernel_rfl) Try.ntmps133 rfl rfl (by kernel_rfl) rfl rfl ?_
  refine a_st (σ' := ⟨[], []⟩) (by kernel_rfl) ?_
  unfold spec_l01One_c
  refine sr (vo 1000 (eA64u8 ((vrep 64 (0 : Int)))) rfl rfl (nx ⟨[(0, (ow 0))], [(0, (bk (eA64u8 ((vrep 64 (0 : Int))))))]⟩ (by kernel_rfl) (sr (vq (eA64u8 ((vset (vrep 64 (0 : Int)) 0 1))) rfl ⟨⟨_, rfl, rfl⟩, (all_cons ⟨(Nat.le_of_ble_eq_true rfl), rfl⟩ all_nil)⟩ (vs (eA64u8 ((vset (vrep 64 (0 : Int)) 0 1))) rfl rfl (fun _ => rfl) rfl rfl rfl rfl rfl rfl (nx _ rfl (a_ret ?_)))))))
  have hl2 : LdOk [] (eA64u8 ((vset (vrep 64 (0 : Int)) 0 1))) [] 64 true (eA64u8 ((vset (vrep 64 (0 : Int)) 0 1))) := (.nil rfl rfl rfl)
  refine ⟨.inr rfl, ?_⟩
  rw [Try.results133]
  cases h
  exact ⟨_, _, _, _, _, ld_own (i := ⟨.arr 64 5, 64, 64, (eA64u8 (vrep 64 (0 : Int)))⟩) rfl rfl rfl hl2, hl2.c, .inl ⟨rfl, .inl rfl⟩, rfl, rfl⟩
def spec_l01T_c : ACode := (.seq (.region 0 [q 0 (.alloc 25)] false) (.seq (.region 1 [q 1 (.build 25 [(0, (.const (.int .u8 0))), (1, (.const (.int .u8 1)))]), ⟨none, .store 25 (t 0) (t 1), none, []⟩] false) .ret))
def spec_l01T_L : Live := [(0, []), (1, [0])]
noncomputable def spec_l01T  : Option (Vec Int 64) :=
  (some ((vset (vset (vrep 64 (0 : Int)) 0 0) 1 1)))
theorem spec_l01T_ok  (r : (Vec Int 64)) (h : spec_l01T = some r) : Den Try.prog 166 [] { r := (eA64u8 r) } := by
  refine den_of (rs := [(eA64u8 r)]) (ac := spec_l01T_c) (L := spec_l01T_L) (n := 2) (m := []) (c := Try.f166.body.getD .skip) good Try.func166 (by kernel_rfl) (by kernel_rfl) Try.ntmps166 rfl rfl (by kernel_rfl) rfl rfl ?_
  refine a_st (σ' := ⟨[], []⟩) (by kernel_rfl) ?_
  unfold spec_l01T_c
  refine sr (vo 1000 (eA64u8 ((vrep 64 (0 : Int)))) rfl rfl (nx ⟨[(0, (ow 0))], [(0, (bk (eA64u8 ((vrep 64 (0 : Int))))))]⟩ (by kernel_rfl) (sr (vq (eA64u8 ((vset (vset (vrep 64 (0 : Int)) 0 0) 1 1))) rfl ⟨⟨_, rfl, rfl⟩, (all_cons ⟨(Nat.le_of_ble_eq_true rfl), rfl⟩ (all_cons ⟨(Nat.le_of_ble_eq_true rfl), rfl⟩ all_nil))⟩ (vs (eA64u8 ((vset (vset (vrep 64 (0 : Int)) 0 0) 1 1))) rfl rfl (fun _ => rfl) rfl rfl rfl rfl rfl rfl (nx _ rfl (a_ret ?_)))))))
  have hl2 : LdOk [] (eA64u8 ((vset (vset (vrep 64 (0 : Int)) 0 0) 1 1))) [] 64 true (eA64u8 ((vset (vset (vrep 64 (0 : Int)) 0 0) 1 1))) := (.nil rfl rfl rfl)
  refine ⟨.inr rfl, ?_⟩
  rw [Try.results166]
  cases h
  exact ⟨_, _, _, _, _, ld_own (i := ⟨.arr 64 5, 64, 64, (eA64u8 (vrep 64 (0 : Int)))⟩) rfl rfl rfl hl2, hl2.c, .inl ⟨rfl, .inl rfl⟩, rfl, rfl⟩
def spec_l01Deg_c : ACode := (.seq (.region 0 [q 1 (.box 25 (t 0)), q 2 (.asg 0 (.const (.int .i64 0)) 2)] false) (.seq (.region 1 [q 3 (.asg 0 (.const (.int .i64 63)) 2)] false) (.seq (.block 0 (.loop (.seq (.seq (.region 2 [q 4 (.mov (t 3)), q 5 (.bin .geq 2 (t 4) (.const (.int .i64 0))), q 6 (.mov (t 5)), ⟨some 7, .mov (t 3), some (6, true), []⟩, ⟨some 8, .indexAddr 25 (t 1) (t 7), some (6, true), []⟩, ⟨some 9, .load 5 (t 8), some (6, true), []⟩, ⟨some 10, .bin .eql 5 (t 9) (.const (.int .u8 0)), some (6, true), []⟩, q 11 (.pick (t 6) (t 10) (.const (.bool false)))] false) (.cond (t 11) .skip (.exit 0))) (.block 1 (.region 3 [q 12 (.mov (t 3)), q 13 (.bin .sub 2 (t 12) (.const (.int .i64 1))), q 3 (.asg 0 (t 13) 2)] false))))) (.seq (.region 4 [q 14 (.mov (t 3)), q 2 (.asg 0 (t 14) 2)] false) .ret))))
def spec_l01Deg_L : Live := [(0, [0]), (1, [1]), (2, [1, 3]), (3, [1, 3]), (4, [3]), (100011, [1, 3, 11])]
noncomputable def spec_l01Deg_l1 (a0 : (Vec Int 64)) (x54 : Int) : Option (Int ⊕ Int) :=
  (Option.bind (α := Bool) ((if (decide (x54 ≥ 0)) then (ifp (0 ≤ x54 ∧ x54 < ((64 : Nat) : Int)) ((some (((rd a0.1 x54.toNat) == 0))))) else (some false))) fun x72 => (if x72 then (some (.inl (IntKind.i64.wrap (x54 - 1)))) else (some (.inr x54))))
noncomputable def spec_l01Deg (a0 : (Vec Int 64)) : Option Int :=
  (Option.bind (α := Int) ((loopM (fun s : Int => spec_l01Deg_l1 a0 s) 63)) fun x39 => (some x39))
theorem spec_l01Deg_ok (a0 : (Vec Int 64)) (r : Int) (h : spec_l01Deg a0 = some r) : Den Try.prog 112 [(eA64u8 a0)] { r := (i6 r) } := by
  refine den_of (rs := [(i6 r)]) (ac := spec_l01Deg_c) (L := spec_l01Deg_L) (n := 15) (m := []) (c := Try.f112.body.getD .skip) good Try.func112 (by kernel_rfl) (by kernel_rfl) Try.ntmps112 rfl rfl (by kernel_rfl) rfl rfl ?_
  refine a_st (σ' := ⟨[(0, (eA64u8 a0))], []⟩) (by kernel_rfl) ?_
  unfold spec_l01Deg_c
  refine sr (vo 1100 (eA64u8 a0) rfl rfl (vp (i6 0) rfl (nx ⟨[(1, (ow 1))], [(1, (bk (eA64u8 a0)))]⟩ (by kernel_rfl) (sr (vp (i6 63) rfl (nx ⟨[(1, (ow 1)), (3, (i6 63))], [(1, (bk (eA64u8 a0)))]⟩ (by kernel_rfl) ?_))))))
  obtain ⟨y40, hy41, hk42⟩ := bind_some h
  clear h
  refine a_join (emb := fun (s : Int) => ⟨[(3, (i6 s))], []⟩) (pre := fun s => s = y40) ?_ ?_
  · rintro x39 rfl
    have h := hk42
    refine a_st (σ' := ⟨[(3, (i6 x39))], []⟩) (by kernel_rfl) (sr (vp (i6 x39) rfl (vp (i6 x39) rfl (nx _ rfl (a_ret ?_)))))
    refine ⟨.inr rfl, ?_⟩
    rw [Try.results112]
    cases h
    exact ⟨_, _, _, _, _, rfl, trivial, .inl ⟨rfl, .inl rfl⟩, rfl, rfl⟩
  · have h := hy41
    refine a_block ?_
    refine a_loop (emb := fun (s : Int) => ⟨[(1, (ow 1)), (3, (i6 s))], [(1, (bk (eA64u8 a0)))]⟩) (body := (fun s : Int => spec_l01Deg_l1 a0 s)) (G := fun q => some q = some y40) h rfl ?_ (by kernel_rfl)
    rintro X66 x54 x67 h hX68
    have h : spec_l01Deg_l1 a0 x54 = some x67 := h
    refine a_st (σ' := ⟨[(1, (ow 1)), (3, (i6 x54))], [(1, (bk (eA64u8 a0)))]⟩) (by kernel_rfl) (a_seq ?_)
    obtain ⟨y73, hy74, hk75⟩ := bind_some h
    clear h
    refine a_join (emb := fun (s : Bool) => ⟨[(1, (ow 1)), (3, (i6 x54)), (11, (.bool s))], [(1, (bk (eA64u8 a0)))]⟩) (pre := fun s => s = y73) ?_ ?_
    · rintro x72 rfl
      have h := hk75
      refine a_st (σ' := ⟨[(1, (ow 1)), (3, (i6 x54)), (11, (.bool x72))], [(1, (bk (eA64u8 a0)))]⟩) (by kernel_rfl) ?_
      cases hb79 : x72
      · have h := ite_f hb79 h
        refine a_cond_f rfl (a_exit (t_exit ?_))
        cases h
        have h := hX68
        refine t_exit (b_exit ?_)
        exact j_leaf x54 (Option.some.inj h) (by kernel_rfl)
      · have h := ite_t hb79 h
        refine a_cond_t rfl (a_skip (a_next (σ' := ⟨[(1, (ow 1)), (3, (i6 x54))], [(1, (bk (eA64u8 a0)))]⟩) (by kernel_rfl) (a_block (a_region (vp (i6 x54) rfl (vp (i6 (IntKind.i64.wrap (x54 - 1))) rfl (vp (i6 (IntKind.i64.wrap (x54 - 1))) rfl (a_nil (b_norm ?_)))))))))
        cases h
        exact a_again (by kernel_rfl) hX68
    · have h := hy74
      refine a_region (vp (i6 x54) rfl (vp (.bool ((decide (x54 ≥ 0)))) rfl (vp (.bool ((decide (x54 ≥ 0)))) rfl ?_)))
      cases hb76 : (decide (x54 ≥ 0))
      · have h := ite_f hb76 h
        refine a_gskip rfl (a_gskip rfl (a_gskip rfl (a_gskip rfl (vp (.bool false) rfl (a_nil ?_)))))
        exact j_leaf false (Option.some.inj h) (by kernel_rfl)
      · have h := ite_t hb76 h
        refine gp (i6 x54) rfl rfl ?_
        obtain ⟨hc77, h⟩ := ifp_some h
        refine gq (.own 1 [x54.toNat] [x54.toNat * 1]) rfl rfl hc77 ?_
        have hl78 : LdOk [x54.toNat] (eA64u8 a0) [x54.toNat * 1] 1 false (b8 (rd a0.1 x54.toNat)) := (.arr (vlt a0 hc77) rfl (.nil rfl rfl rfl))
        refine gq (b8 (rd a0.1 x54.toNat)) rfl (ld_own (i := ⟨.int .u8, 1, 1, (.int .u8 0)⟩) rfl rfl rfl hl78) hl78.c (gp (.bool (((rd a0.1 x54.toNat) == 0))) rfl rfl (vp (.bool (((rd a0.1 x54.toNat) == 0))) rfl (a_nil ?_)))
        exact j_leaf (((rd a0.1 x54.toNat) == 0)) (Option.some.inj h) (by kernel_rfl)
def spec_l04Raise_c : ACode := (.seq (.region 0 [q 4 (.box 25 (t 1)), q 6 (.alloc 25), q 7 (.asg 0 (.const (.bool false)) 4)] false) (.seq (.region 1 [q 13 (.build 25 []), q 14 (.load 25 (t 4)), q 15 (.call 0 (.func 112) [(t 14)]), q 8 (.alloc 25), ⟨none, .store 25 (t 8) (t 13), none, []⟩, q 9 (.asg 0 (t 15) 2)] false) (.seq (.seq (.region 2 [q 10 (.asg 0 (.const (.int .i64 0)) 2)] false) (.block 0 (.loop (.seq (.seq (.region 3 [q 16 (.mov (t 10)), q 17 (.mov (t 9)), q 18 (.bin .leq 2 (t 16) (t 17))] false) (.cond (t 18) .skip (.exit 0))) (.seq (.block 1 (.seq (.seq (.region 5 [q 21 (.mov (t 10)), q 22 (.indexAddr 25 (t 4) (t 21)), q 23 (.load 5 (t 22)), q 24 (.bin .eql 5 (t 23) (.const (.int .u8 0)))] false) (.cond (t 24) (.exit 1) .skip)) (.seq (.region 6 [q 25 (.mov (t 10)), q 11 (.asg 0 (t 25) 2)] false) (.seq (.seq (.region 7 [q 12 (.asg 0 (.const (.int .i64 0)) 2)] false) (.block 2 (.loop (.seq (.seq (.region 8 [q 26 (.mov (t 12)), q 27 (.mov (t 2)), q 28 (.bin .lss 2 (t 26) (t 27)), q 29 (.mov (t 28)), ⟨some 30, .mov (t 11), some (29, true), []⟩, ⟨some 31, .bin .gtr 2 (t 30) (.const (.int .i64 0)), some (29, true), []⟩, q 32 (.pick (t 29) (t 31) (.const (.bool false)))] false) (.cond (t 32) .skip (.exit 2))) (.seq (.block 3 (.seq (.region 10 [q 35 (.mov (t 11)), q 36 (.mov (t 0)), q 37 (.bin .mul 2 (t 35) (t 36)), q 11 (.asg 0 (t 37) 2)] false) (.seq (.region 11 [q 38 (.mov (t 11)), q 39 (.bin .gtr 2 (t 38) (.const (.int .i64 63)))] false) (.cond (t 39) (.seq (.region 12 [q 40 (.build 25 []), ⟨none, .store 25 (t 6) (t 40), none, []⟩, q 7 (.asg 0 (.const (.bool false)) 4)] false) .ret) .skip)))) (.region 9 [q 33 (.mov (t 12)), q 34 (.bin .add 2 (t 33) (.const (.int .i64 1))), q 12 (.asg 0 (t 34) 2)] false)))))) (.region 13 [q 41 (.mov (t 11)), q 42 (.mov (t 10)), q 43 (.indexAddr 25 (t 4) (t 42)), q 44 (.load 5 (t 43)), q 45 (.indexAddr 25 (t 8) (t 41)), ⟨none, .store 5 (t 45) (t 44), none, []⟩] false))))) (.region 4 [q 19 (.mov (t 10)), q 20 (.bin .add 2 (t 19) (.const (.int .i64 1))), q 10 (.asg 0 (t 20) 2)] false)))))) (.seq (.region 14 [q 46 (.load 25 (t 8)), ⟨none, .store 25 (t 6) (t 46), none, []⟩, q 7 (.asg 0 (.const (.bool true)) 4)] false) .ret))))
def spec_l04Raise_L : Live := [(0, [0, 1, 2]), (1, [0, 2, 4, 6]), (2, [0, 2, 4, 6, 8, 9]), (3, [0, 2, 4, 6, 8, 9, 10]), (4, [0, 2, 4, 6, 8, 9, 10]), (5, [0, 2, 4, 6, 8, 9, 10]), (6, [0, 2, 4, 6, 8, 9, 10]), (7, [0, 2, 4, 6, 8, 9, 10, 11]), (8, [0, 2, 4, 6, 8, 9, 10, 11, 12]), (9, [0, 2, 4, 6, 8, 9, 10, 11, 12]), (10, [0, 2, 4, 6, 8, 9, 10, 11, 12]), (11, [0, 2, 4, 6, 8, 9, 10, 11, 12]), (12, [6]), (13, [0, 2, 4, 6, 8, 9, 10, 11]), (14, [6, 8]), (100018, [0, 2, 4, 6, 8, 9, 10, 18]), (100024, [0, 2, 4, 6, 8, 9, 10, 24]), (100032, [0, 2, 4, 6, 8, 9, 10, 11, 12, 32]), (100039, [0, 2, 4, 6, 8, 9, 10, 11, 12, 39])]
noncomputable def spec_l04Raise_l2 (a2 : Int) (a0 : Int) (x962 : Int) (x963 : Int) : Option ((Int × Int) ⊕ (Int ⊕ ((Vec Int 64) × Bool))) :=
  (Option.bind (α := Bool) ((if (decide (x963 < a2)) then (some ((decide (x962 > 0)))) else (some false))) fun x977 => (if x977 then (if (decide ((IntKind.i64.wrap (x962 * a0)) > 63)) then (some (.inr ((.inr (((vrep 64 (0 : Int)), false)))))) else (some (.inl ((IntKind.i64.wrap (x962 * a0), IntKind.i64.wrap (x963 + 1)))))) else (some (.inr (.inl x962)))))
noncomputable def spec_l04Raise_l1 (r2 : Int) (a1 : (Vec Int 64)) (a2 : Int) (a0 : Int) (x663 : Int) (x664 : (Vec Int 64)) : Option ((Int × (Vec Int 64)) ⊕ ((Vec Int 64) ⊕ ((Vec Int 64) × Bool))) :=
  (if (decide (x663 ≤ r2)) then (Option.bind (α := ((Vec Int 64) ⊕ ((Vec Int 64) × Bool))) ((ifp (0 ≤ x663 ∧ x663 < ((64 : Nat) : Int)) ((if ((rd a1.1 x663.toNat) == 0) then (some (.inl x664)) else (Option.bind (α := (Int ⊕ ((Vec Int 64) × Bool))) ((loopM (fun s : (Int × Int) => spec_l04Raise_l2 a2 a0 s.1 s.2) (x663, 0))) fun z => match z with | .inl x949 => (ifp (0 ≤ x663 ∧ x663 < ((64 : Nat) : Int)) ((ifp (0 ≤ x949 ∧ x949 < ((64 : Nat) : Int)) ((some ((.inl (vset x664 x949.toNat (rd a1.1 x663.toNat))))))))) | .inr r991 => (some (.inr r991))))))) fun z => match z with | .inl x909 => (some (.inl ((IntKind.i64.wrap (x663 + 1), x909)))) | .inr r992 => (some (.inr (.inr r992)))) else (some (.inr (.inl x664))))
noncomputable def spec_l04Raise (a0 : Int) (a1 : (Vec Int 64)) (a2 : Int) : Option ((Vec Int 64) × Bool) :=
  (Option.bind (spec_l01Deg a1) fun r2 => (Option.bind (α := ((Vec Int 64) ⊕ ((Vec Int 64) × Bool))) ((loopM (fun s : (Int × (Vec Int 64)) => spec_l04Raise_l1 r2 a1 a2 a0 s.1 s.2) (0, (vrep 64 (0 : Int))))) fun z => match z with | .inl x497 => (some (x497, true)) | .inr r997 => (some r997)))
theorem spec_l04Raise_ok (a0 : Int) (a1 : (Vec Int 64)) (a2 : Int) (r : ((Vec Int 64) × Bool)) (h : spec_l04Raise a0 a1 a2 = some r) : Den Try.prog 190 [(i6 a0), (eA64u8 a1), (i6 a2)] { r := (.tuple [(eA64u8 r.1), (.bool r.2)]) } := by
  refine den_of (rs := [(eA64u8 r.1), (.bool r.2)]) (ac := spec_l04Raise_c) (L := spec_l04Raise_L) (n := 47) (m := []) (c := Try.f190.body.getD .skip) good Try.func190 (by kernel_rfl) (by kernel_rfl) Try.ntmps190 rfl rfl (by kernel_rfl) rfl rfl ?_
  refine a_st (σ' := ⟨[(0, (i6 a0)), (1, (eA64u8 a1)), (2, (i6 a2))], []⟩) (by kernel_rfl) ?_
  unfold spec_l04Raise_c
  refine sr (vo 1400 (eA64u8 a1) rfl rfl (vo 1600 (eA64u8 ((vrep 64 (0 : Int)))) rfl rfl (vp (.bool false) rfl (nx ⟨[(0, (i6 a0)), (2, (i6 a2)), (4, (ow 4)), (6, (ow 6))], [(4, (bk (eA64u8 a1))), (6, (bk (eA64u8 ((vrep 64 (0 : Int))))))]⟩ (by kernel_rfl) (sr (vq (eA64u8 ((vrep 64 (0 : Int)))) rfl ⟨⟨_, rfl, rfl⟩, all_nil⟩ (vl (eA64u8 a1) rfl rfl rfl rfl rfl rfl ?_)))))))
  obtain ⟨r2, hr3, h⟩ := bind_some h
  refine a_call (args := [(eA64u8 a1)]) (u := []) (r := (i6 r2)) rfl rfl (spec_l01Deg_ok a1 r2 hr3) rfl (vo 1800 (eA64u8 ((vrep 64 (0 : Int)))) rfl rfl (vs (eA64u8 ((vrep 64 (0 : Int)))) rfl rfl (fun _ => rfl) rfl rfl rfl rfl rfl rfl (vp (i6 r2) rfl (nx ⟨[(0, (i6 a0)), (2, (i6 a2)), (4, (ow 4)), (6, (ow 6)), (8, (ow 8)), (9, (i6 r2))], [(4, (bk (eA64u8 a1))), (6, (bk (eA64u8 ((vrep 64 (0 : Int)))))), (8, (bk (eA64u8 ((vrep 64 (0 : Int))))))]⟩ (by kernel_rfl) ?_))))
  obtain ⟨y498, hy499, hk500⟩ := bind_some h
  clear h
  refine a_join (emb := fun (s : (Vec Int 64)) => ⟨[(6, (ow 6)), (8, (ow 8))], [(6, (bk (eA64u8 ((vrep 64 (0 : Int)))))), (8, (bk (eA64u8 s)))]⟩) (pre := fun s => (.inl s) = y498) ?_ ?_
  · rintro x497 rfl
    have h := hk500
    refine a_st (σ' := ⟨[(6, (ow 6)), (8, (ow 8))], [(6, (bk (eA64u8 ((vrep 64 (0 : Int)))))), (8, (bk (eA64u8 x497)))]⟩) (by kernel_rfl) (sr (vl (eA64u8 x497) rfl rfl rfl rfl rfl rfl (vs (eA64u8 x497) rfl rfl (fun _ => rfl) rfl rfl rfl rfl rfl rfl (vp (.bool true) rfl (nx _ rfl (a_ret ?_))))))
    have hl996 : LdOk [] (eA64u8 x497) [] 64 true (eA64u8 x497) := (.nil rfl rfl rfl)
    refine ⟨.inr rfl, ?_⟩
    rw [Try.results190]
    cases h
    exact ⟨_, _, _, _, _, ld_own (i := ⟨.arr 64 5, 64, 64, (eA64u8 (vrep 64 (0 : Int)))⟩) rfl rfl rfl hl996, hl996.c, .inl ⟨rfl, .inl rfl⟩, rfl, ⟨_, _, _, _, _, rfl, trivial, .inl ⟨rfl, .inl rfl⟩, rfl, rfl⟩⟩
  · have h := hy499
    refine sr (vp (i6 0) rfl (nx ⟨[(0, (i6 a0)), (2, (i6 a2)), (4, (ow 4)), (6, (ow 6)), (8, (ow 8)), (9, (i6 r2)), (10, (i6 0))], [(4, (bk (eA64u8 a1))), (6, (bk (eA64u8 ((vrep 64 (0 : Int)))))), (8, (bk (eA64u8 ((vrep 64 (0 : Int))))))]⟩ (by kernel_rfl) (a_block ?_)))
    refine a_loop (emb := fun (s : (Int × (Vec Int 64))) => ⟨[(0, (i6 a0)), (2, (i6 a2)), (4, (ow 4)), (6, (ow 6)), (8, (ow 8)), (9, (i6 r2)), (10, (i6 s.1))], [(4, (bk (eA64u8 a1))), (6, (bk (eA64u8 ((vrep 64 (0 : Int)))))), (8, (bk (eA64u8 s.2)))]⟩) (body := (fun s : (Int × (Vec Int 64)) => spec_l04Raise_l1 r2 a1 a2 a0 s.1 s.2)) (G := fun q => some q = some y498) h rfl ?_ (by kernel_rfl)
    rintro X827 ⟨x663, x664⟩ x828 h hX829
    have h : spec_l04Raise_l1 r2 a1 a2 a0 x663 x664 = some x828 := h
    refine a_st (σ' := ⟨[(0, (i6 a0)), (2, (i6 a2)), (4, (ow 4)), (6, (ow 6)), (8, (ow 8)), (9, (i6 r2)), (10, (i6 x663))], [(4, (bk (eA64u8 a1))), (6, (bk (eA64u8 ((vrep 64 (0 : Int)))))), (8, (bk (eA64u8 x664)))]⟩) (by kernel_rfl) (a_seq (sr (vp (i6 x663) rfl (vp (i6 r2) rfl (vp (.bool ((decide (x663 ≤ r2)))) rfl (nx ⟨[(0, (i6 a0)), (2, (i6 a2)), (4, (ow 4)), (6, (ow 6)), (8, (ow 8)), (9, (i6 r2)), (10, (i6 x663)), (18, (.bool ((decide (x663 ≤ r2)))))], [(4, (bk (eA64u8 a1))), (6, (bk (eA64u8 ((vrep 64 (0 : Int)))))), (8, (bk (eA64u8 x664)))]⟩ (by kernel_rfl) ?_))))))
    cases hb830 : (decide (x663 ≤ r2))
    · have h := ite_f hb830 h
      refine a_cond_f rfl (a_exit (t_exit ?_))
      cases h
      have h := hX829
      refine t_exit (b_exit ?_)
      exact j_leaf x664 (Option.some.inj h) (by kernel_rfl)
    · have h := ite_t hb830 h
      refine a_cond_t rfl (a_skip (a_next (σ' := ⟨[(0, (i6 a0)), (2, (i6 a2)), (4, (ow 4)), (6, (ow 6)), (8, (ow 8)), (9, (i6 r2)), (10, (i6 x663))], [(4, (bk (eA64u8 a1))), (6, (bk (eA64u8 ((vrep 64 (0 : Int)))))), (8, (bk (eA64u8 x664)))]⟩) (by kernel_rfl) ?_))
      obtain ⟨y910, hy911, hk912⟩ := bind_some h
      clear h
      refine a_join (emb := fun (s : (Vec Int 64)) => ⟨[(0, (i6 a0)), (2, (i6 a2)), (4, (ow 4)), (6, (ow 6)), (8, (ow 8)), (9, (i6 r2)), (10, (i6 x663))], [(4, (bk (eA64u8 a1))), (6, (bk (eA64u8 ((vrep 64 (0 : Int)))))), (8, (bk (eA64u8 s)))]⟩) (pre := fun s => (.inl s) = y910) ?_ ?_
      · rintro x909 rfl
        have h := hk912
        refine a_st (σ' := ⟨[(0, (i6 a0)), (2, (i6 a2)), (4, (ow 4)), (6, (ow 6)), (8, (ow 8)), (9, (i6 r2)), (10, (i6 x663))], [(4, (bk (eA64u8 a1))), (6, (bk (eA64u8 ((vrep 64 (0 : Int)))))), (8, (bk (eA64u8 x909)))]⟩) (by kernel_rfl) (a_region (vp (i6 x663) rfl (vp (i6 (IntKind.i64.wrap (x663 + 1))) rfl (vp (i6 (IntKind.i64.wrap (x663 + 1))) rfl (a_nil ?_)))))
        cases h
        exact a_again (by kernel_rfl) hX829
      · have h := hy911
        refine a_block (a_seq (sr (vp (i6 x663) rfl ?_)))
        obtain ⟨hc913, h⟩ := ifp_some h
        refine vq (.own 4 [x663.toNat] [x663.toNat * 1]) rfl hc913 ?_
        have hl914 : LdOk [x663.toNat] (eA64u8 a1) [x663.toNat * 1] 1 false (b8 (rd a1.1 x663.toNat)) := (.arr (vlt a1 hc913) rfl (.nil rfl rfl rfl))
        refine vq (b8 (rd a1.1 x663.toNat)) (ld_own (i := ⟨.int .u8, 1, 1, (.int .u8 0)⟩) rfl rfl rfl hl914) hl914.c (vp (.bool (((rd a1.1 x663.toNat) == 0))) rfl (nx ⟨[(0, (i6 a0)), (2, (i6 a2)), (4, (ow 4)), (6, (ow 6)), (8, (ow 8)), (9, (i6 r2)), (10, (i6 x663)), (24, (.bool (((rd a1.1 x663.toNat) == 0))))], [(4, (bk (eA64u8 a1))), (6, (bk (eA64u8 ((vrep 64 (0 : Int)))))), (8, (bk (eA64u8 x664)))]⟩ (by kernel_rfl) ?_))
        cases hb915 : ((rd a1.1 x663.toNat) == 0)
        · have h := ite_f hb915 h
          refine a_cond_f rfl (a_skip (a_next (σ' := ⟨[(0, (i6 a0)), (2, (i6 a2)), (4, (ow 4)), (6, (ow 6)), (8, (ow 8)), (9, (i6 r2)), (10, (i6 x663))], [(4, (bk (eA64u8 a1))), (6, (bk (eA64u8 ((vrep 64 (0 : Int)))))), (8, (bk (eA64u8 x664)))]⟩) (by kernel_rfl) (sr (vp (i6 x663) rfl (vp (i6 x663) rfl (nx ⟨[(0, (i6 a0)), (2, (i6 a2)), (4, (ow 4)), (6, (ow 6)), (8, (ow 8)), (9, (i6 r2)), (10, (i6 x663)), (11, (i6 x663))], [(4, (bk (eA64u8 a1))), (6, (bk (eA64u8 ((vrep 64 (0 : Int)))))), (8, (bk (eA64u8 x664)))]⟩ (by kernel_rfl) ?_))))))
          obtain ⟨y950, hy951, hk952⟩ := bind_some h
          clear h
          refine a_join (emb := fun (s : Int) => ⟨[(0, (i6 a0)), (2, (i6 a2)), (4, (ow 4)), (6, (ow 6)), (8, (ow 8)), (9, (i6 r2)), (10, (i6 x663)), (11, (i6 s))], [(4, (bk (eA64u8 a1))), (6, (bk (eA64u8 ((vrep 64 (0 : Int)))))), (8, (bk (eA64u8 x664)))]⟩) (pre := fun s => (.inl s) = y950) ?_ ?_
          · rintro x949 rfl
            have h := hk952
            refine a_st (σ' := ⟨[(0, (i6 a0)), (2, (i6 a2)), (4, (ow 4)), (6, (ow 6)), (8, (ow 8)), (9, (i6 r2)), (10, (i6 x663)), (11, (i6 x949))], [(4, (bk (eA64u8 a1))), (6, (bk (eA64u8 ((vrep 64 (0 : Int)))))), (8, (bk (eA64u8 x664)))]⟩) (by kernel_rfl) (a_region (vp (i6 x949) rfl (vp (i6 x663) rfl ?_)))
            obtain ⟨hc987, h⟩ := ifp_some h
            refine vq (.own 4 [x663.toNat] [x663.toNat * 1]) rfl hc987 ?_
            have hl988 : LdOk [x663.toNat] (eA64u8 a1) [x663.toNat * 1] 1 false (b8 (rd a1.1 x663.toNat)) := (.arr (vlt a1 hc987) rfl (.nil rfl rfl rfl))
            refine vq (b8 (rd a1.1 x663.toNat)) (ld_own (i := ⟨.int .u8, 1, 1, (.int .u8 0)⟩) rfl rfl rfl hl988) hl988.c ?_
            obtain ⟨hc989, h⟩ := ifp_some h
            refine vq (.own 8 [x949.toNat] [x949.toNat * 1]) rfl hc989 ?_
            have hs990 : StOk [x949.toNat] (eA64u8 x664) [x949.toNat * 1] 1 (b8 (rd a1.1 x663.toNat)) (eA64u8 ((vset x664 x949.toNat (rd a1.1 x663.toNat)))) := (.arr (y := (rd a1.1 x663.toNat)) (vlt x664 hc989) rfl (.nil rfl rfl rfl rfl))
            refine vu .top [(8, (bk (eA64u8 ((vset x664 x949.toNat (rd a1.1 x663.toNat))))))] (st_own (i := ⟨.int .u8, 1, 1, (.int .u8 0)⟩) rfl rfl (fun _ => rfl) rfl hs990) (hs990.c rfl) rfl (a_nil (b_norm ?_))
            exact j_leaf ((vset x664 x949.toNat (rd a1.1 x663.toNat))) (Option.some.inj h) (by kernel_rfl)
          · have h := hy951
            refine sr (vp (i6 0) rfl (nx ⟨[(0, (i6 a0)), (2, (i6 a2)), (4, (ow 4)), (6, (ow 6)), (8, (ow 8)), (9, (i6 r2)), (10, (i6 x663)), (11, (i6 x663)), (12, (i6 0))], [(4, (bk (eA64u8 a1))), (6, (bk (eA64u8 ((vrep 64 (0 : Int)))))), (8, (bk (eA64u8 x664)))]⟩ (by kernel_rfl) (a_block ?_)))
            refine a_loop (emb := fun (s : (Int × Int)) => ⟨[(0, (i6 a0)), (2, (i6 a2)), (4, (ow 4)), (6, (ow 6)), (8, (ow 8)), (9, (i6 r2)), (10, (i6 x663)), (11, (i6 s.1)), (12, (i6 s.2))], [(4, (bk (eA64u8 a1))), (6, (bk (eA64u8 ((vrep 64 (0 : Int)))))), (8, (bk (eA64u8 x664)))]⟩) (body := (fun s : (Int × Int) => spec_l04Raise_l2 a2 a0 s.1 s.2)) (G := fun q => some q = some y950) h rfl ?_ (by kernel_rfl)
            rintro X973 ⟨x962, x963⟩ x974 h hX975
            have h : spec_l04Raise_l2 a2 a0 x962 x963 = some x974 := h
            refine a_st (σ' := ⟨[(0, (i6 a0)), (2, (i6 a2)), (4, (ow 4)), (6, (ow 6)), (8, (ow 8)), (9, (i6 r2)), (10, (i6 x663)), (11, (i6 x962)), (12, (i6 x963))], [(4, (bk (eA64u8 a1))), (6, (bk (eA64u8 ((vrep 64 (0 : Int)))))), (8, (bk (eA64u8 x664)))]⟩) (by kernel_rfl) (a_seq ?_)
            obtain ⟨y978, hy979, hk980⟩ := bind_some h
            clear h
            refine a_join (emb := fun (s : Bool) => ⟨[(0, (i6 a0)), (2, (i6 a2)), (4, (ow 4)), (6, (ow 6)), (8, (ow 8)), (9, (i6 r2)), (10, (i6 x663)), (11, (i6 x962)), (12, (i6 x963)), (32, (.bool s))], [(4, (bk (eA64u8 a1))), (6, (bk (eA64u8 ((vrep 64 (0 : Int)))))), (8, (bk (eA64u8 x664)))]⟩) (pre := fun s => s = y978) ?_ ?_
            · rintro x977 rfl
              have h := hk980
              refine a_st (σ' := ⟨[(0, (i6 a0)), (2, (i6 a2)), (4, (ow 4)), (6, (ow 6)), (8, (ow 8)), (9, (i6 r2)), (10, (i6 x663)), (11, (i6 x962)), (12, (i6 x963)), (32, (.bool x977))], [(4, (bk (eA64u8 a1))), (6, (bk (eA64u8 ((vrep 64 (0 : Int)))))), (8, (bk (eA64u8 x664)))]⟩) (by kernel_rfl) ?_
              cases hb982 : x977
              · have h := ite_f hb982 h
                refine a_cond_f rfl (a_exit (t_exit ?_))
                cases h
                have h := hX975
                refine t_exit (b_exit ?_)
                exact j_leaf x962 (Option.some.inj h) (by kernel_rfl)
              · have h := ite_t hb982 h
                refine a_cond_t rfl (a_skip (a_next (σ' := ⟨[(0, (i6 a0)), (2, (i6 a2)), (4, (ow 4)), (6, (ow 6)), (8, (ow 8)), (9, (i6 r2)), (10, (i6 x663)), (11, (i6 x962)), (12, (i6 x963))], [(4, (bk (eA64u8 a1))), (6, (bk (eA64u8 ((vrep 64 (0 : Int)))))), (8, (bk (eA64u8 x664)))]⟩) (by kernel_rfl) (a_seq (a_block (sr (vp (i6 x962) rfl (vp (i6 a0) rfl (vp (i6 (IntKind.i64.wrap (x962 * a0))) rfl (vp (i6 (IntKind.i64.wrap (x962 * a0))) rfl ?_)))))))))
                refine nx ⟨[(0, (i6 a0)), (2, (i6 a2)), (4, (ow 4)), (6, (ow 6)), (8, (ow 8)), (9, (i6 r2)), (10, (i6 x663)), (11, (i6 (IntKind.i64.wrap (x962 * a0)))), (12, (i6 x963))], [(4, (bk (eA64u8 a1))), (6, (bk (eA64u8 ((vrep 64 (0 : Int)))))), (8, (bk (eA64u8 x664)))]⟩ (by kernel_rfl) (sr (vp (i6 (IntKind.i64.wrap (x962 * a0))) rfl (vp (.bool ((decide ((IntKind.i64.wrap (x962 * a0)) > 63)))) rfl (nx ⟨[(0, (i6 a0)), (2, (i6 a2)), (4, (ow 4)), (6, (ow 6)), (8, (ow 8)), (9, (i6 r2)), (10, (i6 x663)), (11, (i6 (IntKind.i64.wrap (x962 * a0)))), (12, (i6 x963)), (39, (.bool ((decide ((IntKind.i64.wrap (x962 * a0)) > 63)))))], [(4, (bk (eA64u8 a1))), (6, (bk (eA64u8 ((vrep 64 (0 : Int)))))), (8, (bk (eA64u8 x664)))]⟩ (by kernel_rfl) ?_))))
                cases hb983 : (decide ((IntKind.i64.wrap (x962 * a0)) > 63))
                · have h := ite_f hb983 h
                  refine a_cond_f rfl (a_skip (b_norm (a_next (σ' := ⟨[(0, (i6 a0)), (2, (i6 a2)), (4, (ow 4)), (6, (ow 6)), (8, (ow 8)), (9, (i6 r2)), (10, (i6 x663)), (11, (i6 (IntKind.i64.wrap (x962 * a0)))), (12, (i6 x963))], [(4, (bk (eA64u8 a1))), (6, (bk (eA64u8 ((vrep 64 (0 : Int)))))), (8, (bk (eA64u8 x664)))]⟩) (by kernel_rfl) (a_region (vp (i6 x963) rfl (vp (i6 (IntKind.i64.wrap (x963 + 1))) rfl (vp (i6 (IntKind.i64.wrap (x963 + 1))) rfl (a_nil ?_))))))))
                  cases h
                  exact a_again (by kernel_rfl) hX975
                · have h := ite_t hb983 h
                  refine a_cond_t rfl (sr (vq (eA64u8 ((vrep 64 (0 : Int)))) rfl ⟨⟨_, rfl, rfl⟩, all_nil⟩ (vs (eA64u8 ((vrep 64 (0 : Int)))) rfl rfl (fun _ => rfl) rfl rfl rfl rfl rfl rfl (vp (.bool false) rfl (nx _ rfl (a_ret (b_ret (t_ret ?_))))))))
                  cases h
                  have h := hX975
                  refine t_ret (b_ret (t_ret ?_))
                  cases h
                  have h := hk952
                  refine b_ret (t_ret ?_)
                  cases h
                  have h := hk912
                  cases h
                  have h := hX829
                  refine t_ret (b_ret (t_ret ?_))
                  cases h
                  have h := hk500
                  have hl985 : LdOk [] (eA64u8 ((vrep 64 (0 : Int)))) [] 64 true (eA64u8 ((vrep 64 (0 : Int)))) := (.nil rfl rfl rfl)
                  refine ⟨.inr rfl, ?_⟩
                  rw [Try.results190]
                  cases h
                  exact ⟨_, _, _, _, _, ld_own (i := ⟨.arr 64 5, 64, 64, (eA64u8 (vrep 64 (0 : Int)))⟩) rfl rfl rfl hl985, hl985.c, .inl ⟨rfl, .inl rfl⟩, rfl, ⟨_, _, _, _, _, rfl, trivial, .inl ⟨rfl, .inl rfl⟩, rfl, rfl⟩⟩
            · have h := hy979
              refine a_region (vp (i6 x963) rfl (vp (i6 a2) rfl (vp (.bool ((decide (x963 < a2)))) rfl (vp (.bool ((decide (x963 < a2)))) rfl ?_))))
              cases hb981 : (decide (x963 < a2))
              · have h := ite_f hb981 h
                refine a_gskip rfl (a_gskip rfl (vp (.bool false) rfl (a_nil ?_)))
                exact j_leaf false (Option.some.inj h) (by kernel_rfl)
              · have h := ite_t hb981 h
                refine gp (i6 x962) rfl rfl (gp (.bool ((decide (x962 > 0)))) rfl rfl (vp (.bool ((decide (x962 > 0)))) rfl (a_nil ?_)))
                exact j_leaf ((decide (x962 > 0))) (Option.some.inj h) (by kernel_rfl)
        · have h := ite_t hb915 h
          refine a_cond_t rfl (a_exit (t_exit (b_exit ?_)))
          exact j_leaf x664 (Option.some.inj h) (by kernel_rfl)
def spec_l01Add_c : ACode := (.seq (.region 0 [q 5 (.box 25 (t 1)), q 6 (.box 25 (t 2)), q 8 (.alloc 25)] false) (.seq (.seq (.region 1 [q 9 (.asg 0 (.const (.int .i64 0)) 3)] false) (.block 0 (.loop (.seq (.seq (.region 2 [q 10 (.mov (t 9)), q 11 (.bin .lss 3 (t 10) (.const (.int .i64 64)))] false) (.cond (t 11) .skip (.exit 0))) (.seq (.block 1 (.region 4 [q 14 (.mov (t 9)), q 15 (.mov (t 9)), ⟨some 16, .indexAddr 25 (t 5) (t 15), none, [1]⟩, ⟨some 17, .load 5 (t 16), none, [2]⟩, ⟨some 18, .conv 5 2 (t 17), none, [3]⟩, q 19 (.mov (t 3)), q 20 (.mov (t 9)), ⟨some 21, .indexAddr 25 (t 6) (t 20), none, [6]⟩, ⟨some 22, .load 5 (t 21), none, [7]⟩, ⟨some 23, .conv 5 2 (t 22), none, [8]⟩, ⟨some 24, .bin .mul 2 (t 19) (t 23), none, [5, 9]⟩, ⟨some 25, .bin .add 2 (t 18) (t 24), none, [4, 10]⟩, q 26 (.mov (t 0)), ⟨some 27, .bin .rem 2 (t 25) (t 26), none, [11, 12]⟩, q 28 (.mov (t 0)), ⟨some 29, .bin .add 2 (t 27) (t 28), none, [13, 14]⟩, q 30 (.mov (t 0)), ⟨some 31, .bin .rem 2 (t 29) (t 30), none, [15, 16]⟩, ⟨some 32, .conv 2 5 (t 31), none, [17]⟩, ⟨some 33, .indexAddr 25 (t 5) (t 14), none, [0, 0, 1, 2, 3, 4, 5, 6, 7, 8, 9, 10, 11, 12, 13, 14, 15, 16, 17, 18]⟩, ⟨none, .store 5 (t 33) (t 32), none, [19, 18, 0, 1, 2, 3, 4, 5, 6, 7, 8, 9, 10, 11, 12, 13, 14, 15, 16, 17, 18]⟩] true)) (.region 3 [q 12 (.mov (t 9)), q 13 (.bin .add 3 (t 12) (.const (.int .i64 1))), q 9 (.asg 0 (t 13) 3)] false)))))) (.seq (.region 5 [q 34 (.load 25 (t 5)), ⟨none, .store 25 (t 8) (t 34), none, []⟩] false) .ret)))
def spec_l01Add_L : Live := [(0, [0, 1, 2, 3]), (1, [0, 3, 5, 6, 8]), (2, [0, 3, 5, 6, 8, 9]), (3, [0, 3, 5, 6, 8, 9]), (4, [0, 3, 5, 6, 8, 9]), (5, [5, 8]), (100011, [0, 3, 5, 6, 8, 9, 11])]
noncomputable def spec_l01Add_l1 (a3 : Int) (a2 : (Vec Int 64)) (a0 : Int) (x127 : Int) (x128 : (Vec Int 64)) : Option ((Int × (Vec Int 64)) ⊕ (Vec Int 64)) :=
  (if (decide (x127 < 64)) then (ifp (0 ≤ x127 ∧ x127 < ((64 : Nat) : Int)) ((ifp (0 ≤ x127 ∧ x127 < ((64 : Nat) : Int)) ((letp (IntKind.i64.wrap (a3 * (IntKind.i64.wrap (rd a2.1 x127.toNat)))) fun x180 => (letp (IntKind.i64.wrap ((IntKind.i64.wrap (rd x128.1 x127.toNat)) + x180)) fun x182 => (ifp (a0 ≠ 0) ((ifp (a0 ≠ 0) ((letp (IntKind.u8.wrap (Int.tmod (IntKind.i64.wrap ((Int.tmod x182 a0) + a0)) a0)) fun x186 => (ifp (0 ≤ x127 ∧ x127 < ((64 : Nat) : Int)) ((some (.inl ((IntKind.i64.wrap (x127 + 1), (vset x128 x127.toNat x186)))))))))))))))))) else (some (.inr x128)))
noncomputable def spec_l01Add (a0 : Int) (a1 : (Vec Int 64)) (a2 : (Vec Int 64)) (a3 : Int) : Option (Vec Int 64) :=
  (Option.bind (α := (Vec Int 64)) ((loopM (fun s : (Int × (Vec Int 64)) => spec_l01Add_l1 a3 a2 a0 s.1 s.2) (0, a1))) fun x94 => (some x94))
theorem spec_l01Add_ok (a0 : Int) (a1 : (Vec Int 64)) (a2 : (Vec Int 64)) (a3 : Int) (r : (Vec Int 64)) (h : spec_l01Add a0 a1 a2 a3 = some r) : Den Try.prog 121 [(i6 a0), (eA64u8 a1), (eA64u8 a2), (i6 a3)] { r := (eA64u8 r) } := by
  refine den_of (rs := [(eA64u8 r)]) (ac := spec_l01Add_c) (L := spec_l01Add_L) (n := 35) (m := []) (c := Try.f121.body.getD .skip) good Try.func121 (by kernel_rfl) (by kernel_rfl) Try.ntmps121 rfl rfl (by kernel_rfl) rfl rfl ?_
  refine a_st (σ' := ⟨[(0, (i6 a0)), (1, (eA64u8 a1)), (2, (eA64u8 a2)), (3, (i6 a3))], []⟩) (by kernel_rfl) ?_
  unfold spec_l01Add_c
  refine sr (vo 1500 (eA64u8 a1) rfl rfl (vo 1600 (eA64u8 a2) rfl rfl (vo 1800 (eA64u8 ((vrep 64 (0 : Int)))) rfl rfl (nx ⟨[(0, (i6 a0)), (3, (i6 a3)), (5, (ow 5)), (6, (ow 6)), (8, (ow 8))], [(5, (bk (eA64u8 a1))), (6, (bk (eA64u8 a2))), (8, (bk (eA64u8 ((vrep 64 (0 : Int))))))]⟩ (by kernel_rfl) ?_))))
  obtain ⟨y95, hy96, hk97⟩ := bind_some h
  clear h
  refine a_join (emb := fun (s : (Vec Int 64)) => ⟨[(5, (ow 5)), (8, (ow 8))], [(5, (bk (eA64u8 s))), (8, (bk (eA64u8 ((vrep 64 (0 : Int))))))]⟩) (pre := fun s => s = y95) ?_ ?_
  · rintro x94 rfl
    have h := hk97
    refine a_st (σ' := ⟨[(5, (ow 5)), (8, (ow 8))], [(5, (bk (eA64u8 x94))), (8, (bk (eA64u8 ((vrep 64 (0 : Int))))))]⟩) (by kernel_rfl) (sr (vl (eA64u8 x94) rfl rfl rfl rfl rfl rfl (vs (eA64u8 x94) rfl rfl (fun _ => rfl) rfl rfl rfl rfl rfl rfl (nx _ rfl (a_ret ?_)))))
    have hl193 : LdOk [] (eA64u8 x94) [] 64 true (eA64u8 x94) := (.nil rfl rfl rfl)
    refine ⟨.inr rfl, ?_⟩
    rw [Try.results121]
    cases h
    exact ⟨_, _, _, _, _, ld_own (i := ⟨.arr 64 5, 64, 64, (eA64u8 (vrep 64 (0 : Int)))⟩) rfl rfl rfl hl193, hl193.c, .inl ⟨rfl, .inl rfl⟩, rfl, rfl⟩
  · have h := hy96
    refine sr (vp (i6 0) rfl (nx ⟨[(0, (i6 a0)), (3, (i6 a3)), (5, (ow 5)), (6, (ow 6)), (8, (ow 8)), (9, (i6 0))], [(5, (bk (eA64u8 a1))), (6, (bk (eA64u8 a2))), (8, (bk (eA64u8 ((vrep 64 (0 : Int))))))]⟩ (by kernel_rfl) (a_block ?_)))
    refine a_loop (emb := fun (s : (Int × (Vec Int 64))) => ⟨[(0, (i6 a0)), (3, (i6 a3)), (5, (ow 5)), (6, (ow 6)), (8, (ow 8)), (9, (i6 s.1))], [(5, (bk (eA64u8 s.2))), (6, (bk (eA64u8 a2))), (8, (bk (eA64u8 ((vrep 64 (0 : Int))))))]⟩) (body := (fun s : (Int × (Vec Int 64)) => spec_l01Add_l1 a3 a2 a0 s.1 s.2)) (G := fun q => some q = some y95) h rfl ?_ (by kernel_rfl)
    rintro X158 ⟨x127, x128⟩ x159 h hX160
    have h : spec_l01Add_l1 a3 a2 a0 x127 x128 = some x159 := h
    refine a_st (σ' := ⟨[(0, (i6 a0)), (3, (i6 a3)), (5, (ow 5)), (6, (ow 6)), (8, (ow 8)), (9, (i6 x127))], [(5, (bk (eA64u8 x128))), (6, (bk (eA64u8 a2))), (8, (bk (eA64u8 ((vrep 64 (0 : Int))))))]⟩) (by kernel_rfl) (a_seq (sr (vp (i6 x127) rfl (vp (.bool ((decide (x127 < 64)))) rfl (nx ⟨[(0, (i6 a0)), (3, (i6 a3)), (5, (ow 5)), (6, (ow 6)), (8, (ow 8)), (9, (i6 x127)), (11, (.bool ((decide (x127 < 64)))))], [(5, (bk (eA64u8 x128))), (6, (bk (eA64u8 a2))), (8, (bk (eA64u8 ((vrep 64 (0 : Int))))))]⟩ (by kernel_rfl) ?_)))))
    cases hb161 : (decide (x127 < 64))
    · have h := ite_f hb161 h
      refine a_cond_f rfl (a_exit (t_exit ?_))
      cases h
      have h := hX160
      refine t_exit (b_exit ?_)
      exact j_leaf x128 (Option.some.inj h) (by kernel_rfl)
    · have h := ite_t hb161 h
      refine a_cond_t rfl (a_skip (a_next (σ' := ⟨[(0, (i6 a0)), (3, (i6 a3)), (5, (ow 5)), (6, (ow 6)), (8, (ow 8)), (9, (i6 x127))], [(5, (bk (eA64u8 x128))), (6, (bk (eA64u8 a2))), (8, (bk (eA64u8 ((vrep 64 (0 : Int))))))]⟩) (by kernel_rfl) (a_seq (a_block (a_draw [⟨[], [], [], []⟩, ⟨[], [], [], []⟩, ⟨[5], [], [5], [1]⟩, ⟨[5], [], [], [1, 2]⟩, ⟨[], [], [], [1, 2, 3]⟩, ⟨[], [], [], []⟩, ⟨[], [], [], []⟩, ⟨[6], [], [6], [6]⟩, ⟨[6], [], [], [6, 7]⟩, ⟨[], [], [], [6, 7, 8]⟩, ⟨[], [], [], [5, 6, 7, 8, 9]⟩, ⟨[], [], [], [1, 2, 3, 4, 5, 6, 7, 8, 9, 10]⟩, ⟨[], [], [], []⟩, ⟨[], [], [], [1, 2, 3, 4, 5, 6, 7, 8, 9, 10, 11, 12]⟩, ⟨[], [], [], []⟩, ⟨[], [], [], [1, 2, 3, 4, 5, 6, 7, 8, 9, 10, 11, 12, 13, 14]⟩, ⟨[], [], [], []⟩, ⟨[], [], [], [1, 2, 3, 4, 5, 6, 7, 8, 9, 10, 11, 12, 13, 14, 15, 16]⟩, ⟨[], [], [], [1, 2, 3, 4, 5, 6, 7, 8, 9, 10, 11, 12, 13, 14, 15, 16, 17]⟩, ⟨[5], [], [5], [0, 1, 2, 3, 4, 5, 6, 7, 8, 9, 10, 11, 12, 13, 14, 15, 16, 17, 18]⟩, ⟨[5], [5], [], [0, 1, 2, 3, 4, 5, 6, 7, 8, 9, 10, 11, 12, 13, 14, 15, 16, 17, 18, 19]⟩] (by kernel_rfl) (dp (i6 x127) rfl (by kernel_rfl) (dp (i6 x127) rfl (by kernel_rfl) (d_cons ?_))))))))
      obtain ⟨hc176, h⟩ := ifp_some h
      refine vq (.own 5 [x127.toNat] [x127.toNat * 1]) rfl hc176 (d_next (by kernel_rfl) (d_cons ?_))
      have hl177 : LdOk [x127.toNat] (eA64u8 x128) [x127.toNat * 1] 1 false (b8 (rd x128.1 x127.toNat)) := (.arr (vlt x128 hc176) rfl (.nil rfl rfl rfl))
      refine vq (b8 (rd x128.1 x127.toNat)) (ld_own (i := ⟨.int .u8, 1, 1, (.int .u8 0)⟩) rfl rfl rfl hl177) hl177.c (d_next (by kernel_rfl) (dp (i6 (IntKind.i64.wrap (rd x128.1 x127.toNat))) rfl (by kernel_rfl) (dp (i6 a3) rfl (by kernel_rfl) (dp (i6 x127) rfl (by kernel_rfl) (d_cons ?_)))))
      obtain ⟨hc178, h⟩ := ifp_some h
      refine vq (.own 6 [x127.toNat] [x127.toNat * 1]) rfl hc178 (d_next (by kernel_rfl) (d_cons ?_))
      have hl179 : LdOk [x127.toNat] (eA64u8 a2) [x127.toNat * 1] 1 false (b8 (rd a2.1 x127.toNat)) := (.arr (vlt a2 hc178) rfl (.nil rfl rfl rfl))
      refine vq (b8 (rd a2.1 x127.toNat)) (ld_own (i := ⟨.int .u8, 1, 1, (.int .u8 0)⟩) rfl rfl rfl hl179) hl179.c (d_next (by kernel_rfl) (dp (i6 (IntKind.i64.wrap (rd a2.1 x127.toNat))) rfl (by kernel_rfl) (d_cons ?_)))
      obtain ⟨x180, hx181, h⟩ := letp_some h
      refine a_val' (v := (i6 (IntKind.i64.wrap (a3 * (IntKind.i64.wrap (rd a2.1 x127.toNat)))))) (v' := (i6 x180)) (u := []) (u' := []) rfl (congrArg (fun z => ((i6 z) : AV)) hx181) rfl trivial rfl (d_next (by kernel_rfl) (d_cons ?_))
      obtain ⟨x182, hx183, h⟩ := letp_some h
      refine a_val' (v := (i6 (IntKind.i64.wrap ((IntKind.i64.wrap (rd x128.1 x127.toNat)) + x180)))) (v' := (i6 x182)) (u := []) (u' := []) rfl (congrArg (fun z => ((i6 z) : AV)) hx183) rfl trivial rfl (d_next (by kernel_rfl) (dp (i6 a0) rfl (by kernel_rfl) (d_cons ?_)))
      obtain ⟨hc184, h⟩ := ifp_some h
      refine vq (i6 (Int.tmod x182 a0)) rfl hc184 (d_next (by kernel_rfl) (dp (i6 a0) rfl (by kernel_rfl) (dp (i6 (IntKind.i64.wrap ((Int.tmod x182 a0) + a0))) rfl (by kernel_rfl) (dp (i6 a0) rfl (by kernel_rfl) (d_cons ?_)))))
      obtain ⟨hc185, h⟩ := ifp_some h
      refine vq (i6 (Int.tmod (IntKind.i64.wrap ((Int.tmod x182 a0) + a0)) a0)) rfl hc185 (d_next (by kernel_rfl) (d_cons ?_))
      obtain ⟨x186, hx187, h⟩ := letp_some h
      refine a_val' (v := (b8 (IntKind.u8.wrap (Int.tmod (IntKind.i64.wrap ((Int.tmod x182 a0) + a0)) a0)))) (v' := (b8 x186)) (u := []) (u' := []) rfl (congrArg (fun z => ((b8 z) : AV)) hx187) rfl trivial rfl (d_next (by kernel_rfl) (d_cons ?_))
      obtain ⟨hc188, h⟩ := ifp_some h
      refine vq (.own 5 [x127.toNat] [x127.toNat * 1]) rfl hc188 (d_next (by kernel_rfl) (d_cons ?_))
      have hs189 : StOk [x127.toNat] (eA64u8 x128) [x127.toNat * 1] 1 (b8 x186) (eA64u8 (vset x128 x127.toNat x186)) := (.arr (y := x186) (vlt x128 hc188) rfl (.nil rfl rfl rfl rfl))
      refine vu .top [(5, (bk (eA64u8 (vset x128 x127.toNat x186))))] (st_own (i := ⟨.int .u8, 1, 1, (.int .u8 0)⟩) rfl rfl (fun _ => rfl) rfl hs189) (hs189.c rfl) rfl (d_next (by kernel_rfl) (d_nil (b_norm (a_next (σ' := ⟨[(0, (i6 a0)), (3, (i6 a3)), (5, (ow 5)), (6, (ow 6)), (8, (ow 8)), (9, (i6 x127))], [(5, (bk (eA64u8 (vset x128 x127.toNat x186)))), (6, (bk (eA64u8 a2))), (8, (bk (eA64u8 ((vrep 64 (0 : Int))))))]⟩) (by kernel_rfl) (a_region (vp (i6 x127) rfl (vp (i6 (IntKind.i64.wrap (x127 + 1))) rfl (vp (i6 (IntKind.i64.wrap (x127 + 1))) rfl (a_nil ?_)))))))))
      cases h
      exact a_again (by kernel_rfl) hX160
def spec_l04Bracket_c : ACode := (.seq (.region 0 [q 6 (.alloc 25), q 7 (.asg 0 (.const (.bool false)) 4)] false) (.seq (.region 1 [q 13 (.mov (t 0)), q 14 (.call 0 (.func 166) []), q 15 (.mov (t 1)), q 16 (.call 0 (.func 190) [(t 13), (t 14), (t 15)]), q 12 (.mov (t 16)), q 17 (.extract (t 12) 0), q 18 (.extract (t 12) 1), q 8 (.alloc 25), ⟨none, .store 25 (t 8) (t 17), none, []⟩, q 9 (.asg 0 (t 18) 4)] false) (.seq (.region 2 [q 20 (.mov (t 0)), q 21 (.call 0 (.func 166) []), q 22 (.mov (t 2)), q 23 (.call 0 (.func 190) [(t 20), (t 21), (t 22)]), q 19 (.mov (t 23)), q 24 (.extract (t 19) 0), q 25 (.extract (t 19) 1), q 10 (.alloc 25), ⟨none, .store 25 (t 10) (t 24), none, []⟩, q 11 (.asg 0 (t 25) 4)] false) (.seq (.region 3 [q 26 (.mov (t 0)), q 27 (.load 25 (t 8)), q 28 (.load 25 (t 10)), q 29 (.call 0 (.func 121) [(t 26), (t 27), (t 28), (.const (.int .i64 (-1)))]), q 30 (.mov (t 9)), q 31 (.mov (t 30)), ⟨some 32, .mov (t 11), some (31, true), []⟩, q 33 (.pick (t 31) (t 32) (.const (.bool false))), ⟨none, .store 25 (t 6) (t 29), none, []⟩, q 7 (.asg 0 (t 33) 4)] false) .ret))))
def spec_l04Bracket_L : Live := [(0, [0, 1, 2]), (1, [0, 1, 2, 6]), (2, [0, 2, 6, 8, 9]), (3, [0, 6, 8, 9, 10, 11])]
noncomputable def spec_l04Bracket (a0 : Int) (a1 : Int) (a2 : Int) : Option ((Vec Int 64) × Bool) :=
  (Option.bind (spec_l01T) fun r1 => (Option.bind (spec_l04Raise a0 r1 a1) fun r3 => (Option.bind (spec_l01T) fun r6 => (Option.bind (spec_l04Raise a0 r6 a2) fun r8 => (Option.bind (spec_l01Add a0 r3.1 r8.1 (-1)) fun r13 => (if r3.2 then (some (r13, r8.2)) else (some (r13, false))))))))
theorem spec_l04Bracket_ok (a0 : Int) (a1 : Int) (a2 : Int) (r : ((Vec Int 64) × Bool)) (h : spec_l04Bracket a0 a1 a2 = some r) : Den Try.prog 127 [(i6 a0), (i6 a1), (i6 a2)] { r := (.tuple [(eA64u8 r.1), (.bool r.2)]) } := by
  refine den_of (rs := [(eA64u8 r.1), (.bool r.2)]) (ac := spec_l04Bracket_c) (L := spec_l04Bracket_L) (n := 34) (m := []) (c := Try.f127.body.getD .skip) good Try.func127 (by kernel_rfl) (by kernel_rfl) Try.ntmps127 rfl rfl (by kernel_rfl) rfl rfl ?_
  refine a_st (σ' := ⟨[(0, (i6 a0)), (1, (i6 a1)), (2, (i6 a2))], []⟩) (by kernel_rfl) ?_
  unfold spec_l04Bracket_c
  refine sr (vo 1600 (eA64u8 ((vrep 64 (0 : Int)))) rfl rfl (vp (.bool false) rfl (nx ⟨[(0, (i6 a0)), (1, (i6 a1)), (2, (i6 a2)), (6, (ow 6))], [(6, (bk (eA64u8 ((vrep 64 (0 : Int))))))]⟩ (by kernel_rfl) (sr (vp (i6 a0) rfl ?_)))))
  obtain ⟨r1, hr2, h⟩ := bind_some h
  refine a_call (args := []) (u := []) (r := (eA64u8 r1)) rfl rfl (spec_l01T_ok r1 hr2) rfl (vp (i6 a1) rfl ?_)
  obtain ⟨r3, hr4, h⟩ := bind_some h
  refine a_call (args := [(i6 a0), (eA64u8 r1), (i6 a1)]) (u := []) (r := (.tuple [(eA64u8 r3.1), (.bool r3.2)])) rfl rfl (spec_l04Raise_ok a0 r1 a1 r3 hr4) rfl (vp (.tuple [(eA64u8 r3.1), (.bool r3.2)]) rfl (vb (eA64u8 r3.1) rfl rfl (vb (.bool r3.2) rfl rfl (vo 1800 (eA64u8 ((vrep 64 (0 : Int)))) rfl rfl (vs (eA64u8 r3.1) rfl rfl (fun _ => rfl) rfl rfl rfl rfl rfl rfl (vp (.bool r3.2) rfl (nx ⟨[(0, (i6 a0)), (2, (i6 a2)), (6, (ow 6)), (8, (ow 8)), (9, (.bool r3.2))], [(6, (bk (eA64u8 ((vrep 64 (0 : Int)))))), (8, (bk (eA64u8 r3.1)))]⟩ (by kernel_rfl) (sr (vp (i6 a0) rfl ?_)))))))))
  obtain ⟨r6, hr7, h⟩ := bind_some h
  refine a_call (args := []) (u := []) (r := (eA64u8 r6)) rfl rfl (spec_l01T_ok r6 hr7) rfl (vp (i6 a2) rfl ?_)
  obtain ⟨r8, hr9, h⟩ := bind_some h
  refine a_call (args := [(i6 a0), (eA64u8 r6), (i6 a2)]) (u := []) (r := (.tuple [(eA64u8 r8.1), (.bool r8.2)])) rfl rfl (spec_l04Raise_ok a0 r6 a2 r8 hr9) rfl (vp (.tuple [(eA64u8 r8.1), (.bool r8.2)]) rfl (vb (eA64u8 r8.1) rfl rfl (vb (.bool r8.2) rfl rfl (vo 2000 (eA64u8 ((vrep 64 (0 : Int)))) rfl rfl (vs (eA64u8 r8.1) rfl rfl (fun _ => rfl) rfl rfl rfl rfl rfl rfl (vp (.bool r8.2) rfl (nx ⟨[(0, (i6 a0)), (6, (ow 6)), (8, (ow 8)), (9, (.bool r3.2)), (10, (ow 10)), (11, (.bool r8.2))], [(6, (bk (eA64u8 ((vrep 64 (0 : Int)))))), (8, (bk (eA64u8 r3.1))), (10, (bk (eA64u8 r8.1)))]⟩ (by kernel_rfl) (sr (vp (i6 a0) rfl ?_)))))))))
  refine vl (eA64u8 r3.1) rfl rfl rfl rfl rfl rfl (vl (eA64u8 r8.1) rfl rfl rfl rfl rfl rfl ?_)
  obtain ⟨r13, hr14, h⟩ := bind_some h
  refine a_call (args := [(i6 a0), (eA64u8 r3.1), (eA64u8 r8.1), (i6 (-1))]) (u := []) (r := (eA64u8 r13)) rfl rfl (spec_l01Add_ok a0 r3.1 r8.1 (-1) r13 hr14) rfl (vp (.bool r3.2) rfl (vp (.bool r3.2) rfl ?_))
  cases hb15 : r3.2
  · have h := ite_f hb15 h
    refine a_gskip rfl (vp (.bool false) rfl (vs (eA64u8 r13) rfl rfl (fun _ => rfl) rfl rfl rfl rfl rfl rfl (vp (.bool false) rfl (nx _ rfl (a_ret ?_)))))
    have hl17 : LdOk [] (eA64u8 r13) [] 64 true (eA64u8 r13) := (.nil rfl rfl rfl)
    refine ⟨.inr rfl, ?_⟩
    rw [Try.results127]
    cases h
    exact ⟨_, _, _, _, _, ld_own (i := ⟨.arr 64 5, 64, 64, (eA64u8 (vrep 64 (0 : Int)))⟩) rfl rfl rfl hl17, hl17.c, .inl ⟨rfl, .inl rfl⟩, rfl, ⟨_, _, _, _, _, rfl, trivial, .inl ⟨rfl, .inl rfl⟩, rfl, rfl⟩⟩
  · have h := ite_t hb15 h
    refine gp (.bool r8.2) rfl rfl (vp (.bool r8.2) rfl (vs (eA64u8 r13) rfl rfl (fun _ => rfl) rfl rfl rfl rfl rfl rfl (vp (.bool r8.2) rfl (nx _ rfl (a_ret ?_)))))
    have hl19 : LdOk [] (eA64u8 r13) [] 64 true (eA64u8 r13) := (.nil rfl rfl rfl)
    refine ⟨.inr rfl, ?_⟩
    rw [Try.results127]
    cases h
    exact ⟨_, _, _, _, _, ld_own (i := ⟨.arr 64 5, 64, 64, (eA64u8 (vrep 64 (0 : Int)))⟩) rfl rfl rfl hl19, hl19.c, .inl ⟨rfl, .inl rfl⟩, rfl, ⟨_, _, _, _, _, rfl, trivial, .inl ⟨rfl, .inl rfl⟩, rfl, rfl⟩⟩
def spec_l01Times_c : ACode := (.seq (.region 0 [q 4 (.box 25 (t 1)), q 5 (.box 25 (t 2)), q 6 (.alloc 25), q 7 (.asg 0 (.const (.bool false)) 4)] false) (.seq (.region 1 [q 13 (.load 25 (t 4)), ⟨some 14, .call 0 (.func 112) [(t 13)], none, [0]⟩, q 15 (.load 25 (t 5)), ⟨some 16, .call 0 (.func 112) [(t 15)], none, [2, 1]⟩, q 17 (.build 25 []), q 10 (.alloc 25), ⟨some 8, .asg 0 (t 14) 2, none, [1, 3, 0, 1, 5]⟩, ⟨some 9, .asg 0 (t 16) 2, none, [3, 6, 0, 1, 2, 3, 5, 6]⟩, ⟨none, .store 25 (t 10) (t 17), none, [5, 4, 7, 0, 1, 2, 3, 4, 5, 6, 7]⟩] true) (.seq (.seq (.region 2 [q 18 (.mov (t 8)), q 19 (.bin .lss 2 (t 18) (.const (.int .i64 0))), q 20 (.mov (t 19)), ⟨some 21, .mov (t 9), some (20, false), []⟩, ⟨some 22, .bin .lss 2 (t 21) (.const (.int .i64 0)), some (20, false), []⟩, q 23 (.pick (t 20) (.const (.bool true)) (t 22))] false) (.cond (t 23) (.seq (.region 3 [q 24 (.load 25 (t 10)), ⟨none, .store 25 (t 6) (t 24), none, []⟩, q 7 (.asg 0 (.const (.bool true)) 4)] false) .ret) .skip)) (.seq (.seq (.region 4 [q 25 (.mov (t 8)), q 26 (.mov (t 9)), q 27 (.bin .add 2 (t 25) (t 26)), q 28 (.bin .gtr 2 (t 27) (.const (.int .i64 63)))] false) (.cond (t 28) (.seq (.region 5 [q 29 (.load 25 (t 10)), ⟨none, .store 25 (t 6) (t 29), none, []⟩, q 7 (.asg 0 (.const (.bool false)) 4)] false) .ret) .skip)) (.seq (.seq (.region 6 [q 11 (.asg 0 (.const (.int .i64 0)) 2)] false) (.block 0 (.loop (.seq (.seq (.region 7 [q 30 (.mov (t 11)), q 31 (.mov (t 8)), q 32 (.bin .leq 2 (t 30) (t 31))] false) (.cond (t 32) .skip (.exit 0))) (.seq (.block 1 (.seq (.region 9 [q 12 (.asg 0 (.const (.int .i64 0)) 2)] false) (.block 2 (.loop (.seq (.seq (.region 10 [q 35 (.mov (t 12)), q 36 (.mov (t 9)), q 37 (.bin .leq 2 (t 35) (t 36)), q 38 (.mov (t 37)), ⟨some 39, .mov (t 11), some (38, true), []⟩, ⟨some 40, .indexAddr 25 (t 4) (t 39), some (38, true), []⟩, ⟨some 41, .load 5 (t 40), some (38, true), []⟩, ⟨some 42, .bin .neq 5 (t 41) (.const (.int .u8 0)), some (38, true), []⟩, q 43 (.pick (t 38) (t 42) (.const (.bool false)))] false) (.cond (t 43) .skip (.exit 2))) (.seq (.block 3 (.region 12 [q 46 (.mov (t 11)), q 47 (.mov (t 12)), ⟨some 48, .bin .add 2 (t 46) (t 47), none, [0, 1]⟩, q 49 (.mov (t 11)), q 50 (.mov (t 12)), ⟨some 51, .bin .add 2 (t 49) (t 50), none, [3, 4]⟩, ⟨some 52, .indexAddr 25 (t 10) (t 51), none, [5]⟩, ⟨some 53, .load 5 (t 52), none, [6]⟩, ⟨some 54, .conv 5 2 (t 53), none, [7]⟩, q 55 (.mov (t 11)), ⟨some 56, .indexAddr 25 (t 4) (t 55), none, [9]⟩, ⟨some 57, .load 5 (t 56), none, [10]⟩, ⟨some 58, .conv 5 2 (t 57), none, [11]⟩, q 59 (.mov (t 12)), ⟨some 60, .indexAddr 25 (t 5) (t 59), none, [13]⟩, ⟨some 61, .load 5 (t 60), none, [14]⟩, ⟨some 62, .conv 5 2 (t 61), none, [15]⟩, ⟨some 63, .bin .mul 2 (t 58) (t 62), none, [12, 16]⟩, ⟨some 64, .bin .add 2 (t 54) (t 63), none, [8, 17]⟩, q 65 (.mov (t 0)), ⟨some 66, .bin .rem 2 (t 64) (t 65), none, [18, 19]⟩, ⟨some 67, .conv 2 5 (t 66), none, [20]⟩, ⟨some 68, .indexAddr 25 (t 10) (t 48), none, [2, 0, 1, 2, 3, 4, 5, 6, 7, 8, 9, 10, 11, 12, 13, 14, 15, 16, 17, 18, 19, 20, 21]⟩, ⟨none, .store 5 (t 68) (t 67), none, [22, 21, 0, 1, 2, 3, 4, 5, 6, 7, 8, 9, 10, 11, 12, 13, 14, 15, 16, 17, 18, 19, 20, 21]⟩] true)) (.region 11 [q 44 (.mov (t 12)), q 45 (.bin .add 2 (t 44) (.const (.int .i64 1))), q 12 (.asg 0 (t 45) 2)] false))))))) (.region 8 [q 33 (.mov (t 11)), q 34 (.bin .add 2 (t 33) (.const (.int .i64 1))), q 11 (.asg 0 (t 34) 2)] false)))))) (.seq (.region 13 [q 69 (.load 25 (t 10)), ⟨none, .store 25 (t 6) (t 69), none, []⟩, q 7 (.asg 0 (.const (.bool true)) 4)] false) .ret))))))
def spec_l01Times_L : Live := [(0, [0, 1, 2]), (1, [0, 4, 5, 6]), (2, [0, 4, 5, 6, 8, 9, 10]), (3, [6, 10]), (4, [0, 4, 5, 6, 8, 9, 10]), (5, [6, 10]), (6, [0, 4, 5, 6, 8, 9, 10]), (7, [0, 4, 5, 6, 8, 9, 10, 11]), (8, [0, 4, 5, 6, 8, 9, 10, 11]), (9, [0, 4, 5, 6, 8, 9, 10, 11]), (10, [0, 4, 5, 6, 8, 9, 10, 11, 12]), (11, [0, 4, 5, 6, 8, 9, 10, 11, 12]), (12, [0, 4, 5, 6, 8, 9, 10, 11, 12]), (13, [6, 10]), (100023, [0, 4, 5, 6, 8, 9, 10, 23]), (100028, [0, 4, 5, 6, 8, 9, 10, 28]), (100032, [0, 4, 5, 6, 8, 9, 10, 11, 32]), (100043, [0, 4, 5, 6, 8, 9, 10, 11, 12, 43])]
noncomputable def spec_l01Times_l2 (r12 : Int) (x1081 : Int) (a1 : (Vec Int 64)) (a2 : (Vec Int 64)) (a0 : Int) (x1524 : Int) (x1525 : (Vec Int 64)) : Option ((Int × (Vec Int 64)) ⊕ (Vec Int 64)) :=
  (Option.bind (α := Bool) ((if (decide (x1524 ≤ r12)) then (ifp (0 ≤ x1081 ∧ x1081 < ((64 : Nat) : Int)) ((some (((rd a1.1 x1081.toNat) != 0))))) else (some false))) fun x1573 => (if x1573 then (ifp (0 ≤ IntKind.i64.wrap (x1081 + x1524) ∧ IntKind.i64.wrap (x1081 + x1524) < ((64 : Nat) : Int)) ((letp (IntKind.i64.wrap ((rd x1525.1 (IntKind.i64.wrap (x1081 + x1524)).toNat))) fun x1598 => (ifp (0 ≤ x1081 ∧ x1081 < ((64 : Nat) : Int)) ((ifp (0 ≤ x1524 ∧ x1524 < ((64 : Nat) : Int)) ((letp (IntKind.i64.wrap ((IntKind.i64.wrap (rd a1.1 x1081.toNat)) * (IntKind.i64.wrap (rd a2.1 x1524.toNat)))) fun x1604 => (ifp (a0 ≠ 0) ((letp (IntKind.u8.wrap (Int.tmod (IntKind.i64.wrap (x1598 + x1604)) a0)) fun x1607 => (ifp (0 ≤ IntKind.i64.wrap (x1081 + x1524) ∧ IntKind.i64.wrap (x1081 + x1524) < ((64 : Nat) : Int)) ((some (.inl ((IntKind.i64.wrap (x1524 + 1), (vset x1525 (IntKind.i64.wrap (x1081 + x1524)).toNat x1607)))))))))))))))))) else (some (.inr x1525))))
noncomputable def spec_l01Times_l1 (r9 : Int) (r12 : Int) (a1 : (Vec Int 64)) (a2 : (Vec Int 64)) (a0 : Int) (x1081 : Int) (x1082 : (Vec Int 64)) : Option ((Int × (Vec Int 64)) ⊕ (Vec Int 64)) :=
  (if (decide (x1081 ≤ r9)) then (Option.bind (α := (Vec Int 64)) ((loopM (fun s : (Int × (Vec Int 64)) => spec_l01Times_l2 r12 x1081 a1 a2 a0 s.1 s.2) (0, x1082))) fun x1479 => (some (.inl ((IntKind.i64.wrap (x1081 + 1), x1479))))) else (some (.inr x1082)))
noncomputable def spec_l01Times (a0 : Int) (a1 : (Vec Int 64)) (a2 : (Vec Int 64)) : Option ((Vec Int 64) × Bool) :=
  (Option.bind (spec_l01Deg a1) fun r9 => (Option.bind (spec_l01Deg a2) fun r12 => (Option.bind (α := Bool) ((if (decide (r9 < 0)) then (some true) else (some ((decide (r12 < 0)))))) fun x16 => (if x16 then (some (((vrep 64 (0 : Int)), true))) else (if (decide ((IntKind.i64.wrap (r9 + r12)) > 63)) then (some (((vrep 64 (0 : Int)), false))) else (Option.bind (α := (Vec Int 64)) ((loopM (fun s : (Int × (Vec Int 64)) => spec_l01Times_l1 r9 r12 a1 a2 a0 s.1 s.2) (0, (vrep 64 (0 : Int))))) fun x814 => (some (x814, true))))))))
theorem spec_l01Times_ok (a0 : Int) (a1 : (Vec Int 64)) (a2 : (Vec Int 64)) (r : ((Vec Int 64) × Bool)) (h : spec_l01Times a0 a1 a2 = some r) : Den Try.prog 105 [(i6 a0), (eA64u8 a1), (eA64u8 a2)] { r := (.tuple [(eA64u8 r.1), (.bool r.2)]) } := by
  refine den_of (rs := [(eA64u8 r.1), (.bool r.2)]) (ac := spec_l01Times_c) (L := spec_l01Times_L) (n := 70) (m := []) (c := Try.f105.body.getD .skip) good Try.func105 (by kernel_rfl) (by kernel_rfl) Try.ntmps105 rfl rfl (by kernel_rfl) rfl rfl ?_
  refine a_st (σ' := ⟨[(0, (i6 a0)), (1, (eA64u8 a1)), (2, (eA64u8 a2))], []⟩) (by kernel_rfl) ?_
  unfold spec_l01Times_c
  refine sr (vo 1400 (eA64u8 a1) rfl rfl (vo 1500 (eA64u8 a2) rfl rfl (vo 1600 (eA64u8 ((vrep 64 (0 : Int)))) rfl rfl (vp (.bool false) rfl (nx ⟨[(0, (i6 a0)), (4, (ow 4)), (5, (ow 5)), (6, (ow 6))], [(4, (bk (eA64u8 a1))), (5, (bk (eA64u8 a2))), (6, (bk (eA64u8 ((vrep 64 (0 : Int))))))]⟩ (by kernel_rfl) (a_seq (a_draw [⟨[4], [], [], []⟩, ⟨[], [], [], [0]⟩, ⟨[5], [], [], []⟩, ⟨[], [], [], [0, 1, 2]⟩, ⟨[], [], [], []⟩, ⟨[2000], [2000], [2000], []⟩, ⟨[], [], [], [0, 1, 2, 3, 5]⟩, ⟨[], [], [], [0, 1, 2, 3, 5, 6]⟩, ⟨[2000], [2000], [], [0, 1, 2, 3, 4, 5, 6, 7]⟩] (by kernel_rfl) (d_cons (vl (eA64u8 a1) rfl rfl rfl rfl rfl rfl ?_)))))))))
  refine d_next (by kernel_rfl) (d_cons ?_)
  obtain ⟨r9, hr10, h⟩ := bind_some h
  refine a_call (args := [(eA64u8 a1)]) (u := []) (r := (i6 r9)) rfl rfl (spec_l01Deg_ok a1 r9 hr10) rfl (d_next (by kernel_rfl) (d_cons (vl (eA64u8 a2) rfl rfl rfl rfl rfl rfl (d_next (by kernel_rfl) (d_cons ?_)))))
  obtain ⟨r12, hr13, h⟩ := bind_some h
  refine a_call (args := [(eA64u8 a2)]) (u := []) (r := (i6 r12)) rfl rfl (spec_l01Deg_ok a2 r12 hr13) rfl (d_next (by kernel_rfl) (d_cons (vq (eA64u8 ((vrep 64 (0 : Int)))) rfl ⟨⟨_, rfl, rfl⟩, all_nil⟩ (d_next (by kernel_rfl) (d_cons (vo 2000 (eA64u8 ((vrep 64 (0 : Int)))) rfl rfl (d_next (by kernel_rfl) (dp (i6 r9) rfl (by kernel_rfl) (dp (i6 r12) rfl (by kernel_rfl) ?_)))))))))
  refine d_cons (vs (eA64u8 ((vrep 64 (0 : Int)))) rfl rfl (fun _ => rfl) rfl rfl rfl rfl rfl rfl (d_next (by kernel_rfl) (d_nil (a_next (σ' := ⟨[(0, (i6 a0)), (4, (ow 4)), (5, (ow 5)), (6, (ow 6)), (8, (i6 r9)), (9, (i6 r12)), (10, (ow 10))], [(4, (bk (eA64u8 a1))), (5, (bk (eA64u8 a2))), (6, (bk (eA64u8 ((vrep 64 (0 : Int)))))), (10, (bk (eA64u8 ((vrep 64 (0 : Int))))))]⟩) (by kernel_rfl) (a_seq ?_)))))
  obtain ⟨y17, hy18, hk19⟩ := bind_some h
  clear h
  refine a_join (emb := fun (s : Bool) => ⟨[(0, (i6 a0)), (4, (ow 4)), (5, (ow 5)), (6, (ow 6)), (8, (i6 r9)), (9, (i6 r12)), (10, (ow 10)), (23, (.bool s))], [(4, (bk (eA64u8 a1))), (5, (bk (eA64u8 a2))), (6, (bk (eA64u8 ((vrep 64 (0 : Int)))))), (10, (bk (eA64u8 ((vrep 64 (0 : Int))))))]⟩) (pre := fun s => s = y17) ?_ ?_
  · rintro x16 rfl
    have h := hk19
    refine a_st (σ' := ⟨[(0, (i6 a0)), (4, (ow 4)), (5, (ow 5)), (6, (ow 6)), (8, (i6 r9)), (9, (i6 r12)), (10, (ow 10)), (23, (.bool x16))], [(4, (bk (eA64u8 a1))), (5, (bk (eA64u8 a2))), (6, (bk (eA64u8 ((vrep 64 (0 : Int)))))), (10, (bk (eA64u8 ((vrep 64 (0 : Int))))))]⟩) (by kernel_rfl) ?_
    cases hb21 : x16
    · have h := ite_f hb21 h
      refine a_cond_f rfl (a_skip (a_next (σ' := ⟨[(0, (i6 a0)), (4, (ow 4)), (5, (ow 5)), (6, (ow 6)), (8, (i6 r9)), (9, (i6 r12)), (10, (ow 10))], [(4, (bk (eA64u8 a1))), (5, (bk (eA64u8 a2))), (6, (bk (eA64u8 ((vrep 64 (0 : Int)))))), (10, (bk (eA64u8 ((vrep 64 (0 : Int))))))]⟩) (by kernel_rfl) (a_seq (sr (vp (i6 r9) rfl (vp (i6 r12) rfl (vp (i6 (IntKind.i64.wrap (r9 + r12))) rfl (vp (.bool ((decide ((IntKind.i64.wrap (r9 + r12)) > 63)))) rfl (nx ⟨[(0, (i6 a0)), (4, (ow 4)), (5, (ow 5)), (6, (ow 6)), (8, (i6 r9)), (9, (i6 r12)), (10, (ow 10)), (28, (.bool ((decide ((IntKind.i64.wrap (r9 + r12)) > 63)))))], [(4, (bk (eA64u8 a1))), (5, (bk (eA64u8 a2))), (6, (bk (eA64u8 ((vrep 64 (0 : Int)))))), (10, (bk (eA64u8 ((vrep 64 (0 : Int))))))]⟩ (by kernel_rfl) ?_)))))))))
      cases hb22 : (decide ((IntKind.i64.wrap (r9 + r12)) > 63))
      · have h := ite_f hb22 h
        refine a_cond_f rfl (a_skip (a_next (σ' := ⟨[(0, (i6 a0)), (4, (ow 4)), (5, (ow 5)), (6, (ow 6)), (8, (i6 r9)), (9, (i6 r12)), (10, (ow 10))], [(4, (bk (eA64u8 a1))), (5, (bk (eA64u8 a2))), (6, (bk (eA64u8 ((vrep 64 (0 : Int)))))), (10, (bk (eA64u8 ((vrep 64 (0 : Int))))))]⟩) (by kernel_rfl) ?_))
        obtain ⟨y815, hy816, hk817⟩ := bind_some h
        clear h
        refine a_join (emb := fun (s : (Vec Int 64)) => ⟨[(6, (ow 6)), (10, (ow 10))], [(6, (bk (eA64u8 ((vrep 64 (0 : Int)))))), (10, (bk (eA64u8 s)))]⟩) (pre := fun s => s = y815) ?_ ?_
        · rintro x814 rfl
          have h := hk817
          refine a_st (σ' := ⟨[(6, (ow 6)), (10, (ow 10))], [(6, (bk (eA64u8 ((vrep 64 (0 : Int)))))), (10, (bk (eA64u8 x814)))]⟩) (by kernel_rfl) (sr (vl (eA64u8 x814) rfl rfl rfl rfl rfl rfl (vs (eA64u8 x814) rfl rfl (fun _ => rfl) rfl rfl rfl rfl rfl rfl (vp (.bool true) rfl (nx _ rfl (a_ret ?_))))))
          have hl1615 : LdOk [] (eA64u8 x814) [] 64 true (eA64u8 x814) := (.nil rfl rfl rfl)
          refine ⟨.inr rfl, ?_⟩
          rw [Try.results105]
          cases h
          exact ⟨_, _, _, _, _, ld_own (i := ⟨.arr 64 5, 64, 64, (eA64u8 (vrep 64 (0 : Int)))⟩) rfl rfl rfl hl1615, hl1615.c, .inl ⟨rfl, .inl rfl⟩, rfl, ⟨_, _, _, _, _, rfl, trivial, .inl ⟨rfl, .inl rfl⟩, rfl, rfl⟩⟩
        · have h := hy816
          refine sr (vp (i6 0) rfl (nx ⟨[(0, (i6 a0)), (4, (ow 4)), (5, (ow 5)), (6, (ow 6)), (8, (i6 r9)), (9, (i6 r12)), (10, (ow 10)), (11, (i6 0))], [(4, (bk (eA64u8 a1))), (5, (bk (eA64u8 a2))), (6, (bk (eA64u8 ((vrep 64 (0 : Int)))))), (10, (bk (eA64u8 ((vrep 64 (0 : Int))))))]⟩ (by kernel_rfl) (a_block ?_)))
          refine a_loop (emb := fun (s : (Int × (Vec Int 64))) => ⟨[(0, (i6 a0)), (4, (ow 4)), (5, (ow 5)), (6, (ow 6)), (8, (i6 r9)), (9, (i6 r12)), (10, (ow 10)), (11, (i6 s.1))], [(4, (bk (eA64u8 a1))), (5, (bk (eA64u8 a2))), (6, (bk (eA64u8 ((vrep 64 (0 : Int)))))), (10, (bk (eA64u8 s.2)))]⟩) (body := (fun s : (Int × (Vec Int 64)) => spec_l01Times_l1 r9 r12 a1 a2 a0 s.1 s.2)) (G := fun q => some q = some y815) h rfl ?_ (by kernel_rfl)
          rintro X1346 ⟨x1081, x1082⟩ x1347 h hX1348
          have h : spec_l01Times_l1 r9 r12 a1 a2 a0 x1081 x1082 = some x1347 := h
          refine a_st (σ' := ⟨[(0, (i6 a0)), (4, (ow 4)), (5, (ow 5)), (6, (ow 6)), (8, (i6 r9)), (9, (i6 r12)), (10, (ow 10)), (11, (i6 x1081))], [(4, (bk (eA64u8 a1))), (5, (bk (eA64u8 a2))), (6, (bk (eA64u8 ((vrep 64 (0 : Int)))))), (10, (bk (eA64u8 x1082)))]⟩) (by kernel_rfl) (a_seq (sr (vp (i6 x1081) rfl (vp (i6 r9) rfl (vp (.bool ((decide (x1081 ≤ r9)))) rfl (nx ⟨[(0, (i6 a0)), (4, (ow 4)), (5, (ow 5)), (6, (ow 6)), (8, (i6 r9)), (9, (i6 r12)), (10, (ow 10)), (11, (i6 x1081)), (32, (.bool ((decide (x1081 ≤ r9)))))], [(4, (bk (eA64u8 a1))), (5, (bk (eA64u8 a2))), (6, (bk (eA64u8 ((vrep 64 (0 : Int)))))), (10, (bk (eA64u8 x1082)))]⟩ (by kernel_rfl) ?_))))))
          cases hb1349 : (decide (x1081 ≤ r9))
          · have h := ite_f hb1349 h
            refine a_cond_f rfl (a_exit (t_exit ?_))
            cases h
            have h := hX1348
            refine t_exit (b_exit ?_)
            exact j_leaf x1082 (Option.some.inj h) (by kernel_rfl)
          · have h := ite_t hb1349 h
            refine a_cond_t rfl (a_skip (a_next (σ' := ⟨[(0, (i6 a0)), (4, (ow 4)), (5, (ow 5)), (6, (ow 6)), (8, (i6 r9)), (9, (i6 r12)), (10, (ow 10)), (11, (i6 x1081))], [(4, (bk (eA64u8 a1))), (5, (bk (eA64u8 a2))), (6, (bk (eA64u8 ((vrep 64 (0 : Int)))))), (10, (bk (eA64u8 x1082)))]⟩) (by kernel_rfl) ?_))
            obtain ⟨y1480, hy1481, hk1482⟩ := bind_some h
            clear h
            refine a_join (emb := fun (s : (Vec Int 64)) => ⟨[(0, (i6 a0)), (4, (ow 4)), (5, (ow 5)), (6, (ow 6)), (8, (i6 r9)), (9, (i6 r12)), (10, (ow 10)), (11, (i6 x1081))], [(4, (bk (eA64u8 a1))), (5, (bk (eA64u8 a2))), (6, (bk (eA64u8 ((vrep 64 (0 : Int)))))), (10, (bk (eA64u8 s)))]⟩) (pre := fun s => s = y1480) ?_ ?_
            · rintro x1479 rfl
              have h := hk1482
              refine a_st (σ' := ⟨[(0, (i6 a0)), (4, (ow 4)), (5, (ow 5)), (6, (ow 6)), (8, (i6 r9)), (9, (i6 r12)), (10, (ow 10)), (11, (i6 x1081))], [(4, (bk (eA64u8 a1))), (5, (bk (eA64u8 a2))), (6, (bk (eA64u8 ((vrep 64 (0 : Int)))))), (10, (bk (eA64u8 x1479)))]⟩) (by kernel_rfl) (a_region (vp (i6 x1081) rfl (vp (i6 (IntKind.i64.wrap (x1081 + 1))) rfl (vp (i6 (IntKind.i64.wrap (x1081 + 1))) rfl (a_nil ?_)))))
              cases h
              exact a_again (by kernel_rfl) hX1348
            · have h := hy1481
              refine a_block (sr (vp (i6 0) rfl (nx ⟨[(0, (i6 a0)), (4, (ow 4)), (5, (ow 5)), (6, (ow 6)), (8, (i6 r9)), (9, (i6 r12)), (10, (ow 10)), (11, (i6 x1081)), (12, (i6 0))], [(4, (bk (eA64u8 a1))), (5, (bk (eA64u8 a2))), (6, (bk (eA64u8 ((vrep 64 (0 : Int)))))), (10, (bk (eA64u8 x1082)))]⟩ (by kernel_rfl) (a_block ?_))))
              refine a_loop (emb := fun (s : (Int × (Vec Int 64))) => ⟨[(0, (i6 a0)), (4, (ow 4)), (5, (ow 5)), (6, (ow 6)), (8, (i6 r9)), (9, (i6 r12)), (10, (ow 10)), (11, (i6 x1081)), (12, (i6 s.1))], [(4, (bk (eA64u8 a1))), (5, (bk (eA64u8 a2))), (6, (bk (eA64u8 ((vrep 64 (0 : Int)))))), (10, (bk (eA64u8 s.2)))]⟩) (body := (fun s : (Int × (Vec Int 64)) => spec_l01Times_l2 r12 x1081 a1 a2 a0 s.1 s.2)) (G := fun q => some q = some y1480) h rfl ?_ (by kernel_rfl)
              rintro X1567 ⟨x1524, x1525⟩ x1568 h hX1569
              have h : spec_l01Times_l2 r12 x1081 a1 a2 a0 x1524 x1525 = some x1568 := h
              refine a_st (σ' := ⟨[(0, (i6 a0)), (4, (ow 4)), (5, (ow 5)), (6, (ow 6)), (8, (i6 r9)), (9, (i6 r12)), (10, (ow 10)), (11, (i6 x1081)), (12, (i6 x1524))], [(4, (bk (eA64u8 a1))), (5, (bk (eA64u8 a2))), (6, (bk (eA64u8 ((vrep 64 (0 : Int)))))), (10, (bk (eA64u8 x1525)))]⟩) (by kernel_rfl) (a_seq ?_)
              obtain ⟨y1574, hy1575, hk1576⟩ := bind_some h
              clear h
              refine a_join (emb := fun (s : Bool) => ⟨[(0, (i6 a0)), (4, (ow 4)), (5, (ow 5)), (6, (ow 6)), (8, (i6 r9)), (9, (i6 r12)), (10, (ow 10)), (11, (i6 x1081)), (12, (i6 x1524)), (43, (.bool s))], [(4, (bk (eA64u8 a1))), (5, (bk (eA64u8 a2))), (6, (bk (eA64u8 ((vrep 64 (0 : Int)))))), (10, (bk (eA64u8 x1525)))]⟩) (pre := fun s => s = y1574) ?_ ?_
              · rintro x1573 rfl
                have h := hk1576
                refine a_st (σ' := ⟨[(0, (i6 a0)), (4, (ow 4)), (5, (ow 5)), (6, (ow 6)), (8, (i6 r9)), (9, (i6 r12)), (10, (ow 10)), (11, (i6 x1081)), (12, (i6 x1524)), (43, (.bool x1573))], [(4, (bk (eA64u8 a1))), (5, (bk (eA64u8 a2))), (6, (bk (eA64u8 ((vrep 64 (0 : Int)))))), (10, (bk (eA64u8 x1525)))]⟩) (by kernel_rfl) ?_
                cases hb1580 : x1573
                · have h := ite_f hb1580 h
                  refine a_cond_f rfl (a_exit (t_exit ?_))
                  cases h
                  have h := hX1569
                  refine t_exit (b_exit (b_norm ?_))
                  exact j_leaf x1525 (Option.some.inj h) (by kernel_rfl)
                · have h := ite_t hb1580 h
                  refine a_cond_t rfl (a_skip (a_next (σ' := ⟨[(0, (i6 a0)), (4, (ow 4)), (5, (ow 5)), (6, (ow 6)), (8, (i6 r9)), (9, (i6 r12)), (10, (ow 10)), (11, (i6 x1081)), (12, (i6 x1524))], [(4, (bk (eA64u8 a1))), (5, (bk (eA64u8 a2))), (6, (bk (eA64u8 ((vrep 64 (0 : Int)))))), (10, (bk (eA64u8 x1525)))]⟩) (by kernel_rfl) (a_seq (a_block (a_draw [⟨[], [], [], []⟩, ⟨[], [], [], []⟩, ⟨[], [], [], [0, 1]⟩, ⟨[], [], [], []⟩, ⟨[], [], [], []⟩, ⟨[], [], [], [3, 4]⟩, ⟨[10], [], [10], [3, 4, 5]⟩, ⟨[10], [], [], [3, 4, 5, 6]⟩, ⟨[], [], [], [3, 4, 5, 6, 7]⟩, ⟨[], [], [], []⟩, ⟨[4], [], [4], [9]⟩, ⟨[4], [], [], [9, 10]⟩, ⟨[], [], [], [9, 10, 11]⟩, ⟨[], [], [], []⟩, ⟨[5], [], [5], [13]⟩, ⟨[5], [], [], [13, 14]⟩, ⟨[], [], [], [13, 14, 15]⟩, ⟨[], [], [], [9, 10, 11, 12, 13, 14, 15, 16]⟩, ⟨[], [], [], [3, 4, 5, 6, 7, 8, 9, 10, 11, 12, 13, 14, 15, 16, 17]⟩, ⟨[], [], [], []⟩, ⟨[], [], [], [3, 4, 5, 6, 7, 8, 9, 10, 11, 12, 13, 14, 15, 16, 17, 18, 19]⟩, ⟨[], [], [], [3, 4, 5, 6, 7, 8, 9, 10, 11, 12, 13, 14, 15, 16, 17, 18, 19, 20]⟩, ⟨[10], [], [10], [0, 1, 2, 3, 4, 5, 6, 7, 8, 9, 10, 11, 12, 13, 14, 15, 16, 17, 18, 19, 20, 21]⟩, ⟨[10], [10], [], [0, 1, 2, 3, 4, 5, 6, 7, 8, 9, 10, 11, 12, 13, 14, 15, 16, 17, 18, 19, 20, 21, 22]⟩] (by kernel_rfl) (dp (i6 x1081) rfl (by kernel_rfl) (dp (i6 x1524) rfl (by kernel_rfl) (dp (i6 (IntKind.i64.wrap (x1081 + x1524))) rfl (by kernel_rfl) (dp (i6 x1081) rfl (by kernel_rfl) ?_)))))))))
                  refine dp (i6 x1524) rfl (by kernel_rfl) (dp (i6 (IntKind.i64.wrap (x1081 + x1524))) rfl (by kernel_rfl) (d_cons ?_))
                  obtain ⟨hc1596, h⟩ := ifp_some h
                  refine vq (.own 10 [(IntKind.i64.wrap (x1081 + x1524)).toNat] [(IntKind.i64.wrap (x1081 + x1524)).toNat * 1]) rfl hc1596 (d_next (by kernel_rfl) (d_cons ?_))
                  have hl1597 : LdOk [(IntKind.i64.wrap (x1081 + x1524)).toNat] (eA64u8 x1525) [(IntKind.i64.wrap (x1081 + x1524)).toNat * 1] 1 false (b8 ((rd x1525.1 (IntKind.i64.wrap (x1081 + x1524)).toNat))) := (.arr (vlt x1525 hc1596) rfl (.nil rfl rfl rfl))
                  refine vq (b8 ((rd x1525.1 (IntKind.i64.wrap (x1081 + x1524)).toNat))) (ld_own (i := ⟨.int .u8, 1, 1, (.int .u8 0)⟩) rfl rfl rfl hl1597) hl1597.c (d_next (by kernel_rfl) (d_cons ?_))
                  obtain ⟨x1598, hx1599, h⟩ := letp_some h
                  refine a_val' (v := (i6 (IntKind.i64.wrap ((rd x1525.1 (IntKind.i64.wrap (x1081 + x1524)).toNat))))) (v' := (i6 x1598)) (u := []) (u' := []) rfl (congrArg (fun z => ((i6 z) : AV)) hx1599) rfl trivial rfl (d_next (by kernel_rfl) (dp (i6 x1081) rfl (by kernel_rfl) (d_cons ?_)))
                  obtain ⟨hc1600, h⟩ := ifp_some h
                  refine vq (.own 4 [x1081.toNat] [x1081.toNat * 1]) rfl hc1600 (d_next (by kernel_rfl) (d_cons ?_))
                  have hl1601 : LdOk [x1081.toNat] (eA64u8 a1) [x1081.toNat * 1] 1 false (b8 (rd a1.1 x1081.toNat)) := (.arr (vlt a1 hc1600) rfl (.nil rfl rfl rfl))
                  refine vq (b8 (rd a1.1 x1081.toNat)) (ld_own (i := ⟨.int .u8, 1, 1, (.int .u8 0)⟩) rfl rfl rfl hl1601) hl1601.c (d_next (by kernel_rfl) (dp (i6 (IntKind.i64.wrap (rd a1.1 x1081.toNat))) rfl (by kernel_rfl) (dp (i6 x1524) rfl (by kernel_rfl) (d_cons ?_))))
                  obtain ⟨hc1602, h⟩ := ifp_some h
                  refine vq (.own 5 [x1524.toNat] [x1524.toNat * 1]) rfl hc1602 (d_next (by kernel_rfl) (d_cons ?_))
                  have hl1603 : LdOk [x1524.toNat] (eA64u8 a2) [x1524.toNat * 1] 1 false (b8 (rd a2.1 x1524.toNat)) := (.arr (vlt a2 hc1602) rfl (.nil rfl rfl rfl))
                  refine vq (b8 (rd a2.1 x1524.toNat)) (ld_own (i := ⟨.int .u8, 1, 1, (.int .u8 0)⟩) rfl rfl rfl hl1603) hl1603.c (d_next (by kernel_rfl) (dp (i6 (IntKind.i64.wrap (rd a2.1 x1524.toNat))) rfl (by kernel_rfl) (d_cons ?_)))
                  obtain ⟨x1604, hx1605, h⟩ := letp_some h
                  refine a_val' (v := (i6 (IntKind.i64.wrap ((IntKind.i64.wrap (rd a1.1 x1081.toNat)) * (IntKind.i64.wrap (rd a2.1 x1524.toNat)))))) (v' := (i6 x1604)) (u := []) (u' := []) rfl (congrArg (fun z => ((i6 z) : AV)) hx1605) rfl trivial rfl (d_next (by kernel_rfl) (dp (i6 (IntKind.i64.wrap (x1598 + x1604))) rfl (by kernel_rfl) (dp (i6 a0) rfl (by kernel_rfl) (d_cons ?_))))
                  obtain ⟨hc1606, h⟩ := ifp_some h
                  refine vq (i6 (Int.tmod (IntKind.i64.wrap (x1598 + x1604)) a0)) rfl hc1606 (d_next (by kernel_rfl) (d_cons ?_))
                  obtain ⟨x1607, hx1608, h⟩ := letp_some h
                  refine a_val' (v := (b8 (IntKind.u8.wrap (Int.tmod (IntKind.i64.wrap (x1598 + x1604)) a0)))) (v' := (b8 x1607)) (u := []) (u' := []) rfl (congrArg (fun z => ((b8 z) : AV)) hx1608) rfl trivial rfl (d_next (by kernel_rfl) (d_cons ?_))
                  obtain ⟨hc1609, h⟩ := ifp_some h
                  refine vq (.own 10 [(IntKind.i64.wrap (x1081 + x1524)).toNat] [(IntKind.i64.wrap (x1081 + x1524)).toNat * 1]) rfl hc1609 (d_next (by kernel_rfl) (d_cons ?_))
                  have hs1610 : StOk [(IntKind.i64.wrap (x1081 + x1524)).toNat] (eA64u8 x1525) [(IntKind.i64.wrap (x1081 + x1524)).toNat * 1] 1 (b8 x1607) (eA64u8 ((vset x1525 (IntKind.i64.wrap (x1081 + x1524)).toNat x1607))) := (.arr (y := x1607) (vlt x1525 hc1609) rfl (.nil rfl rfl rfl rfl))
                  refine vu .top [(10, (bk (eA64u8 ((vset x1525 (IntKind.i64.wrap (x1081 + x1524)).toNat x1607)))))] (st_own (i := ⟨.int .u8, 1, 1, (.int .u8 0)⟩) rfl rfl (fun _ => rfl) rfl hs1610) (hs1610.c rfl) rfl (d_next (by kernel_rfl) (d_nil (b_norm (a_next (σ' := ⟨[(0, (i6 a0)), (4, (ow 4)), (5, (ow 5)), (6, (ow 6)), (8, (i6 r9)), (9, (i6 r12)), (10, (ow 10)), (11, (i6 x1081)), (12, (i6 x1524))], [(4, (bk (eA64u8 a1))), (5, (bk (eA64u8 a2))), (6, (bk (eA64u8 ((vrep 64 (0 : Int)))))), (10, (bk (eA64u8 ((vset x1525 (IntKind.i64.wrap (x1081 + x1524)).toNat x1607)))))]⟩) (by kernel_rfl) (a_region (vp (i6 x1524) rfl (vp (i6 (IntKind.i64.wrap (x1524 + 1))) rfl (vp (i6 (IntKind.i64.wrap (x1524 + 1))) rfl (a_nil ?_)))))))))
                  cases h
                  exact a_again (by kernel_rfl) hX1569
              · have h := hy1575
                refine a_region (vp (i6 x1524) rfl (vp (i6 r12) rfl (vp (.bool ((decide (x1524 ≤ r12)))) rfl (vp (.bool ((decide (x1524 ≤ r12)))) rfl ?_))))
                cases hb1577 : (decide (x1524 ≤ r12))
                · have h := ite_f hb1577 h
                  refine a_gskip rfl (a_gskip rfl (a_gskip rfl (a_gskip rfl (vp (.bool false) rfl (a_nil ?_)))))
                  exact j_leaf false (Option.some.inj h) (by kernel_rfl)
                · have h := ite_t hb1577 h
                  refine gp (i6 x1081) rfl rfl ?_
                  obtain ⟨hc1578, h⟩ := ifp_some h
                  refine gq (.own 4 [x1081.toNat] [x1081.toNat * 1]) rfl rfl hc1578 ?_
                  have hl1579 : LdOk [x1081.toNat] (eA64u8 a1) [x1081.toNat * 1] 1 false (b8 (rd a1.1 x1081.toNat)) := (.arr (vlt a1 hc1578) rfl (.nil rfl rfl rfl))
                  refine gq (b8 (rd a1.1 x1081.toNat)) rfl (ld_own (i := ⟨.int .u8, 1, 1, (.int .u8 0)⟩) rfl rfl rfl hl1579) hl1579.c (gp (.bool (((rd a1.1 x1081.toNat) != 0))) rfl rfl (vp (.bool (((rd a1.1 x1081.toNat) != 0))) rfl (a_nil ?_)))
                  exact j_leaf (((rd a1.1 x1081.toNat) != 0)) (Option.some.inj h) (by kernel_rfl)
      · have h := ite_t hb22 h
        refine a_cond_t rfl (sr (vl (eA64u8 ((vrep 64 (0 : Int)))) rfl rfl rfl rfl rfl rfl (vs (eA64u8 ((vrep 64 (0 : Int)))) rfl rfl (fun _ => rfl) rfl rfl rfl rfl rfl rfl (vp (.bool false) rfl (nx _ rfl (a_ret (t_ret ?_)))))))
        have hl1618 : LdOk [] (eA64u8 ((vrep 64 (0 : Int)))) [] 64 true (eA64u8 ((vrep 64 (0 : Int)))) := (.nil rfl rfl rfl)
        refine ⟨.inr rfl, ?_⟩
        rw [Try.results105]
        cases h
        exact ⟨_, _, _, _, _, ld_own (i := ⟨.arr 64 5, 64, 64, (eA64u8 (vrep 64 (0 : Int)))⟩) rfl rfl rfl hl1618, hl1618.c, .inl ⟨rfl, .inl rfl⟩, rfl, ⟨_, _, _, _, _, rfl, trivial, .inl ⟨rfl, .inl rfl⟩, rfl, rfl⟩⟩
    · have h := ite_t hb21 h
      refine a_cond_t rfl (sr (vl (eA64u8 ((vrep 64 (0 : Int)))) rfl rfl rfl rfl rfl rfl (vs (eA64u8 ((vrep 64 (0 : Int)))) rfl rfl (fun _ => rfl) rfl rfl rfl rfl rfl rfl (vp (.bool true) rfl (nx _ rfl (a_ret (t_ret ?_)))))))
      have hl1621 : LdOk [] (eA64u8 ((vrep 64 (0 : Int)))) [] 64 true (eA64u8 ((vrep 64 (0 : Int)))) := (.nil rfl rfl rfl)
      refine ⟨.inr rfl, ?_⟩
      rw [Try.results105]
      cases h
      exact ⟨_, _, _, _, _, ld_own (i := ⟨.arr 64 5, 64, 64, (eA64u8 (vrep 64 (0 : Int)))⟩) rfl rfl rfl hl1621, hl1621.c, .inl ⟨rfl, .inl rfl⟩, rfl, ⟨_, _, _, _, _, rfl, trivial, .inl ⟨rfl, .inl rfl⟩, rfl, rfl⟩⟩
  · have h := hy18
    refine a_region (vp (i6 r9) rfl (vp (.bool ((decide (r9 < 0)))) rfl (vp (.bool ((decide (r9 < 0)))) rfl ?_)))
    cases hb20 : (decide (r9 < 0))
    · have h := ite_f hb20 h
      refine gp (i6 r12) rfl rfl (gp (.bool ((decide (r12 < 0)))) rfl rfl (vp (.bool ((decide (r12 < 0)))) rfl (a_nil ?_)))
      exact j_leaf ((decide (r12 < 0))) (Option.some.inj h) (by kernel_rfl)
    · have h := ite_t hb20 h
      refine a_gskip rfl (a_gskip rfl (vp (.bool true) rfl (a_nil ?_)))
      exact j_leaf true (Option.some.inj h) (by kernel_rfl)
end Go.Proofs.Ytkbnegemdlnncaa
