/- Functions of the program: plain Lean functions, and that the program computes them. Printed by gen.py. -/
import Derived.Test.YtcgohoclbjgmkaaGreatFnT
import Derived.Test.YtcgohoclbjgmkaaGreatFn1
import Derived.Test.YtcgohoclbjgmkaaGreatFn2
namespace Go.Proofs.YtcgohoclbjgmkaaGreat
open Go.Abs Go.Proofs
set_option linter.unusedSimpArgs false
set_option linter.unusedVariables false
set_option maxHeartbeats 16000000
attribute [local irreducible] Abs.acode Abs.aops Abs.aopsT Abs.thenK Abs.blockK

def spec_l03Is_c : ACode := (.seq (.region 0 [q 4 (.box 24 (t 1)), q 5 (.box 26 (t 2)), q 6 (.asg 0 (.const (.bool false)) 4)] false) (.seq (.seq (.region 1 [q 7 (.asg 0 (.const (.int .i64 0)) 3)] false) (.block 0 (.loop (.seq (.seq (.region 2 [q 8 (.mov (t 7)), q 9 (.bin .lss 3 (t 8) (.const (.int .i64 8)))] false) (.cond (t 9) .skip (.exit 0))) (.seq (.block 1 (.seq (.region 4 [q 12 (.mov (t 0)), q 13 (.load 24 (t 4)), q 14 (.mov (t 7)), ⟨some 15, .indexAddr 26 (t 5) (t 14), none, [2]⟩, ⟨some 16, .load 24 (t 15), none, [3]⟩, ⟨some 17, .call 0 (.func 34) [(t 12), (t 13), (t 16)], none, [0, 1, 4]⟩, ⟨some 18, .un .not (t 17), none, [5]⟩] true) (.cond (t 18) (.seq (.region 5 [q 6 (.asg 0 (.const (.bool false)) 4)] false) .ret) .skip))) (.region 3 [q 10 (.mov (t 7)), q 11 (.bin .add 3 (t 10) (.const (.int .i64 1))), q 7 (.asg 0 (t 11) 3)] false)))))) (.seq (.region 6 [q 6 (.asg 0 (.const (.bool true)) 4)] false) .ret)))
def spec_l03Is_L : Live := [(0, [0, 1, 2]), (1, [0, 4, 5]), (2, [0, 4, 5, 7]), (3, [0, 4, 5, 7]), (4, [0, 4, 5, 7]), (5, []), (6, []), (100009, [0, 4, 5, 7, 9]), (100018, [0, 4, 5, 7, 18])]
noncomputable def spec_l03Is_l1 (a0 : Int) (a1 : (Vec Int 64)) (a2 : (Vec (Vec Int 64) 8)) (x57 : Int) : Option (Int ⊕ (Unit ⊕ Bool)) :=
  (if (decide (x57 < 8)) then (ifp (0 ≤ x57 ∧ x57 < ((8 : Nat) : Int)) ((Option.bind (spec_l03Residue a0 a1 (rd a2.1 x57.toNat)) fun r82 => (if (!r82) then (some (.inr (.inr false))) else (some (.inl (IntKind.i64.wrap (x57 + 1)))))))) else (some (.inr (((.inl ()))))))
noncomputable def spec_l03Is (a0 : Int) (a1 : (Vec Int 64)) (a2 : (Vec (Vec Int 64) 8)) : Option Bool :=
  (Option.bind (α := (Unit ⊕ Bool)) ((loopM (fun s : Int => spec_l03Is_l1 a0 a1 a2 s) 0)) fun z => match z with | .inl _ => (some true) | .inr r86 => (some r86))
theorem spec_l03Is_ok (a0 : Int) (a1 : (Vec Int 64)) (a2 : (Vec (Vec Int 64) 8)) (r : Bool) (h : spec_l03Is a0 a1 a2 = some r) : Den Tryz.prog 18 [(i6 a0), (eA64u8 a1), (eA8A64u8 a2)] { r := (.bool r) } := by
  refine den_of (rs := [(.bool r)]) (ac := spec_l03Is_c) (L := spec_l03Is_L) (n := 19) (m := []) (c := Tryz.f18.body.getD .skip) good Tryz.func18 (by kernel_rfl) (by kernel_rfl) Tryz.ntmps18 rfl rfl (by kernel_rfl) rfl rfl ?_
  refine a_st (σ' := ⟨[(0, (i6 a0)), (1, (eA64u8 a1)), (2, (eA8A64u8 a2))], []⟩) (by kernel_rfl) ?_
  unfold spec_l03Is_c
  refine sr (vo 1400 (eA64u8 a1) rfl rfl (vo 1500 (eA8A64u8 a2) rfl rfl (vp (.bool false) rfl (nx ⟨[(0, (i6 a0)), (4, (ow 4)), (5, (ow 5))], [(4, (bk (eA64u8 a1))), (5, (bk (eA8A64u8 a2)))]⟩ (by kernel_rfl) ?_))))
  obtain ⟨y42, hy43, hk44⟩ := bind_some h
  clear h
  refine a_join (emb := fun (s : Unit) => ⟨[], []⟩) (pre := fun s => (.inl s) = y42) ?_ ?_
  · rintro _ rfl
    have h := hk44
    refine a_st (σ' := ⟨[], []⟩) (by kernel_rfl) (sr (vp (.bool true) rfl (nx _ rfl (a_ret ?_))))
    refine ⟨.inr rfl, ?_⟩
    rw [Tryz.results18]
    cases h
    exact ⟨_, _, _, _, _, rfl, trivial, .inl ⟨rfl, .inl rfl⟩, rfl, rfl⟩
  · have h := hy43
    refine sr (vp (i6 0) rfl (nx ⟨[(0, (i6 a0)), (4, (ow 4)), (5, (ow 5)), (7, (i6 0))], [(4, (bk (eA64u8 a1))), (5, (bk (eA8A64u8 a2)))]⟩ (by kernel_rfl) (a_block ?_)))
    refine a_loop (emb := fun (s : Int) => ⟨[(0, (i6 a0)), (4, (ow 4)), (5, (ow 5)), (7, (i6 s))], [(4, (bk (eA64u8 a1))), (5, (bk (eA8A64u8 a2)))]⟩) (body := (fun s : Int => spec_l03Is_l1 a0 a1 a2 s)) (G := fun q => some q = some y42) h rfl ?_ (by kernel_rfl)
    rintro X70 x57 x71 h hX72
    have h : spec_l03Is_l1 a0 a1 a2 x57 = some x71 := h
    refine a_st (σ' := ⟨[(0, (i6 a0)), (4, (ow 4)), (5, (ow 5)), (7, (i6 x57))], [(4, (bk (eA64u8 a1))), (5, (bk (eA8A64u8 a2)))]⟩) (by kernel_rfl) (a_seq (sr (vp (i6 x57) rfl (vp (.bool ((decide (x57 < 8)))) rfl (nx ⟨[(0, (i6 a0)), (4, (ow 4)), (5, (ow 5)), (7, (i6 x57)), (9, (.bool ((decide (x57 < 8)))))], [(4, (bk (eA64u8 a1))), (5, (bk (eA8A64u8 a2)))]⟩ (by kernel_rfl) ?_)))))
    cases hb73 : (decide (x57 < 8))
    · have h := ite_f hb73 h
      refine a_cond_f rfl (a_exit (t_exit ?_))
      cases h
      have h := hX72
      refine t_exit (b_exit ?_)
      exact j_leaf () (Option.some.inj h) (by kernel_rfl)
    · have h := ite_t hb73 h
      refine a_cond_t rfl (a_skip (a_next (σ' := ⟨[(0, (i6 a0)), (4, (ow 4)), (5, (ow 5)), (7, (i6 x57))], [(4, (bk (eA64u8 a1))), (5, (bk (eA8A64u8 a2)))]⟩) (by kernel_rfl) (a_seq (a_block (a_seq (a_draw [⟨[], [], [], []⟩, ⟨[4], [], [], []⟩, ⟨[], [], [], []⟩, ⟨[5], [], [5], [2]⟩, ⟨[5], [], [], [2, 3]⟩, ⟨[], [], [], [0, 1, 2, 3, 4]⟩, ⟨[], [], [], [0, 1, 2, 3, 4, 5]⟩] (by kernel_rfl) (dp (i6 a0) rfl (by kernel_rfl) (d_cons (vl (eA64u8 a1) rfl rfl rfl rfl rfl rfl ?_)))))))))
      refine d_next (by kernel_rfl) (dp (i6 x57) rfl (by kernel_rfl) (d_cons ?_))
      obtain ⟨hc80, h⟩ := ifp_some h
      refine vq (.own 5 [x57.toNat] [x57.toNat * 64]) rfl hc80 (d_next (by kernel_rfl) (d_cons ?_))
      have hl81 : LdOk [x57.toNat] (eA8A64u8 a2) [x57.toNat * 64] 64 true (eA64u8 (rd a2.1 x57.toNat)) := (.arr (vlt a2 hc80) rfl (.nil rfl rfl rfl))
      refine vq (eA64u8 (rd a2.1 x57.toNat)) (ld_own (i := ⟨.arr 64 5, 64, 64, (eA64u8 (vrep 64 (0 : Int)))⟩) rfl rfl rfl hl81) hl81.c (d_next (by kernel_rfl) (d_cons ?_))
      obtain ⟨r82, hr83, h⟩ := bind_some h
      refine a_call (args := [(i6 a0), (eA64u8 a1), (eA64u8 (rd a2.1 x57.toNat))]) (u := []) (r := (.bool r82)) rfl rfl (spec_l03Residue_ok a0 a1 (rd a2.1 x57.toNat) r82 hr83) rfl (d_next (by kernel_rfl) (dp (.bool (!r82)) rfl (by kernel_rfl) (d_nil (a_next (σ' := ⟨[(0, (i6 a0)), (4, (ow 4)), (5, (ow 5)), (7, (i6 x57)), (18, (.bool (!r82)))], [(4, (bk (eA64u8 a1))), (5, (bk (eA8A64u8 a2)))]⟩) (by kernel_rfl) ?_))))
      cases hb84 : (!r82)
      · have h := ite_f hb84 h
        refine a_cond_f rfl (a_skip (b_norm (a_next (σ' := ⟨[(0, (i6 a0)), (4, (ow 4)), (5, (ow 5)), (7, (i6 x57))], [(4, (bk (eA64u8 a1))), (5, (bk (eA8A64u8 a2)))]⟩) (by kernel_rfl) (a_region (vp (i6 x57) rfl (vp (i6 (IntKind.i64.wrap (x57 + 1))) rfl (vp (i6 (IntKind.i64.wrap (x57 + 1))) rfl (a_nil ?_))))))))
        cases h
        exact a_again (by kernel_rfl) hX72
      · have h := ite_t hb84 h
        refine a_cond_t rfl (sr (vp (.bool false) rfl (nx _ rfl (a_ret (b_ret (t_ret ?_))))))
        cases h
        have h := hX72
        refine t_ret (b_ret (t_ret ?_))
        cases h
        have h := hk44
        refine ⟨.inr rfl, ?_⟩
        rw [Tryz.results18]
        cases h
        exact ⟨_, _, _, _, _, rfl, trivial, .inl ⟨rfl, .inl rfl⟩, rfl, rfl⟩
def spec_l03Code_c : ACode := (.seq (.region 0 [q 4 (.box 24 (t 1)), q 6 (.asg 0 (.const (.int .i64 0)) 2)] false) (.seq (.seq (.region 1 [q 8 (.mov (t 0)), q 9 (.load 24 (t 4)), q 10 (.call 0 (.func 17) [(t 8), (t 9)]), q 11 (.un .not (t 10))] false) (.cond (t 11) (.seq (.region 2 [q 6 (.asg 0 (.const (.int .i64 1)) 2)] false) .ret) .skip)) (.seq (.seq (.region 3 [q 7 (.asg 0 (.const (.int .i64 0)) 3)] false) (.block 0 (.loop (.seq (.seq (.region 4 [q 12 (.mov (t 7)), q 13 (.mov (t 2)), q 14 (.blt 0 .len [(t 13)] [47]), q 15 (.bin .lss 3 (t 12) (t 14))] false) (.cond (t 15) .skip (.exit 0))) (.seq (.block 1 (.seq (.region 6 [q 18 (.mov (t 0)), q 19 (.load 24 (t 4)), q 20 (.mov (t 2)), q 21 (.mov (t 7)), ⟨some 22, .indexAddr 47 (t 20) (t 21), none, [2, 3]⟩, ⟨some 23, .load 26 (t 22), none, [4]⟩, ⟨some 24, .call 0 (.func 18) [(t 18), (t 19), (t 23)], none, [0, 1, 5]⟩, ⟨some 25, .un .not (t 24), none, [6]⟩] true) (.cond (t 25) (.seq (.region 7 [q 6 (.asg 0 (.const (.int .i64 1)) 2)] false) .ret) .skip))) (.region 5 [q 16 (.mov (t 7)), q 17 (.bin .add 3 (t 16) (.const (.int .i64 1))), q 7 (.asg 0 (t 17) 3)] false)))))) (.seq (.region 8 [q 6 (.asg 0 (.const (.int .i64 0)) 2)] false) .ret))))
def spec_l03Code_L : Live := [(0, [0, 1, 2]), (1, [0, 2, 4]), (2, []), (3, [0, 2, 4]), (4, [0, 2, 4, 7]), (5, [0, 2, 4, 7]), (6, [0, 2, 4, 7]), (7, []), (8, []), (100011, [0, 2, 4, 11]), (100015, [0, 2, 4, 7, 15]), (100025, [0, 2, 4, 7, 25])]
noncomputable def spec_l03Code_l1 (a2 : (List (Vec (Vec Int 64) 8))) (a0 : Int) (a1 : (Vec Int 64)) (x61 : Int) : Option (Int ⊕ (Unit ⊕ Int)) :=
  (if (decide (x61 < (a2.length : Int))) then (ifp (0 ≤ x61 ∧ x61 < ((a2.length : Nat) : Int)) ((Option.bind (spec_l03Is a0 a1 (rd a2 x61.toNat)) fun r86 => (if (!r86) then (some (.inr (.inr 1))) else (some (.inl (IntKind.i64.wrap (x61 + 1)))))))) else (some (.inr (((.inl ()))))))
noncomputable def spec_l03Code (a0 : Int) (a1 : (Vec Int 64)) (a2 : (List (Vec (Vec Int 64) 8))) : Option Int :=
  (Option.bind (spec_l03Field a0 a1) fun r2 => (if (!r2) then (some 1) else (Option.bind (α := (Unit ⊕ Int)) ((loopM (fun s : Int => spec_l03Code_l1 a2 a0 a1 s) 0)) fun z => match z with | .inl _ => (some 0) | .inr r90 => (some r90))))
theorem spec_l03Code_ok (a0 : Int) (a1 : (Vec Int 64)) (a2 : (List (Vec (Vec Int 64) 8))) (r : Int) (h : spec_l03Code a0 a1 a2 = some r) : Den Tryz.prog 9 [(i6 a0), (eA64u8 a1), (eSA8A64u8 a2)] { r := (i6 r) } := by
  refine den_of (rs := [(i6 r)]) (ac := spec_l03Code_c) (L := spec_l03Code_L) (n := 26) (m := []) (c := Tryz.f9.body.getD .skip) good Tryz.func9 (by kernel_rfl) (by kernel_rfl) Tryz.ntmps9 rfl rfl (by kernel_rfl) rfl rfl ?_
  refine a_st (σ' := ⟨[(0, (i6 a0)), (1, (eA64u8 a1)), (2, (eSA8A64u8 a2))], []⟩) (by kernel_rfl) ?_
  unfold spec_l03Code_c
  refine sr (vo 1400 (eA64u8 a1) rfl rfl (vp (i6 0) rfl (nx ⟨[(0, (i6 a0)), (2, (eSA8A64u8 a2)), (4, (ow 4))], [(4, (bk (eA64u8 a1)))]⟩ (by kernel_rfl) (a_seq (sr (vp (i6 a0) rfl (vl (eA64u8 a1) rfl rfl rfl rfl rfl rfl ?_)))))))
  obtain ⟨r2, hr3, h⟩ := bind_some h
  refine a_call (args := [(i6 a0), (eA64u8 a1)]) (u := []) (r := (.bool r2)) rfl rfl (spec_l03Field_ok a0 a1 r2 hr3) rfl (vp (.bool (!r2)) rfl (nx ⟨[(0, (i6 a0)), (2, (eSA8A64u8 a2)), (4, (ow 4)), (11, (.bool (!r2)))], [(4, (bk (eA64u8 a1)))]⟩ (by kernel_rfl) ?_))
  cases hb4 : (!r2)
  · have h := ite_f hb4 h
    refine a_cond_f rfl (a_skip (a_next (σ' := ⟨[(0, (i6 a0)), (2, (eSA8A64u8 a2)), (4, (ow 4))], [(4, (bk (eA64u8 a1)))]⟩) (by kernel_rfl) ?_))
    obtain ⟨y46, hy47, hk48⟩ := bind_some h
    clear h
    refine a_join (emb := fun (s : Unit) => ⟨[], []⟩) (pre := fun s => (.inl s) = y46) ?_ ?_
    · rintro _ rfl
      have h := hk48
      refine a_st (σ' := ⟨[], []⟩) (by kernel_rfl) (sr (vp (i6 0) rfl (nx _ rfl (a_ret ?_))))
      refine ⟨.inr rfl, ?_⟩
      rw [Tryz.results9]
      cases h
      exact ⟨_, _, _, _, _, rfl, trivial, .inl ⟨rfl, .inl rfl⟩, rfl, rfl⟩
    · have h := hy47
      refine sr (vp (i6 0) rfl (nx ⟨[(0, (i6 a0)), (2, (eSA8A64u8 a2)), (4, (ow 4)), (7, (i6 0))], [(4, (bk (eA64u8 a1)))]⟩ (by kernel_rfl) (a_block ?_)))
      refine a_loop (emb := fun (s : Int) => ⟨[(0, (i6 a0)), (2, (eSA8A64u8 a2)), (4, (ow 4)), (7, (i6 s))], [(4, (bk (eA64u8 a1)))]⟩) (body := (fun s : Int => spec_l03Code_l1 a2 a0 a1 s)) (G := fun q => some q = some y46) h rfl ?_ (by kernel_rfl)
      rintro X74 x61 x75 h hX76
      have h : spec_l03Code_l1 a2 a0 a1 x61 = some x75 := h
      refine a_st (σ' := ⟨[(0, (i6 a0)), (2, (eSA8A64u8 a2)), (4, (ow 4)), (7, (i6 x61))], [(4, (bk (eA64u8 a1)))]⟩) (by kernel_rfl) (a_seq (sr (vp (i6 x61) rfl (vp (eSA8A64u8 a2) rfl (vq (i6 (a2.length : Int)) (len_run rfl rfl) trivial (vp (.bool ((decide (x61 < (a2.length : Int))))) rfl (nx ⟨[(0, (i6 a0)), (2, (eSA8A64u8 a2)), (4, (ow 4)), (7, (i6 x61)), (15, (.bool ((decide (x61 < (a2.length : Int))))))], [(4, (bk (eA64u8 a1)))]⟩ (by kernel_rfl) ?_)))))))
      cases hb77 : (decide (x61 < (a2.length : Int)))
      · have h := ite_f hb77 h
        refine a_cond_f rfl (a_exit (t_exit ?_))
        cases h
        have h := hX76
        refine t_exit (b_exit ?_)
        exact j_leaf () (Option.some.inj h) (by kernel_rfl)
      · have h := ite_t hb77 h
        refine a_cond_t rfl (a_skip (a_next (σ' := ⟨[(0, (i6 a0)), (2, (eSA8A64u8 a2)), (4, (ow 4)), (7, (i6 x61))], [(4, (bk (eA64u8 a1)))]⟩) (by kernel_rfl) (a_seq (a_block (a_seq (a_draw [⟨[], [], [], []⟩, ⟨[4], [], [], []⟩, ⟨[], [], [], []⟩, ⟨[], [], [], []⟩, ⟨[], [], [], [2, 3]⟩, ⟨[], [], [], [2, 3, 4]⟩, ⟨[], [], [], [0, 1, 2, 3, 4, 5]⟩, ⟨[], [], [], [0, 1, 2, 3, 4, 5, 6]⟩] (by kernel_rfl) (dp (i6 a0) rfl (by kernel_rfl) (d_cons (vl (eA64u8 a1) rfl rfl rfl rfl rfl rfl ?_)))))))))
        refine d_next (by kernel_rfl) (dp (eSA8A64u8 a2) rfl (by kernel_rfl) (dp (i6 x61) rfl (by kernel_rfl) (d_cons ?_)))
        obtain ⟨hc84, h⟩ := ifp_some h
        refine vq (.ref (.row 512 (a2.map eA8A64u8)) [x61.toNat] [x61.toNat * 512]) rfl (lmap hc84) (d_next (by kernel_rfl) (d_cons ?_))
        have hl85 : LdOk [x61.toNat] (.row 512 (a2.map eA8A64u8)) [x61.toNat * 512] 512 true (eA8A64u8 (rd a2 x61.toNat)) := (.row (llt hc84) rfl (.nil rfl rfl rfl))
        refine vq (eA8A64u8 (rd a2 x61.toNat)) (ld_ref (i := ⟨.arr 8 24, 512, 512, (eA8A64u8 (vrep 8 (vrep 64 (0 : Int))))⟩) rfl rfl hl85) hl85.c (d_next (by kernel_rfl) (d_cons ?_))
        obtain ⟨r86, hr87, h⟩ := bind_some h
        refine a_call (args := [(i6 a0), (eA64u8 a1), (eA8A64u8 (rd a2 x61.toNat))]) (u := []) (r := (.bool r86)) rfl rfl (spec_l03Is_ok a0 a1 (rd a2 x61.toNat) r86 hr87) rfl (d_next (by kernel_rfl) (dp (.bool (!r86)) rfl (by kernel_rfl) (d_nil (a_next (σ' := ⟨[(0, (i6 a0)), (2, (eSA8A64u8 a2)), (4, (ow 4)), (7, (i6 x61)), (25, (.bool (!r86)))], [(4, (bk (eA64u8 a1)))]⟩) (by kernel_rfl) ?_))))
        cases hb88 : (!r86)
        · have h := ite_f hb88 h
          refine a_cond_f rfl (a_skip (b_norm (a_next (σ' := ⟨[(0, (i6 a0)), (2, (eSA8A64u8 a2)), (4, (ow 4)), (7, (i6 x61))], [(4, (bk (eA64u8 a1)))]⟩) (by kernel_rfl) (a_region (vp (i6 x61) rfl (vp (i6 (IntKind.i64.wrap (x61 + 1))) rfl (vp (i6 (IntKind.i64.wrap (x61 + 1))) rfl (a_nil ?_))))))))
          cases h
          exact a_again (by kernel_rfl) hX76
        · have h := ite_t hb88 h
          refine a_cond_t rfl (sr (vp (i6 1) rfl (nx _ rfl (a_ret (b_ret (t_ret ?_))))))
          cases h
          have h := hX76
          refine t_ret (b_ret (t_ret ?_))
          cases h
          have h := hk48
          refine ⟨.inr rfl, ?_⟩
          rw [Tryz.results9]
          cases h
          exact ⟨_, _, _, _, _, rfl, trivial, .inl ⟨rfl, .inl rfl⟩, rfl, rfl⟩
  · have h := ite_t hb4 h
    refine a_cond_t rfl (sr (vp (i6 1) rfl (nx _ rfl (a_ret (t_ret ?_)))))
    refine ⟨.inr rfl, ?_⟩
    rw [Tryz.results9]
    cases h
    exact ⟨_, _, _, _, _, rfl, trivial, .inl ⟨rfl, .inl rfl⟩, rfl, rfl⟩
def spec_l03Add_c : ACode := (.seq (.region 0 [q 5 (.box 26 (t 1)), q 6 (.box 26 (t 2)), q 8 (.alloc 26)] false) (.seq (.seq (.region 1 [q 9 (.asg 0 (.const (.int .i64 0)) 3)] false) (.block 0 (.loop (.seq (.seq (.region 2 [q 10 (.mov (t 9)), q 11 (.bin .lss 3 (t 10) (.const (.int .i64 8)))] false) (.cond (t 11) .skip (.exit 0))) (.seq (.block 1 (.region 4 [q 14 (.mov (t 9)), q 15 (.mov (t 0)), q 16 (.mov (t 9)), ⟨some 17, .indexAddr 26 (t 5) (t 16), none, [2]⟩, ⟨some 18, .load 24 (t 17), none, [3]⟩, q 19 (.mov (t 9)), ⟨some 20, .indexAddr 26 (t 6) (t 19), none, [5]⟩, ⟨some 21, .load 24 (t 20), none, [6]⟩, q 22 (.mov (t 3)), ⟨some 23, .call 0 (.func 19) [(t 15), (t 18), (t 21), (t 22)], none, [1, 4, 7, 8]⟩, ⟨some 24, .indexAddr 26 (t 5) (t 14), none, [0, 0, 1, 2, 3, 4, 5, 6, 7, 8, 9]⟩, ⟨none, .store 24 (t 24) (t 23), none, [10, 9, 9, 0, 1, 2, 3, 4, 5, 6, 7, 8, 9]⟩] true)) (.region 3 [q 12 (.mov (t 9)), q 13 (.bin .add 3 (t 12) (.const (.int .i64 1))), q 9 (.asg 0 (t 13) 3)] false)))))) (.seq (.region 5 [q 25 (.load 26 (t 5)), ⟨none, .store 26 (t 8) (t 25), none, []⟩] false) .ret)))
def spec_l03Add_L : Live := [(0, [0, 1, 2, 3]), (1, [0, 3, 5, 6, 8]), (2, [0, 3, 5, 6, 8, 9]), (3, [0, 3, 5, 6, 8, 9]), (4, [0, 3, 5, 6, 8, 9]), (5, [5, 8]), (100011, [0, 3, 5, 6, 8, 9, 11])]
noncomputable def spec_l03Add_l1 (a0 : Int) (a2 : (Vec (Vec Int 64) 8)) (a3 : Int) (x79 : Int) (x80 : (Vec (Vec Int 64) 8)) : Option ((Int × (Vec (Vec Int 64) 8)) ⊕ (Vec (Vec Int 64) 8)) :=
  (if (decide (x79 < 8)) then (ifp (0 ≤ x79 ∧ x79 < ((8 : Nat) : Int)) ((ifp (0 ≤ x79 ∧ x79 < ((8 : Nat) : Int)) ((Option.bind (spec_l01Add a0 (rd x80.1 x79.toNat) (rd a2.1 x79.toNat) a3) fun r114 => (ifp (0 ≤ x79 ∧ x79 < ((8 : Nat) : Int)) ((some (.inl ((IntKind.i64.wrap (x79 + 1), (vset x80 x79.toNat r114)))))))))))) else (some (.inr x80)))
noncomputable def spec_l03Add (a0 : Int) (a1 : (Vec (Vec Int 64) 8)) (a2 : (Vec (Vec Int 64) 8)) (a3 : Int) : Option (Vec (Vec Int 64) 8) :=
  (Option.bind (α := (Vec (Vec Int 64) 8)) ((loopM (fun s : (Int × (Vec (Vec Int 64) 8)) => spec_l03Add_l1 a0 a2 a3 s.1 s.2) (0, a1))) fun x58 => (some x58))
theorem spec_l03Add_ok (a0 : Int) (a1 : (Vec (Vec Int 64) 8)) (a2 : (Vec (Vec Int 64) 8)) (a3 : Int) (r : (Vec (Vec Int 64) 8)) (h : spec_l03Add a0 a1 a2 a3 = some r) : Den Tryz.prog 10 [(i6 a0), (eA8A64u8 a1), (eA8A64u8 a2), (i6 a3)] { r := (eA8A64u8 r) } := by
  refine den_of (rs := [(eA8A64u8 r)]) (ac := spec_l03Add_c) (L := spec_l03Add_L) (n := 26) (m := []) (c := Tryz.f10.body.getD .skip) good Tryz.func10 (by kernel_rfl) (by kernel_rfl) Tryz.ntmps10 rfl rfl (by kernel_rfl) rfl rfl ?_
  refine a_st (σ' := ⟨[(0, (i6 a0)), (1, (eA8A64u8 a1)), (2, (eA8A64u8 a2)), (3, (i6 a3))], []⟩) (by kernel_rfl) ?_
  unfold spec_l03Add_c
  refine sr (vo 1500 (eA8A64u8 a1) rfl rfl (vo 1600 (eA8A64u8 a2) rfl rfl (vo 1800 (eA8A64u8 ((vrep 8 (vrep 64 (0 : Int))))) rfl rfl (nx ⟨[(0, (i6 a0)), (3, (i6 a3)), (5, (ow 5)), (6, (ow 6)), (8, (ow 8))], [(5, (bk (eA8A64u8 a1))), (6, (bk (eA8A64u8 a2))), (8, (bk (eA8A64u8 ((vrep 8 (vrep 64 (0 : Int)))))))]⟩ (by kernel_rfl) ?_))))
  obtain ⟨y59, hy60, hk61⟩ := bind_some h
  clear h
  refine a_join (emb := fun (s : (Vec (Vec Int 64) 8)) => ⟨[(5, (ow 5)), (8, (ow 8))], [(5, (bk (eA8A64u8 s))), (8, (bk (eA8A64u8 ((vrep 8 (vrep 64 (0 : Int)))))))]⟩) (pre := fun s => s = y59) ?_ ?_
  · rintro x58 rfl
    have h := hk61
    refine a_st (σ' := ⟨[(5, (ow 5)), (8, (ow 8))], [(5, (bk (eA8A64u8 x58))), (8, (bk (eA8A64u8 ((vrep 8 (vrep 64 (0 : Int)))))))]⟩) (by kernel_rfl) (sr (vl (eA8A64u8 x58) rfl rfl rfl rfl rfl rfl (vs (eA8A64u8 x58) rfl rfl (fun _ => rfl) rfl rfl rfl rfl rfl rfl (nx _ rfl (a_ret ?_)))))
    have hl121 : LdOk [] (eA8A64u8 x58) [] 512 true (eA8A64u8 x58) := (.nil rfl rfl rfl)
    refine ⟨.inr rfl, ?_⟩
    rw [Tryz.results10]
    cases h
    exact ⟨_, _, _, _, _, ld_own (i := ⟨.arr 8 24, 512, 512, (eA8A64u8 (vrep 8 (vrep 64 (0 : Int))))⟩) rfl rfl rfl hl121, hl121.c, .inl ⟨rfl, .inl rfl⟩, rfl, rfl⟩
  · have h := hy60
    refine sr (vp (i6 0) rfl (nx ⟨[(0, (i6 a0)), (3, (i6 a3)), (5, (ow 5)), (6, (ow 6)), (8, (ow 8)), (9, (i6 0))], [(5, (bk (eA8A64u8 a1))), (6, (bk (eA8A64u8 a2))), (8, (bk (eA8A64u8 ((vrep 8 (vrep 64 (0 : Int)))))))]⟩ (by kernel_rfl) (a_block ?_)))
    refine a_loop (emb := fun (s : (Int × (Vec (Vec Int 64) 8))) => ⟨[(0, (i6 a0)), (3, (i6 a3)), (5, (ow 5)), (6, (ow 6)), (8, (ow 8)), (9, (i6 s.1))], [(5, (bk (eA8A64u8 s.2))), (6, (bk (eA8A64u8 a2))), (8, (bk (eA8A64u8 ((vrep 8 (vrep 64 (0 : Int)))))))]⟩) (body := (fun s : (Int × (Vec (Vec Int 64) 8)) => spec_l03Add_l1 a0 a2 a3 s.1 s.2)) (G := fun q => some q = some y59) h rfl ?_ (by kernel_rfl)
    rintro X98 ⟨x79, x80⟩ x99 h hX100
    have h : spec_l03Add_l1 a0 a2 a3 x79 x80 = some x99 := h
    refine a_st (σ' := ⟨[(0, (i6 a0)), (3, (i6 a3)), (5, (ow 5)), (6, (ow 6)), (8, (ow 8)), (9, (i6 x79))], [(5, (bk (eA8A64u8 x80))), (6, (bk (eA8A64u8 a2))), (8, (bk (eA8A64u8 ((vrep 8 (vrep 64 (0 : Int)))))))]⟩) (by kernel_rfl) (a_seq (sr (vp (i6 x79) rfl (vp (.bool ((decide (x79 < 8)))) rfl (nx ⟨[(0, (i6 a0)), (3, (i6 a3)), (5, (ow 5)), (6, (ow 6)), (8, (ow 8)), (9, (i6 x79)), (11, (.bool ((decide (x79 < 8)))))], [(5, (bk (eA8A64u8 x80))), (6, (bk (eA8A64u8 a2))), (8, (bk (eA8A64u8 ((vrep 8 (vrep 64 (0 : Int)))))))]⟩ (by kernel_rfl) ?_)))))
    cases hb101 : (decide (x79 < 8))
    · have h := ite_f hb101 h
      refine a_cond_f rfl (a_exit (t_exit ?_))
      cases h
      have h := hX100
      refine t_exit (b_exit ?_)
      exact j_leaf x80 (Option.some.inj h) (by kernel_rfl)
    · have h := ite_t hb101 h
      refine a_cond_t rfl (a_skip (a_next (σ' := ⟨[(0, (i6 a0)), (3, (i6 a3)), (5, (ow 5)), (6, (ow 6)), (8, (ow 8)), (9, (i6 x79))], [(5, (bk (eA8A64u8 x80))), (6, (bk (eA8A64u8 a2))), (8, (bk (eA8A64u8 ((vrep 8 (vrep 64 (0 : Int)))))))]⟩) (by kernel_rfl) (a_seq (a_block (a_draw [⟨[], [], [], []⟩, ⟨[], [], [], []⟩, ⟨[], [], [], []⟩, ⟨[5], [], [5], [2]⟩, ⟨[5], [], [], [2, 3]⟩, ⟨[], [], [], []⟩, ⟨[6], [], [6], [5]⟩, ⟨[6], [], [], [5, 6]⟩, ⟨[], [], [], []⟩, ⟨[], [], [], [1, 2, 3, 4, 5, 6, 7, 8]⟩, ⟨[5], [], [5], [0, 1, 2, 3, 4, 5, 6, 7, 8, 9]⟩, ⟨[5], [5], [], [0, 1, 2, 3, 4, 5, 6, 7, 8, 9, 10]⟩] (by kernel_rfl) (dp (i6 x79) rfl (by kernel_rfl) (dp (i6 a0) rfl (by kernel_rfl) (dp (i6 x79) rfl (by kernel_rfl) (d_cons ?_)))))))))
      obtain ⟨hc110, h⟩ := ifp_some h
      refine vq (.own 5 [x79.toNat] [x79.toNat * 64]) rfl hc110 (d_next (by kernel_rfl) (d_cons ?_))
      have hl111 : LdOk [x79.toNat] (eA8A64u8 x80) [x79.toNat * 64] 64 true (eA64u8 (rd x80.1 x79.toNat)) := (.arr (vlt x80 hc110) rfl (.nil rfl rfl rfl))
      refine vq (eA64u8 (rd x80.1 x79.toNat)) (ld_own (i := ⟨.arr 64 5, 64, 64, (eA64u8 (vrep 64 (0 : Int)))⟩) rfl rfl rfl hl111) hl111.c (d_next (by kernel_rfl) (dp (i6 x79) rfl (by kernel_rfl) (d_cons ?_)))
      obtain ⟨hc112, h⟩ := ifp_some h
      refine vq (.own 6 [x79.toNat] [x79.toNat * 64]) rfl hc112 (d_next (by kernel_rfl) (d_cons ?_))
      have hl113 : LdOk [x79.toNat] (eA8A64u8 a2) [x79.toNat * 64] 64 true (eA64u8 (rd a2.1 x79.toNat)) := (.arr (vlt a2 hc112) rfl (.nil rfl rfl rfl))
      refine vq (eA64u8 (rd a2.1 x79.toNat)) (ld_own (i := ⟨.arr 64 5, 64, 64, (eA64u8 (vrep 64 (0 : Int)))⟩) rfl rfl rfl hl113) hl113.c (d_next (by kernel_rfl) (dp (i6 a3) rfl (by kernel_rfl) (d_cons ?_)))
      obtain ⟨r114, hr115, h⟩ := bind_some h
      refine a_call (args := [(i6 a0), (eA64u8 (rd x80.1 x79.toNat)), (eA64u8 (rd a2.1 x79.toNat)), (i6 a3)]) (u := []) (r := (eA64u8 r114)) rfl rfl (spec_l01Add_ok a0 (rd x80.1 x79.toNat) (rd a2.1 x79.toNat) a3 r114 hr115) rfl (d_next (by kernel_rfl) (d_cons ?_))
      obtain ⟨hc116, h⟩ := ifp_some h
      refine vq (.own 5 [x79.toNat] [x79.toNat * 64]) rfl hc116 (d_next (by kernel_rfl) (d_cons ?_))
      have hs117 : StOk [x79.toNat] (eA8A64u8 x80) [x79.toNat * 64] 64 (eA64u8 r114) (eA8A64u8 (vset x80 x79.toNat r114)) := (.arr (y := r114) (vlt x80 hc116) rfl (.nil rfl rfl rfl rfl))
      refine vu .top [(5, (bk (eA8A64u8 (vset x80 x79.toNat r114))))] (st_own (i := ⟨.arr 64 5, 64, 64, (eA64u8 (vrep 64 (0 : Int)))⟩) rfl rfl (fun _ => rfl) rfl hs117) (hs117.c rfl) rfl (d_next (by kernel_rfl) (d_nil (b_norm (a_next (σ' := ⟨[(0, (i6 a0)), (3, (i6 a3)), (5, (ow 5)), (6, (ow 6)), (8, (ow 8)), (9, (i6 x79))], [(5, (bk (eA8A64u8 (vset x80 x79.toNat r114)))), (6, (bk (eA8A64u8 a2))), (8, (bk (eA8A64u8 ((vrep 8 (vrep 64 (0 : Int)))))))]⟩) (by kernel_rfl) (a_region (vp (i6 x79) rfl (vp (i6 (IntKind.i64.wrap (x79 + 1))) rfl (vp (i6 (IntKind.i64.wrap (x79 + 1))) rfl (a_nil ?_)))))))))
      cases h
      exact a_again (by kernel_rfl) hX100
def spec_AddSkews_c : ACode := (.seq (.region 0 [q 5 (.box 24 (t 1)), q 6 (.box 26 (t 2)), q 7 (.box 26 (t 3)), q 8 (.alloc 26), q 9 (.asg 0 (.const (.int .i64 0)) 2)] false) (.seq (.seq (.region 1 [q 11 (.mov (t 0)), q 12 (.load 24 (t 5)), q 13 (.load 26 (t 6)), q 14 (.load 26 (t 7)), q 15 (.bslice 0 47 2 [(0, (t 13)), (1, (t 14))]), q 16 (.call 0 (.func 9) [(t 11), (t 12), (t 15)]), q 10 (.asg 0 (t 16) 2)] false) (.seq (.region 2 [q 17 (.mov (t 10)), q 18 (.bin .neq 2 (t 17) (.const (.int .i64 0)))] false) (.cond (t 18) (.seq (.region 3 [q 19 (.build 26 []), q 20 (.mov (t 10)), ⟨none, .store 26 (t 8) (t 19), none, []⟩, q 9 (.asg 0 (t 20) 2)] false) .ret) .skip))) (.seq (.region 4 [q 21 (.mov (t 0)), q 22 (.load 26 (t 6)), q 23 (.load 26 (t 7)), q 24 (.call 0 (.func 10) [(t 21), (t 22), (t 23), (.const (.int .i64 1))]), ⟨none, .store 26 (t 8) (t 24), none, []⟩, q 9 (.asg 0 (.const (.int .i64 0)) 2)] false) .ret)))
def spec_AddSkews_L : Live := [(0, [0, 1, 2, 3]), (1, [0, 5, 6, 7, 8]), (2, [0, 6, 7, 8, 10]), (3, [8, 10]), (4, [0, 6, 7, 8]), (100018, [0, 6, 7, 8, 10, 18])]
noncomputable def spec_AddSkews (a0 : Int) (a1 : (Vec Int 64)) (a2 : (Vec (Vec Int 64) 8)) (a3 : (Vec (Vec Int 64) 8)) : Option ((Vec (Vec Int 64) 8) × Int) :=
  (Option.bind (spec_l03Code a0 a1 ([a2, a3])) fun r4 => (if (r4 != 0) then (some (((vrep 8 (vrep 64 (0 : Int))), r4))) else (Option.bind (spec_l03Add a0 a2 a3 1) fun r9 => (some (r9, 0)))))
theorem spec_AddSkews_ok (a0 : Int) (a1 : (Vec Int 64)) (a2 : (Vec (Vec Int 64) 8)) (a3 : (Vec (Vec Int 64) 8)) (r : ((Vec (Vec Int 64) 8) × Int)) (h : spec_AddSkews a0 a1 a2 a3 = some r) : Den Tryz.prog 4 [(i6 a0), (eA64u8 a1), (eA8A64u8 a2), (eA8A64u8 a3)] { r := (.tuple [(eA8A64u8 r.1), (i6 r.2)]) } := by
  refine den_of (rs := [(eA8A64u8 r.1), (i6 r.2)]) (ac := spec_AddSkews_c) (L := spec_AddSkews_L) (n := 25) (m := []) (c := Tryz.f4.body.getD .skip) good Tryz.func4 (by kernel_rfl) (by kernel_rfl) Tryz.ntmps4 rfl rfl (by kernel_rfl) rfl rfl ?_
  refine a_st (σ' := ⟨[(0, (i6 a0)), (1, (eA64u8 a1)), (2, (eA8A64u8 a2)), (3, (eA8A64u8 a3))], []⟩) (by kernel_rfl) ?_
  unfold spec_AddSkews_c
  refine sr (vo 1500 (eA64u8 a1) rfl rfl (vo 1600 (eA8A64u8 a2) rfl rfl (vo 1700 (eA8A64u8 a3) rfl rfl (vo 1800 (eA8A64u8 ((vrep 8 (vrep 64 (0 : Int))))) rfl rfl (vp (i6 0) rfl (nx ⟨[(0, (i6 a0)), (5, (ow 5)), (6, (ow 6)), (7, (ow 7)), (8, (ow 8))], [(5, (bk (eA64u8 a1))), (6, (bk (eA8A64u8 a2))), (7, (bk (eA8A64u8 a3))), (8, (bk (eA8A64u8 ((vrep 8 (vrep 64 (0 : Int)))))))]⟩ (by kernel_rfl) (a_seq (sr (vp (i6 a0) rfl ?_)))))))))
  refine vl (eA64u8 a1) rfl rfl rfl rfl rfl rfl (vl (eA8A64u8 a2) rfl rfl rfl rfl rfl rfl (vl (eA8A64u8 a3) rfl rfl rfl rfl rfl rfl (vq (.sl 512 true (([a2, a3]).map eA8A64u8)) rfl ⟨(Nat.le_of_ble_eq_true rfl), (Nat.le_of_ble_eq_true rfl), (all_cons ⟨(Nat.le_of_ble_eq_true rfl), rfl⟩ (all_cons ⟨(Nat.le_of_ble_eq_true rfl), rfl⟩ all_nil))⟩ ?_)))
  obtain ⟨r4, hr5, h⟩ := bind_some h
  refine a_call (args := [(i6 a0), (eA64u8 a1), (.sl 512 true (([a2, a3]).map eA8A64u8))]) (u := []) (r := (i6 r4)) rfl rfl (Den.args (spec_l03Code_ok a0 a1 ([a2, a3]) r4 hr5) rfl rfl (.cons (.refl _) (.cons (.refl _) (.cons (.loose _) .nil)))) rfl (vp (i6 r4) rfl (nx ⟨[(0, (i6 a0)), (6, (ow 6)), (7, (ow 7)), (8, (ow 8)), (10, (i6 r4))], [(6, (bk (eA8A64u8 a2))), (7, (bk (eA8A64u8 a3))), (8, (bk (eA8A64u8 ((vrep 8 (vrep 64 (0 : Int)))))))]⟩ (by kernel_rfl) (sr (vp (i6 r4) rfl (vp (.bool (r4 != 0)) rfl (nx ⟨[(0, (i6 a0)), (6, (ow 6)), (7, (ow 7)), (8, (ow 8)), (10, (i6 r4)), (18, (.bool (r4 != 0)))], [(6, (bk (eA8A64u8 a2))), (7, (bk (eA8A64u8 a3))), (8, (bk (eA8A64u8 ((vrep 8 (vrep 64 (0 : Int)))))))]⟩ (by kernel_rfl) ?_))))))
  cases hb6 : (r4 != 0)
  · have h := ite_f hb6 h
    refine a_cond_f rfl (a_skip (a_next (σ' := ⟨[(0, (i6 a0)), (6, (ow 6)), (7, (ow 7)), (8, (ow 8))], [(6, (bk (eA8A64u8 a2))), (7, (bk (eA8A64u8 a3))), (8, (bk (eA8A64u8 ((vrep 8 (vrep 64 (0 : Int)))))))]⟩) (by kernel_rfl) (sr (vp (i6 a0) rfl (vl (eA8A64u8 a2) rfl rfl rfl rfl rfl rfl (vl (eA8A64u8 a3) rfl rfl rfl rfl rfl rfl ?_))))))
    obtain ⟨r9, hr10, h⟩ := bind_some h
    refine a_call (args := [(i6 a0), (eA8A64u8 a2), (eA8A64u8 a3), (i6 1)]) (u := []) (r := (eA8A64u8 r9)) rfl rfl (spec_l03Add_ok a0 a2 a3 1 r9 hr10) rfl (vs (eA8A64u8 r9) rfl rfl (fun _ => rfl) rfl rfl rfl rfl rfl rfl (vp (i6 0) rfl (nx _ rfl (a_ret ?_))))
    have hl12 : LdOk [] (eA8A64u8 r9) [] 512 true (eA8A64u8 r9) := (.nil rfl rfl rfl)
    refine ⟨.inr rfl, ?_⟩
    rw [Tryz.results4]
    cases h
    exact ⟨_, _, _, _, _, ld_own (i := ⟨.arr 8 24, 512, 512, (eA8A64u8 (vrep 8 (vrep 64 (0 : Int))))⟩) rfl rfl rfl hl12, hl12.c, .inl ⟨rfl, .inl rfl⟩, rfl, ⟨_, _, _, _, _, rfl, trivial, .inl ⟨rfl, .inl rfl⟩, rfl, rfl⟩⟩
  · have h := ite_t hb6 h
    refine a_cond_t rfl (sr (vq (eA8A64u8 ((vrep 8 (vrep 64 (0 : Int))))) rfl ⟨⟨_, rfl, rfl⟩, all_nil⟩ (vp (i6 r4) rfl (vs (eA8A64u8 ((vrep 8 (vrep 64 (0 : Int))))) rfl rfl (fun _ => rfl) rfl rfl rfl rfl rfl rfl (vp (i6 r4) rfl (nx _ rfl (a_ret (t_ret ?_))))))))
    have hl14 : LdOk [] (eA8A64u8 ((vrep 8 (vrep 64 (0 : Int))))) [] 512 true (eA8A64u8 ((vrep 8 (vrep 64 (0 : Int))))) := (.nil rfl rfl rfl)
    refine ⟨.inr rfl, ?_⟩
    rw [Tryz.results4]
    cases h
    exact ⟨_, _, _, _, _, ld_own (i := ⟨.arr 8 24, 512, 512, (eA8A64u8 (vrep 8 (vrep 64 (0 : Int))))⟩) rfl rfl rfl hl14, hl14.c, .inl ⟨rfl, .inl rfl⟩, rfl, ⟨_, _, _, _, _, rfl, trivial, .inl ⟨rfl, .inl rfl⟩, rfl, rfl⟩⟩
def impl_row_trimmed_c : ACode := (.seq (.region 0 [q 2 (.asg 1 (.const (.slice none 0 0)) 40)] false) (.seq (.region 1 [q 4 (.mov (t 0)), q 5 (.blt 0 .len [(t 4)] [40]), q 3 (.asg 0 (t 5) 3)] false) (.seq (.block 0 (.loop (.seq (.seq (.region 2 [q 6 (.mov (t 3)), q 7 (.bin .gtr 3 (t 6) (.const (.int .i64 0))), q 8 (.mov (t 7)), ⟨some 9, .mov (t 0), some (8, true), []⟩, ⟨some 10, .mov (t 3), some (8, true), []⟩, ⟨some 11, .bin .sub 3 (t 10) (.const (.int .i64 1)), some (8, true), []⟩, ⟨some 12, .indexAddr 40 (t 9) (t 11), some (8, true), []⟩, ⟨some 13, .load 2 (t 12), some (8, true), []⟩, ⟨some 14, .bin .eql 2 (t 13) (.const (.int .i64 0)), some (8, true), []⟩, q 15 (.pick (t 8) (t 14) (.const (.bool false)))] false) (.cond (t 15) .skip (.exit 0))) (.block 1 (.region 3 [q 16 (.mov (t 3)), q 17 (.bin .sub 3 (t 16) (.const (.int .i64 1))), q 3 (.asg 0 (t 17) 3)] false))))) (.seq (.region 4 [q 18 (.mov (t 0)), q 19 (.mov (t 3)), q 20 (.mov (t 3)), q 21 (.slice 40 (t 18) none (some (t 19)) (some (t 20))), q 2 (.asg 1 (t 21) 40)] false) .ret))))
def impl_row_trimmed_L : Live := [(0, [0]), (1, [0]), (2, [0, 3]), (3, [0, 3]), (4, [0, 3]), (100015, [0, 3, 15])]
noncomputable def impl_row_trimmed_l1 (a0 : (List Int)) (x62 : Int) : Option (Int ⊕ Int) :=
  (Option.bind (α := Bool) ((if (decide (x62 > 0)) then (ifp (0 ≤ IntKind.i64.wrap (x62 - 1) ∧ IntKind.i64.wrap (x62 - 1) < ((a0.length : Nat) : Int)) ((some ((((rd a0 (IntKind.i64.wrap (x62 - 1)).toNat)) == 0))))) else (some false))) fun x80 => (if x80 then (some (.inl (IntKind.i64.wrap (x62 - 1)))) else (some (.inr x62))))
noncomputable def impl_row_trimmed (a0 : (List Int)) : Option (List Int) :=
  (Option.bind (α := Int) ((loopM (fun s : Int => impl_row_trimmed_l1 a0 s) (a0.length : Int))) fun x43 => (ifp (0 ≤ x43 ∧ x43 ≤ (a0.length : Int)) ((some (a0.take x43.toNat)))))
theorem impl_row_trimmed_ok (a0 : (List Int)) (r : (List Int)) (h : impl_row_trimmed a0 = some r) : Den Tryz.prog 43 [(eSi64 a0)] { r := (eSi64 r) } := by
  refine den_of (rs := [(eSi64 r)]) (ac := impl_row_trimmed_c) (L := impl_row_trimmed_L) (n := 22) (m := [(2, 1)]) (c := Tryz.f43.body.getD .skip) good Tryz.func43 (by kernel_rfl) (by kernel_rfl) Tryz.ntmps43 rfl rfl (by kernel_rfl) rfl rfl ?_
  refine a_st (σ' := ⟨[(0, (eSi64 a0))], []⟩) (by kernel_rfl) ?_
  unfold impl_row_trimmed_c
  refine sr (vp (eSi64 ([])) rfl (nx ⟨[(0, (eSi64 a0))], []⟩ (by kernel_rfl) (sr (vp (eSi64 a0) rfl (vq (i6 (a0.length : Int)) (len_run rfl rfl) trivial (vp (i6 (a0.length : Int)) rfl (nx ⟨[(0, (eSi64 a0)), (3, (i6 (a0.length : Int)))], []⟩ (by kernel_rfl) ?_)))))))
  obtain ⟨y44, hy45, hk46⟩ := bind_some h
  clear h
  refine a_join (emb := fun (s : Int) => ⟨[(0, (eSi64 a0)), (3, (i6 s))], []⟩) (pre := fun s => s = y44) ?_ ?_
  · rintro x43 rfl
    have h := hk46
    refine a_st (σ' := ⟨[(0, (eSi64 a0)), (3, (i6 x43))], []⟩) (by kernel_rfl) (sr (vp (eSi64 a0) rfl (vp (i6 x43) rfl (vp (i6 x43) rfl ?_))))
    obtain ⟨hc89, h⟩ := ifp_some h
    refine vq (.sl 1 true ((a0.take x43.toNat).map (AV.int .i64))) (take3_run (f := (AV.int .i64)) (l := a0) (i := ⟨.int .i64, 1, 8, (.int .i64 0)⟩) rfl rfl rfl rfl (fun _ => rfl)) ⟨hc89.1, lmap_le hc89.2, rfl⟩ (vq (eSi64 (a0.take x43.toNat)) (asg_tight (i := ⟨.int .i64, 1, 8, (.int .i64 0)⟩) (f := (AV.int .i64)) (l := (a0.take x43.toNat)) rfl rfl rfl) trivial (nx _ rfl (a_ret ?_)))
    refine ⟨.inr rfl, ?_⟩
    rw [Tryz.results43]
    cases h
    exact ⟨_, _, _, _, _, rfl, trivial, .inl ⟨rfl, .inl rfl⟩, rfl, rfl⟩
  · have h := hy45
    refine a_block ?_
    refine a_loop (emb := fun (s : Int) => ⟨[(0, (eSi64 a0)), (3, (i6 s))], []⟩) (body := (fun s : Int => impl_row_trimmed_l1 a0 s)) (G := fun q => some q = some y44) h rfl ?_ (by kernel_rfl)
    rintro X74 x62 x75 h hX76
    have h : impl_row_trimmed_l1 a0 x62 = some x75 := h
    refine a_st (σ' := ⟨[(0, (eSi64 a0)), (3, (i6 x62))], []⟩) (by kernel_rfl) (a_seq ?_)
    obtain ⟨y81, hy82, hk83⟩ := bind_some h
    clear h
    refine a_join (emb := fun (s : Bool) => ⟨[(0, (eSi64 a0)), (3, (i6 x62)), (15, (.bool s))], []⟩) (pre := fun s => s = y81) ?_ ?_
    · rintro x80 rfl
      have h := hk83
      refine a_st (σ' := ⟨[(0, (eSi64 a0)), (3, (i6 x62)), (15, (.bool x80))], []⟩) (by kernel_rfl) ?_
      cases hb87 : x80
      · have h := ite_f hb87 h
        refine a_cond_f rfl (a_exit (t_exit ?_))
        cases h
        have h := hX76
        refine t_exit (b_exit ?_)
        exact j_leaf x62 (Option.some.inj h) (by kernel_rfl)
      · have h := ite_t hb87 h
        refine a_cond_t rfl (a_skip (a_next (σ' := ⟨[(0, (eSi64 a0)), (3, (i6 x62))], []⟩) (by kernel_rfl) (a_block (a_region (vp (i6 x62) rfl (vp (i6 (IntKind.i64.wrap (x62 - 1))) rfl (vp (i6 (IntKind.i64.wrap (x62 - 1))) rfl (a_nil (b_norm ?_)))))))))
        cases h
        exact a_again (by kernel_rfl) hX76
    · have h := hy82
      refine a_region (vp (i6 x62) rfl (vp (.bool ((decide (x62 > 0)))) rfl (vp (.bool ((decide (x62 > 0)))) rfl ?_)))
      cases hb84 : (decide (x62 > 0))
      · have h := ite_f hb84 h
        refine a_gskip rfl (a_gskip rfl (a_gskip rfl (a_gskip rfl (a_gskip rfl (a_gskip rfl (vp (.bool false) rfl (a_nil ?_)))))))
        exact j_leaf false (Option.some.inj h) (by kernel_rfl)
      · have h := ite_t hb84 h
        refine gp (eSi64 a0) rfl rfl (gp (i6 x62) rfl rfl (gp (i6 (IntKind.i64.wrap (x62 - 1))) rfl rfl ?_))
        obtain ⟨hc85, h⟩ := ifp_some h
        refine gq (.ref (.row 1 (a0.map (AV.int .i64))) [(IntKind.i64.wrap (x62 - 1)).toNat] [(IntKind.i64.wrap (x62 - 1)).toNat * 1]) rfl rfl (lmap hc85) ?_
        have hl86 : LdOk [(IntKind.i64.wrap (x62 - 1)).toNat] (.row 1 (a0.map (AV.int .i64))) [(IntKind.i64.wrap (x62 - 1)).toNat * 1] 1 false (i6 ((rd a0 (IntKind.i64.wrap (x62 - 1)).toNat))) := (.row (llt hc85) rfl (.nil rfl rfl rfl))
        refine gq (i6 ((rd a0 (IntKind.i64.wrap (x62 - 1)).toNat))) rfl (ld_ref (i := ⟨.int .i64, 1, 8, (.int .i64 0)⟩) rfl rfl hl86) hl86.c (gp (.bool ((((rd a0 (IntKind.i64.wrap (x62 - 1)).toNat)) == 0))) rfl rfl (vp (.bool ((((rd a0 (IntKind.i64.wrap (x62 - 1)).toNat)) == 0))) rfl (a_nil ?_)))
        exact j_leaf ((((rd a0 (IntKind.i64.wrap (x62 - 1)).toNat)) == 0)) (Option.some.inj h) (by kernel_rfl)
def impl_rowOf_c : ACode := (.seq (.region 0 [q 1 (.box 24 (t 0)), q 2 (.asg 1 (.const (.slice none 0 0)) 40)] false) (.seq (.region 1 [q 3 (.asg 2 (.const (.slice none 0 0)) 40)] false) (.seq (.seq (.region 2 [q 6 (.load 24 (t 1)), q 7 (.mov (.const (.int .i64 0)))] false) (.block 0 (.loop (.seq (.region 3 [q 8 (.bin .lss 3 (t 7) (.const (.int .i64 64)))] false) (.seq (.cond (t 8) .skip (.exit 0)) (.seq (.block 1 (.seq (.region 4 [q 9 (.index 24 (t 6) (t 7)), q 5 (.asg 0 (t 9) 5)] false) (.region 5 [q 10 (.mov (t 3)), q 11 (.mov (t 5)), q 12 (.conv 5 2 (t 11)), q 13 (.bslice 0 40 1 [(0, (t 12))]), q 14 (.blt 0 .append [(t 10), (t 13)] [40, 40]), q 3 (.asg 2 (t 14) 40)] false))) (.region 6 [q 15 (.bin .add 3 (t 7) (.const (.int .i64 1))), q 7 (.mov (t 15))] false))))))) (.seq (.region 7 [q 16 (.mov (t 3)), q 17 (.call 0 (.func 43) [(t 16)]), q 2 (.asg 1 (t 17) 40)] false) .ret))))
def impl_rowOf_L : Live := [(0, [0]), (1, [1]), (2, [1, 3]), (3, [3, 6, 7]), (4, [3, 6, 7]), (5, [3, 5, 6, 7]), (6, [3, 6, 7]), (7, [3]), (100008, [3, 6, 7, 8])]
noncomputable def impl_rowOf_l1 (a0 : (Vec Int 64)) (x25 : Int) (x26 : (List Int)) : Option ((Int × (List Int)) ⊕ (List Int)) :=
  (if (decide (x25 < 64)) then (ifp (0 ≤ x25 ∧ x25 < ((64 : Nat) : Int)) ((ifp ((x26.length + ([IntKind.i64.wrap (rd a0.1 x25.toNat)] : List Int).length) * 8 ≤ 140737488355328) ((some (.inl ((IntKind.i64.wrap (x25 + 1), (x26 ++ ([IntKind.i64.wrap (rd a0.1 x25.toNat)])))))))))) else (some (.inr x26)))
noncomputable def impl_rowOf (a0 : (Vec Int 64)) : Option (List Int) :=
  (Option.bind (α := (List Int)) ((loopM (fun s : (Int × (List Int)) => impl_rowOf_l1 a0 s.1 s.2) (0, []))) fun x17 => (Option.bind (impl_row_trimmed x17) fun r37 => (some r37)))
theorem impl_rowOf_ok (a0 : (Vec Int 64)) (r : (List Int)) (h : impl_rowOf a0 = some r) : Den Tryz.prog 25 [(eA64u8 a0)] { r := (eSi64 r) } := by
  refine den_of (rs := [(eSi64 r)]) (ac := impl_rowOf_c) (L := impl_rowOf_L) (n := 18) (m := [(2, 1), (3, 2)]) (c := Tryz.f25.body.getD .skip) good Tryz.func25 (by kernel_rfl) (by kernel_rfl) Tryz.ntmps25 rfl rfl (by kernel_rfl) rfl rfl ?_
  refine a_st (σ' := ⟨[(0, (eA64u8 a0))], []⟩) (by kernel_rfl) ?_
  unfold impl_rowOf_c
  refine sr (vo 1100 (eA64u8 a0) rfl rfl (vp (eSi64 ([])) rfl (nx ⟨[(1, (ow 1))], [(1, (bk (eA64u8 a0)))]⟩ (by kernel_rfl) (sr (vu (.osl 1300) [(1300, (bk (.row 1 (([]).map (AV.int .i64)))))] rfl trivial rfl (nx ⟨[(1, (ow 1)), (3, (.osl 3))], [(1, (bk (eA64u8 a0))), (3, (bk (.row 1 (([]).map (AV.int .i64)))))]⟩ (by kernel_rfl) ?_))))))
  obtain ⟨y18, hy19, hk20⟩ := bind_some h
  clear h
  refine a_join (emb := fun (s : (List Int)) => ⟨[(3, (.osl 3))], [(3, (bk (.row 1 (s.map (AV.int .i64)))))]⟩) (pre := fun s => s = y18) ?_ ?_
  · rintro x17 rfl
    have h := hk20
    refine a_st (σ' := ⟨[(3, (.osl 3))], [(3, (bk (.row 1 (x17.map (AV.int .i64)))))]⟩) (by kernel_rfl) (sr (vp (.osl 3) rfl ?_))
    obtain ⟨r37, hr38, h⟩ := bind_some h
    refine a_call (args := [(eSi64 x17)]) (u := [(3, (bf (.row 1 (x17.map (AV.int .i64)))))]) (r := (eSi64 r37)) rfl rfl (impl_row_trimmed_ok x17 r37 hr38) rfl (vp (eSi64 r37) rfl (nx _ rfl (a_ret ?_)))
    refine ⟨.inr rfl, ?_⟩
    rw [Tryz.results25]
    cases h
    exact ⟨_, _, _, _, _, rfl, trivial, .inl ⟨rfl, .inl rfl⟩, rfl, rfl⟩
  · have h := hy19
    refine sr (vl (eA64u8 a0) rfl rfl rfl rfl rfl rfl (vp (i6 0) rfl (nx ⟨[(3, (.osl 3)), (6, (eA64u8 a0)), (7, (i6 0))], [(3, (bk (.row 1 (([]).map (AV.int .i64)))))]⟩ (by kernel_rfl) (a_block ?_))))
    refine a_loop (emb := fun (s : (Int × (List Int))) => ⟨[(3, (.osl 3)), (6, (eA64u8 a0)), (7, (i6 s.1))], [(3, (bk (.row 1 (s.2.map (AV.int .i64)))))]⟩) (body := (fun s : (Int × (List Int)) => impl_rowOf_l1 a0 s.1 s.2)) (G := fun q => some q = some y18) h rfl ?_ (by kernel_rfl)
    rintro X30 ⟨x25, x26⟩ x31 h hX32
    have h : impl_rowOf_l1 a0 x25 x26 = some x31 := h
    refine a_st (σ' := ⟨[(3, (.osl 3)), (6, (eA64u8 a0)), (7, (i6 x25))], [(3, (bk (.row 1 (x26.map (AV.int .i64)))))]⟩) (by kernel_rfl) (sr (vp (.bool ((decide (x25 < 64)))) rfl (nx ⟨[(3, (.osl 3)), (6, (eA64u8 a0)), (7, (i6 x25)), (8, (.bool ((decide (x25 < 64)))))], [(3, (bk (.row 1 (x26.map (AV.int .i64)))))]⟩ (by kernel_rfl) (a_seq ?_))))
    cases hb33 : (decide (x25 < 64))
    · have h := ite_f hb33 h
      refine a_cond_f rfl (a_exit (t_exit ?_))
      cases h
      have h := hX32
      refine t_exit (b_exit ?_)
      exact j_leaf x26 (Option.some.inj h) (by kernel_rfl)
    · have h := ite_t hb33 h
      refine a_cond_t rfl (a_skip (a_next (σ' := ⟨[(3, (.osl 3)), (6, (eA64u8 a0)), (7, (i6 x25))], [(3, (bk (.row 1 (x26.map (AV.int .i64)))))]⟩) (by kernel_rfl) (a_seq (a_block (sr ?_)))))
      obtain ⟨hc34, h⟩ := ifp_some h
      refine vq (b8 (rd a0.1 x25.toNat)) (ix_run (i := ⟨.int .u8, 1, 1, (.int .u8 0)⟩) (f := (AV.int .u8)) rfl rfl rfl rfl (vlt a0 hc34)) ⟨hc34.1, hc34.2, rfl, rfl, rfl, rfl⟩ (vp (b8 (rd a0.1 x25.toNat)) rfl (nx ⟨[(3, (.osl 3)), (5, (b8 (rd a0.1 x25.toNat))), (6, (eA64u8 a0)), (7, (i6 x25))], [(3, (bk (.row 1 (x26.map (AV.int .i64)))))]⟩ (by kernel_rfl) (a_region (vp (.osl 3) rfl (vp (b8 (rd a0.1 x25.toNat)) rfl (vp (i6 (IntKind.i64.wrap (rd a0.1 x25.toNat))) rfl (vq (.sl 1 true (([IntKind.i64.wrap (rd a0.1 x25.toNat)]).map (AV.int .i64))) rfl ⟨(Nat.le_of_ble_eq_true rfl), (Nat.le_of_ble_eq_true rfl), (all_cons ⟨(Nat.le_of_ble_eq_true rfl), rfl⟩ all_nil)⟩ ?_)))))))
      obtain ⟨hc35, h⟩ := ifp_some h
      refine vu (.osl 2400) [(2400, (bk (.row 1 (((x26 ++ ([IntKind.i64.wrap (rd a0.1 x25.toNat)]))).map (AV.int .i64))))), (3, none)] (app_run (i := ⟨.int .i64, 1, 8, (.int .i64 0)⟩) (f := (AV.int .i64)) (l := x26) (l2 := [IntKind.i64.wrap (rd a0.1 x25.toNat)]) rfl rfl rfl rfl (fun _ => rfl) rfl rfl) (app_c (f := (AV.int .i64)) (s := 1) (sz := 1) (by' := 8) (u := []) (id := 3) hc35 (.inr rfl) rfl rfl rfl) rfl (vp (.osl 2400) rfl (a_nil (b_norm (a_next (σ' := ⟨[(3, (.osl 3)), (6, (eA64u8 a0)), (7, (i6 x25))], [(3, (bk (.row 1 (((x26 ++ ([IntKind.i64.wrap (rd a0.1 x25.toNat)]))).map (AV.int .i64)))))]⟩) (by kernel_rfl) (a_region (vp (i6 (IntKind.i64.wrap (x25 + 1))) rfl (vp (i6 (IntKind.i64.wrap (x25 + 1))) rfl (a_nil ?_))))))))
      cases h
      exact a_again (by kernel_rfl) hX32
def impl_isPrime_c : ACode := (.seq (.region 0 [q 2 (.asg 0 (.const (.bool false)) 4)] false) (.seq (.region 1 [q 3 (.mov (t 0)), q 4 (.bin .eql 2 (t 3) (.const (.int .i64 2))), q 5 (.mov (t 4)), ⟨some 6, .mov (t 0), some (5, false), []⟩, ⟨some 7, .bin .eql 2 (t 6) (.const (.int .i64 3)), some (5, false), []⟩, q 8 (.pick (t 5) (.const (.bool true)) (t 7)), q 9 (.mov (t 8)), ⟨some 10, .mov (t 0), some (9, false), []⟩, ⟨some 11, .bin .eql 2 (t 10) (.const (.int .i64 5)), some (9, false), []⟩, q 12 (.pick (t 9) (.const (.bool true)) (t 11)), q 13 (.mov (t 12)), ⟨some 14, .mov (t 0), some (13, false), []⟩, ⟨some 15, .bin .eql 2 (t 14) (.const (.int .i64 7)), some (13, false), []⟩, q 16 (.pick (t 13) (.const (.bool true)) (t 15)), q 2 (.asg 0 (t 16) 4)] false) .ret))
def impl_isPrime_L : Live := [(0, [0]), (1, [0])]
noncomputable def impl_isPrime (a0 : Int) : Option Bool :=
  (if (a0 == 2) then (some true) else (if (a0 == 3) then (some true) else (if (a0 == 5) then (some true) else (some (a0 == 7)))))
theorem impl_isPrime_ok (a0 : Int) (r : Bool) (h : impl_isPrime a0 = some r) : Den Tryz.prog 51 [(i6 a0)] { r := (.bool r) } := by
  refine den_of (rs := [(.bool r)]) (ac := impl_isPrime_c) (L := impl_isPrime_L) (n := 17) (m := []) (c := Tryz.f51.body.getD .skip) good Tryz.func51 (by kernel_rfl) (by kernel_rfl) Tryz.ntmps51 rfl rfl (by kernel_rfl) rfl rfl ?_
  refine a_st (σ' := ⟨[(0, (i6 a0))], []⟩) (by kernel_rfl) ?_
  unfold impl_isPrime_c
  refine sr (vp (.bool false) rfl (nx ⟨[(0, (i6 a0))], []⟩ (by kernel_rfl) (sr (vp (i6 a0) rfl (vp (.bool (a0 == 2)) rfl (vp (.bool (a0 == 2)) rfl ?_))))))
  cases hb1 : (a0 == 2)
  · have h := ite_f hb1 h
    refine gp (i6 a0) rfl rfl (gp (.bool (a0 == 3)) rfl rfl (vp (.bool (a0 == 3)) rfl (vp (.bool (a0 == 3)) rfl ?_)))
    cases hb2 : (a0 == 3)
    · have h := ite_f hb2 h
      refine gp (i6 a0) rfl rfl (gp (.bool (a0 == 5)) rfl rfl (vp (.bool (a0 == 5)) rfl (vp (.bool (a0 == 5)) rfl ?_)))
      cases hb3 : (a0 == 5)
      · have h := ite_f hb3 h
        refine gp (i6 a0) rfl rfl (gp (.bool (a0 == 7)) rfl rfl (vp (.bool (a0 == 7)) rfl (vp (.bool (a0 == 7)) rfl (nx _ rfl (a_ret ?_)))))
        refine ⟨.inr rfl, ?_⟩
        rw [Tryz.results51]
        cases h
        exact ⟨_, _, _, _, _, rfl, trivial, .inl ⟨rfl, .inl rfl⟩, rfl, rfl⟩
      · have h := ite_t hb3 h
        refine a_gskip rfl (a_gskip rfl (vp (.bool true) rfl (vp (.bool true) rfl (nx _ rfl (a_ret ?_)))))
        refine ⟨.inr rfl, ?_⟩
        rw [Tryz.results51]
        cases h
        exact ⟨_, _, _, _, _, rfl, trivial, .inl ⟨rfl, .inl rfl⟩, rfl, rfl⟩
    · have h := ite_t hb2 h
      refine a_gskip rfl (a_gskip rfl (vp (.bool true) rfl (vp (.bool true) rfl (a_gskip rfl (a_gskip rfl (vp (.bool true) rfl (vp (.bool true) rfl (nx _ rfl (a_ret ?_)))))))))
      refine ⟨.inr rfl, ?_⟩
      rw [Tryz.results51]
      cases h
      exact ⟨_, _, _, _, _, rfl, trivial, .inl ⟨rfl, .inl rfl⟩, rfl, rfl⟩
  · have h := ite_t hb1 h
    refine a_gskip rfl (a_gskip rfl (vp (.bool true) rfl (vp (.bool true) rfl (a_gskip rfl (a_gskip rfl (vp (.bool true) rfl (vp (.bool true) rfl (a_gskip rfl (a_gskip rfl ?_)))))))))
    refine vp (.bool true) rfl (vp (.bool true) rfl (nx _ rfl (a_ret ?_)))
    refine ⟨.inr rfl, ?_⟩
    rw [Tryz.results51]
    cases h
    exact ⟨_, _, _, _, _, rfl, trivial, .inl ⟨rfl, .inl rfl⟩, rfl, rfl⟩
def impl_isPoly_c1_of_p_c : ACode := (.seq (.region 0 [q 3 (.asg 0 (.const (.bool false)) 4)] false) (.seq (.region 1 [q 4 (.mov (t 0)), q 5 (.conv 5 2 (t 4)), q 6 (.load 2 (t 1)), q 7 (.bin .lss 2 (t 5) (t 6)), q 3 (.asg 0 (t 7) 4)] false) .ret))
def impl_isPoly_c1_of_p_L : Live := [(0, [0, 1]), (1, [0, 1])]
noncomputable def impl_isPoly_c1_of_p (a0 : Int) (a1 : Int) : Option Bool :=
  (some ((decide ((IntKind.i64.wrap a0) < a1))))
theorem impl_isPoly_c1_of_p_ok (a0 : Int) (a1 : Int) (r : Bool) (h : impl_isPoly_c1_of_p a0 a1 = some r) : Den Tryz.prog 63 [(b8 a0), (.ref (i6 a1) [] [])] { r := (.bool r) } := by
  refine den_of (rs := [(.bool r)]) (ac := impl_isPoly_c1_of_p_c) (L := impl_isPoly_c1_of_p_L) (n := 8) (m := []) (c := Tryz.f63.body.getD .skip) good Tryz.func63 (by kernel_rfl) (by kernel_rfl) Tryz.ntmps63 rfl rfl (by kernel_rfl) rfl rfl ?_
  refine a_st (σ' := ⟨[(0, (b8 a0)), (1, (.ref (i6 a1) [] []))], []⟩) (by kernel_rfl) ?_
  unfold impl_isPoly_c1_of_p_c
  refine sr (vp (.bool false) rfl (nx ⟨[(0, (b8 a0)), (1, (.ref (i6 a1) [] []))], []⟩ (by kernel_rfl) (sr (vp (b8 a0) rfl (vp (i6 (IntKind.i64.wrap a0)) rfl ?_)))))
  have hl1 : LdOk [] (i6 a1) [] 1 false (i6 a1) := (.nil rfl rfl rfl)
  refine vq (i6 a1) (ld_ref (i := ⟨.int .i64, 1, 8, (.int .i64 0)⟩) rfl rfl hl1) hl1.c (vp (.bool ((decide ((IntKind.i64.wrap a0) < a1)))) rfl (vp (.bool ((decide ((IntKind.i64.wrap a0) < a1)))) rfl (nx _ rfl (a_ret ?_))))
  refine ⟨.inr rfl, ?_⟩
  rw [Tryz.results63]
  cases h
  exact ⟨_, _, _, _, _, rfl, trivial, .inl ⟨rfl, .inl rfl⟩, rfl, rfl⟩
def impl_areAll_byte__c1_of_p_c : ACode := (.seq (.region 0 [q 3 (.asg 0 (.const (.bool false)) 4)] false) (.seq (.region 1 [q 4 (.load 84 (t 1)), q 5 (.mov (t 0)), q 6 (.call 0 (t 4) [(t 5)]), q 7 (.un .not (t 6)), q 3 (.asg 0 (t 7) 4)] false) .ret))
def impl_areAll_byte__c1_of_p_L : Live := [(0, [0, 1]), (1, [0, 1])]
noncomputable def impl_areAll_byte__c1_of_p (a0 : Int) (a1c0 : Int) : Option Bool :=
  (Option.bind (impl_isPoly_c1_of_p a0 a1c0) fun r2 => (some (!r2)))
theorem impl_areAll_byte__c1_of_p_ok (a0 : Int) (a1c0 : Int) (r : Bool) (h : impl_areAll_byte__c1_of_p a0 a1c0 = some r) : Den Tryz.prog 79 [(b8 a0), (.ref (.clo 63 [] [(.ref (i6 a1c0) [] [])]) [] [])] { r := (.bool r) } := by
  refine den_of (rs := [(.bool r)]) (ac := impl_areAll_byte__c1_of_p_c) (L := impl_areAll_byte__c1_of_p_L) (n := 8) (m := []) (c := Tryz.f79.body.getD .skip) good Tryz.func79 (by kernel_rfl) (by kernel_rfl) Tryz.ntmps79 rfl rfl (by kernel_rfl) rfl rfl ?_
  refine a_st (σ' := ⟨[(0, (b8 a0)), (1, (.ref (.clo 63 [] [(.ref (i6 a1c0) [] [])]) [] []))], []⟩) (by kernel_rfl) ?_
  unfold impl_areAll_byte__c1_of_p_c
  refine sr (vp (.bool false) rfl (nx ⟨[(0, (b8 a0)), (1, (.ref (.clo 63 [] [(.ref (i6 a1c0) [] [])]) [] []))], []⟩ (by kernel_rfl) (sr ?_)))
  have hl1 : LdOk [] (.clo 63 [] [(.ref (i6 a1c0) [] [])]) [] 1 false (.clo 63 [] [(.ref (i6 a1c0) [] [])]) := (.nil rfl rfl rfl)
  refine vq (.clo 63 [] [(.ref (i6 a1c0) [] [])]) (ld_ref (i := ⟨.other, 1, 8, (.raw .nilFunc)⟩) rfl rfl hl1) hl1.c (vp (b8 a0) rfl ?_)
  obtain ⟨r2, hr3, h⟩ := bind_some h
  refine a_call (args := [(b8 a0), (.ref (i6 a1c0) [] [])]) (u := []) (r := (.bool r2)) rfl rfl (impl_isPoly_c1_of_p_ok a0 a1c0 r2 hr3) rfl (vp (.bool (!r2)) rfl (vp (.bool (!r2)) rfl (nx _ rfl (a_ret ?_))))
  refine ⟨.inr rfl, ?_⟩
  rw [Tryz.results79]
  cases h
  exact ⟨_, _, _, _, _, rfl, trivial, .inl ⟨rfl, .inl rfl⟩, rfl, rfl⟩
def slices_IndexFunc_byte_byte_of_impl_areAll_byte__c1_p_c : ACode := (.seq (.region 0 [q 4 (.asg 0 (.const (.int .i64 0)) 3)] false) (.seq (.seq (.region 1 [q 6 (.mov (t 0)), q 7 (.blt 0 .len [(t 6)] [83]), q 8 (.mov (.const (.int .i64 0)))] false) (.block 0 (.loop (.seq (.region 2 [q 9 (.bin .lss 3 (t 8) (t 7))] false) (.seq (.cond (t 9) .skip (.exit 0)) (.seq (.block 1 (.seq (.region 3 [q 10 (.mov (t 8)), q 5 (.asg 0 (t 10) 3)] false) (.seq (.region 4 [q 11 (.mov (t 1)), q 12 (.mov (t 0)), q 13 (.mov (t 5)), q 14 (.indexAddr 83 (t 12) (t 13)), q 15 (.load 5 (t 14)), q 16 (.call 0 (t 11) [(t 15)])] false) (.cond (t 16) (.seq (.region 5 [q 17 (.mov (t 5)), q 4 (.asg 0 (t 17) 3)] false) .ret) .skip)))) (.region 6 [q 18 (.bin .add 3 (t 8) (.const (.int .i64 1))), q 8 (.mov (t 18))] false))))))) (.seq (.region 7 [q 4 (.asg 0 (.const (.int .i64 (-1))) 3)] false) .ret)))
def slices_IndexFunc_byte_byte_of_impl_areAll_byte__c1_p_L : Live := [(0, [0, 1]), (1, [0, 1]), (2, [0, 1, 7, 8]), (3, [0, 1, 7, 8]), (4, [0, 1, 5, 7, 8]), (5, [5]), (6, [0, 1, 7, 8]), (7, []), (100009, [0, 1, 7, 8, 9]), (100016, [0, 1, 5, 7, 8, 16])]
noncomputable def slices_IndexFunc_byte_byte_of_impl_areAll_byte__c1_p_l1 (a0 : (List Int)) (a1c0c0 : Int) (x33 : Int) : Option (Int ⊕ (Unit ⊕ Int)) :=
  (if (decide (x33 < (a0.length : Int))) then (ifp (0 ≤ x33 ∧ x33 < ((a0.length : Nat) : Int)) ((Option.bind (impl_areAll_byte__c1_of_p (rd a0 x33.toNat) a1c0c0) fun r46 => (if r46 then (some (.inr (.inr x33))) else (some (.inl (IntKind.i64.wrap (x33 + 1)))))))) else (some (.inr (((.inl ()))))))
noncomputable def slices_IndexFunc_byte_byte_of_impl_areAll_byte__c1_p (a0 : (List Int)) (a1c0c0 : Int) : Option Int :=
  (Option.bind (α := (Unit ⊕ Int)) ((loopM (fun s : Int => slices_IndexFunc_byte_byte_of_impl_areAll_byte__c1_p_l1 a0 a1c0c0 s) 0)) fun z => match z with | .inl _ => (some (-1)) | .inr r50 => (some r50))
theorem slices_IndexFunc_byte_byte_of_impl_areAll_byte__c1_p_ok (a0 : (List Int)) (a1c0c0 : Int) (r : Int) (h : slices_IndexFunc_byte_byte_of_impl_areAll_byte__c1_p a0 a1c0c0 = some r) : Den Tryz.prog 90 [(eSu8 a0), (.clo 79 [] [(.ref (.clo 63 [] [(.ref (i6 a1c0c0) [] [])]) [] [])])] { r := (i6 r) } := by
  refine den_of (rs := [(i6 r)]) (ac := slices_IndexFunc_byte_byte_of_impl_areAll_byte__c1_p_c) (L := slices_IndexFunc_byte_byte_of_impl_areAll_byte__c1_p_L) (n := 19) (m := []) (c := Tryz.f90.body.getD .skip) good Tryz.func90 (by kernel_rfl) (by kernel_rfl) Tryz.ntmps90 rfl rfl (by kernel_rfl) rfl rfl ?_
  refine a_st (σ' := ⟨[(0, (eSu8 a0)), (1, (.clo 79 [] [(.ref (.clo 63 [] [(.ref (i6 a1c0c0) [] [])]) [] [])]))], []⟩) (by kernel_rfl) ?_
  unfold slices_IndexFunc_byte_byte_of_impl_areAll_byte__c1_p_c
  refine sr (vp (i6 0) rfl (nx ⟨[(0, (eSu8 a0)), (1, (.clo 79 [] [(.ref (.clo 63 [] [(.ref (i6 a1c0c0) [] [])]) [] [])]))], []⟩ (by kernel_rfl) ?_))
  obtain ⟨y24, hy25, hk26⟩ := bind_some h
  clear h
  refine a_join (emb := fun (s : Unit) => ⟨[], []⟩) (pre := fun s => (.inl s) = y24) ?_ ?_
  · rintro _ rfl
    have h := hk26
    refine a_st (σ' := ⟨[], []⟩) (by kernel_rfl) (sr (vp (i6 (-1)) rfl (nx _ rfl (a_ret ?_))))
    refine ⟨.inr rfl, ?_⟩
    rw [Tryz.results90]
    cases h
    exact ⟨_, _, _, _, _, rfl, trivial, .inl ⟨rfl, .inl rfl⟩, rfl, rfl⟩
  · have h := hy25
    refine sr (vp (eSu8 a0) rfl (vq (i6 (a0.length : Int)) (len_run rfl rfl) trivial (vp (i6 0) rfl (nx ⟨[(0, (eSu8 a0)), (1, (.clo 79 [] [(.ref (.clo 63 [] [(.ref (i6 a1c0c0) [] [])]) [] [])])), (7, (i6 (a0.length : Int))), (8, (i6 0))], []⟩ (by kernel_rfl) (a_block ?_)))))
    refine a_loop (emb := fun (s : Int) => ⟨[(0, (eSu8 a0)), (1, (.clo 79 [] [(.ref (.clo 63 [] [(.ref (i6 a1c0c0) [] [])]) [] [])])), (7, (i6 (a0.length : Int))), (8, (i6 s))], []⟩) (body := (fun s : Int => slices_IndexFunc_byte_byte_of_impl_areAll_byte__c1_p_l1 a0 a1c0c0 s)) (G := fun q => some q = some y24) h rfl ?_ (by kernel_rfl)
    rintro X40 x33 x41 h hX42
    have h : slices_IndexFunc_byte_byte_of_impl_areAll_byte__c1_p_l1 a0 a1c0c0 x33 = some x41 := h
    refine a_st (σ' := ⟨[(0, (eSu8 a0)), (1, (.clo 79 [] [(.ref (.clo 63 [] [(.ref (i6 a1c0c0) [] [])]) [] [])])), (7, (i6 (a0.length : Int))), (8, (i6 x33))], []⟩) (by kernel_rfl) (sr (vp (.bool ((decide (x33 < (a0.length : Int))))) rfl (nx ⟨[(0, (eSu8 a0)), (1, (.clo 79 [] [(.ref (.clo 63 [] [(.ref (i6 a1c0c0) [] [])]) [] [])])), (7, (i6 (a0.length : Int))), (8, (i6 x33)), (9, (.bool ((decide (x33 < (a0.length : Int))))))], []⟩ (by kernel_rfl) (a_seq ?_))))
    cases hb43 : (decide (x33 < (a0.length : Int)))
    · have h := ite_f hb43 h
      refine a_cond_f rfl (a_exit (t_exit ?_))
      cases h
      have h := hX42
      refine t_exit (b_exit ?_)
      exact j_leaf () (Option.some.inj h) (by kernel_rfl)
    · have h := ite_t hb43 h
      refine a_cond_t rfl (a_skip (a_next (σ' := ⟨[(0, (eSu8 a0)), (1, (.clo 79 [] [(.ref (.clo 63 [] [(.ref (i6 a1c0c0) [] [])]) [] [])])), (7, (i6 (a0.length : Int))), (8, (i6 x33))], []⟩) (by kernel_rfl) (a_seq (a_block (sr (vp (i6 x33) rfl (vp (i6 x33) rfl (nx ⟨[(0, (eSu8 a0)), (1, (.clo 79 [] [(.ref (.clo 63 [] [(.ref (i6 a1c0c0) [] [])]) [] [])])), (5, (i6 x33)), (7, (i6 (a0.length : Int))), (8, (i6 x33))], []⟩ (by kernel_rfl) (sr ?_)))))))))
      refine vp (.clo 79 [] [(.ref (.clo 63 [] [(.ref (i6 a1c0c0) [] [])]) [] [])]) rfl (vp (eSu8 a0) rfl (vp (i6 x33) rfl ?_))
      obtain ⟨hc44, h⟩ := ifp_some h
      refine vq (.ref (.row 1 (a0.map (AV.int .u8))) [x33.toNat] [x33.toNat * 1]) rfl (lmap hc44) ?_
      have hl45 : LdOk [x33.toNat] (.row 1 (a0.map (AV.int .u8))) [x33.toNat * 1] 1 false (b8 (rd a0 x33.toNat)) := (.row (llt hc44) rfl (.nil rfl rfl rfl))
      refine vq (b8 (rd a0 x33.toNat)) (ld_ref (i := ⟨.int .u8, 1, 1, (.int .u8 0)⟩) rfl rfl hl45) hl45.c ?_
      obtain ⟨r46, hr47, h⟩ := bind_some h
      refine a_call (args := [(b8 (rd a0 x33.toNat)), (.ref (.clo 63 [] [(.ref (i6 a1c0c0) [] [])]) [] [])]) (u := []) (r := (.bool r46)) rfl rfl (impl_areAll_byte__c1_of_p_ok (rd a0 x33.toNat) a1c0c0 r46 hr47) rfl (nx ⟨[(0, (eSu8 a0)), (1, (.clo 79 [] [(.ref (.clo 63 [] [(.ref (i6 a1c0c0) [] [])]) [] [])])), (5, (i6 x33)), (7, (i6 (a0.length : Int))), (8, (i6 x33)), (16, (.bool r46))], []⟩ (by kernel_rfl) ?_)
      cases hb48 : r46
      · have h := ite_f hb48 h
        refine a_cond_f rfl (a_skip (b_norm (a_next (σ' := ⟨[(0, (eSu8 a0)), (1, (.clo 79 [] [(.ref (.clo 63 [] [(.ref (i6 a1c0c0) [] [])]) [] [])])), (7, (i6 (a0.length : Int))), (8, (i6 x33))], []⟩) (by kernel_rfl) (a_region (vp (i6 (IntKind.i64.wrap (x33 + 1))) rfl (vp (i6 (IntKind.i64.wrap (x33 + 1))) rfl (a_nil ?_)))))))
        cases h
        exact a_again (by kernel_rfl) hX42
      · have h := ite_t hb48 h
        refine a_cond_t rfl (sr (vp (i6 x33) rfl (vp (i6 x33) rfl (nx _ rfl (a_ret (b_ret (t_ret ?_)))))))
        cases h
        have h := hX42
        refine t_ret (b_ret (t_ret ?_))
        cases h
        have h := hk26
        refine ⟨.inr rfl, ?_⟩
        rw [Tryz.results90]
        cases h
        exact ⟨_, _, _, _, _, rfl, trivial, .inl ⟨rfl, .inl rfl⟩, rfl, rfl⟩
def slices_ContainsFunc_byte_byte_of_impl_areAll_byte__c1_p_c : ACode := (.seq (.region 0 [q 4 (.asg 0 (.const (.bool false)) 4)] false) (.seq (.region 1 [q 5 (.mov (t 0)), q 6 (.mov (t 1)), q 7 (.call 0 (.func 90) [(t 5), (t 6)]), q 8 (.bin .geq 3 (t 7) (.const (.int .i64 0))), q 4 (.asg 0 (t 8) 4)] false) .ret))
def slices_ContainsFunc_byte_byte_of_impl_areAll_byte__c1_p_L : Live := [(0, [0, 1]), (1, [0, 1])]
noncomputable def slices_ContainsFunc_byte_byte_of_impl_areAll_byte__c1_p (a0 : (List Int)) (a1c0c0 : Int) : Option Bool :=
  (Option.bind (slices_IndexFunc_byte_byte_of_impl_areAll_byte__c1_p a0 a1c0c0) fun r1 => (some ((decide (r1 ≥ 0)))))
theorem slices_ContainsFunc_byte_byte_of_impl_areAll_byte__c1_p_ok (a0 : (List Int)) (a1c0c0 : Int) (r : Bool) (h : slices_ContainsFunc_byte_byte_of_impl_areAll_byte__c1_p a0 a1c0c0 = some r) : Den Tryz.prog 78 [(eSu8 a0), (.clo 79 [] [(.ref (.clo 63 [] [(.ref (i6 a1c0c0) [] [])]) [] [])])] { r := (.bool r) } := by
  refine den_of (rs := [(.bool r)]) (ac := slices_ContainsFunc_byte_byte_of_impl_areAll_byte__c1_p_c) (L := slices_ContainsFunc_byte_byte_of_impl_areAll_byte__c1_p_L) (n := 9) (m := []) (c := Tryz.f78.body.getD .skip) good Tryz.func78 (by kernel_rfl) (by kernel_rfl) Tryz.ntmps78 rfl rfl (by kernel_rfl) rfl rfl ?_
  refine a_st (σ' := ⟨[(0, (eSu8 a0)), (1, (.clo 79 [] [(.ref (.clo 63 [] [(.ref (i6 a1c0c0) [] [])]) [] [])]))], []⟩) (by kernel_rfl) ?_
  unfold slices_ContainsFunc_byte_byte_of_impl_areAll_byte__c1_p_c
  refine sr (vp (.bool false) rfl (nx ⟨[(0, (eSu8 a0)), (1, (.clo 79 [] [(.ref (.clo 63 [] [(.ref (i6 a1c0c0) [] [])]) [] [])]))], []⟩ (by kernel_rfl) (sr (vp (eSu8 a0) rfl (vp (.clo 79 [] [(.ref (.clo 63 [] [(.ref (i6 a1c0c0) [] [])]) [] [])]) rfl ?_)))))
  obtain ⟨r1, hr2, h⟩ := bind_some h
  refine a_call (args := [(eSu8 a0), (.clo 79 [] [(.ref (.clo 63 [] [(.ref (i6 a1c0c0) [] [])]) [] [])])]) (u := []) (r := (i6 r1)) rfl rfl (slices_IndexFunc_byte_byte_of_impl_areAll_byte__c1_p_ok a0 a1c0c0 r1 hr2) rfl (vp (.bool ((decide (r1 ≥ 0)))) rfl (vp (.bool ((decide (r1 ≥ 0)))) rfl (nx _ rfl (a_ret ?_))))
  refine ⟨.inr rfl, ?_⟩
  rw [Tryz.results78]
  cases h
  exact ⟨_, _, _, _, _, rfl, trivial, .inl ⟨rfl, .inl rfl⟩, rfl, rfl⟩
def impl_areAll_byte_of_impl_isPoly_c1_p_c : ACode := (.seq (.region 0 [q 3 (.box 84 (t 1)), q 4 (.asg 0 (.const (.bool false)) 4)] false) (.seq (.region 1 [q 5 (.mov (t 0)), q 6 (.mkfn 79 [] [(t 3)]), q 7 (.call 0 (.func 78) [(t 5), (t 6)]), q 8 (.un .not (t 7)), q 4 (.asg 0 (t 8) 4)] false) .ret))
def impl_areAll_byte_of_impl_isPoly_c1_p_L : Live := [(0, [0, 1]), (1, [0, 3])]
noncomputable def impl_areAll_byte_of_impl_isPoly_c1_p (a0 : (List Int)) (a1c0 : Int) : Option Bool :=
  (Option.bind (slices_ContainsFunc_byte_byte_of_impl_areAll_byte__c1_p a0 a1c0) fun r1 => (some (!r1)))
theorem impl_areAll_byte_of_impl_isPoly_c1_p_ok (a0 : (List Int)) (a1c0 : Int) (r : Bool) (h : impl_areAll_byte_of_impl_isPoly_c1_p a0 a1c0 = some r) : Den Tryz.prog 62 [(eSu8 a0), (.clo 63 [] [(.ref (i6 a1c0) [] [])])] { r := (.bool r) } := by
  refine den_of (rs := [(.bool r)]) (ac := impl_areAll_byte_of_impl_isPoly_c1_p_c) (L := impl_areAll_byte_of_impl_isPoly_c1_p_L) (n := 9) (m := []) (c := Tryz.f62.body.getD .skip) good Tryz.func62 (by kernel_rfl) (by kernel_rfl) Tryz.ntmps62 rfl rfl (by kernel_rfl) rfl rfl ?_
  refine a_st (σ' := ⟨[(0, (eSu8 a0)), (1, (.clo 63 [] [(.ref (i6 a1c0) [] [])]))], []⟩) (by kernel_rfl) ?_
  unfold impl_areAll_byte_of_impl_isPoly_c1_p_c
  refine sr (vo 1300 (.clo 63 [] [(.ref (i6 a1c0) [] [])]) rfl rfl (vp (.bool false) rfl (nx ⟨[(0, (eSu8 a0)), (3, (ow 3))], [(3, (bk (.clo 63 [] [(.ref (i6 a1c0) [] [])])))]⟩ (by kernel_rfl) (sr (vp (eSu8 a0) rfl (vu (.clo 79 [] [(.ref (.clo 63 [] [(.ref (i6 a1c0) [] [])]) [] [])]) [(3, (bf (.clo 63 [] [(.ref (i6 a1c0) [] [])])))] rfl trivial rfl ?_))))))
  obtain ⟨r1, hr2, h⟩ := bind_some h
  refine a_call (args := [(eSu8 a0), (.clo 79 [] [(.ref (.clo 63 [] [(.ref (i6 a1c0) [] [])]) [] [])])]) (u := []) (r := (.bool r1)) rfl rfl (slices_ContainsFunc_byte_byte_of_impl_areAll_byte__c1_p_ok a0 a1c0 r1 hr2) rfl (vp (.bool (!r1)) rfl (vp (.bool (!r1)) rfl (nx _ rfl (a_ret ?_))))
  refine ⟨.inr rfl, ?_⟩
  rw [Tryz.results62]
  cases h
  exact ⟨_, _, _, _, _, rfl, trivial, .inl ⟨rfl, .inl rfl⟩, rfl, rfl⟩
def impl_isPoly_c : ACode := (.seq (.region 0 [q 2 (.box 2 (t 0)), q 3 (.box 24 (t 1)), q 4 (.asg 0 (.const (.bool false)) 4)] false) (.seq (.region 1 [q 5 (.slice 24 (t 3) none none none), q 6 (.mkfn 63 [] [(t 2)]), q 7 (.call 0 (.func 62) [(t 5), (t 6)]), q 4 (.asg 0 (t 7) 4)] false) .ret))
def impl_isPoly_L : Live := [(0, [0, 1]), (1, [2, 3])]
noncomputable def impl_isPoly (a0 : Int) (a1 : (Vec Int 64)) : Option Bool :=
  (Option.bind (impl_areAll_byte_of_impl_isPoly_c1_p a1.1 a0) fun r1 => (some r1))
theorem impl_isPoly_ok (a0 : Int) (a1 : (Vec Int 64)) (r : Bool) (h : impl_isPoly a0 a1 = some r) : Den Tryz.prog 52 [(i6 a0), (eA64u8 a1)] { r := (.bool r) } := by
  refine den_of (rs := [(.bool r)]) (ac := impl_isPoly_c) (L := impl_isPoly_L) (n := 8) (m := []) (c := Tryz.f52.body.getD .skip) good Tryz.func52 (by kernel_rfl) (by kernel_rfl) Tryz.ntmps52 rfl rfl (by kernel_rfl) rfl rfl ?_
  refine a_st (σ' := ⟨[(0, (i6 a0)), (1, (eA64u8 a1))], []⟩) (by kernel_rfl) ?_
  unfold impl_isPoly_c
  refine sr (vo 1200 (i6 a0) rfl rfl (vo 1300 (eA64u8 a1) rfl rfl (vp (.bool false) rfl (nx ⟨[(2, (ow 2)), (3, (ow 3))], [(2, (bk (i6 a0))), (3, (bk (eA64u8 a1)))]⟩ (by kernel_rfl) (sr (vu (.sl 1 true (a1.1.map (AV.int .u8))) [(3, (bf (eA64u8 a1)))] rfl ⟨rfl, trivial, rfl, rfl⟩ rfl (vu (.clo 63 [] [(.ref (i6 a0) [] [])]) [(2, (bf (i6 a0)))] rfl trivial rfl ?_)))))))
  obtain ⟨r1, hr2, h⟩ := bind_some h
  refine a_call (args := [(.sl 1 true (a1.1.map (AV.int .u8))), (.clo 63 [] [(.ref (i6 a0) [] [])])]) (u := []) (r := (.bool r1)) rfl rfl (Den.args (impl_areAll_byte_of_impl_isPoly_c1_p_ok a1.1 a0 r1 hr2) rfl rfl (.cons (.loose _) (.cons (.refl _) .nil))) rfl (vp (.bool r1) rfl (nx _ rfl (a_ret ?_)))
  refine ⟨.inr rfl, ?_⟩
  rw [Tryz.results52]
  cases h
  exact ⟨_, _, _, _, _, rfl, trivial, .inl ⟨rfl, .inl rfl⟩, rfl, rfl⟩
def impl_IsPoly_c : ACode := (.seq (.region 0 [q 3 (.box 24 (t 1)), q 4 (.asg 0 (.const (.bool false)) 4)] false) (.seq (.region 1 [q 5 (.mov (t 0)), q 6 (.call 0 (.func 51) [(t 5)]), q 7 (.mov (t 6)), ⟨some 8, .mov (t 0), some (7, true), []⟩, ⟨some 9, .load 24 (t 3), some (7, true), []⟩, ⟨some 10, .call 0 (.func 52) [(t 8), (t 9)], some (7, true), []⟩, q 11 (.pick (t 7) (t 10) (.const (.bool false))), q 4 (.asg 0 (t 11) 4)] false) .ret))
def impl_IsPoly_L : Live := [(0, [0, 1]), (1, [0, 3])]
noncomputable def impl_IsPoly (a0 : Int) (a1 : (Vec Int 64)) : Option Bool :=
  (Option.bind (impl_isPrime a0) fun r1 => (if r1 then (Option.bind (impl_isPoly a0 a1) fun r5 => (some r5)) else (some false)))
theorem impl_IsPoly_ok (a0 : Int) (a1 : (Vec Int 64)) (r : Bool) (h : impl_IsPoly a0 a1 = some r) : Den Tryz.prog 35 [(i6 a0), (eA64u8 a1)] { r := (.bool r) } := by
  refine den_of (rs := [(.bool r)]) (ac := impl_IsPoly_c) (L := impl_IsPoly_L) (n := 12) (m := []) (c := Tryz.f35.body.getD .skip) good Tryz.func35 (by kernel_rfl) (by kernel_rfl) Tryz.ntmps35 rfl rfl (by kernel_rfl) rfl rfl ?_
  refine a_st (σ' := ⟨[(0, (i6 a0)), (1, (eA64u8 a1))], []⟩) (by kernel_rfl) ?_
  unfold impl_IsPoly_c
  refine sr (vo 1300 (eA64u8 a1) rfl rfl (vp (.bool false) rfl (nx ⟨[(0, (i6 a0)), (3, (ow 3))], [(3, (bk (eA64u8 a1)))]⟩ (by kernel_rfl) (sr (vp (i6 a0) rfl ?_)))))
  obtain ⟨r1, hr2, h⟩ := bind_some h
  refine a_call (args := [(i6 a0)]) (u := []) (r := (.bool r1)) rfl rfl (impl_isPrime_ok a0 r1 hr2) rfl (vp (.bool r1) rfl ?_)
  cases hb3 : r1
  · have h := ite_f hb3 h
    refine a_gskip rfl (a_gskip rfl (a_gskip rfl (vp (.bool false) rfl (vp (.bool false) rfl (nx _ rfl (a_ret ?_))))))
    refine ⟨.inr rfl, ?_⟩
    rw [Tryz.results35]
    cases h
    exact ⟨_, _, _, _, _, rfl, trivial, .inl ⟨rfl, .inl rfl⟩, rfl, rfl⟩
  · have h := ite_t hb3 h
    refine gp (i6 a0) rfl rfl ?_
    have hl4 : LdOk [] (eA64u8 a1) [] 64 true (eA64u8 a1) := (.nil rfl rfl rfl)
    refine gq (eA64u8 a1) rfl (ld_own (i := ⟨.arr 64 5, 64, 64, (eA64u8 (vrep 64 (0 : Int)))⟩) rfl rfl rfl hl4) hl4.c ?_
    obtain ⟨r5, hr6, h⟩ := bind_some h
    refine a_gcall rfl (args := [(i6 a0), (eA64u8 a1)]) (u := []) (r := (.bool r5)) rfl rfl (impl_isPoly_ok a0 a1 r5 hr6) rfl (vp (.bool r5) rfl (vp (.bool r5) rfl (nx _ rfl (a_ret ?_))))
    refine ⟨.inr rfl, ?_⟩
    rw [Tryz.results35]
    cases h
    exact ⟨_, _, _, _, _, rfl, trivial, .inl ⟨rfl, .inl rfl⟩, rfl, rfl⟩
def impl_row_degree_c : ACode := (.seq (.region 0 [q 2 (.asg 0 (.const (.int .i64 0)) 2)] false) (.seq (.region 1 [q 3 (.mov (t 0)), q 4 (.blt 0 .len [(t 3)] [40]), q 5 (.bin .sub 2 (t 4) (.const (.int .i64 1))), q 2 (.asg 0 (t 5) 2)] false) .ret))
def impl_row_degree_L : Live := [(0, [0]), (1, [0])]
noncomputable def impl_row_degree (a0 : (List Int)) : Option Int :=
  (some (IntKind.i64.wrap ((a0.length : Int) - 1)))
theorem impl_row_degree_ok (a0 : (List Int)) (r : Int) (h : impl_row_degree a0 = some r) : Den Tryz.prog 37 [(eSi64 a0)] { r := (i6 r) } := by
  refine den_of (rs := [(i6 r)]) (ac := impl_row_degree_c) (L := impl_row_degree_L) (n := 6) (m := []) (c := Tryz.f37.body.getD .skip) good Tryz.func37 (by kernel_rfl) (by kernel_rfl) Tryz.ntmps37 rfl rfl (by kernel_rfl) rfl rfl ?_
  refine a_st (σ' := ⟨[(0, (eSi64 a0))], []⟩) (by kernel_rfl) ?_
  unfold impl_row_degree_c
  refine sr (vp (i6 0) rfl (nx ⟨[(0, (eSi64 a0))], []⟩ (by kernel_rfl) (sr (vp (eSi64 a0) rfl (vq (i6 (a0.length : Int)) (len_run rfl rfl) trivial (vp (i6 (IntKind.i64.wrap ((a0.length : Int) - 1))) rfl (vp (i6 (IntKind.i64.wrap ((a0.length : Int) - 1))) rfl (nx _ rfl (a_ret ?_)))))))))
  refine ⟨.inr rfl, ?_⟩
  rw [Tryz.results37]
  cases h
  exact ⟨_, _, _, _, _, rfl, trivial, .inl ⟨rfl, .inl rfl⟩, rfl, rfl⟩
def impl_within_c : ACode := (.seq (.region 0 [q 6 (.asg 0 (.const (.bool false)) 4)] false) (.seq (.region 1 [q 7 (.mov (t 1)), q 8 (.mov (t 0)), q 9 (.bin .leq 2 (t 7) (t 8)), q 10 (.mov (t 9)), ⟨some 11, .mov (t 0), some (10, true), []⟩, ⟨some 12, .mov (t 2), some (10, true), []⟩, ⟨some 13, .bin .leq 2 (t 11) (t 12), some (10, true), []⟩, q 14 (.pick (t 10) (t 13) (.const (.bool false))), q 6 (.asg 0 (t 14) 4)] false) .ret))
def impl_within_L : Live := [(0, [0, 1, 2]), (1, [0, 1, 2])]
noncomputable def impl_within (a0 : Int) (a1 : Int) (a2 : Int) : Option Bool :=
  (if (decide (a1 ≤ a0)) then (some ((decide (a0 ≤ a2)))) else (some false))
theorem impl_within_ok (a0 : Int) (a1 : Int) (a2 : Int) (r : Bool) (h : impl_within a0 a1 a2 = some r) : Den Tryz.prog 36 [(i6 a0), (i6 a1), (i6 a2)] { r := (.bool r) } := by
  refine den_of (rs := [(.bool r)]) (ac := impl_within_c) (L := impl_within_L) (n := 15) (m := []) (c := Tryz.f36.body.getD .skip) good Tryz.func36 (by kernel_rfl) (by kernel_rfl) Tryz.ntmps36 rfl rfl (by kernel_rfl) rfl rfl ?_
  refine a_st (σ' := ⟨[(0, (i6 a0)), (1, (i6 a1)), (2, (i6 a2))], []⟩) (by kernel_rfl) ?_
  unfold impl_within_c
  refine sr (vp (.bool false) rfl (nx ⟨[(0, (i6 a0)), (1, (i6 a1)), (2, (i6 a2))], []⟩ (by kernel_rfl) (sr (vp (i6 a1) rfl (vp (i6 a0) rfl (vp (.bool ((decide (a1 ≤ a0)))) rfl (vp (.bool ((decide (a1 ≤ a0)))) rfl ?_)))))))
  cases hb1 : (decide (a1 ≤ a0))
  · have h := ite_f hb1 h
    refine a_gskip rfl (a_gskip rfl (a_gskip rfl (vp (.bool false) rfl (vp (.bool false) rfl (nx _ rfl (a_ret ?_))))))
    refine ⟨.inr rfl, ?_⟩
    rw [Tryz.results36]
    cases h
    exact ⟨_, _, _, _, _, rfl, trivial, .inl ⟨rfl, .inl rfl⟩, rfl, rfl⟩
  · have h := ite_t hb1 h
    refine gp (i6 a0) rfl rfl (gp (i6 a2) rfl rfl (gp (.bool ((decide (a0 ≤ a2)))) rfl rfl (vp (.bool ((decide (a0 ≤ a2)))) rfl (vp (.bool ((decide (a0 ≤ a2)))) rfl (nx _ rfl (a_ret ?_))))))
    refine ⟨.inr rfl, ?_⟩
    rw [Tryz.results36]
    cases h
    exact ⟨_, _, _, _, _, rfl, trivial, .inl ⟨rfl, .inl rfl⟩, rfl, rfl⟩
def impl_row_lead_c : ACode := (.seq (.region 0 [q 2 (.asg 0 (.const (.int .i64 0)) 2)] false) (.seq (.seq (.region 1 [q 3 (.mov (t 0)), q 4 (.blt 0 .len [(t 3)] [40]), q 5 (.bin .eql 3 (t 4) (.const (.int .i64 0)))] false) (.cond (t 5) (.seq (.region 2 [q 2 (.asg 0 (.const (.int .i64 0)) 2)] false) .ret) .skip)) (.seq (.region 3 [q 6 (.mov (t 0)), q 7 (.mov (t 0)), q 8 (.blt 0 .len [(t 7)] [40]), q 9 (.bin .sub 3 (t 8) (.const (.int .i64 1))), q 10 (.indexAddr 40 (t 6) (t 9)), q 11 (.load 2 (t 10)), q 2 (.asg 0 (t 11) 2)] false) .ret)))
def impl_row_lead_L : Live := [(0, [0]), (1, [0]), (2, []), (3, [0]), (100005, [0, 5])]
noncomputable def impl_row_lead (a0 : (List Int)) : Option Int :=
  (if ((a0.length : Int) == 0) then (some 0) else (ifp (0 ≤ IntKind.i64.wrap ((a0.length : Int) - 1) ∧ IntKind.i64.wrap ((a0.length : Int) - 1) < ((a0.length : Nat) : Int)) ((some ((rd a0 (IntKind.i64.wrap ((a0.length : Int) - 1)).toNat))))))
theorem impl_row_lead_ok (a0 : (List Int)) (r : Int) (h : impl_row_lead a0 = some r) : Den Tryz.prog 53 [(eSi64 a0)] { r := (i6 r) } := by
  refine den_of (rs := [(i6 r)]) (ac := impl_row_lead_c) (L := impl_row_lead_L) (n := 12) (m := []) (c := Tryz.f53.body.getD .skip) good Tryz.func53 (by kernel_rfl) (by kernel_rfl) Tryz.ntmps53 rfl rfl (by kernel_rfl) rfl rfl ?_
  refine a_st (σ' := ⟨[(0, (eSi64 a0))], []⟩) (by kernel_rfl) ?_
  unfold impl_row_lead_c
  refine sr (vp (i6 0) rfl (nx ⟨[(0, (eSi64 a0))], []⟩ (by kernel_rfl) (a_seq (sr (vp (eSi64 a0) rfl (vq (i6 (a0.length : Int)) (len_run rfl rfl) trivial (vp (.bool (((a0.length : Int) == 0))) rfl (nx ⟨[(0, (eSi64 a0)), (5, (.bool (((a0.length : Int) == 0))))], []⟩ (by kernel_rfl) ?_))))))))
  cases hb1 : ((a0.length : Int) == 0)
  · have h := ite_f hb1 h
    refine a_cond_f rfl (a_skip (a_next (σ' := ⟨[(0, (eSi64 a0))], []⟩) (by kernel_rfl) (sr (vp (eSi64 a0) rfl (vp (eSi64 a0) rfl (vq (i6 (a0.length : Int)) (len_run rfl rfl) trivial (vp (i6 (IntKind.i64.wrap ((a0.length : Int) - 1))) rfl ?_)))))))
    obtain ⟨hc2, h⟩ := ifp_some h
    refine vq (.ref (.row 1 (a0.map (AV.int .i64))) [(IntKind.i64.wrap ((a0.length : Int) - 1)).toNat] [(IntKind.i64.wrap ((a0.length : Int) - 1)).toNat * 1]) rfl (lmap hc2) ?_
    have hl3 : LdOk [(IntKind.i64.wrap ((a0.length : Int) - 1)).toNat] (.row 1 (a0.map (AV.int .i64))) [(IntKind.i64.wrap ((a0.length : Int) - 1)).toNat * 1] 1 false (i6 ((rd a0 (IntKind.i64.wrap ((a0.length : Int) - 1)).toNat))) := (.row (llt hc2) rfl (.nil rfl rfl rfl))
    refine vq (i6 ((rd a0 (IntKind.i64.wrap ((a0.length : Int) - 1)).toNat))) (ld_ref (i := ⟨.int .i64, 1, 8, (.int .i64 0)⟩) rfl rfl hl3) hl3.c (vp (i6 ((rd a0 (IntKind.i64.wrap ((a0.length : Int) - 1)).toNat))) rfl (nx _ rfl (a_ret ?_)))
    refine ⟨.inr rfl, ?_⟩
    rw [Tryz.results53]
    cases h
    exact ⟨_, _, _, _, _, rfl, trivial, .inl ⟨rfl, .inl rfl⟩, rfl, rfl⟩
  · have h := ite_t hb1 h
    refine a_cond_t rfl (sr (vp (i6 0) rfl (nx _ rfl (a_ret (t_ret ?_)))))
    refine ⟨.inr rfl, ?_⟩
    rw [Tryz.results53]
    cases h
    exact ⟨_, _, _, _, _, rfl, trivial, .inl ⟨rfl, .inl rfl⟩, rfl, rfl⟩
def impl_letter_c : ACode := (.seq (.region 0 [q 0 (.asg 1 (.const (.slice none 0 0)) 40)] false) (.seq (.region 1 [q 1 (.bslice 0 40 2 [(0, (.const (.int .i64 0))), (1, (.const (.int .i64 1)))]), q 0 (.asg 1 (t 1) 40)] false) .ret))
def impl_letter_L : Live := [(0, []), (1, [])]
noncomputable def impl_letter  : Option (List Int) :=
  (some ([0, 1]))
theorem impl_letter_ok  (r : (List Int)) (h : impl_letter = some r) : Den Tryz.prog 66 [] { r := (eSi64 r) } := by
  refine den_of (rs := [(eSi64 r)]) (ac := impl_letter_c) (L := impl_letter_L) (n := 2) (m := [(0, 1)]) (c := Tryz.f66.body.getD .skip) good Tryz.func66 (by kernel_rfl) (by kernel_rfl) Tryz.ntmps66 rfl rfl (by kernel_rfl) rfl rfl ?_
  refine a_st (σ' := ⟨[], []⟩) (by kernel_rfl) ?_
  unfold impl_letter_c
  refine sr (vp (eSi64 ([])) rfl (nx ⟨[], []⟩ (by kernel_rfl) (sr (vq (.sl 1 true (([0, 1]).map (AV.int .i64))) rfl ⟨(Nat.le_of_ble_eq_true rfl), (Nat.le_of_ble_eq_true rfl), (all_cons ⟨(Nat.le_of_ble_eq_true rfl), rfl⟩ (all_cons ⟨(Nat.le_of_ble_eq_true rfl), rfl⟩ all_nil))⟩ (vq (eSi64 ([0, 1])) (asg_tight (i := ⟨.int .i64, 1, 8, (.int .i64 0)⟩) (f := (AV.int .i64)) (l := [0, 1]) rfl rfl rfl) trivial (nx _ rfl (a_ret ?_)))))))
  refine ⟨.inr rfl, ?_⟩
  rw [Tryz.results66]
  cases h
  exact ⟨_, _, _, _, _, rfl, trivial, .inl ⟨rfl, .inl rfl⟩, rfl, rfl⟩
def slices_Clone_impl_row_int64_fresh_c : ACode := (.seq (.region 0 [q 2 (.asg 2 (.const (.slice none 0 0)) 40)] false) (.seq (.seq (.region 1 [q 3 (.mov (t 0)), q 4 (.bin .eql 40 (t 3) (.const (.slice none 0 0)))] false) (.cond (t 4) (.seq (.region 2 [q 2 (.asg 2 (.const (.slice none 0 0)) 40)] false) .ret) .skip)) (.seq (.region 3 [q 5 (.bslice 0 40 0 []), q 6 (.mov (t 0)), q 7 (.blt 0 .append [(t 5), (t 6)] [40, 40]), q 2 (.asg 2 (t 7) 40)] false) .ret)))
def slices_Clone_impl_row_int64_fresh_L : Live := [(0, [0]), (1, [0]), (2, []), (3, [0]), (100004, [0, 4])]
noncomputable def slices_Clone_impl_row_int64_fresh (a0 : (List Int)) : Option (List Int) :=
  (ifc (a0 = [] → ((some ([]))) = ((ifp ((([] : List Int).length + a0.length) * 8 ≤ 140737488355328) ((some ((([] : List Int) ++ a0))))))) ((ifp ((([] : List Int).length + a0.length) * 8 ≤ 140737488355328) ((some ((([] : List Int) ++ a0)))))))
theorem slices_Clone_impl_row_int64_fresh_ok (a0 : (List Int)) (r : (List Int)) (h : slices_Clone_impl_row_int64_fresh a0 = some r) : Den Tryz.prog 91 [(eSi64 a0)] { r := (.osl 2000000), ms := [], fs := [(1, r.map (AV.int .i64))] } := by
  refine den_ofX (rs := [(.osl 2000000)]) (ac := slices_Clone_impl_row_int64_fresh_c) (L := slices_Clone_impl_row_int64_fresh_L) (n := 8) (m := [(2, 2)]) (c := Tryz.f91.body.getD .skip) good Tryz.func91 (by kernel_rfl) (by kernel_rfl) Tryz.ntmps91 rfl rfl (by kernel_rfl) rfl ?_
  refine a_st (σ' := ⟨[(0, (eSi64 a0))], []⟩) (by kernel_rfl) ?_
  unfold slices_Clone_impl_row_int64_fresh_c
  refine sr (vu (.osl 1200) [(1200, (bk (.row 1 (([]).map (AV.int .i64)))))] rfl trivial rfl (nx ⟨[(0, (eSi64 a0))], []⟩ (by kernel_rfl) (a_seq (sr (vp (eSi64 a0) rfl ?_)))))
  obtain ⟨hq2, h⟩ := ifc_some h
  refine a_split (v := .bool true) (v' := .bool false) rfl rfl (fun hn3 => ?_) ?_
  · have h := (hq2 (List.map_eq_nil_iff.1 hn3)).trans h
    refine nx ⟨[(0, (eSi64 a0)), (4, (.bool true))], []⟩ (by kernel_rfl) (a_cond_t rfl (sr (vu (.osl 1200) [(1200, (bk (.row 1 (([]).map (AV.int .i64)))))] rfl trivial rfl (nx _ rfl (a_ret (t_ret ?_))))))
    refine ⟨.inr rfl, ?_⟩
    rw [Tryz.results91]
    cases h
    exact ⟨[some 1200], ⟨_, _, _, _, _, rfl, trivial, rfl, .inr (.inl ⟨_, _, _, _, _, rfl, rfl, rfl, rfl, rfl, ⟨rfl, rfl, rfl⟩⟩)⟩, rfl, rfl⟩
  · skip
    refine nx ⟨[(0, (eSi64 a0)), (4, (.bool false))], []⟩ (by kernel_rfl) (a_cond_f rfl (a_skip (a_next (σ' := ⟨[(0, (eSi64 a0))], []⟩) (by kernel_rfl) (sr (vq (.sl 1 true (([]).map (AV.int .i64))) rfl ⟨(Nat.le_of_ble_eq_true rfl), (Nat.le_of_ble_eq_true rfl), all_nil⟩ (vp (eSi64 a0) rfl ?_))))))
    obtain ⟨hc1, h⟩ := ifp_some h
    refine vu (.osl 1700) [(1700, (bk (.row 1 (((([] : List Int) ++ a0)).map (AV.int .i64)))))] (appt_run (i := ⟨.int .i64, 1, 8, (.int .i64 0)⟩) (f := (AV.int .i64)) (l := []) (l2 := a0) rfl rfl rfl rfl (fun _ => rfl) rfl) (appt_c (f := (AV.int .i64)) (s := 1) (sz := 1) (sz' := 1) (by' := 8) hc1 (.inl rfl) (.inl rfl) (.inr rfl) rfl rfl) rfl (vp (.osl 1700) rfl (nx _ rfl (a_ret ?_)))
    refine ⟨.inr rfl, ?_⟩
    rw [Tryz.results91]
    cases h
    exact ⟨[some 1700], ⟨_, _, _, _, _, rfl, trivial, rfl, .inr (.inl ⟨_, _, _, _, _, rfl, rfl, rfl, rfl, rfl, ⟨rfl, rfl, rfl⟩⟩)⟩, rfl, rfl⟩
def impl_prime_inverse_c : ACode := (.seq (.region 0 [q 4 (.asg 0 (.const (.int .i64 0)) 2)] false) (.seq (.region 1 [q 5 (.asg 0 (.const (.int .i64 1)) 2)] false) (.seq (.seq (.region 2 [q 6 (.mov (t 0)), q 7 (.bin .sub 2 (t 6) (.const (.int .i64 2))), q 8 (.mov (.const (.int .i64 0)))] false) (.block 0 (.loop (.seq (.region 3 [q 9 (.bin .lss 2 (t 8) (t 7))] false) (.seq (.cond (t 9) .skip (.exit 0)) (.seq (.block 1 (.region 4 [q 10 (.mov (t 5)), q 11 (.mov (t 1)), q 12 (.bin .mul 2 (t 10) (t 11)), q 13 (.mov (t 0)), q 14 (.bin .rem 2 (t 12) (t 13)), q 5 (.asg 0 (t 14) 2)] false)) (.region 5 [q 15 (.bin .add 2 (t 8) (.const (.int .i64 1))), q 8 (.mov (t 15))] false))))))) (.seq (.region 6 [q 16 (.mov (t 5)), q 4 (.asg 0 (t 16) 2)] false) .ret))))
def impl_prime_inverse_L : Live := [(0, [0, 1]), (1, [0, 1]), (2, [0, 1, 5]), (3, [0, 1, 5, 7, 8]), (4, [0, 1, 5, 7, 8]), (5, [0, 1, 5, 7, 8]), (6, [5]), (100009, [0, 1, 5, 7, 8, 9])]
noncomputable def impl_prime_inverse_l1 (a0 : Int) (a1 : Int) (x19 : Int) (x20 : Int) : Option ((Int × Int) ⊕ Int) :=
  (if (decide (x20 < (IntKind.i64.wrap (a0 - 2)))) then (ifp (a0 ≠ 0) ((some (.inl ((Int.tmod (IntKind.i64.wrap (x19 * a1)) a0, IntKind.i64.wrap (x20 + 1))))))) else (some (.inr x19)))
noncomputable def impl_prime_inverse (a0 : Int) (a1 : Int) : Option Int :=
  (Option.bind (α := Int) ((loopM (fun s : (Int × Int) => impl_prime_inverse_l1 a0 a1 s.1 s.2) (1, 0))) fun x13 => (some x13))
theorem impl_prime_inverse_ok (a0 : Int) (a1 : Int) (r : Int) (h : impl_prime_inverse a0 a1 = some r) : Den Tryz.prog 65 [(i6 a0), (i6 a1)] { r := (i6 r) } := by
  refine den_of (rs := [(i6 r)]) (ac := impl_prime_inverse_c) (L := impl_prime_inverse_L) (n := 17) (m := []) (c := Tryz.f65.body.getD .skip) good Tryz.func65 (by kernel_rfl) (by kernel_rfl) Tryz.ntmps65 rfl rfl (by kernel_rfl) rfl rfl ?_
  refine a_st (σ' := ⟨[(0, (i6 a0)), (1, (i6 a1))], []⟩) (by kernel_rfl) ?_
  unfold impl_prime_inverse_c
  refine sr (vp (i6 0) rfl (nx ⟨[(0, (i6 a0)), (1, (i6 a1))], []⟩ (by kernel_rfl) (sr (vp (i6 1) rfl (nx ⟨[(0, (i6 a0)), (1, (i6 a1)), (5, (i6 1))], []⟩ (by kernel_rfl) ?_)))))
  obtain ⟨y14, hy15, hk16⟩ := bind_some h
  clear h
  refine a_join (emb := fun (s : Int) => ⟨[(5, (i6 s))], []⟩) (pre := fun s => s = y14) ?_ ?_
  · rintro x13 rfl
    have h := hk16
    refine a_st (σ' := ⟨[(5, (i6 x13))], []⟩) (by kernel_rfl) (sr (vp (i6 x13) rfl (vp (i6 x13) rfl (nx _ rfl (a_ret ?_)))))
    refine ⟨.inr rfl, ?_⟩
    rw [Tryz.results65]
    cases h
    exact ⟨_, _, _, _, _, rfl, trivial, .inl ⟨rfl, .inl rfl⟩, rfl, rfl⟩
  · have h := hy15
    refine sr (vp (i6 a0) rfl (vp (i6 (IntKind.i64.wrap (a0 - 2))) rfl (vp (i6 0) rfl (nx ⟨[(0, (i6 a0)), (1, (i6 a1)), (5, (i6 1)), (7, (i6 (IntKind.i64.wrap (a0 - 2)))), (8, (i6 0))], []⟩ (by kernel_rfl) (a_block ?_)))))
    refine a_loop (emb := fun (s : (Int × Int)) => ⟨[(0, (i6 a0)), (1, (i6 a1)), (5, (i6 s.1)), (7, (i6 (IntKind.i64.wrap (a0 - 2)))), (8, (i6 s.2))], []⟩) (body := (fun s : (Int × Int) => impl_prime_inverse_l1 a0 a1 s.1 s.2)) (G := fun q => some q = some y14) h rfl ?_ (by kernel_rfl)
    rintro X23 ⟨x19, x20⟩ x24 h hX25
    have h : impl_prime_inverse_l1 a0 a1 x19 x20 = some x24 := h
    refine a_st (σ' := ⟨[(0, (i6 a0)), (1, (i6 a1)), (5, (i6 x19)), (7, (i6 (IntKind.i64.wrap (a0 - 2)))), (8, (i6 x20))], []⟩) (by kernel_rfl) (sr (vp (.bool ((decide (x20 < (IntKind.i64.wrap (a0 - 2)))))) rfl (nx ⟨[(0, (i6 a0)), (1, (i6 a1)), (5, (i6 x19)), (7, (i6 (IntKind.i64.wrap (a0 - 2)))), (8, (i6 x20)), (9, (.bool ((decide (x20 < (IntKind.i64.wrap (a0 - 2)))))))], []⟩ (by kernel_rfl) (a_seq ?_))))
    cases hb26 : (decide (x20 < (IntKind.i64.wrap (a0 - 2))))
    · have h := ite_f hb26 h
      refine a_cond_f rfl (a_exit (t_exit ?_))
      cases h
      have h := hX25
      refine t_exit (b_exit ?_)
      exact j_leaf x19 (Option.some.inj h) (by kernel_rfl)
    · have h := ite_t hb26 h
      refine a_cond_t rfl (a_skip (a_next (σ' := ⟨[(0, (i6 a0)), (1, (i6 a1)), (5, (i6 x19)), (7, (i6 (IntKind.i64.wrap (a0 - 2)))), (8, (i6 x20))], []⟩) (by kernel_rfl) (a_seq (a_block (a_region (vp (i6 x19) rfl (vp (i6 a1) rfl (vp (i6 (IntKind.i64.wrap (x19 * a1))) rfl (vp (i6 a0) rfl ?_)))))))))
      obtain ⟨hc27, h⟩ := ifp_some h
      refine vq (i6 (Int.tmod (IntKind.i64.wrap (x19 * a1)) a0)) rfl hc27 (vp (i6 (Int.tmod (IntKind.i64.wrap (x19 * a1)) a0)) rfl (a_nil (b_norm (a_next (σ' := ⟨[(0, (i6 a0)), (1, (i6 a1)), (5, (i6 (Int.tmod (IntKind.i64.wrap (x19 * a1)) a0))), (7, (i6 (IntKind.i64.wrap (a0 - 2)))), (8, (i6 x20))], []⟩) (by kernel_rfl) (a_region (vp (i6 (IntKind.i64.wrap (x20 + 1))) rfl (vp (i6 (IntKind.i64.wrap (x20 + 1))) rfl (a_nil ?_))))))))
      cases h
      exact a_again (by kernel_rfl) hX25
def impl_prime_reduce_c : ACode := (.seq (.region 0 [q 4 (.asg 0 (.const (.int .i64 0)) 2)] false) (.seq (.region 1 [q 5 (.mov (t 1)), q 6 (.mov (t 0)), q 7 (.bin .rem 2 (t 5) (t 6)), q 8 (.mov (t 0)), q 9 (.bin .add 2 (t 7) (t 8)), q 10 (.mov (t 0)), q 11 (.bin .rem 2 (t 9) (t 10)), q 4 (.asg 0 (t 11) 2)] false) .ret))
def impl_prime_reduce_L : Live := [(0, [0, 1]), (1, [0, 1])]
noncomputable def impl_prime_reduce (a0 : Int) (a1 : Int) : Option Int :=
  (ifp (a0 ≠ 0) ((ifp (a0 ≠ 0) ((some (Int.tmod (IntKind.i64.wrap ((Int.tmod a1 a0) + a0)) a0))))))
theorem impl_prime_reduce_ok (a0 : Int) (a1 : Int) (r : Int) (h : impl_prime_reduce a0 a1 = some r) : Den Tryz.prog 44 [(i6 a0), (i6 a1)] { r := (i6 r) } := by
  refine den_of (rs := [(i6 r)]) (ac := impl_prime_reduce_c) (L := impl_prime_reduce_L) (n := 12) (m := []) (c := Tryz.f44.body.getD .skip) good Tryz.func44 (by kernel_rfl) (by kernel_rfl) Tryz.ntmps44 rfl rfl (by kernel_rfl) rfl rfl ?_
  refine a_st (σ' := ⟨[(0, (i6 a0)), (1, (i6 a1))], []⟩) (by kernel_rfl) ?_
  unfold impl_prime_reduce_c
  refine sr (vp (i6 0) rfl (nx ⟨[(0, (i6 a0)), (1, (i6 a1))], []⟩ (by kernel_rfl) (sr (vp (i6 a1) rfl (vp (i6 a0) rfl ?_)))))
  obtain ⟨hc1, h⟩ := ifp_some h
  refine vq (i6 (Int.tmod a1 a0)) rfl hc1 (vp (i6 a0) rfl (vp (i6 (IntKind.i64.wrap ((Int.tmod a1 a0) + a0))) rfl (vp (i6 a0) rfl ?_)))
  obtain ⟨hc2, h⟩ := ifp_some h
  refine vq (i6 (Int.tmod (IntKind.i64.wrap ((Int.tmod a1 a0) + a0)) a0)) rfl hc2 (vp (i6 (Int.tmod (IntKind.i64.wrap ((Int.tmod a1 a0) + a0)) a0)) rfl (nx _ rfl (a_ret ?_)))
  refine ⟨.inr rfl, ?_⟩
  rw [Tryz.results44]
  cases h
  exact ⟨_, _, _, _, _, rfl, trivial, .inl ⟨rfl, .inl rfl⟩, rfl, rfl⟩
def impl_prime_divide_c : ACode := (.seq (.region 0 [q 6 (.asg 1 (.const (.slice none 0 0)) 40), q 7 (.asg 1 (.const (.slice none 0 0)) 40)] false) (.seq (.region 1 [q 15 (.mov (t 1)), q 16 (.call 0 (.func 91) [(t 15)]), q 8 (.asg 2 (t 16) 40)] false) (.seq (.seq (.region 2 [q 17 (.mov (t 1)), q 18 (.blt 0 .len [(t 17)] [40]), q 19 (.mov (t 2)), q 20 (.blt 0 .len [(t 19)] [40]), q 21 (.bin .lss 3 (t 18) (t 20))] false) (.cond (t 21) (.seq (.region 3 [q 22 (.mov (t 8)), q 6 (.asg 1 (.const (.slice none 0 0)) 40), q 7 (.asg 1 (t 22) 40)] false) .ret) .skip)) (.seq (.region 4 [q 23 (.mov (t 1)), q 24 (.blt 0 .len [(t 23)] [40]), q 25 (.mov (t 2)), q 26 (.blt 0 .len [(t 25)] [40]), q 27 (.bin .sub 3 (t 24) (t 26)), q 28 (.bin .add 3 (t 27) (.const (.int .i64 1))), q 29 (.mkslice 40 (t 28) (t 28)), q 9 (.asg 2 (t 29) 40)] false) (.seq (.region 5 [q 30 (.mov (t 0)), q 31 (.mov (t 2)), q 32 (.call 0 (.func 53) [(t 31)]), q 33 (.call 0 (.func 65) [(t 30), (t 32)]), q 10 (.asg 0 (t 33) 2)] false) (.seq (.seq (.region 6 [q 34 (.mov (t 9)), q 35 (.blt 0 .len [(t 34)] [40]), q 36 (.bin .sub 3 (t 35) (.const (.int .i64 1))), q 11 (.asg 0 (t 36) 3)] false) (.block 0 (.loop (.seq (.seq (.region 7 [q 37 (.mov (t 11)), q 38 (.bin .geq 3 (t 37) (.const (.int .i64 0)))] false) (.cond (t 38) .skip (.exit 0))) (.seq (.block 1 (.seq (.region 9 [q 41 (.mov (t 8)), q 42 (.mov (t 11)), q 43 (.mov (t 2)), q 44 (.blt 0 .len [(t 43)] [40]), q 45 (.bin .add 3 (t 42) (t 44)), q 46 (.bin .sub 3 (t 45) (.const (.int .i64 1))), q 47 (.indexAddr 40 (t 41) (t 46)), q 48 (.load 2 (t 47)), q 49 (.mov (t 10)), q 50 (.bin .mul 2 (t 48) (t 49)), q 51 (.mov (t 0)), q 52 (.bin .rem 2 (t 50) (t 51)), q 12 (.asg 0 (t 52) 2)] false) (.seq (.region 10 [q 53 (.mov (t 9)), q 54 (.mov (t 11)), q 55 (.mov (t 12)), q 56 (.indexAddr 40 (t 53) (t 54)), ⟨none, .store 2 (t 56) (t 55), none, []⟩] false) (.seq (.region 11 [q 57 (.mov (t 2)), q 58 (.blt 0 .len [(t 57)] [40]), q 59 (.mov (.const (.int .i64 0)))] false) (.block 2 (.loop (.seq (.region 12 [q 60 (.bin .lss 3 (t 59) (t 58))] false) (.seq (.cond (t 60) .skip (.exit 2)) (.seq (.block 3 (.seq (.region 13 [q 61 (.mov (t 59)), q 62 (.indexAddr 40 (t 57) (t 59)), q 63 (.load 2 (t 62)), q 13 (.asg 0 (t 61) 3), q 14 (.asg 0 (t 63) 2)] false) (.region 14 [q 64 (.mov (t 8)), q 65 (.mov (t 11)), q 66 (.mov (t 13)), q 67 (.bin .add 3 (t 65) (t 66)), q 68 (.mov (t 0)), q 69 (.mov (t 8)), q 70 (.mov (t 11)), q 71 (.mov (t 13)), q 72 (.bin .add 3 (t 70) (t 71)), q 73 (.indexAddr 40 (t 69) (t 72)), q 74 (.load 2 (t 73)), q 75 (.mov (t 12)), q 76 (.mov (t 14)), q 77 (.bin .mul 2 (t 75) (t 76)), q 78 (.bin .sub 2 (t 74) (t 77)), q 79 (.call 0 (.func 44) [(t 68), (t 78)]), q 80 (.indexAddr 40 (t 64) (t 67)), ⟨none, .store 2 (t 80) (t 79), none, []⟩] false))) (.region 15 [q 81 (.bin .add 3 (t 59) (.const (.int .i64 1))), q 59 (.mov (t 81))] false)))))))))) (.region 8 [q 39 (.mov (t 11)), q 40 (.bin .sub 3 (t 39) (.const (.int .i64 1))), q 11 (.asg 0 (t 40) 3)] false)))))) (.seq (.region 16 [q 82 (.mov (t 9)), q 83 (.call 0 (.func 43) [(t 82)]), q 84 (.mov (t 8)), q 85 (.call 0 (.func 43) [(t 84)]), q 6 (.asg 1 (t 83) 40), q 7 (.asg 1 (t 85) 40)] false) .ret)))))))
def impl_prime_divide_L : Live := [(0, [0, 1, 2]), (1, [0, 1, 2]), (2, [0, 1, 2, 8]), (3, [8]), (4, [0, 1, 2, 8]), (5, [0, 2, 8, 9]), (6, [0, 2, 8, 9, 10]), (7, [0, 2, 8, 9, 10, 11]), (8, [0, 2, 8, 9, 10, 11]), (9, [0, 2, 8, 9, 10, 11]), (10, [0, 2, 8, 9, 10, 11, 12]), (11, [0, 2, 8, 9, 10, 11, 12]), (12, [0, 2, 8, 9, 10, 11, 12, 57, 58, 59]), (13, [0, 2, 8, 9, 10, 11, 12, 57, 58, 59]), (14, [0, 2, 8, 9, 10, 11, 12, 13, 14, 57, 58, 59]), (15, [0, 2, 8, 9, 10, 11, 12, 57, 58, 59]), (16, [8, 9]), (100021, [0, 1, 2, 8, 21]), (100038, [0, 2, 8, 9, 10, 11, 38]), (100060, [0, 2, 8, 9, 10, 11, 12, 57, 58, 59, 60])]
noncomputable def impl_prime_divide_l2 (a2 : (List Int)) (x467 : Int) (x468 : (List Int)) (x641 : Int) (r9 : Int) (a0 : Int) (x469 : (List Int)) (x661 : Int) (x662 : (List Int)) : Option ((Int × (List Int)) ⊕ ((List Int) × (List Int))) :=
  (if (decide (x661 < (a2.length : Int))) then (ifp (0 ≤ x661 ∧ x661 < ((a2.length : Nat) : Int)) ((ifp (0 ≤ IntKind.i64.wrap (x467 + x661) ∧ IntKind.i64.wrap (x467 + x661) < ((x662.length : Nat) : Int)) ((letp (IntKind.i64.wrap ((Int.tmod (IntKind.i64.wrap ((rd x468 x641.toNat) * r9)) a0) * (rd a2 x661.toNat))) fun x684 => (letp (IntKind.i64.wrap (((rd x662 (IntKind.i64.wrap (x467 + x661)).toNat)) - x684)) fun x686 => (Option.bind (impl_prime_reduce a0 x686) fun r688 => (ifp (0 ≤ IntKind.i64.wrap (x467 + x661) ∧ IntKind.i64.wrap (x467 + x661) < ((x662.length : Nat) : Int)) ((some (.inl ((IntKind.i64.wrap (x661 + 1), (x662.set (IntKind.i64.wrap (x467 + x661)).toNat r688)))))))))))))) else (some (.inr (((x662, (x469.set x467.toNat (Int.tmod (IntKind.i64.wrap ((rd x468 x641.toNat) * r9)) a0))))))))
noncomputable def impl_prime_divide_l1 (a2 : (List Int)) (a0 : Int) (r9 : Int) (x467 : Int) (x468 : (List Int)) (x469 : (List Int)) : Option ((Int × (List Int) × (List Int)) ⊕ ((List Int) × (List Int))) :=
  (if (decide (x467 ≥ 0)) then (Option.bind (α := ((List Int) × (List Int))) ((letp (IntKind.i64.wrap ((IntKind.i64.wrap (x467 + (a2.length : Int))) - 1)) fun x641 => (ifp (0 ≤ x641 ∧ x641 < ((x468.length : Nat) : Int)) ((ifp (a0 ≠ 0) ((ifp (0 ≤ x467 ∧ x467 < ((x469.length : Nat) : Int)) ((loopM (fun s : (Int × (List Int)) => impl_prime_divide_l2 a2 x467 x468 x641 r9 a0 x469 s.1 s.2) (0, x468)))))))))) fun ⟨x636, x637⟩ => (some (.inl ((IntKind.i64.wrap (x467 - 1), x636, x637))))) else (some (.inr (x468, x469))))
noncomputable def impl_prime_divide (a0 : Int) (a1 : (List Int)) (a2 : (List Int)) : Option ((List Int) × (List Int)) :=
  (Option.bind (slices_Clone_impl_row_int64_fresh a1) fun r1 => (if (decide ((a1.length : Int) < (a2.length : Int))) then (some ([], r1)) else (letp (IntKind.i64.wrap ((IntKind.i64.wrap ((a1.length : Int) - (a2.length : Int))) + 1)) fun x4 => (ifp (0 ≤ x4 ∧ x4 ≤ 140737488355328 ∧ 8 * x4 ≤ 140737488355328) ((Option.bind (impl_row_lead a2) fun r7 => (Option.bind (impl_prime_inverse a0 r7) fun r9 => (Option.bind (α := ((List Int) × (List Int))) ((letp (IntKind.i64.wrap ((((List.replicate x4.toNat (0 : Int)).length : Int)) - 1)) fun x355 => (loopM (fun s : (Int × (List Int) × (List Int)) => impl_prime_divide_l1 a2 a0 r9 s.1 s.2.1 s.2.2) (x355, r1, List.replicate x4.toNat (0 : Int))))) fun ⟨x350, x351⟩ => (Option.bind (impl_row_trimmed x351) fun r694 => (Option.bind (impl_row_trimmed x350) fun r696 => (some (r694, r696))))))))))))
theorem impl_prime_divide_ok (a0 : Int) (a1 : (List Int)) (a2 : (List Int)) (r : ((List Int) × (List Int))) (h : impl_prime_divide a0 a1 a2 = some r) : Den Tryz.prog 85 [(i6 a0), (eSi64 a1), (eSi64 a2)] { r := (.tuple [(eSi64 r.1), (eSi64 r.2)]) } := by
  refine den_of (rs := [(eSi64 r.1), (eSi64 r.2)]) (ac := impl_prime_divide_c) (L := impl_prime_divide_L) (n := 86) (m := [(6, 1), (7, 1), (8, 2), (9, 2)]) (c := Tryz.f85.body.getD .skip) good Tryz.func85 (by kernel_rfl) (by kernel_rfl) Tryz.ntmps85 rfl rfl (by kernel_rfl) rfl rfl ?_
  refine a_st (σ' := ⟨[(0, (i6 a0)), (1, (eSi64 a1)), (2, (eSi64 a2))], []⟩) (by kernel_rfl) ?_
  unfold impl_prime_divide_c
  refine sr (vp (eSi64 ([])) rfl (vp (eSi64 ([])) rfl (nx ⟨[(0, (i6 a0)), (1, (eSi64 a1)), (2, (eSi64 a2))], []⟩ (by kernel_rfl) (sr (vp (eSi64 a1) rfl ?_)))))
  obtain ⟨r1, hr2, h⟩ := bind_some h
  refine a_callF (args := [(eSi64 a1)]) (u := []) (u2 := []) (r := (.osl 2000000)) (fs := [(1, r1.map (AV.int .i64))]) rfl rfl (slices_Clone_impl_row_int64_fresh_ok a1 r1 hr2) rfl rfl rfl (.inl rfl) rfl (vp (.osl 2600) rfl (nx ⟨[(0, (i6 a0)), (1, (eSi64 a1)), (2, (eSi64 a2)), (8, (.osl 8))], [(8, (bk (.row 1 (r1.map (AV.int .i64)))))]⟩ (by kernel_rfl) (a_seq (sr (vp (eSi64 a1) rfl (vq (i6 (a1.length : Int)) (len_run rfl rfl) trivial (vp (eSi64 a2) rfl (vq (i6 (a2.length : Int)) (len_run rfl rfl) trivial (vp (.bool ((decide ((a1.length : Int) < (a2.length : Int))))) rfl ?_)))))))))
  refine nx ⟨[(0, (i6 a0)), (1, (eSi64 a1)), (2, (eSi64 a2)), (8, (.osl 8)), (21, (.bool ((decide ((a1.length : Int) < (a2.length : Int))))))], [(8, (bk (.row 1 (r1.map (AV.int .i64)))))]⟩ (by kernel_rfl) ?_
  cases hb3 : (decide ((a1.length : Int) < (a2.length : Int)))
  · have h := ite_f hb3 h
    refine a_cond_f rfl (a_skip (a_next (σ' := ⟨[(0, (i6 a0)), (1, (eSi64 a1)), (2, (eSi64 a2)), (8, (.osl 8))], [(8, (bk (.row 1 (r1.map (AV.int .i64)))))]⟩) (by kernel_rfl) (sr (vp (eSi64 a1) rfl (vq (i6 (a1.length : Int)) (len_run rfl rfl) trivial (vp (eSi64 a2) rfl (vq (i6 (a2.length : Int)) (len_run rfl rfl) trivial (vp (i6 (IntKind.i64.wrap ((a1.length : Int) - (a2.length : Int)))) rfl ?_))))))))
    obtain ⟨x4, hx5, h⟩ := letp_some h
    refine a_val' (v := (i6 (IntKind.i64.wrap ((IntKind.i64.wrap ((a1.length : Int) - (a2.length : Int))) + 1)))) (v' := (i6 x4)) (u := []) (u' := []) rfl (congrArg (fun z => ((i6 z) : AV)) hx5) rfl trivial rfl ?_
    obtain ⟨hc6, h⟩ := ifp_some h
    refine vu (.osl 3900) [(3900, (bk (.row 1 ((List.replicate x4.toNat (0 : Int)).map (AV.int .i64)))))] (mk_run (i := ⟨.int .i64, 1, 8, (.int .i64 0)⟩) (f := (AV.int .i64)) (y := (0 : Int)) rfl rfl rfl rfl rfl rfl) ⟨rfl, hc6.1, hc6.2.1, hc6.2.2, (Nat.le_of_ble_eq_true rfl)⟩ rfl (vp (.osl 3900) rfl (nx ⟨[(0, (i6 a0)), (2, (eSi64 a2)), (8, (.osl 8)), (9, (.osl 9))], [(8, (bk (.row 1 (r1.map (AV.int .i64))))), (9, (bk (.row 1 ((List.replicate x4.toNat (0 : Int)).map (AV.int .i64)))))]⟩ (by kernel_rfl) (sr (vp (i6 a0) rfl (vp (eSi64 a2) rfl ?_)))))
    obtain ⟨r7, hr8, h⟩ := bind_some h
    refine a_call (args := [(eSi64 a2)]) (u := []) (r := (i6 r7)) rfl rfl (impl_row_lead_ok a2 r7 hr8) rfl ?_
    obtain ⟨r9, hr10, h⟩ := bind_some h
    refine a_call (args := [(i6 a0), (i6 r7)]) (u := []) (r := (i6 r9)) rfl rfl (impl_prime_inverse_ok a0 r7 r9 hr10) rfl (vp (i6 r9) rfl (nx ⟨[(0, (i6 a0)), (2, (eSi64 a2)), (8, (.osl 8)), (9, (.osl 9)), (10, (i6 r9))], [(8, (bk (.row 1 (r1.map (AV.int .i64))))), (9, (bk (.row 1 ((List.replicate x4.toNat (0 : Int)).map (AV.int .i64)))))]⟩ (by kernel_rfl) ?_))
    obtain ⟨y352, hy353, hk354⟩ := bind_some h
    clear h
    refine a_join (emb := fun (s : ((List Int) × (List Int))) => ⟨[(8, (.osl 8)), (9, (.osl 9))], [(8, (bk (.row 1 (s.1.map (AV.int .i64))))), (9, (bk (.row 1 (s.2.map (AV.int .i64)))))]⟩) (pre := fun s => s = y352) ?_ ?_
    · rintro ⟨x350, x351⟩ rfl
      have h := hk354
      refine a_st (σ' := ⟨[(8, (.osl 8)), (9, (.osl 9))], [(8, (bk (.row 1 (x350.map (AV.int .i64))))), (9, (bk (.row 1 (x351.map (AV.int .i64)))))]⟩) (by kernel_rfl) (sr (vp (.osl 9) rfl ?_))
      obtain ⟨r694, hr695, h⟩ := bind_some h
      refine a_call (args := [(eSi64 x351)]) (u := [(9, (bf (.row 1 (x351.map (AV.int .i64)))))]) (r := (eSi64 r694)) rfl rfl (impl_row_trimmed_ok x351 r694 hr695) rfl (vp (.osl 8) rfl ?_)
      obtain ⟨r696, hr697, h⟩ := bind_some h
      refine a_call (args := [(eSi64 x350)]) (u := [(8, (bf (.row 1 (x350.map (AV.int .i64)))))]) (r := (eSi64 r696)) rfl rfl (impl_row_trimmed_ok x350 r696 hr697) rfl (vp (eSi64 r694) rfl (vp (eSi64 r696) rfl (nx _ rfl (a_ret ?_))))
      refine ⟨.inr rfl, ?_⟩
      rw [Tryz.results85]
      cases h
      exact ⟨_, _, _, _, _, rfl, trivial, .inl ⟨rfl, .inl rfl⟩, rfl, ⟨_, _, _, _, _, rfl, trivial, .inl ⟨rfl, .inl rfl⟩, rfl, rfl⟩⟩
    · have h := hy353
      refine sr (vp (.osl 9) rfl (vq (i6 (((List.replicate x4.toNat (0 : Int)).length : Int))) (leno_run rfl rfl rfl) trivial ?_))
      obtain ⟨x355, hx356, h⟩ := letp_some h
      refine a_val' (v := (i6 (IntKind.i64.wrap ((((List.replicate x4.toNat (0 : Int)).length : Int)) - 1)))) (v' := (i6 x355)) (u := []) (u' := []) rfl (congrArg (fun z => ((i6 z) : AV)) hx356) rfl trivial rfl (vp (i6 x355) rfl (nx ⟨[(0, (i6 a0)), (2, (eSi64 a2)), (8, (.osl 8)), (9, (.osl 9)), (10, (i6 r9)), (11, (i6 x355))], [(8, (bk (.row 1 (r1.map (AV.int .i64))))), (9, (bk (.row 1 ((List.replicate x4.toNat (0 : Int)).map (AV.int .i64)))))]⟩ (by kernel_rfl) (a_block ?_)))
      refine a_loop (emb := fun (s : (Int × (List Int) × (List Int))) => ⟨[(0, (i6 a0)), (2, (eSi64 a2)), (8, (.osl 8)), (9, (.osl 9)), (10, (i6 r9)), (11, (i6 s.1))], [(8, (bk (.row 1 (s.2.1.map (AV.int .i64))))), (9, (bk (.row 1 (s.2.2.map (AV.int .i64)))))]⟩) (body := (fun s : (Int × (List Int) × (List Int)) => impl_prime_divide_l1 a2 a0 r9 s.1 s.2.1 s.2.2)) (G := fun q => some q = some y352) h rfl ?_ (by kernel_rfl)
      rintro X580 ⟨x467, x468, x469⟩ x581 h hX582
      have h : impl_prime_divide_l1 a2 a0 r9 x467 x468 x469 = some x581 := h
      refine a_st (σ' := ⟨[(0, (i6 a0)), (2, (eSi64 a2)), (8, (.osl 8)), (9, (.osl 9)), (10, (i6 r9)), (11, (i6 x467))], [(8, (bk (.row 1 (x468.map (AV.int .i64))))), (9, (bk (.row 1 (x469.map (AV.int .i64)))))]⟩) (by kernel_rfl) (a_seq (sr (vp (i6 x467) rfl (vp (.bool ((decide (x467 ≥ 0)))) rfl (nx ⟨[(0, (i6 a0)), (2, (eSi64 a2)), (8, (.osl 8)), (9, (.osl 9)), (10, (i6 r9)), (11, (i6 x467)), (38, (.bool ((decide (x467 ≥ 0)))))], [(8, (bk (.row 1 (x468.map (AV.int .i64))))), (9, (bk (.row 1 (x469.map (AV.int .i64)))))]⟩ (by kernel_rfl) ?_)))))
      cases hb583 : (decide (x467 ≥ 0))
      · have h := ite_f hb583 h
        refine a_cond_f rfl (a_exit (t_exit ?_))
        cases h
        have h := hX582
        refine t_exit (b_exit ?_)
        exact j_leaf (x468, x469) (Option.some.inj h) (by kernel_rfl)
      · have h := ite_t hb583 h
        refine a_cond_t rfl (a_skip (a_next (σ' := ⟨[(0, (i6 a0)), (2, (eSi64 a2)), (8, (.osl 8)), (9, (.osl 9)), (10, (i6 r9)), (11, (i6 x467))], [(8, (bk (.row 1 (x468.map (AV.int .i64))))), (9, (bk (.row 1 (x469.map (AV.int .i64)))))]⟩) (by kernel_rfl) ?_))
        obtain ⟨y638, hy639, hk640⟩ := bind_some h
        clear h
        refine a_join (emb := fun (s : ((List Int) × (List Int))) => ⟨[(0, (i6 a0)), (2, (eSi64 a2)), (8, (.osl 8)), (9, (.osl 9)), (10, (i6 r9)), (11, (i6 x467))], [(8, (bk (.row 1 (s.1.map (AV.int .i64))))), (9, (bk (.row 1 (s.2.map (AV.int .i64)))))]⟩) (pre := fun s => s = y638) ?_ ?_
        · rintro ⟨x636, x637⟩ rfl
          have h := hk640
          refine a_st (σ' := ⟨[(0, (i6 a0)), (2, (eSi64 a2)), (8, (.osl 8)), (9, (.osl 9)), (10, (i6 r9)), (11, (i6 x467))], [(8, (bk (.row 1 (x636.map (AV.int .i64))))), (9, (bk (.row 1 (x637.map (AV.int .i64)))))]⟩) (by kernel_rfl) (a_region (vp (i6 x467) rfl (vp (i6 (IntKind.i64.wrap (x467 - 1))) rfl (vp (i6 (IntKind.i64.wrap (x467 - 1))) rfl (a_nil ?_)))))
          cases h
          exact a_again (by kernel_rfl) hX582
        · have h := hy639
          refine a_block (sr (vp (.osl 8) rfl (vp (i6 x467) rfl (vp (eSi64 a2) rfl (vq (i6 (a2.length : Int)) (len_run rfl rfl) trivial (vp (i6 (IntKind.i64.wrap (x467 + (a2.length : Int)))) rfl ?_))))))
          obtain ⟨x641, hx642, h⟩ := letp_some h
          refine a_val' (v := (i6 (IntKind.i64.wrap ((IntKind.i64.wrap (x467 + (a2.length : Int))) - 1)))) (v' := (i6 x641)) (u := []) (u' := []) rfl (congrArg (fun z => ((i6 z) : AV)) hx642) rfl trivial rfl ?_
          obtain ⟨hc643, h⟩ := ifp_some h
          refine vq (.own 8 [x641.toNat] [x641.toNat * 1]) rfl (lmap hc643) ?_
          have hl644 : LdOk [x641.toNat] (.row 1 (x468.map (AV.int .i64))) [x641.toNat * 1] 1 false (i6 (rd x468 x641.toNat)) := (.row (llt hc643) rfl (.nil rfl rfl rfl))
          refine vq (i6 (rd x468 x641.toNat)) (ld_own (i := ⟨.int .i64, 1, 8, (.int .i64 0)⟩) rfl rfl rfl hl644) hl644.c (vp (i6 r9) rfl (vp (i6 (IntKind.i64.wrap ((rd x468 x641.toNat) * r9))) rfl (vp (i6 a0) rfl ?_)))
          obtain ⟨hc645, h⟩ := ifp_some h
          refine vq (i6 (Int.tmod (IntKind.i64.wrap ((rd x468 x641.toNat) * r9)) a0)) rfl hc645 (vp (i6 (Int.tmod (IntKind.i64.wrap ((rd x468 x641.toNat) * r9)) a0)) rfl (nx ⟨[(0, (i6 a0)), (2, (eSi64 a2)), (8, (.osl 8)), (9, (.osl 9)), (10, (i6 r9)), (11, (i6 x467)), (12, (i6 (Int.tmod (IntKind.i64.wrap ((rd x468 x641.toNat) * r9)) a0)))], [(8, (bk (.row 1 (x468.map (AV.int .i64))))), (9, (bk (.row 1 (x469.map (AV.int .i64)))))]⟩ (by kernel_rfl) (sr (vp (.osl 9) rfl (vp (i6 x467) rfl (vp (i6 (Int.tmod (IntKind.i64.wrap ((rd x468 x641.toNat) * r9)) a0)) rfl ?_))))))
          obtain ⟨hc646, h⟩ := ifp_some h
          refine vq (.own 9 [x467.toNat] [x467.toNat * 1]) rfl (lmap hc646) ?_
          have hs647 : StOk [x467.toNat] (.row 1 (x469.map (AV.int .i64))) [x467.toNat * 1] 1 (i6 (Int.tmod (IntKind.i64.wrap ((rd x468 x641.toNat) * r9)) a0)) (.row 1 (((x469.set x467.toNat (Int.tmod (IntKind.i64.wrap ((rd x468 x641.toNat) * r9)) a0))).map (AV.int .i64))) := (.row (y := Int.tmod (IntKind.i64.wrap ((rd x468 x641.toNat) * r9)) a0) (llt hc646) rfl (.nil rfl rfl rfl rfl))
          refine vu .top [(9, (bk (.row 1 (((x469.set x467.toNat (Int.tmod (IntKind.i64.wrap ((rd x468 x641.toNat) * r9)) a0))).map (AV.int .i64)))))] (st_own (i := ⟨.int .i64, 1, 8, (.int .i64 0)⟩) rfl rfl (fun _ => rfl) rfl hs647) (hs647.c rfl) rfl (nx ⟨[(0, (i6 a0)), (2, (eSi64 a2)), (8, (.osl 8)), (9, (.osl 9)), (10, (i6 r9)), (11, (i6 x467)), (12, (i6 (Int.tmod (IntKind.i64.wrap ((rd x468 x641.toNat) * r9)) a0)))], [(8, (bk (.row 1 (x468.map (AV.int .i64))))), (9, (bk (.row 1 (((x469.set x467.toNat (Int.tmod (IntKind.i64.wrap ((rd x468 x641.toNat) * r9)) a0))).map (AV.int .i64)))))]⟩ (by kernel_rfl) (sr (vp (eSi64 a2) rfl (vq (i6 (a2.length : Int)) (len_run rfl rfl) trivial (vp (i6 0) rfl (nx ⟨[(0, (i6 a0)), (2, (eSi64 a2)), (8, (.osl 8)), (9, (.osl 9)), (10, (i6 r9)), (11, (i6 x467)), (12, (i6 (Int.tmod (IntKind.i64.wrap ((rd x468 x641.toNat) * r9)) a0))), (57, (eSi64 a2)), (58, (i6 (a2.length : Int))), (59, (i6 0))], [(8, (bk (.row 1 (x468.map (AV.int .i64))))), (9, (bk (.row 1 (((x469.set x467.toNat (Int.tmod (IntKind.i64.wrap ((rd x468 x641.toNat) * r9)) a0))).map (AV.int .i64)))))]⟩ (by kernel_rfl) (a_block ?_)))))))
          refine a_loop (emb := fun (s : (Int × (List Int))) => ⟨[(0, (i6 a0)), (2, (eSi64 a2)), (8, (.osl 8)), (9, (.osl 9)), (10, (i6 r9)), (11, (i6 x467)), (12, (i6 (Int.tmod (IntKind.i64.wrap ((rd x468 x641.toNat) * r9)) a0))), (57, (eSi64 a2)), (58, (i6 (a2.length : Int))), (59, (i6 s.1))], [(8, (bk (.row 1 (s.2.map (AV.int .i64))))), (9, (bk (.row 1 (((x469.set x467.toNat (Int.tmod (IntKind.i64.wrap ((rd x468 x641.toNat) * r9)) a0))).map (AV.int .i64)))))]⟩) (body := (fun s : (Int × (List Int)) => impl_prime_divide_l2 a2 x467 x468 x641 r9 a0 x469 s.1 s.2)) (G := fun q => some q = some y638) h rfl ?_ (by kernel_rfl)
          rintro X676 ⟨x661, x662⟩ x677 h hX678
          have h : impl_prime_divide_l2 a2 x467 x468 x641 r9 a0 x469 x661 x662 = some x677 := h
          refine a_st (σ' := ⟨[(0, (i6 a0)), (2, (eSi64 a2)), (8, (.osl 8)), (9, (.osl 9)), (10, (i6 r9)), (11, (i6 x467)), (12, (i6 (Int.tmod (IntKind.i64.wrap ((rd x468 x641.toNat) * r9)) a0))), (57, (eSi64 a2)), (58, (i6 (a2.length : Int))), (59, (i6 x661))], [(8, (bk (.row 1 (x662.map (AV.int .i64))))), (9, (bk (.row 1 (((x469.set x467.toNat (Int.tmod (IntKind.i64.wrap ((rd x468 x641.toNat) * r9)) a0))).map (AV.int .i64)))))]⟩) (by kernel_rfl) (sr (vp (.bool ((decide (x661 < (a2.length : Int))))) rfl (nx ⟨[(0, (i6 a0)), (2, (eSi64 a2)), (8, (.osl 8)), (9, (.osl 9)), (10, (i6 r9)), (11, (i6 x467)), (12, (i6 (Int.tmod (IntKind.i64.wrap ((rd x468 x641.toNat) * r9)) a0))), (57, (eSi64 a2)), (58, (i6 (a2.length : Int))), (59, (i6 x661)), (60, (.bool ((decide (x661 < (a2.length : Int))))))], [(8, (bk (.row 1 (x662.map (AV.int .i64))))), (9, (bk (.row 1 (((x469.set x467.toNat (Int.tmod (IntKind.i64.wrap ((rd x468 x641.toNat) * r9)) a0))).map (AV.int .i64)))))]⟩ (by kernel_rfl) (a_seq ?_))))
          cases hb679 : (decide (x661 < (a2.length : Int)))
          · have h := ite_f hb679 h
            refine a_cond_f rfl (a_exit (t_exit ?_))
            cases h
            have h := hX678
            refine t_exit (b_exit (b_norm ?_))
            exact j_leaf ((x662, (x469.set x467.toNat (Int.tmod (IntKind.i64.wrap ((rd x468 x641.toNat) * r9)) a0)))) (Option.some.inj h) (by kernel_rfl)
          · have h := ite_t hb679 h
            refine a_cond_t rfl (a_skip (a_next (σ' := ⟨[(0, (i6 a0)), (2, (eSi64 a2)), (8, (.osl 8)), (9, (.osl 9)), (10, (i6 r9)), (11, (i6 x467)), (12, (i6 (Int.tmod (IntKind.i64.wrap ((rd x468 x641.toNat) * r9)) a0))), (57, (eSi64 a2)), (58, (i6 (a2.length : Int))), (59, (i6 x661))], [(8, (bk (.row 1 (x662.map (AV.int .i64))))), (9, (bk (.row 1 (((x469.set x467.toNat (Int.tmod (IntKind.i64.wrap ((rd x468 x641.toNat) * r9)) a0))).map (AV.int .i64)))))]⟩) (by kernel_rfl) (a_seq (a_block (sr (vp (i6 x661) rfl ?_))))))
            obtain ⟨hc680, h⟩ := ifp_some h
            refine vq (.ref (.row 1 (a2.map (AV.int .i64))) [x661.toNat] [x661.toNat * 1]) rfl (lmap hc680) ?_
            have hl681 : LdOk [x661.toNat] (.row 1 (a2.map (AV.int .i64))) [x661.toNat * 1] 1 false (i6 (rd a2 x661.toNat)) := (.row (llt hc680) rfl (.nil rfl rfl rfl))
            refine vq (i6 (rd a2 x661.toNat)) (ld_ref (i := ⟨.int .i64, 1, 8, (.int .i64 0)⟩) rfl rfl hl681) hl681.c (vp (i6 x661) rfl (vp (i6 (rd a2 x661.toNat)) rfl (nx ⟨[(0, (i6 a0)), (2, (eSi64 a2)), (8, (.osl 8)), (9, (.osl 9)), (10, (i6 r9)), (11, (i6 x467)), (12, (i6 (Int.tmod (IntKind.i64.wrap ((rd x468 x641.toNat) * r9)) a0))), (13, (i6 x661)), (14, (i6 (rd a2 x661.toNat))), (57, (eSi64 a2)), (58, (i6 (a2.length : Int))), (59, (i6 x661))], [(8, (bk (.row 1 (x662.map (AV.int .i64))))), (9, (bk (.row 1 (((x469.set x467.toNat (Int.tmod (IntKind.i64.wrap ((rd x468 x641.toNat) * r9)) a0))).map (AV.int .i64)))))]⟩ (by kernel_rfl) (a_region (vp (.osl 8) rfl (vp (i6 x467) rfl (vp (i6 x661) rfl (vp (i6 (IntKind.i64.wrap (x467 + x661))) rfl (vp (i6 a0) rfl ?_)))))))))
            refine vp (.osl 8) rfl (vp (i6 x467) rfl (vp (i6 x661) rfl (vp (i6 (IntKind.i64.wrap (x467 + x661))) rfl ?_)))
            obtain ⟨hc682, h⟩ := ifp_some h
            refine vq (.own 8 [(IntKind.i64.wrap (x467 + x661)).toNat] [(IntKind.i64.wrap (x467 + x661)).toNat * 1]) rfl (lmap hc682) ?_
            have hl683 : LdOk [(IntKind.i64.wrap (x467 + x661)).toNat] (.row 1 (x662.map (AV.int .i64))) [(IntKind.i64.wrap (x467 + x661)).toNat * 1] 1 false (i6 ((rd x662 (IntKind.i64.wrap (x467 + x661)).toNat))) := (.row (llt hc682) rfl (.nil rfl rfl rfl))
            refine vq (i6 ((rd x662 (IntKind.i64.wrap (x467 + x661)).toNat))) (ld_own (i := ⟨.int .i64, 1, 8, (.int .i64 0)⟩) rfl rfl rfl hl683) hl683.c (vp (i6 (Int.tmod (IntKind.i64.wrap ((rd x468 x641.toNat) * r9)) a0)) rfl (vp (i6 (rd a2 x661.toNat)) rfl ?_))
            obtain ⟨x684, hx685, h⟩ := letp_some h
            refine a_val' (v := (i6 (IntKind.i64.wrap ((Int.tmod (IntKind.i64.wrap ((rd x468 x641.toNat) * r9)) a0) * (rd a2 x661.toNat))))) (v' := (i6 x684)) (u := []) (u' := []) rfl (congrArg (fun z => ((i6 z) : AV)) hx685) rfl trivial rfl ?_
            obtain ⟨x686, hx687, h⟩ := letp_some h
            refine a_val' (v := (i6 (IntKind.i64.wrap (((rd x662 (IntKind.i64.wrap (x467 + x661)).toNat)) - x684)))) (v' := (i6 x686)) (u := []) (u' := []) rfl (congrArg (fun z => ((i6 z) : AV)) hx687) rfl trivial rfl ?_
            obtain ⟨r688, hr689, h⟩ := bind_some h
            refine a_call (args := [(i6 a0), (i6 x686)]) (u := []) (r := (i6 r688)) rfl rfl (impl_prime_reduce_ok a0 x686 r688 hr689) rfl ?_
            obtain ⟨hc690, h⟩ := ifp_some h
            refine vq (.own 8 [(IntKind.i64.wrap (x467 + x661)).toNat] [(IntKind.i64.wrap (x467 + x661)).toNat * 1]) rfl (lmap hc690) ?_
            have hs691 : StOk [(IntKind.i64.wrap (x467 + x661)).toNat] (.row 1 (x662.map (AV.int .i64))) [(IntKind.i64.wrap (x467 + x661)).toNat * 1] 1 (i6 r688) (.row 1 (((x662.set (IntKind.i64.wrap (x467 + x661)).toNat r688)).map (AV.int .i64))) := (.row (y := r688) (llt hc690) rfl (.nil rfl rfl rfl rfl))
            refine vu .top [(8, (bk (.row 1 (((x662.set (IntKind.i64.wrap (x467 + x661)).toNat r688)).map (AV.int .i64)))))] (st_own (i := ⟨.int .i64, 1, 8, (.int .i64 0)⟩) rfl rfl (fun _ => rfl) rfl hs691) (hs691.c rfl) rfl (a_nil (b_norm (a_next (σ' := ⟨[(0, (i6 a0)), (2, (eSi64 a2)), (8, (.osl 8)), (9, (.osl 9)), (10, (i6 r9)), (11, (i6 x467)), (12, (i6 (Int.tmod (IntKind.i64.wrap ((rd x468 x641.toNat) * r9)) a0))), (57, (eSi64 a2)), (58, (i6 (a2.length : Int))), (59, (i6 x661))], [(8, (bk (.row 1 (((x662.set (IntKind.i64.wrap (x467 + x661)).toNat r688)).map (AV.int .i64))))), (9, (bk (.row 1 (((x469.set x467.toNat (Int.tmod (IntKind.i64.wrap ((rd x468 x641.toNat) * r9)) a0))).map (AV.int .i64)))))]⟩) (by kernel_rfl) (a_region (vp (i6 (IntKind.i64.wrap (x661 + 1))) rfl (vp (i6 (IntKind.i64.wrap (x661 + 1))) rfl (a_nil ?_)))))))
            cases h
            exact a_again (by kernel_rfl) hX678
  · have h := ite_t hb3 h
    refine a_cond_t rfl (sr (vp (.osl 8) rfl (vp (eSi64 ([])) rfl (vu (eSi64 r1) [(8, (bf (.row 1 (r1.map (AV.int .i64)))))] rfl trivial rfl (nx _ rfl (a_ret (t_ret ?_)))))))
    refine ⟨.inr rfl, ?_⟩
    rw [Tryz.results85]
    cases h
    exact ⟨_, _, _, _, _, rfl, trivial, .inl ⟨rfl, .inl rfl⟩, rfl, ⟨_, _, _, _, _, rfl, trivial, .inl ⟨rfl, .inl rfl⟩, rfl, rfl⟩⟩
def impl_prime_rest_c : ACode := (.seq (.region 0 [q 6 (.asg 1 (.const (.slice none 0 0)) 40)] false) (.seq (.region 1 [q 10 (.mov (t 0)), q 11 (.mov (t 1)), q 12 (.mov (t 2)), q 13 (.call 0 (.func 85) [(t 10), (t 11), (t 12)]), q 9 (.mov (t 13)), q 14 (.extract (t 9) 0), q 15 (.extract (t 9) 1), q 7 (.asg 1 (t 14) 40), q 8 (.asg 1 (t 15) 40)] false) (.seq (.region 2 [q 16 (.mov (t 8)), q 6 (.asg 1 (t 16) 40)] false) .ret)))
def impl_prime_rest_L : Live := [(0, [0, 1, 2]), (1, [0, 1, 2]), (2, [8])]
noncomputable def impl_prime_rest (a0 : Int) (a1 : (List Int)) (a2 : (List Int)) : Option (List Int) :=
  (Option.bind (impl_prime_divide a0 a1 a2) fun r1 => (some r1.2))
theorem impl_prime_rest_ok (a0 : Int) (a1 : (List Int)) (a2 : (List Int)) (r : (List Int)) (h : impl_prime_rest a0 a1 a2 = some r) : Den Tryz.prog 80 [(i6 a0), (eSi64 a1), (eSi64 a2)] { r := (eSi64 r) } := by
  refine den_of (rs := [(eSi64 r)]) (ac := impl_prime_rest_c) (L := impl_prime_rest_L) (n := 17) (m := [(6, 1), (7, 1), (8, 1)]) (c := Tryz.f80.body.getD .skip) good Tryz.func80 (by kernel_rfl) (by kernel_rfl) Tryz.ntmps80 rfl rfl (by kernel_rfl) rfl rfl ?_
  refine a_st (σ' := ⟨[(0, (i6 a0)), (1, (eSi64 a1)), (2, (eSi64 a2))], []⟩) (by kernel_rfl) ?_
  unfold impl_prime_rest_c
  refine sr (vp (eSi64 ([])) rfl (nx ⟨[(0, (i6 a0)), (1, (eSi64 a1)), (2, (eSi64 a2))], []⟩ (by kernel_rfl) (sr (vp (i6 a0) rfl (vp (eSi64 a1) rfl (vp (eSi64 a2) rfl ?_))))))
  obtain ⟨r1, hr2, h⟩ := bind_some h
  refine a_call (args := [(i6 a0), (eSi64 a1), (eSi64 a2)]) (u := []) (r := (.tuple [(eSi64 r1.1), (eSi64 r1.2)])) rfl rfl (impl_prime_divide_ok a0 a1 a2 r1 hr2) rfl (vp (.tuple [(eSi64 r1.1), (eSi64 r1.2)]) rfl (vb (eSi64 r1.1) rfl rfl (vb (eSi64 r1.2) rfl rfl (vp (eSi64 r1.1) rfl (vp (eSi64 r1.2) rfl (nx ⟨[(8, (eSi64 r1.2))], []⟩ (by kernel_rfl) (sr (vp (eSi64 r1.2) rfl (vp (eSi64 r1.2) rfl ?_)))))))))
  refine nx _ rfl (a_ret ?_)
  refine ⟨.inr rfl, ?_⟩
  rw [Tryz.results80]
  cases h
  exact ⟨_, _, _, _, _, rfl, trivial, .inl ⟨rfl, .inl rfl⟩, rfl, rfl⟩
end Go.Proofs.YtcgohoclbjgmkaaGreat
