/- Functions of the program: plain Lean functions, and that the program computes them. Printed by gen.py. -/
import Derived.Test.YtcgohoclbjgmkaaFnT
import Derived.Test.YtcgohoclbjgmkaaFn1
import Derived.Test.YtcgohoclbjgmkaaFn2
import Derived.Test.YtcgohoclbjgmkaaFn3
import Derived.Test.YtcgohoclbjgmkaaFn5
namespace Go.Proofs.Ytcgohoclbjgmkaa
open Go.Abs Go.Proofs
set_option linter.unusedSimpArgs false
set_option linter.unusedVariables false
set_option maxHeartbeats 16000000
attribute [local irreducible] Abs.acode Abs.aops Abs.aopsT Abs.thenK Abs.blockK

def spec_l01Up_c : ACode := (.seq (.region 0 [q 4 (.box 24 (t 1)), q 5 (.box 24 (t 2)), q 6 (.alloc 24)] false) (.seq (.region 1 [q 13 (.load 24 (t 5)), q 14 (.call 0 (.func 81) [(t 13)]), q 7 (.asg 0 (t 14) 2)] false) (.seq (.seq (.region 2 [q 15 (.mov (t 7)), q 16 (.bin .eql 2 (t 15) (.const (.int .i64 0)))] false) (.cond (t 16) (.seq (.region 3 [q 17 (.build 24 []), ⟨none, .store 24 (t 6) (t 17), none, []⟩] false) .ret) .skip)) (.seq (.region 4 [q 18 (.mov (t 7)), q 19 (.bin .sub 2 (t 18) (.const (.int .i64 1))), q 20 (.indexAddr 24 (t 4) (t 19)), q 21 (.load 5 (t 20)), q 22 (.conv 5 2 (t 21)), q 23 (.build 24 []), q 9 (.alloc 24), q 8 (.asg 0 (t 22) 2), ⟨none, .store 24 (t 9) (t 23), none, []⟩] false) (.seq (.seq (.region 5 [q 10 (.asg 0 (.const (.int .i64 1)) 2)] false) (.block 0 (.loop (.seq (.seq (.region 6 [q 24 (.mov (t 10)), q 25 (.mov (t 7)), q 26 (.bin .lss 2 (t 24) (t 25))] false) (.cond (t 26) .skip (.exit 0))) (.seq (.block 1 (.region 8 [q 29 (.mov (t 10)), q 30 (.mov (t 10)), q 31 (.bin .sub 2 (t 30) (.const (.int .i64 1))), q 32 (.indexAddr 24 (t 4) (t 31)), q 33 (.load 5 (t 32)), q 34 (.indexAddr 24 (t 9) (t 29)), ⟨none, .store 5 (t 34) (t 33), none, []⟩] false)) (.region 7 [q 27 (.mov (t 10)), q 28 (.bin .add 2 (t 27) (.const (.int .i64 1))), q 10 (.asg 0 (t 28) 2)] false)))))) (.seq (.region 9 [q 35 (.mov (t 8)), q 36 (.mov (t 0)), q 37 (.mov (t 7)), q 38 (.indexAddr 24 (t 5) (t 37)), q 39 (.load 5 (t 38)), q 40 (.call 0 (.func 104) [(t 36), (t 39)]), q 41 (.conv 5 2 (t 40)), q 42 (.bin .mul 2 (t 35) (t 41)), q 43 (.mov (t 0)), q 44 (.bin .rem 2 (t 42) (t 43)), q 11 (.asg 0 (t 44) 2)] false) (.seq (.seq (.region 10 [q 12 (.asg 0 (.const (.int .i64 0)) 2)] false) (.block 2 (.loop (.seq (.seq (.region 11 [q 45 (.mov (t 12)), q 46 (.mov (t 7)), q 47 (.bin .lss 2 (t 45) (t 46))] false) (.cond (t 47) .skip (.exit 2))) (.seq (.block 3 (.region 13 [q 50 (.mov (t 12)), q 51 (.mov (t 12)), ⟨some 52, .indexAddr 24 (t 9) (t 51), none, [1]⟩, ⟨some 53, .load 5 (t 52), none, [2]⟩, ⟨some 54, .conv 5 2 (t 53), none, [3]⟩, q 55 (.mov (t 11)), q 56 (.mov (t 12)), ⟨some 57, .indexAddr 24 (t 5) (t 56), none, [6]⟩, ⟨some 58, .load 5 (t 57), none, [7]⟩, ⟨some 59, .conv 5 2 (t 58), none, [8]⟩, ⟨some 60, .bin .mul 2 (t 55) (t 59), none, [5, 9]⟩, ⟨some 61, .bin .sub 2 (t 54) (t 60), none, [4, 10]⟩, q 62 (.mov (t 0)), ⟨some 63, .bin .rem 2 (t 61) (t 62), none, [11, 12]⟩, q 64 (.mov (t 0)), ⟨some 65, .bin .add 2 (t 63) (t 64), none, [13, 14]⟩, q 66 (.mov (t 0)), ⟨some 67, .bin .rem 2 (t 65) (t 66), none, [15, 16]⟩, ⟨some 68, .conv 2 5 (t 67), none, [17]⟩, ⟨some 69, .indexAddr 24 (t 9) (t 50), none, [0, 0, 1, 2, 3, 4, 5, 6, 7, 8, 9, 10, 11, 12, 13, 14, 15, 16, 17, 18]⟩, ⟨none, .store 5 (t 69) (t 68), none, [19, 18, 0, 1, 2, 3, 4, 5, 6, 7, 8, 9, 10, 11, 12, 13, 14, 15, 16, 17, 18]⟩] true)) (.region 12 [q 48 (.mov (t 12)), q 49 (.bin .add 2 (t 48) (.const (.int .i64 1))), q 12 (.asg 0 (t 49) 2)] false)))))) (.seq (.region 14 [q 70 (.load 24 (t 9)), ⟨none, .store 24 (t 6) (t 70), none, []⟩] false) .ret))))))))
def spec_l01Up_L : Live := [(0, [0, 1, 2]), (1, [0, 4, 5, 6]), (2, [0, 4, 5, 6, 7]), (3, [6]), (4, [0, 4, 5, 6, 7]), (5, [0, 4, 5, 6, 7, 8, 9]), (6, [0, 4, 5, 6, 7, 8, 9, 10]), (7, [0, 4, 5, 6, 7, 8, 9, 10]), (8, [0, 4, 5, 6, 7, 8, 9, 10]), (9, [0, 5, 6, 7, 8, 9]), (10, [0, 5, 6, 7, 9, 11]), (11, [0, 5, 6, 7, 9, 11, 12]), (12, [0, 5, 6, 7, 9, 11, 12]), (13, [0, 5, 6, 7, 9, 11, 12]), (14, [6, 9]), (100016, [0, 4, 5, 6, 7, 16]), (100026, [0, 4, 5, 6, 7, 8, 9, 10, 26]), (100047, [0, 5, 6, 7, 9, 11, 12, 47])]
noncomputable def spec_l01Up_l1 (r2 : Int) (a1 : (Vec Int 64)) (x40 : Int) (x41 : (Vec Int 64)) : Option ((Int × (Vec Int 64)) ⊕ (Vec Int 64)) :=
  (if (decide (x40 < r2)) then (ifp (0 ≤ IntKind.i64.wrap (x40 - 1) ∧ IntKind.i64.wrap (x40 - 1) < ((64 : Nat) : Int)) ((ifp (0 ≤ x40 ∧ x40 < ((64 : Nat) : Int)) ((some (.inl ((IntKind.i64.wrap (x40 + 1), (vset x41 x40.toNat ((rd a1.1 (IntKind.i64.wrap (x40 - 1)).toNat))))))))))) else (some (.inr x41)))
noncomputable def spec_l01Up_l2 (r2 : Int) (x7 : Int) (r58 : Int) (a0 : Int) (a2 : (Vec Int 64)) (x187 : Int) (x188 : (Vec Int 64)) : Option ((Int × (Vec Int 64)) ⊕ (Vec Int 64)) :=
  (if (decide (x187 < r2)) then (ifp (0 ≤ x187 ∧ x187 < ((64 : Nat) : Int)) ((ifp (0 ≤ x187 ∧ x187 < ((64 : Nat) : Int)) ((letp (IntKind.i64.wrap ((Int.tmod (IntKind.i64.wrap (x7 * (IntKind.i64.wrap r58))) a0) * (IntKind.i64.wrap (rd a2.1 x187.toNat)))) fun x240 => (letp (IntKind.i64.wrap ((IntKind.i64.wrap (rd x188.1 x187.toNat)) - x240)) fun x242 => (ifp (a0 ≠ 0) ((ifp (a0 ≠ 0) ((letp (IntKind.u8.wrap (Int.tmod (IntKind.i64.wrap ((Int.tmod x242 a0) + a0)) a0)) fun x246 => (ifp (0 ≤ x187 ∧ x187 < ((64 : Nat) : Int)) ((some (.inl ((IntKind.i64.wrap (x187 + 1), (vset x188 x187.toNat x246)))))))))))))))))) else (some (.inr x188)))
noncomputable def spec_l01Up (a0 : Int) (a1 : (Vec Int 64)) (a2 : (Vec Int 64)) : Option (Vec Int 64) :=
  (Option.bind (spec_l01Deg a2) fun r2 => (if (r2 == 0) then (some ((vrep 64 (0 : Int)))) else (ifp (0 ≤ IntKind.i64.wrap (r2 - 1) ∧ IntKind.i64.wrap (r2 - 1) < ((64 : Nat) : Int)) ((letp (IntKind.i64.wrap ((rd a1.1 (IntKind.i64.wrap (r2 - 1)).toNat))) fun x7 => (Option.bind (α := (Vec Int 64)) ((loopM (fun s : (Int × (Vec Int 64)) => spec_l01Up_l1 r2 a1 s.1 s.2) (1, (vrep 64 (0 : Int))))) fun x31 => (ifp (0 ≤ r2 ∧ r2 < ((64 : Nat) : Int)) ((Option.bind (spec_l01Inverse a0 (rd a2.1 r2.toNat)) fun r58 => (ifp (a0 ≠ 0) ((Option.bind (α := (Vec Int 64)) ((loopM (fun s : (Int × (Vec Int 64)) => spec_l01Up_l2 r2 x7 r58 a0 a2 s.1 s.2) (0, x31))) fun x154 => (some x154)))))))))))))
theorem spec_l01Up_ok (a0 : Int) (a1 : (Vec Int 64)) (a2 : (Vec Int 64)) (r : (Vec Int 64)) (h : spec_l01Up a0 a1 a2 = some r) : Den Try.prog 150 [(i6 a0), (eA64u8 a1), (eA64u8 a2)] { r := (eA64u8 r) } := by
  refine den_of (rs := [(eA64u8 r)]) (ac := spec_l01Up_c) (L := spec_l01Up_L) (n := 71) (m := []) (c := Try.f150.body.getD .skip) good Try.func150 (by kernel_rfl) (by kernel_rfl) Try.ntmps150 rfl rfl (by kernel_rfl) rfl rfl ?_
  refine a_st (σ' := ⟨[(0, (i6 a0)), (1, (eA64u8 a1)), (2, (eA64u8 a2))], []⟩) (by kernel_rfl) ?_
  unfold spec_l01Up_c
  refine sr (vo 1400 (eA64u8 a1) rfl rfl (vo 1500 (eA64u8 a2) rfl rfl (vo 1600 (eA64u8 ((vrep 64 (0 : Int)))) rfl rfl (nx ⟨[(0, (i6 a0)), (4, (ow 4)), (5, (ow 5)), (6, (ow 6))], [(4, (bk (eA64u8 a1))), (5, (bk (eA64u8 a2))), (6, (bk (eA64u8 ((vrep 64 (0 : Int))))))]⟩ (by kernel_rfl) (sr (vl (eA64u8 a2) rfl rfl rfl rfl rfl rfl ?_))))))
  obtain ⟨r2, hr3, h⟩ := bind_some h
  refine a_call (args := [(eA64u8 a2)]) (u := []) (r := (i6 r2)) rfl rfl (spec_l01Deg_ok a2 r2 hr3) rfl (vp (i6 r2) rfl (nx ⟨[(0, (i6 a0)), (4, (ow 4)), (5, (ow 5)), (6, (ow 6)), (7, (i6 r2))], [(4, (bk (eA64u8 a1))), (5, (bk (eA64u8 a2))), (6, (bk (eA64u8 ((vrep 64 (0 : Int))))))]⟩ (by kernel_rfl) (a_seq (sr (vp (i6 r2) rfl (vp (.bool (r2 == 0)) rfl (nx ⟨[(0, (i6 a0)), (4, (ow 4)), (5, (ow 5)), (6, (ow 6)), (7, (i6 r2)), (16, (.bool (r2 == 0)))], [(4, (bk (eA64u8 a1))), (5, (bk (eA64u8 a2))), (6, (bk (eA64u8 ((vrep 64 (0 : Int))))))]⟩ (by kernel_rfl) ?_)))))))
  cases hb4 : (r2 == 0)
  · have h := ite_f hb4 h
    refine a_cond_f rfl (a_skip (a_next (σ' := ⟨[(0, (i6 a0)), (4, (ow 4)), (5, (ow 5)), (6, (ow 6)), (7, (i6 r2))], [(4, (bk (eA64u8 a1))), (5, (bk (eA64u8 a2))), (6, (bk (eA64u8 ((vrep 64 (0 : Int))))))]⟩) (by kernel_rfl) (sr (vp (i6 r2) rfl (vp (i6 (IntKind.i64.wrap (r2 - 1))) rfl ?_)))))
    obtain ⟨hc5, h⟩ := ifp_some h
    refine vq (.own 4 [(IntKind.i64.wrap (r2 - 1)).toNat] [(IntKind.i64.wrap (r2 - 1)).toNat * 1]) rfl hc5 ?_
    have hl6 : LdOk [(IntKind.i64.wrap (r2 - 1)).toNat] (eA64u8 a1) [(IntKind.i64.wrap (r2 - 1)).toNat * 1] 1 false (b8 ((rd a1.1 (IntKind.i64.wrap (r2 - 1)).toNat))) := (.arr (vlt a1 hc5) rfl (.nil rfl rfl rfl))
    refine vq (b8 ((rd a1.1 (IntKind.i64.wrap (r2 - 1)).toNat))) (ld_own (i := ⟨.int .u8, 1, 1, (.int .u8 0)⟩) rfl rfl rfl hl6) hl6.c ?_
    obtain ⟨x7, hx8, h⟩ := letp_some h
    refine a_val' (v := (i6 (IntKind.i64.wrap ((rd a1.1 (IntKind.i64.wrap (r2 - 1)).toNat))))) (v' := (i6 x7)) (u := []) (u' := []) rfl (congrArg (fun z => ((i6 z) : AV)) hx8) rfl trivial rfl (vq (eA64u8 ((vrep 64 (0 : Int)))) rfl ⟨⟨_, rfl, rfl⟩, all_nil⟩ (vo 1900 (eA64u8 ((vrep 64 (0 : Int)))) rfl rfl (vp (i6 x7) rfl (vs (eA64u8 ((vrep 64 (0 : Int)))) rfl rfl (fun _ => rfl) rfl rfl rfl rfl rfl rfl (nx ⟨[(0, (i6 a0)), (4, (ow 4)), (5, (ow 5)), (6, (ow 6)), (7, (i6 r2)), (8, (i6 x7)), (9, (ow 9))], [(4, (bk (eA64u8 a1))), (5, (bk (eA64u8 a2))), (6, (bk (eA64u8 ((vrep 64 (0 : Int)))))), (9, (bk (eA64u8 ((vrep 64 (0 : Int))))))]⟩ (by kernel_rfl) ?_)))))
    obtain ⟨y32, hy33, hk34⟩ := bind_some h
    clear h
    refine a_join (emb := fun (s : (Vec Int 64)) => ⟨[(0, (i6 a0)), (5, (ow 5)), (6, (ow 6)), (7, (i6 r2)), (8, (i6 x7)), (9, (ow 9))], [(5, (bk (eA64u8 a2))), (6, (bk (eA64u8 ((vrep 64 (0 : Int)))))), (9, (bk (eA64u8 s)))]⟩) (pre := fun s => s = y32) ?_ ?_
    · rintro x31 rfl
      have h := hk34
      refine a_st (σ' := ⟨[(0, (i6 a0)), (5, (ow 5)), (6, (ow 6)), (7, (i6 r2)), (8, (i6 x7)), (9, (ow 9))], [(5, (bk (eA64u8 a2))), (6, (bk (eA64u8 ((vrep 64 (0 : Int)))))), (9, (bk (eA64u8 x31)))]⟩) (by kernel_rfl) (sr (vp (i6 x7) rfl (vp (i6 a0) rfl (vp (i6 r2) rfl ?_))))
      obtain ⟨hc56, h⟩ := ifp_some h
      refine vq (.own 5 [r2.toNat] [r2.toNat * 1]) rfl hc56 ?_
      have hl57 : LdOk [r2.toNat] (eA64u8 a2) [r2.toNat * 1] 1 false (b8 (rd a2.1 r2.toNat)) := (.arr (vlt a2 hc56) rfl (.nil rfl rfl rfl))
      refine vq (b8 (rd a2.1 r2.toNat)) (ld_own (i := ⟨.int .u8, 1, 1, (.int .u8 0)⟩) rfl rfl rfl hl57) hl57.c ?_
      obtain ⟨r58, hr59, h⟩ := bind_some h
      refine a_call (args := [(i6 a0), (b8 (rd a2.1 r2.toNat))]) (u := []) (r := (b8 r58)) rfl rfl (spec_l01Inverse_ok a0 (rd a2.1 r2.toNat) r58 hr59) rfl (vp (i6 (IntKind.i64.wrap r58)) rfl (vp (i6 (IntKind.i64.wrap (x7 * (IntKind.i64.wrap r58)))) rfl (vp (i6 a0) rfl ?_)))
      obtain ⟨hc60, h⟩ := ifp_some h
      refine vq (i6 (Int.tmod (IntKind.i64.wrap (x7 * (IntKind.i64.wrap r58))) a0)) rfl hc60 (vp (i6 (Int.tmod (IntKind.i64.wrap (x7 * (IntKind.i64.wrap r58))) a0)) rfl (nx ⟨[(0, (i6 a0)), (5, (ow 5)), (6, (ow 6)), (7, (i6 r2)), (9, (ow 9)), (11, (i6 (Int.tmod (IntKind.i64.wrap (x7 * (IntKind.i64.wrap r58))) a0)))], [(5, (bk (eA64u8 a2))), (6, (bk (eA64u8 ((vrep 64 (0 : Int)))))), (9, (bk (eA64u8 x31)))]⟩ (by kernel_rfl) ?_))
      obtain ⟨y155, hy156, hk157⟩ := bind_some h
      clear h
      refine a_join (emb := fun (s : (Vec Int 64)) => ⟨[(6, (ow 6)), (9, (ow 9))], [(6, (bk (eA64u8 ((vrep 64 (0 : Int)))))), (9, (bk (eA64u8 s)))]⟩) (pre := fun s => s = y155) ?_ ?_
      · rintro x154 rfl
        have h := hk157
        refine a_st (σ' := ⟨[(6, (ow 6)), (9, (ow 9))], [(6, (bk (eA64u8 ((vrep 64 (0 : Int)))))), (9, (bk (eA64u8 x154)))]⟩) (by kernel_rfl) (sr (vl (eA64u8 x154) rfl rfl rfl rfl rfl rfl (vs (eA64u8 x154) rfl rfl (fun _ => rfl) rfl rfl rfl rfl rfl rfl (nx _ rfl (a_ret ?_)))))
        have hl253 : LdOk [] (eA64u8 x154) [] 64 true (eA64u8 x154) := (.nil rfl rfl rfl)
        refine ⟨.inr rfl, ?_⟩
        rw [Try.results150]
        cases h
        exact ⟨_, _, _, _, _, ld_own (i := ⟨.arr 64 5, 64, 64, (eA64u8 (vrep 64 (0 : Int)))⟩) rfl rfl rfl hl253, hl253.c, .inl ⟨rfl, .inl rfl⟩, rfl, rfl⟩
      · have h := hy156
        refine sr (vp (i6 0) rfl (nx ⟨[(0, (i6 a0)), (5, (ow 5)), (6, (ow 6)), (7, (i6 r2)), (9, (ow 9)), (11, (i6 (Int.tmod (IntKind.i64.wrap (x7 * (IntKind.i64.wrap r58))) a0))), (12, (i6 0))], [(5, (bk (eA64u8 a2))), (6, (bk (eA64u8 ((vrep 64 (0 : Int)))))), (9, (bk (eA64u8 x31)))]⟩ (by kernel_rfl) (a_block ?_)))
        refine a_loop (emb := fun (s : (Int × (Vec Int 64))) => ⟨[(0, (i6 a0)), (5, (ow 5)), (6, (ow 6)), (7, (i6 r2)), (9, (ow 9)), (11, (i6 (Int.tmod (IntKind.i64.wrap (x7 * (IntKind.i64.wrap r58))) a0))), (12, (i6 s.1))], [(5, (bk (eA64u8 a2))), (6, (bk (eA64u8 ((vrep 64 (0 : Int)))))), (9, (bk (eA64u8 s.2)))]⟩) (body := (fun s : (Int × (Vec Int 64)) => spec_l01Up_l2 r2 x7 r58 a0 a2 s.1 s.2)) (G := fun q => some q = some y155) h rfl ?_ (by kernel_rfl)
        rintro X218 ⟨x187, x188⟩ x219 h hX220
        have h : spec_l01Up_l2 r2 x7 r58 a0 a2 x187 x188 = some x219 := h
        refine a_st (σ' := ⟨[(0, (i6 a0)), (5, (ow 5)), (6, (ow 6)), (7, (i6 r2)), (9, (ow 9)), (11, (i6 (Int.tmod (IntKind.i64.wrap (x7 * (IntKind.i64.wrap r58))) a0))), (12, (i6 x187))], [(5, (bk (eA64u8 a2))), (6, (bk (eA64u8 ((vrep 64 (0 : Int)))))), (9, (bk (eA64u8 x188)))]⟩) (by kernel_rfl) (a_seq (sr (vp (i6 x187) rfl (vp (i6 r2) rfl (vp (.bool ((decide (x187 < r2)))) rfl (nx ⟨[(0, (i6 a0)), (5, (ow 5)), (6, (ow 6)), (7, (i6 r2)), (9, (ow 9)), (11, (i6 (Int.tmod (IntKind.i64.wrap (x7 * (IntKind.i64.wrap r58))) a0))), (12, (i6 x187)), (47, (.bool ((decide (x187 < r2)))))], [(5, (bk (eA64u8 a2))), (6, (bk (eA64u8 ((vrep 64 (0 : Int)))))), (9, (bk (eA64u8 x188)))]⟩ (by kernel_rfl) ?_))))))
        cases hb221 : (decide (x187 < r2))
        · have h := ite_f hb221 h
          refine a_cond_f rfl (a_exit (t_exit ?_))
          cases h
          have h := hX220
          refine t_exit (b_exit ?_)
          exact j_leaf x188 (Option.some.inj h) (by kernel_rfl)
        · have h := ite_t hb221 h
          refine a_cond_t rfl (a_skip (a_next (σ' := ⟨[(0, (i6 a0)), (5, (ow 5)), (6, (ow 6)), (7, (i6 r2)), (9, (ow 9)), (11, (i6 (Int.tmod (IntKind.i64.wrap (x7 * (IntKind.i64.wrap r58))) a0))), (12, (i6 x187))], [(5, (bk (eA64u8 a2))), (6, (bk (eA64u8 ((vrep 64 (0 : Int)))))), (9, (bk (eA64u8 x188)))]⟩) (by kernel_rfl) (a_seq (a_block (a_draw [⟨[], [], [], []⟩, ⟨[], [], [], []⟩, ⟨[9], [], [9], [1]⟩, ⟨[9], [], [], [1, 2]⟩, ⟨[], [], [], [1, 2, 3]⟩, ⟨[], [], [], []⟩, ⟨[], [], [], []⟩, ⟨[5], [], [5], [6]⟩, ⟨[5], [], [], [6, 7]⟩, ⟨[], [], [], [6, 7, 8]⟩, ⟨[], [], [], [5, 6, 7, 8, 9]⟩, ⟨[], [], [], [1, 2, 3, 4, 5, 6, 7, 8, 9, 10]⟩, ⟨[], [], [], []⟩, ⟨[], [], [], [1, 2, 3, 4, 5, 6, 7, 8, 9, 10, 11, 12]⟩, ⟨[], [], [], []⟩, ⟨[], [], [], [1, 2, 3, 4, 5, 6, 7, 8, 9, 10, 11, 12, 13, 14]⟩, ⟨[], [], [], []⟩, ⟨[], [], [], [1, 2, 3, 4, 5, 6, 7, 8, 9, 10, 11, 12, 13, 14, 15, 16]⟩, ⟨[], [], [], [1, 2, 3, 4, 5, 6, 7, 8, 9, 10, 11, 12, 13, 14, 15, 16, 17]⟩, ⟨[9], [], [9], [0, 1, 2, 3, 4, 5, 6, 7, 8, 9, 10, 11, 12, 13, 14, 15, 16, 17, 18]⟩, ⟨[9], [9], [], [0, 1, 2, 3, 4, 5, 6, 7, 8, 9, 10, 11, 12, 13, 14, 15, 16, 17, 18, 19]⟩] (by kernel_rfl) (dp (i6 x187) rfl (by kernel_rfl) (dp (i6 x187) rfl (by kernel_rfl) (d_cons ?_))))))))
          obtain ⟨hc236, h⟩ := ifp_some h
          refine vq (.own 9 [x187.toNat] [x187.toNat * 1]) rfl hc236 (d_next (by kernel_rfl) (d_cons ?_))
          have hl237 : LdOk [x187.toNat] (eA64u8 x188) [x187.toNat * 1] 1 false (b8 (rd x188.1 x187.toNat)) := (.arr (vlt x188 hc236) rfl (.nil rfl rfl rfl))
          refine vq (b8 (rd x188.1 x187.toNat)) (ld_own (i := ⟨.int .u8, 1, 1, (.int .u8 0)⟩) rfl rfl rfl hl237) hl237.c (d_next (by kernel_rfl) (dp (i6 (IntKind.i64.wrap (rd x188.1 x187.toNat))) rfl (by kernel_rfl) (dp (i6 (Int.tmod (IntKind.i64.wrap (x7 * (IntKind.i64.wrap r58))) a0)) rfl (by kernel_rfl) (dp (i6 x187) rfl (by kernel_rfl) (d_cons ?_)))))
          obtain ⟨hc238, h⟩ := ifp_some h
          refine vq (.own 5 [x187.toNat] [x187.toNat * 1]) rfl hc238 (d_next (by kernel_rfl) (d_cons ?_))
          have hl239 : LdOk [x187.toNat] (eA64u8 a2) [x187.toNat * 1] 1 false (b8 (rd a2.1 x187.toNat)) := (.arr (vlt a2 hc238) rfl (.nil rfl rfl rfl))
          refine vq (b8 (rd a2.1 x187.toNat)) (ld_own (i := ⟨.int .u8, 1, 1, (.int .u8 0)⟩) rfl rfl rfl hl239) hl239.c (d_next (by kernel_rfl) (dp (i6 (IntKind.i64.wrap (rd a2.1 x187.toNat))) rfl (by kernel_rfl) (d_cons ?_)))
          obtain ⟨x240, hx241, h⟩ := letp_some h
          refine a_val' (v := (i6 (IntKind.i64.wrap ((Int.tmod (IntKind.i64.wrap (x7 * (IntKind.i64.wrap r58))) a0) * (IntKind.i64.wrap (rd a2.1 x187.toNat)))))) (v' := (i6 x240)) (u := []) (u' := []) rfl (congrArg (fun z => ((i6 z) : AV)) hx241) rfl trivial rfl (d_next (by kernel_rfl) (d_cons ?_))
          obtain ⟨x242, hx243, h⟩ := letp_some h
          refine a_val' (v := (i6 (IntKind.i64.wrap ((IntKind.i64.wrap (rd x188.1 x187.toNat)) - x240)))) (v' := (i6 x242)) (u := []) (u' := []) rfl (congrArg (fun z => ((i6 z) : AV)) hx243) rfl trivial rfl (d_next (by kernel_rfl) (dp (i6 a0) rfl (by kernel_rfl) (d_cons ?_)))
          obtain ⟨hc244, h⟩ := ifp_some h
          refine vq (i6 (Int.tmod x242 a0)) rfl hc244 (d_next (by kernel_rfl) (dp (i6 a0) rfl (by kernel_rfl) (dp (i6 (IntKind.i64.wrap ((Int.tmod x242 a0) + a0))) rfl (by kernel_rfl) (dp (i6 a0) rfl (by kernel_rfl) (d_cons ?_)))))
          obtain ⟨hc245, h⟩ := ifp_some h
          refine vq (i6 (Int.tmod (IntKind.i64.wrap ((Int.tmod x242 a0) + a0)) a0)) rfl hc245 (d_next (by kernel_rfl) (d_cons ?_))
          obtain ⟨x246, hx247, h⟩ := letp_some h
          refine a_val' (v := (b8 (IntKind.u8.wrap (Int.tmod (IntKind.i64.wrap ((Int.tmod x242 a0) + a0)) a0)))) (v' := (b8 x246)) (u := []) (u' := []) rfl (congrArg (fun z => ((b8 z) : AV)) hx247) rfl trivial rfl (d_next (by kernel_rfl) (d_cons ?_))
          obtain ⟨hc248, h⟩ := ifp_some h
          refine vq (.own 9 [x187.toNat] [x187.toNat * 1]) rfl hc248 (d_next (by kernel_rfl) (d_cons ?_))
          have hs249 : StOk [x187.toNat] (eA64u8 x188) [x187.toNat * 1] 1 (b8 x246) (eA64u8 (vset x188 x187.toNat x246)) := (.arr (y := x246) (vlt x188 hc248) rfl (.nil rfl rfl rfl rfl))
          refine vu .top [(9, (bk (eA64u8 (vset x188 x187.toNat x246))))] (st_own (i := ⟨.int .u8, 1, 1, (.int .u8 0)⟩) rfl rfl (fun _ => rfl) rfl hs249) (hs249.c rfl) rfl (d_next (by kernel_rfl) (d_nil (b_norm (a_next (σ' := ⟨[(0, (i6 a0)), (5, (ow 5)), (6, (ow 6)), (7, (i6 r2)), (9, (ow 9)), (11, (i6 (Int.tmod (IntKind.i64.wrap (x7 * (IntKind.i64.wrap r58))) a0))), (12, (i6 x187))], [(5, (bk (eA64u8 a2))), (6, (bk (eA64u8 ((vrep 64 (0 : Int)))))), (9, (bk (eA64u8 (vset x188 x187.toNat x246))))]⟩) (by kernel_rfl) (a_region (vp (i6 x187) rfl (vp (i6 (IntKind.i64.wrap (x187 + 1))) rfl (vp (i6 (IntKind.i64.wrap (x187 + 1))) rfl (a_nil ?_)))))))))
          cases h
          exact a_again (by kernel_rfl) hX220
    · have h := hy33
      refine sr (vp (i6 1) rfl (nx ⟨[(0, (i6 a0)), (4, (ow 4)), (5, (ow 5)), (6, (ow 6)), (7, (i6 r2)), (8, (i6 x7)), (9, (ow 9)), (10, (i6 1))], [(4, (bk (eA64u8 a1))), (5, (bk (eA64u8 a2))), (6, (bk (eA64u8 ((vrep 64 (0 : Int)))))), (9, (bk (eA64u8 ((vrep 64 (0 : Int))))))]⟩ (by kernel_rfl) (a_block ?_)))
      refine a_loop (emb := fun (s : (Int × (Vec Int 64))) => ⟨[(0, (i6 a0)), (4, (ow 4)), (5, (ow 5)), (6, (ow 6)), (7, (i6 r2)), (8, (i6 x7)), (9, (ow 9)), (10, (i6 s.1))], [(4, (bk (eA64u8 a1))), (5, (bk (eA64u8 a2))), (6, (bk (eA64u8 ((vrep 64 (0 : Int)))))), (9, (bk (eA64u8 s.2)))]⟩) (body := (fun s : (Int × (Vec Int 64)) => spec_l01Up_l1 r2 a1 s.1 s.2)) (G := fun q => some q = some y32) h rfl ?_ (by kernel_rfl)
      rintro X47 ⟨x40, x41⟩ x48 h hX49
      have h : spec_l01Up_l1 r2 a1 x40 x41 = some x48 := h
      refine a_st (σ' := ⟨[(0, (i6 a0)), (4, (ow 4)), (5, (ow 5)), (6, (ow 6)), (7, (i6 r2)), (8, (i6 x7)), (9, (ow 9)), (10, (i6 x40))], [(4, (bk (eA64u8 a1))), (5, (bk (eA64u8 a2))), (6, (bk (eA64u8 ((vrep 64 (0 : Int)))))), (9, (bk (eA64u8 x41)))]⟩) (by kernel_rfl) (a_seq (sr (vp (i6 x40) rfl (vp (i6 r2) rfl (vp (.bool ((decide (x40 < r2)))) rfl (nx ⟨[(0, (i6 a0)), (4, (ow 4)), (5, (ow 5)), (6, (ow 6)), (7, (i6 r2)), (8, (i6 x7)), (9, (ow 9)), (10, (i6 x40)), (26, (.bool ((decide (x40 < r2)))))], [(4, (bk (eA64u8 a1))), (5, (bk (eA64u8 a2))), (6, (bk (eA64u8 ((vrep 64 (0 : Int)))))), (9, (bk (eA64u8 x41)))]⟩ (by kernel_rfl) ?_))))))
      cases hb50 : (decide (x40 < r2))
      · have h := ite_f hb50 h
        refine a_cond_f rfl (a_exit (t_exit ?_))
        cases h
        have h := hX49
        refine t_exit (b_exit ?_)
        exact j_leaf x41 (Option.some.inj h) (by kernel_rfl)
      · have h := ite_t hb50 h
        refine a_cond_t rfl (a_skip (a_next (σ' := ⟨[(0, (i6 a0)), (4, (ow 4)), (5, (ow 5)), (6, (ow 6)), (7, (i6 r2)), (8, (i6 x7)), (9, (ow 9)), (10, (i6 x40))], [(4, (bk (eA64u8 a1))), (5, (bk (eA64u8 a2))), (6, (bk (eA64u8 ((vrep 64 (0 : Int)))))), (9, (bk (eA64u8 x41)))]⟩) (by kernel_rfl) (a_seq (a_block (a_region (vp (i6 x40) rfl (vp (i6 x40) rfl (vp (i6 (IntKind.i64.wrap (x40 - 1))) rfl ?_))))))))
        obtain ⟨hc51, h⟩ := ifp_some h
        refine vq (.own 4 [(IntKind.i64.wrap (x40 - 1)).toNat] [(IntKind.i64.wrap (x40 - 1)).toNat * 1]) rfl hc51 ?_
        have hl52 : LdOk [(IntKind.i64.wrap (x40 - 1)).toNat] (eA64u8 a1) [(IntKind.i64.wrap (x40 - 1)).toNat * 1] 1 false (b8 ((rd a1.1 (IntKind.i64.wrap (x40 - 1)).toNat))) := (.arr (vlt a1 hc51) rfl (.nil rfl rfl rfl))
        refine vq (b8 ((rd a1.1 (IntKind.i64.wrap (x40 - 1)).toNat))) (ld_own (i := ⟨.int .u8, 1, 1, (.int .u8 0)⟩) rfl rfl rfl hl52) hl52.c ?_
        obtain ⟨hc53, h⟩ := ifp_some h
        refine vq (.own 9 [x40.toNat] [x40.toNat * 1]) rfl hc53 ?_
        have hs54 : StOk [x40.toNat] (eA64u8 x41) [x40.toNat * 1] 1 (b8 ((rd a1.1 (IntKind.i64.wrap (x40 - 1)).toNat))) (eA64u8 ((vset x41 x40.toNat ((rd a1.1 (IntKind.i64.wrap (x40 - 1)).toNat))))) := (.arr (y := (rd a1.1 (IntKind.i64.wrap (x40 - 1)).toNat)) (vlt x41 hc53) rfl (.nil rfl rfl rfl rfl))
        refine vu .top [(9, (bk (eA64u8 ((vset x41 x40.toNat ((rd a1.1 (IntKind.i64.wrap (x40 - 1)).toNat)))))))] (st_own (i := ⟨.int .u8, 1, 1, (.int .u8 0)⟩) rfl rfl (fun _ => rfl) rfl hs54) (hs54.c rfl) rfl (a_nil (b_norm (a_next (σ' := ⟨[(0, (i6 a0)), (4, (ow 4)), (5, (ow 5)), (6, (ow 6)), (7, (i6 r2)), (8, (i6 x7)), (9, (ow 9)), (10, (i6 x40))], [(4, (bk (eA64u8 a1))), (5, (bk (eA64u8 a2))), (6, (bk (eA64u8 ((vrep 64 (0 : Int)))))), (9, (bk (eA64u8 ((vset x41 x40.toNat ((rd a1.1 (IntKind.i64.wrap (x40 - 1)).toNat)))))))]⟩) (by kernel_rfl) (a_region (vp (i6 x40) rfl (vp (i6 (IntKind.i64.wrap (x40 + 1))) rfl (vp (i6 (IntKind.i64.wrap (x40 + 1))) rfl (a_nil ?_))))))))
        cases h
        exact a_again (by kernel_rfl) hX49
  · have h := ite_t hb4 h
    refine a_cond_t rfl (sr (vq (eA64u8 ((vrep 64 (0 : Int)))) rfl ⟨⟨_, rfl, rfl⟩, all_nil⟩ (vs (eA64u8 ((vrep 64 (0 : Int)))) rfl rfl (fun _ => rfl) rfl rfl rfl rfl rfl rfl (nx _ rfl (a_ret (t_ret ?_))))))
    have hl255 : LdOk [] (eA64u8 ((vrep 64 (0 : Int)))) [] 64 true (eA64u8 ((vrep 64 (0 : Int)))) := (.nil rfl rfl rfl)
    refine ⟨.inr rfl, ?_⟩
    rw [Try.results150]
    cases h
    exact ⟨_, _, _, _, _, ld_own (i := ⟨.arr 64 5, 64, 64, (eA64u8 (vrep 64 (0 : Int)))⟩) rfl rfl rfl hl255, hl255.c, .inl ⟨rfl, .inl rfl⟩, rfl, rfl⟩
def spec_l01MulMod_c : ACode := (.seq (.region 0 [q 5 (.box 24 (t 1)), q 6 (.box 24 (t 2)), q 7 (.box 24 (t 3)), q 8 (.alloc 24)] false) (.seq (.region 1 [q 11 (.build 24 []), q 9 (.alloc 24), ⟨none, .store 24 (t 9) (t 11), none, []⟩] false) (.seq (.seq (.region 2 [q 12 (.load 24 (t 6)), q 13 (.call 0 (.func 81) [(t 12)]), q 10 (.asg 0 (t 13) 2)] false) (.block 0 (.loop (.seq (.seq (.region 3 [q 14 (.mov (t 10)), q 15 (.bin .geq 2 (t 14) (.const (.int .i64 0)))] false) (.cond (t 15) .skip (.exit 0))) (.seq (.block 1 (.seq (.region 5 [q 18 (.mov (t 0)), q 19 (.load 24 (t 9)), q 20 (.load 24 (t 7)), q 21 (.call 0 (.func 150) [(t 18), (t 19), (t 20)]), ⟨none, .store 24 (t 9) (t 21), none, []⟩] false) (.region 6 [q 22 (.mov (t 0)), q 23 (.mov (t 0)), q 24 (.load 24 (t 9)), q 25 (.load 24 (t 5)), q 26 (.mov (t 10)), ⟨some 27, .indexAddr 24 (t 6) (t 26), none, [4]⟩, ⟨some 28, .load 5 (t 27), none, [5]⟩, ⟨some 29, .conv 5 2 (t 28), none, [6]⟩, ⟨some 30, .call 0 (.func 99) [(t 23), (t 24), (t 25), (t 29)], none, [1, 2, 3, 7]⟩, q 31 (.load 24 (t 7)), ⟨some 32, .call 0 (.func 95) [(t 22), (t 30), (t 31)], none, [0, 8, 9, 8]⟩, ⟨none, .store 24 (t 9) (t 32), none, [10, 10, 0, 1, 2, 3, 4, 5, 6, 7, 8, 9, 10]⟩] true))) (.region 4 [q 16 (.mov (t 10)), q 17 (.bin .sub 2 (t 16) (.const (.int .i64 1))), q 10 (.asg 0 (t 17) 2)] false)))))) (.seq (.region 7 [q 33 (.load 24 (t 9)), ⟨none, .store 24 (t 8) (t 33), none, []⟩] false) .ret))))
def spec_l01MulMod_L : Live := [(0, [0, 1, 2, 3]), (1, [0, 5, 6, 7, 8]), (2, [0, 5, 6, 7, 8, 9]), (3, [0, 5, 6, 7, 8, 9, 10]), (4, [0, 5, 6, 7, 8, 9, 10]), (5, [0, 5, 6, 7, 8, 9, 10]), (6, [0, 5, 6, 7, 8, 9, 10]), (7, [8, 9]), (100015, [0, 5, 6, 7, 8, 9, 10, 15])]
noncomputable def spec_l01MulMod_l1 (a0 : Int) (a3 : (Vec Int 64)) (a1 : (Vec Int 64)) (a2 : (Vec Int 64)) (x122 : Int) (x123 : (Vec Int 64)) : Option ((Int × (Vec Int 64)) ⊕ (Vec Int 64)) :=
  (if (decide (x122 ≥ 0)) then (Option.bind (spec_l01Up a0 x123 a3) fun r156 => (ifp (0 ≤ x122 ∧ x122 < ((64 : Nat) : Int)) ((Option.bind (spec_l01Add a0 r156 a1 (IntKind.i64.wrap (rd a2.1 x122.toNat))) fun r173 => (Option.bind (spec_l01Mod a0 r173 a3) fun r176 => (some (.inl ((IntKind.i64.wrap (x122 - 1), r176))))))))) else (some (.inr x123)))
noncomputable def spec_l01MulMod (a0 : Int) (a1 : (Vec Int 64)) (a2 : (Vec Int 64)) (a3 : (Vec Int 64)) : Option (Vec Int 64) :=
  (Option.bind (α := (Vec Int 64)) ((Option.bind (spec_l01Deg a2) fun r94 => (loopM (fun s : (Int × (Vec Int 64)) => spec_l01MulMod_l1 a0 a3 a1 a2 s.1 s.2) (r94, (vrep 64 (0 : Int)))))) fun x89 => (some x89))
theorem spec_l01MulMod_ok (a0 : Int) (a1 : (Vec Int 64)) (a2 : (Vec Int 64)) (a3 : (Vec Int 64)) (r : (Vec Int 64)) (h : spec_l01MulMod a0 a1 a2 a3 = some r) : Den Try.prog 132 [(i6 a0), (eA64u8 a1), (eA64u8 a2), (eA64u8 a3)] { r := (eA64u8 r) } := by
  refine den_of (rs := [(eA64u8 r)]) (ac := spec_l01MulMod_c) (L := spec_l01MulMod_L) (n := 34) (m := []) (c := Try.f132.body.getD .skip) good Try.func132 (by kernel_rfl) (by kernel_rfl) Try.ntmps132 rfl rfl (by kernel_rfl) rfl rfl ?_
  refine a_st (σ' := ⟨[(0, (i6 a0)), (1, (eA64u8 a1)), (2, (eA64u8 a2)), (3, (eA64u8 a3))], []⟩) (by kernel_rfl) ?_
  unfold spec_l01MulMod_c
  refine sr (vo 1500 (eA64u8 a1) rfl rfl (vo 1600 (eA64u8 a2) rfl rfl (vo 1700 (eA64u8 a3) rfl rfl (vo 1800 (eA64u8 ((vrep 64 (0 : Int)))) rfl rfl (nx ⟨[(0, (i6 a0)), (5, (ow 5)), (6, (ow 6)), (7, (ow 7)), (8, (ow 8))], [(5, (bk (eA64u8 a1))), (6, (bk (eA64u8 a2))), (7, (bk (eA64u8 a3))), (8, (bk (eA64u8 ((vrep 64 (0 : Int))))))]⟩ (by kernel_rfl) (sr (vq (eA64u8 ((vrep 64 (0 : Int)))) rfl ⟨⟨_, rfl, rfl⟩, all_nil⟩ (vo 1900 (eA64u8 ((vrep 64 (0 : Int)))) rfl rfl (vs (eA64u8 ((vrep 64 (0 : Int)))) rfl rfl (fun _ => rfl) rfl rfl rfl rfl rfl rfl ?_)))))))))
  refine nx ⟨[(0, (i6 a0)), (5, (ow 5)), (6, (ow 6)), (7, (ow 7)), (8, (ow 8)), (9, (ow 9))], [(5, (bk (eA64u8 a1))), (6, (bk (eA64u8 a2))), (7, (bk (eA64u8 a3))), (8, (bk (eA64u8 ((vrep 64 (0 : Int)))))), (9, (bk (eA64u8 ((vrep 64 (0 : Int))))))]⟩ (by kernel_rfl) ?_
  obtain ⟨y90, hy91, hk92⟩ := bind_some h
  clear h
  refine a_join (emb := fun (s : (Vec Int 64)) => ⟨[(8, (ow 8)), (9, (ow 9))], [(8, (bk (eA64u8 ((vrep 64 (0 : Int)))))), (9, (bk (eA64u8 s)))]⟩) (pre := fun s => s = y90) ?_ ?_
  · rintro x89 rfl
    have h := hk92
    refine a_st (σ' := ⟨[(8, (ow 8)), (9, (ow 9))], [(8, (bk (eA64u8 ((vrep 64 (0 : Int)))))), (9, (bk (eA64u8 x89)))]⟩) (by kernel_rfl) (sr (vl (eA64u8 x89) rfl rfl rfl rfl rfl rfl (vs (eA64u8 x89) rfl rfl (fun _ => rfl) rfl rfl rfl rfl rfl rfl (nx _ rfl (a_ret ?_)))))
    have hl182 : LdOk [] (eA64u8 x89) [] 64 true (eA64u8 x89) := (.nil rfl rfl rfl)
    refine ⟨.inr rfl, ?_⟩
    rw [Try.results132]
    cases h
    exact ⟨_, _, _, _, _, ld_own (i := ⟨.arr 64 5, 64, 64, (eA64u8 (vrep 64 (0 : Int)))⟩) rfl rfl rfl hl182, hl182.c, .inl ⟨rfl, .inl rfl⟩, rfl, rfl⟩
  · have h := hy91
    refine sr (vl (eA64u8 a2) rfl rfl rfl rfl rfl rfl ?_)
    obtain ⟨r94, hr95, h⟩ := bind_some h
    refine a_call (args := [(eA64u8 a2)]) (u := []) (r := (i6 r94)) rfl rfl (spec_l01Deg_ok a2 r94 hr95) rfl (vp (i6 r94) rfl (nx ⟨[(0, (i6 a0)), (5, (ow 5)), (6, (ow 6)), (7, (ow 7)), (8, (ow 8)), (9, (ow 9)), (10, (i6 r94))], [(5, (bk (eA64u8 a1))), (6, (bk (eA64u8 a2))), (7, (bk (eA64u8 a3))), (8, (bk (eA64u8 ((vrep 64 (0 : Int)))))), (9, (bk (eA64u8 ((vrep 64 (0 : Int))))))]⟩ (by kernel_rfl) (a_block ?_)))
    refine a_loop (emb := fun (s : (Int × (Vec Int 64))) => ⟨[(0, (i6 a0)), (5, (ow 5)), (6, (ow 6)), (7, (ow 7)), (8, (ow 8)), (9, (ow 9)), (10, (i6 s.1))], [(5, (bk (eA64u8 a1))), (6, (bk (eA64u8 a2))), (7, (bk (eA64u8 a3))), (8, (bk (eA64u8 ((vrep 64 (0 : Int)))))), (9, (bk (eA64u8 s.2)))]⟩) (body := (fun s : (Int × (Vec Int 64)) => spec_l01MulMod_l1 a0 a3 a1 a2 s.1 s.2)) (G := fun q => some q = some y90) h rfl ?_ (by kernel_rfl)
    rintro X150 ⟨x122, x123⟩ x151 h hX152
    have h : spec_l01MulMod_l1 a0 a3 a1 a2 x122 x123 = some x151 := h
    refine a_st (σ' := ⟨[(0, (i6 a0)), (5, (ow 5)), (6, (ow 6)), (7, (ow 7)), (8, (ow 8)), (9, (ow 9)), (10, (i6 x122))], [(5, (bk (eA64u8 a1))), (6, (bk (eA64u8 a2))), (7, (bk (eA64u8 a3))), (8, (bk (eA64u8 ((vrep 64 (0 : Int)))))), (9, (bk (eA64u8 x123)))]⟩) (by kernel_rfl) (a_seq (sr (vp (i6 x122) rfl (vp (.bool ((decide (x122 ≥ 0)))) rfl (nx ⟨[(0, (i6 a0)), (5, (ow 5)), (6, (ow 6)), (7, (ow 7)), (8, (ow 8)), (9, (ow 9)), (10, (i6 x122)), (15, (.bool ((decide (x122 ≥ 0)))))], [(5, (bk (eA64u8 a1))), (6, (bk (eA64u8 a2))), (7, (bk (eA64u8 a3))), (8, (bk (eA64u8 ((vrep 64 (0 : Int)))))), (9, (bk (eA64u8 x123)))]⟩ (by kernel_rfl) ?_)))))
    cases hb153 : (decide (x122 ≥ 0))
    · have h := ite_f hb153 h
      refine a_cond_f rfl (a_exit (t_exit ?_))
      cases h
      have h := hX152
      refine t_exit (b_exit ?_)
      exact j_leaf x123 (Option.some.inj h) (by kernel_rfl)
    · have h := ite_t hb153 h
      refine a_cond_t rfl (a_skip (a_next (σ' := ⟨[(0, (i6 a0)), (5, (ow 5)), (6, (ow 6)), (7, (ow 7)), (8, (ow 8)), (9, (ow 9)), (10, (i6 x122))], [(5, (bk (eA64u8 a1))), (6, (bk (eA64u8 a2))), (7, (bk (eA64u8 a3))), (8, (bk (eA64u8 ((vrep 64 (0 : Int)))))), (9, (bk (eA64u8 x123)))]⟩) (by kernel_rfl) (a_seq (a_block (sr (vp (i6 a0) rfl (vl (eA64u8 x123) rfl rfl rfl rfl rfl rfl (vl (eA64u8 a3) rfl rfl rfl rfl rfl rfl ?_))))))))
      obtain ⟨r156, hr157, h⟩ := bind_some h
      refine a_call (args := [(i6 a0), (eA64u8 x123), (eA64u8 a3)]) (u := []) (r := (eA64u8 r156)) rfl rfl (spec_l01Up_ok a0 x123 a3 r156 hr157) rfl (vs (eA64u8 r156) rfl rfl (fun _ => rfl) rfl rfl rfl rfl rfl rfl (nx ⟨[(0, (i6 a0)), (5, (ow 5)), (6, (ow 6)), (7, (ow 7)), (8, (ow 8)), (9, (ow 9)), (10, (i6 x122))], [(5, (bk (eA64u8 a1))), (6, (bk (eA64u8 a2))), (7, (bk (eA64u8 a3))), (8, (bk (eA64u8 ((vrep 64 (0 : Int)))))), (9, (bk (eA64u8 r156)))]⟩ (by kernel_rfl) (a_draw [⟨[], [], [], []⟩, ⟨[], [], [], []⟩, ⟨[9], [], [], []⟩, ⟨[5], [], [], []⟩, ⟨[], [], [], []⟩, ⟨[6], [], [6], [4]⟩, ⟨[6], [], [], [4, 5]⟩, ⟨[], [], [], [4, 5, 6]⟩, ⟨[], [], [], [1, 2, 3, 4, 5, 6, 7]⟩, ⟨[7], [], [], []⟩, ⟨[], [], [], [0, 1, 2, 3, 4, 5, 6, 7, 8, 9]⟩, ⟨[9], [9], [], [0, 1, 2, 3, 4, 5, 6, 7, 8, 9, 10]⟩] (by kernel_rfl) (dp (i6 a0) rfl (by kernel_rfl) (dp (i6 a0) rfl (by kernel_rfl) (d_cons (vl (eA64u8 r156) rfl rfl rfl rfl rfl rfl (d_next (by kernel_rfl) (d_cons ?_)))))))))
      refine vl (eA64u8 a1) rfl rfl rfl rfl rfl rfl (d_next (by kernel_rfl) (dp (i6 x122) rfl (by kernel_rfl) (d_cons ?_)))
      obtain ⟨hc171, h⟩ := ifp_some h
      refine vq (.own 6 [x122.toNat] [x122.toNat * 1]) rfl hc171 (d_next (by kernel_rfl) (d_cons ?_))
      have hl172 : LdOk [x122.toNat] (eA64u8 a2) [x122.toNat * 1] 1 false (b8 (rd a2.1 x122.toNat)) := (.arr (vlt a2 hc171) rfl (.nil rfl rfl rfl))
      refine vq (b8 (rd a2.1 x122.toNat)) (ld_own (i := ⟨.int .u8, 1, 1, (.int .u8 0)⟩) rfl rfl rfl hl172) hl172.c (d_next (by kernel_rfl) (dp (i6 (IntKind.i64.wrap (rd a2.1 x122.toNat))) rfl (by kernel_rfl) (d_cons ?_)))
      obtain ⟨r173, hr174, h⟩ := bind_some h
      refine a_call (args := [(i6 a0), (eA64u8 r156), (eA64u8 a1), (i6 (IntKind.i64.wrap (rd a2.1 x122.toNat)))]) (u := []) (r := (eA64u8 r173)) rfl rfl (spec_l01Add_ok a0 r156 a1 (IntKind.i64.wrap (rd a2.1 x122.toNat)) r173 hr174) rfl (d_next (by kernel_rfl) (d_cons (vl (eA64u8 a3) rfl rfl rfl rfl rfl rfl (d_next (by kernel_rfl) (d_cons ?_)))))
      obtain ⟨r176, hr177, h⟩ := bind_some h
      refine a_call (args := [(i6 a0), (eA64u8 r173), (eA64u8 a3)]) (u := []) (r := (eA64u8 r176)) rfl rfl (spec_l01Mod_ok a0 r173 a3 r176 hr177) rfl (d_next (by kernel_rfl) (d_cons (vs (eA64u8 r176) rfl rfl (fun _ => rfl) rfl rfl rfl rfl rfl rfl (d_next (by kernel_rfl) (d_nil (b_norm (a_next (σ' := ⟨[(0, (i6 a0)), (5, (ow 5)), (6, (ow 6)), (7, (ow 7)), (8, (ow 8)), (9, (ow 9)), (10, (i6 x122))], [(5, (bk (eA64u8 a1))), (6, (bk (eA64u8 a2))), (7, (bk (eA64u8 a3))), (8, (bk (eA64u8 ((vrep 64 (0 : Int)))))), (9, (bk (eA64u8 r176)))]⟩) (by kernel_rfl) (a_region (vp (i6 x122) rfl ?_)))))))))
      refine vp (i6 (IntKind.i64.wrap (x122 - 1))) rfl (vp (i6 (IntKind.i64.wrap (x122 - 1))) rfl (a_nil ?_))
      cases h
      exact a_again (by kernel_rfl) hX152
def spec_l01PowMod_c : ACode := (.seq (.region 0 [q 5 (.box 24 (t 1)), q 7 (.box 24 (t 3)), q 8 (.alloc 24)] false) (.seq (.region 1 [q 11 (.mov (t 0)), q 12 (.call 0 (.func 123) []), q 13 (.load 24 (t 7)), ⟨some 14, .call 0 (.func 95) [(t 11), (t 12), (t 13)], none, [0, 1, 2, 1]⟩, q 15 (.mov (t 0)), q 16 (.load 24 (t 5)), q 17 (.load 24 (t 7)), ⟨some 18, .call 0 (.func 95) [(t 15), (t 16), (t 17)], none, [4, 5, 6, 3]⟩, q 9 (.alloc 24), q 10 (.alloc 24), ⟨none, .store 24 (t 9) (t 14), none, [8, 3, 7, 0, 1, 2, 3, 8, 9]⟩, ⟨none, .store 24 (t 10) (t 18), none, [9, 7, 10, 0, 1, 2, 3, 4, 5, 6, 7, 8, 9, 10]⟩] true) (.seq (.block 0 (.loop (.seq (.seq (.region 2 [q 19 (.mov (t 2)), q 20 (.bin .gtr 2 (t 19) (.const (.int .i64 0)))] false) (.cond (t 20) .skip (.exit 0))) (.seq (.block 1 (.seq (.seq (.region 4 [q 23 (.mov (t 2)), q 24 (.bin .rem 2 (t 23) (.const (.int .i64 2))), q 25 (.bin .eql 2 (t 24) (.const (.int .i64 1)))] false) (.cond (t 25) (.region 5 [q 26 (.mov (t 0)), q 27 (.load 24 (t 9)), q 28 (.load 24 (t 10)), q 29 (.load 24 (t 7)), q 30 (.call 0 (.func 132) [(t 26), (t 27), (t 28), (t 29)]), ⟨none, .store 24 (t 9) (t 30), none, []⟩] false) .skip)) (.region 6 [q 31 (.mov (t 0)), q 32 (.load 24 (t 10)), q 33 (.load 24 (t 10)), q 34 (.load 24 (t 7)), q 35 (.call 0 (.func 132) [(t 31), (t 32), (t 33), (t 34)]), ⟨none, .store 24 (t 10) (t 35), none, []⟩] false))) (.region 3 [q 21 (.mov (t 2)), q 22 (.bin .quo 2 (t 21) (.const (.int .i64 2))), q 2 (.asg 0 (t 22) 2)] false))))) (.seq (.region 7 [q 36 (.load 24 (t 9)), ⟨none, .store 24 (t 8) (t 36), none, []⟩] false) .ret))))
def spec_l01PowMod_L : Live := [(0, [0, 1, 2, 3]), (1, [0, 2, 5, 7, 8]), (2, [0, 2, 7, 8, 9, 10]), (3, [0, 2, 7, 8, 9, 10]), (4, [0, 2, 7, 8, 9, 10]), (5, [0, 2, 7, 8, 9, 10]), (6, [0, 2, 7, 8, 9, 10]), (7, [8, 9]), (100020, [0, 2, 7, 8, 9, 10, 20]), (100025, [0, 2, 7, 8, 9, 10, 25])]
noncomputable def spec_l01PowMod_l1 (a0 : Int) (a3 : (Vec Int 64)) (x134 : Int) (x135 : (Vec Int 64)) (x136 : (Vec Int 64)) : Option ((Int × (Vec Int 64) × (Vec Int 64)) ⊕ (Vec Int 64)) :=
  (if (decide (x134 > 0)) then (Option.bind (α := (Vec Int 64)) ((if ((Int.tmod x134 2) == 1) then (Option.bind (spec_l01MulMod a0 x135 x136 a3) fun r181 => (some r181)) else (some x135))) fun x173 => (Option.bind (spec_l01MulMod a0 x136 x136 a3) fun r187 => (some (.inl ((IntKind.i64.wrap (Int.tdiv x134 2), x173, r187)))))) else (some (.inr x135)))
noncomputable def spec_l01PowMod (a0 : Int) (a1 : (Vec Int 64)) (a2 : Int) (a3 : (Vec Int 64)) : Option (Vec Int 64) :=
  (Option.bind (spec_l01One) fun r12 => (Option.bind (spec_l01Mod a0 r12 a3) fun r15 => (Option.bind (spec_l01Mod a0 a1 a3) fun r19 => (Option.bind (α := (Vec Int 64)) ((loopM (fun s : (Int × (Vec Int 64) × (Vec Int 64)) => spec_l01PowMod_l1 a0 a3 s.1 s.2.1 s.2.2) (a2, r15, r19))) fun x105 => (some x105)))))
theorem spec_l01PowMod_ok (a0 : Int) (a1 : (Vec Int 64)) (a2 : Int) (a3 : (Vec Int 64)) (r : (Vec Int 64)) (h : spec_l01PowMod a0 a1 a2 a3 = some r) : Den Try.prog 97 [(i6 a0), (eA64u8 a1), (i6 a2), (eA64u8 a3)] { r := (eA64u8 r) } := by
  refine den_of (rs := [(eA64u8 r)]) (ac := spec_l01PowMod_c) (L := spec_l01PowMod_L) (n := 37) (m := []) (c := Try.f97.body.getD .skip) good Try.func97 (by kernel_rfl) (by kernel_rfl) Try.ntmps97 rfl rfl (by kernel_rfl) rfl rfl ?_
  refine a_st (σ' := ⟨[(0, (i6 a0)), (1, (eA64u8 a1)), (2, (i6 a2)), (3, (eA64u8 a3))], []⟩) (by kernel_rfl) ?_
  unfold spec_l01PowMod_c
  refine sr (vo 1500 (eA64u8 a1) rfl rfl (vo 1700 (eA64u8 a3) rfl rfl (vo 1800 (eA64u8 ((vrep 64 (0 : Int)))) rfl rfl (nx ⟨[(0, (i6 a0)), (2, (i6 a2)), (5, (ow 5)), (7, (ow 7)), (8, (ow 8))], [(5, (bk (eA64u8 a1))), (7, (bk (eA64u8 a3))), (8, (bk (eA64u8 ((vrep 64 (0 : Int))))))]⟩ (by kernel_rfl) (a_seq (a_draw [⟨[], [], [], []⟩, ⟨[], [], [], []⟩, ⟨[7], [], [], []⟩, ⟨[], [], [], [0, 1, 2]⟩, ⟨[], [], [], []⟩, ⟨[5], [], [], []⟩, ⟨[7], [], [], []⟩, ⟨[], [], [], [0, 1, 2, 3, 4, 5, 6]⟩, ⟨[1900], [1900], [1900], []⟩, ⟨[2000], [2000], [2000], []⟩, ⟨[1900], [1900], [], [0, 1, 2, 3, 4, 5, 6, 7, 8, 9]⟩, ⟨[2000], [2000], [], [0, 1, 2, 3, 4, 5, 6, 7, 8, 9, 10]⟩] (by kernel_rfl) (dp (i6 a0) rfl (by kernel_rfl) (d_cons ?_))))))))
  obtain ⟨r12, hr13, h⟩ := bind_some h
  refine a_call (args := []) (u := []) (r := (eA64u8 r12)) rfl rfl (spec_l01One_ok r12 hr13) rfl (d_next (by kernel_rfl) (d_cons (vl (eA64u8 a3) rfl rfl rfl rfl rfl rfl (d_next (by kernel_rfl) (d_cons ?_)))))
  obtain ⟨r15, hr16, h⟩ := bind_some h
  refine a_call (args := [(i6 a0), (eA64u8 r12), (eA64u8 a3)]) (u := []) (r := (eA64u8 r15)) rfl rfl (spec_l01Mod_ok a0 r12 a3 r15 hr16) rfl (d_next (by kernel_rfl) (dp (i6 a0) rfl (by kernel_rfl) (d_cons (vl (eA64u8 a1) rfl rfl rfl rfl rfl rfl (d_next (by kernel_rfl) (d_cons (vl (eA64u8 a3) rfl rfl rfl rfl rfl rfl (d_next (by kernel_rfl) (d_cons ?_)))))))))
  obtain ⟨r19, hr20, h⟩ := bind_some h
  refine a_call (args := [(i6 a0), (eA64u8 a1), (eA64u8 a3)]) (u := []) (r := (eA64u8 r19)) rfl rfl (spec_l01Mod_ok a0 a1 a3 r19 hr20) rfl (d_next (by kernel_rfl) (d_cons (vo 1900 (eA64u8 ((vrep 64 (0 : Int)))) rfl rfl (d_next (by kernel_rfl) (d_cons (vo 2000 (eA64u8 ((vrep 64 (0 : Int)))) rfl rfl (d_next (by kernel_rfl) (d_cons (vs (eA64u8 r15) rfl rfl (fun _ => rfl) rfl rfl rfl rfl rfl rfl ?_)))))))))
  refine d_next (by kernel_rfl) (d_cons (vs (eA64u8 r19) rfl rfl (fun _ => rfl) rfl rfl rfl rfl rfl rfl (d_next (by kernel_rfl) (d_nil (a_next (σ' := ⟨[(0, (i6 a0)), (2, (i6 a2)), (7, (ow 7)), (8, (ow 8)), (9, (ow 9)), (10, (ow 10))], [(7, (bk (eA64u8 a3))), (8, (bk (eA64u8 ((vrep 64 (0 : Int)))))), (9, (bk (eA64u8 r15))), (10, (bk (eA64u8 r19)))]⟩) (by kernel_rfl) ?_)))))
  obtain ⟨y106, hy107, hk108⟩ := bind_some h
  clear h
  refine a_join (emb := fun (s : (Vec Int 64)) => ⟨[(8, (ow 8)), (9, (ow 9))], [(8, (bk (eA64u8 ((vrep 64 (0 : Int)))))), (9, (bk (eA64u8 s)))]⟩) (pre := fun s => s = y106) ?_ ?_
  · rintro x105 rfl
    have h := hk108
    refine a_st (σ' := ⟨[(8, (ow 8)), (9, (ow 9))], [(8, (bk (eA64u8 ((vrep 64 (0 : Int)))))), (9, (bk (eA64u8 x105)))]⟩) (by kernel_rfl) (sr (vl (eA64u8 x105) rfl rfl rfl rfl rfl rfl (vs (eA64u8 x105) rfl rfl (fun _ => rfl) rfl rfl rfl rfl rfl rfl (nx _ rfl (a_ret ?_)))))
    have hl193 : LdOk [] (eA64u8 x105) [] 64 true (eA64u8 x105) := (.nil rfl rfl rfl)
    refine ⟨.inr rfl, ?_⟩
    rw [Try.results97]
    cases h
    exact ⟨_, _, _, _, _, ld_own (i := ⟨.arr 64 5, 64, 64, (eA64u8 (vrep 64 (0 : Int)))⟩) rfl rfl rfl hl193, hl193.c, .inl ⟨rfl, .inl rfl⟩, rfl, rfl⟩
  · have h := hy107
    refine a_block ?_
    refine a_loop (emb := fun (s : (Int × (Vec Int 64) × (Vec Int 64))) => ⟨[(0, (i6 a0)), (2, (i6 s.1)), (7, (ow 7)), (8, (ow 8)), (9, (ow 9)), (10, (ow 10))], [(7, (bk (eA64u8 a3))), (8, (bk (eA64u8 ((vrep 64 (0 : Int)))))), (9, (bk (eA64u8 s.2.1))), (10, (bk (eA64u8 s.2.2)))]⟩) (body := (fun s : (Int × (Vec Int 64) × (Vec Int 64)) => spec_l01PowMod_l1 a0 a3 s.1 s.2.1 s.2.2)) (G := fun q => some q = some y106) h rfl ?_ (by kernel_rfl)
    rintro X162 ⟨x134, x135, x136⟩ x163 h hX164
    have h : spec_l01PowMod_l1 a0 a3 x134 x135 x136 = some x163 := h
    refine a_st (σ' := ⟨[(0, (i6 a0)), (2, (i6 x134)), (7, (ow 7)), (8, (ow 8)), (9, (ow 9)), (10, (ow 10))], [(7, (bk (eA64u8 a3))), (8, (bk (eA64u8 ((vrep 64 (0 : Int)))))), (9, (bk (eA64u8 x135))), (10, (bk (eA64u8 x136)))]⟩) (by kernel_rfl) (a_seq (sr (vp (i6 x134) rfl (vp (.bool ((decide (x134 > 0)))) rfl (nx ⟨[(0, (i6 a0)), (2, (i6 x134)), (7, (ow 7)), (8, (ow 8)), (9, (ow 9)), (10, (ow 10)), (20, (.bool ((decide (x134 > 0)))))], [(7, (bk (eA64u8 a3))), (8, (bk (eA64u8 ((vrep 64 (0 : Int)))))), (9, (bk (eA64u8 x135))), (10, (bk (eA64u8 x136)))]⟩ (by kernel_rfl) ?_)))))
    cases hb165 : (decide (x134 > 0))
    · have h := ite_f hb165 h
      refine a_cond_f rfl (a_exit (t_exit ?_))
      cases h
      have h := hX164
      refine t_exit (b_exit ?_)
      exact j_leaf x135 (Option.some.inj h) (by kernel_rfl)
    · have h := ite_t hb165 h
      refine a_cond_t rfl (a_skip (a_next (σ' := ⟨[(0, (i6 a0)), (2, (i6 x134)), (7, (ow 7)), (8, (ow 8)), (9, (ow 9)), (10, (ow 10))], [(7, (bk (eA64u8 a3))), (8, (bk (eA64u8 ((vrep 64 (0 : Int)))))), (9, (bk (eA64u8 x135))), (10, (bk (eA64u8 x136)))]⟩) (by kernel_rfl) (a_seq (a_block ?_))))
      obtain ⟨y174, hy175, hk176⟩ := bind_some h
      clear h
      refine a_join (emb := fun (s : (Vec Int 64)) => ⟨[(0, (i6 a0)), (2, (i6 x134)), (7, (ow 7)), (8, (ow 8)), (9, (ow 9)), (10, (ow 10))], [(7, (bk (eA64u8 a3))), (8, (bk (eA64u8 ((vrep 64 (0 : Int)))))), (9, (bk (eA64u8 s))), (10, (bk (eA64u8 x136)))]⟩) (pre := fun s => s = y174) ?_ ?_
      · rintro x173 rfl
        have h := hk176
        refine a_st (σ' := ⟨[(0, (i6 a0)), (2, (i6 x134)), (7, (ow 7)), (8, (ow 8)), (9, (ow 9)), (10, (ow 10))], [(7, (bk (eA64u8 a3))), (8, (bk (eA64u8 ((vrep 64 (0 : Int)))))), (9, (bk (eA64u8 x173))), (10, (bk (eA64u8 x136)))]⟩) (by kernel_rfl) (a_region (vp (i6 a0) rfl (vl (eA64u8 x136) rfl rfl rfl rfl rfl rfl (vl (eA64u8 x136) rfl rfl rfl rfl rfl rfl (vl (eA64u8 a3) rfl rfl rfl rfl rfl rfl ?_)))))
        obtain ⟨r187, hr188, h⟩ := bind_some h
        refine a_call (args := [(i6 a0), (eA64u8 x136), (eA64u8 x136), (eA64u8 a3)]) (u := []) (r := (eA64u8 r187)) rfl rfl (spec_l01MulMod_ok a0 x136 x136 a3 r187 hr188) rfl (vs (eA64u8 r187) rfl rfl (fun _ => rfl) rfl rfl rfl rfl rfl rfl (a_nil (b_norm (a_next (σ' := ⟨[(0, (i6 a0)), (2, (i6 x134)), (7, (ow 7)), (8, (ow 8)), (9, (ow 9)), (10, (ow 10))], [(7, (bk (eA64u8 a3))), (8, (bk (eA64u8 ((vrep 64 (0 : Int)))))), (9, (bk (eA64u8 x173))), (10, (bk (eA64u8 r187)))]⟩) (by kernel_rfl) (a_region (vp (i6 x134) rfl (vq (i6 (IntKind.i64.wrap (Int.tdiv x134 2))) rfl (by decide) (vp (i6 (IntKind.i64.wrap (Int.tdiv x134 2))) rfl (a_nil ?_)))))))))
        cases h
        exact a_again (by kernel_rfl) hX164
      · have h := hy175
        refine sr (vp (i6 x134) rfl (vq (i6 (Int.tmod x134 2)) rfl (by decide) (vp (.bool (((Int.tmod x134 2) == 1))) rfl (nx ⟨[(0, (i6 a0)), (2, (i6 x134)), (7, (ow 7)), (8, (ow 8)), (9, (ow 9)), (10, (ow 10)), (25, (.bool (((Int.tmod x134 2) == 1))))], [(7, (bk (eA64u8 a3))), (8, (bk (eA64u8 ((vrep 64 (0 : Int)))))), (9, (bk (eA64u8 x135))), (10, (bk (eA64u8 x136)))]⟩ (by kernel_rfl) ?_))))
        cases hb177 : ((Int.tmod x134 2) == 1)
        · have h := ite_f hb177 h
          refine a_cond_f rfl (a_skip ?_)
          exact j_leaf x135 (Option.some.inj h) (by kernel_rfl)
        · have h := ite_t hb177 h
          refine a_cond_t rfl (a_region (vp (i6 a0) rfl (vl (eA64u8 x135) rfl rfl rfl rfl rfl rfl (vl (eA64u8 x136) rfl rfl rfl rfl rfl rfl (vl (eA64u8 a3) rfl rfl rfl rfl rfl rfl ?_)))))
          obtain ⟨r181, hr182, h⟩ := bind_some h
          refine a_call (args := [(i6 a0), (eA64u8 x135), (eA64u8 x136), (eA64u8 a3)]) (u := []) (r := (eA64u8 r181)) rfl rfl (spec_l01MulMod_ok a0 x135 x136 a3 r181 hr182) rfl (vs (eA64u8 r181) rfl rfl (fun _ => rfl) rfl rfl rfl rfl rfl rfl (a_nil ?_))
          exact j_leaf r181 (Option.some.inj h) (by kernel_rfl)
def spec_l01T_c : ACode := (.seq (.region 0 [q 0 (.alloc 24)] false) (.seq (.region 1 [q 1 (.build 24 [(0, (.const (.int .u8 0))), (1, (.const (.int .u8 1)))]), ⟨none, .store 24 (t 0) (t 1), none, []⟩] false) .ret))
def spec_l01T_L : Live := [(0, []), (1, [0])]
noncomputable def spec_l01T  : Option (Vec Int 64) :=
  (some ((vset (vset (vrep 64 (0 : Int)) 0 0) 1 1)))
theorem spec_l01T_ok  (r : (Vec Int 64)) (h : spec_l01T = some r) : Den Try.prog 96 [] { r := (eA64u8 r) } := by
  refine den_of (rs := [(eA64u8 r)]) (ac := spec_l01T_c) (L := spec_l01T_L) (n := 2) (m := []) (c := Try.f96.body.getD .skip) good Try.func96 (by kernel_rfl) (by kernel_rfl) Try.ntmps96 rfl rfl (by kernel_rfl) rfl rfl ?_
  refine a_st (σ' := ⟨[], []⟩) (by kernel_rfl) ?_
  unfold spec_l01T_c
  refine sr (vo 1000 (eA64u8 ((vrep 64 (0 : Int)))) rfl rfl (nx ⟨[(0, (ow 0))], [(0, (bk (eA64u8 ((vrep 64 (0 : Int))))))]⟩ (by kernel_rfl) (sr (vq (eA64u8 ((vset (vset (vrep 64 (0 : Int)) 0 0) 1 1))) rfl ⟨⟨_, rfl, rfl⟩, (all_cons ⟨(Nat.le_of_ble_eq_true rfl), rfl⟩ (all_cons ⟨(Nat.le_of_ble_eq_true rfl), rfl⟩ all_nil))⟩ (vs (eA64u8 ((vset (vset (vrep 64 (0 : Int)) 0 0) 1 1))) rfl rfl (fun _ => rfl) rfl rfl rfl rfl rfl rfl (nx _ rfl (a_ret ?_)))))))
  have hl2 : LdOk [] (eA64u8 ((vset (vset (vrep 64 (0 : Int)) 0 0) 1 1))) [] 64 true (eA64u8 ((vset (vset (vrep 64 (0 : Int)) 0 0) 1 1))) := (.nil rfl rfl rfl)
  refine ⟨.inr rfl, ?_⟩
  rw [Try.results96]
  cases h
  exact ⟨_, _, _, _, _, ld_own (i := ⟨.arr 64 5, 64, 64, (eA64u8 (vrep 64 (0 : Int)))⟩) rfl rfl rfl hl2, hl2.c, .inl ⟨rfl, .inl rfl⟩, rfl, rfl⟩
def spec_l01Irreducible_c : ACode := (.seq (.region 0 [q 3 (.box 24 (t 1)), q 4 (.asg 0 (.const (.bool false)) 4)] false) (.seq (.region 1 [q 8 (.load 24 (t 3)), ⟨some 9, .call 0 (.func 81) [(t 8)], none, [0]⟩, q 10 (.mov (t 0)), ⟨some 11, .call 0 (.func 96) [], none, [1]⟩, q 12 (.load 24 (t 3)), ⟨some 13, .call 0 (.func 95) [(t 10), (t 11), (t 12)], none, [2, 3, 4, 3]⟩, q 6 (.alloc 24), ⟨some 5, .asg 0 (t 9) 2, none, [1, 5, 0, 1, 6]⟩, ⟨none, .store 24 (t 6) (t 13), none, [6, 5, 7, 0, 1, 2, 3, 4, 5, 6, 7]⟩] true) (.seq (.seq (.region 2 [q 14 (.mov (t 5)), q 15 (.bin .lss 2 (t 14) (.const (.int .i64 1)))] false) (.cond (t 15) (.seq (.region 3 [q 4 (.asg 0 (.const (.bool false)) 4)] false) .ret) .skip)) (.seq (.seq (.region 4 [q 7 (.asg 0 (.const (.int .i64 1)) 2)] false) (.block 0 (.loop (.seq (.seq (.region 5 [q 16 (.mov (t 7)), q 17 (.bin .mul 2 (.const (.int .i64 2)) (t 16)), q 18 (.mov (t 5)), q 19 (.bin .leq 2 (t 17) (t 18))] false) (.cond (t 19) .skip (.exit 0))) (.seq (.block 1 (.seq (.region 7 [q 22 (.mov (t 0)), q 23 (.load 24 (t 6)), q 24 (.mov (t 0)), q 25 (.load 24 (t 3)), q 26 (.call 0 (.func 97) [(t 22), (t 23), (t 24), (t 25)]), ⟨none, .store 24 (t 6) (t 26), none, []⟩] false) (.seq (.region 8 [q 27 (.mov (t 0)), q 28 (.load 24 (t 3)), q 29 (.mov (t 0)), q 30 (.load 24 (t 6)), q 31 (.call 0 (.func 96) []), ⟨some 32, .call 0 (.func 99) [(t 29), (t 30), (t 31), (.const (.int .i64 (-1)))], none, [2, 3, 4, 4]⟩, ⟨some 33, .call 0 (.func 98) [(t 27), (t 28), (t 32)], none, [0, 1, 5, 5]⟩, ⟨some 34, .call 0 (.func 81) [(t 33)], none, [6, 6]⟩, ⟨some 35, .bin .neq 2 (t 34) (.const (.int .i64 0)), none, [7]⟩] true) (.cond (t 35) (.seq (.region 9 [q 4 (.asg 0 (.const (.bool false)) 4)] false) .ret) .skip)))) (.region 6 [q 20 (.mov (t 7)), q 21 (.bin .add 2 (t 20) (.const (.int .i64 1))), q 7 (.asg 0 (t 21) 2)] false)))))) (.seq (.region 10 [q 4 (.asg 0 (.const (.bool true)) 4)] false) .ret)))))
def spec_l01Irreducible_L : Live := [(0, [0, 1]), (1, [0, 3]), (2, [0, 3, 5, 6]), (3, []), (4, [0, 3, 5, 6]), (5, [0, 3, 5, 6, 7]), (6, [0, 3, 5, 6, 7]), (7, [0, 3, 5, 6, 7]), (8, [0, 3, 5, 6, 7]), (9, []), (10, []), (100015, [0, 3, 5, 6, 15]), (100019, [0, 3, 5, 6, 7, 19]), (100035, [0, 3, 5, 6, 7, 35])]
noncomputable def spec_l01Irreducible_l1 (r11 : Int) (a0 : Int) (a1 : (Vec Int 64)) (x137 : Int) (x138 : (Vec Int 64)) : Option ((Int × (Vec Int 64)) ⊕ (Unit ⊕ Bool)) :=
  (if (decide ((IntKind.i64.wrap (2 * x137)) ≤ r11)) then (Option.bind (spec_l01PowMod a0 x138 a0 a1) fun r172 => (Option.bind (spec_l01T) fun r187 => (Option.bind (spec_l01Add a0 r172 r187 (-1)) fun r189 => (Option.bind (spec_l01Gcd a0 a1 r189) fun r191 => (Option.bind (spec_l01Deg r191) fun r193 => (if (r193 != 0) then (some (.inr (.inr false))) else (some (.inl ((IntKind.i64.wrap (x137 + 1), r172)))))))))) else (some (.inr (((.inl ()))))))
noncomputable def spec_l01Irreducible (a0 : Int) (a1 : (Vec Int 64)) : Option Bool :=
  (Option.bind (spec_l01Deg a1) fun r11 => (Option.bind (spec_l01T) fun r13 => (Option.bind (spec_l01Mod a0 r13 a1) fun r16 => (if (decide (r11 < 1)) then (some false) else (Option.bind (α := (Unit ⊕ Bool)) ((loopM (fun s : (Int × (Vec Int 64)) => spec_l01Irreducible_l1 r11 a0 a1 s.1 s.2) (1, r16))) fun z => match z with | .inl _ => (some true) | .inr r197 => (some r197))))))
theorem spec_l01Irreducible_ok (a0 : Int) (a1 : (Vec Int 64)) (r : Bool) (h : spec_l01Irreducible a0 a1 = some r) : Den Try.prog 49 [(i6 a0), (eA64u8 a1)] { r := (.bool r) } := by
  refine den_of (rs := [(.bool r)]) (ac := spec_l01Irreducible_c) (L := spec_l01Irreducible_L) (n := 36) (m := []) (c := Try.f49.body.getD .skip) good Try.func49 (by kernel_rfl) (by kernel_rfl) Try.ntmps49 rfl rfl (by kernel_rfl) rfl rfl ?_
  refine a_st (σ' := ⟨[(0, (i6 a0)), (1, (eA64u8 a1))], []⟩) (by kernel_rfl) ?_
  unfold spec_l01Irreducible_c
  refine sr (vo 1300 (eA64u8 a1) rfl rfl (vp (.bool false) rfl (nx ⟨[(0, (i6 a0)), (3, (ow 3))], [(3, (bk (eA64u8 a1)))]⟩ (by kernel_rfl) (a_seq (a_draw [⟨[3], [], [], []⟩, ⟨[], [], [], [0]⟩, ⟨[], [], [], []⟩, ⟨[], [], [], [0, 1]⟩, ⟨[3], [], [], []⟩, ⟨[], [], [], [0, 1, 2, 3, 4]⟩, ⟨[1600], [1600], [1600], []⟩, ⟨[], [], [], [0, 1, 2, 3, 4, 5, 6]⟩, ⟨[1600], [1600], [], [0, 1, 2, 3, 4, 5, 6, 7]⟩] (by kernel_rfl) (d_cons (vl (eA64u8 a1) rfl rfl rfl rfl rfl rfl (d_next (by kernel_rfl) (d_cons ?_)))))))))
  obtain ⟨r11, hr12, h⟩ := bind_some h
  refine a_call (args := [(eA64u8 a1)]) (u := []) (r := (i6 r11)) rfl rfl (spec_l01Deg_ok a1 r11 hr12) rfl (d_next (by kernel_rfl) (dp (i6 a0) rfl (by kernel_rfl) (d_cons ?_)))
  obtain ⟨r13, hr14, h⟩ := bind_some h
  refine a_call (args := []) (u := []) (r := (eA64u8 r13)) rfl rfl (spec_l01T_ok r13 hr14) rfl (d_next (by kernel_rfl) (d_cons (vl (eA64u8 a1) rfl rfl rfl rfl rfl rfl (d_next (by kernel_rfl) (d_cons ?_)))))
  obtain ⟨r16, hr17, h⟩ := bind_some h
  refine a_call (args := [(i6 a0), (eA64u8 r13), (eA64u8 a1)]) (u := []) (r := (eA64u8 r16)) rfl rfl (spec_l01Mod_ok a0 r13 a1 r16 hr17) rfl (d_next (by kernel_rfl) (d_cons (vo 1600 (eA64u8 ((vrep 64 (0 : Int)))) rfl rfl (d_next (by kernel_rfl) (dp (i6 r11) rfl (by kernel_rfl) (d_cons (vs (eA64u8 r16) rfl rfl (fun _ => rfl) rfl rfl rfl rfl rfl rfl (d_next (by kernel_rfl) (d_nil ?_)))))))))
  refine a_next (σ' := ⟨[(0, (i6 a0)), (3, (ow 3)), (5, (i6 r11)), (6, (ow 6))], [(3, (bk (eA64u8 a1))), (6, (bk (eA64u8 r16)))]⟩) (by kernel_rfl) (a_seq (sr (vp (i6 r11) rfl (vp (.bool ((decide (r11 < 1)))) rfl (nx ⟨[(0, (i6 a0)), (3, (ow 3)), (5, (i6 r11)), (6, (ow 6)), (15, (.bool ((decide (r11 < 1)))))], [(3, (bk (eA64u8 a1))), (6, (bk (eA64u8 r16)))]⟩ (by kernel_rfl) ?_)))))
  cases hb19 : (decide (r11 < 1))
  · have h := ite_f hb19 h
    refine a_cond_f rfl (a_skip (a_next (σ' := ⟨[(0, (i6 a0)), (3, (ow 3)), (5, (i6 r11)), (6, (ow 6))], [(3, (bk (eA64u8 a1))), (6, (bk (eA64u8 r16)))]⟩) (by kernel_rfl) ?_))
    obtain ⟨y107, hy108, hk109⟩ := bind_some h
    clear h
    refine a_join (emb := fun (s : Unit) => ⟨[], []⟩) (pre := fun s => (.inl s) = y107) ?_ ?_
    · rintro _ rfl
      have h := hk109
      refine a_st (σ' := ⟨[], []⟩) (by kernel_rfl) (sr (vp (.bool true) rfl (nx _ rfl (a_ret ?_))))
      refine ⟨.inr rfl, ?_⟩
      rw [Try.results49]
      cases h
      exact ⟨_, _, _, _, _, rfl, trivial, .inl ⟨rfl, .inl rfl⟩, rfl, rfl⟩
    · have h := hy108
      refine sr (vp (i6 1) rfl (nx ⟨[(0, (i6 a0)), (3, (ow 3)), (5, (i6 r11)), (6, (ow 6)), (7, (i6 1))], [(3, (bk (eA64u8 a1))), (6, (bk (eA64u8 r16)))]⟩ (by kernel_rfl) (a_block ?_)))
      refine a_loop (emb := fun (s : (Int × (Vec Int 64))) => ⟨[(0, (i6 a0)), (3, (ow 3)), (5, (i6 r11)), (6, (ow 6)), (7, (i6 s.1))], [(3, (bk (eA64u8 a1))), (6, (bk (eA64u8 s.2)))]⟩) (body := (fun s : (Int × (Vec Int 64)) => spec_l01Irreducible_l1 r11 a0 a1 s.1 s.2)) (G := fun q => some q = some y107) h rfl ?_ (by kernel_rfl)
      rintro X166 ⟨x137, x138⟩ x167 h hX168
      have h : spec_l01Irreducible_l1 r11 a0 a1 x137 x138 = some x167 := h
      refine a_st (σ' := ⟨[(0, (i6 a0)), (3, (ow 3)), (5, (i6 r11)), (6, (ow 6)), (7, (i6 x137))], [(3, (bk (eA64u8 a1))), (6, (bk (eA64u8 x138)))]⟩) (by kernel_rfl) (a_seq (sr (vp (i6 x137) rfl (vp (i6 (IntKind.i64.wrap (2 * x137))) rfl (vp (i6 r11) rfl (vp (.bool ((decide ((IntKind.i64.wrap (2 * x137)) ≤ r11)))) rfl (nx ⟨[(0, (i6 a0)), (3, (ow 3)), (5, (i6 r11)), (6, (ow 6)), (7, (i6 x137)), (19, (.bool ((decide ((IntKind.i64.wrap (2 * x137)) ≤ r11)))))], [(3, (bk (eA64u8 a1))), (6, (bk (eA64u8 x138)))]⟩ (by kernel_rfl) ?_)))))))
      cases hb169 : (decide ((IntKind.i64.wrap (2 * x137)) ≤ r11))
      · have h := ite_f hb169 h
        refine a_cond_f rfl (a_exit (t_exit ?_))
        cases h
        have h := hX168
        refine t_exit (b_exit ?_)
        exact j_leaf () (Option.some.inj h) (by kernel_rfl)
      · have h := ite_t hb169 h
        refine a_cond_t rfl (a_skip (a_next (σ' := ⟨[(0, (i6 a0)), (3, (ow 3)), (5, (i6 r11)), (6, (ow 6)), (7, (i6 x137))], [(3, (bk (eA64u8 a1))), (6, (bk (eA64u8 x138)))]⟩) (by kernel_rfl) (a_seq (a_block (sr (vp (i6 a0) rfl (vl (eA64u8 x138) rfl rfl rfl rfl rfl rfl (vp (i6 a0) rfl (vl (eA64u8 a1) rfl rfl rfl rfl rfl rfl ?_)))))))))
        obtain ⟨r172, hr173, h⟩ := bind_some h
        refine a_call (args := [(i6 a0), (eA64u8 x138), (i6 a0), (eA64u8 a1)]) (u := []) (r := (eA64u8 r172)) rfl rfl (spec_l01PowMod_ok a0 x138 a0 a1 r172 hr173) rfl (vs (eA64u8 r172) rfl rfl (fun _ => rfl) rfl rfl rfl rfl rfl rfl (nx ⟨[(0, (i6 a0)), (3, (ow 3)), (5, (i6 r11)), (6, (ow 6)), (7, (i6 x137))], [(3, (bk (eA64u8 a1))), (6, (bk (eA64u8 r172)))]⟩ (by kernel_rfl) (a_seq (a_draw [⟨[], [], [], []⟩, ⟨[3], [], [], []⟩, ⟨[], [], [], []⟩, ⟨[6], [], [], []⟩, ⟨[], [], [], []⟩, ⟨[], [], [], [2, 3, 4]⟩, ⟨[], [], [], [0, 1, 2, 3, 4, 5]⟩, ⟨[], [], [], [0, 1, 2, 3, 4, 5, 6]⟩, ⟨[], [], [], [0, 1, 2, 3, 4, 5, 6, 7]⟩] (by kernel_rfl) (dp (i6 a0) rfl (by kernel_rfl) (d_cons (vl (eA64u8 a1) rfl rfl rfl rfl rfl rfl (d_next (by kernel_rfl) (dp (i6 a0) rfl (by kernel_rfl) ?_)))))))))
        refine d_cons (vl (eA64u8 r172) rfl rfl rfl rfl rfl rfl (d_next (by kernel_rfl) (d_cons ?_)))
        obtain ⟨r187, hr188, h⟩ := bind_some h
        refine a_call (args := []) (u := []) (r := (eA64u8 r187)) rfl rfl (spec_l01T_ok r187 hr188) rfl (d_next (by kernel_rfl) (d_cons ?_))
        obtain ⟨r189, hr190, h⟩ := bind_some h
        refine a_call (args := [(i6 a0), (eA64u8 r172), (eA64u8 r187), (i6 (-1))]) (u := []) (r := (eA64u8 r189)) rfl rfl (spec_l01Add_ok a0 r172 r187 (-1) r189 hr190) rfl (d_next (by kernel_rfl) (d_cons ?_))
        obtain ⟨r191, hr192, h⟩ := bind_some h
        refine a_call (args := [(i6 a0), (eA64u8 a1), (eA64u8 r189)]) (u := []) (r := (eA64u8 r191)) rfl rfl (spec_l01Gcd_ok a0 a1 r189 r191 hr192) rfl (d_next (by kernel_rfl) (d_cons ?_))
        obtain ⟨r193, hr194, h⟩ := bind_some h
        refine a_call (args := [(eA64u8 r191)]) (u := []) (r := (i6 r193)) rfl rfl (spec_l01Deg_ok r191 r193 hr194) rfl (d_next (by kernel_rfl) (dp (.bool (r193 != 0)) rfl (by kernel_rfl) (d_nil (a_next (σ' := ⟨[(0, (i6 a0)), (3, (ow 3)), (5, (i6 r11)), (6, (ow 6)), (7, (i6 x137)), (35, (.bool (r193 != 0)))], [(3, (bk (eA64u8 a1))), (6, (bk (eA64u8 r172)))]⟩) (by kernel_rfl) ?_))))
        cases hb195 : (r193 != 0)
        · have h := ite_f hb195 h
          refine a_cond_f rfl (a_skip (b_norm (a_next (σ' := ⟨[(0, (i6 a0)), (3, (ow 3)), (5, (i6 r11)), (6, (ow 6)), (7, (i6 x137))], [(3, (bk (eA64u8 a1))), (6, (bk (eA64u8 r172)))]⟩) (by kernel_rfl) (a_region (vp (i6 x137) rfl (vp (i6 (IntKind.i64.wrap (x137 + 1))) rfl (vp (i6 (IntKind.i64.wrap (x137 + 1))) rfl (a_nil ?_))))))))
          cases h
          exact a_again (by kernel_rfl) hX168
        · have h := ite_t hb195 h
          refine a_cond_t rfl (sr (vp (.bool false) rfl (nx _ rfl (a_ret (b_ret (t_ret ?_))))))
          cases h
          have h := hX168
          refine t_ret (b_ret (t_ret ?_))
          cases h
          have h := hk109
          refine ⟨.inr rfl, ?_⟩
          rw [Try.results49]
          cases h
          exact ⟨_, _, _, _, _, rfl, trivial, .inl ⟨rfl, .inl rfl⟩, rfl, rfl⟩
  · have h := ite_t hb19 h
    refine a_cond_t rfl (sr (vp (.bool false) rfl (nx _ rfl (a_ret (t_ret ?_)))))
    refine ⟨.inr rfl, ?_⟩
    rw [Try.results49]
    cases h
    exact ⟨_, _, _, _, _, rfl, trivial, .inl ⟨rfl, .inl rfl⟩, rfl, rfl⟩
def impl_prime_isIrreducible_c : ACode := (.seq (.region 0 [q 4 (.asg 0 (.const (.bool false)) 4)] false) (.seq (.seq (.region 1 [q 6 (.mov (t 1)), q 7 (.call 0 (.func 101) [(t 6)]), q 8 (.bin .neq 2 (t 7) (.const (.int .i64 1))), q 9 (.mov (t 8)), ⟨some 10, .mov (t 1), some (9, false), []⟩, ⟨some 11, .call 0 (.func 59) [(t 10)], some (9, false), []⟩, ⟨some 12, .bin .lss 2 (t 11) (.const (.int .i64 1)), some (9, false), []⟩, q 13 (.pick (t 9) (.const (.bool true)) (t 12))] false) (.cond (t 13) (.seq (.region 2 [q 4 (.asg 0 (.const (.bool false)) 4)] false) .ret) .skip)) (.seq (.region 3 [q 14 (.mov (t 0)), q 15 (.mov (t 1)), q 16 (.call 0 (.func 54) [(t 14), (t 15)]), q 5 (.asg 1 (t 16) 68)] false) (.seq (.region 4 [q 17 (.mov (t 5)), q 18 (.blt 0 .len [(t 17)] [68]), q 19 (.bin .eql 3 (t 18) (.const (.int .i64 1))), q 20 (.mov (t 19)), ⟨some 21, .mov (t 5), some (20, true), []⟩, ⟨some 22, .indexAddr 68 (t 21) (.const (.int .i64 0)), some (20, true), []⟩, ⟨some 23, .fieldAddr 71 (t 22) 1, some (20, true), []⟩, ⟨some 24, .load 2 (t 23), some (20, true), []⟩, ⟨some 25, .bin .eql 2 (t 24) (.const (.int .i64 1)), some (20, true), []⟩, q 26 (.pick (t 20) (t 25) (.const (.bool false))), q 4 (.asg 0 (t 26) 4)] false) .ret))))
def impl_prime_isIrreducible_L : Live := [(0, [0, 1]), (1, [0, 1]), (2, []), (3, [0, 1]), (4, [5]), (100013, [0, 1, 13])]
noncomputable def impl_prime_isIrreducible (a0 : Int) (a1 : (List Int)) : Option Bool :=
  (Option.bind (α := Bool) ((Option.bind (impl_row_lead a1) fun r10 => (if (r10 != 1) then (some true) else (Option.bind (impl_row_degree a1) fun r13 => (some ((decide (r13 < 1)))))))) fun x6 => (if x6 then (some false) else (Option.bind (impl_prime_factors a0 a1) fun r16 => (if ((r16.length : Int) == 1) then (ifp (0 ≤ (0 : Int) ∧ (0 : Int) < ((r16.length : Nat) : Int)) ((some (((((rd r16 (0 : Int).toNat)).2) == 1))))) else (some false)))))
theorem impl_prime_isIrreducible_ok (a0 : Int) (a1 : (List Int)) (r : Bool) (h : impl_prime_isIrreducible a0 a1 = some r) : Den Try.prog 51 [(i6 a0), (eSi64 a1)] { r := (.bool r) } := by
  refine den_of (rs := [(.bool r)]) (ac := impl_prime_isIrreducible_c) (L := impl_prime_isIrreducible_L) (n := 27) (m := [(5, 1)]) (c := Try.f51.body.getD .skip) good Try.func51 (by kernel_rfl) (by kernel_rfl) Try.ntmps51 rfl rfl (by kernel_rfl) rfl rfl ?_
  refine a_st (σ' := ⟨[(0, (i6 a0)), (1, (eSi64 a1))], []⟩) (by kernel_rfl) ?_
  unfold impl_prime_isIrreducible_c
  refine sr (vp (.bool false) rfl (nx ⟨[(0, (i6 a0)), (1, (eSi64 a1))], []⟩ (by kernel_rfl) (a_seq ?_)))
  obtain ⟨y7, hy8, hk9⟩ := bind_some h
  clear h
  refine a_join (emb := fun (s : Bool) => ⟨[(0, (i6 a0)), (1, (eSi64 a1)), (13, (.bool s))], []⟩) (pre := fun s => s = y7) ?_ ?_
  · rintro x6 rfl
    have h := hk9
    refine a_st (σ' := ⟨[(0, (i6 a0)), (1, (eSi64 a1)), (13, (.bool x6))], []⟩) (by kernel_rfl) ?_
    cases hb15 : x6
    · have h := ite_f hb15 h
      refine a_cond_f rfl (a_skip (a_next (σ' := ⟨[(0, (i6 a0)), (1, (eSi64 a1))], []⟩) (by kernel_rfl) (sr (vp (i6 a0) rfl (vp (eSi64 a1) rfl ?_)))))
      obtain ⟨r16, hr17, h⟩ := bind_some h
      refine a_call (args := [(i6 a0), (eSi64 a1)]) (u := []) (r := (eST_Si64_i64_Z r16)) rfl rfl (impl_prime_factors_ok a0 a1 r16 hr17) rfl (vp (eST_Si64_i64_Z r16) rfl (nx ⟨[(5, (eST_Si64_i64_Z r16))], []⟩ (by kernel_rfl) (sr (vp (eST_Si64_i64_Z r16) rfl (vq (i6 (r16.length : Int)) (len_run rfl rfl) trivial (vp (.bool (((r16.length : Int) == 1))) rfl (vp (.bool (((r16.length : Int) == 1))) rfl ?_)))))))
      cases hb18 : ((r16.length : Int) == 1)
      · have h := ite_f hb18 h
        refine a_gskip rfl (a_gskip rfl (a_gskip rfl (a_gskip rfl (a_gskip rfl (vp (.bool false) rfl (vp (.bool false) rfl (nx _ rfl (a_ret ?_))))))))
        refine ⟨.inr rfl, ?_⟩
        rw [Try.results51]
        cases h
        exact ⟨_, _, _, _, _, rfl, trivial, .inl ⟨rfl, .inl rfl⟩, rfl, rfl⟩
      · have h := ite_t hb18 h
        refine gp (eST_Si64_i64_Z r16) rfl rfl ?_
        obtain ⟨hc19, h⟩ := ifp_some h
        refine gq (.ref (.row 2 (r16.map eT_Si64_i64_Z)) [(0 : Int).toNat] [(0 : Int).toNat * 2]) rfl rfl (lmap hc19) (gq (.ref (.row 2 (r16.map eT_Si64_i64_Z)) [(0 : Int).toNat, 1] [(0 : Int).toNat * 2, 1]) rfl rfl (Nat.le_of_ble_eq_true rfl) ?_)
        have hl20 : LdOk [(0 : Int).toNat, 1] (.row 2 (r16.map eT_Si64_i64_Z)) [(0 : Int).toNat * 2, 1] 1 false (i6 (((rd r16 (0 : Int).toNat)).2)) := (.row (llt hc19) rfl (.fld rfl rfl rfl rfl (.nil rfl rfl rfl)))
        refine gq (i6 (((rd r16 (0 : Int).toNat)).2)) rfl (ld_ref (i := ⟨.int .i64, 1, 8, (.int .i64 0)⟩) rfl rfl hl20) hl20.c (gp (.bool (((((rd r16 (0 : Int).toNat)).2) == 1))) rfl rfl (vp (.bool (((((rd r16 (0 : Int).toNat)).2) == 1))) rfl (vp (.bool (((((rd r16 (0 : Int).toNat)).2) == 1))) rfl (nx _ rfl (a_ret ?_)))))
        refine ⟨.inr rfl, ?_⟩
        rw [Try.results51]
        cases h
        exact ⟨_, _, _, _, _, rfl, trivial, .inl ⟨rfl, .inl rfl⟩, rfl, rfl⟩
    · have h := ite_t hb15 h
      refine a_cond_t rfl (sr (vp (.bool false) rfl (nx _ rfl (a_ret (t_ret ?_)))))
      refine ⟨.inr rfl, ?_⟩
      rw [Try.results51]
      cases h
      exact ⟨_, _, _, _, _, rfl, trivial, .inl ⟨rfl, .inl rfl⟩, rfl, rfl⟩
  · have h := hy8
    refine a_region (vp (eSi64 a1) rfl ?_)
    obtain ⟨r10, hr11, h⟩ := bind_some h
    refine a_call (args := [(eSi64 a1)]) (u := []) (r := (i6 r10)) rfl rfl (impl_row_lead_ok a1 r10 hr11) rfl (vp (.bool (r10 != 1)) rfl (vp (.bool (r10 != 1)) rfl ?_))
    cases hb12 : (r10 != 1)
    · have h := ite_f hb12 h
      refine gp (eSi64 a1) rfl rfl ?_
      obtain ⟨r13, hr14, h⟩ := bind_some h
      refine a_gcall rfl (args := [(eSi64 a1)]) (u := []) (r := (i6 r13)) rfl rfl (impl_row_degree_ok a1 r13 hr14) rfl (gp (.bool ((decide (r13 < 1)))) rfl rfl (vp (.bool ((decide (r13 < 1)))) rfl (a_nil ?_)))
      exact j_leaf ((decide (r13 < 1))) (Option.some.inj h) (by kernel_rfl)
    · have h := ite_t hb12 h
      refine a_gskip rfl (a_gskip rfl (a_gskip rfl (vp (.bool true) rfl (a_nil ?_))))
      exact j_leaf true (Option.some.inj h) (by kernel_rfl)
def spec_l01Monic_c : ACode := (.seq (.region 0 [q 1 (.box 24 (t 0)), q 2 (.asg 0 (.const (.bool false)) 4)] false) (.seq (.region 1 [q 4 (.load 24 (t 1)), q 5 (.call 0 (.func 81) [(t 4)]), q 3 (.asg 0 (t 5) 2)] false) (.seq (.region 2 [q 6 (.mov (t 3)), q 7 (.bin .geq 2 (t 6) (.const (.int .i64 0))), q 8 (.mov (t 7)), ⟨some 9, .mov (t 3), some (8, true), []⟩, ⟨some 10, .indexAddr 24 (t 1) (t 9), some (8, true), []⟩, ⟨some 11, .load 5 (t 10), some (8, true), []⟩, ⟨some 12, .bin .eql 5 (t 11) (.const (.int .u8 1)), some (8, true), []⟩, q 13 (.pick (t 8) (t 12) (.const (.bool false))), q 2 (.asg 0 (t 13) 4)] false) .ret)))
def spec_l01Monic_L : Live := [(0, [0]), (1, [1]), (2, [1, 3])]
noncomputable def spec_l01Monic (a0 : (Vec Int 64)) : Option Bool :=
  (Option.bind (spec_l01Deg a0) fun r2 => (if (decide (r2 ≥ 0)) then (ifp (0 ≤ r2 ∧ r2 < ((64 : Nat) : Int)) ((some (((rd a0.1 r2.toNat) == 1))))) else (some false)))
theorem spec_l01Monic_ok (a0 : (Vec Int 64)) (r : Bool) (h : spec_l01Monic a0 = some r) : Den Try.prog 48 [(eA64u8 a0)] { r := (.bool r) } := by
  refine den_of (rs := [(.bool r)]) (ac := spec_l01Monic_c) (L := spec_l01Monic_L) (n := 14) (m := []) (c := Try.f48.body.getD .skip) good Try.func48 (by kernel_rfl) (by kernel_rfl) Try.ntmps48 rfl rfl (by kernel_rfl) rfl rfl ?_
  refine a_st (σ' := ⟨[(0, (eA64u8 a0))], []⟩) (by kernel_rfl) ?_
  unfold spec_l01Monic_c
  refine sr (vo 1100 (eA64u8 a0) rfl rfl (vp (.bool false) rfl (nx ⟨[(1, (ow 1))], [(1, (bk (eA64u8 a0)))]⟩ (by kernel_rfl) (sr (vl (eA64u8 a0) rfl rfl rfl rfl rfl rfl ?_)))))
  obtain ⟨r2, hr3, h⟩ := bind_some h
  refine a_call (args := [(eA64u8 a0)]) (u := []) (r := (i6 r2)) rfl rfl (spec_l01Deg_ok a0 r2 hr3) rfl (vp (i6 r2) rfl (nx ⟨[(1, (ow 1)), (3, (i6 r2))], [(1, (bk (eA64u8 a0)))]⟩ (by kernel_rfl) (sr (vp (i6 r2) rfl (vp (.bool ((decide (r2 ≥ 0)))) rfl (vp (.bool ((decide (r2 ≥ 0)))) rfl ?_))))))
  cases hb4 : (decide (r2 ≥ 0))
  · have h := ite_f hb4 h
    refine a_gskip rfl (a_gskip rfl (a_gskip rfl (a_gskip rfl (vp (.bool false) rfl (vp (.bool false) rfl (nx _ rfl (a_ret ?_)))))))
    refine ⟨.inr rfl, ?_⟩
    rw [Try.results48]
    cases h
    exact ⟨_, _, _, _, _, rfl, trivial, .inl ⟨rfl, .inl rfl⟩, rfl, rfl⟩
  · have h := ite_t hb4 h
    refine gp (i6 r2) rfl rfl ?_
    obtain ⟨hc5, h⟩ := ifp_some h
    refine gq (.own 1 [r2.toNat] [r2.toNat * 1]) rfl rfl hc5 ?_
    have hl6 : LdOk [r2.toNat] (eA64u8 a0) [r2.toNat * 1] 1 false (b8 (rd a0.1 r2.toNat)) := (.arr (vlt a0 hc5) rfl (.nil rfl rfl rfl))
    refine gq (b8 (rd a0.1 r2.toNat)) rfl (ld_own (i := ⟨.int .u8, 1, 1, (.int .u8 0)⟩) rfl rfl rfl hl6) hl6.c (gp (.bool (((rd a0.1 r2.toNat) == 1))) rfl rfl (vp (.bool (((rd a0.1 r2.toNat) == 1))) rfl (vp (.bool (((rd a0.1 r2.toNat) == 1))) rfl (nx _ rfl (a_ret ?_)))))
    refine ⟨.inr rfl, ?_⟩
    rw [Try.results48]
    cases h
    exact ⟨_, _, _, _, _, rfl, trivial, .inl ⟨rfl, .inl rfl⟩, rfl, rfl⟩
def spec_l03Field_c : ACode := (.seq (.region 0 [q 3 (.box 24 (t 1)), q 4 (.asg 0 (.const (.bool false)) 4)] false) (.seq (.region 1 [q 5 (.mov (t 0)), q 6 (.load 24 (t 3)), q 7 (.call 0 (.func 91) [(t 5), (t 6)]), q 8 (.mov (t 7)), ⟨some 9, .load 24 (t 3), some (8, true), []⟩, ⟨some 10, .call 0 (.func 48) [(t 9)], some (8, true), []⟩, q 11 (.pick (t 8) (t 10) (.const (.bool false))), q 12 (.mov (t 11)), ⟨some 13, .load 24 (t 3), some (12, true), []⟩, ⟨some 14, .call 0 (.func 81) [(t 13)], some (12, true), []⟩, ⟨some 15, .call 0 (.func 61) [(t 14), (.const (.int .i64 1)), (.const (.int .i64 4))], some (12, true), []⟩, q 16 (.pick (t 12) (t 15) (.const (.bool false))), q 17 (.mov (t 16)), ⟨some 18, .mov (t 0), some (17, true), []⟩, ⟨some 19, .load 24 (t 3), some (17, true), []⟩, ⟨some 20, .call 0 (.func 49) [(t 18), (t 19)], some (17, true), []⟩, q 21 (.pick (t 17) (t 20) (.const (.bool false))), q 4 (.asg 0 (t 21) 4)] false) .ret))
def spec_l03Field_L : Live := [(0, [0, 1]), (1, [0, 3])]
noncomputable def spec_l03Field (a0 : Int) (a1 : (Vec Int 64)) : Option Bool :=
  (Option.bind (spec_l01Is a0 a1) fun r2 => (if r2 then (Option.bind (spec_l01Monic a1) fun r6 => (if r6 then (Option.bind (spec_l01Deg a1) fun r10 => (Option.bind (spec_l01In r10 1 4) fun r12 => (if r12 then (Option.bind (spec_l01Irreducible a0 a1) fun r16 => (some r16)) else (some false)))) else (some false))) else (some false)))
theorem spec_l03Field_ok (a0 : Int) (a1 : (Vec Int 64)) (r : Bool) (h : spec_l03Field a0 a1 = some r) : Den Try.prog 45 [(i6 a0), (eA64u8 a1)] { r := (.bool r) } := by
  refine den_of (rs := [(.bool r)]) (ac := spec_l03Field_c) (L := spec_l03Field_L) (n := 22) (m := []) (c := Try.f45.body.getD .skip) good Try.func45 (by kernel_rfl) (by kernel_rfl) Try.ntmps45 rfl rfl (by kernel_rfl) rfl rfl ?_
  refine a_st (σ' := ⟨[(0, (i6 a0)), (1, (eA64u8 a1))], []⟩) (by kernel_rfl) ?_
  unfold spec_l03Field_c
  refine sr (vo 1300 (eA64u8 a1) rfl rfl (vp (.bool false) rfl (nx ⟨[(0, (i6 a0)), (3, (ow 3))], [(3, (bk (eA64u8 a1)))]⟩ (by kernel_rfl) (sr (vp (i6 a0) rfl (vl (eA64u8 a1) rfl rfl rfl rfl rfl rfl ?_))))))
  obtain ⟨r2, hr3, h⟩ := bind_some h
  refine a_call (args := [(i6 a0), (eA64u8 a1)]) (u := []) (r := (.bool r2)) rfl rfl (spec_l01Is_ok a0 a1 r2 hr3) rfl (vp (.bool r2) rfl ?_)
  cases hb4 : r2
  · have h := ite_f hb4 h
    refine a_gskip rfl (a_gskip rfl (vp (.bool false) rfl (vp (.bool false) rfl (a_gskip rfl (a_gskip rfl (a_gskip rfl (vp (.bool false) rfl (vp (.bool false) rfl (a_gskip rfl ?_)))))))))
    refine a_gskip rfl (a_gskip rfl (vp (.bool false) rfl (vp (.bool false) rfl (nx _ rfl (a_ret ?_)))))
    refine ⟨.inr rfl, ?_⟩
    rw [Try.results45]
    cases h
    exact ⟨_, _, _, _, _, rfl, trivial, .inl ⟨rfl, .inl rfl⟩, rfl, rfl⟩
  · have h := ite_t hb4 h
    have hl5 : LdOk [] (eA64u8 a1) [] 64 true (eA64u8 a1) := (.nil rfl rfl rfl)
    refine gq (eA64u8 a1) rfl (ld_own (i := ⟨.arr 64 5, 64, 64, (eA64u8 (vrep 64 (0 : Int)))⟩) rfl rfl rfl hl5) hl5.c ?_
    obtain ⟨r6, hr7, h⟩ := bind_some h
    refine a_gcall rfl (args := [(eA64u8 a1)]) (u := []) (r := (.bool r6)) rfl rfl (spec_l01Monic_ok a1 r6 hr7) rfl (vp (.bool r6) rfl (vp (.bool r6) rfl ?_))
    cases hb8 : r6
    · have h := ite_f hb8 h
      refine a_gskip rfl (a_gskip rfl (a_gskip rfl (vp (.bool false) rfl (vp (.bool false) rfl (a_gskip rfl (a_gskip rfl (a_gskip rfl (vp (.bool false) rfl (vp (.bool false) rfl ?_)))))))))
      refine nx _ rfl (a_ret ?_)
      refine ⟨.inr rfl, ?_⟩
      rw [Try.results45]
      cases h
      exact ⟨_, _, _, _, _, rfl, trivial, .inl ⟨rfl, .inl rfl⟩, rfl, rfl⟩
    · have h := ite_t hb8 h
      have hl9 : LdOk [] (eA64u8 a1) [] 64 true (eA64u8 a1) := (.nil rfl rfl rfl)
      refine gq (eA64u8 a1) rfl (ld_own (i := ⟨.arr 64 5, 64, 64, (eA64u8 (vrep 64 (0 : Int)))⟩) rfl rfl rfl hl9) hl9.c ?_
      obtain ⟨r10, hr11, h⟩ := bind_some h
      refine a_gcall rfl (args := [(eA64u8 a1)]) (u := []) (r := (i6 r10)) rfl rfl (spec_l01Deg_ok a1 r10 hr11) rfl ?_
      obtain ⟨r12, hr13, h⟩ := bind_some h
      refine a_gcall rfl (args := [(i6 r10), (i6 1), (i6 4)]) (u := []) (r := (.bool r12)) rfl rfl (spec_l01In_ok r10 1 4 r12 hr13) rfl (vp (.bool r12) rfl (vp (.bool r12) rfl ?_))
      cases hb14 : r12
      · have h := ite_f hb14 h
        refine a_gskip rfl (a_gskip rfl (a_gskip rfl (vp (.bool false) rfl (vp (.bool false) rfl (nx _ rfl (a_ret ?_))))))
        refine ⟨.inr rfl, ?_⟩
        rw [Try.results45]
        cases h
        exact ⟨_, _, _, _, _, rfl, trivial, .inl ⟨rfl, .inl rfl⟩, rfl, rfl⟩
      · have h := ite_t hb14 h
        refine gp (i6 a0) rfl rfl ?_
        have hl15 : LdOk [] (eA64u8 a1) [] 64 true (eA64u8 a1) := (.nil rfl rfl rfl)
        refine gq (eA64u8 a1) rfl (ld_own (i := ⟨.arr 64 5, 64, 64, (eA64u8 (vrep 64 (0 : Int)))⟩) rfl rfl rfl hl15) hl15.c ?_
        obtain ⟨r16, hr17, h⟩ := bind_some h
        refine a_gcall rfl (args := [(i6 a0), (eA64u8 a1)]) (u := []) (r := (.bool r16)) rfl rfl (spec_l01Irreducible_ok a0 a1 r16 hr17) rfl (vp (.bool r16) rfl (vp (.bool r16) rfl (nx _ rfl (a_ret ?_))))
        refine ⟨.inr rfl, ?_⟩
        rw [Try.results45]
        cases h
        exact ⟨_, _, _, _, _, rfl, trivial, .inl ⟨rfl, .inl rfl⟩, rfl, rfl⟩
def impl_IsPoly_c : ACode := (.seq (.region 0 [q 3 (.box 24 (t 1)), q 4 (.asg 0 (.const (.bool false)) 4)] false) (.seq (.region 1 [q 5 (.mov (t 0)), q 6 (.call 0 (.func 64) [(t 5)]), q 7 (.mov (t 6)), ⟨some 8, .mov (t 0), some (7, true), []⟩, ⟨some 9, .load 24 (t 3), some (7, true), []⟩, ⟨some 10, .call 0 (.func 120) [(t 8), (t 9)], some (7, true), []⟩, q 11 (.pick (t 7) (t 10) (.const (.bool false))), q 4 (.asg 0 (t 11) 4)] false) .ret))
def impl_IsPoly_L : Live := [(0, [0, 1]), (1, [0, 3])]
noncomputable def impl_IsPoly (a0 : Int) (a1 : (Vec Int 64)) : Option Bool :=
  (Option.bind (impl_isPrime a0) fun r1 => (if r1 then (Option.bind (impl_isPoly a0 a1) fun r5 => (some r5)) else (some false)))
theorem impl_IsPoly_ok (a0 : Int) (a1 : (Vec Int 64)) (r : Bool) (h : impl_IsPoly a0 a1 = some r) : Den Try.prog 92 [(i6 a0), (eA64u8 a1)] { r := (.bool r) } := by
  refine den_of (rs := [(.bool r)]) (ac := impl_IsPoly_c) (L := impl_IsPoly_L) (n := 12) (m := []) (c := Try.f92.body.getD .skip) good Try.func92 (by kernel_rfl) (by kernel_rfl) Try.ntmps92 rfl rfl (by kernel_rfl) rfl rfl ?_
  refine a_st (σ' := ⟨[(0, (i6 a0)), (1, (eA64u8 a1))], []⟩) (by kernel_rfl) ?_
  unfold impl_IsPoly_c
  refine sr (vo 1300 (eA64u8 a1) rfl rfl (vp (.bool false) rfl (nx ⟨[(0, (i6 a0)), (3, (ow 3))], [(3, (bk (eA64u8 a1)))]⟩ (by kernel_rfl) (sr (vp (i6 a0) rfl ?_)))))
  obtain ⟨r1, hr2, h⟩ := bind_some h
  refine a_call (args := [(i6 a0)]) (u := []) (r := (.bool r1)) rfl rfl (impl_isPrime_ok a0 r1 hr2) rfl (vp (.bool r1) rfl ?_)
  cases hb3 : r1
  · have h := ite_f hb3 h
    refine a_gskip rfl (a_gskip rfl (a_gskip rfl (vp (.bool false) rfl (vp (.bool false) rfl (nx _ rfl (a_ret ?_))))))
    refine ⟨.inr rfl, ?_⟩
    rw [Try.results92]
    cases h
    exact ⟨_, _, _, _, _, rfl, trivial, .inl ⟨rfl, .inl rfl⟩, rfl, rfl⟩
  · have h := ite_t hb3 h
    refine gp (i6 a0) rfl rfl ?_
    have hl4 : LdOk [] (eA64u8 a1) [] 64 true (eA64u8 a1) := (.nil rfl rfl rfl)
    refine gq (eA64u8 a1) rfl (ld_own (i := ⟨.arr 64 5, 64, 64, (eA64u8 (vrep 64 (0 : Int)))⟩) rfl rfl rfl hl4) hl4.c ?_
    obtain ⟨r5, hr6, h⟩ := bind_some h
    refine a_gcall rfl (args := [(i6 a0), (eA64u8 a1)]) (u := []) (r := (.bool r5)) rfl rfl (impl_isPoly_ok a0 a1 r5 hr6) rfl (vp (.bool r5) rfl (vp (.bool r5) rfl (nx _ rfl (a_ret ?_))))
    refine ⟨.inr rfl, ?_⟩
    rw [Try.results92]
    cases h
    exact ⟨_, _, _, _, _, rfl, trivial, .inl ⟨rfl, .inl rfl⟩, rfl, rfl⟩
def impl_isField_c : ACode := (.seq (.region 0 [q 3 (.box 24 (t 1)), q 4 (.asg 0 (.const (.bool false)) 4)] false) (.seq (.region 1 [q 6 (.load 24 (t 3)), q 7 (.call 0 (.func 52) [(t 6)]), q 5 (.asg 1 (t 7) 65)] false) (.seq (.region 2 [q 8 (.mov (t 0)), q 9 (.load 24 (t 3)), q 10 (.call 0 (.func 92) [(t 8), (t 9)]), q 11 (.mov (t 10)), ⟨some 12, .mov (t 5), some (11, true), []⟩, ⟨some 13, .call 0 (.func 59) [(t 12)], some (11, true), []⟩, ⟨some 14, .call 0 (.func 93) [(t 13), (.const (.int .i64 1)), (.const (.int .i64 4))], some (11, true), []⟩, q 15 (.pick (t 11) (t 14) (.const (.bool false))), q 16 (.mov (t 15)), ⟨some 17, .mov (t 0), some (16, true), []⟩, ⟨some 18, .mov (t 5), some (16, true), []⟩, ⟨some 19, .call 0 (.func 51) [(t 17), (t 18)], some (16, true), []⟩, q 20 (.pick (t 16) (t 19) (.const (.bool false))), q 4 (.asg 0 (t 20) 4)] false) .ret)))
def impl_isField_L : Live := [(0, [0, 1]), (1, [0, 3]), (2, [0, 3, 5])]
noncomputable def impl_isField (a0 : Int) (a1 : (Vec Int 64)) : Option Bool :=
  (Option.bind (impl_rowOf a1) fun r2 => (Option.bind (impl_IsPoly a0 a1) fun r5 => (if r5 then (Option.bind (impl_row_degree r2) fun r8 => (Option.bind (impl_within r8 1 4) fun r10 => (if r10 then (Option.bind (impl_prime_isIrreducible a0 r2) fun r13 => (some r13)) else (some false)))) else (some false))))
theorem impl_isField_ok (a0 : Int) (a1 : (Vec Int 64)) (r : Bool) (h : impl_isField a0 a1 = some r) : Den Try.prog 46 [(i6 a0), (eA64u8 a1)] { r := (.bool r) } := by
  refine den_of (rs := [(.bool r)]) (ac := impl_isField_c) (L := impl_isField_L) (n := 21) (m := [(5, 1)]) (c := Try.f46.body.getD .skip) good Try.func46 (by kernel_rfl) (by kernel_rfl) Try.ntmps46 rfl rfl (by kernel_rfl) rfl rfl ?_
  refine a_st (σ' := ⟨[(0, (i6 a0)), (1, (eA64u8 a1))], []⟩) (by kernel_rfl) ?_
  unfold impl_isField_c
  refine sr (vo 1300 (eA64u8 a1) rfl rfl (vp (.bool false) rfl (nx ⟨[(0, (i6 a0)), (3, (ow 3))], [(3, (bk (eA64u8 a1)))]⟩ (by kernel_rfl) (sr (vl (eA64u8 a1) rfl rfl rfl rfl rfl rfl ?_)))))
  obtain ⟨r2, hr3, h⟩ := bind_some h
  refine a_call (args := [(eA64u8 a1)]) (u := []) (r := (eSi64 r2)) rfl rfl (impl_rowOf_ok a1 r2 hr3) rfl (vp (eSi64 r2) rfl (nx ⟨[(0, (i6 a0)), (3, (ow 3)), (5, (eSi64 r2))], [(3, (bk (eA64u8 a1)))]⟩ (by kernel_rfl) (sr (vp (i6 a0) rfl (vl (eA64u8 a1) rfl rfl rfl rfl rfl rfl ?_)))))
  obtain ⟨r5, hr6, h⟩ := bind_some h
  refine a_call (args := [(i6 a0), (eA64u8 a1)]) (u := []) (r := (.bool r5)) rfl rfl (impl_IsPoly_ok a0 a1 r5 hr6) rfl (vp (.bool r5) rfl ?_)
  cases hb7 : r5
  · have h := ite_f hb7 h
    refine a_gskip rfl (a_gskip rfl (a_gskip rfl (vp (.bool false) rfl (vp (.bool false) rfl (a_gskip rfl (a_gskip rfl (a_gskip rfl (vp (.bool false) rfl (vp (.bool false) rfl ?_)))))))))
    refine nx _ rfl (a_ret ?_)
    refine ⟨.inr rfl, ?_⟩
    rw [Try.results46]
    cases h
    exact ⟨_, _, _, _, _, rfl, trivial, .inl ⟨rfl, .inl rfl⟩, rfl, rfl⟩
  · have h := ite_t hb7 h
    refine gp (eSi64 r2) rfl rfl ?_
    obtain ⟨r8, hr9, h⟩ := bind_some h
    refine a_gcall rfl (args := [(eSi64 r2)]) (u := []) (r := (i6 r8)) rfl rfl (impl_row_degree_ok r2 r8 hr9) rfl ?_
    obtain ⟨r10, hr11, h⟩ := bind_some h
    refine a_gcall rfl (args := [(i6 r8), (i6 1), (i6 4)]) (u := []) (r := (.bool r10)) rfl rfl (impl_within_ok r8 1 4 r10 hr11) rfl (vp (.bool r10) rfl (vp (.bool r10) rfl ?_))
    cases hb12 : r10
    · have h := ite_f hb12 h
      refine a_gskip rfl (a_gskip rfl (a_gskip rfl (vp (.bool false) rfl (vp (.bool false) rfl (nx _ rfl (a_ret ?_))))))
      refine ⟨.inr rfl, ?_⟩
      rw [Try.results46]
      cases h
      exact ⟨_, _, _, _, _, rfl, trivial, .inl ⟨rfl, .inl rfl⟩, rfl, rfl⟩
    · have h := ite_t hb12 h
      refine gp (i6 a0) rfl rfl (gp (eSi64 r2) rfl rfl ?_)
      obtain ⟨r13, hr14, h⟩ := bind_some h
      refine a_gcall rfl (args := [(i6 a0), (eSi64 r2)]) (u := []) (r := (.bool r13)) rfl rfl (impl_prime_isIrreducible_ok a0 r2 r13 hr14) rfl (vp (.bool r13) rfl (vp (.bool r13) rfl (nx _ rfl (a_ret ?_))))
      refine ⟨.inr rfl, ?_⟩
      rw [Try.results46]
      cases h
      exact ⟨_, _, _, _, _, rfl, trivial, .inl ⟨rfl, .inl rfl⟩, rfl, rfl⟩
end Go.Proofs.Ytcgohoclbjgmkaa
