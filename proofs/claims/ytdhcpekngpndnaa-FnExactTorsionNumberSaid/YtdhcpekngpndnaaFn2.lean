/- Functions of the program: plain Lean functions, and that the program computes them. Printed by gen.py. -/
import Derived.Test.YtdhcpekngpndnaaFnT
import Derived.Test.YtdhcpekngpndnaaFn1
namespace Go.Proofs.Ytdhcpekngpndnaa
open Go.Abs Go.Proofs
set_option linter.unusedSimpArgs false
set_option linter.unusedVariables false
set_option maxHeartbeats 16000000
attribute [local irreducible] Abs.acode Abs.aops Abs.aopsT Abs.thenK Abs.blockK

def spec_l01Up_c : ACode := (.seq (.region 0 [q 4 (.box 26 (t 1)), q 5 (.box 26 (t 2)), q 6 (.alloc 26)] false) (.seq (.region 1 [q 13 (.load 26 (t 5)), q 14 (.call 0 (.func 75) [(t 13)]), q 7 (.asg 0 (t 14) 2)] false) (.seq (.seq (.region 2 [q 15 (.mov (t 7)), q 16 (.bin .eql 2 (t 15) (.const (.int .i64 0)))] false) (.cond (t 16) (.seq (.region 3 [q 17 (.build 26 []), ⟨none, .store 26 (t 6) (t 17), none, []⟩] false) .ret) .skip)) (.seq (.region 4 [q 18 (.mov (t 7)), q 19 (.bin .sub 2 (t 18) (.const (.int .i64 1))), q 20 (.indexAddr 26 (t 4) (t 19)), q 21 (.load 5 (t 20)), q 22 (.conv 5 2 (t 21)), q 23 (.build 26 []), q 9 (.alloc 26), q 8 (.asg 0 (t 22) 2), ⟨none, .store 26 (t 9) (t 23), none, []⟩] false) (.seq (.seq (.region 5 [q 10 (.asg 0 (.const (.int .i64 1)) 2)] false) (.block 0 (.loop (.seq (.seq (.region 6 [q 24 (.mov (t 10)), q 25 (.mov (t 7)), q 26 (.bin .lss 2 (t 24) (t 25))] false) (.cond (t 26) .skip (.exit 0))) (.seq (.block 1 (.region 8 [q 29 (.mov (t 10)), q 30 (.mov (t 10)), q 31 (.bin .sub 2 (t 30) (.const (.int .i64 1))), q 32 (.indexAddr 26 (t 4) (t 31)), q 33 (.load 5 (t 32)), q 34 (.indexAddr 26 (t 9) (t 29)), ⟨none, .store 5 (t 34) (t 33), none, []⟩] false)) (.region 7 [q 27 (.mov (t 10)), q 28 (.bin .add 2 (t 27) (.const (.int .i64 1))), q 10 (.asg 0 (t 28) 2)] false)))))) (.seq (.region 9 [q 35 (.mov (t 8)), q 36 (.mov (t 0)), q 37 (.mov (t 7)), q 38 (.indexAddr 26 (t 5) (t 37)), q 39 (.load 5 (t 38)), q 40 (.call 0 (.func 148) [(t 36), (t 39)]), q 41 (.conv 5 2 (t 40)), q 42 (.bin .mul 2 (t 35) (t 41)), q 43 (.mov (t 0)), q 44 (.bin .rem 2 (t 42) (t 43)), q 11 (.asg 0 (t 44) 2)] false) (.seq (.seq (.region 10 [q 12 (.asg 0 (.const (.int .i64 0)) 2)] false) (.block 2 (.loop (.seq (.seq (.region 11 [q 45 (.mov (t 12)), q 46 (.mov (t 7)), q 47 (.bin .lss 2 (t 45) (t 46))] false) (.cond (t 47) .skip (.exit 2))) (.seq (.block 3 (.region 13 [q 50 (.mov (t 12)), q 51 (.mov (t 12)), ⟨some 52, .indexAddr 26 (t 9) (t 51), none, [1]⟩, ⟨some 53, .load 5 (t 52), none, [2]⟩, ⟨some 54, .conv 5 2 (t 53), none, [3]⟩, q 55 (.mov (t 11)), q 56 (.mov (t 12)), ⟨some 57, .indexAddr 26 (t 5) (t 56), none, [6]⟩, ⟨some 58, .load 5 (t 57), none, [7]⟩, ⟨some 59, .conv 5 2 (t 58), none, [8]⟩, ⟨some 60, .bin .mul 2 (t 55) (t 59), none, [5, 9]⟩, ⟨some 61, .bin .sub 2 (t 54) (t 60), none, [4, 10]⟩, q 62 (.mov (t 0)), ⟨some 63, .bin .rem 2 (t 61) (t 62), none, [11, 12]⟩, q 64 (.mov (t 0)), ⟨some 65, .bin .add 2 (t 63) (t 64), none, [13, 14]⟩, q 66 (.mov (t 0)), ⟨some 67, .bin .rem 2 (t 65) (t 66), none, [15, 16]⟩, ⟨some 68, .conv 2 5 (t 67), none, [17]⟩, ⟨some 69, .indexAddr 26 (t 9) (t 50), none, [0, 0, 1, 2, 3, 4, 5, 6, 7, 8, 9, 10, 11, 12, 13, 14, 15, 16, 17, 18]⟩, ⟨none, .store 5 (t 69) (t 68), none, [19, 18, 0, 1, 2, 3, 4, 5, 6, 7, 8, 9, 10, 11, 12, 13, 14, 15, 16, 17, 18]⟩] true)) (.region 12 [q 48 (.mov (t 12)), q 49 (.bin .add 2 (t 48) (.const (.int .i64 1))), q 12 (.asg 0 (t 49) 2)] false)))))) (.seq (.region 14 [q 70 (.load 26 (t 9)), ⟨none, .store 26 (t 6) (t 70), none, []⟩] false) .ret))))))))
def spec_l01Up_L : Live := [(0, [0, 1, 2]), (1, [0, 4, 5, 6]), (2, [0, 4, 5, 6, 7]), (3, [6]), (4, [0, 4, 5, 6, 7]), (5, [0, 4, 5, 6, 7, 8, 9]), (6, [0, 4, 5, 6, 7, 8, 9, 10]), (7, [0, 4, 5, 6, 7, 8, 9, 10]), (8, [0, 4, 5, 6, 7, 8, 9, 10]), (9, [0, 5, 6, 7, 8, 9]), (10, [0, 5, 6, 7, 9, 11]), (11, [0, 5, 6, 7, 9, 11, 12]), (12, [0, 5, 6, 7, 9, 11, 12]), (13, [0, 5, 6, 7, 9, 11, 12]), (14, [6, 9]), (100016, [0, 4, 5, 6, 7, 16]), (100026, [0, 4, 5, 6, 7, 8, 9, 10, 26]), (100047, [0, 5, 6, 7, 9, 11, 12, 47])]
noncomputable def spec_l01Up_l1 (r2 : Int) (a1 : (Vec Int 64)) (x40 : Int) (x41 : (Vec Int 64)) : Option ((Int × (Vec Int 64)) ⊕ (Vec Int 64)) :=
  (if (decide (x40 < r2)) then (ifp (0 ≤ IntKind.i64.wrap (x40 - 1) ∧ IntKind.i64.wrap (x40 - 1) < ((64 : Nat) : Int)) ((ifp (0 ≤ x40 ∧ x40 < ((64 : Nat) : Int)) ((some (.inl ((IntKind.i64.wrap (x40 + 1), (vset x41 x40.toNat ((rd a1.1 (IntKind.i64.wrap (x40 - 1)).toNat))))))))))) else (some (.inr x41)))
noncomputable def spec_l01Up_l2 (r2 : Int) (x7 : Int) (r58 : Int) (a0 : Int) (a2 : (Vec Int 64)) (x187 : Int) (x188 : (Vec Int 64)) : Option ((Int × (Vec Int 64)) ⊕ (Vec Int 64)) :=
  (if (decide (x187 < r2)) then (ifp (0 ≤ x187 ∧ x187 < ((64 : Nat) : Int)) ((ifp (0 ≤ x187 ∧ x187 < ((64 : Nat) : Int)) ((letp (IntKind.i64.wrap ((Int.tmod (IntKind.i64.wrap (x7 * (IntKind.i64.wrap r58))) a0) * (IntKind.i64.wrap (rd a2.1 x187.toNat)))) fun x240 => (letp (IntKind.i64.wrap ((IntKind.i64.wrap (rd x188.1 x187.toNat)) - x240)) fun x242 => (ifp (a0 ≠ 0) ((ifp (a0 ≠ 0) ((letp (IntKind.u8.wrap (Int.tmod (IntKind.i64.wrap ((Int.tmod x242 a0) + a0)) a0)) fun x246 => (ifp (0 ≤ x187 ∧ x187 < ((64 : Nat) : Int)) ((some (.inl ((IntKind.i64.wrap (x187 + 1), (vset x188 x187.toNat x246)))))))))))))))))) else (some (.inr x188)))
noncomputable def spec_l01Up (a0 : Int) (a1 : (Vec Int 64)) (a2 : (Vec Int 64)) : Option (Vec Int 64) :=
  (Option.bind (spec_l01Deg a2) fun r2 => (if (r2 == 0) then (some ((vrep 64 (0 : Int)))) else (ifp (0 ≤ IntKind.i64.wrap (r2 - 1) ∧ IntKind.i64.wrap (r2 - 1) < ((64 : Nat) : Int)) ((letp (IntKind.i64.wrap ((rd a1.1 (IntKind.i64.wrap (r2 - 1)).toNat))) fun x7 => (Option.bind (α := (Vec Int 64)) ((loopM (fun s : (Int × (Vec Int 64)) => spec_l01Up_l1 r2 a1 s.1 s.2) (1, (vrep 64 (0 : Int))))) fun x31 => (ifp (0 ≤ r2 ∧ r2 < ((64 : Nat) : Int)) ((Option.bind (spec_l01Inverse a0 (rd a2.1 r2.toNat)) fun r58 => (ifp (a0 ≠ 0) ((Option.bind (α := (Vec Int 64)) ((loopM (fun s : (Int × (Vec Int 64)) => spec_l01Up_l2 r2 x7 r58 a0 a2 s.1 s.2) (0, x31))) fun x154 => (some x154)))))))))))))
theorem spec_l01Up_ok (a0 : Int) (a1 : (Vec Int 64)) (a2 : (Vec Int 64)) (r : (Vec Int 64)) (h : spec_l01Up a0 a1 a2 = some r) : Den Try.prog 191 [(i6 a0), (eA64u8 a1), (eA64u8 a2)] { r := (eA64u8 r) } := by
  refine den_of (rs := [(eA64u8 r)]) (ac := spec_l01Up_c) (L := spec_l01Up_L) (n := 71) (m := []) (c := Try.f191.body.getD .skip) good Try.func191 (by kernel_rfl) (by kernel_rfl) Try.ntmps191 rfl rfl (by kernel_rfl) rfl rfl ?_
  refine a_st (σ' := ⟨[(0, (i6 a0)), (1, (eA64u8 a1)), (2, (eA64u8 a2))], []⟩) (by kernel_rfl) ?_
  unfold spec_l01Up_c
  refine sr (vo 1400 (eA64u8 a1) rfl rfl (vo 1500 (eA64u8 a2) rfl rfl (vo 1600 (eA64u8 ((vrep 64 (0 : Int)))) rfl rfl (nx ⟨[(0, (i6 a0)), (4, (ow 4)), (5, (ow 5)), (6, (ow 6))], [(4, (bk (eA64u8 a1))), (5, (bk (eA64u8 a2))), (6, (bk (eA64u8 ((vrep 64 (0 : Int))))))]⟩ (by kernel_rfl) (sr (vl (eA64u8 a2) rfl rfl rfl rfl rfl rfl ?_))))))
  obtain ⟨r2, hr3, h⟩ := bind_some h
  refine a_call (args := [(eA64u8 a2)]) (u := []) (r := (i6 r2)) rfl rfl (spec_l01Deg_ok a2 r2 hr3) rfl (vp (i6 r2) rfl (nx ⟨[(0, (i6 a0)), (4, (ow 4)), (5, (ow 5)), (6, (ow 6)), (7, (i6 r2))], [(4, (bk (eA64u8 a1))), (5, (bk (eA64u8 a2))), (6, (bk (eA64u8 ((vrep 64 (0 : Int))))))]⟩ (by kernel_rfl) (a_seq (sr (vp (i6 r2) rfl (vp (.bool (r2 == 0)) rfl (nx ⟨[(0, (i6 a0)), (4, (ow 4)), (5, (ow 5)), (6, (ow 6)), (7, (i6 r2)), (16, (.bool (r2 == 0)))], [(4, (bk (eA64u8 a1))), (5, (bk (eA64u8 a2))), (6, (bk (eA64u8 ((vrep 64 (0 : Int))))))]⟩ (by kernel_rfl) ?_)))))))
  cases hb4 : (r2 == 0)
  · have h := ite_f hb4 h
    refine a_cond_f rfl (a_skip (a_next (σ' := ⟨[(0, (i6 a0)), (4, (ow 4)), (5, (ow 5)), (6, (ow 6)), (7, (i6 r2))], [(4, (bk (eA64u8 a1))), (5, (bk (eA64u8 a2))), (6, (bk (eA64u8 ((vrep 64 (0 : Int))))))]⟩) (by kernel_rfl) (sr (vp (i6 r2) rfl (vp (i6 (IntKind.i64.wrap (r2 - 1))) rfl ?_)))))
    obtain ⟨hc5, h⟩ := ifp_some h
    refine vq (.own 4 [(IntKind.i64.wrap (r2 - 1)).toNat] [(IntKind.i64.wrap (r2 - 1)).toNat * 1]) rfl hc5 ?_
    have hl6 : LdOk [(IntKind.i64.wrap (r2 - 1)).toNat] (eA64u8 a1) [(IntKind.i64.wrap (r2 - 1)).toNat * 1] 1 false (b8 ((rd a1.1 (IntKind.i64.wrap (r2 - 1)).toNat))) := (.arr (vlt a1 hc5) rfl (.nil rfl rfl rfl))
    refine vq (b8 ((rd a1.1 (IntKind.i64.wrap (r2 - 1)).toNat))) (ld_own (i := ⟨.int .u8, 1, 1, (.int .u8 0)⟩) rfl rfl rfl hl6) hl6.c ?_
    obtain ⟨x7, hx8, h⟩ := letp_some h
    refine a_val' (v := (i6 (IntKind.i64.wrap ((rd a1.1 (IntKind.i64.wrap (r2 - 1)).toNat))))) (v' := (i6 x7)) (u := []) (u' := []) rfl (congrArg (fun z => ((i6 z) : AV)) hx8) rfl trivial rfl (vq (eA64u8 ((vrep 64 (0 : Int)))) rfl ⟨⟨_, rfl, rfl⟩, all_nil⟩ (vo 1900 (eA64u8 ((vrep 64 (0 : Int)))) rfl rfl (vp (i6 x7) rfl (vs (eA64u8 ((vrep 64 (0 : Int)))) rfl rfl (fun _ => rfl) rfl rfl rfl rfl rfl rfl (nx ⟨[(0, (i6 a0)), (4, (ow 4)), (5, (ow 5)), (6, (ow 6)), (7, (i6 r2)), (8, (i6 x7)), (9, (ow 9))], [(4, (bk (eA64u8 a1))), (5, (bk (eA64u8 a2))), (6, (bk (eA64u8 ((vrep 64 (0 : Int)))))), (9, (bk (eA64u8 ((vrep 64 (0 : Int))))))]⟩ (by kernel_rfl) ?_)))))
    obtain ⟨y32, hy33, hk34⟩ := bind_some h
    clear h
    refine a_join (emb := fun (s : (Vec Int 64)) => ⟨[(0, (i6 a0)), (5, (ow 5)), (6, (ow 6)), (7, (i6 r2)), (8, (i6 x7)), (9, (ow 9))], [(5, (bk (eA64u8 a2))), (6, (bk (eA64u8 ((vrep 64 (0 : Int)))))), (9, (bk (eA64u8 s)))]⟩) (pre := fun s => s = y32) ?_ ?_
    · rintro x31 rfl
      have h := hk34
      refine a_st (σ' := ⟨[(0, (i6 a0)), (5, (ow 5)), (6, (ow 6)), (7, (i6 r2)), (8, (i6 x7)), (9, (ow 9))], [(5, (bk (eA64u8 a2))), (6, (bk (eA64u8 ((vrep 64 (0 : Int)))))), (9, (bk (eA64u8 x31)))]⟩) (by kernel_rfl) (sr (vp (i6 x7) rfl (vp (i6 a0) rfl (vp (i6 r2) rfl ?_))))
      obtain ⟨hc56, h⟩ := ifp_some h
      refine vq (.own 5 [r2.toNat] [r2.toNat * 1]) rfl hc56 ?_
      have hl57 : LdOk [r2.toNat] (eA64u8 a2) [r2.toNat * 1] 1 false (b8 (rd a2.1 r2.toNat)) := (.arr (vlt a2 hc56) rfl (.nil rfl rfl rfl))
      refine vq (b8 (rd a2.1 r2.toNat)) (ld_own (i := ⟨.int .u8, 1, 1, (.int .u8 0)⟩) rfl rfl rfl hl57) hl57.c ?_
      obtain ⟨r58, hr59, h⟩ := bind_some h
      refine a_call (args := [(i6 a0), (b8 (rd a2.1 r2.toNat))]) (u := []) (r := (b8 r58)) rfl rfl (spec_l01Inverse_ok a0 (rd a2.1 r2.toNat) r58 hr59) rfl (vp (i6 (IntKind.i64.wrap r58)) rfl (vp (i6 (IntKind.i64.wrap (x7 * (IntKind.i64.wrap r58)))) rfl (vp (i6 a0) rfl ?_)))
      obtain ⟨hc60, h⟩ := ifp_some h
      refine vq (i6 (Int.tmod (IntKind.i64.wrap (x7 * (IntKind.i64.wrap r58))) a0)) rfl hc60 (vp (i6 (Int.tmod (IntKind.i64.wrap (x7 * (IntKind.i64.wrap r58))) a0)) rfl (nx ⟨[(0, (i6 a0)), (5, (ow 5)), (6, (ow 6)), (7, (i6 r2)), (9, (ow 9)), (11, (i6 (Int.tmod (IntKind.i64.wrap (x7 * (IntKind.i64.wrap r58))) a0)))], [(5, (bk (eA64u8 a2))), (6, (bk (eA64u8 ((vrep 64 (0 : Int)))))), (9, (bk (eA64u8 x31)))]⟩ (by kernel_rfl) ?_))
      obtain ⟨y155, hy156, hk157⟩ := bind_some h
      clear h
      refine a_join (emb := fun (s : (Vec Int 64)) => ⟨[(6, (ow 6)), (9, (ow 9))], [(6, (bk (eA64u8 ((vrep 64 (0 : Int)))))), (9, (bk (eA64u8 s)))]⟩) (pre := fun s => s = y155) ?_ ?_
      · rintro x154 rfl
        have h := hk157
        refine a_st (σ' := ⟨[(6, (ow 6)), (9, (ow 9))], [(6, (bk (eA64u8 ((vrep 64 (0 : Int)))))), (9, (bk (eA64u8 x154)))]⟩) (by kernel_rfl) (sr (vl (eA64u8 x154) rfl rfl rfl rfl rfl rfl (vs (eA64u8 x154) rfl rfl (fun _ => rfl) rfl rfl rfl rfl rfl rfl (nx _ rfl (a_ret ?_)))))
        have hl253 : LdOk [] (eA64u8 x154) [] 64 true (eA64u8 x154) := (.nil rfl rfl rfl)
        refine ⟨.inr rfl, ?_⟩
        rw [Try.results191]
        cases h
        exact ⟨_, _, _, _, _, ld_own (i := ⟨.arr 64 5, 64, 64, (eA64u8 (vrep 64 (0 : Int)))⟩) rfl rfl rfl hl253, hl253.c, .inl ⟨rfl, .inl rfl⟩, rfl, rfl⟩
      · have h := hy156
        refine sr (vp (i6 0) rfl (nx ⟨[(0, (i6 a0)), (5, (ow 5)), (6, (ow 6)), (7, (i6 r2)), (9, (ow 9)), (11, (i6 (Int.tmod (IntKind.i64.wrap (x7 * (IntKind.i64.wrap r58))) a0))), (12, (i6 0))], [(5, (bk (eA64u8 a2))), (6, (bk (eA64u8 ((vrep 64 (0 : Int)))))), (9, (bk (eA64u8 x31)))]⟩ (by kernel_rfl) (a_block ?_)))
        refine a_loop (emb := fun (s : (Int × (Vec Int 64))) => ⟨[(0, (i6 a0)), (5, (ow 5)), (6, (ow 6)), (7, (i6 r2)), (9, (ow 9)), (11, (i6 (Int.tmod (IntKind.i64.wrap (x7 * (IntKind.i64.wrap r58))) a0))), (12, (i6 s.1))], [(5, (bk (eA64u8 a2))), (6, (bk (eA64u8 ((vrep 64 (0 : Int)))))), (9, (bk (eA64u8 s.2)))]⟩) (body := (fun s : (Int × (Vec Int 64)) => spec_l01Up_l2 r2 x7 r58 a0 a2 s.1 s.2)) (G := fun q => some q = some y155) h rfl ?_ (by kernel_rfl)
        rintro X218 ⟨x187, x188⟩ x219 h hX220
        have h : spec_l01Up_l2 r2 x7 r58 a0 a2 x187 x188 = some x219 := h
        refine a_st (σ' := ⟨[(0, (i6 a0)), (5, (ow 5)), (6, (ow 6)), (7, (i6 r2)), (9, (ow 9)), (11, (i6 (Int.tmod (IntKind.i64.wrap (x7 * (IntKind.i64.wrap r58))) a0))), (12, (i6 x187))], [(5, (bk (eA64u8 a2))), (6, (bk (eA64u8 ((vrep 64 (0 : Int)))))), (9, (bk (eA64u8 x188)))]⟩) (by kernel_rfl) (a_seq (sr (vp (i6 x187) rfl (vp (i6 r2) rfl (vp (.bool ((decide (x187 < r2)))) rfl (nx ⟨[(0, (i6 a0)), (5, (ow 5)), (6, (ow 6)), (7, (i6 r2)), (9, (ow 9)), (11, (i6 (Int.tmod (IntKind.i64.wrap (x7 * (IntKind.i64.wrap r58))) a0))), (12, (i6 x187)), (47, (.bool ((decide (x187 < r2)))))], [(5, (bk (eA64u8 a2))), (6, (bk (eA64u8 ((vrep 64 (0 : Int)))))), (9, (bk (eA64u8 x188)))]⟩ (by kernel_rfl) ?_))))))
        cases hb221 : (decide (x187 < r2))
        · have h := ite_f hb221 h
          refine a_cond_f rfl (a_exit (t_exit ?_))
          cases h
          have h := hX220
          refine t_exit (b_exit ?_)
          exact j_leaf x188 (Option.some.inj h) (by kernel_rfl)
        · have h := ite_t hb221 h
          refine a_cond_t rfl (a_skip (a_next (σ' := ⟨[(0, (i6 a0)), (5, (ow 5)), (6, (ow 6)), (7, (i6 r2)), (9, (ow 9)), (11, (i6 (Int.tmod (IntKind.i64.wrap (x7 * (IntKind.i64.wrap r58))) a0))), (12, (i6 x187))], [(5, (bk (eA64u8 a2))), (6, (bk (eA64u8 ((vrep 64 (0 : Int)))))), (9, (bk (eA64u8 x188)))]⟩) (by kernel_rfl) (a_seq (a_block (a_draw [⟨[], [], [], []⟩, ⟨[], [], [], []⟩, ⟨[9], [], [9], [1]⟩, ⟨[9], [], [], [1, 2]⟩, ⟨[], [], [], [1, 2, 3]⟩, ⟨[], [], [], []⟩, ⟨[], [], [], []⟩, ⟨[5], [], [5], [6]⟩, ⟨[5], [], [], [6, 7]⟩, ⟨[], [], [], [6, 7, 8]⟩, ⟨[], [], [], [5, 6, 7, 8, 9]⟩, ⟨[], [], [], [1, 2, 3, 4, 5, 6, 7, 8, 9, 10]⟩, ⟨[], [], [], []⟩, ⟨[], [], [], [1, 2, 3, 4, 5, 6, 7, 8, 9, 10, 11, 12]⟩, ⟨[], [], [], []⟩, ⟨[], [], [], [1, 2, 3, 4, 5, 6, 7, 8, 9, 10, 11, 12, 13, 14]⟩, ⟨[], [], [], []⟩, ⟨[], [], [], [1, 2, 3, 4, 5, 6, 7, 8, 9, 10, 11, 12, 13, 14, 15, 16]⟩, ⟨[], [], [], [1, 2, 3, 4, 5, 6, 7, 8, 9, 10, 11, 12, 13, 14, 15, 16, 17]⟩, ⟨[9], [], [9], [0, 1, 2, 3, 4, 5, 6, 7, 8, 9, 10, 11, 12, 13, 14, 15, 16, 17, 18]⟩, ⟨[9], [9], [], [0, 1, 2, 3, 4, 5, 6, 7, 8, 9, 10, 11, 12, 13, 14, 15, 16, 17, 18, 19]⟩] (by kernel_rfl) (dp (i6 x187) rfl (by kernel_rfl) (dp (i6 x187) rfl (by kernel_rfl) (d_cons ?_))))))))
          obtain ⟨hc236, h⟩ := ifp_some h
          refine vq (.own 9 [x187.toNat] [x187.toNat * 1]) rfl hc236 (d_next (by kernel_rfl) (d_cons ?_))
          have hl237 : LdOk [x187.toNat] (eA64u8 x188) [x187.toNat * 1] 1 false (b8 (rd x188.1 x187.toNat)) := (.arr (vlt x188 hc236) rfl (.nil rfl rfl rfl))
          refine vq (b8 (rd x188.1 x187.toNat)) (ld_own (i := ⟨.int .u8, 1, 1, (.int .u8 0)⟩) rfl rfl rfl hl237) hl237.c (d_next (by kernel_rfl) (dp (i6 (IntKind.i64.wrap (rd x188.1 x187.toNat))) rfl (by kernel_rfl) (dp (i6 (Int.tmod (IntKind.i64.wrap (x7 * (IntKind.i64.wrap r58))) a0)) rfl (by kernel_rfl) (dp (i6 x187) rfl (by kernel_rfl) (d_cons ?_)))))
          obtain ⟨hc238, h⟩ := ifp_some h
          refine vq (.own 5 [x187.toNat] [x187.toNat * 1]) rfl hc238 (d_next (by kernel_rfl) (d_cons ?_))
          have hl239 : LdOk [x187.toNat] (eA64u8 a2) [x187.toNat * 1] 1 false (b8 (rd a2.1 x187.toNat)) := (.arr (vlt a2 hc238) rfl (.nil rfl rfl rfl))
          refine vq (b8 (rd a2.1 x187.toNat)) (ld_own (i := ⟨.int .u8, 1, 1, (.int .u8 0)⟩) rfl rfl rfl hl239) hl239.c (d_next (by kernel_rfl) (dp (i6 (IntKind.i64.wrap (rd a2.1 x187.toNat))) rfl (by kernel_rfl) (d_cons ?_)))
          obtain ⟨x240, hx241, h⟩ := letp_some h
          refine a_val' (v := (i6 (IntKind.i64.wrap ((Int.tmod (IntKind.i64.wrap (x7 * (IntKind.i64.wrap r58))) a0) * (IntKind.i64.wrap (rd a2.1 x187.toNat)))))) (v' := (i6 x240)) (u := []) (u' := []) rfl (congrArg (fun z => ((i6 z) : AV)) hx241) rfl trivial rfl (d_next (by kernel_rfl) (d_cons ?_))
          obtain ⟨x242, hx243, h⟩ := letp_some h
          refine a_val' (v := (i6 (IntKind.i64.wrap ((IntKind.i64.wrap (rd x188.1 x187.toNat)) - x240)))) (v' := (i6 x242)) (u := []) (u' := []) rfl (congrArg (fun z => ((i6 z) : AV)) hx243) rfl trivial rfl (d_next (by kernel_rfl) (dp (i6 a0) rfl (by kernel_rfl) (d_cons ?_)))
          obtain ⟨hc244, h⟩ := ifp_some h
          refine vq (i6 (Int.tmod x242 a0)) rfl hc244 (d_next (by kernel_rfl) (dp (i6 a0) rfl (by kernel_rfl) (dp (i6 (IntKind.i64.wrap ((Int.tmod x242 a0) + a0))) rfl (by kernel_rfl) (dp (i6 a0) rfl (by kernel_rfl) (d_cons ?_)))))
          obtain ⟨hc245, h⟩ := ifp_some h
          refine vq (i6 (Int.tmod (IntKind.i64.wrap ((Int.tmod x242 a0) + a0)) a0)) rfl hc245 (d_next (by kernel_rfl) (d_cons ?_))
          obtain ⟨x246, hx247, h⟩ := letp_some h
          refine a_val' (v := (b8 (IntKind.u8.wrap (Int.tmod (IntKind.i64.wrap ((Int.tmod x242 a0) + a0)) a0)))) (v' := (b8 x246)) (u := []) (u' := []) rfl (congrArg (fun z => ((b8 z) : AV)) hx247) rfl trivial rfl (d_next (by kernel_rfl) (d_cons ?_))
          obtain ⟨hc248, h⟩ := ifp_some h
          refine vq (.own 9 [x187.toNat] [x187.toNat * 1]) rfl hc248 (d_next (by kernel_rfl) (d_cons ?_))
          have hs249 : StOk [x187.toNat] (eA64u8 x188) [x187.toNat * 1] 1 (b8 x246) (eA64u8 (vset x188 x187.toNat x246)) := (.arr (y := x246) (vlt x188 hc248) rfl (.nil rfl rfl rfl rfl))
          refine vu .top [(9, (bk (eA64u8 (vset x188 x187.toNat x246))))] (st_own (i := ⟨.int .u8, 1, 1, (.int .u8 0)⟩) rfl rfl (fun _ => rfl) rfl hs249) (hs249.c rfl) rfl (d_next (by kernel_rfl) (d_nil (b_norm (a_next (σ' := ⟨[(0, (i6 a0)), (5, (ow 5)), (6, (ow 6)), (7, (i6 r2)), (9, (ow 9)), (11, (i6 (Int.tmod (IntKind.i64.wrap (x7 * (IntKind.i64.wrap r58))) a0))), (12, (i6 x187))], [(5, (bk (eA64u8 a2))), (6, (bk (eA64u8 ((vrep 64 (0 : Int)))))), (9, (bk (eA64u8 (vset x188 x187.toNat x246))))]⟩) (by kernel_rfl) (a_region (vp (i6 x187) rfl (vp (i6 (IntKind.i64.wrap (x187 + 1))) rfl (vp (i6 (IntKind.i64.wrap (x187 + 1))) rfl (a_nil ?_)))))))))
          cases h
          exact a_again (by kernel_rfl) hX220
    · have h := hy33
      refine sr (vp (i6 1) rfl (nx ⟨[(0, (i6 a0)), (4, (ow 4)), (5, (ow 5)), (6, (ow 6)), (7, (i6 r2)), (8, (i6 x7)), (9, (ow 9)), (10, (i6 1))], [(4, (bk (eA64u8 a1))), (5, (bk (eA64u8 a2))), (6, (bk (eA64u8 ((vrep 64 (0 : Int)))))), (9, (bk (eA64u8 ((vrep 64 (0 : Int))))))]⟩ (by kernel_rfl) (a_block ?_)))
      refine a_loop (emb := fun (s : (Int × (Vec Int 64))) => ⟨[(0, (i6 a0)), (4, (ow 4)), (5, (ow 5)), (6, (ow 6)), (7, (i6 r2)), (8, (i6 x7)), (9, (ow 9)), (10, (i6 s.1))], [(4, (bk (eA64u8 a1))), (5, (bk (eA64u8 a2))), (6, (bk (eA64u8 ((vrep 64 (0 : Int)))))), (9, (bk (eA64u8 s.2)))]⟩) (body := (fun s : (Int × (Vec Int 64)) => spec_l01Up_l1 r2 a1 s.1 s.2)) (G := fun q => some q = some y32) h rfl ?_ (by kernel_rfl)
      rintro X47 ⟨x40, x41⟩ x48 h hX49
      have h : spec_l01Up_l1 r2 a1 x40 x41 = some x48 := h
      refine a_st (σ' := ⟨[(0, (i6 a0)), (4, (ow 4)), (5, (ow 5)), (6, (ow 6)), (7, (i6 r2)), (8, (i6 x7)), (9, (ow 9)), (10, (i6 x40))], [(4, (bk (eA64u8 a1))), (5, (bk (eA64u8 a2))), (6, (bk (eA64u8 ((vrep 64 (0 : Int)))))), (9, (bk (eA64u8 x41)))]⟩) (by kernel_rfl) (a_seq (sr (vp (i6 x40) rfl (vp (i6 r2) rfl (vp (.bool ((decide (x40 < r2)))) rfl (nx ⟨[(0, (i6 a0)), (4, (ow 4)), (5, (ow 5)), (6, (ow 6)), (7, (i6 r2)), (8, (i6 x7)), (9, (ow 9)), (10, (i6 x40)), (26, (.bool ((decide (x40 < r2)))))], [(4, (bk (eA64u8 a1))), (5, (bk (eA64u8 a2))), (6, (bk (eA64u8 ((vrep 64 (0 : Int)))))), (9, (bk (eA64u8 x41)))]⟩ (by kernel_rfl) ?_))))))
      cases hb50 : (decide (x40 < r2))
      · have h := ite_f hb50 h
        refine a_cond_f rfl (a_exit (t_exit ?_))
        cases h
        have h := hX49
        refine t_exit (b_exit ?_)
        exact j_leaf x41 (Option.some.inj h) (by kernel_rfl)
      · have h := ite_t hb50 h
        refine a_cond_t rfl (a_skip (a_next (σ' := ⟨[(0, (i6 a0)), (4, (ow 4)), (5, (ow 5)), (6, (ow 6)), (7, (i6 r2)), (8, (i6 x7)), (9, (ow 9)), (10, (i6 x40))], [(4, (bk (eA64u8 a1))), (5, (bk (eA64u8 a2))), (6, (bk (eA64u8 ((vrep 64 (0 : Int)))))), (9, (bk (eA64u8 x41)))]⟩) (by kernel_rfl) (a_seq (a_block (a_region (vp (i6 x40) rfl (vp (i6 x40) rfl (vp (i6 (IntKind.i64.wrap (x40 - 1))) rfl ?_))))))))
        obtain ⟨hc51, h⟩ := ifp_some h
        refine vq (.own 4 [(IntKind.i64.wrap (x40 - 1)).toNat] [(IntKind.i64.wrap (x40 - 1)).toNat * 1]) rfl hc51 ?_
        have hl52 : LdOk [(IntKind.i64.wrap (x40 - 1)).toNat] (eA64u8 a1) [(IntKind.i64.wrap (x40 - 1)).toNat * 1] 1 false (b8 ((rd a1.1 (IntKind.i64.wrap (x40 - 1)).toNat))) := (.arr (vlt a1 hc51) rfl (.nil rfl rfl rfl))
        refine vq (b8 ((rd a1.1 (IntKind.i64.wrap (x40 - 1)).toNat))) (ld_own (i := ⟨.int .u8, 1, 1, (.int .u8 0)⟩) rfl rfl rfl hl52) hl52.c ?_
        obtain ⟨hc53, h⟩ := ifp_some h
        refine vq (.own 9 [x40.toNat] [x40.toNat * 1]) rfl hc53 ?_
        have hs54 : StOk [x40.toNat] (eA64u8 x41) [x40.toNat * 1] 1 (b8 ((rd a1.1 (IntKind.i64.wrap (x40 - 1)).toNat))) (eA64u8 ((vset x41 x40.toNat ((rd a1.1 (IntKind.i64.wrap (x40 - 1)).toNat))))) := (.arr (y := (rd a1.1 (IntKind.i64.wrap (x40 - 1)).toNat)) (vlt x41 hc53) rfl (.nil rfl rfl rfl rfl))
        refine vu .top [(9, (bk (eA64u8 ((vset x41 x40.toNat ((rd a1.1 (IntKind.i64.wrap (x40 - 1)).toNat)))))))] (st_own (i := ⟨.int .u8, 1, 1, (.int .u8 0)⟩) rfl rfl (fun _ => rfl) rfl hs54) (hs54.c rfl) rfl (a_nil (b_norm (a_next (σ' := ⟨[(0, (i6 a0)), (4, (ow 4)), (5, (ow 5)), (6, (ow 6)), (7, (i6 r2)), (8, (i6 x7)), (9, (ow 9)), (10, (i6 x40))], [(4, (bk (eA64u8 a1))), (5, (bk (eA64u8 a2))), (6, (bk (eA64u8 ((vrep 64 (0 : Int)))))), (9, (bk (eA64u8 ((vset x41 x40.toNat ((rd a1.1 (IntKind.i64.wrap (x40 - 1)).toNat)))))))]⟩) (by kernel_rfl) (a_region (vp (i6 x40) rfl (vp (i6 (IntKind.i64.wrap (x40 + 1))) rfl (vp (i6 (IntKind.i64.wrap (x40 + 1))) rfl (a_nil ?_))))))))
        cases h
        exact a_again (by kernel_rfl) hX49
  · have h := ite_t hb4 h
    refine a_cond_t rfl (sr (vq (eA64u8 ((vrep 64 (0 : Int)))) rfl ⟨⟨_, rfl, rfl⟩, all_nil⟩ (vs (eA64u8 ((vrep 64 (0 : Int)))) rfl rfl (fun _ => rfl) rfl rfl rfl rfl rfl rfl (nx _ rfl (a_ret (t_ret ?_))))))
    have hl255 : LdOk [] (eA64u8 ((vrep 64 (0 : Int)))) [] 64 true (eA64u8 ((vrep 64 (0 : Int)))) := (.nil rfl rfl rfl)
    refine ⟨.inr rfl, ?_⟩
    rw [Try.results191]
    cases h
    exact ⟨_, _, _, _, _, ld_own (i := ⟨.arr 64 5, 64, 64, (eA64u8 (vrep 64 (0 : Int)))⟩) rfl rfl rfl hl255, hl255.c, .inl ⟨rfl, .inl rfl⟩, rfl, rfl⟩
def spec_l01MulMod_c : ACode := (.seq (.region 0 [q 5 (.box 26 (t 1)), q 6 (.box 26 (t 2)), q 7 (.box 26 (t 3)), q 8 (.alloc 26)] false) (.seq (.region 1 [q 11 (.build 26 []), q 9 (.alloc 26), ⟨none, .store 26 (t 9) (t 11), none, []⟩] false) (.seq (.seq (.region 2 [q 12 (.load 26 (t 6)), q 13 (.call 0 (.func 75) [(t 12)]), q 10 (.asg 0 (t 13) 2)] false) (.block 0 (.loop (.seq (.seq (.region 3 [q 14 (.mov (t 10)), q 15 (.bin .geq 2 (t 14) (.const (.int .i64 0)))] false) (.cond (t 15) .skip (.exit 0))) (.seq (.block 1 (.seq (.region 5 [q 18 (.mov (t 0)), q 19 (.load 26 (t 9)), q 20 (.load 26 (t 7)), q 21 (.call 0 (.func 191) [(t 18), (t 19), (t 20)]), ⟨none, .store 26 (t 9) (t 21), none, []⟩] false) (.region 6 [q 22 (.mov (t 0)), q 23 (.mov (t 0)), q 24 (.load 26 (t 9)), q 25 (.load 26 (t 5)), q 26 (.mov (t 10)), ⟨some 27, .indexAddr 26 (t 6) (t 26), none, [4]⟩, ⟨some 28, .load 5 (t 27), none, [5]⟩, ⟨some 29, .conv 5 2 (t 28), none, [6]⟩, ⟨some 30, .call 0 (.func 94) [(t 23), (t 24), (t 25), (t 29)], none, [1, 2, 3, 7]⟩, q 31 (.load 26 (t 7)), ⟨some 32, .call 0 (.func 96) [(t 22), (t 30), (t 31)], none, [0, 8, 9, 8]⟩, ⟨none, .store 26 (t 9) (t 32), none, [10, 10, 0, 1, 2, 3, 4, 5, 6, 7, 8, 9, 10]⟩] true))) (.region 4 [q 16 (.mov (t 10)), q 17 (.bin .sub 2 (t 16) (.const (.int .i64 1))), q 10 (.asg 0 (t 17) 2)] false)))))) (.seq (.region 7 [q 33 (.load 26 (t 9)), ⟨none, .store 26 (t 8) (t 33), none, []⟩] false) .ret))))
def spec_l01MulMod_L : Live := [(0, [0, 1, 2, 3]), (1, [0, 5, 6, 7, 8]), (2, [0, 5, 6, 7, 8, 9]), (3, [0, 5, 6, 7, 8, 9, 10]), (4, [0, 5, 6, 7, 8, 9, 10]), (5, [0, 5, 6, 7, 8, 9, 10]), (6, [0, 5, 6, 7, 8, 9, 10]), (7, [8, 9]), (100015, [0, 5, 6, 7, 8, 9, 10, 15])]
noncomputable def spec_l01MulMod_l1 (a0 : Int) (a3 : (Vec Int 64)) (a1 : (Vec Int 64)) (a2 : (Vec Int 64)) (x122 : Int) (x123 : (Vec Int 64)) : Option ((Int × (Vec Int 64)) ⊕ (Vec Int 64)) :=
  (if (decide (x122 ≥ 0)) then (Option.bind (spec_l01Up a0 x123 a3) fun r156 => (ifp (0 ≤ x122 ∧ x122 < ((64 : Nat) : Int)) ((Option.bind (spec_l01Add a0 r156 a1 (IntKind.i64.wrap (rd a2.1 x122.toNat))) fun r173 => (Option.bind (spec_l01Mod a0 r173 a3) fun r176 => (some (.inl ((IntKind.i64.wrap (x122 - 1), r176))))))))) else (some (.inr x123)))
noncomputable def spec_l01MulMod (a0 : Int) (a1 : (Vec Int 64)) (a2 : (Vec Int 64)) (a3 : (Vec Int 64)) : Option (Vec Int 64) :=
  (Option.bind (α := (Vec Int 64)) ((Option.bind (spec_l01Deg a2) fun r94 => (loopM (fun s : (Int × (Vec Int 64)) => spec_l01MulMod_l1 a0 a3 a1 a2 s.1 s.2) (r94, (vrep 64 (0 : Int)))))) fun x89 => (some x89))
theorem spec_l01MulMod_ok (a0 : Int) (a1 : (Vec Int 64)) (a2 : (Vec Int 64)) (a3 : (Vec Int 64)) (r : (Vec Int 64)) (h : spec_l01MulMod a0 a1 a2 a3 = some r) : Den Try.prog 162 [(i6 a0), (eA64u8 a1), (eA64u8 a2), (eA64u8 a3)] { r := (eA64u8 r) } := by
  refine den_of (rs := [(eA64u8 r)]) (ac := spec_l01MulMod_c) (L := spec_l01MulMod_L) (n := 34) (m := []) (c := Try.f162.body.getD .skip) good Try.func162 (by kernel_rfl) (by kernel_rfl) Try.ntmps162 rfl rfl (by kernel_rfl) rfl rfl ?_
  refine a_st (σ' := ⟨[(0, (i6 a0)), (1, (eA64u8 a1)), (2, (eA64u8 a2)), (3, (eA64u8 a3))], []⟩) (by kernel_rfl) ?_
  unfold spec_l01MulMod_c
  refine sr (vo 1500 (eA64u8 a1) rfl rfl (vo 1600 (eA64u8 a2) rfl rfl (vo 1700 (eA64u8 a3) rfl rfl (vo 1800 (eA64u8 ((vrep 64 (0 : Int)))) rfl rfl (nx ⟨[(0, (i6 a0)), (5, (ow 5)), (6, (ow 6)), (7, (ow 7)), (8, (ow 8))], [(5, (bk (eA64u8 a1))), (6, (bk (eA64u8 a2))), (7, (bk (eA64u8 a3))), (8, (bk (eA64u8 ((vrep 64 (0 : Int))))))]⟩ (by kernel_rfl) (sr (vq (eA64u8 ((vrep 64 (0 : Int)))) rfl ⟨⟨_, rfl, rfl⟩, all_nil⟩ (vo 1900 (eA64u8 ((vrep 64 (0 : Int)))) rfl rfl (vs (eA64u8 ((vrep 64 (0 : Int)))) rfl rfl (fun _ => rfl) rfl rfl rfl rfl rfl rfl ?_)))))))))
  refine nx ⟨[(0, (i6 a0)), (5, (ow 5)), (6, (ow 6)), (7, (ow 7)), (8, (ow 8)), (9, (ow 9))], [(5, (bk (eA64u8 a1))), (6, (bk (eA64u8 a2))), (7, (bk (eA64u8 a3))), (8, (bk (eA64u8 ((vrep 64 (0 : Int)))))), (9, (bk (eA64u8 ((vrep 64 (0 : Int))))))]⟩ (by kernel_rfl) ?_
  obtain ⟨y90, hy91, hk92⟩ := bind_some h
  clear h
  refine a_join (emb := fun (s : (Vec Int 64)) => ⟨[(8, (ow 8)), (9, (ow 9))], [(8, (bk (eA64u8 ((vrep 64 (0 : Int)))))), (9, (bk (eA64u8 s)))]⟩) (pre := fun s => s = y90) ?_ ?_
  · rintro x89 rfl
    have h := hk92
    refine a_st (σ' := ⟨[(8, (ow 8)), (9, (ow 9))], [(8, (bk (eA64u8 ((vrep 64 (0 : Int)))))), (9, (bk (eA64u8 x89)))]⟩) (by kernel_rfl) (sr (vl (eA64u8 x89) rfl rfl rfl rfl rfl rfl (vs (eA64u8 x89) rfl rfl (fun _ => rfl) rfl rfl rfl rfl rfl rfl (nx _ rfl (a_ret ?_)))))
    have hl182 : LdOk [] (eA64u8 x89) [] 64 true (eA64u8 x89) := (.nil rfl rfl rfl)
    refine ⟨.inr rfl, ?_⟩
    rw [Try.results162]
    cases h
    exact ⟨_, _, _, _, _, ld_own (i := ⟨.arr 64 5, 64, 64, (eA64u8 (vrep 64 (0 : Int)))⟩) rfl rfl rfl hl182, hl182.c, .inl ⟨rfl, .inl rfl⟩, rfl, rfl⟩
  · have h := hy91
    refine sr (vl (eA64u8 a2) rfl rfl rfl rfl rfl rfl ?_)
    obtain ⟨r94, hr95, h⟩ := bind_some h
    refine a_call (args := [(eA64u8 a2)]) (u := []) (r := (i6 r94)) rfl rfl (spec_l01Deg_ok a2 r94 hr95) rfl (vp (i6 r94) rfl (nx ⟨[(0, (i6 a0)), (5, (ow 5)), (6, (ow 6)), (7, (ow 7)), (8, (ow 8)), (9, (ow 9)), (10, (i6 r94))], [(5, (bk (eA64u8 a1))), (6, (bk (eA64u8 a2))), (7, (bk (eA64u8 a3))), (8, (bk (eA64u8 ((vrep 64 (0 : Int)))))), (9, (bk (eA64u8 ((vrep 64 (0 : Int))))))]⟩ (by kernel_rfl) (a_block ?_)))
    refine a_loop (emb := fun (s : (Int × (Vec Int 64))) => ⟨[(0, (i6 a0)), (5, (ow 5)), (6, (ow 6)), (7, (ow 7)), (8, (ow 8)), (9, (ow 9)), (10, (i6 s.1))], [(5, (bk (eA64u8 a1))), (6, (bk (eA64u8 a2))), (7, (bk (eA64u8 a3))), (8, (bk (eA64u8 ((vrep 64 (0 : Int)))))), (9, (bk (eA64u8 s.2)))]⟩) (body := (fun s : (Int × (Vec Int 64)) => spec_l01MulMod_l1 a0 a3 a1 a2 s.1 s.2)) (G := fun q => some q = some y90) h rfl ?_ (by kernel_rfl)
    rintro X150 ⟨x122, x123⟩ x151 h hX152
    have h : spec_l01MulMod_l1 a0 a3 a1 a2 x122 x123 = some x151 := h
    refine a_st (σ' := ⟨[(0, (i6 a0)), (5, (ow 5)), (6, (ow 6)), (7, (ow 7)), (8, (ow 8)), (9, (ow 9)), (10, (i6 x122))], [(5, (bk (eA64u8 a1))), (6, (bk (eA64u8 a2))), (7, (bk (eA64u8 a3))), (8, (bk (eA64u8 ((vrep 64 (0 : Int)))))), (9, (bk (eA64u8 x123)))]⟩) (by kernel_rfl) (a_seq (sr (vp (i6 x122) rfl (vp (.bool ((decide (x122 ≥ 0)))) rfl (nx ⟨[(0, (i6 a0)), (5, (ow 5)), (6, (ow 6)), (7, (ow 7)), (8, (ow 8)), (9, (ow 9)), (10, (i6 x122)), (15, (.bool ((decide (x122 ≥ 0)))))], [(5, (bk (eA64u8 a1))), (6, (bk (eA64u8 a2))), (7, (bk (eA64u8 a3))), (8, (bk (eA64u8 ((vrep 64 (0 : Int)))))), (9, (bk (eA64u8 x123)))]⟩ (by kernel_rfl) ?_)))))
    cases hb153 : (decide (x122 ≥ 0))
    · have h := ite_f hb153 h
      refine a_cond_f rfl (a_exit (t_exit ?_))
      cases h
      have h := hX152
      refine t_exit (b_exit ?_)
      exact j_leaf x123 (Option.some.inj h) (by kernel_rfl)
    · have h := ite_t hb153 h
      refine a_cond_t rfl (a_skip (a_next (σ' := ⟨[(0, (i6 a0)), (5, (ow 5)), (6, (ow 6)), (7, (ow 7)), (8, (ow 8)), (9, (ow 9)), (10, (i6 x122))], [(5, (bk (eA64u8 a1))), (6, (bk (eA64u8 a2))), (7, (bk (eA64u8 a3))), (8, (bk (eA64u8 ((vrep 64 (0 : Int)))))), (9, (bk (eA64u8 x123)))]⟩) (by kernel_rfl) (a_seq (a_block (sr (vp (i6 a0) rfl (vl (eA64u8 x123) rfl rfl rfl rfl rfl rfl (vl (eA64u8 a3) rfl rfl rfl rfl rfl rfl ?_))))))))
      obtain ⟨r156, hr157, h⟩ := bind_some h
      refine a_call (args := [(i6 a0), (eA64u8 x123), (eA64u8 a3)]) (u := []) (r := (eA64u8 r156)) rfl rfl (spec_l01Up_ok a0 x123 a3 r156 hr157) rfl (vs (eA64u8 r156) rfl rfl (fun _ => rfl) rfl rfl rfl rfl rfl rfl (nx ⟨[(0, (i6 a0)), (5, (ow 5)), (6, (ow 6)), (7, (ow 7)), (8, (ow 8)), (9, (ow 9)), (10, (i6 x122))], [(5, (bk (eA64u8 a1))), (6, (bk (eA64u8 a2))), (7, (bk (eA64u8 a3))), (8, (bk (eA64u8 ((vrep 64 (0 : Int)))))), (9, (bk (eA64u8 r156)))]⟩ (by kernel_rfl) (a_draw [⟨[], [], [], []⟩, ⟨[], [], [], []⟩, ⟨[9], [], [], []⟩, ⟨[5], [], [], []⟩, ⟨[], [], [], []⟩, ⟨[6], [], [6], [4]⟩, ⟨[6], [], [], [4, 5]⟩, ⟨[], [], [], [4, 5, 6]⟩, ⟨[], [], [], [1, 2, 3, 4, 5, 6, 7]⟩, ⟨[7], [], [], []⟩, ⟨[], [], [], [0, 1, 2, 3, 4, 5, 6, 7, 8, 9]⟩, ⟨[9], [9], [], [0, 1, 2, 3, 4, 5, 6, 7, 8, 9, 10]⟩] (by kernel_rfl) (dp (i6 a0) rfl (by kernel_rfl) (dp (i6 a0) rfl (by kernel_rfl) (d_cons (vl (eA64u8 r156) rfl rfl rfl rfl rfl rfl (d_next (by kernel_rfl) (d_cons ?_)))))))))
      refine vl (eA64u8 a1) rfl rfl rfl rfl rfl rfl (d_next (by kernel_rfl) (dp (i6 x122) rfl (by kernel_rfl) (d_cons ?_)))
      obtain ⟨hc171, h⟩ := ifp_some h
      refine vq (.own 6 [x122.toNat] [x122.toNat * 1]) rfl hc171 (d_next (by kernel_rfl) (d_cons ?_))
      have hl172 : LdOk [x122.toNat] (eA64u8 a2) [x122.toNat * 1] 1 false (b8 (rd a2.1 x122.toNat)) := (.arr (vlt a2 hc171) rfl (.nil rfl rfl rfl))
      refine vq (b8 (rd a2.1 x122.toNat)) (ld_own (i := ⟨.int .u8, 1, 1, (.int .u8 0)⟩) rfl rfl rfl hl172) hl172.c (d_next (by kernel_rfl) (dp (i6 (IntKind.i64.wrap (rd a2.1 x122.toNat))) rfl (by kernel_rfl) (d_cons ?_)))
      obtain ⟨r173, hr174, h⟩ := bind_some h
      refine a_call (args := [(i6 a0), (eA64u8 r156), (eA64u8 a1), (i6 (IntKind.i64.wrap (rd a2.1 x122.toNat)))]) (u := []) (r := (eA64u8 r173)) rfl rfl (spec_l01Add_ok a0 r156 a1 (IntKind.i64.wrap (rd a2.1 x122.toNat)) r173 hr174) rfl (d_next (by kernel_rfl) (d_cons (vl (eA64u8 a3) rfl rfl rfl rfl rfl rfl (d_next (by kernel_rfl) (d_cons ?_)))))
      obtain ⟨r176, hr177, h⟩ := bind_some h
      refine a_call (args := [(i6 a0), (eA64u8 r173), (eA64u8 a3)]) (u := []) (r := (eA64u8 r176)) rfl rfl (spec_l01Mod_ok a0 r173 a3 r176 hr177) rfl (d_next (by kernel_rfl) (d_cons (vs (eA64u8 r176) rfl rfl (fun _ => rfl) rfl rfl rfl rfl rfl rfl (d_next (by kernel_rfl) (d_nil (b_norm (a_next (σ' := ⟨[(0, (i6 a0)), (5, (ow 5)), (6, (ow 6)), (7, (ow 7)), (8, (ow 8)), (9, (ow 9)), (10, (i6 x122))], [(5, (bk (eA64u8 a1))), (6, (bk (eA64u8 a2))), (7, (bk (eA64u8 a3))), (8, (bk (eA64u8 ((vrep 64 (0 : Int)))))), (9, (bk (eA64u8 r176)))]⟩) (by kernel_rfl) (a_region (vp (i6 x122) rfl ?_)))))))))
      refine vp (i6 (IntKind.i64.wrap (x122 - 1))) rfl (vp (i6 (IntKind.i64.wrap (x122 - 1))) rfl (a_nil ?_))
      cases h
      exact a_again (by kernel_rfl) hX152
def spec_l01One_c : ACode := (.seq (.region 0 [q 0 (.alloc 26)] false) (.seq (.region 1 [q 1 (.build 26 [(0, (.const (.int .u8 1)))]), ⟨none, .store 26 (t 0) (t 1), none, []⟩] false) .ret))
def spec_l01One_L : Live := [(0, []), (1, [0])]
noncomputable def spec_l01One  : Option (Vec Int 64) :=
  (some ((vset (vrep 64 (0 : Int)) 0 1)))
theorem spec_l01One_ok  (r : (Vec Int 64)) (h : spec_l01One = some r) : Den Try.prog 95 [] { r := (eA64u8 r) } := by
  refine den_of (rs := [(eA64u8 r)]) (ac := spec_l01One_c) (L := spec_l01One_L) (n := 2) (m := []) (c := Try.f95.body.getD .skip) good Try.func95 (by kernel_rfl) (by kernel_rfl) Try.ntmps95 rfl rfl (by kernel_rfl) rfl rfl ?_
  refine a_st (σ' := ⟨[], []⟩) (by kernel_rfl) ?_
  unfold spec_l01One_c
  refine sr (vo 1000 (eA64u8 ((vrep 64 (0 : Int)))) rfl rfl (nx ⟨[(0, (ow 0))], [(0, (bk (eA64u8 ((vrep 64 (0 : Int))))))]⟩ (by kernel_rfl) (sr (vq (eA64u8 ((vset (vrep 64 (0 : Int)) 0 1))) rfl ⟨⟨_, rfl, rfl⟩, (all_cons ⟨(Nat.le_of_ble_eq_true rfl), rfl⟩ all_nil)⟩ (vs (eA64u8 ((vset (vrep 64 (0 : Int)) 0 1))) rfl rfl (fun _ => rfl) rfl rfl rfl rfl rfl rfl (nx _ rfl (a_ret ?_)))))))
  have hl2 : LdOk [] (eA64u8 ((vset (vrep 64 (0 : Int)) 0 1))) [] 64 true (eA64u8 ((vset (vrep 64 (0 : Int)) 0 1))) := (.nil rfl rfl rfl)
  refine ⟨.inr rfl, ?_⟩
  rw [Try.results95]
  cases h
  exact ⟨_, _, _, _, _, ld_own (i := ⟨.arr 64 5, 64, 64, (eA64u8 (vrep 64 (0 : Int)))⟩) rfl rfl rfl hl2, hl2.c, .inl ⟨rfl, .inl rfl⟩, rfl, rfl⟩
def spec_l01PowMod_c : ACode := (.seq (.region 0 [q 5 (.box 26 (t 1)), q 7 (.box 26 (t 3)), q 8 (.alloc 26)] false) (.seq (.region 1 [q 11 (.mov (t 0)), q 12 (.call 0 (.func 95) []), q 13 (.load 26 (t 7)), ⟨some 14, .call 0 (.func 96) [(t 11), (t 12), (t 13)], none, [0, 1, 2, 1]⟩, q 15 (.mov (t 0)), q 16 (.load 26 (t 5)), q 17 (.load 26 (t 7)), ⟨some 18, .call 0 (.func 96) [(t 15), (t 16), (t 17)], none, [4, 5, 6, 3]⟩, q 9 (.alloc 26), q 10 (.alloc 26), ⟨none, .store 26 (t 9) (t 14), none, [8, 3, 7, 0, 1, 2, 3, 8, 9]⟩, ⟨none, .store 26 (t 10) (t 18), none, [9, 7, 10, 0, 1, 2, 3, 4, 5, 6, 7, 8, 9, 10]⟩] true) (.seq (.block 0 (.loop (.seq (.seq (.region 2 [q 19 (.mov (t 2)), q 20 (.bin .gtr 2 (t 19) (.const (.int .i64 0)))] false) (.cond (t 20) .skip (.exit 0))) (.seq (.block 1 (.seq (.seq (.region 4 [q 23 (.mov (t 2)), q 24 (.bin .rem 2 (t 23) (.const (.int .i64 2))), q 25 (.bin .eql 2 (t 24) (.const (.int .i64 1)))] false) (.cond (t 25) (.region 5 [q 26 (.mov (t 0)), q 27 (.load 26 (t 9)), q 28 (.load 26 (t 10)), q 29 (.load 26 (t 7)), q 30 (.call 0 (.func 162) [(t 26), (t 27), (t 28), (t 29)]), ⟨none, .store 26 (t 9) (t 30), none, []⟩] false) .skip)) (.region 6 [q 31 (.mov (t 0)), q 32 (.load 26 (t 10)), q 33 (.load 26 (t 10)), q 34 (.load 26 (t 7)), q 35 (.call 0 (.func 162) [(t 31), (t 32), (t 33), (t 34)]), ⟨none, .store 26 (t 10) (t 35), none, []⟩] false))) (.region 3 [q 21 (.mov (t 2)), q 22 (.bin .quo 2 (t 21) (.const (.int .i64 2))), q 2 (.asg 0 (t 22) 2)] false))))) (.seq (.region 7 [q 36 (.load 26 (t 9)), ⟨none, .store 26 (t 8) (t 36), none, []⟩] false) .ret))))
def spec_l01PowMod_L : Live := [(0, [0, 1, 2, 3]), (1, [0, 2, 5, 7, 8]), (2, [0, 2, 7, 8, 9, 10]), (3, [0, 2, 7, 8, 9, 10]), (4, [0, 2, 7, 8, 9, 10]), (5, [0, 2, 7, 8, 9, 10]), (6, [0, 2, 7, 8, 9, 10]), (7, [8, 9]), (100020, [0, 2, 7, 8, 9, 10, 20]), (100025, [0, 2, 7, 8, 9, 10, 25])]
noncomputable def spec_l01PowMod_l1 (a0 : Int) (a3 : (Vec Int 64)) (x134 : Int) (x135 : (Vec Int 64)) (x136 : (Vec Int 64)) : Option ((Int × (Vec Int 64) × (Vec Int 64)) ⊕ (Vec Int 64)) :=
  (if (decide (x134 > 0)) then (Option.bind (α := (Vec Int 64)) ((if ((Int.tmod x134 2) == 1) then (Option.bind (spec_l01MulMod a0 x135 x136 a3) fun r181 => (some r181)) else (some x135))) fun x173 => (Option.bind (spec_l01MulMod a0 x136 x136 a3) fun r187 => (some (.inl ((IntKind.i64.wrap (Int.tdiv x134 2), x173, r187)))))) else (some (.inr x135)))
noncomputable def spec_l01PowMod (a0 : Int) (a1 : (Vec Int 64)) (a2 : Int) (a3 : (Vec Int 64)) : Option (Vec Int 64) :=
  (Option.bind (spec_l01One) fun r12 => (Option.bind (spec_l01Mod a0 r12 a3) fun r15 => (Option.bind (spec_l01Mod a0 a1 a3) fun r19 => (Option.bind (α := (Vec Int 64)) ((loopM (fun s : (Int × (Vec Int 64) × (Vec Int 64)) => spec_l01PowMod_l1 a0 a3 s.1 s.2.1 s.2.2) (a2, r15, r19))) fun x105 => (some x105)))))
theorem spec_l01PowMod_ok (a0 : Int) (a1 : (Vec Int 64)) (a2 : Int) (a3 : (Vec Int 64)) (r : (Vec Int 64)) (h : spec_l01PowMod a0 a1 a2 a3 = some r) : Den Try.prog 109 [(i6 a0), (eA64u8 a1), (i6 a2), (eA64u8 a3)] { r := (eA64u8 r) } := by
  refine den_of (rs := [(eA64u8 r)]) (ac := spec_l01PowMod_c) (L := spec_l01PowMod_L) (n := 37) (m := []) (c := Try.f109.body.getD .skip) good Try.func109 (by kernel_rfl) (by kernel_rfl) Try.ntmps109 rfl rfl (by kernel_rfl) rfl rfl ?_
  refine a_st (σ' := ⟨[(0, (i6 a0)), (1, (eA64u8 a1)), (2, (i6 a2)), (3, (eA64u8 a3))], []⟩) (by kernel_rfl) ?_
  unfold spec_l01PowMod_c
  refine sr (vo 1500 (eA64u8 a1) rfl rfl (vo 1700 (eA64u8 a3) rfl rfl (vo 1800 (eA64u8 ((vrep 64 (0 : Int)))) rfl rfl (nx ⟨[(0, (i6 a0)), (2, (i6 a2)), (5, (ow 5)), (7, (ow 7)), (8, (ow 8))], [(5, (bk (eA64u8 a1))), (7, (bk (eA64u8 a3))), (8, (bk (eA64u8 ((vrep 64 (0 : Int))))))]⟩ (by kernel_rfl) (a_seq (a_draw [⟨[], [], [], []⟩, ⟨[], [], [], []⟩, ⟨[7], [], [], []⟩, ⟨[], [], [], [0, 1, 2]⟩, ⟨[], [], [], []⟩, ⟨[5], [], [], []⟩, ⟨[7], [], [], []⟩, ⟨[], [], [], [0, 1, 2, 3, 4, 5, 6]⟩, ⟨[1900], [1900], [1900], []⟩, ⟨[2000], [2000], [2000], []⟩, ⟨[1900], [1900], [], [0, 1, 2, 3, 4, 5, 6, 7, 8, 9]⟩, ⟨[2000], [2000], [], [0, 1, 2, 3, 4, 5, 6, 7, 8, 9, 10]⟩] (by kernel_rfl) (dp (i6 a0) rfl (by kernel_rfl) (d_cons ?_))))))))
  obtain ⟨r12, hr13, h⟩ := bind_some h
  refine a_call (args := []) (u := []) (r := (eA64u8 r12)) rfl rfl (spec_l01One_ok r12 hr13) rfl (d_next (by kernel_rfl) (d_cons (vl (eA64u8 a3) rfl rfl rfl rfl rfl rfl (d_next (by kernel_rfl) (d_cons ?_)))))
  obtain ⟨r15, hr16, h⟩ := bind_some h
  refine a_call (args := [(i6 a0), (eA64u8 r12), (eA64u8 a3)]) (u := []) (r := (eA64u8 r15)) rfl rfl (spec_l01Mod_ok a0 r12 a3 r15 hr16) rfl (d_next (by kernel_rfl) (dp (i6 a0) rfl (by kernel_rfl) (d_cons (vl (eA64u8 a1) rfl rfl rfl rfl rfl rfl (d_next (by kernel_rfl) (d_cons (vl (eA64u8 a3) rfl rfl rfl rfl rfl rfl (d_next (by kernel_rfl) (d_cons ?_)))))))))
  obtain ⟨r19, hr20, h⟩ := bind_some h
  refine a_call (args := [(i6 a0), (eA64u8 a1), (eA64u8 a3)]) (u := []) (r := (eA64u8 r19)) rfl rfl (spec_l01Mod_ok a0 a1 a3 r19 hr20) rfl (d_next (by kernel_rfl) (d_cons (vo 1900 (eA64u8 ((vrep 64 (0 : Int)))) rfl rfl (d_next (by kernel_rfl) (d_cons (vo 2000 (eA64u8 ((vrep 64 (0 : Int)))) rfl rfl (d_next (by kernel_rfl) (d_cons (vs (eA64u8 r15) rfl rfl (fun _ => rfl) rfl rfl rfl rfl rfl rfl ?_)))))))))
  refine d_next (by kernel_rfl) (d_cons (vs (eA64u8 r19) rfl rfl (fun _ => rfl) rfl rfl rfl rfl rfl rfl (d_next (by kernel_rfl) (d_nil (a_next (σ' := ⟨[(0, (i6 a0)), (2, (i6 a2)), (7, (ow 7)), (8, (ow 8)), (9, (ow 9)), (10, (ow 10))], [(7, (bk (eA64u8 a3))), (8, (bk (eA64u8 ((vrep 64 (0 : Int)))))), (9, (bk (eA64u8 r15))), (10, (bk (eA64u8 r19)))]⟩) (by kernel_rfl) ?_)))))
  obtain ⟨y106, hy107, hk108⟩ := bind_some h
  clear h
  refine a_join (emb := fun (s : (Vec Int 64)) => ⟨[(8, (ow 8)), (9, (ow 9))], [(8, (bk (eA64u8 ((vrep 64 (0 : Int)))))), (9, (bk (eA64u8 s)))]⟩) (pre := fun s => s = y106) ?_ ?_
  · rintro x105 rfl
    have h := hk108
    refine a_st (σ' := ⟨[(8, (ow 8)), (9, (ow 9))], [(8, (bk (eA64u8 ((vrep 64 (0 : Int)))))), (9, (bk (eA64u8 x105)))]⟩) (by kernel_rfl) (sr (vl (eA64u8 x105) rfl rfl rfl rfl rfl rfl (vs (eA64u8 x105) rfl rfl (fun _ => rfl) rfl rfl rfl rfl rfl rfl (nx _ rfl (a_ret ?_)))))
    have hl193 : LdOk [] (eA64u8 x105) [] 64 true (eA64u8 x105) := (.nil rfl rfl rfl)
    refine ⟨.inr rfl, ?_⟩
    rw [Try.results109]
    cases h
    exact ⟨_, _, _, _, _, ld_own (i := ⟨.arr 64 5, 64, 64, (eA64u8 (vrep 64 (0 : Int)))⟩) rfl rfl rfl hl193, hl193.c, .inl ⟨rfl, .inl rfl⟩, rfl, rfl⟩
  · have h := hy107
    refine a_block ?_
    refine a_loop (emb := fun (s : (Int × (Vec Int 64) × (Vec Int 64))) => ⟨[(0, (i6 a0)), (2, (i6 s.1)), (7, (ow 7)), (8, (ow 8)), (9, (ow 9)), (10, (ow 10))], [(7, (bk (eA64u8 a3))), (8, (bk (eA64u8 ((vrep 64 (0 : Int)))))), (9, (bk (eA64u8 s.2.1))), (10, (bk (eA64u8 s.2.2)))]⟩) (body := (fun s : (Int × (Vec Int 64) × (Vec Int 64)) => spec_l01PowMod_l1 a0 a3 s.1 s.2.1 s.2.2)) (G := fun q => some q = some y106) h rfl ?_ (by kernel_rfl)
    rintro X162 ⟨x134, x135, x136⟩ x163 h hX164
    have h : spec_l01PowMod_l1 a0 a3 x134 x135 x136 = some x163 := h
    refine a_st (σ' := ⟨[(0, (i6 a0)), (2, (i6 x134)), (7, (ow 7)), (8, (ow 8)), (9, (ow 9)), (10, (ow 10))], [(7, (bk (eA64u8 a3))), (8, (bk (eA64u8 ((vrep 64 (0 : Int)))))), (9, (bk (eA64u8 x135))), (10, (bk (eA64u8 x136)))]⟩) (by kernel_rfl) (a_seq (sr (vp (i6 x134) rfl (vp (.bool ((decide (x134 > 0)))) rfl (nx ⟨[(0, (i6 a0)), (2, (i6 x134)), (7, (ow 7)), (8, (ow 8)), (9, (ow 9)), (10, (ow 10)), (20, (.bool ((decide (x134 > 0)))))], [(7, (bk (eA64u8 a3))), (8, (bk (eA64u8 ((vrep 64 (0 : Int)))))), (9, (bk (eA64u8 x135))), (10, (bk (eA64u8 x136)))]⟩ (by kernel_rfl) ?_)))))
    cases hb165 : (decide (x134 > 0))
    · have h := ite_f hb165 h
      refine a_cond_f rfl (a_exit (t_exit ?_))
      cases h
      have h := hX164
      refine t_exit (b_exit ?_)
      exact j_leaf x135 (Option.some.inj h) (by kernel_rfl)
    · have h := ite_t hb165 h
      refine a_cond_t rfl (a_skip (a_next (σ' := ⟨[(0, (i6 a0)), (2, (i6 x134)), (7, (ow 7)), (8, (ow 8)), (9, (ow 9)), (10, (ow 10))], [(7, (bk (eA64u8 a3))), (8, (bk (eA64u8 ((vrep 64 (0 : Int)))))), (9, (bk (eA64u8 x135))), (10, (bk (eA64u8 x136)))]⟩) (by kernel_rfl) (a_seq (a_block ?_))))
      obtain ⟨y174, hy175, hk176⟩ := bind_some h
      clear h
      refine a_join (emb := fun (s : (Vec Int 64)) => ⟨[(0, (i6 a0)), (2, (i6 x134)), (7, (ow 7)), (8, (ow 8)), (9, (ow 9)), (10, (ow 10))], [(7, (bk (eA64u8 a3))), (8, (bk (eA64u8 ((vrep 64 (0 : Int)))))), (9, (bk (eA64u8 s))), (10, (bk (eA64u8 x136)))]⟩) (pre := fun s => s = y174) ?_ ?_
      · rintro x173 rfl
        have h := hk176
        refine a_st (σ' := ⟨[(0, (i6 a0)), (2, (i6 x134)), (7, (ow 7)), (8, (ow 8)), (9, (ow 9)), (10, (ow 10))], [(7, (bk (eA64u8 a3))), (8, (bk (eA64u8 ((vrep 64 (0 : Int)))))), (9, (bk (eA64u8 x173))), (10, (bk (eA64u8 x136)))]⟩) (by kernel_rfl) (a_region (vp (i6 a0) rfl (vl (eA64u8 x136) rfl rfl rfl rfl rfl rfl (vl (eA64u8 x136) rfl rfl rfl rfl rfl rfl (vl (eA64u8 a3) rfl rfl rfl rfl rfl rfl ?_)))))
        obtain ⟨r187, hr188, h⟩ := bind_some h
        refine a_call (args := [(i6 a0), (eA64u8 x136), (eA64u8 x136), (eA64u8 a3)]) (u := []) (r := (eA64u8 r187)) rfl rfl (spec_l01MulMod_ok a0 x136 x136 a3 r187 hr188) rfl (vs (eA64u8 r187) rfl rfl (fun _ => rfl) rfl rfl rfl rfl rfl rfl (a_nil (b_norm (a_next (σ' := ⟨[(0, (i6 a0)), (2, (i6 x134)), (7, (ow 7)), (8, (ow 8)), (9, (ow 9)), (10, (ow 10))], [(7, (bk (eA64u8 a3))), (8, (bk (eA64u8 ((vrep 64 (0 : Int)))))), (9, (bk (eA64u8 x173))), (10, (bk (eA64u8 r187)))]⟩) (by kernel_rfl) (a_region (vp (i6 x134) rfl (vq (i6 (IntKind.i64.wrap (Int.tdiv x134 2))) rfl (by decide) (vp (i6 (IntKind.i64.wrap (Int.tdiv x134 2))) rfl (a_nil ?_)))))))))
        cases h
        exact a_again (by kernel_rfl) hX164
      · have h := hy175
        refine sr (vp (i6 x134) rfl (vq (i6 (Int.tmod x134 2)) rfl (by decide) (vp (.bool (((Int.tmod x134 2) == 1))) rfl (nx ⟨[(0, (i6 a0)), (2, (i6 x134)), (7, (ow 7)), (8, (ow 8)), (9, (ow 9)), (10, (ow 10)), (25, (.bool (((Int.tmod x134 2) == 1))))], [(7, (bk (eA64u8 a3))), (8, (bk (eA64u8 ((vrep 64 (0 : Int)))))), (9, (bk (eA64u8 x135))), (10, (bk (eA64u8 x136)))]⟩ (by kernel_rfl) ?_))))
        cases hb177 : ((Int.tmod x134 2) == 1)
        · have h := ite_f hb177 h
          refine a_cond_f rfl (a_skip ?_)
          exact j_leaf x135 (Option.some.inj h) (by kernel_rfl)
        · have h := ite_t hb177 h
          refine a_cond_t rfl (a_region (vp (i6 a0) rfl (vl (eA64u8 x135) rfl rfl rfl rfl rfl rfl (vl (eA64u8 x136) rfl rfl rfl rfl rfl rfl (vl (eA64u8 a3) rfl rfl rfl rfl rfl rfl ?_)))))
          obtain ⟨r181, hr182, h⟩ := bind_some h
          refine a_call (args := [(i6 a0), (eA64u8 x135), (eA64u8 x136), (eA64u8 a3)]) (u := []) (r := (eA64u8 r181)) rfl rfl (spec_l01MulMod_ok a0 x135 x136 a3 r181 hr182) rfl (vs (eA64u8 r181) rfl rfl (fun _ => rfl) rfl rfl rfl rfl rfl rfl (a_nil ?_))
          exact j_leaf r181 (Option.some.inj h) (by kernel_rfl)
def spec_l04Step_c : ACode := (.seq (.region 0 [q 4 (.box 26 (t 1)), q 5 (.box 26 (t 2)), q 6 (.alloc 26)] false) (.seq (.region 1 [q 7 (.mov (t 0)), q 8 (.mov (t 0)), q 9 (.mov (t 0)), q 10 (.call 0 (.func 157) []), q 11 (.load 26 (t 5)), ⟨some 12, .call 0 (.func 96) [(t 9), (t 10), (t 11)], none, [2, 3, 4, 3]⟩, q 13 (.load 26 (t 4)), q 14 (.load 26 (t 5)), ⟨some 15, .call 0 (.func 162) [(t 8), (t 12), (t 13), (t 14)], none, [1, 5, 6, 7, 5]⟩, q 16 (.mov (t 0)), q 17 (.load 26 (t 4)), q 18 (.mov (t 0)), q 19 (.load 26 (t 5)), ⟨some 20, .call 0 (.func 109) [(t 16), (t 17), (t 18), (t 19)], none, [9, 10, 11, 12, 8]⟩, ⟨some 21, .call 0 (.func 94) [(t 7), (t 15), (t 20), (.const (.int .i64 1))], none, [0, 8, 13, 13]⟩, ⟨none, .store 26 (t 6) (t 21), none, [14, 14, 0, 1, 2, 3, 4, 5, 6, 7, 8, 9, 10, 11, 12, 13, 14]⟩] true) .ret))
def spec_l04Step_L : Live := [(0, [0, 1, 2]), (1, [0, 4, 5, 6])]
noncomputable def spec_l04Step (a0 : Int) (a1 : (Vec Int 64)) (a2 : (Vec Int 64)) : Option (Vec Int 64) :=
  (Option.bind (spec_l01T) fun r17 => (Option.bind (spec_l01Mod a0 r17 a2) fun r20 => (Option.bind (spec_l01MulMod a0 r20 a1 a2) fun r24 => (Option.bind (spec_l01PowMod a0 a1 a0 a2) fun r28 => (Option.bind (spec_l01Add a0 r24 r28 1) fun r30 => (some r30))))))
theorem spec_l04Step_ok (a0 : Int) (a1 : (Vec Int 64)) (a2 : (Vec Int 64)) (r : (Vec Int 64)) (h : spec_l04Step a0 a1 a2 = some r) : Den Try.prog 147 [(i6 a0), (eA64u8 a1), (eA64u8 a2)] { r := (eA64u8 r) } := by
  refine den_of (rs := [(eA64u8 r)]) (ac := spec_l04Step_c) (L := spec_l04Step_L) (n := 22) (m := []) (c := Try.f147.body.getD .skip) good Try.func147 (by kernel_rfl) (by kernel_rfl) Try.ntmps147 rfl rfl (by kernel_rfl) rfl rfl ?_
  refine a_st (σ' := ⟨[(0, (i6 a0)), (1, (eA64u8 a1)), (2, (eA64u8 a2))], []⟩) (by kernel_rfl) ?_
  unfold spec_l04Step_c
  refine sr (vo 1400 (eA64u8 a1) rfl rfl (vo 1500 (eA64u8 a2) rfl rfl (vo 1600 (eA64u8 ((vrep 64 (0 : Int)))) rfl rfl (nx ⟨[(0, (i6 a0)), (4, (ow 4)), (5, (ow 5)), (6, (ow 6))], [(4, (bk (eA64u8 a1))), (5, (bk (eA64u8 a2))), (6, (bk (eA64u8 ((vrep 64 (0 : Int))))))]⟩ (by kernel_rfl) (a_seq (a_draw [⟨[], [], [], []⟩, ⟨[], [], [], []⟩, ⟨[], [], [], []⟩, ⟨[], [], [], []⟩, ⟨[5], [], [], []⟩, ⟨[], [], [], [2, 3, 4]⟩, ⟨[4], [], [], []⟩, ⟨[5], [], [], []⟩, ⟨[], [], [], [1, 2, 3, 4, 5, 6, 7]⟩, ⟨[], [], [], []⟩, ⟨[4], [], [], []⟩, ⟨[], [], [], []⟩, ⟨[5], [], [], []⟩, ⟨[], [], [], [1, 2, 3, 4, 5, 6, 7, 8, 9, 10, 11, 12]⟩, ⟨[], [], [], [0, 1, 2, 3, 4, 5, 6, 7, 8, 9, 10, 11, 12, 13]⟩, ⟨[6], [6], [], [0, 1, 2, 3, 4, 5, 6, 7, 8, 9, 10, 11, 12, 13, 14]⟩] (by kernel_rfl) (dp (i6 a0) rfl (by kernel_rfl) (dp (i6 a0) rfl (by kernel_rfl) (dp (i6 a0) rfl (by kernel_rfl) ?_)))))))))
  refine d_cons ?_
  obtain ⟨r17, hr18, h⟩ := bind_some h
  refine a_call (args := []) (u := []) (r := (eA64u8 r17)) rfl rfl (spec_l01T_ok r17 hr18) rfl (d_next (by kernel_rfl) (d_cons (vl (eA64u8 a2) rfl rfl rfl rfl rfl rfl (d_next (by kernel_rfl) (d_cons ?_)))))
  obtain ⟨r20, hr21, h⟩ := bind_some h
  refine a_call (args := [(i6 a0), (eA64u8 r17), (eA64u8 a2)]) (u := []) (r := (eA64u8 r20)) rfl rfl (spec_l01Mod_ok a0 r17 a2 r20 hr21) rfl (d_next (by kernel_rfl) (d_cons (vl (eA64u8 a1) rfl rfl rfl rfl rfl rfl (d_next (by kernel_rfl) (d_cons (vl (eA64u8 a2) rfl rfl rfl rfl rfl rfl (d_next (by kernel_rfl) (d_cons ?_))))))))
  obtain ⟨r24, hr25, h⟩ := bind_some h
  refine a_call (args := [(i6 a0), (eA64u8 r20), (eA64u8 a1), (eA64u8 a2)]) (u := []) (r := (eA64u8 r24)) rfl rfl (spec_l01MulMod_ok a0 r20 a1 a2 r24 hr25) rfl (d_next (by kernel_rfl) (dp (i6 a0) rfl (by kernel_rfl) (d_cons (vl (eA64u8 a1) rfl rfl rfl rfl rfl rfl (d_next (by kernel_rfl) (dp (i6 a0) rfl (by kernel_rfl) (d_cons (vl (eA64u8 a2) rfl rfl rfl rfl rfl rfl (d_next (by kernel_rfl) ?_)))))))))
  refine d_cons ?_
  obtain ⟨r28, hr29, h⟩ := bind_some h
  refine a_call (args := [(i6 a0), (eA64u8 a1), (i6 a0), (eA64u8 a2)]) (u := []) (r := (eA64u8 r28)) rfl rfl (spec_l01PowMod_ok a0 a1 a0 a2 r28 hr29) rfl (d_next (by kernel_rfl) (d_cons ?_))
  obtain ⟨r30, hr31, h⟩ := bind_some h
  refine a_call (args := [(i6 a0), (eA64u8 r24), (eA64u8 r28), (i6 1)]) (u := []) (r := (eA64u8 r30)) rfl rfl (spec_l01Add_ok a0 r24 r28 1 r30 hr31) rfl (d_next (by kernel_rfl) (d_cons (vs (eA64u8 r30) rfl rfl (fun _ => rfl) rfl rfl rfl rfl rfl rfl (d_next (by kernel_rfl) (d_nil (a_next rfl (a_ret ?_)))))))
  have hl33 : LdOk [] (eA64u8 r30) [] 64 true (eA64u8 r30) := (.nil rfl rfl rfl)
  refine ⟨.inr rfl, ?_⟩
  rw [Try.results147]
  cases h
  exact ⟨_, _, _, _, _, ld_own (i := ⟨.arr 64 5, 64, 64, (eA64u8 (vrep 64 (0 : Int)))⟩) rfl rfl rfl hl33, hl33.c, .inl ⟨rfl, .inl rfl⟩, rfl, rfl⟩
def spec_l04Act_c : ACode := (.seq (.region 0 [q 5 (.box 26 (t 1)), q 6 (.box 26 (t 2)), q 7 (.box 26 (t 3)), q 8 (.alloc 26)] false) (.seq (.region 1 [q 12 (.build 26 []), q 13 (.mov (t 0)), q 14 (.load 26 (t 6)), q 15 (.load 26 (t 7)), q 16 (.call 0 (.func 96) [(t 13), (t 14), (t 15)]), q 9 (.alloc 26), q 10 (.alloc 26), ⟨none, .store 26 (t 9) (t 12), none, []⟩, ⟨none, .store 26 (t 10) (t 16), none, []⟩] false) (.seq (.seq (.region 2 [q 11 (.asg 0 (.const (.int .i64 0)) 2)] false) (.block 0 (.loop (.seq (.seq (.region 3 [q 17 (.mov (t 11)), q 18 (.load 26 (t 5)), q 19 (.call 0 (.func 75) [(t 18)]), q 20 (.bin .leq 2 (t 17) (t 19))] false) (.cond (t 20) .skip (.exit 0))) (.seq (.block 1 (.seq (.region 5 [q 23 (.mov (t 0)), q 24 (.load 26 (t 9)), q 25 (.load 26 (t 10)), q 26 (.mov (t 11)), ⟨some 27, .indexAddr 26 (t 5) (t 26), none, [3]⟩, ⟨some 28, .load 5 (t 27), none, [4]⟩, ⟨some 29, .conv 5 2 (t 28), none, [5]⟩, ⟨some 30, .call 0 (.func 94) [(t 23), (t 24), (t 25), (t 29)], none, [0, 1, 2, 6]⟩, ⟨none, .store 26 (t 9) (t 30), none, [7, 7, 0, 1, 2, 3, 4, 5, 6, 7]⟩] true) (.region 6 [q 31 (.mov (t 0)), q 32 (.load 26 (t 10)), q 33 (.load 26 (t 7)), q 34 (.call 0 (.func 147) [(t 31), (t 32), (t 33)]), ⟨none, .store 26 (t 10) (t 34), none, []⟩] false))) (.region 4 [q 21 (.mov (t 11)), q 22 (.bin .add 2 (t 21) (.const (.int .i64 1))), q 11 (.asg 0 (t 22) 2)] false)))))) (.seq (.region 7 [q 35 (.load 26 (t 9)), ⟨none, .store 26 (t 8) (t 35), none, []⟩] false) .ret))))
def spec_l04Act_L : Live := [(0, [0, 1, 2, 3]), (1, [0, 5, 6, 7, 8]), (2, [0, 5, 7, 8, 9, 10]), (3, [0, 5, 7, 8, 9, 10, 11]), (4, [0, 5, 7, 8, 9, 10, 11]), (5, [0, 5, 7, 8, 9, 10, 11]), (6, [0, 5, 7, 8, 9, 10, 11]), (7, [8, 9]), (100020, [0, 5, 7, 8, 9, 10, 11, 20])]
noncomputable def spec_l04Act_l1 (a1 : (Vec Int 64)) (a0 : Int) (a3 : (Vec Int 64)) (x110 : Int) (x111 : (Vec Int 64)) (x112 : (Vec Int 64)) : Option ((Int × (Vec Int 64) × (Vec Int 64)) ⊕ (Vec Int 64)) :=
  (Option.bind (spec_l01Deg a1) fun r140 => (if (decide (x110 ≤ r140)) then (ifp (0 ≤ x110 ∧ x110 < ((64 : Nat) : Int)) ((Option.bind (spec_l01Add a0 x111 x112 (IntKind.i64.wrap (rd a1.1 x110.toNat))) fun r154 => (Option.bind (spec_l04Step a0 x112 a3) fun r159 => (some (.inl ((IntKind.i64.wrap (x110 + 1), r154, r159)))))))) else (some (.inr x111))))
noncomputable def spec_l04Act (a0 : Int) (a1 : (Vec Int 64)) (a2 : (Vec Int 64)) (a3 : (Vec Int 64)) : Option (Vec Int 64) :=
  (Option.bind (spec_l01Mod a0 a2 a3) fun r3 => (Option.bind (α := (Vec Int 64)) ((loopM (fun s : (Int × (Vec Int 64) × (Vec Int 64)) => spec_l04Act_l1 a1 a0 a3 s.1 s.2.1 s.2.2) (0, (vrep 64 (0 : Int)), r3))) fun x83 => (some x83)))
theorem spec_l04Act_ok (a0 : Int) (a1 : (Vec Int 64)) (a2 : (Vec Int 64)) (a3 : (Vec Int 64)) (r : (Vec Int 64)) (h : spec_l04Act a0 a1 a2 a3 = some r) : Den Try.prog 79 [(i6 a0), (eA64u8 a1), (eA64u8 a2), (eA64u8 a3)] { r := (eA64u8 r) } := by
  refine den_of (rs := [(eA64u8 r)]) (ac := spec_l04Act_c) (L := spec_l04Act_L) (n := 36) (m := []) (c := Try.f79.body.getD .skip) good Try.func79 (by kernel_rfl) (by kernel_rfl) Try.ntmps79 rfl rfl (by kernel_rfl) rfl rfl ?_
  refine a_st (σ' := ⟨[(0, (i6 a0)), (1, (eA64u8 a1)), (2, (eA64u8 a2)), (3, (eA64u8 a3))], []⟩) (by kernel_rfl) ?_
  unfold spec_l04Act_c
  refine sr (vo 1500 (eA64u8 a1) rfl rfl (vo 1600 (eA64u8 a2) rfl rfl (vo 1700 (eA64u8 a3) rfl rfl (vo 1800 (eA64u8 ((vrep 64 (0 : Int)))) rfl rfl (nx ⟨[(0, (i6 a0)), (5, (ow 5)), (6, (ow 6)), (7, (ow 7)), (8, (ow 8))], [(5, (bk (eA64u8 a1))), (6, (bk (eA64u8 a2))), (7, (bk (eA64u8 a3))), (8, (bk (eA64u8 ((vrep 64 (0 : Int))))))]⟩ (by kernel_rfl) (sr (vq (eA64u8 ((vrep 64 (0 : Int)))) rfl ⟨⟨_, rfl, rfl⟩, all_nil⟩ (vp (i6 a0) rfl (vl (eA64u8 a2) rfl rfl rfl rfl rfl rfl ?_)))))))))
  refine vl (eA64u8 a3) rfl rfl rfl rfl rfl rfl ?_
  obtain ⟨r3, hr4, h⟩ := bind_some h
  refine a_call (args := [(i6 a0), (eA64u8 a2), (eA64u8 a3)]) (u := []) (r := (eA64u8 r3)) rfl rfl (spec_l01Mod_ok a0 a2 a3 r3 hr4) rfl (vo 1900 (eA64u8 ((vrep 64 (0 : Int)))) rfl rfl (vo 2000 (eA64u8 ((vrep 64 (0 : Int)))) rfl rfl (vs (eA64u8 ((vrep 64 (0 : Int)))) rfl rfl (fun _ => rfl) rfl rfl rfl rfl rfl rfl (vs (eA64u8 r3) rfl rfl (fun _ => rfl) rfl rfl rfl rfl rfl rfl (nx ⟨[(0, (i6 a0)), (5, (ow 5)), (7, (ow 7)), (8, (ow 8)), (9, (ow 9)), (10, (ow 10))], [(5, (bk (eA64u8 a1))), (7, (bk (eA64u8 a3))), (8, (bk (eA64u8 ((vrep 64 (0 : Int)))))), (9, (bk (eA64u8 ((vrep 64 (0 : Int)))))), (10, (bk (eA64u8 r3)))]⟩ (by kernel_rfl) ?_)))))
  obtain ⟨y84, hy85, hk86⟩ := bind_some h
  clear h
  refine a_join (emb := fun (s : (Vec Int 64)) => ⟨[(8, (ow 8)), (9, (ow 9))], [(8, (bk (eA64u8 ((vrep 64 (0 : Int)))))), (9, (bk (eA64u8 s)))]⟩) (pre := fun s => s = y84) ?_ ?_
  · rintro x83 rfl
    have h := hk86
    refine a_st (σ' := ⟨[(8, (ow 8)), (9, (ow 9))], [(8, (bk (eA64u8 ((vrep 64 (0 : Int)))))), (9, (bk (eA64u8 x83)))]⟩) (by kernel_rfl) (sr (vl (eA64u8 x83) rfl rfl rfl rfl rfl rfl (vs (eA64u8 x83) rfl rfl (fun _ => rfl) rfl rfl rfl rfl rfl rfl (nx _ rfl (a_ret ?_)))))
    have hl165 : LdOk [] (eA64u8 x83) [] 64 true (eA64u8 x83) := (.nil rfl rfl rfl)
    refine ⟨.inr rfl, ?_⟩
    rw [Try.results79]
    cases h
    exact ⟨_, _, _, _, _, ld_own (i := ⟨.arr 64 5, 64, 64, (eA64u8 (vrep 64 (0 : Int)))⟩) rfl rfl rfl hl165, hl165.c, .inl ⟨rfl, .inl rfl⟩, rfl, rfl⟩
  · have h := hy85
    refine sr (vp (i6 0) rfl (nx ⟨[(0, (i6 a0)), (5, (ow 5)), (7, (ow 7)), (8, (ow 8)), (9, (ow 9)), (10, (ow 10)), (11, (i6 0))], [(5, (bk (eA64u8 a1))), (7, (bk (eA64u8 a3))), (8, (bk (eA64u8 ((vrep 64 (0 : Int)))))), (9, (bk (eA64u8 ((vrep 64 (0 : Int)))))), (10, (bk (eA64u8 r3)))]⟩ (by kernel_rfl) (a_block ?_)))
    refine a_loop (emb := fun (s : (Int × (Vec Int 64) × (Vec Int 64))) => ⟨[(0, (i6 a0)), (5, (ow 5)), (7, (ow 7)), (8, (ow 8)), (9, (ow 9)), (10, (ow 10)), (11, (i6 s.1))], [(5, (bk (eA64u8 a1))), (7, (bk (eA64u8 a3))), (8, (bk (eA64u8 ((vrep 64 (0 : Int)))))), (9, (bk (eA64u8 s.2.1))), (10, (bk (eA64u8 s.2.2)))]⟩) (body := (fun s : (Int × (Vec Int 64) × (Vec Int 64)) => spec_l04Act_l1 a1 a0 a3 s.1 s.2.1 s.2.2)) (G := fun q => some q = some y84) h rfl ?_ (by kernel_rfl)
    rintro X136 ⟨x110, x111, x112⟩ x137 h hX138
    have h : spec_l04Act_l1 a1 a0 a3 x110 x111 x112 = some x137 := h
    refine a_st (σ' := ⟨[(0, (i6 a0)), (5, (ow 5)), (7, (ow 7)), (8, (ow 8)), (9, (ow 9)), (10, (ow 10)), (11, (i6 x110))], [(5, (bk (eA64u8 a1))), (7, (bk (eA64u8 a3))), (8, (bk (eA64u8 ((vrep 64 (0 : Int)))))), (9, (bk (eA64u8 x111))), (10, (bk (eA64u8 x112)))]⟩) (by kernel_rfl) (a_seq (sr (vp (i6 x110) rfl (vl (eA64u8 a1) rfl rfl rfl rfl rfl rfl ?_))))
    obtain ⟨r140, hr141, h⟩ := bind_some h
    refine a_call (args := [(eA64u8 a1)]) (u := []) (r := (i6 r140)) rfl rfl (spec_l01Deg_ok a1 r140 hr141) rfl (vp (.bool ((decide (x110 ≤ r140)))) rfl (nx ⟨[(0, (i6 a0)), (5, (ow 5)), (7, (ow 7)), (8, (ow 8)), (9, (ow 9)), (10, (ow 10)), (11, (i6 x110)), (20, (.bool ((decide (x110 ≤ r140)))))], [(5, (bk (eA64u8 a1))), (7, (bk (eA64u8 a3))), (8, (bk (eA64u8 ((vrep 64 (0 : Int)))))), (9, (bk (eA64u8 x111))), (10, (bk (eA64u8 x112)))]⟩ (by kernel_rfl) ?_))
    cases hb142 : (decide (x110 ≤ r140))
    · have h := ite_f hb142 h
      refine a_cond_f rfl (a_exit (t_exit ?_))
      cases h
      have h := hX138
      refine t_exit (b_exit ?_)
      exact j_leaf x111 (Option.some.inj h) (by kernel_rfl)
    · have h := ite_t hb142 h
      refine a_cond_t rfl (a_skip (a_next (σ' := ⟨[(0, (i6 a0)), (5, (ow 5)), (7, (ow 7)), (8, (ow 8)), (9, (ow 9)), (10, (ow 10)), (11, (i6 x110))], [(5, (bk (eA64u8 a1))), (7, (bk (eA64u8 a3))), (8, (bk (eA64u8 ((vrep 64 (0 : Int)))))), (9, (bk (eA64u8 x111))), (10, (bk (eA64u8 x112)))]⟩) (by kernel_rfl) (a_seq (a_block (a_seq (a_draw [⟨[], [], [], []⟩, ⟨[9], [], [], []⟩, ⟨[10], [], [], []⟩, ⟨[], [], [], []⟩, ⟨[5], [], [5], [3]⟩, ⟨[5], [], [], [3, 4]⟩, ⟨[], [], [], [3, 4, 5]⟩, ⟨[], [], [], [0, 1, 2, 3, 4, 5, 6]⟩, ⟨[9], [9], [], [0, 1, 2, 3, 4, 5, 6, 7]⟩] (by kernel_rfl) (dp (i6 a0) rfl (by kernel_rfl) (d_cons (vl (eA64u8 x111) rfl rfl rfl rfl rfl rfl ?_)))))))))
      refine d_next (by kernel_rfl) (d_cons (vl (eA64u8 x112) rfl rfl rfl rfl rfl rfl (d_next (by kernel_rfl) (dp (i6 x110) rfl (by kernel_rfl) (d_cons ?_)))))
      obtain ⟨hc152, h⟩ := ifp_some h
      refine vq (.own 5 [x110.toNat] [x110.toNat * 1]) rfl hc152 (d_next (by kernel_rfl) (d_cons ?_))
      have hl153 : LdOk [x110.toNat] (eA64u8 a1) [x110.toNat * 1] 1 false (b8 (rd a1.1 x110.toNat)) := (.arr (vlt a1 hc152) rfl (.nil rfl rfl rfl))
      refine vq (b8 (rd a1.1 x110.toNat)) (ld_own (i := ⟨.int .u8, 1, 1, (.int .u8 0)⟩) rfl rfl rfl hl153) hl153.c (d_next (by kernel_rfl) (dp (i6 (IntKind.i64.wrap (rd a1.1 x110.toNat))) rfl (by kernel_rfl) (d_cons ?_)))
      obtain ⟨r154, hr155, h⟩ := bind_some h
      refine a_call (args := [(i6 a0), (eA64u8 x111), (eA64u8 x112), (i6 (IntKind.i64.wrap (rd a1.1 x110.toNat)))]) (u := []) (r := (eA64u8 r154)) rfl rfl (spec_l01Add_ok a0 x111 x112 (IntKind.i64.wrap (rd a1.1 x110.toNat)) r154 hr155) rfl (d_next (by kernel_rfl) (d_cons (vs (eA64u8 r154) rfl rfl (fun _ => rfl) rfl rfl rfl rfl rfl rfl (d_next (by kernel_rfl) (d_nil (a_next (σ' := ⟨[(0, (i6 a0)), (5, (ow 5)), (7, (ow 7)), (8, (ow 8)), (9, (ow 9)), (10, (ow 10)), (11, (i6 x110))], [(5, (bk (eA64u8 a1))), (7, (bk (eA64u8 a3))), (8, (bk (eA64u8 ((vrep 64 (0 : Int)))))), (9, (bk (eA64u8 r154))), (10, (bk (eA64u8 x112)))]⟩) (by kernel_rfl) (a_region (vp (i6 a0) rfl (vl (eA64u8 x112) rfl rfl rfl rfl rfl rfl ?_)))))))))
      refine vl (eA64u8 a3) rfl rfl rfl rfl rfl rfl ?_
      obtain ⟨r159, hr160, h⟩ := bind_some h
      refine a_call (args := [(i6 a0), (eA64u8 x112), (eA64u8 a3)]) (u := []) (r := (eA64u8 r159)) rfl rfl (spec_l04Step_ok a0 x112 a3 r159 hr160) rfl (vs (eA64u8 r159) rfl rfl (fun _ => rfl) rfl rfl rfl rfl rfl rfl (a_nil (b_norm (a_next (σ' := ⟨[(0, (i6 a0)), (5, (ow 5)), (7, (ow 7)), (8, (ow 8)), (9, (ow 9)), (10, (ow 10)), (11, (i6 x110))], [(5, (bk (eA64u8 a1))), (7, (bk (eA64u8 a3))), (8, (bk (eA64u8 ((vrep 64 (0 : Int)))))), (9, (bk (eA64u8 r154))), (10, (bk (eA64u8 r159)))]⟩) (by kernel_rfl) (a_region (vp (i6 x110) rfl (vp (i6 (IntKind.i64.wrap (x110 + 1))) rfl (vp (i6 (IntKind.i64.wrap (x110 + 1))) rfl (a_nil ?_)))))))))
      cases h
      exact a_again (by kernel_rfl) hX138
def spec_l04Put_c : ACode := (.seq (.region 0 [q 5 (.box 26 (t 2)), q 6 (.asg 1 (.const (.slice none 0 0)) 38), q 7 (.asg 0 (.const (.bool false)) 4)] false) (.seq (.seq (.region 1 [q 8 (.asg 0 (.const (.int .i64 0)) 3)] false) (.block 0 (.loop (.seq (.seq (.region 2 [q 14 (.mov (t 8)), q 15 (.mov (t 1)), q 16 (.blt 0 .len [(t 15)] [38]), q 17 (.bin .lss 3 (t 14) (t 16))] false) (.cond (t 17) .skip (.exit 0))) (.seq (.block 1 (.seq (.region 4 [q 20 (.mov (t 1)), q 21 (.mov (t 8)), q 22 (.indexAddr 38 (t 20) (t 21)), q 23 (.load 26 (t 22)), q 24 (.call 0 (.func 75) [(t 23)]), q 9 (.asg 0 (t 24) 2)] false) (.seq (.region 5 [q 25 (.mov (t 9)), q 26 (.indexAddr 26 (t 5) (t 25)), q 27 (.load 5 (t 26)), q 28 (.bin .neq 5 (t 27) (.const (.int .u8 0)))] false) (.cond (t 28) (.region 6 [q 29 (.mov (t 0)), q 30 (.load 26 (t 5)), q 31 (.mov (t 1)), q 32 (.mov (t 8)), ⟨some 33, .indexAddr 38 (t 31) (t 32), none, [2, 3]⟩, ⟨some 34, .load 26 (t 33), none, [4]⟩, q 35 (.mov (t 9)), ⟨some 36, .indexAddr 26 (t 5) (t 35), none, [6]⟩, ⟨some 37, .load 5 (t 36), none, [7]⟩, ⟨some 38, .conv 5 2 (t 37), none, [8]⟩, ⟨some 39, .un .neg (t 38), none, [9]⟩, ⟨some 40, .call 0 (.func 94) [(t 29), (t 30), (t 34), (t 39)], none, [0, 1, 5, 10]⟩, ⟨none, .store 26 (t 5) (t 40), none, [11, 11, 0, 1, 2, 3, 4, 5, 6, 7, 8, 9, 10, 11]⟩] true) .skip)))) (.region 3 [q 18 (.mov (t 8)), q 19 (.bin .add 3 (t 18) (.const (.int .i64 1))), q 8 (.asg 0 (t 19) 3)] false)))))) (.seq (.region 7 [q 41 (.load 26 (t 5)), q 42 (.call 0 (.func 75) [(t 41)]), q 10 (.asg 0 (t 42) 2)] false) (.seq (.seq (.region 8 [q 43 (.mov (t 10)), q 44 (.bin .lss 2 (t 43) (.const (.int .i64 0)))] false) (.cond (t 44) (.seq (.region 9 [q 45 (.mov (t 1)), q 6 (.asg 1 (t 45) 38), q 7 (.asg 0 (.const (.bool true)) 4)] false) .ret) .skip)) (.seq (.region 10 [q 46 (.mov (t 0)), q 47 (.build 26 []), q 48 (.load 26 (t 5)), q 49 (.mov (t 0)), q 50 (.mov (t 10)), ⟨some 51, .indexAddr 26 (t 5) (t 50), none, [4]⟩, ⟨some 52, .load 5 (t 51), none, [5]⟩, ⟨some 53, .call 0 (.func 148) [(t 49), (t 52)], none, [3, 6]⟩, ⟨some 54, .conv 5 2 (t 53), none, [7]⟩, ⟨some 55, .call 0 (.func 94) [(t 46), (t 47), (t 48), (t 54)], none, [0, 1, 2, 8, 7]⟩, q 11 (.alloc 26), ⟨none, .store 26 (t 11) (t 55), none, [10, 9, 9, 0, 1, 2, 3, 4, 5, 6, 7, 8, 9, 10]⟩] true) (.seq (.region 11 [q 56 (.bslice 2 38 0 []), q 12 (.asg 2 (t 56) 38)] false) (.seq (.seq (.region 12 [q 13 (.asg 0 (.const (.int .i64 0)) 3)] false) (.block 2 (.loop (.seq (.seq (.region 13 [q 57 (.mov (t 13)), q 58 (.mov (t 1)), q 59 (.blt 0 .len [(t 58)] [38]), q 60 (.bin .lss 3 (t 57) (t 59))] false) (.cond (t 60) .skip (.exit 2))) (.seq (.block 3 (.region 15 [q 63 (.mov (t 12)), q 64 (.mov (t 0)), q 65 (.mov (t 1)), q 66 (.mov (t 13)), ⟨some 67, .indexAddr 38 (t 65) (t 66), none, [2, 3]⟩, ⟨some 68, .load 26 (t 67), none, [4]⟩, q 69 (.load 26 (t 11)), q 70 (.mov (t 1)), q 71 (.mov (t 13)), q 72 (.mov (t 10)), ⟨some 73, .indexAddr 38 (t 70) (t 71), none, [7, 8]⟩, ⟨some 74, .indexAddr 26 (t 73) (t 72), none, [10, 9]⟩, ⟨some 75, .load 5 (t 74), none, [11]⟩, ⟨some 76, .conv 5 2 (t 75), none, [12]⟩, ⟨some 77, .un .neg (t 76), none, [13]⟩, ⟨some 78, .call 0 (.func 94) [(t 64), (t 68), (t 69), (t 77)], none, [1, 5, 6, 14]⟩, ⟨some 79, .bslice 0 38 1 [(0, (t 78))], none, [15]⟩, ⟨some 80, .blt 0 .append [(t 63), (t 79)] [38, 38], none, [0, 16, 15]⟩, ⟨some 12, .asg 2 (t 80) 38, none, [17, 17, 0, 1, 2, 3, 4, 5, 6, 7, 8, 9, 10, 11, 12, 13, 14, 15, 16, 17]⟩] true)) (.region 14 [q 61 (.mov (t 13)), q 62 (.bin .add 3 (t 61) (.const (.int .i64 1))), q 13 (.asg 0 (t 62) 3)] false)))))) (.seq (.region 16 [q 81 (.mov (t 12)), q 82 (.load 26 (t 11)), q 83 (.bslice 0 38 1 [(0, (t 82))]), q 84 (.blt 0 .append [(t 81), (t 83)] [38, 38]), q 6 (.asg 1 (t 84) 38), q 7 (.asg 0 (.const (.bool false)) 4)] false) .ret))))))))
def spec_l04Put_L : Live := [(0, [0, 1, 2]), (1, [0, 1, 5]), (2, [0, 1, 5, 8]), (3, [0, 1, 5, 8]), (4, [0, 1, 5, 8]), (5, [0, 1, 5, 8, 9]), (6, [0, 1, 5, 8, 9]), (7, [0, 1, 5]), (8, [0, 1, 5, 10]), (9, [1]), (10, [0, 1, 5, 10]), (11, [0, 1, 10, 11]), (12, [0, 1, 10, 11, 12]), (13, [0, 1, 10, 11, 12, 13]), (14, [0, 1, 10, 11, 12, 13]), (15, [0, 1, 10, 11, 12, 13]), (16, [11, 12]), (100017, [0, 1, 5, 8, 17]), (100028, [0, 1, 5, 8, 9, 28]), (100044, [0, 1, 5, 10, 44]), (100060, [0, 1, 10, 11, 12, 13, 60])]
noncomputable def spec_l04Put_l1 (a1 : (List (Vec Int 64))) (a0 : Int) (x243 : Int) (x244 : (Vec Int 64)) : Option ((Int × (Vec Int 64)) ⊕ (Vec Int 64)) :=
  (if (decide (x243 < (a1.length : Int))) then (Option.bind (α := (Vec Int 64)) ((ifp (0 ≤ x243 ∧ x243 < ((a1.length : Nat) : Int)) ((Option.bind (spec_l01Deg (rd a1 x243.toNat)) fun r341 => (ifp (0 ≤ r341 ∧ r341 < ((64 : Nat) : Int)) ((if ((rd x244.1 r341.toNat) != 0) then (ifp (0 ≤ x243 ∧ x243 < ((a1.length : Nat) : Int)) ((ifp (0 ≤ r341 ∧ r341 < ((64 : Nat) : Int)) ((letp (IntKind.i64.wrap (0 - (IntKind.i64.wrap (rd x244.1 r341.toNat)))) fun x361 => (Option.bind (spec_l01Add a0 x244 (rd a1 x243.toNat) x361) fun r363 => (some r363))))))) else (some x244)))))))) fun x335 => (some (.inl ((IntKind.i64.wrap (x243 + 1), x335))))) else (some (.inr x244)))
noncomputable def spec_l04Put_l2 (a1 : (List (Vec Int 64))) (r368 : Int) (a0 : Int) (r384 : (Vec Int 64)) (x489 : Int) (x490 : (List (Vec Int 64))) : Option ((Int × (List (Vec Int 64))) ⊕ (List (Vec Int 64))) :=
  (if (decide (x489 < (a1.length : Int))) then (ifp (0 ≤ x489 ∧ x489 < ((a1.length : Nat) : Int)) ((ifp (0 ≤ x489 ∧ x489 < ((a1.length : Nat) : Int)) ((ifp (0 ≤ r368 ∧ r368 < ((64 : Nat) : Int)) ((letp (IntKind.i64.wrap (0 - (IntKind.i64.wrap ((rd (rd a1 x489.toNat).1 r368.toNat))))) fun x535 => (Option.bind (spec_l01Add a0 (rd a1 x489.toNat) r384 x535) fun r537 => (ifp ((x490.length + ([r537] : List (Vec Int 64)).length) * 64 ≤ 140737488355328) ((some (.inl ((IntKind.i64.wrap (x489 + 1), (x490 ++ ([r537])))))))))))))))) else (some (.inr x490)))
noncomputable def spec_l04Put (a0 : Int) (a1 : (List (Vec Int 64))) (a2 : (Vec Int 64)) : Option ((List (Vec Int 64)) × Bool) :=
  (Option.bind (α := (Vec Int 64)) ((loopM (fun s : (Int × (Vec Int 64)) => spec_l04Put_l1 a1 a0 s.1 s.2) (0, a2))) fun x180 => (Option.bind (spec_l01Deg x180) fun r368 => (if (decide (r368 < 0)) then (some (a1, true)) else (ifp (0 ≤ r368 ∧ r368 < ((64 : Nat) : Int)) ((Option.bind (spec_l01Inverse a0 (rd x180.1 r368.toNat)) fun r382 => (Option.bind (spec_l01Add a0 ((vrep 64 (0 : Int))) x180 (IntKind.i64.wrap r382)) fun r384 => (Option.bind (α := (List (Vec Int 64))) ((loopM (fun s : (Int × (List (Vec Int 64))) => spec_l04Put_l2 a1 r368 a0 r384 s.1 s.2) (0, []))) fun x462 => (ifp ((x462.length + ([r384] : List (Vec Int 64)).length) * 64 ≤ 140737488355328) ((some (((x462 ++ ([r384])), false)))))))))))))
theorem spec_l04Put_ok (a0 : Int) (a1 : (List (Vec Int 64))) (a2 : (Vec Int 64)) (r : ((List (Vec Int 64)) × Bool)) (h : spec_l04Put a0 a1 a2 = some r) : Den Try.prog 78 [(i6 a0), (eSA64u8 a1), (eA64u8 a2)] { r := (.tuple [(eSA64u8 r.1), (.bool r.2)]) } := by
  refine den_of (rs := [(eSA64u8 r.1), (.bool r.2)]) (ac := spec_l04Put_c) (L := spec_l04Put_L) (n := 85) (m := [(6, 1), (12, 2), (56, 2)]) (c := Try.f78.body.getD .skip) good Try.func78 (by kernel_rfl) (by kernel_rfl) Try.ntmps78 rfl rfl (by kernel_rfl) rfl rfl ?_
  refine a_st (σ' := ⟨[(0, (i6 a0)), (1, (eSA64u8 a1)), (2, (eA64u8 a2))], []⟩) (by kernel_rfl) ?_
  unfold spec_l04Put_c
  refine sr (vo 1500 (eA64u8 a2) rfl rfl (vp (eSA64u8 ([])) rfl (vp (.bool false) rfl (nx ⟨[(0, (i6 a0)), (1, (eSA64u8 a1)), (5, (ow 5))], [(5, (bk (eA64u8 a2)))]⟩ (by kernel_rfl) ?_))))
  obtain ⟨y181, hy182, hk183⟩ := bind_some h
  clear h
  refine a_join (emb := fun (s : (Vec Int 64)) => ⟨[(0, (i6 a0)), (1, (eSA64u8 a1)), (5, (ow 5))], [(5, (bk (eA64u8 s)))]⟩) (pre := fun s => s = y181) ?_ ?_
  · rintro x180 rfl
    have h := hk183
    refine a_st (σ' := ⟨[(0, (i6 a0)), (1, (eSA64u8 a1)), (5, (ow 5))], [(5, (bk (eA64u8 x180)))]⟩) (by kernel_rfl) (sr (vl (eA64u8 x180) rfl rfl rfl rfl rfl rfl ?_))
    obtain ⟨r368, hr369, h⟩ := bind_some h
    refine a_call (args := [(eA64u8 x180)]) (u := []) (r := (i6 r368)) rfl rfl (spec_l01Deg_ok x180 r368 hr369) rfl (vp (i6 r368) rfl (nx ⟨[(0, (i6 a0)), (1, (eSA64u8 a1)), (5, (ow 5)), (10, (i6 r368))], [(5, (bk (eA64u8 x180)))]⟩ (by kernel_rfl) (a_seq (sr (vp (i6 r368) rfl (vp (.bool ((decide (r368 < 0)))) rfl (nx ⟨[(0, (i6 a0)), (1, (eSA64u8 a1)), (5, (ow 5)), (10, (i6 r368)), (44, (.bool ((decide (r368 < 0)))))], [(5, (bk (eA64u8 x180)))]⟩ (by kernel_rfl) ?_)))))))
    cases hb370 : (decide (r368 < 0))
    · have h := ite_f hb370 h
      refine a_cond_f rfl (a_skip (a_next (σ' := ⟨[(0, (i6 a0)), (1, (eSA64u8 a1)), (5, (ow 5)), (10, (i6 r368))], [(5, (bk (eA64u8 x180)))]⟩) (by kernel_rfl) (a_seq (a_draw [⟨[], [], [], []⟩, ⟨[], [], [], []⟩, ⟨[5], [], [], []⟩, ⟨[], [], [], []⟩, ⟨[], [], [], []⟩, ⟨[5], [], [5], [4]⟩, ⟨[5], [], [], [4, 5]⟩, ⟨[], [], [], [3, 4, 5, 6]⟩, ⟨[], [], [], [3, 4, 5, 6, 7]⟩, ⟨[], [], [], [0, 1, 2, 3, 4, 5, 6, 7, 8]⟩, ⟨[2100], [2100], [2100], []⟩, ⟨[2100], [2100], [], [0, 1, 2, 3, 4, 5, 6, 7, 8, 9, 10]⟩] (by kernel_rfl) (dp (i6 a0) rfl (by kernel_rfl) (d_cons (vq (eA64u8 ((vrep 64 (0 : Int)))) rfl ⟨⟨_, rfl, rfl⟩, all_nil⟩ (d_next (by kernel_rfl) (d_cons ?_)))))))))
      refine vl (eA64u8 x180) rfl rfl rfl rfl rfl rfl (d_next (by kernel_rfl) (dp (i6 a0) rfl (by kernel_rfl) (dp (i6 r368) rfl (by kernel_rfl) (d_cons ?_))))
      obtain ⟨hc380, h⟩ := ifp_some h
      refine vq (.own 5 [r368.toNat] [r368.toNat * 1]) rfl hc380 (d_next (by kernel_rfl) (d_cons ?_))
      have hl381 : LdOk [r368.toNat] (eA64u8 x180) [r368.toNat * 1] 1 false (b8 (rd x180.1 r368.toNat)) := (.arr (vlt x180 hc380) rfl (.nil rfl rfl rfl))
      refine vq (b8 (rd x180.1 r368.toNat)) (ld_own (i := ⟨.int .u8, 1, 1, (.int .u8 0)⟩) rfl rfl rfl hl381) hl381.c (d_next (by kernel_rfl) (d_cons ?_))
      obtain ⟨r382, hr383, h⟩ := bind_some h
      refine a_call (args := [(i6 a0), (b8 (rd x180.1 r368.toNat))]) (u := []) (r := (b8 r382)) rfl rfl (spec_l01Inverse_ok a0 (rd x180.1 r368.toNat) r382 hr383) rfl (d_next (by kernel_rfl) (dp (i6 (IntKind.i64.wrap r382)) rfl (by kernel_rfl) (d_cons ?_)))
      obtain ⟨r384, hr385, h⟩ := bind_some h
      refine a_call (args := [(i6 a0), (eA64u8 ((vrep 64 (0 : Int)))), (eA64u8 x180), (i6 (IntKind.i64.wrap r382))]) (u := []) (r := (eA64u8 r384)) rfl rfl (spec_l01Add_ok a0 ((vrep 64 (0 : Int))) x180 (IntKind.i64.wrap r382) r384 hr385) rfl (d_next (by kernel_rfl) (d_cons (vo 2100 (eA64u8 ((vrep 64 (0 : Int)))) rfl rfl (d_next (by kernel_rfl) (d_cons (vs (eA64u8 r384) rfl rfl (fun _ => rfl) rfl rfl rfl rfl rfl rfl (d_next (by kernel_rfl) (d_nil (a_next (σ' := ⟨[(0, (i6 a0)), (1, (eSA64u8 a1)), (10, (i6 r368)), (11, (ow 11))], [(11, (bk (eA64u8 r384)))]⟩) (by kernel_rfl) ?_)))))))))
      refine sr (vu (.osl 6600) [(6600, (bk (.row 64 (([]).map eA64u8))))] rfl ⟨(Nat.le_of_ble_eq_true rfl), (Nat.le_of_ble_eq_true rfl), all_nil⟩ rfl (vp (.osl 6600) rfl (nx ⟨[(0, (i6 a0)), (1, (eSA64u8 a1)), (10, (i6 r368)), (11, (ow 11)), (12, (.osl 12))], [(11, (bk (eA64u8 r384))), (12, (bk (.row 64 (([]).map eA64u8))))]⟩ (by kernel_rfl) ?_)))
      obtain ⟨y463, hy464, hk465⟩ := bind_some h
      clear h
      refine a_join (emb := fun (s : (List (Vec Int 64))) => ⟨[(11, (ow 11)), (12, (.osl 12))], [(11, (bk (eA64u8 r384))), (12, (bk (.row 64 (s.map eA64u8))))]⟩) (pre := fun s => s = y463) ?_ ?_
      · rintro x462 rfl
        have h := hk465
        refine a_st (σ' := ⟨[(11, (ow 11)), (12, (.osl 12))], [(11, (bk (eA64u8 r384))), (12, (bk (.row 64 (x462.map eA64u8))))]⟩) (by kernel_rfl) (sr (vp (.osl 12) rfl (vl (eA64u8 r384) rfl rfl rfl rfl rfl rfl (vq (.sl 64 true (([r384]).map eA64u8)) rfl ⟨(Nat.le_of_ble_eq_true rfl), (Nat.le_of_ble_eq_true rfl), (all_cons ⟨(Nat.le_of_ble_eq_true rfl), rfl⟩ all_nil)⟩ ?_))))
        obtain ⟨hc542, h⟩ := ifp_some h
        refine vu (.osl 9400) [(9400, (bk (.row 64 (((x462 ++ ([r384]))).map eA64u8)))), (12, none)] (app_run (i := ⟨.arr 64 5, 64, 64, (eA64u8 (vrep 64 (0 : Int)))⟩) (f := eA64u8) (l := x462) (l2 := [r384]) rfl rfl rfl rfl (fun _ => rfl) rfl rfl) (app_c (f := eA64u8) (s := 64) (sz := 64) (by' := 64) (u := []) (id := 12) hc542 (.inr rfl) rfl rfl rfl) rfl (vu (eSA64u8 ((x462 ++ ([r384])))) [(9400, (bf (.row 64 (((x462 ++ ([r384]))).map eA64u8))))] rfl trivial rfl (vp (.bool false) rfl (nx _ rfl (a_ret ?_))))
        refine ⟨.inr rfl, ?_⟩
        rw [Try.results78]
        cases h
        exact ⟨_, _, _, _, _, rfl, trivial, .inl ⟨rfl, .inl rfl⟩, rfl, ⟨_, _, _, _, _, rfl, trivial, .inl ⟨rfl, .inl rfl⟩, rfl, rfl⟩⟩
      · have h := hy464
        refine sr (vp (i6 0) rfl (nx ⟨[(0, (i6 a0)), (1, (eSA64u8 a1)), (10, (i6 r368)), (11, (ow 11)), (12, (.osl 12)), (13, (i6 0))], [(11, (bk (eA64u8 r384))), (12, (bk (.row 64 (([]).map eA64u8))))]⟩ (by kernel_rfl) (a_block ?_)))
        refine a_loop (emb := fun (s : (Int × (List (Vec Int 64)))) => ⟨[(0, (i6 a0)), (1, (eSA64u8 a1)), (10, (i6 r368)), (11, (ow 11)), (12, (.osl 12)), (13, (i6 s.1))], [(11, (bk (eA64u8 r384))), (12, (bk (.row 64 (s.2.map eA64u8))))]⟩) (body := (fun s : (Int × (List (Vec Int 64))) => spec_l04Put_l2 a1 r368 a0 r384 s.1 s.2)) (G := fun q => some q = some y463) h rfl ?_ (by kernel_rfl)
        rintro X514 ⟨x489, x490⟩ x515 h hX516
        have h : spec_l04Put_l2 a1 r368 a0 r384 x489 x490 = some x515 := h
        refine a_st (σ' := ⟨[(0, (i6 a0)), (1, (eSA64u8 a1)), (10, (i6 r368)), (11, (ow 11)), (12, (.osl 12)), (13, (i6 x489))], [(11, (bk (eA64u8 r384))), (12, (bk (.row 64 (x490.map eA64u8))))]⟩) (by kernel_rfl) (a_seq (sr (vp (i6 x489) rfl (vp (eSA64u8 a1) rfl (vq (i6 (a1.length : Int)) (len_run rfl rfl) trivial (vp (.bool ((decide (x489 < (a1.length : Int))))) rfl (nx ⟨[(0, (i6 a0)), (1, (eSA64u8 a1)), (10, (i6 r368)), (11, (ow 11)), (12, (.osl 12)), (13, (i6 x489)), (60, (.bool ((decide (x489 < (a1.length : Int))))))], [(11, (bk (eA64u8 r384))), (12, (bk (.row 64 (x490.map eA64u8))))]⟩ (by kernel_rfl) ?_)))))))
        cases hb517 : (decide (x489 < (a1.length : Int)))
        · have h := ite_f hb517 h
          refine a_cond_f rfl (a_exit (t_exit ?_))
          cases h
          have h := hX516
          refine t_exit (b_exit ?_)
          exact j_leaf x490 (Option.some.inj h) (by kernel_rfl)
        · have h := ite_t hb517 h
          refine a_cond_t rfl (a_skip (a_next (σ' := ⟨[(0, (i6 a0)), (1, (eSA64u8 a1)), (10, (i6 r368)), (11, (ow 11)), (12, (.osl 12)), (13, (i6 x489))], [(11, (bk (eA64u8 r384))), (12, (bk (.row 64 (x490.map eA64u8))))]⟩) (by kernel_rfl) (a_seq (a_block (a_draw [⟨[], [], [12], []⟩, ⟨[], [], [], []⟩, ⟨[], [], [], []⟩, ⟨[], [], [], []⟩, ⟨[], [], [], [2, 3]⟩, ⟨[], [], [], [2, 3, 4]⟩, ⟨[11], [], [], []⟩, ⟨[], [], [], []⟩, ⟨[], [], [], []⟩, ⟨[], [], [], []⟩, ⟨[], [], [], [7, 8]⟩, ⟨[], [], [], [7, 8, 9, 10]⟩, ⟨[], [], [], [7, 8, 9, 10, 11]⟩, ⟨[], [], [], [7, 8, 9, 10, 11, 12]⟩, ⟨[], [], [], [7, 8, 9, 10, 11, 12, 13]⟩, ⟨[], [], [], [1, 2, 3, 4, 5, 6, 7, 8, 9, 10, 11, 12, 13, 14]⟩, ⟨[], [], [], [1, 2, 3, 4, 5, 6, 7, 8, 9, 10, 11, 12, 13, 14, 15]⟩, ⟨[12, 9000], [12, 9000], [9000], [0, 1, 2, 3, 4, 5, 6, 7, 8, 9, 10, 11, 12, 13, 14, 15, 16]⟩, ⟨[9000], [], [9000], [0, 1, 2, 3, 4, 5, 6, 7, 8, 9, 10, 11, 12, 13, 14, 15, 16, 17]⟩] (by kernel_rfl) (dp (.osl 12) rfl (by kernel_rfl) (dp (i6 a0) rfl (by kernel_rfl) (dp (eSA64u8 a1) rfl (by kernel_rfl) (dp (i6 x489) rfl (by kernel_rfl) ?_)))))))))
          refine d_cons ?_
          obtain ⟨hc529, h⟩ := ifp_some h
          refine vq (.ref (.row 64 (a1.map eA64u8)) [x489.toNat] [x489.toNat * 64]) rfl (lmap hc529) (d_next (by kernel_rfl) (d_cons ?_))
          have hl530 : LdOk [x489.toNat] (.row 64 (a1.map eA64u8)) [x489.toNat * 64] 64 true (eA64u8 (rd a1 x489.toNat)) := (.row (llt hc529) rfl (.nil rfl rfl rfl))
          refine vq (eA64u8 (rd a1 x489.toNat)) (ld_ref (i := ⟨.arr 64 5, 64, 64, (eA64u8 (vrep 64 (0 : Int)))⟩) rfl rfl hl530) hl530.c (d_next (by kernel_rfl) (d_cons (vl (eA64u8 r384) rfl rfl rfl rfl rfl rfl (d_next (by kernel_rfl) (dp (eSA64u8 a1) rfl (by kernel_rfl) (dp (i6 x489) rfl (by kernel_rfl) (dp (i6 r368) rfl (by kernel_rfl) (d_cons ?_))))))))
          obtain ⟨hc532, h⟩ := ifp_some h
          refine vq (.ref (.row 64 (a1.map eA64u8)) [x489.toNat] [x489.toNat * 64]) rfl (lmap hc532) (d_next (by kernel_rfl) (d_cons ?_))
          obtain ⟨hc533, h⟩ := ifp_some h
          refine vq (.ref (.row 64 (a1.map eA64u8)) [x489.toNat, r368.toNat] [x489.toNat * 64, r368.toNat * 1]) rfl hc533 (d_next (by kernel_rfl) (d_cons ?_))
          have hl534 : LdOk [x489.toNat, r368.toNat] (.row 64 (a1.map eA64u8)) [x489.toNat * 64, r368.toNat * 1] 1 false (b8 ((rd (rd a1 x489.toNat).1 r368.toNat))) := (.row (llt hc532) rfl (.arr (vlt (rd a1 x489.toNat) hc533) rfl (.nil rfl rfl rfl)))
          refine vq (b8 ((rd (rd a1 x489.toNat).1 r368.toNat))) (ld_ref (i := ⟨.int .u8, 1, 1, (.int .u8 0)⟩) rfl rfl hl534) hl534.c (d_next (by kernel_rfl) (dp (i6 (IntKind.i64.wrap ((rd (rd a1 x489.toNat).1 r368.toNat)))) rfl (by kernel_rfl) (d_cons ?_)))
          obtain ⟨x535, hx536, h⟩ := letp_some h
          refine a_val' (v := (i6 (IntKind.i64.wrap (0 - (IntKind.i64.wrap ((rd (rd a1 x489.toNat).1 r368.toNat))))))) (v' := (i6 x535)) (u := []) (u' := []) rfl (congrArg (fun z => ((i6 z) : AV)) hx536) rfl trivial rfl (d_next (by kernel_rfl) (d_cons ?_))
          obtain ⟨r537, hr538, h⟩ := bind_some h
          refine a_call (args := [(i6 a0), (eA64u8 (rd a1 x489.toNat)), (eA64u8 r384), (i6 x535)]) (u := []) (r := (eA64u8 r537)) rfl rfl (spec_l01Add_ok a0 (rd a1 x489.toNat) r384 x535 r537 hr538) rfl (d_next (by kernel_rfl) (d_cons (vq (.sl 64 true (([r537]).map eA64u8)) rfl ⟨(Nat.le_of_ble_eq_true rfl), (Nat.le_of_ble_eq_true rfl), (all_cons ⟨(Nat.le_of_ble_eq_true rfl), rfl⟩ all_nil)⟩ (d_next (by kernel_rfl) (d_cons ?_)))))
          obtain ⟨hc539, h⟩ := ifp_some h
          refine vu (.osl 9000) [(9000, (bk (.row 64 (((x490 ++ ([r537]))).map eA64u8)))), (12, none)] (app_run (i := ⟨.arr 64 5, 64, 64, (eA64u8 (vrep 64 (0 : Int)))⟩) (f := eA64u8) (l := x490) (l2 := [r537]) rfl rfl rfl rfl (fun _ => rfl) rfl rfl) (app_c (f := eA64u8) (s := 64) (sz := 64) (by' := 64) (u := []) (id := 12) hc539 (.inr rfl) rfl rfl rfl) rfl (d_next (by kernel_rfl) (dp (.osl 9000) rfl (by kernel_rfl) (d_nil (b_norm (a_next (σ' := ⟨[(0, (i6 a0)), (1, (eSA64u8 a1)), (10, (i6 r368)), (11, (ow 11)), (12, (.osl 12)), (13, (i6 x489))], [(11, (bk (eA64u8 r384))), (12, (bk (.row 64 (((x490 ++ ([r537]))).map eA64u8))))]⟩) (by kernel_rfl) (a_region (vp (i6 x489) rfl (vp (i6 (IntKind.i64.wrap (x489 + 1))) rfl (vp (i6 (IntKind.i64.wrap (x489 + 1))) rfl ?_)))))))))
          refine a_nil ?_
          cases h
          exact a_again (by kernel_rfl) hX516
    · have h := ite_t hb370 h
      refine a_cond_t rfl (sr (vp (eSA64u8 a1) rfl (vp (eSA64u8 a1) rfl (vp (.bool true) rfl (nx _ rfl (a_ret (t_ret ?_)))))))
      refine ⟨.inr rfl, ?_⟩
      rw [Try.results78]
      cases h
      exact ⟨_, _, _, _, _, rfl, trivial, .inl ⟨rfl, .inl rfl⟩, rfl, ⟨_, _, _, _, _, rfl, trivial, .inl ⟨rfl, .inl rfl⟩, rfl, rfl⟩⟩
  · have h := hy182
    refine sr (vp (i6 0) rfl (nx ⟨[(0, (i6 a0)), (1, (eSA64u8 a1)), (5, (ow 5)), (8, (i6 0))], [(5, (bk (eA64u8 a2)))]⟩ (by kernel_rfl) (a_block ?_)))
    refine a_loop (emb := fun (s : (Int × (Vec Int 64))) => ⟨[(0, (i6 a0)), (1, (eSA64u8 a1)), (5, (ow 5)), (8, (i6 s.1))], [(5, (bk (eA64u8 s.2)))]⟩) (body := (fun s : (Int × (Vec Int 64)) => spec_l04Put_l1 a1 a0 s.1 s.2)) (G := fun q => some q = some y181) h rfl ?_ (by kernel_rfl)
    rintro X304 ⟨x243, x244⟩ x305 h hX306
    have h : spec_l04Put_l1 a1 a0 x243 x244 = some x305 := h
    refine a_st (σ' := ⟨[(0, (i6 a0)), (1, (eSA64u8 a1)), (5, (ow 5)), (8, (i6 x243))], [(5, (bk (eA64u8 x244)))]⟩) (by kernel_rfl) (a_seq (sr (vp (i6 x243) rfl (vp (eSA64u8 a1) rfl (vq (i6 (a1.length : Int)) (len_run rfl rfl) trivial (vp (.bool ((decide (x243 < (a1.length : Int))))) rfl (nx ⟨[(0, (i6 a0)), (1, (eSA64u8 a1)), (5, (ow 5)), (8, (i6 x243)), (17, (.bool ((decide (x243 < (a1.length : Int))))))], [(5, (bk (eA64u8 x244)))]⟩ (by kernel_rfl) ?_)))))))
    cases hb307 : (decide (x243 < (a1.length : Int)))
    · have h := ite_f hb307 h
      refine a_cond_f rfl (a_exit (t_exit ?_))
      cases h
      have h := hX306
      refine t_exit (b_exit ?_)
      exact j_leaf x244 (Option.some.inj h) (by kernel_rfl)
    · have h := ite_t hb307 h
      refine a_cond_t rfl (a_skip (a_next (σ' := ⟨[(0, (i6 a0)), (1, (eSA64u8 a1)), (5, (ow 5)), (8, (i6 x243))], [(5, (bk (eA64u8 x244)))]⟩) (by kernel_rfl) ?_))
      obtain ⟨y336, hy337, hk338⟩ := bind_some h
      clear h
      refine a_join (emb := fun (s : (Vec Int 64)) => ⟨[(0, (i6 a0)), (1, (eSA64u8 a1)), (5, (ow 5)), (8, (i6 x243))], [(5, (bk (eA64u8 s)))]⟩) (pre := fun s => s = y336) ?_ ?_
      · rintro x335 rfl
        have h := hk338
        refine a_st (σ' := ⟨[(0, (i6 a0)), (1, (eSA64u8 a1)), (5, (ow 5)), (8, (i6 x243))], [(5, (bk (eA64u8 x335)))]⟩) (by kernel_rfl) (a_region (vp (i6 x243) rfl (vp (i6 (IntKind.i64.wrap (x243 + 1))) rfl (vp (i6 (IntKind.i64.wrap (x243 + 1))) rfl (a_nil ?_)))))
        cases h
        exact a_again (by kernel_rfl) hX306
      · have h := hy337
        refine a_block (sr (vp (eSA64u8 a1) rfl (vp (i6 x243) rfl ?_)))
        obtain ⟨hc339, h⟩ := ifp_some h
        refine vq (.ref (.row 64 (a1.map eA64u8)) [x243.toNat] [x243.toNat * 64]) rfl (lmap hc339) ?_
        have hl340 : LdOk [x243.toNat] (.row 64 (a1.map eA64u8)) [x243.toNat * 64] 64 true (eA64u8 (rd a1 x243.toNat)) := (.row (llt hc339) rfl (.nil rfl rfl rfl))
        refine vq (eA64u8 (rd a1 x243.toNat)) (ld_ref (i := ⟨.arr 64 5, 64, 64, (eA64u8 (vrep 64 (0 : Int)))⟩) rfl rfl hl340) hl340.c ?_
        obtain ⟨r341, hr342, h⟩ := bind_some h
        refine a_call (args := [(eA64u8 (rd a1 x243.toNat))]) (u := []) (r := (i6 r341)) rfl rfl (spec_l01Deg_ok (rd a1 x243.toNat) r341 hr342) rfl (vp (i6 r341) rfl (nx ⟨[(0, (i6 a0)), (1, (eSA64u8 a1)), (5, (ow 5)), (8, (i6 x243)), (9, (i6 r341))], [(5, (bk (eA64u8 x244)))]⟩ (by kernel_rfl) (sr (vp (i6 r341) rfl ?_))))
        obtain ⟨hc343, h⟩ := ifp_some h
        refine vq (.own 5 [r341.toNat] [r341.toNat * 1]) rfl hc343 ?_
        have hl344 : LdOk [r341.toNat] (eA64u8 x244) [r341.toNat * 1] 1 false (b8 (rd x244.1 r341.toNat)) := (.arr (vlt x244 hc343) rfl (.nil rfl rfl rfl))
        refine vq (b8 (rd x244.1 r341.toNat)) (ld_own (i := ⟨.int .u8, 1, 1, (.int .u8 0)⟩) rfl rfl rfl hl344) hl344.c (vp (.bool (((rd x244.1 r341.toNat) != 0))) rfl (nx ⟨[(0, (i6 a0)), (1, (eSA64u8 a1)), (5, (ow 5)), (8, (i6 x243)), (9, (i6 r341)), (28, (.bool (((rd x244.1 r341.toNat) != 0))))], [(5, (bk (eA64u8 x244)))]⟩ (by kernel_rfl) ?_))
        cases hb345 : ((rd x244.1 r341.toNat) != 0)
        · have h := ite_f hb345 h
          refine a_cond_f rfl (a_skip (b_norm ?_))
          exact j_leaf x244 (Option.some.inj h) (by kernel_rfl)
        · have h := ite_t hb345 h
          refine a_cond_t rfl (a_draw [⟨[], [], [], []⟩, ⟨[5], [], [], []⟩, ⟨[], [], [], []⟩, ⟨[], [], [], []⟩, ⟨[], [], [], [2, 3]⟩, ⟨[], [], [], [2, 3, 4]⟩, ⟨[], [], [], []⟩, ⟨[5], [], [5], [6]⟩, ⟨[5], [], [], [6, 7]⟩, ⟨[], [], [], [6, 7, 8]⟩, ⟨[], [], [], [6, 7, 8, 9]⟩, ⟨[], [], [], [0, 1, 2, 3, 4, 5, 6, 7, 8, 9, 10]⟩, ⟨[5], [5], [], [0, 1, 2, 3, 4, 5, 6, 7, 8, 9, 10, 11]⟩] (by kernel_rfl) (dp (i6 a0) rfl (by kernel_rfl) (d_cons (vl (eA64u8 x244) rfl rfl rfl rfl rfl rfl (d_next (by kernel_rfl) (dp (eSA64u8 a1) rfl (by kernel_rfl) (dp (i6 x243) rfl (by kernel_rfl) (d_cons ?_))))))))
          obtain ⟨hc357, h⟩ := ifp_some h
          refine vq (.ref (.row 64 (a1.map eA64u8)) [x243.toNat] [x243.toNat * 64]) rfl (lmap hc357) (d_next (by kernel_rfl) (d_cons ?_))
          have hl358 : LdOk [x243.toNat] (.row 64 (a1.map eA64u8)) [x243.toNat * 64] 64 true (eA64u8 (rd a1 x243.toNat)) := (.row (llt hc357) rfl (.nil rfl rfl rfl))
          refine vq (eA64u8 (rd a1 x243.toNat)) (ld_ref (i := ⟨.arr 64 5, 64, 64, (eA64u8 (vrep 64 (0 : Int)))⟩) rfl rfl hl358) hl358.c (d_next (by kernel_rfl) (dp (i6 r341) rfl (by kernel_rfl) (d_cons ?_)))
          obtain ⟨hc359, h⟩ := ifp_some h
          refine vq (.own 5 [r341.toNat] [r341.toNat * 1]) rfl hc359 (d_next (by kernel_rfl) (d_cons ?_))
          have hl360 : LdOk [r341.toNat] (eA64u8 x244) [r341.toNat * 1] 1 false (b8 (rd x244.1 r341.toNat)) := (.arr (vlt x244 hc359) rfl (.nil rfl rfl rfl))
          refine vq (b8 (rd x244.1 r341.toNat)) (ld_own (i := ⟨.int .u8, 1, 1, (.int .u8 0)⟩) rfl rfl rfl hl360) hl360.c (d_next (by kernel_rfl) (dp (i6 (IntKind.i64.wrap (rd x244.1 r341.toNat))) rfl (by kernel_rfl) (d_cons ?_)))
          obtain ⟨x361, hx362, h⟩ := letp_some h
          refine a_val' (v := (i6 (IntKind.i64.wrap (0 - (IntKind.i64.wrap (rd x244.1 r341.toNat)))))) (v' := (i6 x361)) (u := []) (u' := []) rfl (congrArg (fun z => ((i6 z) : AV)) hx362) rfl trivial rfl (d_next (by kernel_rfl) (d_cons ?_))
          obtain ⟨r363, hr364, h⟩ := bind_some h
          refine a_call (args := [(i6 a0), (eA64u8 x244), (eA64u8 (rd a1 x243.toNat)), (i6 x361)]) (u := []) (r := (eA64u8 r363)) rfl rfl (spec_l01Add_ok a0 x244 (rd a1 x243.toNat) x361 r363 hr364) rfl (d_next (by kernel_rfl) (d_cons (vs (eA64u8 r363) rfl rfl (fun _ => rfl) rfl rfl rfl rfl rfl rfl (d_next (by kernel_rfl) (d_nil (b_norm ?_))))))
          exact j_leaf r363 (Option.some.inj h) (by kernel_rfl)
def spec_TorsionNumber_c : ACode := (.seq (.region 0 [q 4 (.box 26 (t 1)), q 5 (.box 26 (t 2)), q 6 (.asg 0 (.const (.int .i64 0)) 2), q 7 (.asg 0 (.const (.int .i64 0)) 2)] false) (.seq (.seq (.region 1 [q 14 (.mov (t 0)), q 15 (.load 26 (t 5)), q 16 (.load 26 (t 4)), q 17 (.bslice 0 38 1 [(0, (t 16))]), q 18 (.call 0 (.func 65) [(t 14), (t 15), (t 17)]), q 8 (.asg 0 (t 18) 2)] false) (.seq (.region 2 [q 19 (.mov (t 8)), q 20 (.bin .neq 2 (t 19) (.const (.int .i64 0)))] false) (.cond (t 20) (.seq (.region 3 [q 21 (.mov (t 8)), q 6 (.asg 0 (.const (.int .i64 0)) 2), q 7 (.asg 0 (t 21) 2)] false) .ret) .skip))) (.seq (.region 4 [q 22 (.bslice 0 38 0 []), q 9 (.asg 1 (t 22) 38)] false) (.seq (.seq (.region 5 [q 10 (.asg 0 (.const (.int .i64 0)) 2)] false) (.block 0 (.loop (.seq (.seq (.region 6 [q 23 (.mov (t 10)), q 24 (.load 26 (t 5)), q 25 (.call 0 (.func 75) [(t 24)]), q 26 (.bin .lss 2 (t 23) (t 25))] false) (.cond (t 26) .skip (.exit 0))) (.seq (.block 1 (.seq (.region 8 [q 29 (.build 26 []), q 11 (.alloc 26), ⟨none, .store 26 (t 11) (t 29), none, []⟩] false) (.seq (.region 9 [q 30 (.mov (t 10)), q 31 (.indexAddr 26 (t 11) (t 30)), ⟨none, .store 5 (t 31) (.const (.int .u8 1)), none, []⟩] false) (.seq (.region 10 [q 33 (.mov (t 0)), q 34 (.mov (t 9)), q 35 (.mov (t 0)), q 36 (.load 26 (t 4)), q 37 (.load 26 (t 11)), q 38 (.load 26 (t 5)), q 39 (.call 0 (.func 79) [(t 35), (t 36), (t 37), (t 38)]), q 40 (.call 0 (.func 78) [(t 33), (t 34), (t 39)]), q 32 (.mov (t 40)), q 41 (.extract (t 32) 0), q 42 (.extract (t 32) 1), q 12 (.asg 1 (t 41) 38), q 13 (.asg 0 (t 42) 4)] false) (.region 11 [q 43 (.mov (t 12)), q 9 (.asg 1 (t 43) 38)] false))))) (.region 7 [q 27 (.mov (t 10)), q 28 (.bin .add 2 (t 27) (.const (.int .i64 1))), q 10 (.asg 0 (t 28) 2)] false)))))) (.seq (.region 12 [q 44 (.load 26 (t 5)), q 45 (.call 0 (.func 75) [(t 44)]), q 46 (.mov (t 9)), q 47 (.blt 0 .len [(t 46)] [38]), q 48 (.bin .sub 2 (t 45) (t 47)), q 6 (.asg 0 (t 48) 2), q 7 (.asg 0 (.const (.int .i64 0)) 2)] false) .ret)))))
def spec_TorsionNumber_L : Live := [(0, [0, 1, 2]), (1, [0, 4, 5]), (2, [0, 4, 5, 8]), (3, [8]), (4, [0, 4, 5]), (5, [0, 4, 5, 9]), (6, [0, 4, 5, 9, 10]), (7, [0, 4, 5, 9, 10]), (8, [0, 4, 5, 9, 10]), (9, [0, 4, 5, 9, 10, 11]), (10, [0, 4, 5, 9, 10, 11]), (11, [0, 4, 5, 10, 12]), (12, [5, 9]), (100020, [0, 4, 5, 8, 20]), (100026, [0, 4, 5, 9, 10, 26])]
noncomputable def spec_TorsionNumber_l1 (a2 : (Vec Int 64)) (a0 : Int) (a1 : (Vec Int 64)) (x72 : (List (Vec Int 64))) (x73 : Int) : Option (((List (Vec Int 64)) × Int) ⊕ (List (Vec Int 64))) :=
  (Option.bind (spec_l01Deg a2) fun r92 => (if (decide (x73 < r92)) then (ifp (0 ≤ x73 ∧ x73 < ((64 : Nat) : Int)) ((Option.bind (spec_l04Act a0 a1 ((vset ((vrep 64 (0 : Int))) x73.toNat 1)) a2) fun r101 => (Option.bind (spec_l04Put a0 x72 r101) fun r103 => (some (.inl ((r103.1, IntKind.i64.wrap (x73 + 1))))))))) else (some (.inr x72))))
noncomputable def spec_TorsionNumber (a0 : Int) (a1 : (Vec Int 64)) (a2 : (Vec Int 64)) : Option (Int × Int) :=
  (Option.bind (spec_l02Modulus a0 a2 ([a1])) fun r3 => (if (r3 != 0) then (some (0, r3)) else (Option.bind (α := (List (Vec Int 64))) ((loopM (fun s : ((List (Vec Int 64)) × Int) => spec_TorsionNumber_l1 a2 a0 a1 s.1 s.2) ([], 0))) fun x54 => (Option.bind (spec_l01Deg a2) fun r107 => (some ((IntKind.i64.wrap (r107 - (x54.length : Int)), 0)))))))
theorem spec_TorsionNumber_ok (a0 : Int) (a1 : (Vec Int 64)) (a2 : (Vec Int 64)) (r : (Int × Int)) (h : spec_TorsionNumber a0 a1 a2 = some r) : Den Try.prog 37 [(i6 a0), (eA64u8 a1), (eA64u8 a2)] { r := (.tuple [(i6 r.1), (i6 r.2)]) } := by
  refine den_of (rs := [(i6 r.1), (i6 r.2)]) (ac := spec_TorsionNumber_c) (L := spec_TorsionNumber_L) (n := 49) (m := [(9, 1), (12, 1)]) (c := Try.f37.body.getD .skip) good Try.func37 (by kernel_rfl) (by kernel_rfl) Try.ntmps37 rfl rfl (by kernel_rfl) rfl rfl ?_
  refine a_st (σ' := ⟨[(0, (i6 a0)), (1, (eA64u8 a1)), (2, (eA64u8 a2))], []⟩) (by kernel_rfl) ?_
  unfold spec_TorsionNumber_c
  refine sr (vo 1400 (eA64u8 a1) rfl rfl (vo 1500 (eA64u8 a2) rfl rfl (vp (i6 0) rfl (vp (i6 0) rfl (nx ⟨[(0, (i6 a0)), (4, (ow 4)), (5, (ow 5))], [(4, (bk (eA64u8 a1))), (5, (bk (eA64u8 a2)))]⟩ (by kernel_rfl) (a_seq (sr (vp (i6 a0) rfl (vl (eA64u8 a2) rfl rfl rfl rfl rfl rfl ?_)))))))))
  refine vl (eA64u8 a1) rfl rfl rfl rfl rfl rfl (vq (.sl 64 true (([a1]).map eA64u8)) rfl ⟨(Nat.le_of_ble_eq_true rfl), (Nat.le_of_ble_eq_true rfl), (all_cons ⟨(Nat.le_of_ble_eq_true rfl), rfl⟩ all_nil)⟩ ?_)
  obtain ⟨r3, hr4, h⟩ := bind_some h
  refine a_call (args := [(i6 a0), (eA64u8 a2), (.sl 64 true (([a1]).map eA64u8))]) (u := []) (r := (i6 r3)) rfl rfl (Den.args (spec_l02Modulus_ok a0 a2 ([a1]) r3 hr4) rfl rfl (.cons (.refl _) (.cons (.refl _) (.cons (.loose _) .nil)))) rfl (vp (i6 r3) rfl (nx ⟨[(0, (i6 a0)), (4, (ow 4)), (5, (ow 5)), (8, (i6 r3))], [(4, (bk (eA64u8 a1))), (5, (bk (eA64u8 a2)))]⟩ (by kernel_rfl) (sr (vp (i6 r3) rfl (vp (.bool (r3 != 0)) rfl (nx ⟨[(0, (i6 a0)), (4, (ow 4)), (5, (ow 5)), (8, (i6 r3)), (20, (.bool (r3 != 0)))], [(4, (bk (eA64u8 a1))), (5, (bk (eA64u8 a2)))]⟩ (by kernel_rfl) ?_))))))
  cases hb5 : (r3 != 0)
  · have h := ite_f hb5 h
    refine a_cond_f rfl (a_skip (a_next (σ' := ⟨[(0, (i6 a0)), (4, (ow 4)), (5, (ow 5))], [(4, (bk (eA64u8 a1))), (5, (bk (eA64u8 a2)))]⟩) (by kernel_rfl) (sr (vq (.sl 64 true (([]).map eA64u8)) rfl ⟨(Nat.le_of_ble_eq_true rfl), (Nat.le_of_ble_eq_true rfl), all_nil⟩ (vp (eSA64u8 ([])) rfl (nx ⟨[(0, (i6 a0)), (4, (ow 4)), (5, (ow 5)), (9, (eSA64u8 ([])))], [(4, (bk (eA64u8 a1))), (5, (bk (eA64u8 a2)))]⟩ (by kernel_rfl) ?_))))))
    obtain ⟨y55, hy56, hk57⟩ := bind_some h
    clear h
    refine a_join (emb := fun (s : (List (Vec Int 64))) => ⟨[(5, (ow 5)), (9, (eSA64u8 s))], [(5, (bk (eA64u8 a2)))]⟩) (pre := fun s => s = y55) ?_ ?_
    · rintro x54 rfl
      have h := hk57
      refine a_st (σ' := ⟨[(5, (ow 5)), (9, (eSA64u8 x54))], [(5, (bk (eA64u8 a2)))]⟩) (by kernel_rfl) (sr (vl (eA64u8 a2) rfl rfl rfl rfl rfl rfl ?_))
      obtain ⟨r107, hr108, h⟩ := bind_some h
      refine a_call (args := [(eA64u8 a2)]) (u := []) (r := (i6 r107)) rfl rfl (spec_l01Deg_ok a2 r107 hr108) rfl (vp (eSA64u8 x54) rfl (vq (i6 (x54.length : Int)) (len_run rfl rfl) trivial (vp (i6 (IntKind.i64.wrap (r107 - (x54.length : Int)))) rfl (vp (i6 (IntKind.i64.wrap (r107 - (x54.length : Int)))) rfl (vp (i6 0) rfl (nx _ rfl (a_ret ?_)))))))
      refine ⟨.inr rfl, ?_⟩
      rw [Try.results37]
      cases h
      exact ⟨_, _, _, _, _, rfl, trivial, .inl ⟨rfl, .inl rfl⟩, rfl, ⟨_, _, _, _, _, rfl, trivial, .inl ⟨rfl, .inl rfl⟩, rfl, rfl⟩⟩
    · have h := hy56
      refine sr (vp (i6 0) rfl (nx ⟨[(0, (i6 a0)), (4, (ow 4)), (5, (ow 5)), (9, (eSA64u8 ([]))), (10, (i6 0))], [(4, (bk (eA64u8 a1))), (5, (bk (eA64u8 a2)))]⟩ (by kernel_rfl) (a_block ?_)))
      refine a_loop (emb := fun (s : ((List (Vec Int 64)) × Int)) => ⟨[(0, (i6 a0)), (4, (ow 4)), (5, (ow 5)), (9, (eSA64u8 s.1)), (10, (i6 s.2))], [(4, (bk (eA64u8 a1))), (5, (bk (eA64u8 a2)))]⟩) (body := (fun s : ((List (Vec Int 64)) × Int) => spec_TorsionNumber_l1 a2 a0 a1 s.1 s.2)) (G := fun q => some q = some y55) h rfl ?_ (by kernel_rfl)
      rintro X88 ⟨x72, x73⟩ x89 h hX90
      have h : spec_TorsionNumber_l1 a2 a0 a1 x72 x73 = some x89 := h
      refine a_st (σ' := ⟨[(0, (i6 a0)), (4, (ow 4)), (5, (ow 5)), (9, (eSA64u8 x72)), (10, (i6 x73))], [(4, (bk (eA64u8 a1))), (5, (bk (eA64u8 a2)))]⟩) (by kernel_rfl) (a_seq (sr (vp (i6 x73) rfl (vl (eA64u8 a2) rfl rfl rfl rfl rfl rfl ?_))))
      obtain ⟨r92, hr93, h⟩ := bind_some h
      refine a_call (args := [(eA64u8 a2)]) (u := []) (r := (i6 r92)) rfl rfl (spec_l01Deg_ok a2 r92 hr93) rfl (vp (.bool ((decide (x73 < r92)))) rfl (nx ⟨[(0, (i6 a0)), (4, (ow 4)), (5, (ow 5)), (9, (eSA64u8 x72)), (10, (i6 x73)), (26, (.bool ((decide (x73 < r92)))))], [(4, (bk (eA64u8 a1))), (5, (bk (eA64u8 a2)))]⟩ (by kernel_rfl) ?_))
      cases hb94 : (decide (x73 < r92))
      · have h := ite_f hb94 h
        refine a_cond_f rfl (a_exit (t_exit ?_))
        cases h
        have h := hX90
        refine t_exit (b_exit ?_)
        exact j_leaf x72 (Option.some.inj h) (by kernel_rfl)
      · have h := ite_t hb94 h
        refine a_cond_t rfl (a_skip (a_next (σ' := ⟨[(0, (i6 a0)), (4, (ow 4)), (5, (ow 5)), (9, (eSA64u8 x72)), (10, (i6 x73))], [(4, (bk (eA64u8 a1))), (5, (bk (eA64u8 a2)))]⟩) (by kernel_rfl) (a_seq (a_block (sr (vq (eA64u8 ((vrep 64 (0 : Int)))) rfl ⟨⟨_, rfl, rfl⟩, all_nil⟩ (vo 2100 (eA64u8 ((vrep 64 (0 : Int)))) rfl rfl (vs (eA64u8 ((vrep 64 (0 : Int)))) rfl rfl (fun _ => rfl) rfl rfl rfl rfl rfl rfl (nx ⟨[(0, (i6 a0)), (4, (ow 4)), (5, (ow 5)), (9, (eSA64u8 x72)), (10, (i6 x73)), (11, (ow 11))], [(4, (bk (eA64u8 a1))), (5, (bk (eA64u8 a2))), (11, (bk (eA64u8 ((vrep 64 (0 : Int))))))]⟩ (by kernel_rfl) ?_)))))))))
        refine sr (vp (i6 x73) rfl ?_)
        obtain ⟨hc96, h⟩ := ifp_some h
        refine vq (.own 11 [x73.toNat] [x73.toNat * 1]) rfl hc96 ?_
        have hs97 : StOk [x73.toNat] (eA64u8 ((vrep 64 (0 : Int)))) [x73.toNat * 1] 1 (b8 1) (eA64u8 ((vset ((vrep 64 (0 : Int))) x73.toNat 1))) := (.arr (y := 1) (vlt ((vrep 64 (0 : Int))) hc96) rfl (.nil rfl rfl rfl rfl))
        refine vu .top [(11, (bk (eA64u8 ((vset ((vrep 64 (0 : Int))) x73.toNat 1)))))] (st_own (i := ⟨.int .u8, 1, 1, (.int .u8 0)⟩) rfl rfl (fun _ => rfl) rfl hs97) (hs97.c rfl) rfl (nx ⟨[(0, (i6 a0)), (4, (ow 4)), (5, (ow 5)), (9, (eSA64u8 x72)), (10, (i6 x73)), (11, (ow 11))], [(4, (bk (eA64u8 a1))), (5, (bk (eA64u8 a2))), (11, (bk (eA64u8 ((vset ((vrep 64 (0 : Int))) x73.toNat 1)))))]⟩ (by kernel_rfl) (sr (vp (i6 a0) rfl (vp (eSA64u8 x72) rfl (vp (i6 a0) rfl (vl (eA64u8 a1) rfl rfl rfl rfl rfl rfl (vl (eA64u8 ((vset ((vrep 64 (0 : Int))) x73.toNat 1))) rfl rfl rfl rfl rfl rfl (vl (eA64u8 a2) rfl rfl rfl rfl rfl rfl ?_))))))))
        obtain ⟨r101, hr102, h⟩ := bind_some h
        refine a_call (args := [(i6 a0), (eA64u8 a1), (eA64u8 ((vset ((vrep 64 (0 : Int))) x73.toNat 1))), (eA64u8 a2)]) (u := []) (r := (eA64u8 r101)) rfl rfl (spec_l04Act_ok a0 a1 ((vset ((vrep 64 (0 : Int))) x73.toNat 1)) a2 r101 hr102) rfl ?_
        obtain ⟨r103, hr104, h⟩ := bind_some h
        refine a_call (args := [(i6 a0), (eSA64u8 x72), (eA64u8 r101)]) (u := []) (r := (.tuple [(eSA64u8 r103.1), (.bool r103.2)])) rfl rfl (spec_l04Put_ok a0 x72 r101 r103 hr104) rfl (vp (.tuple [(eSA64u8 r103.1), (.bool r103.2)]) rfl (vb (eSA64u8 r103.1) rfl rfl (vb (.bool r103.2) rfl rfl (vp (eSA64u8 r103.1) rfl (vp (.bool r103.2) rfl (nx ⟨[(0, (i6 a0)), (4, (ow 4)), (5, (ow 5)), (10, (i6 x73)), (12, (eSA64u8 r103.1))], [(4, (bk (eA64u8 a1))), (5, (bk (eA64u8 a2)))]⟩ (by kernel_rfl) (a_region (vp (eSA64u8 r103.1) rfl (vp (eSA64u8 r103.1) rfl ?_)))))))))
        refine a_nil (b_norm (a_next (σ' := ⟨[(0, (i6 a0)), (4, (ow 4)), (5, (ow 5)), (9, (eSA64u8 r103.1)), (10, (i6 x73))], [(4, (bk (eA64u8 a1))), (5, (bk (eA64u8 a2)))]⟩) (by kernel_rfl) (a_region (vp (i6 x73) rfl (vp (i6 (IntKind.i64.wrap (x73 + 1))) rfl (vp (i6 (IntKind.i64.wrap (x73 + 1))) rfl (a_nil ?_)))))))
        cases h
        exact a_again (by kernel_rfl) hX90
  · have h := ite_t hb5 h
    refine a_cond_t rfl (sr (vp (i6 r3) rfl (vp (i6 0) rfl (vp (i6 r3) rfl (nx _ rfl (a_ret (t_ret ?_)))))))
    refine ⟨.inr rfl, ?_⟩
    rw [Try.results37]
    cases h
    exact ⟨_, _, _, _, _, rfl, trivial, .inl ⟨rfl, .inl rfl⟩, rfl, ⟨_, _, _, _, _, rfl, trivial, .inl ⟨rfl, .inl rfl⟩, rfl, rfl⟩⟩
def impl_isPrime_c : ACode := (.seq (.region 0 [q 2 (.asg 0 (.const (.bool false)) 4)] false) (.seq (.region 1 [q 3 (.mov (t 0)), q 4 (.bin .eql 2 (t 3) (.const (.int .i64 2))), q 5 (.mov (t 4)), ⟨some 6, .mov (t 0), some (5, false), []⟩, ⟨some 7, .bin .eql 2 (t 6) (.const (.int .i64 3)), some (5, false), []⟩, q 8 (.pick (t 5) (.const (.bool true)) (t 7)), q 9 (.mov (t 8)), ⟨some 10, .mov (t 0), some (9, false), []⟩, ⟨some 11, .bin .eql 2 (t 10) (.const (.int .i64 5)), some (9, false), []⟩, q 12 (.pick (t 9) (.const (.bool true)) (t 11)), q 13 (.mov (t 12)), ⟨some 14, .mov (t 0), some (13, false), []⟩, ⟨some 15, .bin .eql 2 (t 14) (.const (.int .i64 7)), some (13, false), []⟩, q 16 (.pick (t 13) (.const (.bool true)) (t 15)), q 2 (.asg 0 (t 16) 4)] false) .ret))
def impl_isPrime_L : Live := [(0, [0]), (1, [0])]
noncomputable def impl_isPrime (a0 : Int) : Option Bool :=
  (if (a0 == 2) then (some true) else (if (a0 == 3) then (some true) else (if (a0 == 5) then (some true) else (some (a0 == 7)))))
theorem impl_isPrime_ok (a0 : Int) (r : Bool) (h : impl_isPrime a0 = some r) : Den Try.prog 105 [(i6 a0)] { r := (.bool r) } := by
  refine den_of (rs := [(.bool r)]) (ac := impl_isPrime_c) (L := impl_isPrime_L) (n := 17) (m := []) (c := Try.f105.body.getD .skip) good Try.func105 (by kernel_rfl) (by kernel_rfl) Try.ntmps105 rfl rfl (by kernel_rfl) rfl rfl ?_
  refine a_st (σ' := ⟨[(0, (i6 a0))], []⟩) (by kernel_rfl) ?_
  unfold impl_isPrime_c
  refine sr (vp (.bool false) rfl (nx ⟨[(0, (i6 a0))], []⟩ (by kernel_rfl) (sr (vp (i6 a0) rfl (vp (.bool (a0 == 2)) rfl (vp (.bool (a0 == 2)) rfl ?_))))))
  cases hb1 : (a0 == 2)
  · have h := ite_f hb1 h
    refine gp (i6 a0) rfl rfl (gp (.bool (a0 == 3)) rfl rfl (vp (.bool (a0 == 3)) rfl (vp (.bool (a0 == 3)) rfl ?_)))
    cases hb2 : (a0 == 3)
    · have h := ite_f hb2 h
      refine gp (i6 a0) rfl rfl (gp (.bool (a0 == 5)) rfl rfl (vp (.bool (a0 == 5)) rfl (vp (.bool (a0 == 5)) rfl ?_)))
      cases hb3 : (a0 == 5)
      · have h := ite_f hb3 h
        refine gp (i6 a0) rfl rfl (gp (.bool (a0 == 7)) rfl rfl (vp (.bool (a0 == 7)) rfl (vp (.bool (a0 == 7)) rfl (nx _ rfl (a_ret ?_)))))
        refine ⟨.inr rfl, ?_⟩
        rw [Try.results105]
        cases h
        exact ⟨_, _, _, _, _, rfl, trivial, .inl ⟨rfl, .inl rfl⟩, rfl, rfl⟩
      · have h := ite_t hb3 h
        refine a_gskip rfl (a_gskip rfl (vp (.bool true) rfl (vp (.bool true) rfl (nx _ rfl (a_ret ?_)))))
        refine ⟨.inr rfl, ?_⟩
        rw [Try.results105]
        cases h
        exact ⟨_, _, _, _, _, rfl, trivial, .inl ⟨rfl, .inl rfl⟩, rfl, rfl⟩
    · have h := ite_t hb2 h
      refine a_gskip rfl (a_gskip rfl (vp (.bool true) rfl (vp (.bool true) rfl (a_gskip rfl (a_gskip rfl (vp (.bool true) rfl (vp (.bool true) rfl (nx _ rfl (a_ret ?_)))))))))
      refine ⟨.inr rfl, ?_⟩
      rw [Try.results105]
      cases h
      exact ⟨_, _, _, _, _, rfl, trivial, .inl ⟨rfl, .inl rfl⟩, rfl, rfl⟩
  · have h := ite_t hb1 h
    refine a_gskip rfl (a_gskip rfl (vp (.bool true) rfl (vp (.bool true) rfl (a_gskip rfl (a_gskip rfl (vp (.bool true) rfl (vp (.bool true) rfl (a_gskip rfl (a_gskip rfl ?_)))))))))
    refine vp (.bool true) rfl (vp (.bool true) rfl (nx _ rfl (a_ret ?_)))
    refine ⟨.inr rfl, ?_⟩
    rw [Try.results105]
    cases h
    exact ⟨_, _, _, _, _, rfl, trivial, .inl ⟨rfl, .inl rfl⟩, rfl, rfl⟩
def impl_isPoly_c1_of_p_c : ACode := (.seq (.region 0 [q 3 (.asg 0 (.const (.bool false)) 4)] false) (.seq (.region 1 [q 4 (.mov (t 0)), q 5 (.conv 5 2 (t 4)), q 6 (.load 2 (t 1)), q 7 (.bin .lss 2 (t 5) (t 6)), q 3 (.asg 0 (t 7) 4)] false) .ret))
def impl_isPoly_c1_of_p_L : Live := [(0, [0, 1]), (1, [0, 1])]
noncomputable def impl_isPoly_c1_of_p (a0 : Int) (a1 : Int) : Option Bool :=
  (some ((decide ((IntKind.i64.wrap a0) < a1))))
theorem impl_isPoly_c1_of_p_ok (a0 : Int) (a1 : Int) (r : Bool) (h : impl_isPoly_c1_of_p a0 a1 = some r) : Den Try.prog 179 [(b8 a0), (.ref (i6 a1) [] [])] { r := (.bool r) } := by
  refine den_of (rs := [(.bool r)]) (ac := impl_isPoly_c1_of_p_c) (L := impl_isPoly_c1_of_p_L) (n := 8) (m := []) (c := Try.f179.body.getD .skip) good Try.func179 (by kernel_rfl) (by kernel_rfl) Try.ntmps179 rfl rfl (by kernel_rfl) rfl rfl ?_
  refine a_st (σ' := ⟨[(0, (b8 a0)), (1, (.ref (i6 a1) [] []))], []⟩) (by kernel_rfl) ?_
  unfold impl_isPoly_c1_of_p_c
  refine sr (vp (.bool false) rfl (nx ⟨[(0, (b8 a0)), (1, (.ref (i6 a1) [] []))], []⟩ (by kernel_rfl) (sr (vp (b8 a0) rfl (vp (i6 (IntKind.i64.wrap a0)) rfl ?_)))))
  have hl1 : LdOk [] (i6 a1) [] 1 false (i6 a1) := (.nil rfl rfl rfl)
  refine vq (i6 a1) (ld_ref (i := ⟨.int .i64, 1, 8, (.int .i64 0)⟩) rfl rfl hl1) hl1.c (vp (.bool ((decide ((IntKind.i64.wrap a0) < a1)))) rfl (vp (.bool ((decide ((IntKind.i64.wrap a0) < a1)))) rfl (nx _ rfl (a_ret ?_))))
  refine ⟨.inr rfl, ?_⟩
  rw [Try.results179]
  cases h
  exact ⟨_, _, _, _, _, rfl, trivial, .inl ⟨rfl, .inl rfl⟩, rfl, rfl⟩
def impl_areAll_byte__c1_of_p_c : ACode := (.seq (.region 0 [q 3 (.asg 0 (.const (.bool false)) 4)] false) (.seq (.region 1 [q 4 (.load 168 (t 1)), q 5 (.mov (t 0)), q 6 (.call 0 (t 4) [(t 5)]), q 7 (.un .not (t 6)), q 3 (.asg 0 (t 7) 4)] false) .ret))
def impl_areAll_byte__c1_of_p_L : Live := [(0, [0, 1]), (1, [0, 1])]
noncomputable def impl_areAll_byte__c1_of_p (a0 : Int) (a1c0 : Int) : Option Bool :=
  (Option.bind (impl_isPoly_c1_of_p a0 a1c0) fun r2 => (some (!r2)))
theorem impl_areAll_byte__c1_of_p_ok (a0 : Int) (a1c0 : Int) (r : Bool) (h : impl_areAll_byte__c1_of_p a0 a1c0 = some r) : Den Try.prog 199 [(b8 a0), (.ref (.clo 179 [] [(.ref (i6 a1c0) [] [])]) [] [])] { r := (.bool r) } := by
  refine den_of (rs := [(.bool r)]) (ac := impl_areAll_byte__c1_of_p_c) (L := impl_areAll_byte__c1_of_p_L) (n := 8) (m := []) (c := Try.f199.body.getD .skip) good Try.func199 (by kernel_rfl) (by kernel_rfl) Try.ntmps199 rfl rfl (by kernel_rfl) rfl rfl ?_
  refine a_st (σ' := ⟨[(0, (b8 a0)), (1, (.ref (.clo 179 [] [(.ref (i6 a1c0) [] [])]) [] []))], []⟩) (by kernel_rfl) ?_
  unfold impl_areAll_byte__c1_of_p_c
  refine sr (vp (.bool false) rfl (nx ⟨[(0, (b8 a0)), (1, (.ref (.clo 179 [] [(.ref (i6 a1c0) [] [])]) [] []))], []⟩ (by kernel_rfl) (sr ?_)))
  have hl1 : LdOk [] (.clo 179 [] [(.ref (i6 a1c0) [] [])]) [] 1 false (.clo 179 [] [(.ref (i6 a1c0) [] [])]) := (.nil rfl rfl rfl)
  refine vq (.clo 179 [] [(.ref (i6 a1c0) [] [])]) (ld_ref (i := ⟨.other, 1, 8, (.raw .nilFunc)⟩) rfl rfl hl1) hl1.c (vp (b8 a0) rfl ?_)
  obtain ⟨r2, hr3, h⟩ := bind_some h
  refine a_call (args := [(b8 a0), (.ref (i6 a1c0) [] [])]) (u := []) (r := (.bool r2)) rfl rfl (impl_isPoly_c1_of_p_ok a0 a1c0 r2 hr3) rfl (vp (.bool (!r2)) rfl (vp (.bool (!r2)) rfl (nx _ rfl (a_ret ?_))))
  refine ⟨.inr rfl, ?_⟩
  rw [Try.results199]
  cases h
  exact ⟨_, _, _, _, _, rfl, trivial, .inl ⟨rfl, .inl rfl⟩, rfl, rfl⟩
end Go.Proofs.Ytdhcpekngpndnaa
