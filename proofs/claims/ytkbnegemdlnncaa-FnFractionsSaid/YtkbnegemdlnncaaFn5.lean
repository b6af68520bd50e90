/- Functions of the program: plain Lean functions, and that the program computes them. Printed by gen.py. -/
import Derived.Test.YtkbnegemdlnncaaFnT
import Derived.Test.YtkbnegemdlnncaaFn1
import Derived.Test.YtkbnegemdlnncaaFn2
import Derived.Test.YtkbnegemdlnncaaFn3
import Derived.Test.YtkbnegemdlnncaaFn4
namespace Go.Proofs.Ytkbnegemdlnncaa
open Go.Abs Go.Proofs
set_option linter.unusedSimpArgs false
set_option linter.unusedVariables false
set_option maxHeartbeats 16000000
attribute [local irreducible] Abs.acode Abs.aops Abs.aopsT Abs.thenK Abs.blockK

def spec_l01Add_c : ACode := (.seq (.region 0 [q 5 (.box 25 (t 1)), q 6 (.box 25 (t 2)), q 8 (.alloc 25)] false) (.seq (.seq (.region 1 [q 9 (.asg 0 (.const (.int .i64 0)) 3)] false) (.block 0 (.loop (.seq (.seq (.region 2 [q 10 (.mov (t 9)), q 11 (.bin .lss 3 (t 10) (.const (.int .i64 64)))] false) (.cond (t 11) .skip (.exit 0))) (.seq (.block 1 (.region 4 [q 14 (.mov (t 9)), q 15 (.mov (t 9)), ⟨some 16, .indexAddr 25 (t 5) (t 15), none, [1]⟩, ⟨some 17, .load 5 (t 16), none, [2]⟩, ⟨some 18, .conv 5 2 (t 17), none, [3]⟩, q 19 (.mov (t 3)), q 20 (.mov (t 9)), ⟨some 21, .indexAddr 25 (t 6) (t 20), none, [6]⟩, ⟨some 22, .load 5 (t 21), none, [7]⟩, ⟨some 23, .conv 5 2 (t 22), none, [8]⟩, ⟨some 24, .bin .mul 2 (t 19) (t 23), none, [5, 9]⟩, ⟨some 25, .bin .add 2 (t 18) (t 24), none, [4, 10]⟩, q 26 (.mov (t 0)), ⟨some 27, .bin .rem 2 (t 25) (t 26), none, [11, 12]⟩, q 28 (.mov (t 0)), ⟨some 29, .bin .add 2 (t 27) (t 28), none, [13, 14]⟩, q 30 (.mov (t 0)), ⟨some 31, .bin .rem 2 (t 29) (t 30), none, [15, 16]⟩, ⟨some 32, .conv 2 5 (t 31), none, [17]⟩, ⟨some 33, .indexAddr 25 (t 5) (t 14), none, [0, 0, 1, 2, 3, 4, 5, 6, 7, 8, 9, 10, 11, 12, 13, 14, 15, 16, 17, 18]⟩, ⟨none, .store 5 (t 33) (t 32), none, [19, 18, 0, 1, 2, 3, 4, 5, 6, 7, 8, 9, 10, 11, 12, 13, 14, 15, 16, 17, 18]⟩] true)) (.region 3 [q 12 (.mov (t 9)), q 13 (.bin .add 3 (t 12) (.const (.int .i64 1))), q 9 (.asg 0 (t 13) 3)] false)))))) (.seq (.region 5 [q 34 (.load 25 (t 5)), ⟨none, .store 25 (t 8) (t 34), none, []⟩] false) .ret)))
def spec_l01Add_L : Live := [(0, [0, 1, 2, 3]), (1, [0, 3, 5, 6, 8]), (2, [0, 3, 5, 6, 8, 9]), (3, [0, 3, 5, 6, 8, 9]), (4, [0, 3, 5, 6, 8, 9]), (5, [5, 8]), (100011, [0, 3, 5, 6, 8, 9, 11])]
noncomputable def spec_l01Add_l1 (a3 : Int) (a2 : (Vec Int 64)) (a0 : Int) (x127 : Int) (x128 : (Vec Int 64)) : Option ((Int × (Vec Int 64)) ⊕ (Vec Int 64)) :=
  (if (decide (x127 < 64)) then (ifp (0 ≤ x127 ∧ x127 < ((64 : Nat) : Int)) ((ifp (0 ≤ x127 ∧ x127 < ((64 : Nat) : Int)) ((letp (IntKind.i64.wrap (a3 * (IntKind.i64.wrap (rd a2.1 x127.toNat)))) fun x180 => (letp (IntKind.i64.wrap ((IntKind.i64.wrap (rd x128.1 x127.toNat)) + x180)) fun x182 => (ifp (a0 ≠ 0) ((ifp (a0 ≠ 0) ((letp (IntKind.u8.wrap (Int.tmod (IntKind.i64.wrap ((Int.tmod x182 a0) + a0)) a0)) fun x186 => (ifp (0 ≤ x127 ∧ x127 < ((64 : Nat) : Int)) ((some (.inl ((IntKind.i64.wrap (x127 + 1), (vset x128 x127.toNat x186)))))))))))))))))) else (some (.inr x128)))
noncomputable def spec_l01Add (a0 : Int) (a1 : (Vec Int 64)) (a2 : (Vec Int 64)) (a3 : Int) : Option (Vec Int 64) :=
  (Option.bind (α := (Vec Int 64)) ((loopM (fun s : (Int × (Vec Int 64)) => spec_l01Add_l1 a3 a2 a0 s.1 s.2) (0, a1))) fun x94 => (some x94))
theorem spec_l01Add_ok (a0 : Int) (a1 : (Vec Int 64)) (a2 : (Vec Int 64)) (a3 : Int) (r : (Vec Int 64)) (h : spec_l01Add a0 a1 a2 a3 = some r) : Den Try.prog 121 [(i6 a0), (eA64u8 a1), (eA64u8 a2), (i6 a3)] { r := (eA64u8 r) } := by
  refine den_of (rs := [(eA64u8 r)]) (ac := spec_l01Add_c) (L := spec_l01Add_L) (n := 35) (m := []) (c := Try.f121.body.getD .skip) good Try.func121 (by kernel_rfl) (by kernel_rfl) Try.ntmps121 rfl rfl (by kernel_rfl) rfl rfl ?_
  refine a_st (σ' := ⟨[(0, (i6 a0)), (1, (eA64u8 a1)), (2, (eA64u8 a2)), (3, (i6 a3))], []⟩) (by kernel_rfl) ?_
  unfold spec_l01Add_c
  refine sr (vo 1500 (eA64u8 a1) rfl rfl (vo 1600 (eA64u8 a2) rfl rfl (vo 1800 (eA64u8 ((vrep 64 (0 : Int)))) rfl rfl (nx ⟨[(0, (i6 a0)), (3, (i6 a3)), (5, (ow 5)), (6, (ow 6)), (8, (ow 8))], [(5, (bk (eA64u8 a1))), (6, (bk (eA64u8 a2))), (8, (bk (eA64u8 ((vrep 64 (0 : Int))))))]⟩ (by kernel_rfl) ?_))))
  obtain ⟨y95, hy96, hk97⟩ := bind_some h
  clear h
  refine a_join (emb := fun (s : (Vec Int 64)) => ⟨[(5, (ow 5)), (8, (ow 8))], [(5, (bk (eA64u8 s))), (8, (bk (eA64u8 ((vrep 64 (0 : Int))))))]⟩) (pre := fun s => s = y95) ?_ ?_
  · rintro x94 rfl
    have h := hk97
    refine a_st (σ' := ⟨[(5, (ow 5)), (8, (ow 8))], [(5, (bk (eA64u8 x94))), (8, (bk (eA64u8 ((vrep 64 (0 : Int))))))]⟩) (by kernel_rfl) (sr (vl (eA64u8 x94) rfl rfl rfl rfl rfl rfl (vs (eA64u8 x94) rfl rfl (fun _ => rfl) rfl rfl rfl rfl rfl rfl (nx _ rfl (a_ret ?_)))))
    have hl193 : LdOk [] (eA64u8 x94) [] 64 true (eA64u8 x94) := (.nil rfl rfl rfl)
    refine ⟨.inr rfl, ?_⟩
    rw [Try.results121]
    cases h
    exact ⟨_, _, _, _, _, ld_own (i := ⟨.arr 64 5, 64, 64, (eA64u8 (vrep 64 (0 : Int)))⟩) rfl rfl rfl hl193, hl193.c, .inl ⟨rfl, .inl rfl⟩, rfl, rfl⟩
  · have h := hy96
    refine sr (vp (i6 0) rfl (nx ⟨[(0, (i6 a0)), (3, (i6 a3)), (5, (ow 5)), (6, (ow 6)), (8, (ow 8)), (9, (i6 0))], [(5, (bk (eA64u8 a1))), (6, (bk (eA64u8 a2))), (8, (bk (eA64u8 ((vrep 64 (0 : Int))))))]⟩ (by kernel_rfl) (a_block ?_)))
    refine a_loop (emb := fun (s : (Int × (Vec Int 64))) => ⟨[(0, (i6 a0)), (3, (i6 a3)), (5, (ow 5)), (6, (ow 6)), (8, (ow 8)), (9, (i6 s.1))], [(5, (bk (eA64u8 s.2))), (6, (bk (eA64u8 a2))), (8, (bk (eA64u8 ((vrep 64 (0 : Int))))))]⟩) (body := (fun s : (Int × (Vec Int 64)) => spec_l01Add_l1 a3 a2 a0 s.1 s.2)) (G := fun q => some q = some y95) h rfl ?_ (by kernel_rfl)
    rintro X158 ⟨x127, x128⟩ x159 h hX160
    have h : spec_l01Add_l1 a3 a2 a0 x127 x128 = some x159 := h
    refine a_st (σ' := ⟨[(0, (i6 a0)), (3, (i6 a3)), (5, (ow 5)), (6, (ow 6)), (8, (ow 8)), (9, (i6 x127))], [(5, (bk (eA64u8 x128))), (6, (bk (eA64u8 a2))), (8, (bk (eA64u8 ((vrep 64 (0 : Int))))))]⟩) (by kernel_rfl) (a_seq (sr (vp (i6 x127) rfl (vp (.bool ((decide (x127 < 64)))) rfl (nx ⟨[(0, (i6 a0)), (3, (i6 a3)), (5, (ow 5)), (6, (ow 6)), (8, (ow 8)), (9, (i6 x127)), (11, (.bool ((decide (x127 < 64)))))], [(5, (bk (eA64u8 x128))), (6, (bk (eA64u8 a2))), (8, (bk (eA64u8 ((vrep 64 (0 : Int))))))]⟩ (by kernel_rfl) ?_)))))
    cases hb161 : (decide (x127 < 64))
    · have h := ite_f hb161 h
      refine a_cond_f rfl (a_exit (t_exit ?_))
      cases h
      have h := hX160
      refine t_exit (b_exit ?_)
      exact j_leaf x128 (Option.some.inj h) (by kernel_rfl)
    · have h := ite_t hb161 h
      refine a_cond_t rfl (a_skip (a_next (σ' := ⟨[(0, (i6 a0)), (3, (i6 a3)), (5, (ow 5)), (6, (ow 6)), (8, (ow 8)), (9, (i6 x127))], [(5, (bk (eA64u8 x128))), (6, (bk (eA64u8 a2))), (8, (bk (eA64u8 ((vrep 64 (0 : Int))))))]⟩) (by kernel_rfl) (a_seq (a_block (a_draw [⟨[], [], [], []⟩, ⟨[], [], [], []⟩, ⟨[5], [], [5], [1]⟩, ⟨[5], [], [], [1, 2]⟩, ⟨[], [], [], [1, 2, 3]⟩, ⟨[], [], [], []⟩, ⟨[], [], [], []⟩, ⟨[6], [], [6], [6]⟩, ⟨[6], [], [], [6, 7]⟩, ⟨[], [], [], [6, 7, 8]⟩, ⟨[], [], [], [5, 6, 7, 8, 9]⟩, ⟨[], [], [], [1, 2, 3, 4, 5, 6, 7, 8, 9, 10]⟩, ⟨[], [], [], []⟩, ⟨[], [], [], [1, 2, 3, 4, 5, 6, 7, 8, 9, 10, 11, 12]⟩, ⟨[], [], [], []⟩, ⟨[], [], [], [1, 2, 3, 4, 5, 6, 7, 8, 9, 10, 11, 12, 13, 14]⟩, ⟨[], [], [], []⟩, ⟨[], [], [], [1, 2, 3, 4, 5, 6, 7, 8, 9, 10, 11, 12, 13, 14, 15, 16]⟩, ⟨[], [], [], [1, 2, 3, 4, 5, 6, 7, 8, 9, 10, 11, 12, 13, 14, 15, 16, 17]⟩, ⟨[5], [], [5], [0, 1, 2, 3, 4, 5, 6, 7, 8, 9, 10, 11, 12, 13, 14, 15, 16, 17, 18]⟩, ⟨[5], [5], [], [0, 1, 2, 3, 4, 5, 6, 7, 8, 9, 10, 11, 12, 13, 14, 15, 16, 17, 18, 19]⟩] (by kernel_rfl) (dp (i6 x127) rfl (by kernel_rfl) (dp (i6 x127) rfl (by kernel_rfl) (d_cons ?_))))))))
      obtain ⟨hc176, h⟩ := ifp_some h
      refine vq (.own 5 [x127.toNat] [x127.toNat * 1]) rfl hc176 (d_next (by kernel_rfl) (d_cons ?_))
      have hl177 : LdOk [x127.toNat] (eA64u8 x128) [x127.toNat * 1] 1 false (b8 (rd x128.1 x127.toNat)) := (.arr (vlt x128 hc176) rfl (.nil rfl rfl rfl))
      refine vq (b8 (rd x128.1 x127.toNat)) (ld_own (i := ⟨.int .u8, 1, 1, (.int .u8 0)⟩) rfl rfl rfl hl177) hl177.c (d_next (by kernel_rfl) (dp (i6 (IntKind.i64.wrap (rd x128.1 x127.toNat))) rfl (by kernel_rfl) (dp (i6 a3) rfl (by kernel_rfl) (dp (i6 x127) rfl (by kernel_rfl) (d_cons ?_)))))
      obtain ⟨hc178, h⟩ := ifp_some h
      refine vq (.own 6 [x127.toNat] [x127.toNat * 1]) rfl hc178 (d_next (by kernel_rfl) (d_cons ?_))
      have hl179 : LdOk [x127.toNat] (eA64u8 a2) [x127.toNat * 1] 1 false (b8 (rd a2.1 x127.toNat)) := (.arr (vlt a2 hc178) rfl (.nil rfl rfl rfl))
      refine vq (b8 (rd a2.1 x127.toNat)) (ld_own (i := ⟨.int .u8, 1, 1, (.int .u8 0)⟩) rfl rfl rfl hl179) hl179.c (d_next (by kernel_rfl) (dp (i6 (IntKind.i64.wrap (rd a2.1 x127.toNat))) rfl (by kernel_rfl) (d_cons ?_)))
      obtain ⟨x180, hx181, h⟩ := letp_some h
      refine a_val' (v := (i6 (IntKind.i64.wrap (a3 * (IntKind.i64.wrap (rd a2.1 x127.toNat)))))) (v' := (i6 x180)) (u := []) (u' := []) rfl (congrArg (fun z => ((i6 z) : AV)) hx181) rfl trivial rfl (d_next (by kernel_rfl) (d_cons ?_))
      obtain ⟨x182, hx183, h⟩ := letp_some h
      refine a_val' (v := (i6 (IntKind.i64.wrap ((IntKind.i64.wrap (rd x128.1 x127.toNat)) + x180)))) (v' := (i6 x182)) (u := []) (u' := []) rfl (congrArg (fun z => ((i6 z) : AV)) hx183) rfl trivial rfl (d_next (by kernel_rfl) (dp (i6 a0) rfl (by kernel_rfl) (d_cons ?_)))
      obtain ⟨hc184, h⟩ := ifp_some h
      refine vq (i6 (Int.tmod x182 a0)) rfl hc184 (d_next (by kernel_rfl) (dp (i6 a0) rfl (by kernel_rfl) (dp (i6 (IntKind.i64.wrap ((Int.tmod x182 a0) + a0))) rfl (by kernel_rfl) (dp (i6 a0) rfl (by kernel_rfl) (d_cons ?_)))))
      obtain ⟨hc185, h⟩ := ifp_some h
      refine vq (i6 (Int.tmod (IntKind.i64.wrap ((Int.tmod x182 a0) + a0)) a0)) rfl hc185 (d_next (by kernel_rfl) (d_cons ?_))
      obtain ⟨x186, hx187, h⟩ := letp_some h
      refine a_val' (v := (b8 (IntKind.u8.wrap (Int.tmod (IntKind.i64.wrap ((Int.tmod x182 a0) + a0)) a0)))) (v' := (b8 x186)) (u := []) (u' := []) rfl (congrArg (fun z => ((b8 z) : AV)) hx187) rfl trivial rfl (d_next (by kernel_rfl) (d_cons ?_))
      obtain ⟨hc188, h⟩ := ifp_some h
      refine vq (.own 5 [x127.toNat] [x127.toNat * 1]) rfl hc188 (d_next (by kernel_rfl) (d_cons ?_))
      have hs189 : StOk [x127.toNat] (eA64u8 x128) [x127.toNat * 1] 1 (b8 x186) (eA64u8 (vset x128 x127.toNat x186)) := (.arr (y := x186) (vlt x128 hc188) rfl (.nil rfl rfl rfl rfl))
      refine vu .top [(5, (bk (eA64u8 (vset x128 x127.toNat x186))))] (st_own (i := ⟨.int .u8, 1, 1, (.int .u8 0)⟩) rfl rfl (fun _ => rfl) rfl hs189) (hs189.c rfl) rfl (d_next (by kernel_rfl) (d_nil (b_norm (a_next (σ' := ⟨[(0, (i6 a0)), (3, (i6 a3)), (5, (ow 5)), (6, (ow 6)), (8, (ow 8)), (9, (i6 x127))], [(5, (bk (eA64u8 (vset x128 x127.toNat x186)))), (6, (bk (eA64u8 a2))), (8, (bk (eA64u8 ((vrep 64 (0 : Int))))))]⟩) (by kernel_rfl) (a_region (vp (i6 x127) rfl (vp (i6 (IntKind.i64.wrap (x127 + 1))) rfl (vp (i6 (IntKind.i64.wrap (x127 + 1))) rfl (a_nil ?_)))))))))
      cases h
      exact a_again (by kernel_rfl) hX160
def spec_l10Convergents_c : ACode := (.seq (.region 0 [q 4 (.asg 1 (.const (.slice none 0 0)) 55), q 5 (.asg 1 (.const (.slice none 0 0)) 55), q 6 (.asg 0 (.const (.bool false)) 4)] false) (.seq (.region 1 [q 18 (.bslice 2 55 0 []), q 19 (.bslice 2 55 0 []), q 7 (.asg 2 (t 18) 55), q 8 (.asg 2 (t 19) 55)] false) (.seq (.region 2 [q 20 (.call 0 (.func 133) []), q 21 (.build 25 []), q 9 (.alloc 25), q 10 (.alloc 25), ⟨none, .store 25 (t 9) (t 20), none, []⟩, ⟨none, .store 25 (t 10) (t 21), none, []⟩] false) (.seq (.region 3 [q 22 (.build 25 []), q 23 (.call 0 (.func 133) []), q 11 (.alloc 25), q 12 (.alloc 25), ⟨none, .store 25 (t 11) (t 22), none, []⟩, ⟨none, .store 25 (t 12) (t 23), none, []⟩] false) (.seq (.seq (.region 4 [q 13 (.asg 0 (.const (.int .i64 0)) 3)] false) (.block 0 (.loop (.seq (.seq (.region 5 [q 24 (.mov (t 13)), q 25 (.mov (t 1)), q 26 (.blt 0 .len [(t 25)] [55]), q 27 (.bin .lss 3 (t 24) (t 26))] false) (.cond (t 27) .skip (.exit 0))) (.seq (.block 1 (.seq (.region 7 [q 31 (.mov (t 0)), q 32 (.mov (t 1)), q 33 (.mov (t 13)), ⟨some 34, .indexAddr 55 (t 32) (t 33), none, [1, 2]⟩, ⟨some 35, .load 25 (t 34), none, [3]⟩, q 36 (.load 25 (t 9)), ⟨some 37, .call 0 (.func 105) [(t 31), (t 35), (t 36)], none, [0, 4, 5]⟩, ⟨some 30, .mov (t 37), none, [6]⟩, ⟨some 38, .extract (t 30) 0, none, [7]⟩, ⟨some 39, .extract (t 30) 1, none, [7]⟩, q 14 (.alloc 25), ⟨none, .store 25 (t 14) (t 38), none, [10, 8, 6, 0, 1, 2, 3, 4, 5, 6, 7, 8, 10]⟩, ⟨some 15, .asg 0 (t 39) 4, none, [9, 11, 0, 1, 2, 3, 4, 5, 6, 7, 8, 9, 10, 11]⟩] true) (.seq (.region 8 [q 41 (.mov (t 0)), q 42 (.mov (t 1)), q 43 (.mov (t 13)), ⟨some 44, .indexAddr 55 (t 42) (t 43), none, [1, 2]⟩, ⟨some 45, .load 25 (t 44), none, [3]⟩, q 46 (.load 25 (t 11)), ⟨some 47, .call 0 (.func 105) [(t 41), (t 45), (t 46)], none, [0, 4, 5]⟩, ⟨some 40, .mov (t 47), none, [6]⟩, ⟨some 48, .extract (t 40) 0, none, [7]⟩, ⟨some 49, .extract (t 40) 1, none, [7]⟩, q 16 (.alloc 25), ⟨none, .store 25 (t 16) (t 48), none, [10, 8, 6, 0, 1, 2, 3, 4, 5, 6, 7, 8, 10]⟩, ⟨some 17, .asg 0 (t 49) 4, none, [9, 11, 0, 1, 2, 3, 4, 5, 6, 7, 8, 9, 10, 11]⟩] true) (.seq (.seq (.region 9 [q 50 (.mov (t 15)), q 51 (.un .not (t 50)), q 52 (.mov (t 51)), ⟨some 53, .mov (t 17), some (52, false), []⟩, ⟨some 54, .un .not (t 53), some (52, false), []⟩, q 55 (.pick (t 52) (.const (.bool true)) (t 54))] false) (.cond (t 55) (.seq (.region 10 [q 4 (.asg 1 (.const (.slice none 0 0)) 55), q 5 (.asg 1 (.const (.slice none 0 0)) 55), q 6 (.asg 0 (.const (.bool false)) 4)] false) .ret) .skip)) (.seq (.region 11 [q 56 (.mov (t 0)), q 57 (.load 25 (t 14)), q 58 (.load 25 (t 10)), q 59 (.call 0 (.func 121) [(t 56), (t 57), (t 58), (.const (.int .i64 1))]), ⟨none, .store 25 (t 14) (t 59), none, []⟩] false) (.seq (.region 12 [q 60 (.mov (t 0)), q 61 (.load 25 (t 16)), q 62 (.load 25 (t 12)), q 63 (.call 0 (.func 121) [(t 60), (t 61), (t 62), (.const (.int .i64 1))]), ⟨none, .store 25 (t 16) (t 63), none, []⟩] false) (.seq (.region 13 [q 64 (.load 25 (t 9)), ⟨none, .store 25 (t 10) (t 64), none, []⟩] false) (.seq (.region 14 [q 65 (.load 25 (t 11)), ⟨none, .store 25 (t 12) (t 65), none, []⟩] false) (.seq (.region 15 [q 66 (.load 25 (t 14)), ⟨none, .store 25 (t 9) (t 66), none, []⟩] false) (.seq (.region 16 [q 67 (.load 25 (t 16)), ⟨none, .store 25 (t 11) (t 67), none, []⟩] false) (.seq (.region 17 [q 68 (.mov (t 7)), q 69 (.load 25 (t 9)), q 70 (.bslice 0 55 1 [(0, (t 69))]), q 71 (.blt 0 .append [(t 68), (t 70)] [55, 55]), q 7 (.asg 2 (t 71) 55)] false) (.region 18 [q 72 (.mov (t 8)), q 73 (.load 25 (t 11)), q 74 (.bslice 0 55 1 [(0, (t 73))]), q 75 (.blt 0 .append [(t 72), (t 74)] [55, 55]), q 8 (.asg 2 (t 75) 55)] false)))))))))))) (.region 6 [q 28 (.mov (t 13)), q 29 (.bin .add 3 (t 28) (.const (.int .i64 1))), q 13 (.asg 0 (t 29) 3)] false)))))) (.seq (.region 19 [q 76 (.mov (t 7)), q 77 (.mov (t 8)), q 4 (.asg 1 (t 76) 55), q 5 (.asg 1 (t 77) 55), q 6 (.asg 0 (.const (.bool true)) 4)] false) .ret))))))
def spec_l10Convergents_L : Live := [(0, [0, 1]), (1, [0, 1]), (2, [0, 1, 7, 8]), (3, [0, 1, 7, 8, 9, 10]), (4, [0, 1, 7, 8, 9, 10, 11, 12]), (5, [0, 1, 7, 8, 9, 10, 11, 12, 13]), (6, [0, 1, 7, 8, 9, 10, 11, 12, 13]), (7, [0, 1, 7, 8, 9, 10, 11, 12, 13]), (8, [0, 1, 7, 8, 9, 10, 11, 12, 13, 14, 15]), (9, [0, 1, 7, 8, 9, 10, 11, 12, 13, 14, 15, 16, 17]), (10, []), (11, [0, 1, 7, 8, 9, 10, 11, 12, 13, 14, 16]), (12, [0, 1, 7, 8, 9, 10, 11, 12, 13, 14, 16]), (13, [0, 1, 7, 8, 9, 10, 11, 12, 13, 14, 16]), (14, [0, 1, 7, 8, 9, 10, 11, 12, 13, 14, 16]), (15, [0, 1, 7, 8, 9, 10, 11, 12, 13, 14, 16]), (16, [0, 1, 7, 8, 9, 10, 11, 12, 13, 16]), (17, [0, 1, 7, 8, 9, 10, 11, 12, 13]), (18, [0, 1, 7, 8, 9, 10, 11, 12, 13]), (19, [7, 8]), (100027, [0, 1, 7, 8, 9, 10, 11, 12, 13, 27]), (100055, [0, 1, 7, 8, 9, 10, 11, 12, 13, 14, 16, 55])]
noncomputable def spec_l10Convergents_l1 (a1 : (List (Vec Int 64))) (a0 : Int) (x241 : Int) (x242 : (List (Vec Int 64))) (x243 : (List (Vec Int 64))) (x244 : (Vec Int 64)) (x245 : (Vec Int 64)) (x246 : (Vec Int 64)) (x247 : (Vec Int 64)) : Option ((Int × (List (Vec Int 64)) × (List (Vec Int 64)) × (Vec Int 64) × (Vec Int 64) × (Vec Int 64) × (Vec Int 64)) ⊕ (((List (Vec Int 64)) × (List (Vec Int 64))) ⊕ ((List (Vec Int 64)) × (List (Vec Int 64)) × Bool))) :=
  (if (decide (x241 < (a1.length : Int))) then (ifp (0 ≤ x241 ∧ x241 < ((a1.length : Nat) : Int)) ((Option.bind (spec_l01Times a0 (rd a1 x241.toNat) x244) fun r315 => (ifp (0 ≤ x241 ∧ x241 < ((a1.length : Nat) : Int)) ((Option.bind (spec_l01Times a0 (rd a1 x241.toNat) x246) fun r327 => (Option.bind (α := Bool) ((if (!r315.2) then (some true) else (some (!r327.2)))) fun x331 => (if x331 then (some (.inr ((.inr ([], [], false))))) else (Option.bind (spec_l01Add a0 r315.1 x245 1) fun r339 => (Option.bind (spec_l01Add a0 r327.1 x247 1) fun r344 => (ifp ((x242.length + ([r339] : List (Vec Int 64)).length) * 64 ≤ 140737488355328) ((ifp ((x243.length + ([r344] : List (Vec Int 64)).length) * 64 ≤ 140737488355328) ((some (.inl ((IntKind.i64.wrap (x241 + 1), (x242 ++ ([r339])), (x243 ++ ([r344])), r339, x244, r344, x246)))))))))))))))))) else (some (.inr (((.inl (x242, x243)))))))
noncomputable def spec_l10Convergents (a0 : Int) (a1 : (List (Vec Int 64))) : Option ((List (Vec Int 64)) × (List (Vec Int 64)) × Bool) :=
  (Option.bind (spec_l01One) fun r1 => (Option.bind (spec_l01One) fun r5 => (Option.bind (α := (((List (Vec Int 64)) × (List (Vec Int 64))) ⊕ ((List (Vec Int 64)) × (List (Vec Int 64)) × Bool))) ((loopM (fun s : (Int × (List (Vec Int 64)) × (List (Vec Int 64)) × (Vec Int 64) × (Vec Int 64) × (Vec Int 64) × (Vec Int 64)) => spec_l10Convergents_l1 a1 a0 s.1 s.2.1 s.2.2.1 s.2.2.2.1 s.2.2.2.2.1 s.2.2.2.2.2.1 s.2.2.2.2.2.2) (0, [], [], r1, (vrep 64 (0 : Int)), (vrep 64 (0 : Int)), r5))) fun z => match z with | .inl ⟨x182, x183⟩ => (some (x182, x183, true)) | .inr r360 => (some r360))))
theorem spec_l10Convergents_ok (a0 : Int) (a1 : (List (Vec Int 64))) (r : ((List (Vec Int 64)) × (List (Vec Int 64)) × Bool)) (h : spec_l10Convergents a0 a1 = some r) : Den Try.prog 159 [(i6 a0), (eSA64u8 a1)] { r := (.tuple [(eSA64u8 r.1), (eSA64u8 r.2.1), (.bool r.2.2)]) } := by
  refine den_of (rs := [(eSA64u8 r.1), (eSA64u8 r.2.1), (.bool r.2.2)]) (ac := spec_l10Convergents_c) (L := spec_l10Convergents_L) (n := 78) (m := [(4, 1), (5, 1), (7, 2), (8, 2), (18, 2), (19, 2)]) (c := Try.f159.body.getD .skip) good Try.func159 (by kernel_rfl) (by kernel_rfl) Try.ntmps159 rfl rfl (by kernel_rfl) rfl rfl ?_
  refine a_st (σ' := ⟨[(0, (i6 a0)), (1, (eSA64u8 a1))], []⟩) (by kernel_rfl) ?_
  unfold spec_l10Convergents_c
  refine sr (vp (eSA64u8 ([])) rfl (vp (eSA64u8 ([])) rfl (vp (.bool false) rfl (nx ⟨[(0, (i6 a0)), (1, (eSA64u8 a1))], []⟩ (by kernel_rfl) (sr (vu (.osl 2800) [(2800, (bk (.row 64 (([]).map eA64u8))))] rfl ⟨(Nat.le_of_ble_eq_true rfl), (Nat.le_of_ble_eq_true rfl), all_nil⟩ rfl (vu (.osl 2900) [(2900, (bk (.row 64 (([]).map eA64u8))))] rfl ⟨(Nat.le_of_ble_eq_true rfl), (Nat.le_of_ble_eq_true rfl), all_nil⟩ rfl (vp (.osl 2800) rfl (vp (.osl 2900) rfl ?_)))))))))
  refine nx ⟨[(0, (i6 a0)), (1, (eSA64u8 a1)), (7, (.osl 7)), (8, (.osl 8))], [(7, (bk (.row 64 (([]).map eA64u8)))), (8, (bk (.row 64 (([]).map eA64u8))))]⟩ (by kernel_rfl) (sr ?_)
  obtain ⟨r1, hr2, h⟩ := bind_some h
  refine a_call (args := []) (u := []) (r := (eA64u8 r1)) rfl rfl (spec_l01One_ok r1 hr2) rfl (vq (eA64u8 ((vrep 64 (0 : Int)))) rfl ⟨⟨_, rfl, rfl⟩, all_nil⟩ (vo 1900 (eA64u8 ((vrep 64 (0 : Int)))) rfl rfl (vo 2000 (eA64u8 ((vrep 64 (0 : Int)))) rfl rfl (vs (eA64u8 r1) rfl rfl (fun _ => rfl) rfl rfl rfl rfl rfl rfl (vs (eA64u8 ((vrep 64 (0 : Int)))) rfl rfl (fun _ => rfl) rfl rfl rfl rfl rfl rfl (nx ⟨[(0, (i6 a0)), (1, (eSA64u8 a1)), (7, (.osl 7)), (8, (.osl 8)), (9, (ow 9)), (10, (ow 10))], [(7, (bk (.row 64 (([]).map eA64u8)))), (8, (bk (.row 64 (([]).map eA64u8)))), (9, (bk (eA64u8 r1))), (10, (bk (eA64u8 ((vrep 64 (0 : Int))))))]⟩ (by kernel_rfl) (sr (vq (eA64u8 ((vrep 64 (0 : Int)))) rfl ⟨⟨_, rfl, rfl⟩, all_nil⟩ ?_))))))))
  obtain ⟨r5, hr6, h⟩ := bind_some h
  refine a_call (args := []) (u := []) (r := (eA64u8 r5)) rfl rfl (spec_l01One_ok r5 hr6) rfl (vo 2100 (eA64u8 ((vrep 64 (0 : Int)))) rfl rfl (vo 2200 (eA64u8 ((vrep 64 (0 : Int)))) rfl rfl (vs (eA64u8 ((vrep 64 (0 : Int)))) rfl rfl (fun _ => rfl) rfl rfl rfl rfl rfl rfl (vs (eA64u8 r5) rfl rfl (fun _ => rfl) rfl rfl rfl rfl rfl rfl (nx ⟨[(0, (i6 a0)), (1, (eSA64u8 a1)), (7, (.osl 7)), (8, (.osl 8)), (9, (ow 9)), (10, (ow 10)), (11, (ow 11)), (12, (ow 12))], [(7, (bk (.row 64 (([]).map eA64u8)))), (8, (bk (.row 64 (([]).map eA64u8)))), (9, (bk (eA64u8 r1))), (10, (bk (eA64u8 ((vrep 64 (0 : Int)))))), (11, (bk (eA64u8 ((vrep 64 (0 : Int)))))), (12, (bk (eA64u8 r5)))]⟩ (by kernel_rfl) ?_)))))
  obtain ⟨y184, hy185, hk186⟩ := bind_some h
  clear h
  refine a_join (emb := fun (s : ((List (Vec Int 64)) × (List (Vec Int 64)))) => ⟨[(7, (.osl 7)), (8, (.osl 8))], [(7, (bk (.row 64 (s.1.map eA64u8)))), (8, (bk (.row 64 (s.2.map eA64u8))))]⟩) (pre := fun s => (.inl s) = y184) ?_ ?_
  · rintro ⟨x182, x183⟩ rfl
    have h := hk186
    refine a_st (σ' := ⟨[(7, (.osl 7)), (8, (.osl 8))], [(7, (bk (.row 64 (x182.map eA64u8)))), (8, (bk (.row 64 (x183.map eA64u8))))]⟩) (by kernel_rfl) (sr (vp (.osl 7) rfl (vp (.osl 8) rfl (vu (eSA64u8 x182) [(7, (bf (.row 64 (x182.map eA64u8))))] rfl trivial rfl (vu (eSA64u8 x183) [(8, (bf (.row 64 (x183.map eA64u8))))] rfl trivial rfl (vp (.bool true) rfl (nx _ rfl (a_ret ?_))))))))
    refine ⟨.inr rfl, ?_⟩
    rw [Try.results159]
    cases h
    exact ⟨_, _, _, _, _, rfl, trivial, .inl ⟨rfl, .inl rfl⟩, rfl, ⟨_, _, _, _, _, rfl, trivial, .inl ⟨rfl, .inl rfl⟩, rfl, ⟨_, _, _, _, _, rfl, trivial, .inl ⟨rfl, .inl rfl⟩, rfl, rfl⟩⟩⟩
  · have h := hy185
    refine sr (vp (i6 0) rfl (nx ⟨[(0, (i6 a0)), (1, (eSA64u8 a1)), (7, (.osl 7)), (8, (.osl 8)), (9, (ow 9)), (10, (ow 10)), (11, (ow 11)), (12, (ow 12)), (13, (i6 0))], [(7, (bk (.row 64 (([]).map eA64u8)))), (8, (bk (.row 64 (([]).map eA64u8)))), (9, (bk (eA64u8 r1))), (10, (bk (eA64u8 ((vrep 64 (0 : Int)))))), (11, (bk (eA64u8 ((vrep 64 (0 : Int)))))), (12, (bk (eA64u8 r5)))]⟩ (by kernel_rfl) (a_block ?_)))
    refine a_loop (emb := fun (s : (Int × (List (Vec Int 64)) × (List (Vec Int 64)) × (Vec Int 64) × (Vec Int 64) × (Vec Int 64) × (Vec Int 64))) => ⟨[(0, (i6 a0)), (1, (eSA64u8 a1)), (7, (.osl 7)), (8, (.osl 8)), (9, (ow 9)), (10, (ow 10)), (11, (ow 11)), (12, (ow 12)), (13, (i6 s.1))], [(7, (bk (.row 64 (s.2.1.map eA64u8)))), (8, (bk (.row 64 (s.2.2.1.map eA64u8)))), (9, (bk (eA64u8 s.2.2.2.1))), (10, (bk (eA64u8 s.2.2.2.2.1))), (11, (bk (eA64u8 s.2.2.2.2.2.1))), (12, (bk (eA64u8 s.2.2.2.2.2.2)))]⟩) (body := (fun s : (Int × (List (Vec Int 64)) × (List (Vec Int 64)) × (Vec Int 64) × (Vec Int 64) × (Vec Int 64) × (Vec Int 64)) => spec_l10Convergents_l1 a1 a0 s.1 s.2.1 s.2.2.1 s.2.2.2.1 s.2.2.2.2.1 s.2.2.2.2.2.1 s.2.2.2.2.2.2)) (G := fun q => some q = some y184) h rfl ?_ (by kernel_rfl)
    rintro X302 ⟨x241, x242, x243, x244, x245, x246, x247⟩ x303 h hX304
    have h : spec_l10Convergents_l1 a1 a0 x241 x242 x243 x244 x245 x246 x247 = some x303 := h
    refine a_st (σ' := ⟨[(0, (i6 a0)), (1, (eSA64u8 a1)), (7, (.osl 7)), (8, (.osl 8)), (9, (ow 9)), (10, (ow 10)), (11, (ow 11)), (12, (ow 12)), (13, (i6 x241))], [(7, (bk (.row 64 (x242.map eA64u8)))), (8, (bk (.row 64 (x243.map eA64u8)))), (9, (bk (eA64u8 x244))), (10, (bk (eA64u8 x245))), (11, (bk (eA64u8 x246))), (12, (bk (eA64u8 x247)))]⟩) (by kernel_rfl) (a_seq (sr (vp (i6 x241) rfl (vp (eSA64u8 a1) rfl (vq (i6 (a1.length : Int)) (len_run rfl rfl) trivial (vp (.bool ((decide (x241 < (a1.length : Int))))) rfl (nx ⟨[(0, (i6 a0)), (1, (eSA64u8 a1)), (7, (.osl 7)), (8, (.osl 8)), (9, (ow 9)), (10, (ow 10)), (11, (ow 11)), (12, (ow 12)), (13, (i6 x241)), (27, (.bool ((decide (x241 < (a1.length : Int))))))], [(7, (bk (.row 64 (x242.map eA64u8)))), (8, (bk (.row 64 (x243.map eA64u8)))), (9, (bk (eA64u8 x244))), (10, (bk (eA64u8 x245))), (11, (bk (eA64u8 x246))), (12, (bk (eA64u8 x247)))]⟩ (by kernel_rfl) ?_)))))))
    cases hb305 : (decide (x241 < (a1.length : Int)))
    · have h := ite_f hb305 h
      refine a_cond_f rfl (a_exit (t_exit ?_))
      cases h
      have h := hX304
      refine t_exit (b_exit ?_)
      exact j_leaf (x242, x243) (Option.some.inj h) (by kernel_rfl)
    · have h := ite_t hb305 h
      refine a_cond_t rfl (a_skip (a_next (σ' := ⟨[(0, (i6 a0)), (1, (eSA64u8 a1)), (7, (.osl 7)), (8, (.osl 8)), (9, (ow 9)), (10, (ow 10)), (11, (ow 11)), (12, (ow 12)), (13, (i6 x241))], [(7, (bk (.row 64 (x242.map eA64u8)))), (8, (bk (.row 64 (x243.map eA64u8)))), (9, (bk (eA64u8 x244))), (10, (bk (eA64u8 x245))), (11, (bk (eA64u8 x246))), (12, (bk (eA64u8 x247)))]⟩) (by kernel_rfl) (a_seq (a_block (a_seq (a_draw [⟨[], [], [], []⟩, ⟨[], [], [], []⟩, ⟨[], [], [], []⟩, ⟨[], [], [], [1, 2]⟩, ⟨[], [], [], [1, 2, 3]⟩, ⟨[9], [], [], []⟩, ⟨[], [], [], [0, 1, 2, 3, 4, 5]⟩, ⟨[], [], [], [0, 1, 2, 3, 4, 5, 6]⟩, ⟨[], [], [], [0, 1, 2, 3, 4, 5, 6, 7]⟩, ⟨[], [], [], [0, 1, 2, 3, 4, 5, 6, 7]⟩, ⟨[2400], [2400], [2400], []⟩, ⟨[2400], [2400], [], [0, 1, 2, 3, 4, 5, 6, 7, 8, 10]⟩, ⟨[], [], [], [0, 1, 2, 3, 4, 5, 6, 7, 8, 9, 10, 11]⟩] (by kernel_rfl) (dp (i6 a0) rfl (by kernel_rfl) (dp (eSA64u8 a1) rfl (by kernel_rfl) (dp (i6 x241) rfl (by kernel_rfl) ?_)))))))))
      refine d_cons ?_
      obtain ⟨hc312, h⟩ := ifp_some h
      refine vq (.ref (.row 64 (a1.map eA64u8)) [x241.toNat] [x241.toNat * 64]) rfl (lmap hc312) (d_next (by kernel_rfl) (d_cons ?_))
      have hl313 : LdOk [x241.toNat] (.row 64 (a1.map eA64u8)) [x241.toNat * 64] 64 true (eA64u8 (rd a1 x241.toNat)) := (.row (llt hc312) rfl (.nil rfl rfl rfl))
      refine vq (eA64u8 (rd a1 x241.toNat)) (ld_ref (i := ⟨.arr 64 5, 64, 64, (eA64u8 (vrep 64 (0 : Int)))⟩) rfl rfl hl313) hl313.c (d_next (by kernel_rfl) (d_cons (vl (eA64u8 x244) rfl rfl rfl rfl rfl rfl (d_next (by kernel_rfl) (d_cons ?_)))))
      obtain ⟨r315, hr316, h⟩ := bind_some h
      refine a_call (args := [(i6 a0), (eA64u8 (rd a1 x241.toNat)), (eA64u8 x244)]) (u := []) (r := (.tuple [(eA64u8 r315.1), (.bool r315.2)])) rfl rfl (spec_l01Times_ok a0 (rd a1 x241.toNat) x244 r315 hr316) rfl (d_next (by kernel_rfl) (dp (.tuple [(eA64u8 r315.1), (.bool r315.2)]) rfl (by kernel_rfl) (d_cons (vb (eA64u8 r315.1) rfl rfl (d_next (by kernel_rfl) (d_cons (vb (.bool r315.2) rfl rfl (d_next (by kernel_rfl) (d_cons ?_)))))))))
      refine vo 2400 (eA64u8 ((vrep 64 (0 : Int)))) rfl rfl (d_next (by kernel_rfl) (d_cons (vs (eA64u8 r315.1) rfl rfl (fun _ => rfl) rfl rfl rfl rfl rfl rfl (d_next (by kernel_rfl) (dp (.bool r315.2) rfl (by kernel_rfl) (d_nil (a_next (σ' := ⟨[(0, (i6 a0)), (1, (eSA64u8 a1)), (7, (.osl 7)), (8, (.osl 8)), (9, (ow 9)), (10, (ow 10)), (11, (ow 11)), (12, (ow 12)), (13, (i6 x241)), (14, (ow 14)), (15, (.bool r315.2))], [(7, (bk (.row 64 (x242.map eA64u8)))), (8, (bk (.row 64 (x243.map eA64u8)))), (9, (bk (eA64u8 x244))), (10, (bk (eA64u8 x245))), (11, (bk (eA64u8 x246))), (12, (bk (eA64u8 x247))), (14, (bk (eA64u8 r315.1)))]⟩) (by kernel_rfl) (a_seq (a_draw [⟨[], [], [], []⟩, ⟨[], [], [], []⟩, ⟨[], [], [], []⟩, ⟨[], [], [], [1, 2]⟩, ⟨[], [], [], [1, 2, 3]⟩, ⟨[11], [], [], []⟩, ⟨[], [], [], [0, 1, 2, 3, 4, 5]⟩, ⟨[], [], [], [0, 1, 2, 3, 4, 5, 6]⟩, ⟨[], [], [], [0, 1, 2, 3, 4, 5, 6, 7]⟩, ⟨[], [], [], [0, 1, 2, 3, 4, 5, 6, 7]⟩, ⟨[2600], [2600], [2600], []⟩, ⟨[2600], [2600], [], [0, 1, 2, 3, 4, 5, 6, 7, 8, 10]⟩, ⟨[], [], [], [0, 1, 2, 3, 4, 5, 6, 7, 8, 9, 10, 11]⟩] (by kernel_rfl) ?_)))))))))
      refine dp (i6 a0) rfl (by kernel_rfl) (dp (eSA64u8 a1) rfl (by kernel_rfl) (dp (i6 x241) rfl (by kernel_rfl) (d_cons ?_)))
      obtain ⟨hc324, h⟩ := ifp_some h
      refine vq (.ref (.row 64 (a1.map eA64u8)) [x241.toNat] [x241.toNat * 64]) rfl (lmap hc324) (d_next (by kernel_rfl) (d_cons ?_))
      have hl325 : LdOk [x241.toNat] (.row 64 (a1.map eA64u8)) [x241.toNat * 64] 64 true (eA64u8 (rd a1 x241.toNat)) := (.row (llt hc324) rfl (.nil rfl rfl rfl))
      refine vq (eA64u8 (rd a1 x241.toNat)) (ld_ref (i := ⟨.arr 64 5, 64, 64, (eA64u8 (vrep 64 (0 : Int)))⟩) rfl rfl hl325) hl325.c (d_next (by kernel_rfl) (d_cons (vl (eA64u8 x246) rfl rfl rfl rfl rfl rfl (d_next (by kernel_rfl) (d_cons ?_)))))
      obtain ⟨r327, hr328, h⟩ := bind_some h
      refine a_call (args := [(i6 a0), (eA64u8 (rd a1 x241.toNat)), (eA64u8 x246)]) (u := []) (r := (.tuple [(eA64u8 r327.1), (.bool r327.2)])) rfl rfl (spec_l01Times_ok a0 (rd a1 x241.toNat) x246 r327 hr328) rfl (d_next (by kernel_rfl) (dp (.tuple [(eA64u8 r327.1), (.bool r327.2)]) rfl (by kernel_rfl) (d_cons (vb (eA64u8 r327.1) rfl rfl (d_next (by kernel_rfl) (d_cons (vb (.bool r327.2) rfl rfl (d_next (by kernel_rfl) (d_cons ?_)))))))))
      refine vo 2600 (eA64u8 ((vrep 64 (0 : Int)))) rfl rfl (d_next (by kernel_rfl) (d_cons (vs (eA64u8 r327.1) rfl rfl (fun _ => rfl) rfl rfl rfl rfl rfl rfl (d_next (by kernel_rfl) (dp (.bool r327.2) rfl (by kernel_rfl) (d_nil (a_next (σ' := ⟨[(0, (i6 a0)), (1, (eSA64u8 a1)), (7, (.osl 7)), (8, (.osl 8)), (9, (ow 9)), (10, (ow 10)), (11, (ow 11)), (12, (ow 12)), (13, (i6 x241)), (14, (ow 14)), (15, (.bool r315.2)), (16, (ow 16)), (17, (.bool r327.2))], [(7, (bk (.row 64 (x242.map eA64u8)))), (8, (bk (.row 64 (x243.map eA64u8)))), (9, (bk (eA64u8 x244))), (10, (bk (eA64u8 x245))), (11, (bk (eA64u8 x246))), (12, (bk (eA64u8 x247))), (14, (bk (eA64u8 r315.1))), (16, (bk (eA64u8 r327.1)))]⟩) (by kernel_rfl) (a_seq ?_))))))))
      obtain ⟨y332, hy333, hk334⟩ := bind_some h
      clear h
      refine a_join (emb := fun (s : Bool) => ⟨[(0, (i6 a0)), (1, (eSA64u8 a1)), (7, (.osl 7)), (8, (.osl 8)), (9, (ow 9)), (10, (ow 10)), (11, (ow 11)), (12, (ow 12)), (13, (i6 x241)), (14, (ow 14)), (16, (ow 16)), (55, (.bool s))], [(7, (bk (.row 64 (x242.map eA64u8)))), (8, (bk (.row 64 (x243.map eA64u8)))), (9, (bk (eA64u8 x244))), (10, (bk (eA64u8 x245))), (11, (bk (eA64u8 x246))), (12, (bk (eA64u8 x247))), (14, (bk (eA64u8 r315.1))), (16, (bk (eA64u8 r327.1)))]⟩) (pre := fun s => s = y332) ?_ ?_
      · rintro x331 rfl
        have h := hk334
        refine a_st (σ' := ⟨[(0, (i6 a0)), (1, (eSA64u8 a1)), (7, (.osl 7)), (8, (.osl 8)), (9, (ow 9)), (10, (ow 10)), (11, (ow 11)), (12, (ow 12)), (13, (i6 x241)), (14, (ow 14)), (16, (ow 16)), (55, (.bool x331))], [(7, (bk (.row 64 (x242.map eA64u8)))), (8, (bk (.row 64 (x243.map eA64u8)))), (9, (bk (eA64u8 x244))), (10, (bk (eA64u8 x245))), (11, (bk (eA64u8 x246))), (12, (bk (eA64u8 x247))), (14, (bk (eA64u8 r315.1))), (16, (bk (eA64u8 r327.1)))]⟩) (by kernel_rfl) ?_
        cases hb336 : x331
        · have h := ite_f hb336 h
          refine a_cond_f rfl (a_skip (a_next (σ' := ⟨[(0, (i6 a0)), (1, (eSA64u8 a1)), (7, (.osl 7)), (8, (.osl 8)), (9, (ow 9)), (10, (ow 10)), (11, (ow 11)), (12, (ow 12)), (13, (i6 x241)), (14, (ow 14)), (16, (ow 16))], [(7, (bk (.row 64 (x242.map eA64u8)))), (8, (bk (.row 64 (x243.map eA64u8)))), (9, (bk (eA64u8 x244))), (10, (bk (eA64u8 x245))), (11, (bk (eA64u8 x246))), (12, (bk (eA64u8 x247))), (14, (bk (eA64u8 r315.1))), (16, (bk (eA64u8 r327.1)))]⟩) (by kernel_rfl) (sr (vp (i6 a0) rfl (vl (eA64u8 r315.1) rfl rfl rfl rfl rfl rfl (vl (eA64u8 x245) rfl rfl rfl rfl rfl rfl ?_))))))
          obtain ⟨r339, hr340, h⟩ := bind_some h
          refine a_call (args := [(i6 a0), (eA64u8 r315.1), (eA64u8 x245), (i6 1)]) (u := []) (r := (eA64u8 r339)) rfl rfl (spec_l01Add_ok a0 r315.1 x245 1 r339 hr340) rfl (vs (eA64u8 r339) rfl rfl (fun _ => rfl) rfl rfl rfl rfl rfl rfl (nx ⟨[(0, (i6 a0)), (1, (eSA64u8 a1)), (7, (.osl 7)), (8, (.osl 8)), (9, (ow 9)), (10, (ow 10)), (11, (ow 11)), (12, (ow 12)), (13, (i6 x241)), (14, (ow 14)), (16, (ow 16))], [(7, (bk (.row 64 (x242.map eA64u8)))), (8, (bk (.row 64 (x243.map eA64u8)))), (9, (bk (eA64u8 x244))), (10, (bk (eA64u8 x245))), (11, (bk (eA64u8 x246))), (12, (bk (eA64u8 x247))), (14, (bk (eA64u8 r339))), (16, (bk (eA64u8 r327.1)))]⟩ (by kernel_rfl) (sr (vp (i6 a0) rfl (vl (eA64u8 r327.1) rfl rfl rfl rfl rfl rfl (vl (eA64u8 x247) rfl rfl rfl rfl rfl rfl ?_))))))
          obtain ⟨r344, hr345, h⟩ := bind_some h
          refine a_call (args := [(i6 a0), (eA64u8 r327.1), (eA64u8 x247), (i6 1)]) (u := []) (r := (eA64u8 r344)) rfl rfl (spec_l01Add_ok a0 r327.1 x247 1 r344 hr345) rfl (vs (eA64u8 r344) rfl rfl (fun _ => rfl) rfl rfl rfl rfl rfl rfl (nx ⟨[(0, (i6 a0)), (1, (eSA64u8 a1)), (7, (.osl 7)), (8, (.osl 8)), (9, (ow 9)), (10, (ow 10)), (11, (ow 11)), (12, (ow 12)), (13, (i6 x241)), (14, (ow 14)), (16, (ow 16))], [(7, (bk (.row 64 (x242.map eA64u8)))), (8, (bk (.row 64 (x243.map eA64u8)))), (9, (bk (eA64u8 x244))), (10, (bk (eA64u8 x245))), (11, (bk (eA64u8 x246))), (12, (bk (eA64u8 x247))), (14, (bk (eA64u8 r339))), (16, (bk (eA64u8 r344)))]⟩ (by kernel_rfl) (sr (vl (eA64u8 x244) rfl rfl rfl rfl rfl rfl (vs (eA64u8 x244) rfl rfl (fun _ => rfl) rfl rfl rfl rfl rfl rfl (nx ⟨[(0, (i6 a0)), (1, (eSA64u8 a1)), (7, (.osl 7)), (8, (.osl 8)), (9, (ow 9)), (10, (ow 10)), (11, (ow 11)), (12, (ow 12)), (13, (i6 x241)), (14, (ow 14)), (16, (ow 16))], [(7, (bk (.row 64 (x242.map eA64u8)))), (8, (bk (.row 64 (x243.map eA64u8)))), (9, (bk (eA64u8 x244))), (10, (bk (eA64u8 x244))), (11, (bk (eA64u8 x246))), (12, (bk (eA64u8 x247))), (14, (bk (eA64u8 r339))), (16, (bk (eA64u8 r344)))]⟩ (by kernel_rfl) (sr (vl (eA64u8 x246) rfl rfl rfl rfl rfl rfl (vs (eA64u8 x246) rfl rfl (fun _ => rfl) rfl rfl rfl rfl rfl rfl ?_)))))))))
          refine nx ⟨[(0, (i6 a0)), (1, (eSA64u8 a1)), (7, (.osl 7)), (8, (.osl 8)), (9, (ow 9)), (10, (ow 10)), (11, (ow 11)), (12, (ow 12)), (13, (i6 x241)), (14, (ow 14)), (16, (ow 16))], [(7, (bk (.row 64 (x242.map eA64u8)))), (8, (bk (.row 64 (x243.map eA64u8)))), (9, (bk (eA64u8 x244))), (10, (bk (eA64u8 x244))), (11, (bk (eA64u8 x246))), (12, (bk (eA64u8 x246))), (14, (bk (eA64u8 r339))), (16, (bk (eA64u8 r344)))]⟩ (by kernel_rfl) (sr (vl (eA64u8 r339) rfl rfl rfl rfl rfl rfl (vs (eA64u8 r339) rfl rfl (fun _ => rfl) rfl rfl rfl rfl rfl rfl (nx ⟨[(0, (i6 a0)), (1, (eSA64u8 a1)), (7, (.osl 7)), (8, (.osl 8)), (9, (ow 9)), (10, (ow 10)), (11, (ow 11)), (12, (ow 12)), (13, (i6 x241)), (16, (ow 16))], [(7, (bk (.row 64 (x242.map eA64u8)))), (8, (bk (.row 64 (x243.map eA64u8)))), (9, (bk (eA64u8 r339))), (10, (bk (eA64u8 x244))), (11, (bk (eA64u8 x246))), (12, (bk (eA64u8 x246))), (16, (bk (eA64u8 r344)))]⟩ (by kernel_rfl) (sr (vl (eA64u8 r344) rfl rfl rfl rfl rfl rfl (vs (eA64u8 r344) rfl rfl (fun _ => rfl) rfl rfl rfl rfl rfl rfl (nx ⟨[(0, (i6 a0)), (1, (eSA64u8 a1)), (7, (.osl 7)), (8, (.osl 8)), (9, (ow 9)), (10, (ow 10)), (11, (ow 11)), (12, (ow 12)), (13, (i6 x241))], [(7, (bk (.row 64 (x242.map eA64u8)))), (8, (bk (.row 64 (x243.map eA64u8)))), (9, (bk (eA64u8 r339))), (10, (bk (eA64u8 x244))), (11, (bk (eA64u8 r344))), (12, (bk (eA64u8 x246)))]⟩ (by kernel_rfl) (sr ?_)))))))))
          refine vp (.osl 7) rfl (vl (eA64u8 r339) rfl rfl rfl rfl rfl rfl (vq (.sl 64 true (([r339]).map eA64u8)) rfl ⟨(Nat.le_of_ble_eq_true rfl), (Nat.le_of_ble_eq_true rfl), (all_cons ⟨(Nat.le_of_ble_eq_true rfl), rfl⟩ all_nil)⟩ ?_))
          obtain ⟨hc356, h⟩ := ifp_some h
          refine vu (.osl 8100) [(8100, (bk (.row 64 (((x242 ++ ([r339]))).map eA64u8)))), (7, none)] (app_run (i := ⟨.arr 64 5, 64, 64, (eA64u8 (vrep 64 (0 : Int)))⟩) (f := eA64u8) (l := x242) (l2 := [r339]) rfl rfl rfl rfl (fun _ => rfl) rfl rfl) (app_c (f := eA64u8) (s := 64) (sz := 64) (by' := 64) (u := []) (id := 7) hc356 (.inr rfl) rfl rfl rfl) rfl (vp (.osl 8100) rfl (nx ⟨[(0, (i6 a0)), (1, (eSA64u8 a1)), (7, (.osl 7)), (8, (.osl 8)), (9, (ow 9)), (10, (ow 10)), (11, (ow 11)), (12, (ow 12)), (13, (i6 x241))], [(7, (bk (.row 64 (((x242 ++ ([r339]))).map eA64u8)))), (8, (bk (.row 64 (x243.map eA64u8)))), (9, (bk (eA64u8 r339))), (10, (bk (eA64u8 x244))), (11, (bk (eA64u8 r344))), (12, (bk (eA64u8 x246)))]⟩ (by kernel_rfl) (a_region (vp (.osl 8) rfl (vl (eA64u8 r344) rfl rfl rfl rfl rfl rfl (vq (.sl 64 true (([r344]).map eA64u8)) rfl ⟨(Nat.le_of_ble_eq_true rfl), (Nat.le_of_ble_eq_true rfl), (all_cons ⟨(Nat.le_of_ble_eq_true rfl), rfl⟩ all_nil)⟩ ?_))))))
          obtain ⟨hc358, h⟩ := ifp_some h
          refine vu (.osl 8500) [(8500, (bk (.row 64 (((x243 ++ ([r344]))).map eA64u8)))), (8, none)] (app_run (i := ⟨.arr 64 5, 64, 64, (eA64u8 (vrep 64 (0 : Int)))⟩) (f := eA64u8) (l := x243) (l2 := [r344]) rfl rfl rfl rfl (fun _ => rfl) rfl rfl) (app_c (f := eA64u8) (s := 64) (sz := 64) (by' := 64) (u := []) (id := 8) hc358 (.inr rfl) rfl rfl rfl) rfl (vp (.osl 8500) rfl (a_nil (b_norm (a_next (σ' := ⟨[(0, (i6 a0)), (1, (eSA64u8 a1)), (7, (.osl 7)), (8, (.osl 8)), (9, (ow 9)), (10, (ow 10)), (11, (ow 11)), (12, (ow 12)), (13, (i6 x241))], [(7, (bk (.row 64 (((x242 ++ ([r339]))).map eA64u8)))), (8, (bk (.row 64 (((x243 ++ ([r344]))).map eA64u8)))), (9, (bk (eA64u8 r339))), (10, (bk (eA64u8 x244))), (11, (bk (eA64u8 r344))), (12, (bk (eA64u8 x246)))]⟩) (by kernel_rfl) (a_region (vp (i6 x241) rfl (vp (i6 (IntKind.i64.wrap (x241 + 1))) rfl (vp (i6 (IntKind.i64.wrap (x241 + 1))) rfl (a_nil ?_)))))))))
          cases h
          exact a_again (by kernel_rfl) hX304
        · have h := ite_t hb336 h
          refine a_cond_t rfl (sr (vp (eSA64u8 ([])) rfl (vp (eSA64u8 ([])) rfl (vp (.bool false) rfl (nx _ rfl (a_ret (t_ret (b_ret (t_ret ?_)))))))))
          cases h
          have h := hX304
          refine t_ret (b_ret (t_ret ?_))
          cases h
          have h := hk186
          refine ⟨.inr rfl, ?_⟩
          rw [Try.results159]
          cases h
          exact ⟨_, _, _, _, _, rfl, trivial, .inl ⟨rfl, .inl rfl⟩, rfl, ⟨_, _, _, _, _, rfl, trivial, .inl ⟨rfl, .inl rfl⟩, rfl, ⟨_, _, _, _, _, rfl, trivial, .inl ⟨rfl, .inl rfl⟩, rfl, rfl⟩⟩⟩
      · have h := hy333
        refine a_region (vp (.bool r315.2) rfl (vp (.bool (!r315.2)) rfl (vp (.bool (!r315.2)) rfl ?_)))
        cases hb335 : (!r315.2)
        · have h := ite_f hb335 h
          refine gp (.bool r327.2) rfl rfl (gp (.bool (!r327.2)) rfl rfl (vp (.bool (!r327.2)) rfl (a_nil ?_)))
          exact j_leaf (!r327.2) (Option.some.inj h) (by kernel_rfl)
        · have h := ite_t hb335 h
          refine a_gskip rfl (a_gskip rfl (vp (.bool true) rfl (a_nil ?_)))
          exact j_leaf true (Option.some.inj h) (by kernel_rfl)
def spec_ConvergentsOf_c : ACode := (.seq (.region 0 [q 4 (.asg 1 (.const (.slice none 0 0)) 55), q 5 (.asg 1 (.const (.slice none 0 0)) 55), q 6 (.asg 0 (.const (.int .i64 0)) 2)] false) (.seq (.block 0 (.seq (.region 1 [q 11 (.mov (t 0)), q 12 (.mov (t 1)), q 13 (.call 0 (.func 104) [(t 11), (t 12)]), q 14 (.bin .neq 2 (t 13) (.const (.int .i64 0))), q 10 (.asg 0 (t 14) 4)] false) (.cond (t 10) (.seq (.region 2 [q 4 (.asg 1 (.const (.slice none 0 0)) 55), q 5 (.asg 1 (.const (.slice none 0 0)) 55), q 6 (.asg 0 (.const (.int .i64 1)) 2)] false) .ret) (.seq (.region 3 [q 16 (.mov (t 1)), q 17 (.blt 0 .len [(t 16)] [55]), q 18 (.bin .lss 3 (t 17) (.const (.int .i64 1))), q 19 (.mov (t 18)), ⟨some 20, .mov (t 1), some (19, false), []⟩, ⟨some 21, .blt 0 .len [(t 20)] [55], some (19, false), []⟩, ⟨some 22, .bin .gtr 3 (t 21) (.const (.int .i64 30)), some (19, false), []⟩, q 23 (.pick (t 19) (.const (.bool true)) (t 22)), q 15 (.asg 0 (t 23) 4)] false) (.cond (t 15) (.seq (.region 4 [q 4 (.asg 1 (.const (.slice none 0 0)) 55), q 5 (.asg 1 (.const (.slice none 0 0)) 55), q 6 (.asg 0 (.const (.int .i64 2)) 2)] false) .ret) .skip))))) (.seq (.region 5 [q 25 (.mov (t 0)), q 26 (.mov (t 1)), q 27 (.call 0 (.func 159) [(t 25), (t 26)]), q 24 (.mov (t 27)), q 28 (.extract (t 24) 0), q 29 (.extract (t 24) 1), q 30 (.extract (t 24) 2), q 7 (.asg 1 (t 28) 55), q 8 (.asg 1 (t 29) 55), q 9 (.asg 0 (t 30) 4)] false) (.seq (.seq (.region 6 [q 31 (.mov (t 9)), q 32 (.un .not (t 31))] false) (.cond (t 32) (.seq (.region 7 [q 4 (.asg 1 (.const (.slice none 0 0)) 55), q 5 (.asg 1 (.const (.slice none 0 0)) 55), q 6 (.asg 0 (.const (.int .i64 3)) 2)] false) .ret) .skip)) (.seq (.region 8 [q 33 (.mov (t 7)), q 34 (.mov (t 8)), q 4 (.asg 1 (t 33) 55), q 5 (.asg 1 (t 34) 55), q 6 (.asg 0 (.const (.int .i64 0)) 2)] false) .ret)))))
def spec_ConvergentsOf_L : Live := [(0, [0, 1]), (1, [0, 1]), (2, []), (3, [0, 1]), (4, []), (5, [0, 1]), (6, [7, 8, 9]), (7, []), (8, [7, 8]), (100010, [0, 1, 10]), (100015, [0, 1, 15]), (100032, [7, 8, 32])]
noncomputable def spec_ConvergentsOf (a0 : Int) (a1 : (List (Vec Int 64))) : Option ((List (Vec Int 64)) × (List (Vec Int 64)) × Int) :=
  (Option.bind (spec_l01Code a0 a1) fun r1 => (if (r1 != 0) then (some ([], [], 1)) else (Option.bind (α := Bool) ((if (decide ((a1.length : Int) < 1)) then (some true) else (some ((decide ((a1.length : Int) > 30)))))) fun x5 => (if x5 then (some ([], [], 2)) else (Option.bind (spec_l10Convergents a0 a1) fun r11 => (if (!r11.2.2) then (some ([], [], 3)) else (some (r11.1, r11.2.1, 0))))))))
theorem spec_ConvergentsOf_ok (a0 : Int) (a1 : (List (Vec Int 64))) (r : ((List (Vec Int 64)) × (List (Vec Int 64)) × Int)) (h : spec_ConvergentsOf a0 a1 = some r) : Den Try.prog 71 [(i6 a0), (eSA64u8 a1)] { r := (.tuple [(eSA64u8 r.1), (eSA64u8 r.2.1), (i6 r.2.2)]) } := by
  refine den_of (rs := [(eSA64u8 r.1), (eSA64u8 r.2.1), (i6 r.2.2)]) (ac := spec_ConvergentsOf_c) (L := spec_ConvergentsOf_L) (n := 35) (m := [(4, 1), (5, 1), (7, 1), (8, 1)]) (c := Try.f71.body.getD .skip) good Try.func71 (by kernel_rfl) (by kernel_rfl) Try.ntmps71 rfl rfl (by kernel_rfl) rfl rfl ?_
  refine a_st (σ' := ⟨[(0, (i6 a0)), (1, (eSA64u8 a1))], []⟩) (by kernel_rfl) ?_
  unfold spec_ConvergentsOf_c
  refine sr (vp (eSA64u8 ([])) rfl (vp (eSA64u8 ([])) rfl (vp (i6 0) rfl (nx ⟨[(0, (i6 a0)), (1, (eSA64u8 a1))], []⟩ (by kernel_rfl) (a_seq (a_block (sr (vp (i6 a0) rfl (vp (eSA64u8 a1) rfl ?_)))))))))
  obtain ⟨r1, hr2, h⟩ := bind_some h
  refine a_call (args := [(i6 a0), (eSA64u8 a1)]) (u := []) (r := (i6 r1)) rfl rfl (spec_l01Code_ok a0 a1 r1 hr2) rfl (vp (.bool (r1 != 0)) rfl (vp (.bool (r1 != 0)) rfl (nx ⟨[(0, (i6 a0)), (1, (eSA64u8 a1)), (10, (.bool (r1 != 0)))], []⟩ (by kernel_rfl) ?_)))
  cases hb3 : (r1 != 0)
  · have h := ite_f hb3 h
    refine a_cond_f rfl ?_
    obtain ⟨y6, hy7, hk8⟩ := bind_some h
    clear h
    refine a_join (emb := fun (s : Bool) => ⟨[(0, (i6 a0)), (1, (eSA64u8 a1)), (15, (.bool s))], []⟩) (pre := fun s => s = y6) ?_ ?_
    · rintro x5 rfl
      have h := hk8
      refine a_st (σ' := ⟨[(0, (i6 a0)), (1, (eSA64u8 a1)), (15, (.bool x5))], []⟩) (by kernel_rfl) ?_
      cases hb10 : x5
      · have h := ite_f hb10 h
        refine a_cond_f rfl (a_skip (b_norm (a_next (σ' := ⟨[(0, (i6 a0)), (1, (eSA64u8 a1))], []⟩) (by kernel_rfl) (sr (vp (i6 a0) rfl (vp (eSA64u8 a1) rfl ?_))))))
        obtain ⟨r11, hr12, h⟩ := bind_some h
        refine a_call (args := [(i6 a0), (eSA64u8 a1)]) (u := []) (r := (.tuple [(eSA64u8 r11.1), (eSA64u8 r11.2.1), (.bool r11.2.2)])) rfl rfl (spec_l10Convergents_ok a0 a1 r11 hr12) rfl (vp (.tuple [(eSA64u8 r11.1), (eSA64u8 r11.2.1), (.bool r11.2.2)]) rfl (vb (eSA64u8 r11.1) rfl rfl (vb (eSA64u8 r11.2.1) rfl rfl (vb (.bool r11.2.2) rfl rfl (vp (eSA64u8 r11.1) rfl (vp (eSA64u8 r11.2.1) rfl (vp (.bool r11.2.2) rfl (nx ⟨[(7, (eSA64u8 r11.1)), (8, (eSA64u8 r11.2.1)), (9, (.bool r11.2.2))], []⟩ (by kernel_rfl) (a_seq ?_)))))))))
        refine sr (vp (.bool r11.2.2) rfl (vp (.bool (!r11.2.2)) rfl (nx ⟨[(7, (eSA64u8 r11.1)), (8, (eSA64u8 r11.2.1)), (32, (.bool (!r11.2.2)))], []⟩ (by kernel_rfl) ?_)))
        cases hb13 : (!r11.2.2)
        · have h := ite_f hb13 h
          refine a_cond_f rfl (a_skip (a_next (σ' := ⟨[(7, (eSA64u8 r11.1)), (8, (eSA64u8 r11.2.1))], []⟩) (by kernel_rfl) (sr (vp (eSA64u8 r11.1) rfl (vp (eSA64u8 r11.2.1) rfl (vp (eSA64u8 r11.1) rfl (vp (eSA64u8 r11.2.1) rfl (vp (i6 0) rfl (nx _ rfl ?_)))))))))
          refine a_ret ?_
          refine ⟨.inr rfl, ?_⟩
          rw [Try.results71]
          cases h
          exact ⟨_, _, _, _, _, rfl, trivial, .inl ⟨rfl, .inl rfl⟩, rfl, ⟨_, _, _, _, _, rfl, trivial, .inl ⟨rfl, .inl rfl⟩, rfl, ⟨_, _, _, _, _, rfl, trivial, .inl ⟨rfl, .inl rfl⟩, rfl, rfl⟩⟩⟩
        · have h := ite_t hb13 h
          refine a_cond_t rfl (sr (vp (eSA64u8 ([])) rfl (vp (eSA64u8 ([])) rfl (vp (i6 3) rfl (nx _ rfl (a_ret (t_ret ?_)))))))
          refine ⟨.inr rfl, ?_⟩
          rw [Try.results71]
          cases h
          exact ⟨_, _, _, _, _, rfl, trivial, .inl ⟨rfl, .inl rfl⟩, rfl, ⟨_, _, _, _, _, rfl, trivial, .inl ⟨rfl, .inl rfl⟩, rfl, ⟨_, _, _, _, _, rfl, trivial, .inl ⟨rfl, .inl rfl⟩, rfl, rfl⟩⟩⟩
      · have h := ite_t hb10 h
        refine a_cond_t rfl (sr (vp (eSA64u8 ([])) rfl (vp (eSA64u8 ([])) rfl (vp (i6 2) rfl (nx _ rfl (a_ret (b_ret (t_ret ?_))))))))
        refine ⟨.inr rfl, ?_⟩
        rw [Try.results71]
        cases h
        exact ⟨_, _, _, _, _, rfl, trivial, .inl ⟨rfl, .inl rfl⟩, rfl, ⟨_, _, _, _, _, rfl, trivial, .inl ⟨rfl, .inl rfl⟩, rfl, ⟨_, _, _, _, _, rfl, trivial, .inl ⟨rfl, .inl rfl⟩, rfl, rfl⟩⟩⟩
    · have h := hy7
      refine a_region (vp (eSA64u8 a1) rfl (vq (i6 (a1.length : Int)) (len_run rfl rfl) trivial (vp (.bool ((decide ((a1.length : Int) < 1)))) rfl (vp (.bool ((decide ((a1.length : Int) < 1)))) rfl ?_))))
      cases hb9 : (decide ((a1.length : Int) < 1))
      · have h := ite_f hb9 h
        refine gp (eSA64u8 a1) rfl rfl (gq (i6 (a1.length : Int)) rfl (len_run rfl rfl) trivial (gp (.bool ((decide ((a1.length : Int) > 30)))) rfl rfl (vp (.bool ((decide ((a1.length : Int) > 30)))) rfl (vp (.bool ((decide ((a1.length : Int) > 30)))) rfl (a_nil ?_)))))
        exact j_leaf ((decide ((a1.length : Int) > 30))) (Option.some.inj h) (by kernel_rfl)
      · have h := ite_t hb9 h
        refine a_gskip rfl (a_gskip rfl (a_gskip rfl (vp (.bool true) rfl (vp (.bool true) rfl (a_nil ?_)))))
        exact j_leaf true (Option.some.inj h) (by kernel_rfl)
  · have h := ite_t hb3 h
    refine a_cond_t rfl (sr (vp (eSA64u8 ([])) rfl (vp (eSA64u8 ([])) rfl (vp (i6 1) rfl (nx _ rfl (a_ret (b_ret (t_ret ?_))))))))
    refine ⟨.inr rfl, ?_⟩
    rw [Try.results71]
    cases h
    exact ⟨_, _, _, _, _, rfl, trivial, .inl ⟨rfl, .inl rfl⟩, rfl, ⟨_, _, _, _, _, rfl, trivial, .inl ⟨rfl, .inl rfl⟩, rfl, ⟨_, _, _, _, _, rfl, trivial, .inl ⟨rfl, .inl rfl⟩, rfl, rfl⟩⟩⟩
def spec_DrawBestApproximation_c : ACode := (.seq (.region 0 [q 2 (.asg 0 (.const (.int .i64 0)) 2), q 3 (.alloc 25), q 4 (.alloc 25), q 5 (.asg 0 (.const (.int .i64 0)) 2)] false) (.seq (.region 1 [q 10 (.mov (t 0)), q 11 (.call 0 (.func 116) [(t 10)]), q 6 (.asg 0 (t 11) 96)] false) (.seq (.region 2 [q 13 (.mov (t 0)), q 14 (.call 0 (.func 62) [(t 13)]), q 12 (.mov (t 14)), q 15 (.extract (t 12) 0), q 16 (.extract (t 12) 1), q 17 (.extract (t 12) 2), q 8 (.alloc 25), q 9 (.alloc 25), q 7 (.asg 0 (t 15) 2), ⟨none, .store 25 (t 8) (t 16), none, []⟩, ⟨none, .store 25 (t 9) (t 17), none, []⟩] false) (.seq (.region 3 [q 18 (.mov (t 7)), q 19 (.load 25 (t 8)), q 20 (.load 25 (t 9)), q 21 (.mov (t 6)), q 22 (.mov (t 6)), ⟨some 23, .call 1 (.func 123) [(t 22), (.const (.int .i64 4))], none, [4]⟩, q 24 (.mov (t 6)), ⟨some 25, .call 1 (.func 123) [(t 24), (.const (.int .i64 10))], none, [6, 5]⟩, q 26 (.mov (t 6)), ⟨some 27, .call 1 (.func 132) [(t 26), (.const (.int .i64 63))], none, [8, 7]⟩, ⟨some 28, .bslice 0 59 3 [(0, (t 23)), (1, (t 25)), (2, (t 27))], none, [5, 7, 9]⟩, ⟨some 29, .call 1 (.func 122) [(t 21), (t 28)], none, [3, 10, 9]⟩, ⟨some 2, .asg 0 (t 18) 2, none, [0, 11, 0]⟩, ⟨none, .store 25 (t 3) (t 19), none, [1, 12, 0, 1, 12]⟩, ⟨none, .store 25 (t 4) (t 20), none, [2, 13, 0, 1, 2, 12, 13]⟩, ⟨some 5, .asg 0 (t 29) 2, none, [11, 14, 0, 1, 2, 3, 4, 5, 6, 7, 8, 9, 10, 11, 12, 13, 14]⟩] true) .ret))))
def spec_DrawBestApproximation_L : Live := [(0, [0]), (1, [0, 3, 4]), (2, [0, 3, 4, 6]), (3, [3, 4, 6, 7, 8, 9])]
noncomputable def spec_DrawBestApproximation (a0 : (List Int)) : Option (Int × (Vec Int 64) × (Vec Int 64) × Int) :=
  (Option.bind (spec_l01From a0) fun r1 => (Option.bind (spec_DrawContinuedFraction a0) fun r3 => (Option.bind (spec_l01Next_of_src r1 4) fun r25 => (Option.bind (spec_l01Next_of_src r25.2 10) fun r28 => (Option.bind (spec_l01Near_of_src r28.2 63) fun r31 => (Option.bind (spec_l01Pick_of_src r31.2 ([r25.1, r28.1, r31.1])) fun r34 => (some (r3.1, r3.2.1, r3.2.2, r34.1))))))))
theorem spec_DrawBestApproximation_ok (a0 : (List Int)) (r : (Int × (Vec Int 64) × (Vec Int 64) × Int)) (h : spec_DrawBestApproximation a0 = some r) : Den Try.prog 72 [(eSu8 a0)] { r := (.tuple [(i6 r.1), (eA64u8 r.2.1), (eA64u8 r.2.2.1), (i6 r.2.2.2)]) } := by
  refine den_of (rs := [(i6 r.1), (eA64u8 r.2.1), (eA64u8 r.2.2.1), (i6 r.2.2.2)]) (ac := spec_DrawBestApproximation_c) (L := spec_DrawBestApproximation_L) (n := 30) (m := [(23, 1), (25, 1), (27, 1), (29, 1)]) (c := Try.f72.body.getD .skip) good Try.func72 (by kernel_rfl) (by kernel_rfl) Try.ntmps72 rfl rfl (by kernel_rfl) rfl rfl ?_
  refine a_st (σ' := ⟨[(0, (eSu8 a0))], []⟩) (by kernel_rfl) ?_
  unfold spec_DrawBestApproximation_c
  refine sr (vp (i6 0) rfl (vo 1300 (eA64u8 ((vrep 64 (0 : Int)))) rfl rfl (vo 1400 (eA64u8 ((vrep 64 (0 : Int)))) rfl rfl (vp (i6 0) rfl (nx ⟨[(0, (eSu8 a0)), (3, (ow 3)), (4, (ow 4))], [(3, (bk (eA64u8 ((vrep 64 (0 : Int)))))), (4, (bk (eA64u8 ((vrep 64 (0 : Int))))))]⟩ (by kernel_rfl) (sr (vp (eSu8 a0) rfl ?_)))))))
  obtain ⟨r1, hr2, h⟩ := bind_some h
  refine a_callF (args := [(eSu8 a0)]) (u := []) (u2 := []) (r := (ow 2000000)) (fs := [(0, [eT_Su8_i64_u64_Z r1])]) rfl rfl (spec_l01From_ok a0 r1 hr2) rfl rfl rfl (.inl rfl) rfl (vp (ow 2100) rfl (nx ⟨[(0, (eSu8 a0)), (3, (ow 3)), (4, (ow 4)), (6, (ow 6))], [(3, (bk (eA64u8 ((vrep 64 (0 : Int)))))), (4, (bk (eA64u8 ((vrep 64 (0 : Int)))))), (6, (bk (eT_Su8_i64_u64_Z r1)))]⟩ (by kernel_rfl) (sr (vp (eSu8 a0) rfl ?_))))
  obtain ⟨r3, hr4, h⟩ := bind_some h
  refine a_call (args := [(eSu8 a0)]) (u := []) (r := (.tuple [(i6 r3.1), (eA64u8 r3.2.1), (eA64u8 r3.2.2)])) rfl rfl (spec_DrawContinuedFraction_ok a0 r3 hr4) rfl (vp (.tuple [(i6 r3.1), (eA64u8 r3.2.1), (eA64u8 r3.2.2)]) rfl (vb (i6 r3.1) rfl rfl (vb (eA64u8 r3.2.1) rfl rfl (vb (eA64u8 r3.2.2) rfl rfl (vo 1800 (eA64u8 ((vrep 64 (0 : Int)))) rfl rfl (vo 1900 (eA64u8 ((vrep 64 (0 : Int)))) rfl rfl (vp (i6 r3.1) rfl (vs (eA64u8 r3.2.1) rfl rfl (fun _ => rfl) rfl rfl rfl rfl rfl rfl (vs (eA64u8 r3.2.2) rfl rfl (fun _ => rfl) rfl rfl rfl rfl rfl rfl ?_)))))))))
  refine nx ⟨[(3, (ow 3)), (4, (ow 4)), (6, (ow 6)), (7, (i6 r3.1)), (8, (ow 8)), (9, (ow 9))], [(3, (bk (eA64u8 ((vrep 64 (0 : Int)))))), (4, (bk (eA64u8 ((vrep 64 (0 : Int)))))), (6, (bk (eT_Su8_i64_u64_Z r1))), (8, (bk (eA64u8 r3.2.1))), (9, (bk (eA64u8 r3.2.2)))]⟩ (by kernel_rfl) (a_seq (a_draw [⟨[], [], [], []⟩, ⟨[8], [], [], []⟩, ⟨[9], [], [], []⟩, ⟨[], [], [6], []⟩, ⟨[], [], [6], []⟩, ⟨[6], [6], [], [4]⟩, ⟨[], [], [6], []⟩, ⟨[6], [6], [], [4, 5, 6]⟩, ⟨[], [], [6], []⟩, ⟨[6], [6], [], [4, 5, 6, 7, 8]⟩, ⟨[], [], [], [4, 5, 6, 7, 8, 9]⟩, ⟨[6], [6], [], [3, 4, 5, 6, 7, 8, 9, 10]⟩, ⟨[], [], [], [0, 3, 4, 5, 6, 7, 8, 9, 10, 11]⟩, ⟨[3], [3], [], [0, 1, 3, 4, 5, 6, 7, 8, 9, 10, 11, 12]⟩, ⟨[4], [4], [], [0, 1, 2, 3, 4, 5, 6, 7, 8, 9, 10, 11, 12, 13]⟩, ⟨[], [], [], [0, 1, 2, 3, 4, 5, 6, 7, 8, 9, 10, 11, 12, 13, 14]⟩] (by kernel_rfl) (dp (i6 r3.1) rfl (by kernel_rfl) (d_cons (vl (eA64u8 r3.2.1) rfl rfl rfl rfl rfl rfl (d_next (by kernel_rfl) (d_cons (vl (eA64u8 r3.2.2) rfl rfl rfl rfl rfl rfl (d_next (by kernel_rfl) ?_)))))))))
  refine dp (ow 6) rfl (by kernel_rfl) (dp (ow 6) rfl (by kernel_rfl) (d_cons ?_))
  obtain ⟨r25, hr26, h⟩ := bind_some h
  refine a_callM (args := [(.mutp (eT_Su8_i64_u64_Z r1)), (i6 4)]) (i := 0) (id := 6) (r := (i6 r25.1)) (c := (eT_Su8_i64_u64_Z r25.2)) rfl rfl (spec_l01Next_of_src_ok r1 4 r25 hr26) rfl trivial (d_next (by kernel_rfl) (dp (ow 6) rfl (by kernel_rfl) (d_cons ?_)))
  obtain ⟨r28, hr29, h⟩ := bind_some h
  refine a_callM (args := [(.mutp (eT_Su8_i64_u64_Z r25.2)), (i6 10)]) (i := 0) (id := 6) (r := (i6 r28.1)) (c := (eT_Su8_i64_u64_Z r28.2)) rfl rfl (spec_l01Next_of_src_ok r25.2 10 r28 hr29) rfl trivial (d_next (by kernel_rfl) (dp (ow 6) rfl (by kernel_rfl) (d_cons ?_)))
  obtain ⟨r31, hr32, h⟩ := bind_some h
  refine a_callM (args := [(.mutp (eT_Su8_i64_u64_Z r28.2)), (i6 63)]) (i := 0) (id := 6) (r := (i6 r31.1)) (c := (eT_Su8_i64_u64_Z r31.2)) rfl rfl (spec_l01Near_of_src_ok r28.2 63 r31 hr32) rfl trivial (d_next (by kernel_rfl) (d_cons (vq (.sl 1 true (([r25.1, r28.1, r31.1]).map (AV.int .i64))) rfl ⟨(Nat.le_of_ble_eq_true rfl), (Nat.le_of_ble_eq_true rfl), (all_cons ⟨(Nat.le_of_ble_eq_true rfl), rfl⟩ (all_cons ⟨(Nat.le_of_ble_eq_true rfl), rfl⟩ (all_cons ⟨(Nat.le_of_ble_eq_true rfl), rfl⟩ all_nil)))⟩ (d_next (by kernel_rfl) (d_cons ?_)))))
  obtain ⟨r34, hr35, h⟩ := bind_some h
  refine a_callM (args := [(.mutp (eT_Su8_i64_u64_Z r31.2)), (.sl 1 true (([r25.1, r28.1, r31.1]).map (AV.int .i64)))]) (i := 0) (id := 6) (r := (i6 r34.1)) (c := (eT_Su8_i64_u64_Z r34.2)) rfl rfl (Den.argsM (spec_l01Pick_of_src_ok r31.2 ([r25.1, r28.1, r31.1]) r34 hr35) rfl rfl (.cons (.loose _) .nil)) rfl trivial (d_next (by kernel_rfl) (dp (i6 r3.1) rfl (by kernel_rfl) (d_cons (vs (eA64u8 r3.2.1) rfl rfl (fun _ => rfl) rfl rfl rfl rfl rfl rfl (d_next (by kernel_rfl) (d_cons (vs (eA64u8 r3.2.2) rfl rfl (fun _ => rfl) rfl rfl rfl rfl rfl rfl (d_next (by kernel_rfl) (dp (i6 r34.1) rfl (by kernel_rfl) ?_)))))))))
  refine d_nil (a_next rfl (a_ret ?_))
  have hl39 : LdOk [] (eA64u8 r3.2.1) [] 64 true (eA64u8 r3.2.1) := (.nil rfl rfl rfl)
  have hl40 : LdOk [] (eA64u8 r3.2.2) [] 64 true (eA64u8 r3.2.2) := (.nil rfl rfl rfl)
  refine ⟨.inr rfl, ?_⟩
  rw [Try.results72]
  cases h
  exact ⟨_, _, _, _, _, rfl, trivial, .inl ⟨rfl, .inl rfl⟩, rfl, ⟨_, _, _, _, _, ld_own (i := ⟨.arr 64 5, 64, 64, (eA64u8 (vrep 64 (0 : Int)))⟩) rfl rfl rfl hl39, hl39.c, .inl ⟨rfl, .inl rfl⟩, rfl, ⟨_, _, _, _, _, ld_own (i := ⟨.arr 64 5, 64, 64, (eA64u8 (vrep 64 (0 : Int)))⟩) rfl rfl rfl hl40, hl40.c, .inl ⟨rfl, .inl rfl⟩, rfl, ⟨_, _, _, _, _, rfl, trivial, .inl ⟨rfl, .inl rfl⟩, rfl, rfl⟩⟩⟩⟩
def impl_within_c : ACode := (.seq (.region 0 [q 6 (.asg 0 (.const (.bool false)) 4)] false) (.seq (.region 1 [q 7 (.mov (t 1)), q 8 (.mov (t 0)), q 9 (.bin .leq 2 (t 7) (t 8)), q 10 (.mov (t 9)), ⟨some 11, .mov (t 0), some (10, true), []⟩, ⟨some 12, .mov (t 2), some (10, true), []⟩, ⟨some 13, .bin .leq 2 (t 11) (t 12), some (10, true), []⟩, q 14 (.pick (t 10) (t 13) (.const (.bool false))), q 6 (.asg 0 (t 14) 4)] false) .ret))
def impl_within_L : Live := [(0, [0, 1, 2]), (1, [0, 1, 2])]
noncomputable def impl_within (a0 : Int) (a1 : Int) (a2 : Int) : Option Bool :=
  (if (decide (a1 ≤ a0)) then (some ((decide (a0 ≤ a2)))) else (some false))
theorem impl_within_ok (a0 : Int) (a1 : Int) (a2 : Int) (r : Bool) (h : impl_within a0 a1 a2 = some r) : Den Try.prog 139 [(i6 a0), (i6 a1), (i6 a2)] { r := (.bool r) } := by
  refine den_of (rs := [(.bool r)]) (ac := impl_within_c) (L := impl_within_L) (n := 15) (m := []) (c := Try.f139.body.getD .skip) good Try.func139 (by kernel_rfl) (by kernel_rfl) Try.ntmps139 rfl rfl (by kernel_rfl) rfl rfl ?_
  refine a_st (σ' := ⟨[(0, (i6 a0)), (1, (i6 a1)), (2, (i6 a2))], []⟩) (by kernel_rfl) ?_
  unfold impl_within_c
  refine sr (vp (.bool false) rfl (nx ⟨[(0, (i6 a0)), (1, (i6 a1)), (2, (i6 a2))], []⟩ (by kernel_rfl) (sr (vp (i6 a1) rfl (vp (i6 a0) rfl (vp (.bool ((decide (a1 ≤ a0)))) rfl (vp (.bool ((decide (a1 ≤ a0)))) rfl ?_)))))))
  cases hb1 : (decide (a1 ≤ a0))
  · have h := ite_f hb1 h
    refine a_gskip rfl (a_gskip rfl (a_gskip rfl (vp (.bool false) rfl (vp (.bool false) rfl (nx _ rfl (a_ret ?_))))))
    refine ⟨.inr rfl, ?_⟩
    rw [Try.results139]
    cases h
    exact ⟨_, _, _, _, _, rfl, trivial, .inl ⟨rfl, .inl rfl⟩, rfl, rfl⟩
  · have h := ite_t hb1 h
    refine gp (i6 a0) rfl rfl (gp (i6 a2) rfl rfl (gp (.bool ((decide (a0 ≤ a2)))) rfl rfl (vp (.bool ((decide (a0 ≤ a2)))) rfl (vp (.bool ((decide (a0 ≤ a2)))) rfl (nx _ rfl (a_ret ?_))))))
    refine ⟨.inr rfl, ?_⟩
    rw [Try.results139]
    cases h
    exact ⟨_, _, _, _, _, rfl, trivial, .inl ⟨rfl, .inl rfl⟩, rfl, rfl⟩
def impl_BestApproximation_c : ACode := (.seq (.region 0 [q 5 (.box 25 (t 1)), q 6 (.box 25 (t 2)), q 8 (.alloc 25), q 9 (.alloc 25), q 10 (.asg 0 (.const (.int .i64 0)) 2)] false) (.seq (.seq (.region 1 [q 17 (.mov (t 0)), q 18 (.load 25 (t 5)), q 19 (.load 25 (t 6)), q 20 (.mov (t 3)), ⟨some 21, .call 0 (.func 139) [(t 20), (.const (.int .i64 0)), (.const (.int .i64 63))], none, [3]⟩, ⟨some 22, .call 0 (.func 138) [(t 17), (t 18), (t 19), (t 21)], none, [0, 1, 2, 4, 4]⟩, ⟨some 11, .asg 0 (t 22) 2, none, [5, 5, 0, 1, 2, 3, 4, 5]⟩] true) (.seq (.region 2 [q 23 (.mov (t 11)), q 24 (.bin .neq 2 (t 23) (.const (.int .i64 0)))] false) (.cond (t 24) (.seq (.region 3 [q 25 (.build 25 []), q 26 (.build 25 []), q 27 (.mov (t 11)), ⟨none, .store 25 (t 8) (t 25), none, []⟩, ⟨none, .store 25 (t 9) (t 26), none, []⟩, q 10 (.asg 0 (t 27) 2)] false) .ret) .skip))) (.seq (.region 4 [q 29 (.mov (t 0)), q 30 (.mov (t 0)), q 31 (.load 25 (t 5)), ⟨some 32, .call 0 (.func 103) [(t 31)], none, [2]⟩, q 33 (.load 25 (t 6)), ⟨some 34, .call 0 (.func 103) [(t 33)], none, [4, 3]⟩, ⟨some 35, .call 0 (.func 152) [(t 30), (t 32), (t 34)], none, [1, 3, 5, 5]⟩, ⟨some 36, .call 0 (.func 157) [(t 29), (t 35)], none, [0, 6, 6]⟩, ⟨some 28, .mov (t 36), none, [7]⟩, ⟨some 37, .extract (t 28) 0, none, [8]⟩, ⟨some 38, .extract (t 28) 1, none, [8]⟩, ⟨some 12, .asg 1 (t 37) 108, none, [9, 7, 0, 1, 2, 3, 4, 5, 6, 7, 8, 9]⟩, ⟨some 13, .asg 1 (t 38) 108, none, [10, 11, 0, 1, 2, 3, 4, 5, 6, 7, 8, 9, 10, 11]⟩] true) (.seq (.region 5 [q 14 (.asg 0 (.const (.int .i64 0)) 3)] false) (.seq (.seq (.region 6 [q 39 (.mov (t 13)), q 40 (.blt 0 .len [(t 39)] [108]), q 41 (.mov (.const (.int .i64 0)))] false) (.block 0 (.loop (.seq (.region 7 [q 42 (.bin .lss 3 (t 41) (t 40))] false) (.seq (.cond (t 42) .skip (.exit 0)) (.seq (.block 1 (.seq (.region 8 [q 43 (.mov (t 41)), q 44 (.indexAddr 108 (t 39) (t 41)), q 45 (.load 80 (t 44)), q 15 (.asg 0 (t 43) 3), q 16 (.asg 1 (t 45) 80)] false) (.seq (.region 9 [q 46 (.mov (t 16)), q 47 (.call 0 (.func 114) [(t 46)]), q 48 (.mov (t 3)), q 49 (.bin .leq 2 (t 47) (t 48))] false) (.cond (t 49) (.region 10 [q 50 (.mov (t 15)), q 14 (.asg 0 (t 50) 3)] false) .skip)))) (.region 11 [q 51 (.bin .add 3 (t 41) (.const (.int .i64 1))), q 41 (.mov (t 51))] false))))))) (.seq (.region 12 [q 52 (.mov (t 12)), q 53 (.mov (t 14)), ⟨some 54, .indexAddr 108 (t 52) (t 53), none, [0, 1]⟩, ⟨some 55, .load 80 (t 54), none, [2]⟩, ⟨some 56, .call 0 (.func 111) [(t 55)], none, [3]⟩, q 57 (.mov (t 13)), q 58 (.mov (t 14)), ⟨some 59, .indexAddr 108 (t 57) (t 58), none, [5, 6]⟩, ⟨some 60, .load 80 (t 59), none, [7]⟩, ⟨some 61, .call 0 (.func 111) [(t 60)], none, [8, 4]⟩, ⟨none, .store 25 (t 8) (t 56), none, [4, 9, 0, 1, 2, 3, 4]⟩, ⟨none, .store 25 (t 9) (t 61), none, [9, 10, 0, 1, 2, 3, 4, 5, 6, 7, 8, 9, 10]⟩, ⟨some 10, .asg 0 (.const (.int .i64 0)) 2, none, [11, 0, 1, 2, 3, 4, 5, 6, 7, 8, 9, 10, 11]⟩] true) .ret))))))
def impl_BestApproximation_L : Live := [(0, [0, 1, 2, 3]), (1, [0, 3, 5, 6, 8, 9]), (2, [0, 3, 5, 6, 8, 9, 11]), (3, [8, 9, 11]), (4, [0, 3, 5, 6, 8, 9]), (5, [3, 8, 9, 12, 13]), (6, [3, 8, 9, 12, 13, 14]), (7, [3, 8, 9, 12, 13, 14, 39, 40, 41]), (8, [3, 8, 9, 12, 13, 14, 39, 40, 41]), (9, [3, 8, 9, 12, 13, 14, 15, 16, 39, 40, 41]), (10, [3, 8, 9, 12, 13, 15, 39, 40, 41]), (11, [3, 8, 9, 12, 13, 14, 39, 40, 41]), (12, [8, 9, 12, 13, 14]), (100024, [0, 3, 5, 6, 8, 9, 11, 24]), (100042, [3, 8, 9, 12, 13, 14, 39, 40, 41, 42]), (100049, [3, 8, 9, 12, 13, 14, 15, 39, 40, 41, 49])]
noncomputable def impl_BestApproximation_l1 (r32 : ((List (List Int)) × (List (List Int)))) (a3 : Int) (x117 : Int) (x133 : Int) : Option ((Int × Int) ⊕ Int) :=
  (if (decide (x117 < (r32.2.length : Int))) then (Option.bind (α := Int) ((ifp (0 ≤ x117 ∧ x117 < ((r32.2.length : Nat) : Int)) ((Option.bind (impl_row_degree (rd r32.2 x117.toNat)) fun r164 => (if (decide (r164 ≤ a3)) then (some x117) else (some x133)))))) fun x158 => (some (.inl ((IntKind.i64.wrap (x117 + 1), x158))))) else (some (.inr x133)))
noncomputable def impl_BestApproximation (a0 : Int) (a1 : (Vec Int 64)) (a2 : (Vec Int 64)) (a3 : Int) : Option ((Vec Int 64) × (Vec Int 64) × Int) :=
  (Option.bind (impl_within a3 0 63) fun r9 => (Option.bind (impl_quotientCode a0 a1 a2 r9) fun r11 => (if (r11 != 0) then (some (((vrep 64 (0 : Int)), (vrep 64 (0 : Int)), r11))) else (Option.bind (impl_rowOf a1) fun r25 => (Option.bind (impl_rowOf a2) fun r28 => (Option.bind (impl_prime_partials a0 r25 r28) fun r30 => (Option.bind (impl_prime_convergents a0 r30) fun r32 => (Option.bind (α := Int) ((loopM (fun s : (Int × Int) => impl_BestApproximation_l1 r32 a3 s.1 s.2) (0, 0))) fun x99 => (ifp (0 ≤ x99 ∧ x99 < ((r32.1.length : Nat) : Int)) ((Option.bind (impl_row_poly (rd r32.1 x99.toNat)) fun r180 => (ifp (0 ≤ x99 ∧ x99 < ((r32.2.length : Nat) : Int)) ((Option.bind (impl_row_poly (rd r32.2 x99.toNat)) fun r184 => (some (r180, r184, 0))))))))))))))))
theorem impl_BestApproximation_ok (a0 : Int) (a1 : (Vec Int 64)) (a2 : (Vec Int 64)) (a3 : Int) (r : ((Vec Int 64) × (Vec Int 64) × Int)) (h : impl_BestApproximation a0 a1 a2 a3 = some r) : Den Try.prog 73 [(i6 a0), (eA64u8 a1), (eA64u8 a2), (i6 a3)] { r := (.tuple [(eA64u8 r.1), (eA64u8 r.2.1), (i6 r.2.2)]) } := by
  refine den_of (rs := [(eA64u8 r.1), (eA64u8 r.2.1), (i6 r.2.2)]) (ac := impl_BestApproximation_c) (L := impl_BestApproximation_L) (n := 62) (m := [(12, 1), (13, 1), (16, 1)]) (c := Try.f73.body.getD .skip) good Try.func73 (by kernel_rfl) (by kernel_rfl) Try.ntmps73 rfl rfl (by kernel_rfl) rfl rfl ?_
  refine a_st (σ' := ⟨[(0, (i6 a0)), (1, (eA64u8 a1)), (2, (eA64u8 a2)), (3, (i6 a3))], []⟩) (by kernel_rfl) ?_
  unfold impl_BestApproximation_c
  refine sr (vo 1500 (eA64u8 a1) rfl rfl (vo 1600 (eA64u8 a2) rfl rfl (vo 1800 (eA64u8 ((vrep 64 (0 : Int)))) rfl rfl (vo 1900 (eA64u8 ((vrep 64 (0 : Int)))) rfl rfl (vp (i6 0) rfl (nx ⟨[(0, (i6 a0)), (3, (i6 a3)), (5, (ow 5)), (6, (ow 6)), (8, (ow 8)), (9, (ow 9))], [(5, (bk (eA64u8 a1))), (6, (bk (eA64u8 a2))), (8, (bk (eA64u8 ((vrep 64 (0 : Int)))))), (9, (bk (eA64u8 ((vrep 64 (0 : Int))))))]⟩ (by kernel_rfl) (a_seq (a_seq (a_draw [⟨[], [], [], []⟩, ⟨[5], [], [], []⟩, ⟨[6], [], [], []⟩, ⟨[], [], [], []⟩, ⟨[], [], [], [3]⟩, ⟨[], [], [], [0, 1, 2, 3, 4]⟩, ⟨[], [], [], [0, 1, 2, 3, 4, 5]⟩] (by kernel_rfl) ?_)))))))))
  refine dp (i6 a0) rfl (by kernel_rfl) (d_cons (vl (eA64u8 a1) rfl rfl rfl rfl rfl rfl (d_next (by kernel_rfl) (d_cons (vl (eA64u8 a2) rfl rfl rfl rfl rfl rfl (d_next (by kernel_rfl) (dp (i6 a3) rfl (by kernel_rfl) (d_cons ?_))))))))
  obtain ⟨r9, hr10, h⟩ := bind_some h
  refine a_call (args := [(i6 a3), (i6 0), (i6 63)]) (u := []) (r := (.bool r9)) rfl rfl (impl_within_ok a3 0 63 r9 hr10) rfl (d_next (by kernel_rfl) (d_cons ?_))
  obtain ⟨r11, hr12, h⟩ := bind_some h
  refine a_call (args := [(i6 a0), (eA64u8 a1), (eA64u8 a2), (.bool r9)]) (u := []) (r := (i6 r11)) rfl rfl (impl_quotientCode_ok a0 a1 a2 r9 r11 hr12) rfl (d_next (by kernel_rfl) (dp (i6 r11) rfl (by kernel_rfl) (d_nil (a_next (σ' := ⟨[(0, (i6 a0)), (3, (i6 a3)), (5, (ow 5)), (6, (ow 6)), (8, (ow 8)), (9, (ow 9)), (11, (i6 r11))], [(5, (bk (eA64u8 a1))), (6, (bk (eA64u8 a2))), (8, (bk (eA64u8 ((vrep 64 (0 : Int)))))), (9, (bk (eA64u8 ((vrep 64 (0 : Int))))))]⟩) (by kernel_rfl) (sr (vp (i6 r11) rfl (vp (.bool (r11 != 0)) rfl (nx ⟨[(0, (i6 a0)), (3, (i6 a3)), (5, (ow 5)), (6, (ow 6)), (8, (ow 8)), (9, (ow 9)), (11, (i6 r11)), (24, (.bool (r11 != 0)))], [(5, (bk (eA64u8 a1))), (6, (bk (eA64u8 a2))), (8, (bk (eA64u8 ((vrep 64 (0 : Int)))))), (9, (bk (eA64u8 ((vrep 64 (0 : Int))))))]⟩ (by kernel_rfl) ?_))))))))
  cases hb13 : (r11 != 0)
  · have h := ite_f hb13 h
    refine a_cond_f rfl (a_skip (a_next (σ' := ⟨[(0, (i6 a0)), (3, (i6 a3)), (5, (ow 5)), (6, (ow 6)), (8, (ow 8)), (9, (ow 9))], [(5, (bk (eA64u8 a1))), (6, (bk (eA64u8 a2))), (8, (bk (eA64u8 ((vrep 64 (0 : Int)))))), (9, (bk (eA64u8 ((vrep 64 (0 : Int))))))]⟩) (by kernel_rfl) (a_seq (a_draw [⟨[], [], [], []⟩, ⟨[], [], [], []⟩, ⟨[5], [], [], []⟩, ⟨[], [], [], [2]⟩, ⟨[6], [], [], []⟩, ⟨[], [], [], [2, 3, 4]⟩, ⟨[], [], [], [1, 2, 3, 4, 5]⟩, ⟨[], [], [], [0, 1, 2, 3, 4, 5, 6]⟩, ⟨[], [], [], [0, 1, 2, 3, 4, 5, 6, 7]⟩, ⟨[], [], [], [0, 1, 2, 3, 4, 5, 6, 7, 8]⟩, ⟨[], [], [], [0, 1, 2, 3, 4, 5, 6, 7, 8]⟩, ⟨[], [], [], [0, 1, 2, 3, 4, 5, 6, 7, 8, 9]⟩, ⟨[], [], [], [0, 1, 2, 3, 4, 5, 6, 7, 8, 9, 10, 11]⟩] (by kernel_rfl) (dp (i6 a0) rfl (by kernel_rfl) (dp (i6 a0) rfl (by kernel_rfl) (d_cons (vl (eA64u8 a1) rfl rfl rfl rfl rfl rfl (d_next (by kernel_rfl) ?_)))))))))
    refine d_cons ?_
    obtain ⟨r25, hr26, h⟩ := bind_some h
    refine a_call (args := [(eA64u8 a1)]) (u := []) (r := (eSi64 r25)) rfl rfl (impl_rowOf_ok a1 r25 hr26) rfl (d_next (by kernel_rfl) (d_cons (vl (eA64u8 a2) rfl rfl rfl rfl rfl rfl (d_next (by kernel_rfl) (d_cons ?_)))))
    obtain ⟨r28, hr29, h⟩ := bind_some h
    refine a_call (args := [(eA64u8 a2)]) (u := []) (r := (eSi64 r28)) rfl rfl (impl_rowOf_ok a2 r28 hr29) rfl (d_next (by kernel_rfl) (d_cons ?_))
    obtain ⟨r30, hr31, h⟩ := bind_some h
    refine a_call (args := [(i6 a0), (eSi64 r25), (eSi64 r28)]) (u := []) (r := (eSSi64 r30)) rfl rfl (impl_prime_partials_ok a0 r25 r28 r30 hr31) rfl (d_next (by kernel_rfl) (d_cons ?_))
    obtain ⟨r32, hr33, h⟩ := bind_some h
    refine a_call (args := [(i6 a0), (eSSi64 r30)]) (u := []) (r := (.tuple [(eSSi64 r32.1), (eSSi64 r32.2)])) rfl rfl (impl_prime_convergents_ok a0 r30 r32 hr33) rfl (d_next (by kernel_rfl) (dp (.tuple [(eSSi64 r32.1), (eSSi64 r32.2)]) rfl (by kernel_rfl) (d_cons (vb (eSSi64 r32.1) rfl rfl (d_next (by kernel_rfl) (d_cons (vb (eSSi64 r32.2) rfl rfl (d_next (by kernel_rfl) (dp (eSSi64 r32.1) rfl (by kernel_rfl) ?_)))))))))
    refine dp (eSSi64 r32.2) rfl (by kernel_rfl) (d_nil (a_next (σ' := ⟨[(3, (i6 a3)), (8, (ow 8)), (9, (ow 9)), (12, (eSSi64 r32.1)), (13, (eSSi64 r32.2))], [(8, (bk (eA64u8 ((vrep 64 (0 : Int)))))), (9, (bk (eA64u8 ((vrep 64 (0 : Int))))))]⟩) (by kernel_rfl) (sr (vp (i6 0) rfl (nx ⟨[(3, (i6 a3)), (8, (ow 8)), (9, (ow 9)), (12, (eSSi64 r32.1)), (13, (eSSi64 r32.2)), (14, (i6 0))], [(8, (bk (eA64u8 ((vrep 64 (0 : Int)))))), (9, (bk (eA64u8 ((vrep 64 (0 : Int))))))]⟩ (by kernel_rfl) ?_)))))
    obtain ⟨y100, hy101, hk102⟩ := bind_some h
    clear h
    refine a_join (emb := fun (s : Int) => ⟨[(8, (ow 8)), (9, (ow 9)), (12, (eSSi64 r32.1)), (13, (eSSi64 r32.2)), (14, (i6 s))], [(8, (bk (eA64u8 ((vrep 64 (0 : Int)))))), (9, (bk (eA64u8 ((vrep 64 (0 : Int))))))]⟩) (pre := fun s => s = y100) ?_ ?_
    · rintro x99 rfl
      have h := hk102
      refine a_st (σ' := ⟨[(8, (ow 8)), (9, (ow 9)), (12, (eSSi64 r32.1)), (13, (eSSi64 r32.2)), (14, (i6 x99))], [(8, (bk (eA64u8 ((vrep 64 (0 : Int)))))), (9, (bk (eA64u8 ((vrep 64 (0 : Int))))))]⟩) (by kernel_rfl) (a_seq (a_draw [⟨[], [], [], []⟩, ⟨[], [], [], []⟩, ⟨[], [], [], [0, 1]⟩, ⟨[], [], [], [0, 1, 2]⟩, ⟨[], [], [], [0, 1, 2, 3]⟩, ⟨[], [], [], []⟩, ⟨[], [], [], []⟩, ⟨[], [], [], [5, 6]⟩, ⟨[], [], [], [5, 6, 7]⟩, ⟨[], [], [], [0, 1, 2, 3, 4, 5, 6, 7, 8]⟩, ⟨[8], [8], [], [0, 1, 2, 3, 4, 5, 6, 7, 8, 9]⟩, ⟨[9], [9], [], [0, 1, 2, 3, 4, 5, 6, 7, 8, 9, 10]⟩, ⟨[], [], [], [0, 1, 2, 3, 4, 5, 6, 7, 8, 9, 10, 11]⟩] (by kernel_rfl) (dp (eSSi64 r32.1) rfl (by kernel_rfl) (dp (i6 x99) rfl (by kernel_rfl) (d_cons ?_)))))
      obtain ⟨hc178, h⟩ := ifp_some h
      refine vq (.ref (.row 1 (r32.1.map eSi64)) [x99.toNat] [x99.toNat * 1]) rfl (lmap hc178) (d_next (by kernel_rfl) (d_cons ?_))
      have hl179 : LdOk [x99.toNat] (.row 1 (r32.1.map eSi64)) [x99.toNat * 1] 1 false (eSi64 (rd r32.1 x99.toNat)) := (.row (llt hc178) rfl (.nil rfl rfl rfl))
      refine vq (eSi64 (rd r32.1 x99.toNat)) (ld_ref (i := ⟨.slice 2, 1, 24, (eSi64 [])⟩) rfl rfl hl179) hl179.c (d_next (by kernel_rfl) (d_cons ?_))
      obtain ⟨r180, hr181, h⟩ := bind_some h
      refine a_call (args := [(eSi64 (rd r32.1 x99.toNat))]) (u := []) (r := (eA64u8 r180)) rfl rfl (impl_row_poly_ok (rd r32.1 x99.toNat) r180 hr181) rfl (d_next (by kernel_rfl) (dp (eSSi64 r32.2) rfl (by kernel_rfl) (dp (i6 x99) rfl (by kernel_rfl) (d_cons ?_))))
      obtain ⟨hc182, h⟩ := ifp_some h
      refine vq (.ref (.row 1 (r32.2.map eSi64)) [x99.toNat] [x99.toNat * 1]) rfl (lmap hc182) (d_next (by kernel_rfl) (d_cons ?_))
      have hl183 : LdOk [x99.toNat] (.row 1 (r32.2.map eSi64)) [x99.toNat * 1] 1 false (eSi64 (rd r32.2 x99.toNat)) := (.row (llt hc182) rfl (.nil rfl rfl rfl))
      refine vq (eSi64 (rd r32.2 x99.toNat)) (ld_ref (i := ⟨.slice 2, 1, 24, (eSi64 [])⟩) rfl rfl hl183) hl183.c (d_next (by kernel_rfl) (d_cons ?_))
      obtain ⟨r184, hr185, h⟩ := bind_some h
      refine a_call (args := [(eSi64 (rd r32.2 x99.toNat))]) (u := []) (r := (eA64u8 r184)) rfl rfl (impl_row_poly_ok (rd r32.2 x99.toNat) r184 hr185) rfl (d_next (by kernel_rfl) (d_cons (vs (eA64u8 r180) rfl rfl (fun _ => rfl) rfl rfl rfl rfl rfl rfl (d_next (by kernel_rfl) (d_cons (vs (eA64u8 r184) rfl rfl (fun _ => rfl) rfl rfl rfl rfl rfl rfl (d_next (by kernel_rfl) (dp (i6 0) rfl (by kernel_rfl) (d_nil ?_)))))))))
      refine a_next rfl (a_ret ?_)
      have hl188 : LdOk [] (eA64u8 r180) [] 64 true (eA64u8 r180) := (.nil rfl rfl rfl)
      have hl189 : LdOk [] (eA64u8 r184) [] 64 true (eA64u8 r184) := (.nil rfl rfl rfl)
      refine ⟨.inr rfl, ?_⟩
      rw [Try.results73]
      cases h
      exact ⟨_, _, _, _, _, ld_own (i := ⟨.arr 64 5, 64, 64, (eA64u8 (vrep 64 (0 : Int)))⟩) rfl rfl rfl hl188, hl188.c, .inl ⟨rfl, .inl rfl⟩, rfl, ⟨_, _, _, _, _, ld_own (i := ⟨.arr 64 5, 64, 64, (eA64u8 (vrep 64 (0 : Int)))⟩) rfl rfl rfl hl189, hl189.c, .inl ⟨rfl, .inl rfl⟩, rfl, ⟨_, _, _, _, _, rfl, trivial, .inl ⟨rfl, .inl rfl⟩, rfl, rfl⟩⟩⟩
    · have h := hy101
      refine sr (vp (eSSi64 r32.2) rfl (vq (i6 (r32.2.length : Int)) (len_run rfl rfl) trivial (vp (i6 0) rfl (nx ⟨[(3, (i6 a3)), (8, (ow 8)), (9, (ow 9)), (12, (eSSi64 r32.1)), (13, (eSSi64 r32.2)), (14, (i6 0)), (39, (eSSi64 r32.2)), (40, (i6 (r32.2.length : Int))), (41, (i6 0))], [(8, (bk (eA64u8 ((vrep 64 (0 : Int)))))), (9, (bk (eA64u8 ((vrep 64 (0 : Int))))))]⟩ (by kernel_rfl) (a_block ?_)))))
      refine a_loop (emb := fun (s : (Int × Int)) => ⟨[(3, (i6 a3)), (8, (ow 8)), (9, (ow 9)), (12, (eSSi64 r32.1)), (13, (eSSi64 r32.2)), (14, (i6 s.2)), (39, (eSSi64 r32.2)), (40, (i6 (r32.2.length : Int))), (41, (i6 s.1))], [(8, (bk (eA64u8 ((vrep 64 (0 : Int)))))), (9, (bk (eA64u8 ((vrep 64 (0 : Int))))))]⟩) (body := (fun s : (Int × Int) => impl_BestApproximation_l1 r32 a3 s.1 s.2)) (G := fun q => some q = some y100) h rfl ?_ (by kernel_rfl)
      rintro X149 ⟨x117, x133⟩ x150 h hX151
      have h : impl_BestApproximation_l1 r32 a3 x117 x133 = some x150 := h
      refine a_st (σ' := ⟨[(3, (i6 a3)), (8, (ow 8)), (9, (ow 9)), (12, (eSSi64 r32.1)), (13, (eSSi64 r32.2)), (14, (i6 x133)), (39, (eSSi64 r32.2)), (40, (i6 (r32.2.length : Int))), (41, (i6 x117))], [(8, (bk (eA64u8 ((vrep 64 (0 : Int)))))), (9, (bk (eA64u8 ((vrep 64 (0 : Int))))))]⟩) (by kernel_rfl) (sr (vp (.bool ((decide (x117 < (r32.2.length : Int))))) rfl (nx ⟨[(3, (i6 a3)), (8, (ow 8)), (9, (ow 9)), (12, (eSSi64 r32.1)), (13, (eSSi64 r32.2)), (14, (i6 x133)), (39, (eSSi64 r32.2)), (40, (i6 (r32.2.length : Int))), (41, (i6 x117)), (42, (.bool ((decide (x117 < (r32.2.length : Int))))))], [(8, (bk (eA64u8 ((vrep 64 (0 : Int)))))), (9, (bk (eA64u8 ((vrep 64 (0 : Int))))))]⟩ (by kernel_rfl) (a_seq ?_))))
      cases hb152 : (decide (x117 < (r32.2.length : Int)))
      · have h := ite_f hb152 h
        refine a_cond_f rfl (a_exit (t_exit ?_))
        cases h
        have h := hX151
        refine t_exit (b_exit ?_)
        exact j_leaf x133 (Option.some.inj h) (by kernel_rfl)
      · have h := ite_t hb152 h
        refine a_cond_t rfl (a_skip (a_next (σ' := ⟨[(3, (i6 a3)), (8, (ow 8)), (9, (ow 9)), (12, (eSSi64 r32.1)), (13, (eSSi64 r32.2)), (14, (i6 x133)), (39, (eSSi64 r32.2)), (40, (i6 (r32.2.length : Int))), (41, (i6 x117))], [(8, (bk (eA64u8 ((vrep 64 (0 : Int)))))), (9, (bk (eA64u8 ((vrep 64 (0 : Int))))))]⟩) (by kernel_rfl) ?_))
        obtain ⟨y159, hy160, hk161⟩ := bind_some h
        clear h
        refine a_join (emb := fun (s : Int) => ⟨[(3, (i6 a3)), (8, (ow 8)), (9, (ow 9)), (12, (eSSi64 r32.1)), (13, (eSSi64 r32.2)), (14, (i6 s)), (39, (eSSi64 r32.2)), (40, (i6 (r32.2.length : Int))), (41, (i6 x117))], [(8, (bk (eA64u8 ((vrep 64 (0 : Int)))))), (9, (bk (eA64u8 ((vrep 64 (0 : Int))))))]⟩) (pre := fun s => s = y159) ?_ ?_
        · rintro x158 rfl
          have h := hk161
          refine a_st (σ' := ⟨[(3, (i6 a3)), (8, (ow 8)), (9, (ow 9)), (12, (eSSi64 r32.1)), (13, (eSSi64 r32.2)), (14, (i6 x158)), (39, (eSSi64 r32.2)), (40, (i6 (r32.2.length : Int))), (41, (i6 x117))], [(8, (bk (eA64u8 ((vrep 64 (0 : Int)))))), (9, (bk (eA64u8 ((vrep 64 (0 : Int))))))]⟩) (by kernel_rfl) (a_region (vp (i6 (IntKind.i64.wrap (x117 + 1))) rfl (vp (i6 (IntKind.i64.wrap (x117 + 1))) rfl (a_nil ?_))))
          cases h
          exact a_again (by kernel_rfl) hX151
        · have h := hy160
          refine a_block (sr (vp (i6 x117) rfl ?_))
          obtain ⟨hc162, h⟩ := ifp_some h
          refine vq (.ref (.row 1 (r32.2.map eSi64)) [x117.toNat] [x117.toNat * 1]) rfl (lmap hc162) ?_
          have hl163 : LdOk [x117.toNat] (.row 1 (r32.2.map eSi64)) [x117.toNat * 1] 1 false (eSi64 (rd r32.2 x117.toNat)) := (.row (llt hc162) rfl (.nil rfl rfl rfl))
          refine vq (eSi64 (rd r32.2 x117.toNat)) (ld_ref (i := ⟨.slice 2, 1, 24, (eSi64 [])⟩) rfl rfl hl163) hl163.c (vp (i6 x117) rfl (vp (eSi64 (rd r32.2 x117.toNat)) rfl (nx ⟨[(3, (i6 a3)), (8, (ow 8)), (9, (ow 9)), (12, (eSSi64 r32.1)), (13, (eSSi64 r32.2)), (14, (i6 x133)), (15, (i6 x117)), (16, (eSi64 (rd r32.2 x117.toNat))), (39, (eSSi64 r32.2)), (40, (i6 (r32.2.length : Int))), (41, (i6 x117))], [(8, (bk (eA64u8 ((vrep 64 (0 : Int)))))), (9, (bk (eA64u8 ((vrep 64 (0 : Int))))))]⟩ (by kernel_rfl) (sr (vp (eSi64 (rd r32.2 x117.toNat)) rfl ?_)))))
          obtain ⟨r164, hr165, h⟩ := bind_some h
          refine a_call (args := [(eSi64 (rd r32.2 x117.toNat))]) (u := []) (r := (i6 r164)) rfl rfl (impl_row_degree_ok (rd r32.2 x117.toNat) r164 hr165) rfl (vp (i6 a3) rfl (vp (.bool ((decide (r164 ≤ a3)))) rfl (nx ⟨[(3, (i6 a3)), (8, (ow 8)), (9, (ow 9)), (12, (eSSi64 r32.1)), (13, (eSSi64 r32.2)), (14, (i6 x133)), (15, (i6 x117)), (39, (eSSi64 r32.2)), (40, (i6 (r32.2.length : Int))), (41, (i6 x117)), (49, (.bool ((decide (r164 ≤ a3)))))], [(8, (bk (eA64u8 ((vrep 64 (0 : Int)))))), (9, (bk (eA64u8 ((vrep 64 (0 : Int))))))]⟩ (by kernel_rfl) ?_)))
          cases hb166 : (decide (r164 ≤ a3))
          · have h := ite_f hb166 h
            refine a_cond_f rfl (a_skip (b_norm ?_))
            exact j_leaf x133 (Option.some.inj h) (by kernel_rfl)
          · have h := ite_t hb166 h
            refine a_cond_t rfl (a_region (vp (i6 x117) rfl (vp (i6 x117) rfl (a_nil (b_norm ?_)))))
            exact j_leaf x117 (Option.some.inj h) (by kernel_rfl)
  · have h := ite_t hb13 h
    refine a_cond_t rfl (sr (vq (eA64u8 ((vrep 64 (0 : Int)))) rfl ⟨⟨_, rfl, rfl⟩, all_nil⟩ (vq (eA64u8 ((vrep 64 (0 : Int)))) rfl ⟨⟨_, rfl, rfl⟩, all_nil⟩ (vp (i6 r11) rfl (vs (eA64u8 ((vrep 64 (0 : Int)))) rfl rfl (fun _ => rfl) rfl rfl rfl rfl rfl rfl (vs (eA64u8 ((vrep 64 (0 : Int)))) rfl rfl (fun _ => rfl) rfl rfl rfl rfl rfl rfl (vp (i6 r11) rfl (nx _ rfl (a_ret ?_)))))))))
    refine t_ret ?_
    have hl192 : LdOk [] (eA64u8 ((vrep 64 (0 : Int)))) [] 64 true (eA64u8 ((vrep 64 (0 : Int)))) := (.nil rfl rfl rfl)
    have hl193 : LdOk [] (eA64u8 ((vrep 64 (0 : Int)))) [] 64 true (eA64u8 ((vrep 64 (0 : Int)))) := (.nil rfl rfl rfl)
    refine ⟨.inr rfl, ?_⟩
    rw [Try.results73]
    cases h
    exact ⟨_, _, _, _, _, ld_own (i := ⟨.arr 64 5, 64, 64, (eA64u8 (vrep 64 (0 : Int)))⟩) rfl rfl rfl hl192, hl192.c, .inl ⟨rfl, .inl rfl⟩, rfl, ⟨_, _, _, _, _, ld_own (i := ⟨.arr 64 5, 64, 64, (eA64u8 (vrep 64 (0 : Int)))⟩) rfl rfl rfl hl193, hl193.c, .inl ⟨rfl, .inl rfl⟩, rfl, ⟨_, _, _, _, _, rfl, trivial, .inl ⟨rfl, .inl rfl⟩, rfl, rfl⟩⟩⟩
def spec_l01In_c : ACode := (.seq (.region 0 [q 6 (.asg 0 (.const (.bool false)) 4)] false) (.seq (.region 1 [q 7 (.mov (t 0)), q 8 (.mov (t 1)), q 9 (.bin .geq 2 (t 7) (t 8)), q 10 (.mov (t 9)), ⟨some 11, .mov (t 0), some (10, true), []⟩, ⟨some 12, .mov (t 2), some (10, true), []⟩, ⟨some 13, .bin .leq 2 (t 11) (t 12), some (10, true), []⟩, q 14 (.pick (t 10) (t 13) (.const (.bool false))), q 6 (.asg 0 (t 14) 4)] false) .ret))
def spec_l01In_L : Live := [(0, [0, 1, 2]), (1, [0, 1, 2])]
noncomputable def spec_l01In (a0 : Int) (a1 : Int) (a2 : Int) : Option Bool :=
  (if (decide (a0 ≥ a1)) then (some ((decide (a0 ≤ a2)))) else (some false))
theorem spec_l01In_ok (a0 : Int) (a1 : Int) (a2 : Int) (r : Bool) (h : spec_l01In a0 a1 a2 = some r) : Den Try.prog 160 [(i6 a0), (i6 a1), (i6 a2)] { r := (.bool r) } := by
  refine den_of (rs := [(.bool r)]) (ac := spec_l01In_c) (L := spec_l01In_L) (n := 15) (m := []) (c := Try.f160.body.getD .skip) good Try.func160 (by kernel_rfl) (by kernel_rfl) Try.ntmps160 rfl rfl (by kernel_rfl) rfl rfl ?_
  refine a_st (σ' := ⟨[(0, (i6 a0)), (1, (i6 a1)), (2, (i6 a2))], []⟩) (by kernel_rfl) ?_
  unfold spec_l01In_c
  refine sr (vp (.bool false) rfl (nx ⟨[(0, (i6 a0)), (1, (i6 a1)), (2, (i6 a2))], []⟩ (by kernel_rfl) (sr (vp (i6 a0) rfl (vp (i6 a1) rfl (vp (.bool ((decide (a0 ≥ a1)))) rfl (vp (.bool ((decide (a0 ≥ a1)))) rfl ?_)))))))
  cases hb1 : (decide (a0 ≥ a1))
  · have h := ite_f hb1 h
    refine a_gskip rfl (a_gskip rfl (a_gskip rfl (vp (.bool false) rfl (vp (.bool false) rfl (nx _ rfl (a_ret ?_))))))
    refine ⟨.inr rfl, ?_⟩
    rw [Try.results160]
    cases h
    exact ⟨_, _, _, _, _, rfl, trivial, .inl ⟨rfl, .inl rfl⟩, rfl, rfl⟩
  · have h := ite_t hb1 h
    refine gp (i6 a0) rfl rfl (gp (i6 a2) rfl rfl (gp (.bool ((decide (a0 ≤ a2)))) rfl rfl (vp (.bool ((decide (a0 ≤ a2)))) rfl (vp (.bool ((decide (a0 ≤ a2)))) rfl (nx _ rfl (a_ret ?_))))))
    refine ⟨.inr rfl, ?_⟩
    rw [Try.results160]
    cases h
    exact ⟨_, _, _, _, _, rfl, trivial, .inl ⟨rfl, .inl rfl⟩, rfl, rfl⟩
def spec_BestApproximation_c : ACode := (.seq (.region 0 [q 5 (.box 25 (t 1)), q 6 (.box 25 (t 2)), q 8 (.alloc 25), q 9 (.alloc 25), q 10 (.asg 0 (.const (.int .i64 0)) 2)] false) (.seq (.region 1 [q 17 (.mov (t 0)), q 18 (.load 25 (t 5)), q 19 (.load 25 (t 6)), q 20 (.call 0 (.func 153) [(t 17), (t 18), (t 19)]), q 11 (.asg 0 (t 20) 2)] false) (.seq (.seq (.region 2 [q 21 (.mov (t 11)), q 22 (.bin .neq 2 (t 21) (.const (.int .i64 1))), q 23 (.mov (t 22)), ⟨some 24, .mov (t 3), some (23, true), []⟩, ⟨some 25, .call 0 (.func 160) [(t 24), (.const (.int .i64 0)), (.const (.int .i64 63))], some (23, true), []⟩, ⟨some 26, .un .not (t 25), some (23, true), []⟩, q 27 (.pick (t 23) (t 26) (.const (.bool false)))] false) (.cond (t 27) (.region 3 [q 11 (.asg 0 (.const (.int .i64 2)) 2)] false) .skip)) (.seq (.seq (.region 4 [q 28 (.mov (t 11)), q 29 (.bin .neq 2 (t 28) (.const (.int .i64 0)))] false) (.cond (t 29) (.seq (.region 5 [q 30 (.build 25 []), q 31 (.build 25 []), q 32 (.mov (t 11)), ⟨none, .store 25 (t 8) (t 30), none, []⟩, ⟨none, .store 25 (t 9) (t 31), none, []⟩, q 10 (.asg 0 (t 32) 2)] false) .ret) .skip)) (.seq (.region 6 [q 34 (.mov (t 0)), q 35 (.mov (t 0)), q 36 (.load 25 (t 5)), q 37 (.load 25 (t 6)), q 38 (.call 0 (.func 154) [(t 35), (t 36), (t 37)]), q 39 (.call 0 (.func 159) [(t 34), (t 38)]), q 33 (.mov (t 39)), q 40 (.extract (t 33) 0), q 41 (.extract (t 33) 1), q 42 (.extract (t 33) 2), q 12 (.asg 1 (t 40) 55), q 13 (.asg 1 (t 41) 55), q 14 (.asg 0 (t 42) 4)] false) (.seq (.region 7 [q 15 (.asg 0 (.const (.int .i64 0)) 3)] false) (.seq (.seq (.region 8 [q 16 (.asg 0 (.const (.int .i64 1)) 3)] false) (.block 0 (.loop (.seq (.seq (.region 9 [q 43 (.mov (t 16)), q 44 (.mov (t 12)), q 45 (.blt 0 .len [(t 44)] [55]), q 46 (.bin .lss 3 (t 43) (t 45))] false) (.cond (t 46) .skip (.exit 0))) (.seq (.block 1 (.seq (.region 11 [q 49 (.mov (t 13)), q 50 (.mov (t 16)), q 51 (.indexAddr 55 (t 49) (t 50)), q 52 (.load 25 (t 51)), q 53 (.call 0 (.func 112) [(t 52)]), q 54 (.mov (t 3)), q 55 (.bin .leq 2 (t 53) (t 54))] false) (.cond (t 55) (.region 12 [q 56 (.mov (t 16)), q 15 (.asg 0 (t 56) 3)] false) .skip))) (.region 10 [q 47 (.mov (t 16)), q 48 (.bin .add 3 (t 47) (.const (.int .i64 1))), q 16 (.asg 0 (t 48) 3)] false)))))) (.seq (.region 13 [q 57 (.mov (t 12)), q 58 (.mov (t 15)), ⟨some 59, .indexAddr 55 (t 57) (t 58), none, [0, 1]⟩, ⟨some 60, .load 25 (t 59), none, [2]⟩, q 61 (.mov (t 13)), q 62 (.mov (t 15)), ⟨some 63, .indexAddr 55 (t 61) (t 62), none, [4, 5]⟩, ⟨some 64, .load 25 (t 63), none, [6]⟩, ⟨none, .store 25 (t 8) (t 60), none, [3, 0, 1, 2, 3]⟩, ⟨none, .store 25 (t 9) (t 64), none, [7, 8, 0, 1, 2, 3, 4, 5, 6, 7, 8]⟩, ⟨some 10, .asg 0 (.const (.int .i64 0)) 2, none, [9, 0, 1, 2, 3, 4, 5, 6, 7, 8, 9]⟩] true) .ret))))))))
def spec_BestApproximation_L : Live := [(0, [0, 1, 2, 3]), (1, [0, 3, 5, 6, 8, 9]), (2, [0, 3, 5, 6, 8, 9, 11]), (3, [0, 3, 5, 6, 8, 9]), (4, [0, 3, 5, 6, 8, 9, 11]), (5, [8, 9, 11]), (6, [0, 3, 5, 6, 8, 9]), (7, [3, 8, 9, 12, 13]), (8, [3, 8, 9, 12, 13, 15]), (9, [3, 8, 9, 12, 13, 15, 16]), (10, [3, 8, 9, 12, 13, 15, 16]), (11, [3, 8, 9, 12, 13, 15, 16]), (12, [3, 8, 9, 12, 13, 16]), (13, [8, 9, 12, 13, 15]), (100027, [0, 3, 5, 6, 8, 9, 11, 27]), (100029, [0, 3, 5, 6, 8, 9, 11, 29]), (100046, [3, 8, 9, 12, 13, 15, 16, 46]), (100055, [3, 8, 9, 12, 13, 15, 16, 55])]
noncomputable def spec_BestApproximation_l1 (r36 : ((List (Vec Int 64)) × (List (Vec Int 64)) × Bool)) (a3 : Int) (x108 : Int) (x109 : Int) : Option ((Int × Int) ⊕ Int) :=
  (if (decide (x109 < (r36.1.length : Int))) then (Option.bind (α := Int) ((ifp (0 ≤ x109 ∧ x109 < ((r36.2.1.length : Nat) : Int)) ((Option.bind (spec_l01Deg (rd r36.2.1 x109.toNat)) fun r140 => (if (decide (r140 ≤ a3)) then (some x109) else (some x108)))))) fun x134 => (some (.inl ((x134, IntKind.i64.wrap (x109 + 1)))))) else (some (.inr x108)))
noncomputable def spec_BestApproximation (a0 : Int) (a1 : (Vec Int 64)) (a2 : (Vec Int 64)) (a3 : Int) : Option ((Vec Int 64) × (Vec Int 64) × Int) :=
  (Option.bind (spec_l10Code a0 a1 a2) fun r3 => (Option.bind (α := Int) ((Option.bind (α := Bool) ((if (r3 != 1) then (Option.bind (spec_l01In a3 0 63) fun r28 => (some (!r28))) else (some false))) fun x23 => (if x23 then (some 2) else (some r3)))) fun x16 => (if (x16 != 0) then (some (((vrep 64 (0 : Int)), (vrep 64 (0 : Int)), x16))) else (Option.bind (spec_l10Continued a0 a1 a2) fun r34 => (Option.bind (spec_l10Convergents a0 r34) fun r36 => (Option.bind (α := Int) ((loopM (fun s : (Int × Int) => spec_BestApproximation_l1 r36 a3 s.1 s.2) (0, 1))) fun x89 => (ifp (0 ≤ x89 ∧ x89 < ((r36.1.length : Nat) : Int)) ((ifp (0 ≤ x89 ∧ x89 < ((r36.2.1.length : Nat) : Int)) ((some (((rd r36.1 x89.toNat), (rd r36.2.1 x89.toNat), 0)))))))))))))
theorem spec_BestApproximation_ok (a0 : Int) (a1 : (Vec Int 64)) (a2 : (Vec Int 64)) (a3 : Int) (r : ((Vec Int 64) × (Vec Int 64) × Int)) (h : spec_BestApproximation a0 a1 a2 a3 = some r) : Den Try.prog 74 [(i6 a0), (eA64u8 a1), (eA64u8 a2), (i6 a3)] { r := (.tuple [(eA64u8 r.1), (eA64u8 r.2.1), (i6 r.2.2)]) } := by
  refine den_of (rs := [(eA64u8 r.1), (eA64u8 r.2.1), (i6 r.2.2)]) (ac := spec_BestApproximation_c) (L := spec_BestApproximation_L) (n := 65) (m := [(12, 1), (13, 1)]) (c := Try.f74.body.getD .skip) good Try.func74 (by kernel_rfl) (by kernel_rfl) Try.ntmps74 rfl rfl (by kernel_rfl) rfl rfl ?_
  refine a_st (σ' := ⟨[(0, (i6 a0)), (1, (eA64u8 a1)), (2, (eA64u8 a2)), (3, (i6 a3))], []⟩) (by kernel_rfl) ?_
  unfold spec_BestApproximation_c
  refine sr (vo 1500 (eA64u8 a1) rfl rfl (vo 1600 (eA64u8 a2) rfl rfl (vo 1800 (eA64u8 ((vrep 64 (0 : Int)))) rfl rfl (vo 1900 (eA64u8 ((vrep 64 (0 : Int)))) rfl rfl (vp (i6 0) rfl (nx ⟨[(0, (i6 a0)), (3, (i6 a3)), (5, (ow 5)), (6, (ow 6)), (8, (ow 8)), (9, (ow 9))], [(5, (bk (eA64u8 a1))), (6, (bk (eA64u8 a2))), (8, (bk (eA64u8 ((vrep 64 (0 : Int)))))), (9, (bk (eA64u8 ((vrep 64 (0 : Int))))))]⟩ (by kernel_rfl) (sr (vp (i6 a0) rfl (vl (eA64u8 a1) rfl rfl rfl rfl rfl rfl ?_)))))))))
  refine vl (eA64u8 a2) rfl rfl rfl rfl rfl rfl ?_
  obtain ⟨r3, hr4, h⟩ := bind_some h
  refine a_call (args := [(i6 a0), (eA64u8 a1), (eA64u8 a2)]) (u := []) (r := (i6 r3)) rfl rfl (spec_l10Code_ok a0 a1 a2 r3 hr4) rfl (vp (i6 r3) rfl (nx ⟨[(0, (i6 a0)), (3, (i6 a3)), (5, (ow 5)), (6, (ow 6)), (8, (ow 8)), (9, (ow 9)), (11, (i6 r3))], [(5, (bk (eA64u8 a1))), (6, (bk (eA64u8 a2))), (8, (bk (eA64u8 ((vrep 64 (0 : Int)))))), (9, (bk (eA64u8 ((vrep 64 (0 : Int))))))]⟩ (by kernel_rfl) ?_))
  obtain ⟨y17, hy18, hk19⟩ := bind_some h
  clear h
  refine a_join (emb := fun (s : Int) => ⟨[(0, (i6 a0)), (3, (i6 a3)), (5, (ow 5)), (6, (ow 6)), (8, (ow 8)), (9, (ow 9)), (11, (i6 s))], [(5, (bk (eA64u8 a1))), (6, (bk (eA64u8 a2))), (8, (bk (eA64u8 ((vrep 64 (0 : Int)))))), (9, (bk (eA64u8 ((vrep 64 (0 : Int))))))]⟩) (pre := fun s => s = y17) ?_ ?_
  · rintro x16 rfl
    have h := hk19
    refine a_st (σ' := ⟨[(0, (i6 a0)), (3, (i6 a3)), (5, (ow 5)), (6, (ow 6)), (8, (ow 8)), (9, (ow 9)), (11, (i6 x16))], [(5, (bk (eA64u8 a1))), (6, (bk (eA64u8 a2))), (8, (bk (eA64u8 ((vrep 64 (0 : Int)))))), (9, (bk (eA64u8 ((vrep 64 (0 : Int))))))]⟩) (by kernel_rfl) (a_seq (sr (vp (i6 x16) rfl (vp (.bool (x16 != 0)) rfl (nx ⟨[(0, (i6 a0)), (3, (i6 a3)), (5, (ow 5)), (6, (ow 6)), (8, (ow 8)), (9, (ow 9)), (11, (i6 x16)), (29, (.bool (x16 != 0)))], [(5, (bk (eA64u8 a1))), (6, (bk (eA64u8 a2))), (8, (bk (eA64u8 ((vrep 64 (0 : Int)))))), (9, (bk (eA64u8 ((vrep 64 (0 : Int))))))]⟩ (by kernel_rfl) ?_)))))
    cases hb31 : (x16 != 0)
    · have h := ite_f hb31 h
      refine a_cond_f rfl (a_skip (a_next (σ' := ⟨[(0, (i6 a0)), (3, (i6 a3)), (5, (ow 5)), (6, (ow 6)), (8, (ow 8)), (9, (ow 9))], [(5, (bk (eA64u8 a1))), (6, (bk (eA64u8 a2))), (8, (bk (eA64u8 ((vrep 64 (0 : Int)))))), (9, (bk (eA64u8 ((vrep 64 (0 : Int))))))]⟩) (by kernel_rfl) (sr (vp (i6 a0) rfl (vp (i6 a0) rfl (vl (eA64u8 a1) rfl rfl rfl rfl rfl rfl (vl (eA64u8 a2) rfl rfl rfl rfl rfl rfl ?_)))))))
      obtain ⟨r34, hr35, h⟩ := bind_some h
      refine a_call (args := [(i6 a0), (eA64u8 a1), (eA64u8 a2)]) (u := []) (r := (eSA64u8 r34)) rfl rfl (spec_l10Continued_ok a0 a1 a2 r34 hr35) rfl ?_
      obtain ⟨r36, hr37, h⟩ := bind_some h
      refine a_call (args := [(i6 a0), (eSA64u8 r34)]) (u := []) (r := (.tuple [(eSA64u8 r36.1), (eSA64u8 r36.2.1), (.bool r36.2.2)])) rfl rfl (spec_l10Convergents_ok a0 r34 r36 hr37) rfl (vp (.tuple [(eSA64u8 r36.1), (eSA64u8 r36.2.1), (.bool r36.2.2)]) rfl (vb (eSA64u8 r36.1) rfl rfl (vb (eSA64u8 r36.2.1) rfl rfl (vb (.bool r36.2.2) rfl rfl (vp (eSA64u8 r36.1) rfl (vp (eSA64u8 r36.2.1) rfl (vp (.bool r36.2.2) rfl (nx ⟨[(3, (i6 a3)), (8, (ow 8)), (9, (ow 9)), (12, (eSA64u8 r36.1)), (13, (eSA64u8 r36.2.1))], [(8, (bk (eA64u8 ((vrep 64 (0 : Int)))))), (9, (bk (eA64u8 ((vrep 64 (0 : Int))))))]⟩ (by kernel_rfl) (sr ?_)))))))))
      refine vp (i6 0) rfl (nx ⟨[(3, (i6 a3)), (8, (ow 8)), (9, (ow 9)), (12, (eSA64u8 r36.1)), (13, (eSA64u8 r36.2.1)), (15, (i6 0))], [(8, (bk (eA64u8 ((vrep 64 (0 : Int)))))), (9, (bk (eA64u8 ((vrep 64 (0 : Int))))))]⟩ (by kernel_rfl) ?_)
      obtain ⟨y90, hy91, hk92⟩ := bind_some h
      clear h
      refine a_join (emb := fun (s : Int) => ⟨[(8, (ow 8)), (9, (ow 9)), (12, (eSA64u8 r36.1)), (13, (eSA64u8 r36.2.1)), (15, (i6 s))], [(8, (bk (eA64u8 ((vrep 64 (0 : Int)))))), (9, (bk (eA64u8 ((vrep 64 (0 : Int))))))]⟩) (pre := fun s => s = y90) ?_ ?_
      · rintro x89 rfl
        have h := hk92
        refine a_st (σ' := ⟨[(8, (ow 8)), (9, (ow 9)), (12, (eSA64u8 r36.1)), (13, (eSA64u8 r36.2.1)), (15, (i6 x89))], [(8, (bk (eA64u8 ((vrep 64 (0 : Int)))))), (9, (bk (eA64u8 ((vrep 64 (0 : Int))))))]⟩) (by kernel_rfl) (a_seq (a_draw [⟨[], [], [], []⟩, ⟨[], [], [], []⟩, ⟨[], [], [], [0, 1]⟩, ⟨[], [], [], [0, 1, 2]⟩, ⟨[], [], [], []⟩, ⟨[], [], [], []⟩, ⟨[], [], [], [4, 5]⟩, ⟨[], [], [], [4, 5, 6]⟩, ⟨[8], [8], [], [0, 1, 2, 3]⟩, ⟨[9], [9], [], [0, 1, 2, 3, 4, 5, 6, 7, 8]⟩, ⟨[], [], [], [0, 1, 2, 3, 4, 5, 6, 7, 8, 9]⟩] (by kernel_rfl) (dp (eSA64u8 r36.1) rfl (by kernel_rfl) (dp (i6 x89) rfl (by kernel_rfl) (d_cons ?_)))))
        obtain ⟨hc150, h⟩ := ifp_some h
        refine vq (.ref (.row 64 (r36.1.map eA64u8)) [x89.toNat] [x89.toNat * 64]) rfl (lmap hc150) (d_next (by kernel_rfl) (d_cons ?_))
        have hl151 : LdOk [x89.toNat] (.row 64 (r36.1.map eA64u8)) [x89.toNat * 64] 64 true (eA64u8 (rd r36.1 x89.toNat)) := (.row (llt hc150) rfl (.nil rfl rfl rfl))
        refine vq (eA64u8 (rd r36.1 x89.toNat)) (ld_ref (i := ⟨.arr 64 5, 64, 64, (eA64u8 (vrep 64 (0 : Int)))⟩) rfl rfl hl151) hl151.c (d_next (by kernel_rfl) (dp (eSA64u8 r36.2.1) rfl (by kernel_rfl) (dp (i6 x89) rfl (by kernel_rfl) (d_cons ?_))))
        obtain ⟨hc152, h⟩ := ifp_some h
        refine vq (.ref (.row 64 (r36.2.1.map eA64u8)) [x89.toNat] [x89.toNat * 64]) rfl (lmap hc152) (d_next (by kernel_rfl) (d_cons ?_))
        have hl153 : LdOk [x89.toNat] (.row 64 (r36.2.1.map eA64u8)) [x89.toNat * 64] 64 true (eA64u8 (rd r36.2.1 x89.toNat)) := (.row (llt hc152) rfl (.nil rfl rfl rfl))
        refine vq (eA64u8 (rd r36.2.1 x89.toNat)) (ld_ref (i := ⟨.arr 64 5, 64, 64, (eA64u8 (vrep 64 (0 : Int)))⟩) rfl rfl hl153) hl153.c (d_next (by kernel_rfl) (d_cons (vs (eA64u8 (rd r36.1 x89.toNat)) rfl rfl (fun _ => rfl) rfl rfl rfl rfl rfl rfl (d_next (by kernel_rfl) (d_cons (vs (eA64u8 (rd r36.2.1 x89.toNat)) rfl rfl (fun _ => rfl) rfl rfl rfl rfl rfl rfl (d_next (by kernel_rfl) (dp (i6 0) rfl (by kernel_rfl) (d_nil ?_)))))))))
        refine a_next rfl (a_ret ?_)
        have hl156 : LdOk [] (eA64u8 (rd r36.1 x89.toNat)) [] 64 true (eA64u8 (rd r36.1 x89.toNat)) := (.nil rfl rfl rfl)
        have hl157 : LdOk [] (eA64u8 (rd r36.2.1 x89.toNat)) [] 64 true (eA64u8 (rd r36.2.1 x89.toNat)) := (.nil rfl rfl rfl)
        refine ⟨.inr rfl, ?_⟩
        rw [Try.results74]
        cases h
        exact ⟨_, _, _, _, _, ld_own (i := ⟨.arr 64 5, 64, 64, (eA64u8 (vrep 64 (0 : Int)))⟩) rfl rfl rfl hl156, hl156.c, .inl ⟨rfl, .inl rfl⟩, rfl, ⟨_, _, _, _, _, ld_own (i := ⟨.arr 64 5, 64, 64, (eA64u8 (vrep 64 (0 : Int)))⟩) rfl rfl rfl hl157, hl157.c, .inl ⟨rfl, .inl rfl⟩, rfl, ⟨_, _, _, _, _, rfl, trivial, .inl ⟨rfl, .inl rfl⟩, rfl, rfl⟩⟩⟩
      · have h := hy91
        refine sr (vp (i6 1) rfl (nx ⟨[(3, (i6 a3)), (8, (ow 8)), (9, (ow 9)), (12, (eSA64u8 r36.1)), (13, (eSA64u8 r36.2.1)), (15, (i6 0)), (16, (i6 1))], [(8, (bk (eA64u8 ((vrep 64 (0 : Int)))))), (9, (bk (eA64u8 ((vrep 64 (0 : Int))))))]⟩ (by kernel_rfl) (a_block ?_)))
        refine a_loop (emb := fun (s : (Int × Int)) => ⟨[(3, (i6 a3)), (8, (ow 8)), (9, (ow 9)), (12, (eSA64u8 r36.1)), (13, (eSA64u8 r36.2.1)), (15, (i6 s.1)), (16, (i6 s.2))], [(8, (bk (eA64u8 ((vrep 64 (0 : Int)))))), (9, (bk (eA64u8 ((vrep 64 (0 : Int))))))]⟩) (body := (fun s : (Int × Int) => spec_BestApproximation_l1 r36 a3 s.1 s.2)) (G := fun q => some q = some y90) h rfl ?_ (by kernel_rfl)
        rintro X125 ⟨x108, x109⟩ x126 h hX127
        have h : spec_BestApproximation_l1 r36 a3 x108 x109 = some x126 := h
        refine a_st (σ' := ⟨[(3, (i6 a3)), (8, (ow 8)), (9, (ow 9)), (12, (eSA64u8 r36.1)), (13, (eSA64u8 r36.2.1)), (15, (i6 x108)), (16, (i6 x109))], [(8, (bk (eA64u8 ((vrep 64 (0 : Int)))))), (9, (bk (eA64u8 ((vrep 64 (0 : Int))))))]⟩) (by kernel_rfl) (a_seq (sr (vp (i6 x109) rfl (vp (eSA64u8 r36.1) rfl (vq (i6 (r36.1.length : Int)) (len_run rfl rfl) trivial (vp (.bool ((decide (x109 < (r36.1.length : Int))))) rfl (nx ⟨[(3, (i6 a3)), (8, (ow 8)), (9, (ow 9)), (12, (eSA64u8 r36.1)), (13, (eSA64u8 r36.2.1)), (15, (i6 x108)), (16, (i6 x109)), (46, (.bool ((decide (x109 < (r36.1.length : Int))))))], [(8, (bk (eA64u8 ((vrep 64 (0 : Int)))))), (9, (bk (eA64u8 ((vrep 64 (0 : Int))))))]⟩ (by kernel_rfl) ?_)))))))
        cases hb128 : (decide (x109 < (r36.1.length : Int)))
        · have h := ite_f hb128 h
          refine a_cond_f rfl (a_exit (t_exit ?_))
          cases h
          have h := hX127
          refine t_exit (b_exit ?_)
          exact j_leaf x108 (Option.some.inj h) (by kernel_rfl)
        · have h := ite_t hb128 h
          refine a_cond_t rfl (a_skip (a_next (σ' := ⟨[(3, (i6 a3)), (8, (ow 8)), (9, (ow 9)), (12, (eSA64u8 r36.1)), (13, (eSA64u8 r36.2.1)), (15, (i6 x108)), (16, (i6 x109))], [(8, (bk (eA64u8 ((vrep 64 (0 : Int)))))), (9, (bk (eA64u8 ((vrep 64 (0 : Int))))))]⟩) (by kernel_rfl) ?_))
          obtain ⟨y135, hy136, hk137⟩ := bind_some h
          clear h
          refine a_join (emb := fun (s : Int) => ⟨[(3, (i6 a3)), (8, (ow 8)), (9, (ow 9)), (12, (eSA64u8 r36.1)), (13, (eSA64u8 r36.2.1)), (15, (i6 s)), (16, (i6 x109))], [(8, (bk (eA64u8 ((vrep 64 (0 : Int)))))), (9, (bk (eA64u8 ((vrep 64 (0 : Int))))))]⟩) (pre := fun s => s = y135) ?_ ?_
          · rintro x134 rfl
            have h := hk137
            refine a_st (σ' := ⟨[(3, (i6 a3)), (8, (ow 8)), (9, (ow 9)), (12, (eSA64u8 r36.1)), (13, (eSA64u8 r36.2.1)), (15, (i6 x134)), (16, (i6 x109))], [(8, (bk (eA64u8 ((vrep 64 (0 : Int)))))), (9, (bk (eA64u8 ((vrep 64 (0 : Int))))))]⟩) (by kernel_rfl) (a_region (vp (i6 x109) rfl (vp (i6 (IntKind.i64.wrap (x109 + 1))) rfl (vp (i6 (IntKind.i64.wrap (x109 + 1))) rfl (a_nil ?_)))))
            cases h
            exact a_again (by kernel_rfl) hX127
          · have h := hy136
            refine a_block (sr (vp (eSA64u8 r36.2.1) rfl (vp (i6 x109) rfl ?_)))
            obtain ⟨hc138, h⟩ := ifp_some h
            refine vq (.ref (.row 64 (r36.2.1.map eA64u8)) [x109.toNat] [x109.toNat * 64]) rfl (lmap hc138) ?_
            have hl139 : LdOk [x109.toNat] (.row 64 (r36.2.1.map eA64u8)) [x109.toNat * 64] 64 true (eA64u8 (rd r36.2.1 x109.toNat)) := (.row (llt hc138) rfl (.nil rfl rfl rfl))
            refine vq (eA64u8 (rd r36.2.1 x109.toNat)) (ld_ref (i := ⟨.arr 64 5, 64, 64, (eA64u8 (vrep 64 (0 : Int)))⟩) rfl rfl hl139) hl139.c ?_
            obtain ⟨r140, hr141, h⟩ := bind_some h
            refine a_call (args := [(eA64u8 (rd r36.2.1 x109.toNat))]) (u := []) (r := (i6 r140)) rfl rfl (spec_l01Deg_ok (rd r36.2.1 x109.toNat) r140 hr141) rfl (vp (i6 a3) rfl (vp (.bool ((decide (r140 ≤ a3)))) rfl (nx ⟨[(3, (i6 a3)), (8, (ow 8)), (9, (ow 9)), (12, (eSA64u8 r36.1)), (13, (eSA64u8 r36.2.1)), (15, (i6 x108)), (16, (i6 x109)), (55, (.bool ((decide (r140 ≤ a3)))))], [(8, (bk (eA64u8 ((vrep 64 (0 : Int)))))), (9, (bk (eA64u8 ((vrep 64 (0 : Int))))))]⟩ (by kernel_rfl) ?_)))
            cases hb142 : (decide (r140 ≤ a3))
            · have h := ite_f hb142 h
              refine a_cond_f rfl (a_skip (b_norm ?_))
              exact j_leaf x108 (Option.some.inj h) (by kernel_rfl)
            · have h := ite_t hb142 h
              refine a_cond_t rfl (a_region (vp (i6 x109) rfl (vp (i6 x109) rfl (a_nil (b_norm ?_)))))
              exact j_leaf x109 (Option.some.inj h) (by kernel_rfl)
    · have h := ite_t hb31 h
      refine a_cond_t rfl (sr (vq (eA64u8 ((vrep 64 (0 : Int)))) rfl ⟨⟨_, rfl, rfl⟩, all_nil⟩ (vq (eA64u8 ((vrep 64 (0 : Int)))) rfl ⟨⟨_, rfl, rfl⟩, all_nil⟩ (vp (i6 x16) rfl (vs (eA64u8 ((vrep 64 (0 : Int)))) rfl rfl (fun _ => rfl) rfl rfl rfl rfl rfl rfl (vs (eA64u8 ((vrep 64 (0 : Int)))) rfl rfl (fun _ => rfl) rfl rfl rfl rfl rfl rfl (vp (i6 x16) rfl (nx _ rfl (a_ret ?_)))))))))
      refine t_ret ?_
      have hl160 : LdOk [] (eA64u8 ((vrep 64 (0 : Int)))) [] 64 true (eA64u8 ((vrep 64 (0 : Int)))) := (.nil rfl rfl rfl)
      have hl161 : LdOk [] (eA64u8 ((vrep 64 (0 : Int)))) [] 64 true (eA64u8 ((vrep 64 (0 : Int)))) := (.nil rfl rfl rfl)
      refine ⟨.inr rfl, ?_⟩
      rw [Try.results74]
      cases h
      exact ⟨_, _, _, _, _, ld_own (i := ⟨.arr 64 5, 64, 64, (eA64u8 (vrep 64 (0 : Int)))⟩) rfl rfl rfl hl160, hl160.c, .inl ⟨rfl, .inl rfl⟩, rfl, ⟨_, _, _, _, _, ld_own (i := ⟨.arr 64 5, 64, 64, (eA64u8 (vrep 64 (0 : Int)))⟩) rfl rfl rfl hl161, hl161.c, .inl ⟨rfl, .inl rfl⟩, rfl, ⟨_, _, _, _, _, rfl, trivial, .inl ⟨rfl, .inl rfl⟩, rfl, rfl⟩⟩⟩
  · have h := hy18
    obtain ⟨y24, hy25, hk26⟩ := bind_some h
    clear h
    refine a_join (emb := fun (s : Bool) => ⟨[(0, (i6 a0)), (3, (i6 a3)), (5, (ow 5)), (6, (ow 6)), (8, (ow 8)), (9, (ow 9)), (11, (i6 r3)), (27, (.bool s))], [(5, (bk (eA64u8 a1))), (6, (bk (eA64u8 a2))), (8, (bk (eA64u8 ((vrep 64 (0 : Int)))))), (9, (bk (eA64u8 ((vrep 64 (0 : Int))))))]⟩) (pre := fun s => s = y24) ?_ ?_
    · rintro x23 rfl
      have h := hk26
      refine a_st (σ' := ⟨[(0, (i6 a0)), (3, (i6 a3)), (5, (ow 5)), (6, (ow 6)), (8, (ow 8)), (9, (ow 9)), (11, (i6 r3)), (27, (.bool x23))], [(5, (bk (eA64u8 a1))), (6, (bk (eA64u8 a2))), (8, (bk (eA64u8 ((vrep 64 (0 : Int)))))), (9, (bk (eA64u8 ((vrep 64 (0 : Int))))))]⟩) (by kernel_rfl) ?_
      cases hb30 : x23
      · have h := ite_f hb30 h
        refine a_cond_f rfl (a_skip ?_)
        exact j_leaf r3 (Option.some.inj h) (by kernel_rfl)
      · have h := ite_t hb30 h
        refine a_cond_t rfl (a_region (vp (i6 2) rfl (a_nil ?_)))
        exact j_leaf 2 (Option.some.inj h) (by kernel_rfl)
    · have h := hy25
      refine a_region (vp (i6 r3) rfl (vp (.bool (r3 != 1)) rfl (vp (.bool (r3 != 1)) rfl ?_)))
      cases hb27 : (r3 != 1)
      · have h := ite_f hb27 h
        refine a_gskip rfl (a_gskip rfl (a_gskip rfl (vp (.bool false) rfl (a_nil ?_))))
        exact j_leaf false (Option.some.inj h) (by kernel_rfl)
      · have h := ite_t hb27 h
        refine gp (i6 a3) rfl rfl ?_
        obtain ⟨r28, hr29, h⟩ := bind_some h
        refine a_gcall rfl (args := [(i6 a3), (i6 0), (i6 63)]) (u := []) (r := (.bool r28)) rfl rfl (spec_l01In_ok a3 0 63 r28 hr29) rfl (gp (.bool (!r28)) rfl rfl (vp (.bool (!r28)) rfl (a_nil ?_)))
        exact j_leaf (!r28) (Option.some.inj h) (by kernel_rfl)
def spec_DrawDigitsOfQuotient_c : ACode := (.seq (.region 0 [q 2 (.asg 0 (.const (.int .i64 0)) 2), q 3 (.alloc 25), q 4 (.alloc 25), q 5 (.asg 0 (.const (.int .i64 0)) 2)] false) (.seq (.region 1 [q 10 (.mov (t 0)), q 11 (.call 0 (.func 116) [(t 10)]), q 6 (.asg 0 (t 11) 96)] false) (.seq (.region 2 [q 13 (.mov (t 6)), q 14 (.mov (t 6)), q 15 (.bslice 0 59 4 [(0, (.const (.int .i64 3))), (1, (.const (.int .i64 6))), (2, (.const (.int .i64 12))), (3, (.const (.int .i64 63)))]), q 16 (.call 1 (.func 122) [(t 14), (t 15)]), q 17 (.call 1 (.func 150) [(t 13), (t 16)]), q 12 (.mov (t 17)), q 18 (.extract (t 12) 0), q 19 (.extract (t 12) 1), q 20 (.extract (t 12) 2), q 8 (.alloc 25), q 9 (.alloc 25), q 7 (.asg 0 (t 18) 2), ⟨none, .store 25 (t 8) (t 19), none, []⟩, ⟨none, .store 25 (t 9) (t 20), none, []⟩] false) (.seq (.region 3 [q 21 (.mov (t 7)), q 22 (.load 25 (t 8)), q 23 (.load 25 (t 9)), q 24 (.mov (t 6)), ⟨some 25, .call 1 (.func 132) [(t 24), (.const (.int .i64 40))], none, [3]⟩, ⟨some 2, .asg 0 (t 21) 2, none, [0, 4, 0]⟩, ⟨none, .store 25 (t 3) (t 22), none, [1, 5, 0, 1, 5]⟩, ⟨none, .store 25 (t 4) (t 23), none, [2, 6, 0, 1, 2, 5, 6]⟩, ⟨some 5, .asg 0 (t 25) 2, none, [4, 7, 0, 1, 2, 3, 4, 5, 6, 7]⟩] true) .ret))))
def spec_DrawDigitsOfQuotient_L : Live := [(0, [0]), (1, [0, 3, 4]), (2, [3, 4, 6]), (3, [3, 4, 6, 7, 8, 9])]
noncomputable def spec_DrawDigitsOfQuotient (a0 : (List Int)) : Option (Int × (Vec Int 64) × (Vec Int 64) × Int) :=
  (Option.bind (spec_l01From a0) fun r1 => (Option.bind (spec_l01Pick_of_src r1 ([3, 6, 12, 63])) fun r3 => (Option.bind (spec_l10Draw_of_src r3.2 r3.1) fun r6 => (Option.bind (spec_l01Near_of_src r6.2.2.2 40) fun r20 => (some (r6.1, r6.2.1, r6.2.2.1, r20.1))))))
theorem spec_DrawDigitsOfQuotient_ok (a0 : (List Int)) (r : (Int × (Vec Int 64) × (Vec Int 64) × Int)) (h : spec_DrawDigitsOfQuotient a0 = some r) : Den Try.prog 75 [(eSu8 a0)] { r := (.tuple [(i6 r.1), (eA64u8 r.2.1), (eA64u8 r.2.2.1), (i6 r.2.2.2)]) } := by
  refine den_of (rs := [(i6 r.1), (eA64u8 r.2.1), (eA64u8 r.2.2.1), (i6 r.2.2.2)]) (ac := spec_DrawDigitsOfQuotient_c) (L := spec_DrawDigitsOfQuotient_L) (n := 26) (m := [(16, 1), (17, 1), (25, 1)]) (c := Try.f75.body.getD .skip) good Try.func75 (by kernel_rfl) (by kernel_rfl) Try.ntmps75 rfl rfl (by kernel_rfl) rfl rfl ?_
  refine a_st (σ' := ⟨[(0, (eSu8 a0))], []⟩) (by kernel_rfl) ?_
  unfold spec_DrawDigitsOfQuotient_c
  refine sr (vp (i6 0) rfl (vo 1300 (eA64u8 ((vrep 64 (0 : Int)))) rfl rfl (vo 1400 (eA64u8 ((vrep 64 (0 : Int)))) rfl rfl (vp (i6 0) rfl (nx ⟨[(0, (eSu8 a0)), (3, (ow 3)), (4, (ow 4))], [(3, (bk (eA64u8 ((vrep 64 (0 : Int)))))), (4, (bk (eA64u8 ((vrep 64 (0 : Int))))))]⟩ (by kernel_rfl) (sr (vp (eSu8 a0) rfl ?_)))))))
  obtain ⟨r1, hr2, h⟩ := bind_some h
  refine a_callF (args := [(eSu8 a0)]) (u := []) (u2 := []) (r := (ow 2000000)) (fs := [(0, [eT_Su8_i64_u64_Z r1])]) rfl rfl (spec_l01From_ok a0 r1 hr2) rfl rfl rfl (.inl rfl) rfl (vp (ow 2100) rfl (nx ⟨[(3, (ow 3)), (4, (ow 4)), (6, (ow 6))], [(3, (bk (eA64u8 ((vrep 64 (0 : Int)))))), (4, (bk (eA64u8 ((vrep 64 (0 : Int)))))), (6, (bk (eT_Su8_i64_u64_Z r1)))]⟩ (by kernel_rfl) (sr (vp (ow 6) rfl (vp (ow 6) rfl (vq (.sl 1 true (([3, 6, 12, 63]).map (AV.int .i64))) rfl ⟨(Nat.le_of_ble_eq_true rfl), (Nat.le_of_ble_eq_true rfl), (all_cons ⟨(Nat.le_of_ble_eq_true rfl), rfl⟩ (all_cons ⟨(Nat.le_of_ble_eq_true rfl), rfl⟩ (all_cons ⟨(Nat.le_of_ble_eq_true rfl), rfl⟩ (all_cons ⟨(Nat.le_of_ble_eq_true rfl), rfl⟩ all_nil))))⟩ ?_))))))
  obtain ⟨r3, hr4, h⟩ := bind_some h
  refine a_callM (args := [(.mutp (eT_Su8_i64_u64_Z r1)), (.sl 1 true (([3, 6, 12, 63]).map (AV.int .i64)))]) (i := 0) (id := 6) (r := (i6 r3.1)) (c := (eT_Su8_i64_u64_Z r3.2)) rfl rfl (Den.argsM (spec_l01Pick_of_src_ok r1 ([3, 6, 12, 63]) r3 hr4) rfl rfl (.cons (.loose _) .nil)) rfl trivial ?_
  obtain ⟨r6, hr7, h⟩ := bind_some h
  refine a_callM (args := [(.mutp (eT_Su8_i64_u64_Z r3.2)), (i6 r3.1)]) (i := 0) (id := 6) (r := (.tuple [(i6 r6.1), (eA64u8 r6.2.1), (eA64u8 r6.2.2.1)])) (c := (eT_Su8_i64_u64_Z r6.2.2.2)) rfl rfl (spec_l10Draw_of_src_ok r3.2 r3.1 r6 hr7) rfl trivial (vp (.tuple [(i6 r6.1), (eA64u8 r6.2.1), (eA64u8 r6.2.2.1)]) rfl (vb (i6 r6.1) rfl rfl (vb (eA64u8 r6.2.1) rfl rfl (vb (eA64u8 r6.2.2.1) rfl rfl (vo 1800 (eA64u8 ((vrep 64 (0 : Int)))) rfl rfl (vo 1900 (eA64u8 ((vrep 64 (0 : Int)))) rfl rfl (vp (i6 r6.1) rfl (vs (eA64u8 r6.2.1) rfl rfl (fun _ => rfl) rfl rfl rfl rfl rfl rfl (vs (eA64u8 r6.2.2.1) rfl rfl (fun _ => rfl) rfl rfl rfl rfl rfl rfl ?_)))))))))
  refine nx ⟨[(3, (ow 3)), (4, (ow 4)), (6, (ow 6)), (7, (i6 r6.1)), (8, (ow 8)), (9, (ow 9))], [(3, (bk (eA64u8 ((vrep 64 (0 : Int)))))), (4, (bk (eA64u8 ((vrep 64 (0 : Int)))))), (6, (bk (eT_Su8_i64_u64_Z r6.2.2.2))), (8, (bk (eA64u8 r6.2.1))), (9, (bk (eA64u8 r6.2.2.1)))]⟩ (by kernel_rfl) (a_seq (a_draw [⟨[], [], [], []⟩, ⟨[8], [], [], []⟩, ⟨[9], [], [], []⟩, ⟨[], [], [6], []⟩, ⟨[6], [6], [], [3]⟩, ⟨[], [], [], [0, 3, 4]⟩, ⟨[3], [3], [], [0, 1, 3, 4, 5]⟩, ⟨[4], [4], [], [0, 1, 2, 3, 4, 5, 6]⟩, ⟨[], [], [], [0, 1, 2, 3, 4, 5, 6, 7]⟩] (by kernel_rfl) (dp (i6 r6.1) rfl (by kernel_rfl) (d_cons (vl (eA64u8 r6.2.1) rfl rfl rfl rfl rfl rfl (d_next (by kernel_rfl) (d_cons (vl (eA64u8 r6.2.2.1) rfl rfl rfl rfl rfl rfl (d_next (by kernel_rfl) ?_)))))))))
  refine dp (ow 6) rfl (by kernel_rfl) (d_cons ?_)
  obtain ⟨r20, hr21, h⟩ := bind_some h
  refine a_callM (args := [(.mutp (eT_Su8_i64_u64_Z r6.2.2.2)), (i6 40)]) (i := 0) (id := 6) (r := (i6 r20.1)) (c := (eT_Su8_i64_u64_Z r20.2)) rfl rfl (spec_l01Near_of_src_ok r6.2.2.2 40 r20 hr21) rfl trivial (d_next (by kernel_rfl) (dp (i6 r6.1) rfl (by kernel_rfl) (d_cons (vs (eA64u8 r6.2.1) rfl rfl (fun _ => rfl) rfl rfl rfl rfl rfl rfl (d_next (by kernel_rfl) (d_cons (vs (eA64u8 r6.2.2.1) rfl rfl (fun _ => rfl) rfl rfl rfl rfl rfl rfl (d_next (by kernel_rfl) (dp (i6 r20.1) rfl (by kernel_rfl) ?_)))))))))
  refine d_nil (a_next rfl (a_ret ?_))
  have hl25 : LdOk [] (eA64u8 r6.2.1) [] 64 true (eA64u8 r6.2.1) := (.nil rfl rfl rfl)
  have hl26 : LdOk [] (eA64u8 r6.2.2.1) [] 64 true (eA64u8 r6.2.2.1) := (.nil rfl rfl rfl)
  refine ⟨.inr rfl, ?_⟩
  rw [Try.results75]
  cases h
  exact ⟨_, _, _, _, _, rfl, trivial, .inl ⟨rfl, .inl rfl⟩, rfl, ⟨_, _, _, _, _, ld_own (i := ⟨.arr 64 5, 64, 64, (eA64u8 (vrep 64 (0 : Int)))⟩) rfl rfl rfl hl25, hl25.c, .inl ⟨rfl, .inl rfl⟩, rfl, ⟨_, _, _, _, _, ld_own (i := ⟨.arr 64 5, 64, 64, (eA64u8 (vrep 64 (0 : Int)))⟩) rfl rfl rfl hl26, hl26.c, .inl ⟨rfl, .inl rfl⟩, rfl, ⟨_, _, _, _, _, rfl, trivial, .inl ⟨rfl, .inl rfl⟩, rfl, rfl⟩⟩⟩⟩
def impl_isDigits_c : ACode := (.seq (.region 0 [q 2 (.asg 0 (.const (.bool false)) 4)] false) (.seq (.region 1 [q 3 (.mov (t 0)), q 4 (.call 0 (.func 139) [(t 3), (.const (.int .i64 0)), (.const (.int .i64 40))]), q 2 (.asg 0 (t 4) 4)] false) .ret))
def impl_isDigits_L : Live := [(0, [0]), (1, [0])]
noncomputable def impl_isDigits (a0 : Int) : Option Bool :=
  (Option.bind (impl_within a0 0 40) fun r1 => (some r1))
theorem impl_isDigits_ok (a0 : Int) (r : Bool) (h : impl_isDigits a0 = some r) : Den Try.prog 161 [(i6 a0)] { r := (.bool r) } := by
  refine den_of (rs := [(.bool r)]) (ac := impl_isDigits_c) (L := impl_isDigits_L) (n := 5) (m := []) (c := Try.f161.body.getD .skip) good Try.func161 (by kernel_rfl) (by kernel_rfl) Try.ntmps161 rfl rfl (by kernel_rfl) rfl rfl ?_
  refine a_st (σ' := ⟨[(0, (i6 a0))], []⟩) (by kernel_rfl) ?_
  unfold impl_isDigits_c
  refine sr (vp (.bool false) rfl (nx ⟨[(0, (i6 a0))], []⟩ (by kernel_rfl) (sr (vp (i6 a0) rfl ?_))))
  obtain ⟨r1, hr2, h⟩ := bind_some h
  refine a_call (args := [(i6 a0), (i6 0), (i6 40)]) (u := []) (r := (.bool r1)) rfl rfl (impl_within_ok a0 0 40 r1 hr2) rfl (vp (.bool r1) rfl (nx _ rfl (a_ret ?_)))
  refine ⟨.inr rfl, ?_⟩
  rw [Try.results161]
  cases h
  exact ⟨_, _, _, _, _, rfl, trivial, .inl ⟨rfl, .inl rfl⟩, rfl, rfl⟩
def impl_prime_rest_c : ACode := (.seq (.region 0 [q 6 (.asg 1 (.const (.slice none 0 0)) 80)] false) (.seq (.region 1 [q 10 (.mov (t 0)), q 11 (.mov (t 1)), q 12 (.mov (t 2)), q 13 (.call 0 (.func 110) [(t 10), (t 11), (t 12)]), q 9 (.mov (t 13)), q 14 (.extract (t 9) 0), q 15 (.extract (t 9) 1), q 7 (.asg 1 (t 14) 80), q 8 (.asg 1 (t 15) 80)] false) (.seq (.region 2 [q 16 (.mov (t 8)), q 6 (.asg 1 (t 16) 80)] false) .ret)))
def impl_prime_rest_L : Live := [(0, [0, 1, 2]), (1, [0, 1, 2]), (2, [8])]
noncomputable def impl_prime_rest (a0 : Int) (a1 : (List Int)) (a2 : (List Int)) : Option (List Int) :=
  (Option.bind (impl_prime_divide a0 a1 a2) fun r1 => (some r1.2))
theorem impl_prime_rest_ok (a0 : Int) (a1 : (List Int)) (a2 : (List Int)) (r : (List Int)) (h : impl_prime_rest a0 a1 a2 = some r) : Den Try.prog 162 [(i6 a0), (eSi64 a1), (eSi64 a2)] { r := (eSi64 r) } := by
  refine den_of (rs := [(eSi64 r)]) (ac := impl_prime_rest_c) (L := impl_prime_rest_L) (n := 17) (m := [(6, 1), (7, 1), (8, 1)]) (c := Try.f162.body.getD .skip) good Try.func162 (by kernel_rfl) (by kernel_rfl) Try.ntmps162 rfl rfl (by kernel_rfl) rfl rfl ?_
  refine a_st (σ' := ⟨[(0, (i6 a0)), (1, (eSi64 a1)), (2, (eSi64 a2))], []⟩) (by kernel_rfl) ?_
  unfold impl_prime_rest_c
  refine sr (vp (eSi64 ([])) rfl (nx ⟨[(0, (i6 a0)), (1, (eSi64 a1)), (2, (eSi64 a2))], []⟩ (by kernel_rfl) (sr (vp (i6 a0) rfl (vp (eSi64 a1) rfl (vp (eSi64 a2) rfl ?_))))))
  obtain ⟨r1, hr2, h⟩ := bind_some h
  refine a_call (args := [(i6 a0), (eSi64 a1), (eSi64 a2)]) (u := []) (r := (.tuple [(eSi64 r1.1), (eSi64 r1.2)])) rfl rfl (impl_prime_divide_ok a0 a1 a2 r1 hr2) rfl (vp (.tuple [(eSi64 r1.1), (eSi64 r1.2)]) rfl (vb (eSi64 r1.1) rfl rfl (vb (eSi64 r1.2) rfl rfl (vp (eSi64 r1.1) rfl (vp (eSi64 r1.2) rfl (nx ⟨[(8, (eSi64 r1.2))], []⟩ (by kernel_rfl) (sr (vp (eSi64 r1.2) rfl (vp (eSi64 r1.2) rfl ?_)))))))))
  refine nx _ rfl (a_ret ?_)
  refine ⟨.inr rfl, ?_⟩
  rw [Try.results162]
  cases h
  exact ⟨_, _, _, _, _, rfl, trivial, .inl ⟨rfl, .inl rfl⟩, rfl, rfl⟩
end Go.Proofs.Ytkbnegemdlnncaa
