/- Functions of the program: plain Lean functions, and that the program computes them. Printed by gen.py. -/
import Derived.Test.YtdhcpekngpndnaaFnT
import Derived.Test.YtdhcpekngpndnaaFn1
namespace Go.Proofs.Ytdhcpekngpndnaa
open Go.Abs Go.Proofs
set_option linter.unusedSimpArgs false
set_option linter.unusedVariables false
set_option maxHeartbeats 16000000
attribute [local irreducible] Abs.acode Abs.aops Abs.aopsT Abs.thenK Abs.blockK

def spec_l01Add_c : ACode := (.seq (.region 0 [q 5 (.box 26 (t 1)), q 6 (.box 26 (t 2)), q 8 (.alloc 26)] false) (.seq (.seq (.region 1 [q 9 (.asg 0 (.const (.int .i64 0)) 3)] false) (.block 0 (.loop (.seq (.seq (.region 2 [q 10 (.mov (t 9)), q 11 (.bin .lss 3 (t 10) (.const (.int .i64 64)))] false) (.cond (t 11) .skip (.exit 0))) (.seq (.block 1 (.region 4 [q 14 (.mov (t 9)), q 15 (.mov (t 9)), ⟨some 16, .indexAddr 26 (t 5) (t 15), none, [1]⟩, ⟨some 17, .load 5 (t 16), none, [2]⟩, ⟨some 18, .conv 5 2 (t 17), none, [3]⟩, q 19 (.mov (t 3)), q 20 (.mov (t 9)), ⟨some 21, .indexAddr 26 (t 6) (t 20), none, [6]⟩, ⟨some 22, .load 5 (t 21), none, [7]⟩, ⟨some 23, .conv 5 2 (t 22), none, [8]⟩, ⟨some 24, .bin .mul 2 (t 19) (t 23), none, [5, 9]⟩, ⟨some 25, .bin .add 2 (t 18) (t 24), none, [4, 10]⟩, q 26 (.mov (t 0)), ⟨some 27, .bin .rem 2 (t 25) (t 26), none, [11, 12]⟩, q 28 (.mov (t 0)), ⟨some 29, .bin .add 2 (t 27) (t 28), none, [13, 14]⟩, q 30 (.mov (t 0)), ⟨some 31, .bin .rem 2 (t 29) (t 30), none, [15, 16]⟩, ⟨some 32, .conv 2 5 (t 31), none, [17]⟩, ⟨some 33, .indexAddr 26 (t 5) (t 14), none, [0, 0, 1, 2, 3, 4, 5, 6, 7, 8, 9, 10, 11, 12, 13, 14, 15, 16, 17, 18]⟩, ⟨none, .store 5 (t 33) (t 32), none, [19, 18, 0, 1, 2, 3, 4, 5, 6, 7, 8, 9, 10, 11, 12, 13, 14, 15, 16, 17, 18]⟩] true)) (.region 3 [q 12 (.mov (t 9)), q 13 (.bin .add 3 (t 12) (.const (.int .i64 1))), q 9 (.asg 0 (t 13) 3)] false)))))) (.seq (.region 5 [q 34 (.load 26 (t 5)), ⟨none, .store 26 (t 8) (t 34), none, []⟩] false) .ret)))
def spec_l01Add_L : Live := [(0, [0, 1, 2, 3]), (1, [0, 3, 5, 6, 8]), (2, [0, 3, 5, 6, 8, 9]), (3, [0, 3, 5, 6, 8, 9]), (4, [0, 3, 5, 6, 8, 9]), (5, [5, 8]), (100011, [0, 3, 5, 6, 8, 9, 11])]
noncomputable def spec_l01Add_l1 (a3 : Int) (a2 : (Vec Int 64)) (a0 : Int) (x127 : Int) (x128 : (Vec Int 64)) : Option ((Int × (Vec Int 64)) ⊕ (Vec Int 64)) :=
  (if (decide (x127 < 64)) then (ifp (0 ≤ x127 ∧ x127 < ((64 : Nat) : Int)) ((ifp (0 ≤ x127 ∧ x127 < ((64 : Nat) : Int)) ((letp (IntKind.i64.wrap (a3 * (IntKind.i64.wrap (rd a2.1 x127.toNat)))) fun x180 => (letp (IntKind.i64.wrap ((IntKind.i64.wrap (rd x128.1 x127.toNat)) + x180)) fun x182 => (ifp (a0 ≠ 0) ((ifp (a0 ≠ 0) ((letp (IntKind.u8.wrap (Int.tmod (IntKind.i64.wrap ((Int.tmod x182 a0) + a0)) a0)) fun x186 => (ifp (0 ≤ x127 ∧ x127 < ((64 : Nat) : Int)) ((some (.inl ((IntKind.i64.wrap (x127 + 1), (vset x128 x127.toNat x186)))))))))))))))))) else (some (.inr x128)))
noncomputable def spec_l01Add (a0 : Int) (a1 : (Vec Int 64)) (a2 : (Vec Int 64)) (a3 : Int) : Option (Vec Int 64) :=
  (Option.bind (α := (Vec Int 64)) ((loopM (fun s : (Int × (Vec Int 64)) => spec_l01Add_l1 a3 a2 a0 s.1 s.2) (0, a1))) fun x94 => (some x94))
theorem spec_l01Add_ok (a0 : Int) (a1 : (Vec Int 64)) (a2 : (Vec Int 64)) (a3 : Int) (r : (Vec Int 64)) (h : spec_l01Add a0 a1 a2 a3 = some r) : Den Try.prog 94 [(i6 a0), (eA64u8 a1), (eA64u8 a2), (i6 a3)] { r := (eA64u8 r) } := by
  refine den_of (rs := [(eA64u8 r)]) (ac := spec_l01Add_c) (L := spec_l01Add_L) (n := 35) (m := []) (c := Try.f94.body.getD .skip) good Try.func94 (by kernel_rfl) (by kernel_rfl) Try.ntmps94 rfl rfl (by kernel_rfl) rfl rfl ?_
  refine a_st (σ' := ⟨[(0, (i6 a0)), (1, (eA64u8 a1)), (2, (eA64u8 a2)), (3, (i6 a3))], []⟩) (by kernel_rfl) ?_
  unfold spec_l01Add_c
  refine sr (vo 1500 (eA64u8 a1) rfl rfl (vo 1600 (eA64u8 a2) rfl rfl (vo 1800 (eA64u8 ((vrep 64 (0 : Int)))) rfl rfl (nx ⟨[(0, (i6 a0)), (3, (i6 a3)), (5, (ow 5)), (6, (ow 6)), (8, (ow 8))], [(5, (bk (eA64u8 a1))), (6, (bk (eA64u8 a2))), (8, (bk (eA64u8 ((vrep 64 (0 : Int))))))]⟩ (by kernel_rfl) ?_))))
  obtain ⟨y95, hy96, hk97⟩ := bind_some h
  clear h
  refine a_join (emb := fun (s : (Vec Int 64)) => ⟨[(5, (ow 5)), (8, (ow 8))], [(5, (bk (eA64u8 s))), (8, (bk (eA64u8 ((vrep 64 (0 : Int))))))]⟩) (pre := fun s => s = y95) ?_ ?_
  · rintro x94 rfl
    have h := hk97
    refine a_st (σ' := ⟨[(5, (ow 5)), (8, (ow 8))], [(5, (bk (eA64u8 x94))), (8, (bk (eA64u8 ((vrep 64 (0 : Int))))))]⟩) (by kernel_rfl) (sr (vl (eA64u8 x94) rfl rfl rfl rfl rfl rfl (vs (eA64u8 x94) rfl rfl (fun _ => rfl) rfl rfl rfl rfl rfl rfl (nx _ rfl (a_ret ?_)))))
    have hl193 : LdOk [] (eA64u8 x94) [] 64 true (eA64u8 x94) := (.nil rfl rfl rfl)
    refine ⟨.inr rfl, ?_⟩
    rw [Try.results94]
    cases h
    exact ⟨_, _, _, _, _, ld_own (i := ⟨.arr 64 5, 64, 64, (eA64u8 (vrep 64 (0 : Int)))⟩) rfl rfl rfl hl193, hl193.c, .inl ⟨rfl, .inl rfl⟩, rfl, rfl⟩
  · have h := hy96
    refine sr (vp (i6 0) rfl (nx ⟨[(0, (i6 a0)), (3, (i6 a3)), (5, (ow 5)), (6, (ow 6)), (8, (ow 8)), (9, (i6 0))], [(5, (bk (eA64u8 a1))), (6, (bk (eA64u8 a2))), (8, (bk (eA64u8 ((vrep 64 (0 : Int))))))]⟩ (by kernel_rfl) (a_block ?_)))
    refine a_loop (emb := fun (s : (Int × (Vec Int 64))) => ⟨[(0, (i6 a0)), (3, (i6 a3)), (5, (ow 5)), (6, (ow 6)), (8, (ow 8)), (9, (i6 s.1))], [(5, (bk (eA64u8 s.2))), (6, (bk (eA64u8 a2))), (8, (bk (eA64u8 ((vrep 64 (0 : Int))))))]⟩) (body := (fun s : (Int × (Vec Int 64)) => spec_l01Add_l1 a3 a2 a0 s.1 s.2)) (G := fun q => some q = some y95) h rfl ?_ (by kernel_rfl)
    rintro X158 ⟨x127, x128⟩ x159 h hX160
    have h : spec_l01Add_l1 a3 a2 a0 x127 x128 = some x159 := h
    refine a_st (σ' := ⟨[(0, (i6 a0)), (3, (i6 a3)), (5, (ow 5)), (6, (ow 6)), (8, (ow 8)), (9, (i6 x127))], [(5, (bk (eA64u8 x128))), (6, (bk (eA64u8 a2))), (8, (bk (eA64u8 ((vrep 64 (0 : Int))))))]⟩) (by kernel_rfl) (a_seq (sr (vp (i6 x127) rfl (vp (.bool ((decide (x127 < 64)))) rfl (nx ⟨[(0, (i6 a0)), (3, (i6 a3)), (5, (ow 5)), (6, (ow 6)), (8, (ow 8)), (9, (i6 x127)), (11, (.bool ((decide (x127 < 64)))))], [(5, (bk (eA64u8 x128))), (6, (bk (eA64u8 a2))), (8, (bk (eA64u8 ((vrep 64 (0 : Int))))))]⟩ (by kernel_rfl) ?_)))))
    cases hb161 : (decide (x127 < 64))
    · have h := ite_f hb161 h
      refine a_cond_f rfl (a_exit (t_exit ?_))
      cases h
      have h := hX160
      refine t_exit (b_exit ?_)
      exact j_leaf x128 (Option.some.inj h) (by kernel_rfl)
    · have h := ite_t hb161 h
      refine a_cond_t rfl (a_skip (a_next (σ' := ⟨[(0, (i6 a0)), (3, (i6 a3)), (5, (ow 5)), (6, (ow 6)), (8, (ow 8)), (9, (i6 x127))], [(5, (bk (eA64u8 x128))), (6, (bk (eA64u8 a2))), (8, (bk (eA64u8 ((vrep 64 (0 : Int))))))]⟩) (by kernel_rfl) (a_seq (a_block (a_draw [⟨[], [], [], []⟩, ⟨[], [], [], []⟩, ⟨[5], [], [5], [1]⟩, ⟨[5], [], [], [1, 2]⟩, ⟨[], [], [], [1, 2, 3]⟩, ⟨[], [], [], []⟩, ⟨[], [], [], []⟩, ⟨[6], [], [6], [6]⟩, ⟨[6], [], [], [6, 7]⟩, ⟨[], [], [], [6, 7, 8]⟩, ⟨[], [], [], [5, 6, 7, 8, 9]⟩, ⟨[], [], [], [1, 2, 3, 4, 5, 6, 7, 8, 9, 10]⟩, ⟨[], [], [], []⟩, ⟨[], [], [], [1, 2, 3, 4, 5, 6, 7, 8, 9, 10, 11, 12]⟩, ⟨[], [], [], []⟩, ⟨[], [], [], [1, 2, 3, 4, 5, 6, 7, 8, 9, 10, 11, 12, 13, 14]⟩, ⟨[], [], [], []⟩, ⟨[], [], [], [1, 2, 3, 4, 5, 6, 7, 8, 9, 10, 11, 12, 13, 14, 15, 16]⟩, ⟨[], [], [], [1, 2, 3, 4, 5, 6, 7, 8, 9, 10, 11, 12, 13, 14, 15, 16, 17]⟩, ⟨[5], [], [5], [0, 1, 2, 3, 4, 5, 6, 7, 8, 9, 10, 11, 12, 13, 14, 15, 16, 17, 18]⟩, ⟨[5], [5], [], [0, 1, 2, 3, 4, 5, 6, 7, 8, 9, 10, 11, 12, 13, 14, 15, 16, 17, 18, 19]⟩] (by kernel_rfl) (dp (i6 x127) rfl (by kernel_rfl) (dp (i6 x127) rfl (by kernel_rfl) (d_cons ?_))))))))
      obtain ⟨hc176, h⟩ := ifp_some h
      refine vq (.own 5 [x127.toNat] [x127.toNat * 1]) rfl hc176 (d_next (by kernel_rfl) (d_cons ?_))
      have hl177 : LdOk [x127.toNat] (eA64u8 x128) [x127.toNat * 1] 1 false (b8 (rd x128.1 x127.toNat)) := (.arr (vlt x128 hc176) rfl (.nil rfl rfl rfl))
      refine vq (b8 (rd x128.1 x127.toNat)) (ld_own (i := ⟨.int .u8, 1, 1, (.int .u8 0)⟩) rfl rfl rfl hl177) hl177.c (d_next (by kernel_rfl) (dp (i6 (IntKind.i64.wrap (rd x128.1 x127.toNat))) rfl (by kernel_rfl) (dp (i6 a3) rfl (by kernel_rfl) (dp (i6 x127) rfl (by kernel_rfl) (d_cons ?_)))))
      obtain ⟨hc178, h⟩ := ifp_some h
      refine vq (.own 6 [x127.toNat] [x127.toNat * 1]) rfl hc178 (d_next (by kernel_rfl) (d_cons ?_))
      have hl179 : LdOk [x127.toNat] (eA64u8 a2) [x127.toNat * 1] 1 false (b8 (rd a2.1 x127.toNat)) := (.arr (vlt a2 hc178) rfl (.nil rfl rfl rfl))
      refine vq (b8 (rd a2.1 x127.toNat)) (ld_own (i := ⟨.int .u8, 1, 1, (.int .u8 0)⟩) rfl rfl rfl hl179) hl179.c (d_next (by kernel_rfl) (dp (i6 (IntKind.i64.wrap (rd a2.1 x127.toNat))) rfl (by kernel_rfl) (d_cons ?_)))
      obtain ⟨x180, hx181, h⟩ := letp_some h
      refine a_val' (v := (i6 (IntKind.i64.wrap (a3 * (IntKind.i64.wrap (rd a2.1 x127.toNat)))))) (v' := (i6 x180)) (u := []) (u' := []) rfl (congrArg (fun z => ((i6 z) : AV)) hx181) rfl trivial rfl (d_next (by kernel_rfl) (d_cons ?_))
      obtain ⟨x182, hx183, h⟩ := letp_some h
      refine a_val' (v := (i6 (IntKind.i64.wrap ((IntKind.i64.wrap (rd x128.1 x127.toNat)) + x180)))) (v' := (i6 x182)) (u := []) (u' := []) rfl (congrArg (fun z => ((i6 z) : AV)) hx183) rfl trivial rfl (d_next (by kernel_rfl) (dp (i6 a0) rfl (by kernel_rfl) (d_cons ?_)))
      obtain ⟨hc184, h⟩ := ifp_some h
      refine vq (i6 (Int.tmod x182 a0)) rfl hc184 (d_next (by kernel_rfl) (dp (i6 a0) rfl (by kernel_rfl) (dp (i6 (IntKind.i64.wrap ((Int.tmod x182 a0) + a0))) rfl (by kernel_rfl) (dp (i6 a0) rfl (by kernel_rfl) (d_cons ?_)))))
      obtain ⟨hc185, h⟩ := ifp_some h
      refine vq (i6 (Int.tmod (IntKind.i64.wrap ((Int.tmod x182 a0) + a0)) a0)) rfl hc185 (d_next (by kernel_rfl) (d_cons ?_))
      obtain ⟨x186, hx187, h⟩ := letp_some h
      refine a_val' (v := (b8 (IntKind.u8.wrap (Int.tmod (IntKind.i64.wrap ((Int.tmod x182 a0) + a0)) a0)))) (v' := (b8 x186)) (u := []) (u' := []) rfl (congrArg (fun z => ((b8 z) : AV)) hx187) rfl trivial rfl (d_next (by kernel_rfl) (d_cons ?_))
      obtain ⟨hc188, h⟩ := ifp_some h
      refine vq (.own 5 [x127.toNat] [x127.toNat * 1]) rfl hc188 (d_next (by kernel_rfl) (d_cons ?_))
      have hs189 : StOk [x127.toNat] (eA64u8 x128) [x127.toNat * 1] 1 (b8 x186) (eA64u8 (vset x128 x127.toNat x186)) := (.arr (y := x186) (vlt x128 hc188) rfl (.nil rfl rfl rfl rfl))
      refine vu .top [(5, (bk (eA64u8 (vset x128 x127.toNat x186))))] (st_own (i := ⟨.int .u8, 1, 1, (.int .u8 0)⟩) rfl rfl (fun _ => rfl) rfl hs189) (hs189.c rfl) rfl (d_next (by kernel_rfl) (d_nil (b_norm (a_next (σ' := ⟨[(0, (i6 a0)), (3, (i6 a3)), (5, (ow 5)), (6, (ow 6)), (8, (ow 8)), (9, (i6 x127))], [(5, (bk (eA64u8 (vset x128 x127.toNat x186)))), (6, (bk (eA64u8 a2))), (8, (bk (eA64u8 ((vrep 64 (0 : Int))))))]⟩) (by kernel_rfl) (a_region (vp (i6 x127) rfl (vp (i6 (IntKind.i64.wrap (x127 + 1))) rfl (vp (i6 (IntKind.i64.wrap (x127 + 1))) rfl (a_nil ?_)))))))))
      cases h
      exact a_again (by kernel_rfl) hX160
def spec_l01Bezout_c : ACode := (.seq (.region 0 [q 4 (.box 26 (t 1)), q 5 (.box 26 (t 2)), q 6 (.alloc 26), q 7 (.alloc 26), q 8 (.alloc 26)] false) (.seq (.region 1 [q 22 (.call 0 (.func 95) []), q 23 (.build 26 []), q 24 (.build 26 []), q 25 (.call 0 (.func 95) []), q 9 (.alloc 26), q 10 (.alloc 26), q 11 (.alloc 26), q 12 (.alloc 26), ⟨none, .store 26 (t 9) (t 22), none, []⟩, ⟨none, .store 26 (t 10) (t 23), none, []⟩, ⟨none, .store 26 (t 11) (t 24), none, []⟩, ⟨none, .store 26 (t 12) (t 25), none, []⟩] false) (.seq (.block 0 (.loop (.seq (.seq (.region 2 [q 26 (.load 26 (t 5)), q 27 (.call 0 (.func 75) [(t 26)]), q 28 (.bin .geq 2 (t 27) (.const (.int .i64 0)))] false) (.cond (t 28) .skip (.exit 0))) (.block 1 (.seq (.region 3 [q 30 (.mov (t 0)), q 31 (.load 26 (t 4)), q 32 (.load 26 (t 5)), q 33 (.call 0 (.func 97) [(t 30), (t 31), (t 32)]), q 29 (.mov (t 33)), q 34 (.extract (t 29) 0), q 35 (.extract (t 29) 1), q 13 (.alloc 26), q 14 (.alloc 26), ⟨none, .store 26 (t 13) (t 34), none, []⟩, ⟨none, .store 26 (t 14) (t 35), none, []⟩] false) (.seq (.region 4 [q 37 (.mov (t 0)), q 38 (.load 26 (t 13)), q 39 (.load 26 (t 10)), q 40 (.call 0 (.func 93) [(t 37), (t 38), (t 39)]), q 36 (.mov (t 40)), q 41 (.extract (t 36) 0), q 42 (.extract (t 36) 1), q 15 (.alloc 26), ⟨none, .store 26 (t 15) (t 41), none, []⟩, q 16 (.asg 0 (t 42) 4)] false) (.seq (.region 5 [q 44 (.mov (t 0)), q 45 (.load 26 (t 13)), q 46 (.load 26 (t 12)), q 47 (.call 0 (.func 93) [(t 44), (t 45), (t 46)]), q 43 (.mov (t 47)), q 48 (.extract (t 43) 0), q 49 (.extract (t 43) 1), q 17 (.alloc 26), ⟨none, .store 26 (t 17) (t 48), none, []⟩, q 18 (.asg 0 (t 49) 4)] false) (.seq (.region 6 [q 50 (.mov (t 0)), q 51 (.load 26 (t 9)), q 52 (.load 26 (t 15)), ⟨some 53, .call 0 (.func 94) [(t 50), (t 51), (t 52), (.const (.int .i64 (-1)))], none, [0, 1, 2]⟩, q 54 (.mov (t 0)), q 55 (.load 26 (t 11)), q 56 (.load 26 (t 17)), ⟨some 57, .call 0 (.func 94) [(t 54), (t 55), (t 56), (.const (.int .i64 (-1)))], none, [4, 5, 6, 3]⟩, q 19 (.alloc 26), q 20 (.alloc 26), ⟨none, .store 26 (t 19) (t 53), none, [8, 3, 7, 0, 1, 2, 3, 8, 9]⟩, ⟨none, .store 26 (t 20) (t 57), none, [9, 7, 10, 0, 1, 2, 3, 4, 5, 6, 7, 8, 9, 10]⟩] true) (.seq (.region 7 [q 58 (.load 26 (t 5)), ⟨none, .store 26 (t 4) (t 58), none, []⟩] false) (.seq (.region 8 [q 59 (.load 26 (t 14)), ⟨none, .store 26 (t 5) (t 59), none, []⟩] false) (.seq (.region 9 [q 60 (.load 26 (t 10)), ⟨none, .store 26 (t 9) (t 60), none, []⟩] false) (.seq (.region 10 [q 61 (.load 26 (t 12)), ⟨none, .store 26 (t 11) (t 61), none, []⟩] false) (.seq (.region 11 [q 62 (.load 26 (t 19)), ⟨none, .store 26 (t 10) (t 62), none, []⟩] false) (.region 12 [q 63 (.load 26 (t 20)), ⟨none, .store 26 (t 12) (t 63), none, []⟩] false)))))))))))))) (.seq (.region 13 [q 64 (.mov (t 0)), q 65 (.load 26 (t 4)), q 66 (.call 0 (.func 75) [(t 65)]), q 67 (.indexAddr 26 (t 4) (t 66)), q 68 (.load 5 (t 67)), q 69 (.call 0 (.func 148) [(t 64), (t 68)]), q 70 (.conv 5 2 (t 69)), q 21 (.asg 0 (t 70) 2)] false) (.seq (.region 14 [q 71 (.mov (t 0)), q 72 (.build 26 []), q 73 (.load 26 (t 4)), q 74 (.mov (t 21)), ⟨some 75, .call 0 (.func 94) [(t 71), (t 72), (t 73), (t 74)], none, [0, 1, 2, 3]⟩, q 76 (.mov (t 0)), q 77 (.build 26 []), q 78 (.load 26 (t 9)), q 79 (.mov (t 21)), ⟨some 80, .call 0 (.func 94) [(t 76), (t 77), (t 78), (t 79)], none, [5, 6, 7, 8, 4]⟩, q 81 (.mov (t 0)), q 82 (.build 26 []), q 83 (.load 26 (t 11)), q 84 (.mov (t 21)), ⟨some 85, .call 0 (.func 94) [(t 81), (t 82), (t 83), (t 84)], none, [10, 11, 12, 13, 9]⟩, ⟨none, .store 26 (t 6) (t 75), none, [4, 14, 0, 1, 2, 3, 4]⟩, ⟨none, .store 26 (t 7) (t 80), none, [9, 15, 0, 1, 2, 3, 4, 5, 6, 7, 8, 9, 15]⟩, ⟨none, .store 26 (t 8) (t 85), none, [14, 16, 0, 1, 2, 3, 4, 5, 6, 7, 8, 9, 10, 11, 12, 13, 14, 15, 16]⟩] true) .ret)))))
def spec_l01Bezout_L : Live := [(0, [0, 1, 2]), (1, [0, 4, 5, 6, 7, 8]), (2, [0, 4, 5, 6, 7, 8, 9, 10, 11, 12]), (3, [0, 4, 5, 6, 7, 8, 9, 10, 11, 12]), (4, [0, 4, 5, 6, 7, 8, 9, 10, 11, 12, 13, 14]), (5, [0, 4, 5, 6, 7, 8, 9, 10, 11, 12, 13, 14, 15]), (6, [0, 4, 5, 6, 7, 8, 9, 10, 11, 12, 14, 15, 17]), (7, [0, 4, 5, 6, 7, 8, 9, 10, 11, 12, 14, 19, 20]), (8, [0, 4, 5, 6, 7, 8, 9, 10, 11, 12, 14, 19, 20]), (9, [0, 4, 5, 6, 7, 8, 9, 10, 11, 12, 19, 20]), (10, [0, 4, 5, 6, 7, 8, 9, 10, 11, 12, 19, 20]), (11, [0, 4, 5, 6, 7, 8, 9, 10, 11, 12, 19, 20]), (12, [0, 4, 5, 6, 7, 8, 9, 10, 11, 12, 20]), (13, [0, 4, 6, 7, 8, 9, 11]), (14, [0, 4, 6, 7, 8, 9, 11, 21]), (100028, [0, 4, 5, 6, 7, 8, 9, 10, 11, 12, 28])]
noncomputable def spec_l01Bezout_l1 (a0 : Int) (x233 : (Vec Int 64)) (x234 : (Vec Int 64)) (x235 : (Vec Int 64)) (x236 : (Vec Int 64)) (x237 : (Vec Int 64)) (x238 : (Vec Int 64)) : Option (((Vec Int 64) × (Vec Int 64) × (Vec Int 64) × (Vec Int 64) × (Vec Int 64) × (Vec Int 64)) ⊕ ((Vec Int 64) × (Vec Int 64) × (Vec Int 64))) :=
  (Option.bind (spec_l01Deg x234) fun r295 => (if (decide (r295 ≥ 0)) then (Option.bind (spec_l01Divide a0 x233 x234) fun r300 => (Option.bind (spec_l01Times a0 r300.1 x236) fun r306 => (Option.bind (spec_l01Times a0 r300.1 x238) fun r311 => (Option.bind (spec_l01Add a0 x235 r306.1 (-1)) fun r326 => (Option.bind (spec_l01Add a0 x237 r311.1 (-1)) fun r330 => (some (.inl (x234, r300.2, x236, r326, x238, r330)))))))) else (some (.inr (x233, x235, x237)))))
noncomputable def spec_l01Bezout (a0 : Int) (a1 : (Vec Int 64)) (a2 : (Vec Int 64)) : Option ((Vec Int 64) × (Vec Int 64) × (Vec Int 64)) :=
  (Option.bind (spec_l01One) fun r1 => (Option.bind (spec_l01One) fun r3 => (Option.bind (α := ((Vec Int 64) × (Vec Int 64) × (Vec Int 64))) ((loopM (fun s : ((Vec Int 64) × (Vec Int 64) × (Vec Int 64) × (Vec Int 64) × (Vec Int 64) × (Vec Int 64)) => spec_l01Bezout_l1 a0 s.1 s.2.1 s.2.2.1 s.2.2.2.1 s.2.2.2.2.1 s.2.2.2.2.2) (a1, a2, r1, (vrep 64 (0 : Int)), (vrep 64 (0 : Int)), r3))) fun ⟨x175, x176, x177⟩ => (Option.bind (spec_l01Deg x175) fun r348 => (ifp (0 ≤ r348 ∧ r348 < ((64 : Nat) : Int)) ((Option.bind (spec_l01Inverse a0 (rd x175.1 r348.toNat)) fun r352 => (Option.bind (spec_l01Add a0 ((vrep 64 (0 : Int))) x175 (IntKind.i64.wrap r352)) fun r367 => (Option.bind (spec_l01Add a0 ((vrep 64 (0 : Int))) x176 (IntKind.i64.wrap r352)) fun r370 => (Option.bind (spec_l01Add a0 ((vrep 64 (0 : Int))) x177 (IntKind.i64.wrap r352)) fun r373 => (some (r367, r370, r373))))))))))))
theorem spec_l01Bezout_ok (a0 : Int) (a1 : (Vec Int 64)) (a2 : (Vec Int 64)) (r : ((Vec Int 64) × (Vec Int 64) × (Vec Int 64))) (h : spec_l01Bezout a0 a1 a2 = some r) : Den Try.prog 163 [(i6 a0), (eA64u8 a1), (eA64u8 a2)] { r := (.tuple [(eA64u8 r.1), (eA64u8 r.2.1), (eA64u8 r.2.2)]) } := by
  refine den_of (rs := [(eA64u8 r.1), (eA64u8 r.2.1), (eA64u8 r.2.2)]) (ac := spec_l01Bezout_c) (L := spec_l01Bezout_L) (n := 86) (m := []) (c := Try.f163.body.getD .skip) good Try.func163 (by kernel_rfl) (by kernel_rfl) Try.ntmps163 rfl rfl (by kernel_rfl) rfl rfl ?_
  refine a_st (σ' := ⟨[(0, (i6 a0)), (1, (eA64u8 a1)), (2, (eA64u8 a2))], []⟩) (by kernel_rfl) ?_
  unfold spec_l01Bezout_c
  refine sr (vo 1400 (eA64u8 a1) rfl rfl (vo 1500 (eA64u8 a2) rfl rfl (vo 1600 (eA64u8 ((vrep 64 (0 : Int)))) rfl rfl (vo 1700 (eA64u8 ((vrep 64 (0 : Int)))) rfl rfl (vo 1800 (eA64u8 ((vrep 64 (0 : Int)))) rfl rfl (nx ⟨[(0, (i6 a0)), (4, (ow 4)), (5, (ow 5)), (6, (ow 6)), (7, (ow 7)), (8, (ow 8))], [(4, (bk (eA64u8 a1))), (5, (bk (eA64u8 a2))), (6, (bk (eA64u8 ((vrep 64 (0 : Int)))))), (7, (bk (eA64u8 ((vrep 64 (0 : Int)))))), (8, (bk (eA64u8 ((vrep 64 (0 : Int))))))]⟩ (by kernel_rfl) (sr ?_)))))))
  obtain ⟨r1, hr2, h⟩ := bind_some h
  refine a_call (args := []) (u := []) (r := (eA64u8 r1)) rfl rfl (spec_l01One_ok r1 hr2) rfl (vq (eA64u8 ((vrep 64 (0 : Int)))) rfl ⟨⟨_, rfl, rfl⟩, all_nil⟩ (vq (eA64u8 ((vrep 64 (0 : Int)))) rfl ⟨⟨_, rfl, rfl⟩, all_nil⟩ ?_))
  obtain ⟨r3, hr4, h⟩ := bind_some h
  refine a_call (args := []) (u := []) (r := (eA64u8 r3)) rfl rfl (spec_l01One_ok r3 hr4) rfl (vo 1900 (eA64u8 ((vrep 64 (0 : Int)))) rfl rfl (vo 2000 (eA64u8 ((vrep 64 (0 : Int)))) rfl rfl (vo 2100 (eA64u8 ((vrep 64 (0 : Int)))) rfl rfl (vo 2200 (eA64u8 ((vrep 64 (0 : Int)))) rfl rfl (vs (eA64u8 r1) rfl rfl (fun _ => rfl) rfl rfl rfl rfl rfl rfl (vs (eA64u8 ((vrep 64 (0 : Int)))) rfl rfl (fun _ => rfl) rfl rfl rfl rfl rfl rfl (vs (eA64u8 ((vrep 64 (0 : Int)))) rfl rfl (fun _ => rfl) rfl rfl rfl rfl rfl rfl (vs (eA64u8 r3) rfl rfl (fun _ => rfl) rfl rfl rfl rfl rfl rfl (nx ⟨[(0, (i6 a0)), (4, (ow 4)), (5, (ow 5)), (6, (ow 6)), (7, (ow 7)), (8, (ow 8)), (9, (ow 9)), (10, (ow 10)), (11, (ow 11)), (12, (ow 12))], [(4, (bk (eA64u8 a1))), (5, (bk (eA64u8 a2))), (6, (bk (eA64u8 ((vrep 64 (0 : Int)))))), (7, (bk (eA64u8 ((vrep 64 (0 : Int)))))), (8, (bk (eA64u8 ((vrep 64 (0 : Int)))))), (9, (bk (eA64u8 r1))), (10, (bk (eA64u8 ((vrep 64 (0 : Int)))))), (11, (bk (eA64u8 ((vrep 64 (0 : Int)))))), (12, (bk (eA64u8 r3)))]⟩ (by kernel_rfl) ?_)))))))))
  obtain ⟨y178, hy179, hk180⟩ := bind_some h
  clear h
  refine a_join (emb := fun (s : ((Vec Int 64) × (Vec Int 64) × (Vec Int 64))) => ⟨[(0, (i6 a0)), (4, (ow 4)), (6, (ow 6)), (7, (ow 7)), (8, (ow 8)), (9, (ow 9)), (11, (ow 11))], [(4, (bk (eA64u8 s.1))), (6, (bk (eA64u8 ((vrep 64 (0 : Int)))))), (7, (bk (eA64u8 ((vrep 64 (0 : Int)))))), (8, (bk (eA64u8 ((vrep 64 (0 : Int)))))), (9, (bk (eA64u8 s.2.1))), (11, (bk (eA64u8 s.2.2)))]⟩) (pre := fun s => s = y178) ?_ ?_
  · rintro ⟨x175, x176, x177⟩ rfl
    have h := hk180
    refine a_st (σ' := ⟨[(0, (i6 a0)), (4, (ow 4)), (6, (ow 6)), (7, (ow 7)), (8, (ow 8)), (9, (ow 9)), (11, (ow 11))], [(4, (bk (eA64u8 x175))), (6, (bk (eA64u8 ((vrep 64 (0 : Int)))))), (7, (bk (eA64u8 ((vrep 64 (0 : Int)))))), (8, (bk (eA64u8 ((vrep 64 (0 : Int)))))), (9, (bk (eA64u8 x176))), (11, (bk (eA64u8 x177)))]⟩) (by kernel_rfl) (sr (vp (i6 a0) rfl (vl (eA64u8 x175) rfl rfl rfl rfl rfl rfl ?_)))
    obtain ⟨r348, hr349, h⟩ := bind_some h
    refine a_call (args := [(eA64u8 x175)]) (u := []) (r := (i6 r348)) rfl rfl (spec_l01Deg_ok x175 r348 hr349) rfl ?_
    obtain ⟨hc350, h⟩ := ifp_some h
    refine vq (.own 4 [r348.toNat] [r348.toNat * 1]) rfl hc350 ?_
    have hl351 : LdOk [r348.toNat] (eA64u8 x175) [r348.toNat * 1] 1 false (b8 (rd x175.1 r348.toNat)) := (.arr (vlt x175 hc350) rfl (.nil rfl rfl rfl))
    refine vq (b8 (rd x175.1 r348.toNat)) (ld_own (i := ⟨.int .u8, 1, 1, (.int .u8 0)⟩) rfl rfl rfl hl351) hl351.c ?_
    obtain ⟨r352, hr353, h⟩ := bind_some h
    refine a_call (args := [(i6 a0), (b8 (rd x175.1 r348.toNat))]) (u := []) (r := (b8 r352)) rfl rfl (spec_l01Inverse_ok a0 (rd x175.1 r348.toNat) r352 hr353) rfl (vp (i6 (IntKind.i64.wrap r352)) rfl (vp (i6 (IntKind.i64.wrap r352)) rfl (nx ⟨[(0, (i6 a0)), (4, (ow 4)), (6, (ow 6)), (7, (ow 7)), (8, (ow 8)), (9, (ow 9)), (11, (ow 11)), (21, (i6 (IntKind.i64.wrap r352)))], [(4, (bk (eA64u8 x175))), (6, (bk (eA64u8 ((vrep 64 (0 : Int)))))), (7, (bk (eA64u8 ((vrep 64 (0 : Int)))))), (8, (bk (eA64u8 ((vrep 64 (0 : Int)))))), (9, (bk (eA64u8 x176))), (11, (bk (eA64u8 x177)))]⟩ (by kernel_rfl) (a_seq (a_draw [⟨[], [], [], []⟩, ⟨[], [], [], []⟩, ⟨[4], [], [], []⟩, ⟨[], [], [], []⟩, ⟨[], [], [], [0, 1, 2, 3]⟩, ⟨[], [], [], []⟩, ⟨[], [], [], []⟩, ⟨[9], [], [], []⟩, ⟨[], [], [], []⟩, ⟨[], [], [], [0, 1, 2, 3, 4, 5, 6, 7, 8]⟩, ⟨[], [], [], []⟩, ⟨[], [], [], []⟩, ⟨[11], [], [], []⟩, ⟨[], [], [], []⟩, ⟨[], [], [], [0, 1, 2, 3, 4, 5, 6, 7, 8, 9, 10, 11, 12, 13]⟩, ⟨[6], [6], [], [0, 1, 2, 3, 4, 5, 6, 7, 8, 9, 10, 11, 12, 13, 14]⟩, ⟨[7], [7], [], [0, 1, 2, 3, 4, 5, 6, 7, 8, 9, 10, 11, 12, 13, 14, 15]⟩, ⟨[8], [8], [], [0, 1, 2, 3, 4, 5, 6, 7, 8, 9, 10, 11, 12, 13, 14, 15, 16]⟩] (by kernel_rfl) (dp (i6 a0) rfl (by kernel_rfl) (d_cons (vq (eA64u8 ((vrep 64 (0 : Int)))) rfl ⟨⟨_, rfl, rfl⟩, all_nil⟩ (d_next (by kernel_rfl) ?_)))))))))
    refine d_cons (vl (eA64u8 x175) rfl rfl rfl rfl rfl rfl (d_next (by kernel_rfl) (dp (i6 (IntKind.i64.wrap r352)) rfl (by kernel_rfl) (d_cons ?_))))
    obtain ⟨r367, hr368, h⟩ := bind_some h
    refine a_call (args := [(i6 a0), (eA64u8 ((vrep 64 (0 : Int)))), (eA64u8 x175), (i6 (IntKind.i64.wrap r352))]) (u := []) (r := (eA64u8 r367)) rfl rfl (spec_l01Add_ok a0 ((vrep 64 (0 : Int))) x175 (IntKind.i64.wrap r352) r367 hr368) rfl (d_next (by kernel_rfl) (dp (i6 a0) rfl (by kernel_rfl) (d_cons (vq (eA64u8 ((vrep 64 (0 : Int)))) rfl ⟨⟨_, rfl, rfl⟩, all_nil⟩ (d_next (by kernel_rfl) (d_cons (vl (eA64u8 x176) rfl rfl rfl rfl rfl rfl (d_next (by kernel_rfl) (dp (i6 (IntKind.i64.wrap r352)) rfl (by kernel_rfl) ?_)))))))))
    refine d_cons ?_
    obtain ⟨r370, hr371, h⟩ := bind_some h
    refine a_call (args := [(i6 a0), (eA64u8 ((vrep 64 (0 : Int)))), (eA64u8 x176), (i6 (IntKind.i64.wrap r352))]) (u := []) (r := (eA64u8 r370)) rfl rfl (spec_l01Add_ok a0 ((vrep 64 (0 : Int))) x176 (IntKind.i64.wrap r352) r370 hr371) rfl (d_next (by kernel_rfl) (dp (i6 a0) rfl (by kernel_rfl) (d_cons (vq (eA64u8 ((vrep 64 (0 : Int)))) rfl ⟨⟨_, rfl, rfl⟩, all_nil⟩ (d_next (by kernel_rfl) (d_cons (vl (eA64u8 x177) rfl rfl rfl rfl rfl rfl (d_next (by kernel_rfl) (dp (i6 (IntKind.i64.wrap r352)) rfl (by kernel_rfl) ?_)))))))))
    refine d_cons ?_
    obtain ⟨r373, hr374, h⟩ := bind_some h
    refine a_call (args := [(i6 a0), (eA64u8 ((vrep 64 (0 : Int)))), (eA64u8 x177), (i6 (IntKind.i64.wrap r352))]) (u := []) (r := (eA64u8 r373)) rfl rfl (spec_l01Add_ok a0 ((vrep 64 (0 : Int))) x177 (IntKind.i64.wrap r352) r373 hr374) rfl (d_next (by kernel_rfl) (d_cons (vs (eA64u8 r367) rfl rfl (fun _ => rfl) rfl rfl rfl rfl rfl rfl (d_next (by kernel_rfl) (d_cons (vs (eA64u8 r370) rfl rfl (fun _ => rfl) rfl rfl rfl rfl rfl rfl (d_next (by kernel_rfl) (d_cons (vs (eA64u8 r373) rfl rfl (fun _ => rfl) rfl rfl rfl rfl rfl rfl ?_)))))))))
    refine d_next (by kernel_rfl) (d_nil (a_next rfl (a_ret ?_)))
    have hl378 : LdOk [] (eA64u8 r367) [] 64 true (eA64u8 r367) := (.nil rfl rfl rfl)
    have hl379 : LdOk [] (eA64u8 r370) [] 64 true (eA64u8 r370) := (.nil rfl rfl rfl)
    have hl380 : LdOk [] (eA64u8 r373) [] 64 true (eA64u8 r373) := (.nil rfl rfl rfl)
    refine ⟨.inr rfl, ?_⟩
    rw [Try.results163]
    cases h
    exact ⟨_, _, _, _, _, ld_own (i := ⟨.arr 64 5, 64, 64, (eA64u8 (vrep 64 (0 : Int)))⟩) rfl rfl rfl hl378, hl378.c, .inl ⟨rfl, .inl rfl⟩, rfl, ⟨_, _, _, _, _, ld_own (i := ⟨.arr 64 5, 64, 64, (eA64u8 (vrep 64 (0 : Int)))⟩) rfl rfl rfl hl379, hl379.c, .inl ⟨rfl, .inl rfl⟩, rfl, ⟨_, _, _, _, _, ld_own (i := ⟨.arr 64 5, 64, 64, (eA64u8 (vrep 64 (0 : Int)))⟩) rfl rfl rfl hl380, hl380.c, .inl ⟨rfl, .inl rfl⟩, rfl, rfl⟩⟩⟩
  · have h := hy179
    refine a_block ?_
    refine a_loop (emb := fun (s : ((Vec Int 64) × (Vec Int 64) × (Vec Int 64) × (Vec Int 64) × (Vec Int 64) × (Vec Int 64))) => ⟨[(0, (i6 a0)), (4, (ow 4)), (5, (ow 5)), (6, (ow 6)), (7, (ow 7)), (8, (ow 8)), (9, (ow 9)), (10, (ow 10)), (11, (ow 11)), (12, (ow 12))], [(4, (bk (eA64u8 s.1))), (5, (bk (eA64u8 s.2.1))), (6, (bk (eA64u8 ((vrep 64 (0 : Int)))))), (7, (bk (eA64u8 ((vrep 64 (0 : Int)))))), (8, (bk (eA64u8 ((vrep 64 (0 : Int)))))), (9, (bk (eA64u8 s.2.2.1))), (10, (bk (eA64u8 s.2.2.2.1))), (11, (bk (eA64u8 s.2.2.2.2.1))), (12, (bk (eA64u8 s.2.2.2.2.2)))]⟩) (body := (fun s : ((Vec Int 64) × (Vec Int 64) × (Vec Int 64) × (Vec Int 64) × (Vec Int 64) × (Vec Int 64)) => spec_l01Bezout_l1 a0 s.1 s.2.1 s.2.2.1 s.2.2.2.1 s.2.2.2.2.1 s.2.2.2.2.2)) (G := fun q => some q = some y178) h rfl ?_ (by kernel_rfl)
    rintro X291 ⟨x233, x234, x235, x236, x237, x238⟩ x292 h hX293
    have h : spec_l01Bezout_l1 a0 x233 x234 x235 x236 x237 x238 = some x292 := h
    refine a_st (σ' := ⟨[(0, (i6 a0)), (4, (ow 4)), (5, (ow 5)), (6, (ow 6)), (7, (ow 7)), (8, (ow 8)), (9, (ow 9)), (10, (ow 10)), (11, (ow 11)), (12, (ow 12))], [(4, (bk (eA64u8 x233))), (5, (bk (eA64u8 x234))), (6, (bk (eA64u8 ((vrep 64 (0 : Int)))))), (7, (bk (eA64u8 ((vrep 64 (0 : Int)))))), (8, (bk (eA64u8 ((vrep 64 (0 : Int)))))), (9, (bk (eA64u8 x235))), (10, (bk (eA64u8 x236))), (11, (bk (eA64u8 x237))), (12, (bk (eA64u8 x238)))]⟩) (by kernel_rfl) (a_seq (sr (vl (eA64u8 x234) rfl rfl rfl rfl rfl rfl ?_)))
    obtain ⟨r295, hr296, h⟩ := bind_some h
    refine a_call (args := [(eA64u8 x234)]) (u := []) (r := (i6 r295)) rfl rfl (spec_l01Deg_ok x234 r295 hr296) rfl (vp (.bool ((decide (r295 ≥ 0)))) rfl (nx ⟨[(0, (i6 a0)), (4, (ow 4)), (5, (ow 5)), (6, (ow 6)), (7, (ow 7)), (8, (ow 8)), (9, (ow 9)), (10, (ow 10)), (11, (ow 11)), (12, (ow 12)), (28, (.bool ((decide (r295 ≥ 0)))))], [(4, (bk (eA64u8 x233))), (5, (bk (eA64u8 x234))), (6, (bk (eA64u8 ((vrep 64 (0 : Int)))))), (7, (bk (eA64u8 ((vrep 64 (0 : Int)))))), (8, (bk (eA64u8 ((vrep 64 (0 : Int)))))), (9, (bk (eA64u8 x235))), (10, (bk (eA64u8 x236))), (11, (bk (eA64u8 x237))), (12, (bk (eA64u8 x238)))]⟩ (by kernel_rfl) ?_))
    cases hb297 : (decide (r295 ≥ 0))
    · have h := ite_f hb297 h
      refine a_cond_f rfl (a_exit (t_exit ?_))
      cases h
      have h := hX293
      refine t_exit (b_exit ?_)
      exact j_leaf (x233, x235, x237) (Option.some.inj h) (by kernel_rfl)
    · have h := ite_t hb297 h
      refine a_cond_t rfl (a_skip (a_next (σ' := ⟨[(0, (i6 a0)), (4, (ow 4)), (5, (ow 5)), (6, (ow 6)), (7, (ow 7)), (8, (ow 8)), (9, (ow 9)), (10, (ow 10)), (11, (ow 11)), (12, (ow 12))], [(4, (bk (eA64u8 x233))), (5, (bk (eA64u8 x234))), (6, (bk (eA64u8 ((vrep 64 (0 : Int)))))), (7, (bk (eA64u8 ((vrep 64 (0 : Int)))))), (8, (bk (eA64u8 ((vrep 64 (0 : Int)))))), (9, (bk (eA64u8 x235))), (10, (bk (eA64u8 x236))), (11, (bk (eA64u8 x237))), (12, (bk (eA64u8 x238)))]⟩) (by kernel_rfl) (a_block (sr (vp (i6 a0) rfl (vl (eA64u8 x233) rfl rfl rfl rfl rfl rfl (vl (eA64u8 x234) rfl rfl rfl rfl rfl rfl ?_)))))))
      obtain ⟨r300, hr301, h⟩ := bind_some h
      refine a_call (args := [(i6 a0), (eA64u8 x233), (eA64u8 x234)]) (u := []) (r := (.tuple [(eA64u8 r300.1), (eA64u8 r300.2)])) rfl rfl (spec_l01Divide_ok a0 x233 x234 r300 hr301) rfl (vp (.tuple [(eA64u8 r300.1), (eA64u8 r300.2)]) rfl (vb (eA64u8 r300.1) rfl rfl (vb (eA64u8 r300.2) rfl rfl (vo 2300 (eA64u8 ((vrep 64 (0 : Int)))) rfl rfl (vo 2400 (eA64u8 ((vrep 64 (0 : Int)))) rfl rfl (vs (eA64u8 r300.1) rfl rfl (fun _ => rfl) rfl rfl rfl rfl rfl rfl (vs (eA64u8 r300.2) rfl rfl (fun _ => rfl) rfl rfl rfl rfl rfl rfl (nx ⟨[(0, (i6 a0)), (4, (ow 4)), (5, (ow 5)), (6, (ow 6)), (7, (ow 7)), (8, (ow 8)), (9, (ow 9)), (10, (ow 10)), (11, (ow 11)), (12, (ow 12)), (13, (ow 13)), (14, (ow 14))], [(4, (bk (eA64u8 x233))), (5, (bk (eA64u8 x234))), (6, (bk (eA64u8 ((vrep 64 (0 : Int)))))), (7, (bk (eA64u8 ((vrep 64 (0 : Int)))))), (8, (bk (eA64u8 ((vrep 64 (0 : Int)))))), (9, (bk (eA64u8 x235))), (10, (bk (eA64u8 x236))), (11, (bk (eA64u8 x237))), (12, (bk (eA64u8 x238))), (13, (bk (eA64u8 r300.1))), (14, (bk (eA64u8 r300.2)))]⟩ (by kernel_rfl) (sr ?_)))))))))
      refine vp (i6 a0) rfl (vl (eA64u8 r300.1) rfl rfl rfl rfl rfl rfl (vl (eA64u8 x236) rfl rfl rfl rfl rfl rfl ?_))
      obtain ⟨r306, hr307, h⟩ := bind_some h
      refine a_call (args := [(i6 a0), (eA64u8 r300.1), (eA64u8 x236)]) (u := []) (r := (.tuple [(eA64u8 r306.1), (.bool r306.2)])) rfl rfl (spec_l01Times_ok a0 r300.1 x236 r306 hr307) rfl (vp (.tuple [(eA64u8 r306.1), (.bool r306.2)]) rfl (vb (eA64u8 r306.1) rfl rfl (vb (.bool r306.2) rfl rfl (vo 2500 (eA64u8 ((vrep 64 (0 : Int)))) rfl rfl (vs (eA64u8 r306.1) rfl rfl (fun _ => rfl) rfl rfl rfl rfl rfl rfl (vp (.bool r306.2) rfl (nx ⟨[(0, (i6 a0)), (4, (ow 4)), (5, (ow 5)), (6, (ow 6)), (7, (ow 7)), (8, (ow 8)), (9, (ow 9)), (10, (ow 10)), (11, (ow 11)), (12, (ow 12)), (13, (ow 13)), (14, (ow 14)), (15, (ow 15))], [(4, (bk (eA64u8 x233))), (5, (bk (eA64u8 x234))), (6, (bk (eA64u8 ((vrep 64 (0 : Int)))))), (7, (bk (eA64u8 ((vrep 64 (0 : Int)))))), (8, (bk (eA64u8 ((vrep 64 (0 : Int)))))), (9, (bk (eA64u8 x235))), (10, (bk (eA64u8 x236))), (11, (bk (eA64u8 x237))), (12, (bk (eA64u8 x238))), (13, (bk (eA64u8 r300.1))), (14, (bk (eA64u8 r300.2))), (15, (bk (eA64u8 r306.1)))]⟩ (by kernel_rfl) (sr (vp (i6 a0) rfl ?_)))))))))
      refine vl (eA64u8 r300.1) rfl rfl rfl rfl rfl rfl (vl (eA64u8 x238) rfl rfl rfl rfl rfl rfl ?_)
      obtain ⟨r311, hr312, h⟩ := bind_some h
      refine a_call (args := [(i6 a0), (eA64u8 r300.1), (eA64u8 x238)]) (u := []) (r := (.tuple [(eA64u8 r311.1), (.bool r311.2)])) rfl rfl (spec_l01Times_ok a0 r300.1 x238 r311 hr312) rfl (vp (.tuple [(eA64u8 r311.1), (.bool r311.2)]) rfl (vb (eA64u8 r311.1) rfl rfl (vb (.bool r311.2) rfl rfl (vo 2700 (eA64u8 ((vrep 64 (0 : Int)))) rfl rfl (vs (eA64u8 r311.1) rfl rfl (fun _ => rfl) rfl rfl rfl rfl rfl rfl (vp (.bool r311.2) rfl (nx ⟨[(0, (i6 a0)), (4, (ow 4)), (5, (ow 5)), (6, (ow 6)), (7, (ow 7)), (8, (ow 8)), (9, (ow 9)), (10, (ow 10)), (11, (ow 11)), (12, (ow 12)), (14, (ow 14)), (15, (ow 15)), (17, (ow 17))], [(4, (bk (eA64u8 x233))), (5, (bk (eA64u8 x234))), (6, (bk (eA64u8 ((vrep 64 (0 : Int)))))), (7, (bk (eA64u8 ((vrep 64 (0 : Int)))))), (8, (bk (eA64u8 ((vrep 64 (0 : Int)))))), (9, (bk (eA64u8 x235))), (10, (bk (eA64u8 x236))), (11, (bk (eA64u8 x237))), (12, (bk (eA64u8 x238))), (14, (bk (eA64u8 r300.2))), (15, (bk (eA64u8 r306.1))), (17, (bk (eA64u8 r311.1)))]⟩ (by kernel_rfl) (a_seq (a_draw [⟨[], [], [], []⟩, ⟨[9], [], [], []⟩, ⟨[15], [], [], []⟩, ⟨[], [], [], [0, 1, 2]⟩, ⟨[], [], [], []⟩, ⟨[11], [], [], []⟩, ⟨[17], [], [], []⟩, ⟨[], [], [], [0, 1, 2, 3, 4, 5, 6]⟩, ⟨[2900], [2900], [2900], []⟩, ⟨[3000], [3000], [3000], []⟩, ⟨[2900], [2900], [], [0, 1, 2, 3, 4, 5, 6, 7, 8, 9]⟩, ⟨[3000], [3000], [], [0, 1, 2, 3, 4, 5, 6, 7, 8, 9, 10]⟩] (by kernel_rfl) ?_)))))))))
      refine dp (i6 a0) rfl (by kernel_rfl) (d_cons (vl (eA64u8 x235) rfl rfl rfl rfl rfl rfl (d_next (by kernel_rfl) (d_cons (vl (eA64u8 r306.1) rfl rfl rfl rfl rfl rfl (d_next (by kernel_rfl) (d_cons ?_)))))))
      obtain ⟨r326, hr327, h⟩ := bind_some h
      refine a_call (args := [(i6 a0), (eA64u8 x235), (eA64u8 r306.1), (i6 (-1))]) (u := []) (r := (eA64u8 r326)) rfl rfl (spec_l01Add_ok a0 x235 r306.1 (-1) r326 hr327) rfl (d_next (by kernel_rfl) (dp (i6 a0) rfl (by kernel_rfl) (d_cons (vl (eA64u8 x237) rfl rfl rfl rfl rfl rfl (d_next (by kernel_rfl) (d_cons (vl (eA64u8 r311.1) rfl rfl rfl rfl rfl rfl (d_next (by kernel_rfl) (d_cons ?_)))))))))
      obtain ⟨r330, hr331, h⟩ := bind_some h
      refine a_call (args := [(i6 a0), (eA64u8 x237), (eA64u8 r311.1), (i6 (-1))]) (u := []) (r := (eA64u8 r330)) rfl rfl (spec_l01Add_ok a0 x237 r311.1 (-1) r330 hr331) rfl (d_next (by kernel_rfl) (d_cons (vo 2900 (eA64u8 ((vrep 64 (0 : Int)))) rfl rfl (d_next (by kernel_rfl) (d_cons (vo 3000 (eA64u8 ((vrep 64 (0 : Int)))) rfl rfl (d_next (by kernel_rfl) (d_cons (vs (eA64u8 r326) rfl rfl (fun _ => rfl) rfl rfl rfl rfl rfl rfl ?_)))))))))
      refine d_next (by kernel_rfl) (d_cons (vs (eA64u8 r330) rfl rfl (fun _ => rfl) rfl rfl rfl rfl rfl rfl (d_next (by kernel_rfl) (d_nil (a_next (σ' := ⟨[(0, (i6 a0)), (4, (ow 4)), (5, (ow 5)), (6, (ow 6)), (7, (ow 7)), (8, (ow 8)), (9, (ow 9)), (10, (ow 10)), (11, (ow 11)), (12, (ow 12)), (14, (ow 14)), (19, (ow 19)), (20, (ow 20))], [(4, (bk (eA64u8 x233))), (5, (bk (eA64u8 x234))), (6, (bk (eA64u8 ((vrep 64 (0 : Int)))))), (7, (bk (eA64u8 ((vrep 64 (0 : Int)))))), (8, (bk (eA64u8 ((vrep 64 (0 : Int)))))), (9, (bk (eA64u8 x235))), (10, (bk (eA64u8 x236))), (11, (bk (eA64u8 x237))), (12, (bk (eA64u8 x238))), (14, (bk (eA64u8 r300.2))), (19, (bk (eA64u8 r326))), (20, (bk (eA64u8 r330)))]⟩) (by kernel_rfl) (sr (vl (eA64u8 x234) rfl rfl rfl rfl rfl rfl (vs (eA64u8 x234) rfl rfl (fun _ => rfl) rfl rfl rfl rfl rfl rfl (nx ⟨[(0, (i6 a0)), (4, (ow 4)), (5, (ow 5)), (6, (ow 6)), (7, (ow 7)), (8, (ow 8)), (9, (ow 9)), (10, (ow 10)), (11, (ow 11)), (12, (ow 12)), (14, (ow 14)), (19, (ow 19)), (20, (ow 20))], [(4, (bk (eA64u8 x234))), (5, (bk (eA64u8 x234))), (6, (bk (eA64u8 ((vrep 64 (0 : Int)))))), (7, (bk (eA64u8 ((vrep 64 (0 : Int)))))), (8, (bk (eA64u8 ((vrep 64 (0 : Int)))))), (9, (bk (eA64u8 x235))), (10, (bk (eA64u8 x236))), (11, (bk (eA64u8 x237))), (12, (bk (eA64u8 x238))), (14, (bk (eA64u8 r300.2))), (19, (bk (eA64u8 r326))), (20, (bk (eA64u8 r330)))]⟩ (by kernel_rfl) ?_)))))))))
      refine sr (vl (eA64u8 r300.2) rfl rfl rfl rfl rfl rfl (vs (eA64u8 r300.2) rfl rfl (fun _ => rfl) rfl rfl rfl rfl rfl rfl (nx ⟨[(0, (i6 a0)), (4, (ow 4)), (5, (ow 5)), (6, (ow 6)), (7, (ow 7)), (8, (ow 8)), (9, (ow 9)), (10, (ow 10)), (11, (ow 11)), (12, (ow 12)), (19, (ow 19)), (20, (ow 20))], [(4, (bk (eA64u8 x234))), (5, (bk (eA64u8 r300.2))), (6, (bk (eA64u8 ((vrep 64 (0 : Int)))))), (7, (bk (eA64u8 ((vrep 64 (0 : Int)))))), (8, (bk (eA64u8 ((vrep 64 (0 : Int)))))), (9, (bk (eA64u8 x235))), (10, (bk (eA64u8 x236))), (11, (bk (eA64u8 x237))), (12, (bk (eA64u8 x238))), (19, (bk (eA64u8 r326))), (20, (bk (eA64u8 r330)))]⟩ (by kernel_rfl) (sr (vl (eA64u8 x236) rfl rfl rfl rfl rfl rfl (vs (eA64u8 x236) rfl rfl (fun _ => rfl) rfl rfl rfl rfl rfl rfl (nx ⟨[(0, (i6 a0)), (4, (ow 4)), (5, (ow 5)), (6, (ow 6)), (7, (ow 7)), (8, (ow 8)), (9, (ow 9)), (10, (ow 10)), (11, (ow 11)), (12, (ow 12)), (19, (ow 19)), (20, (ow 20))], [(4, (bk (eA64u8 x234))), (5, (bk (eA64u8 r300.2))), (6, (bk (eA64u8 ((vrep 64 (0 : Int)))))), (7, (bk (eA64u8 ((vrep 64 (0 : Int)))))), (8, (bk (eA64u8 ((vrep 64 (0 : Int)))))), (9, (bk (eA64u8 x236))), (10, (bk (eA64u8 x236))), (11, (bk (eA64u8 x237))), (12, (bk (eA64u8 x238))), (19, (bk (eA64u8 r326))), (20, (bk (eA64u8 r330)))]⟩ (by kernel_rfl) (sr (vl (eA64u8 x238) rfl rfl rfl rfl rfl rfl ?_)))))))))
      refine vs (eA64u8 x238) rfl rfl (fun _ => rfl) rfl rfl rfl rfl rfl rfl (nx ⟨[(0, (i6 a0)), (4, (ow 4)), (5, (ow 5)), (6, (ow 6)), (7, (ow 7)), (8, (ow 8)), (9, (ow 9)), (10, (ow 10)), (11, (ow 11)), (12, (ow 12)), (19, (ow 19)), (20, (ow 20))], [(4, (bk (eA64u8 x234))), (5, (bk (eA64u8 r300.2))), (6, (bk (eA64u8 ((vrep 64 (0 : Int)))))), (7, (bk (eA64u8 ((vrep 64 (0 : Int)))))), (8, (bk (eA64u8 ((vrep 64 (0 : Int)))))), (9, (bk (eA64u8 x236))), (10, (bk (eA64u8 x236))), (11, (bk (eA64u8 x238))), (12, (bk (eA64u8 x238))), (19, (bk (eA64u8 r326))), (20, (bk (eA64u8 r330)))]⟩ (by kernel_rfl) (sr (vl (eA64u8 r326) rfl rfl rfl rfl rfl rfl (vs (eA64u8 r326) rfl rfl (fun _ => rfl) rfl rfl rfl rfl rfl rfl (nx ⟨[(0, (i6 a0)), (4, (ow 4)), (5, (ow 5)), (6, (ow 6)), (7, (ow 7)), (8, (ow 8)), (9, (ow 9)), (10, (ow 10)), (11, (ow 11)), (12, (ow 12)), (20, (ow 20))], [(4, (bk (eA64u8 x234))), (5, (bk (eA64u8 r300.2))), (6, (bk (eA64u8 ((vrep 64 (0 : Int)))))), (7, (bk (eA64u8 ((vrep 64 (0 : Int)))))), (8, (bk (eA64u8 ((vrep 64 (0 : Int)))))), (9, (bk (eA64u8 x236))), (10, (bk (eA64u8 r326))), (11, (bk (eA64u8 x238))), (12, (bk (eA64u8 x238))), (20, (bk (eA64u8 r330)))]⟩ (by kernel_rfl) (a_region (vl (eA64u8 r330) rfl rfl rfl rfl rfl rfl (vs (eA64u8 r330) rfl rfl (fun _ => rfl) rfl rfl rfl rfl rfl rfl (a_nil ?_)))))))))
      refine b_norm ?_
      cases h
      exact a_again (by kernel_rfl) hX293
def spec_l01Gcd_c : ACode := (.seq (.region 0 [q 4 (.box 26 (t 1)), q 5 (.box 26 (t 2)), q 6 (.alloc 26)] false) (.seq (.seq (.region 1 [q 10 (.load 26 (t 4)), q 11 (.call 0 (.func 75) [(t 10)]), q 12 (.bin .lss 2 (t 11) (.const (.int .i64 0))), q 13 (.mov (t 12)), ⟨some 14, .load 26 (t 5), some (13, true), []⟩, ⟨some 15, .call 0 (.func 75) [(t 14)], some (13, true), []⟩, ⟨some 16, .bin .lss 2 (t 15) (.const (.int .i64 0)), some (13, true), []⟩, q 17 (.pick (t 13) (t 16) (.const (.bool false)))] false) (.cond (t 17) (.seq (.region 2 [q 18 (.build 26 []), ⟨none, .store 26 (t 6) (t 18), none, []⟩] false) .ret) .skip)) (.seq (.region 3 [q 20 (.mov (t 0)), q 21 (.load 26 (t 4)), q 22 (.load 26 (t 5)), q 23 (.call 0 (.func 163) [(t 20), (t 21), (t 22)]), q 19 (.mov (t 23)), q 24 (.extract (t 19) 0), q 25 (.extract (t 19) 1), q 26 (.extract (t 19) 2), q 7 (.alloc 26), q 8 (.alloc 26), q 9 (.alloc 26), ⟨none, .store 26 (t 7) (t 24), none, []⟩, ⟨none, .store 26 (t 8) (t 25), none, []⟩, ⟨none, .store 26 (t 9) (t 26), none, []⟩] false) (.seq (.region 4 [q 27 (.load 26 (t 7)), ⟨none, .store 26 (t 6) (t 27), none, []⟩] false) .ret))))
def spec_l01Gcd_L : Live := [(0, [0, 1, 2]), (1, [0, 4, 5, 6]), (2, [6]), (3, [0, 4, 5, 6]), (4, [6, 7]), (100017, [0, 4, 5, 6, 17])]
noncomputable def spec_l01Gcd (a0 : Int) (a1 : (Vec Int 64)) (a2 : (Vec Int 64)) : Option (Vec Int 64) :=
  (Option.bind (α := Bool) ((Option.bind (spec_l01Deg a1) fun r13 => (if (decide (r13 < 0)) then (Option.bind (spec_l01Deg a2) fun r17 => (some ((decide (r17 < 0))))) else (some false)))) fun x8 => (if x8 then (some ((vrep 64 (0 : Int)))) else (Option.bind (spec_l01Bezout a0 a1 a2) fun r22 => (some r22.1))))
theorem spec_l01Gcd_ok (a0 : Int) (a1 : (Vec Int 64)) (a2 : (Vec Int 64)) (r : (Vec Int 64)) (h : spec_l01Gcd a0 a1 a2 = some r) : Den Try.prog 119 [(i6 a0), (eA64u8 a1), (eA64u8 a2)] { r := (eA64u8 r) } := by
  refine den_of (rs := [(eA64u8 r)]) (ac := spec_l01Gcd_c) (L := spec_l01Gcd_L) (n := 28) (m := []) (c := Try.f119.body.getD .skip) good Try.func119 (by kernel_rfl) (by kernel_rfl) Try.ntmps119 rfl rfl (by kernel_rfl) rfl rfl ?_
  refine a_st (σ' := ⟨[(0, (i6 a0)), (1, (eA64u8 a1)), (2, (eA64u8 a2))], []⟩) (by kernel_rfl) ?_
  unfold spec_l01Gcd_c
  refine sr (vo 1400 (eA64u8 a1) rfl rfl (vo 1500 (eA64u8 a2) rfl rfl (vo 1600 (eA64u8 ((vrep 64 (0 : Int)))) rfl rfl (nx ⟨[(0, (i6 a0)), (4, (ow 4)), (5, (ow 5)), (6, (ow 6))], [(4, (bk (eA64u8 a1))), (5, (bk (eA64u8 a2))), (6, (bk (eA64u8 ((vrep 64 (0 : Int))))))]⟩ (by kernel_rfl) (a_seq ?_)))))
  obtain ⟨y9, hy10, hk11⟩ := bind_some h
  clear h
  refine a_join (emb := fun (s : Bool) => ⟨[(0, (i6 a0)), (4, (ow 4)), (5, (ow 5)), (6, (ow 6)), (17, (.bool s))], [(4, (bk (eA64u8 a1))), (5, (bk (eA64u8 a2))), (6, (bk (eA64u8 ((vrep 64 (0 : Int))))))]⟩) (pre := fun s => s = y9) ?_ ?_
  · rintro x8 rfl
    have h := hk11
    refine a_st (σ' := ⟨[(0, (i6 a0)), (4, (ow 4)), (5, (ow 5)), (6, (ow 6)), (17, (.bool x8))], [(4, (bk (eA64u8 a1))), (5, (bk (eA64u8 a2))), (6, (bk (eA64u8 ((vrep 64 (0 : Int))))))]⟩) (by kernel_rfl) ?_
    cases hb19 : x8
    · have h := ite_f hb19 h
      refine a_cond_f rfl (a_skip (a_next (σ' := ⟨[(0, (i6 a0)), (4, (ow 4)), (5, (ow 5)), (6, (ow 6))], [(4, (bk (eA64u8 a1))), (5, (bk (eA64u8 a2))), (6, (bk (eA64u8 ((vrep 64 (0 : Int))))))]⟩) (by kernel_rfl) (sr (vp (i6 a0) rfl (vl (eA64u8 a1) rfl rfl rfl rfl rfl rfl (vl (eA64u8 a2) rfl rfl rfl rfl rfl rfl ?_))))))
      obtain ⟨r22, hr23, h⟩ := bind_some h
      refine a_call (args := [(i6 a0), (eA64u8 a1), (eA64u8 a2)]) (u := []) (r := (.tuple [(eA64u8 r22.1), (eA64u8 r22.2.1), (eA64u8 r22.2.2)])) rfl rfl (spec_l01Bezout_ok a0 a1 a2 r22 hr23) rfl (vp (.tuple [(eA64u8 r22.1), (eA64u8 r22.2.1), (eA64u8 r22.2.2)]) rfl (vb (eA64u8 r22.1) rfl rfl (vb (eA64u8 r22.2.1) rfl rfl (vb (eA64u8 r22.2.2) rfl rfl (vo 1700 (eA64u8 ((vrep 64 (0 : Int)))) rfl rfl (vo 1800 (eA64u8 ((vrep 64 (0 : Int)))) rfl rfl (vo 1900 (eA64u8 ((vrep 64 (0 : Int)))) rfl rfl (vs (eA64u8 r22.1) rfl rfl (fun _ => rfl) rfl rfl rfl rfl rfl rfl (vs (eA64u8 r22.2.1) rfl rfl (fun _ => rfl) rfl rfl rfl rfl rfl rfl ?_)))))))))
      refine vs (eA64u8 r22.2.2) rfl rfl (fun _ => rfl) rfl rfl rfl rfl rfl rfl (nx ⟨[(6, (ow 6)), (7, (ow 7))], [(6, (bk (eA64u8 ((vrep 64 (0 : Int)))))), (7, (bk (eA64u8 r22.1)))]⟩ (by kernel_rfl) (sr (vl (eA64u8 r22.1) rfl rfl rfl rfl rfl rfl (vs (eA64u8 r22.1) rfl rfl (fun _ => rfl) rfl rfl rfl rfl rfl rfl (nx _ rfl (a_ret ?_))))))
      have hl29 : LdOk [] (eA64u8 r22.1) [] 64 true (eA64u8 r22.1) := (.nil rfl rfl rfl)
      refine ⟨.inr rfl, ?_⟩
      rw [Try.results119]
      cases h
      exact ⟨_, _, _, _, _, ld_own (i := ⟨.arr 64 5, 64, 64, (eA64u8 (vrep 64 (0 : Int)))⟩) rfl rfl rfl hl29, hl29.c, .inl ⟨rfl, .inl rfl⟩, rfl, rfl⟩
    · have h := ite_t hb19 h
      refine a_cond_t rfl (sr (vq (eA64u8 ((vrep 64 (0 : Int)))) rfl ⟨⟨_, rfl, rfl⟩, all_nil⟩ (vs (eA64u8 ((vrep 64 (0 : Int)))) rfl rfl (fun _ => rfl) rfl rfl rfl rfl rfl rfl (nx _ rfl (a_ret (t_ret ?_))))))
      have hl31 : LdOk [] (eA64u8 ((vrep 64 (0 : Int)))) [] 64 true (eA64u8 ((vrep 64 (0 : Int)))) := (.nil rfl rfl rfl)
      refine ⟨.inr rfl, ?_⟩
      rw [Try.results119]
      cases h
      exact ⟨_, _, _, _, _, ld_own (i := ⟨.arr 64 5, 64, 64, (eA64u8 (vrep 64 (0 : Int)))⟩) rfl rfl rfl hl31, hl31.c, .inl ⟨rfl, .inl rfl⟩, rfl, rfl⟩
  · have h := hy10
    refine a_region (vl (eA64u8 a1) rfl rfl rfl rfl rfl rfl ?_)
    obtain ⟨r13, hr14, h⟩ := bind_some h
    refine a_call (args := [(eA64u8 a1)]) (u := []) (r := (i6 r13)) rfl rfl (spec_l01Deg_ok a1 r13 hr14) rfl (vp (.bool ((decide (r13 < 0)))) rfl (vp (.bool ((decide (r13 < 0)))) rfl ?_))
    cases hb15 : (decide (r13 < 0))
    · have h := ite_f hb15 h
      refine a_gskip rfl (a_gskip rfl (a_gskip rfl (vp (.bool false) rfl (a_nil ?_))))
      exact j_leaf false (Option.some.inj h) (by kernel_rfl)
    · have h := ite_t hb15 h
      have hl16 : LdOk [] (eA64u8 a2) [] 64 true (eA64u8 a2) := (.nil rfl rfl rfl)
      refine gq (eA64u8 a2) rfl (ld_own (i := ⟨.arr 64 5, 64, 64, (eA64u8 (vrep 64 (0 : Int)))⟩) rfl rfl rfl hl16) hl16.c ?_
      obtain ⟨r17, hr18, h⟩ := bind_some h
      refine a_gcall rfl (args := [(eA64u8 a2)]) (u := []) (r := (i6 r17)) rfl rfl (spec_l01Deg_ok a2 r17 hr18) rfl (gp (.bool ((decide (r17 < 0)))) rfl rfl (vp (.bool ((decide (r17 < 0)))) rfl (a_nil ?_)))
      exact j_leaf ((decide (r17 < 0))) (Option.some.inj h) (by kernel_rfl)
def spec_l07Is_c : ACode := (.seq (.region 0 [q 3 (.box 26 (t 1)), q 4 (.asg 0 (.const (.bool false)) 4)] false) (.seq (.seq (.region 1 [q 8 (.mov (t 0)), q 9 (.load 26 (t 3)), q 10 (.call 0 (.func 117) [(t 8), (t 9)]), q 11 (.un .not (t 10)), q 12 (.mov (t 11)), ⟨some 13, .mov (t 0), some (12, false), []⟩, ⟨some 14, .bin .eql 2 (t 13) (.const (.int .i64 2)), some (12, false), []⟩, q 15 (.pick (t 12) (.const (.bool true)) (t 14))] false) (.cond (t 15) (.seq (.region 2 [q 4 (.asg 0 (.const (.bool false)) 4)] false) .ret) .skip)) (.seq (.region 3 [q 16 (.load 26 (t 3)), q 17 (.call 0 (.func 75) [(t 16)]), q 5 (.asg 0 (t 17) 2)] false) (.seq (.seq (.region 4 [q 18 (.mov (t 5)), q 19 (.bin .neq 2 (t 18) (.const (.int .i64 1))), q 20 (.mov (t 19)), ⟨some 21, .mov (t 5), some (20, true), []⟩, ⟨some 22, .bin .neq 2 (t 21) (.const (.int .i64 3)), some (20, true), []⟩, q 23 (.pick (t 20) (t 22) (.const (.bool false))), q 24 (.mov (t 23)), ⟨some 25, .mov (t 5), some (24, true), []⟩, ⟨some 26, .bin .neq 2 (t 25) (.const (.int .i64 5)), some (24, true), []⟩, q 27 (.pick (t 24) (t 26) (.const (.bool false)))] false) (.cond (t 27) (.seq (.region 5 [q 4 (.asg 0 (.const (.bool false)) 4)] false) .ret) .skip)) (.seq (.region 6 [q 29 (.mov (t 0)), q 30 (.load 26 (t 3)), q 31 (.call 0 (.func 118) [(t 29), (t 30)]), q 28 (.mov (t 31)), q 32 (.extract (t 28) 0), q 33 (.extract (t 28) 1), q 6 (.alloc 26), ⟨none, .store 26 (t 6) (t 32), none, []⟩, q 7 (.asg 0 (t 33) 2)] false) (.seq (.region 7 [q 34 (.mov (t 0)), q 35 (.load 26 (t 3)), q 36 (.load 26 (t 6)), q 37 (.call 0 (.func 119) [(t 34), (t 35), (t 36)]), q 38 (.call 0 (.func 75) [(t 37)]), q 39 (.bin .eql 2 (t 38) (.const (.int .i64 0))), q 4 (.asg 0 (t 39) 4)] false) .ret))))))
def spec_l07Is_L : Live := [(0, [0, 1]), (1, [0, 3]), (2, []), (3, [0, 3]), (4, [0, 3, 5]), (5, []), (6, [0, 3]), (7, [0, 3, 6]), (100015, [0, 3, 15]), (100027, [0, 3, 27])]
noncomputable def spec_l07Is (a0 : Int) (a1 : (Vec Int 64)) : Option Bool :=
  (Option.bind (α := Bool) ((Option.bind (spec_l01Is a0 a1) fun r10 => (if (!r10) then (some true) else (some (a0 == 2))))) fun x5 => (if x5 then (some false) else (Option.bind (spec_l01Deg a1) fun r15 => (Option.bind (α := Bool) ((if (r15 != 1) then (if (r15 != 3) then (some (r15 != 5)) else (some false)) else (some false))) fun x19 => (if x19 then (some false) else (Option.bind (spec_DerivativeOf a0 a1) fun r27 => (Option.bind (spec_l01Gcd a0 a1 r27.1) fun r32 => (Option.bind (spec_l01Deg r32) fun r34 => (some (r34 == 0))))))))))
theorem spec_l07Is_ok (a0 : Int) (a1 : (Vec Int 64)) (r : Bool) (h : spec_l07Is a0 a1 = some r) : Den Try.prog 50 [(i6 a0), (eA64u8 a1)] { r := (.bool r) } := by
  refine den_of (rs := [(.bool r)]) (ac := spec_l07Is_c) (L := spec_l07Is_L) (n := 40) (m := []) (c := Try.f50.body.getD .skip) good Try.func50 (by kernel_rfl) (by kernel_rfl) Try.ntmps50 rfl rfl (by kernel_rfl) rfl rfl ?_
  refine a_st (σ' := ⟨[(0, (i6 a0)), (1, (eA64u8 a1))], []⟩) (by kernel_rfl) ?_
  unfold spec_l07Is_c
  refine sr (vo 1300 (eA64u8 a1) rfl rfl (vp (.bool false) rfl (nx ⟨[(0, (i6 a0)), (3, (ow 3))], [(3, (bk (eA64u8 a1)))]⟩ (by kernel_rfl) (a_seq ?_))))
  obtain ⟨y6, hy7, hk8⟩ := bind_some h
  clear h
  refine a_join (emb := fun (s : Bool) => ⟨[(0, (i6 a0)), (3, (ow 3)), (15, (.bool s))], [(3, (bk (eA64u8 a1)))]⟩) (pre := fun s => s = y6) ?_ ?_
  · rintro x5 rfl
    have h := hk8
    refine a_st (σ' := ⟨[(0, (i6 a0)), (3, (ow 3)), (15, (.bool x5))], [(3, (bk (eA64u8 a1)))]⟩) (by kernel_rfl) ?_
    cases hb13 : x5
    · have h := ite_f hb13 h
      refine a_cond_f rfl (a_skip (a_next (σ' := ⟨[(0, (i6 a0)), (3, (ow 3))], [(3, (bk (eA64u8 a1)))]⟩) (by kernel_rfl) (sr (vl (eA64u8 a1) rfl rfl rfl rfl rfl rfl ?_))))
      obtain ⟨r15, hr16, h⟩ := bind_some h
      refine a_call (args := [(eA64u8 a1)]) (u := []) (r := (i6 r15)) rfl rfl (spec_l01Deg_ok a1 r15 hr16) rfl (vp (i6 r15) rfl (nx ⟨[(0, (i6 a0)), (3, (ow 3)), (5, (i6 r15))], [(3, (bk (eA64u8 a1)))]⟩ (by kernel_rfl) (a_seq ?_)))
      obtain ⟨y20, hy21, hk22⟩ := bind_some h
      clear h
      refine a_join (emb := fun (s : Bool) => ⟨[(0, (i6 a0)), (3, (ow 3)), (27, (.bool s))], [(3, (bk (eA64u8 a1)))]⟩) (pre := fun s => s = y20) ?_ ?_
      · rintro x19 rfl
        have h := hk22
        refine a_st (σ' := ⟨[(0, (i6 a0)), (3, (ow 3)), (27, (.bool x19))], [(3, (bk (eA64u8 a1)))]⟩) (by kernel_rfl) ?_
        cases hb25 : x19
        · have h := ite_f hb25 h
          refine a_cond_f rfl (a_skip (a_next (σ' := ⟨[(0, (i6 a0)), (3, (ow 3))], [(3, (bk (eA64u8 a1)))]⟩) (by kernel_rfl) (sr (vp (i6 a0) rfl (vl (eA64u8 a1) rfl rfl rfl rfl rfl rfl ?_)))))
          obtain ⟨r27, hr28, h⟩ := bind_some h
          refine a_call (args := [(i6 a0), (eA64u8 a1)]) (u := []) (r := (.tuple [(eA64u8 r27.1), (i6 r27.2)])) rfl rfl (spec_DerivativeOf_ok a0 a1 r27 hr28) rfl (vp (.tuple [(eA64u8 r27.1), (i6 r27.2)]) rfl (vb (eA64u8 r27.1) rfl rfl (vb (i6 r27.2) rfl rfl (vo 1600 (eA64u8 ((vrep 64 (0 : Int)))) rfl rfl (vs (eA64u8 r27.1) rfl rfl (fun _ => rfl) rfl rfl rfl rfl rfl rfl (vp (i6 r27.2) rfl (nx ⟨[(0, (i6 a0)), (3, (ow 3)), (6, (ow 6))], [(3, (bk (eA64u8 a1))), (6, (bk (eA64u8 r27.1)))]⟩ (by kernel_rfl) (sr (vp (i6 a0) rfl ?_)))))))))
          refine vl (eA64u8 a1) rfl rfl rfl rfl rfl rfl (vl (eA64u8 r27.1) rfl rfl rfl rfl rfl rfl ?_)
          obtain ⟨r32, hr33, h⟩ := bind_some h
          refine a_call (args := [(i6 a0), (eA64u8 a1), (eA64u8 r27.1)]) (u := []) (r := (eA64u8 r32)) rfl rfl (spec_l01Gcd_ok a0 a1 r27.1 r32 hr33) rfl ?_
          obtain ⟨r34, hr35, h⟩ := bind_some h
          refine a_call (args := [(eA64u8 r32)]) (u := []) (r := (i6 r34)) rfl rfl (spec_l01Deg_ok r32 r34 hr35) rfl (vp (.bool (r34 == 0)) rfl (vp (.bool (r34 == 0)) rfl (nx _ rfl (a_ret ?_))))
          refine ⟨.inr rfl, ?_⟩
          rw [Try.results50]
          cases h
          exact ⟨_, _, _, _, _, rfl, trivial, .inl ⟨rfl, .inl rfl⟩, rfl, rfl⟩
        · have h := ite_t hb25 h
          refine a_cond_t rfl (sr (vp (.bool false) rfl (nx _ rfl (a_ret (t_ret ?_)))))
          refine ⟨.inr rfl, ?_⟩
          rw [Try.results50]
          cases h
          exact ⟨_, _, _, _, _, rfl, trivial, .inl ⟨rfl, .inl rfl⟩, rfl, rfl⟩
      · have h := hy21
        refine a_region (vp (i6 r15) rfl (vp (.bool (r15 != 1)) rfl (vp (.bool (r15 != 1)) rfl ?_)))
        cases hb23 : (r15 != 1)
        · have h := ite_f hb23 h
          refine a_gskip rfl (a_gskip rfl (vp (.bool false) rfl (vp (.bool false) rfl (a_gskip rfl (a_gskip rfl (vp (.bool false) rfl (a_nil ?_)))))))
          exact j_leaf false (Option.some.inj h) (by kernel_rfl)
        · have h := ite_t hb23 h
          refine gp (i6 r15) rfl rfl (gp (.bool (r15 != 3)) rfl rfl (vp (.bool (r15 != 3)) rfl (vp (.bool (r15 != 3)) rfl ?_)))
          cases hb24 : (r15 != 3)
          · have h := ite_f hb24 h
            refine a_gskip rfl (a_gskip rfl (vp (.bool false) rfl (a_nil ?_)))
            exact j_leaf false (Option.some.inj h) (by kernel_rfl)
          · have h := ite_t hb24 h
            refine gp (i6 r15) rfl rfl (gp (.bool (r15 != 5)) rfl rfl (vp (.bool (r15 != 5)) rfl (a_nil ?_)))
            exact j_leaf (r15 != 5) (Option.some.inj h) (by kernel_rfl)
    · have h := ite_t hb13 h
      refine a_cond_t rfl (sr (vp (.bool false) rfl (nx _ rfl (a_ret (t_ret ?_)))))
      refine ⟨.inr rfl, ?_⟩
      rw [Try.results50]
      cases h
      exact ⟨_, _, _, _, _, rfl, trivial, .inl ⟨rfl, .inl rfl⟩, rfl, rfl⟩
  · have h := hy7
    refine a_region (vp (i6 a0) rfl (vl (eA64u8 a1) rfl rfl rfl rfl rfl rfl ?_))
    obtain ⟨r10, hr11, h⟩ := bind_some h
    refine a_call (args := [(i6 a0), (eA64u8 a1)]) (u := []) (r := (.bool r10)) rfl rfl (spec_l01Is_ok a0 a1 r10 hr11) rfl (vp (.bool (!r10)) rfl (vp (.bool (!r10)) rfl ?_))
    cases hb12 : (!r10)
    · have h := ite_f hb12 h
      refine gp (i6 a0) rfl rfl (gp (.bool (a0 == 2)) rfl rfl (vp (.bool (a0 == 2)) rfl (a_nil ?_)))
      exact j_leaf (a0 == 2) (Option.some.inj h) (by kernel_rfl)
    · have h := ite_t hb12 h
      refine a_gskip rfl (a_gskip rfl (vp (.bool true) rfl (a_nil ?_)))
      exact j_leaf true (Option.some.inj h) (by kernel_rfl)
def spec_l07Genus_c : ACode := (.seq (.region 0 [q 1 (.box 26 (t 0)), q 2 (.asg 0 (.const (.int .i64 0)) 2)] false) (.seq (.region 1 [q 3 (.load 26 (t 1)), q 4 (.call 0 (.func 75) [(t 3)]), q 5 (.bin .sub 2 (t 4) (.const (.int .i64 1))), q 6 (.bin .quo 2 (t 5) (.const (.int .i64 2))), q 2 (.asg 0 (t 6) 2)] false) .ret))
def spec_l07Genus_L : Live := [(0, [0]), (1, [1])]
noncomputable def spec_l07Genus (a0 : (Vec Int 64)) : Option Int :=
  (Option.bind (spec_l01Deg a0) fun r2 => (some (IntKind.i64.wrap (Int.tdiv (IntKind.i64.wrap (r2 - 1)) 2))))
theorem spec_l07Genus_ok (a0 : (Vec Int 64)) (r : Int) (h : spec_l07Genus a0 = some r) : Den Try.prog 120 [(eA64u8 a0)] { r := (i6 r) } := by
  refine den_of (rs := [(i6 r)]) (ac := spec_l07Genus_c) (L := spec_l07Genus_L) (n := 7) (m := []) (c := Try.f120.body.getD .skip) good Try.func120 (by kernel_rfl) (by kernel_rfl) Try.ntmps120 rfl rfl (by kernel_rfl) rfl rfl ?_
  refine a_st (σ' := ⟨[(0, (eA64u8 a0))], []⟩) (by kernel_rfl) ?_
  unfold spec_l07Genus_c
  refine sr (vo 1100 (eA64u8 a0) rfl rfl (vp (i6 0) rfl (nx ⟨[(1, (ow 1))], [(1, (bk (eA64u8 a0)))]⟩ (by kernel_rfl) (sr (vl (eA64u8 a0) rfl rfl rfl rfl rfl rfl ?_)))))
  obtain ⟨r2, hr3, h⟩ := bind_some h
  refine a_call (args := [(eA64u8 a0)]) (u := []) (r := (i6 r2)) rfl rfl (spec_l01Deg_ok a0 r2 hr3) rfl (vp (i6 (IntKind.i64.wrap (r2 - 1))) rfl (vq (i6 (IntKind.i64.wrap (Int.tdiv (IntKind.i64.wrap (r2 - 1)) 2))) rfl (by decide) (vp (i6 (IntKind.i64.wrap (Int.tdiv (IntKind.i64.wrap (r2 - 1)) 2))) rfl (nx _ rfl (a_ret ?_)))))
  refine ⟨.inr rfl, ?_⟩
  rw [Try.results120]
  cases h
  exact ⟨_, _, _, _, _, rfl, trivial, .inl ⟨rfl, .inl rfl⟩, rfl, rfl⟩
def spec_l01Count_c : ACode := (.seq (.region 0 [q 4 (.asg 0 (.const (.int .i64 0)) 2)] false) (.seq (.region 1 [q 5 (.asg 0 (.const (.int .i64 1)) 2)] false) (.seq (.block 0 (.loop (.seq (.seq (.region 2 [q 6 (.mov (t 1)), q 7 (.bin .gtr 2 (t 6) (.const (.int .i64 0))), q 8 (.mov (t 7)), ⟨some 9, .mov (t 5), some (8, true), []⟩, ⟨some 10, .bin .leq 2 (t 9) (.const (.int .i64 1000000000000)), some (8, true), []⟩, q 11 (.pick (t 8) (t 10) (.const (.bool false)))] false) (.cond (t 11) .skip (.exit 0))) (.seq (.block 1 (.region 4 [q 14 (.mov (t 5)), q 15 (.mov (t 0)), q 16 (.bin .mul 2 (t 14) (t 15)), q 5 (.asg 0 (t 16) 2)] false)) (.region 3 [q 12 (.mov (t 1)), q 13 (.bin .sub 2 (t 12) (.const (.int .i64 1))), q 1 (.asg 0 (t 13) 2)] false))))) (.seq (.region 5 [q 17 (.mov (t 5)), q 18 (.blt 0 .min [(t 17), (.const (.int .i64 1000000000001))] [2, 2]), q 4 (.asg 0 (t 18) 2)] false) .ret))))
def spec_l01Count_L : Live := [(0, [0, 1]), (1, [0, 1]), (2, [0, 1, 5]), (3, [0, 1, 5]), (4, [0, 1, 5]), (5, [5]), (100011, [0, 1, 5, 11])]
noncomputable def spec_l01Count_l1 (a0 : Int) (x39 : Int) (x40 : Int) : Option ((Int × Int) ⊕ Int) :=
  (Option.bind (α := Bool) ((if (decide (x39 > 0)) then (some ((decide (x40 ≤ 1000000000000)))) else (some false))) fun x52 => (if x52 then (some (.inl ((IntKind.i64.wrap (x39 - 1), IntKind.i64.wrap (x40 * a0))))) else (some (.inr x40))))
noncomputable def spec_l01Count (a0 : Int) (a1 : Int) : Option Int :=
  (Option.bind (α := Int) ((loopM (fun s : (Int × Int) => spec_l01Count_l1 a0 s.1 s.2) (a1, 1))) fun x28 => (some (if 1000000000001 < x28 then 1000000000001 else x28)))
theorem spec_l01Count_ok (a0 : Int) (a1 : Int) (r : Int) (h : spec_l01Count a0 a1 = some r) : Den Try.prog 104 [(i6 a0), (i6 a1)] { r := (i6 r) } := by
  refine den_of (rs := [(i6 r)]) (ac := spec_l01Count_c) (L := spec_l01Count_L) (n := 19) (m := []) (c := Try.f104.body.getD .skip) good Try.func104 (by kernel_rfl) (by kernel_rfl) Try.ntmps104 rfl rfl (by kernel_rfl) rfl rfl ?_
  refine a_st (σ' := ⟨[(0, (i6 a0)), (1, (i6 a1))], []⟩) (by kernel_rfl) ?_
  unfold spec_l01Count_c
  refine sr (vp (i6 0) rfl (nx ⟨[(0, (i6 a0)), (1, (i6 a1))], []⟩ (by kernel_rfl) (sr (vp (i6 1) rfl (nx ⟨[(0, (i6 a0)), (1, (i6 a1)), (5, (i6 1))], []⟩ (by kernel_rfl) ?_)))))
  obtain ⟨y29, hy30, hk31⟩ := bind_some h
  clear h
  refine a_join (emb := fun (s : Int) => ⟨[(5, (i6 s))], []⟩) (pre := fun s => s = y29) ?_ ?_
  · rintro x28 rfl
    have h := hk31
    refine a_st (σ' := ⟨[(5, (i6 x28))], []⟩) (by kernel_rfl) (sr (vp (i6 x28) rfl (vp (i6 (if 1000000000001 < x28 then 1000000000001 else x28)) rfl (vp (i6 (if 1000000000001 < x28 then 1000000000001 else x28)) rfl (nx _ rfl (a_ret ?_))))))
    refine ⟨.inr rfl, ?_⟩
    rw [Try.results104]
    cases h
    exact ⟨_, _, _, _, _, rfl, trivial, .inl ⟨rfl, .inl rfl⟩, rfl, rfl⟩
  · have h := hy30
    refine a_block ?_
    refine a_loop (emb := fun (s : (Int × Int)) => ⟨[(0, (i6 a0)), (1, (i6 s.1)), (5, (i6 s.2))], []⟩) (body := (fun s : (Int × Int) => spec_l01Count_l1 a0 s.1 s.2)) (G := fun q => some q = some y29) h rfl ?_ (by kernel_rfl)
    rintro X48 ⟨x39, x40⟩ x49 h hX50
    have h : spec_l01Count_l1 a0 x39 x40 = some x49 := h
    refine a_st (σ' := ⟨[(0, (i6 a0)), (1, (i6 x39)), (5, (i6 x40))], []⟩) (by kernel_rfl) (a_seq ?_)
    obtain ⟨y53, hy54, hk55⟩ := bind_some h
    clear h
    refine a_join (emb := fun (s : Bool) => ⟨[(0, (i6 a0)), (1, (i6 x39)), (5, (i6 x40)), (11, (.bool s))], []⟩) (pre := fun s => s = y53) ?_ ?_
    · rintro x52 rfl
      have h := hk55
      refine a_st (σ' := ⟨[(0, (i6 a0)), (1, (i6 x39)), (5, (i6 x40)), (11, (.bool x52))], []⟩) (by kernel_rfl) ?_
      cases hb57 : x52
      · have h := ite_f hb57 h
        refine a_cond_f rfl (a_exit (t_exit ?_))
        cases h
        have h := hX50
        refine t_exit (b_exit ?_)
        exact j_leaf x40 (Option.some.inj h) (by kernel_rfl)
      · have h := ite_t hb57 h
        refine a_cond_t rfl (a_skip (a_next (σ' := ⟨[(0, (i6 a0)), (1, (i6 x39)), (5, (i6 x40))], []⟩) (by kernel_rfl) (a_seq (a_block (a_region (vp (i6 x40) rfl (vp (i6 a0) rfl (vp (i6 (IntKind.i64.wrap (x40 * a0))) rfl (vp (i6 (IntKind.i64.wrap (x40 * a0))) rfl ?_)))))))))
        refine a_nil (b_norm (a_next (σ' := ⟨[(0, (i6 a0)), (1, (i6 x39)), (5, (i6 (IntKind.i64.wrap (x40 * a0))))], []⟩) (by kernel_rfl) (a_region (vp (i6 x39) rfl (vp (i6 (IntKind.i64.wrap (x39 - 1))) rfl (vp (i6 (IntKind.i64.wrap (x39 - 1))) rfl (a_nil ?_)))))))
        cases h
        exact a_again (by kernel_rfl) hX50
    · have h := hy54
      refine a_region (vp (i6 x39) rfl (vp (.bool ((decide (x39 > 0)))) rfl (vp (.bool ((decide (x39 > 0)))) rfl ?_)))
      cases hb56 : (decide (x39 > 0))
      · have h := ite_f hb56 h
        refine a_gskip rfl (a_gskip rfl (vp (.bool false) rfl (a_nil ?_)))
        exact j_leaf false (Option.some.inj h) (by kernel_rfl)
      · have h := ite_t hb56 h
        refine gp (i6 x40) rfl rfl (gp (.bool ((decide (x40 ≤ 1000000000000)))) rfl rfl (vp (.bool ((decide (x40 ≤ 1000000000000)))) rfl (a_nil ?_)))
        exact j_leaf ((decide (x40 ≤ 1000000000000))) (Option.some.inj h) (by kernel_rfl)
def spec_l01Of_c : ACode := (.seq (.region 0 [q 4 (.alloc 26)] false) (.seq (.region 1 [q 7 (.build 26 []), q 5 (.alloc 26), ⟨none, .store 26 (t 5) (t 7), none, []⟩] false) (.seq (.seq (.region 2 [q 6 (.asg 0 (.const (.int .i64 0)) 3)] false) (.block 0 (.loop (.seq (.seq (.region 3 [q 8 (.mov (t 1)), q 9 (.bin .gtr 2 (t 8) (.const (.int .i64 0)))] false) (.cond (t 9) .skip (.exit 0))) (.seq (.block 1 (.seq (.region 5 [q 12 (.mov (t 6)), q 13 (.mov (t 1)), q 14 (.mov (t 0)), q 15 (.bin .rem 2 (t 13) (t 14)), q 16 (.conv 2 5 (t 15)), q 17 (.indexAddr 26 (t 5) (t 12)), ⟨none, .store 5 (t 17) (t 16), none, []⟩] false) (.region 6 [q 18 (.mov (t 1)), q 19 (.mov (t 0)), q 20 (.bin .quo 2 (t 18) (t 19)), q 1 (.asg 0 (t 20) 2)] false))) (.region 4 [q 10 (.mov (t 6)), q 11 (.bin .add 3 (t 10) (.const (.int .i64 1))), q 6 (.asg 0 (t 11) 3)] false)))))) (.seq (.region 7 [q 21 (.load 26 (t 5)), ⟨none, .store 26 (t 4) (t 21), none, []⟩] false) .ret))))
def spec_l01Of_L : Live := [(0, [0, 1]), (1, [0, 1, 4]), (2, [0, 1, 4, 5]), (3, [0, 1, 4, 5, 6]), (4, [0, 1, 4, 5, 6]), (5, [0, 1, 4, 5, 6]), (6, [0, 1, 4, 5, 6]), (7, [4, 5]), (100009, [0, 1, 4, 5, 6, 9])]
noncomputable def spec_l01Of_l1 (a0 : Int) (x33 : Int) (x34 : Int) (x35 : (Vec Int 64)) : Option ((Int × Int × (Vec Int 64)) ⊕ (Vec Int 64)) :=
  (if (decide (x33 > 0)) then (ifp (a0 ≠ 0) ((ifp (0 ≤ x34 ∧ x34 < ((64 : Nat) : Int)) ((ifp (a0 ≠ 0) ((some (.inl ((IntKind.i64.wrap (Int.tdiv x33 a0), IntKind.i64.wrap (x34 + 1), (vset x35 x34.toNat (IntKind.u8.wrap (Int.tmod x33 a0))))))))))))) else (some (.inr x35)))
noncomputable def spec_l01Of (a0 : Int) (a1 : Int) : Option (Vec Int 64) :=
  (Option.bind (α := (Vec Int 64)) ((loopM (fun s : (Int × Int × (Vec Int 64)) => spec_l01Of_l1 a0 s.1 s.2.1 s.2.2) (a1, 0, (vrep 64 (0 : Int))))) fun x24 => (some x24))
theorem spec_l01Of_ok (a0 : Int) (a1 : Int) (r : (Vec Int 64)) (h : spec_l01Of a0 a1 = some r) : Den Try.prog 76 [(i6 a0), (i6 a1)] { r := (eA64u8 r) } := by
  refine den_of (rs := [(eA64u8 r)]) (ac := spec_l01Of_c) (L := spec_l01Of_L) (n := 22) (m := []) (c := Try.f76.body.getD .skip) good Try.func76 (by kernel_rfl) (by kernel_rfl) Try.ntmps76 rfl rfl (by kernel_rfl) rfl rfl ?_
  refine a_st (σ' := ⟨[(0, (i6 a0)), (1, (i6 a1))], []⟩) (by kernel_rfl) ?_
  unfold spec_l01Of_c
  refine sr (vo 1400 (eA64u8 ((vrep 64 (0 : Int)))) rfl rfl (nx ⟨[(0, (i6 a0)), (1, (i6 a1)), (4, (ow 4))], [(4, (bk (eA64u8 ((vrep 64 (0 : Int))))))]⟩ (by kernel_rfl) (sr (vq (eA64u8 ((vrep 64 (0 : Int)))) rfl ⟨⟨_, rfl, rfl⟩, all_nil⟩ (vo 1500 (eA64u8 ((vrep 64 (0 : Int)))) rfl rfl (vs (eA64u8 ((vrep 64 (0 : Int)))) rfl rfl (fun _ => rfl) rfl rfl rfl rfl rfl rfl (nx ⟨[(0, (i6 a0)), (1, (i6 a1)), (4, (ow 4)), (5, (ow 5))], [(4, (bk (eA64u8 ((vrep 64 (0 : Int)))))), (5, (bk (eA64u8 ((vrep 64 (0 : Int))))))]⟩ (by kernel_rfl) ?_)))))))
  obtain ⟨y25, hy26, hk27⟩ := bind_some h
  clear h
  refine a_join (emb := fun (s : (Vec Int 64)) => ⟨[(4, (ow 4)), (5, (ow 5))], [(4, (bk (eA64u8 ((vrep 64 (0 : Int)))))), (5, (bk (eA64u8 s)))]⟩) (pre := fun s => s = y25) ?_ ?_
  · rintro x24 rfl
    have h := hk27
    refine a_st (σ' := ⟨[(4, (ow 4)), (5, (ow 5))], [(4, (bk (eA64u8 ((vrep 64 (0 : Int)))))), (5, (bk (eA64u8 x24)))]⟩) (by kernel_rfl) (sr (vl (eA64u8 x24) rfl rfl rfl rfl rfl rfl (vs (eA64u8 x24) rfl rfl (fun _ => rfl) rfl rfl rfl rfl rfl rfl (nx _ rfl (a_ret ?_)))))
    have hl52 : LdOk [] (eA64u8 x24) [] 64 true (eA64u8 x24) := (.nil rfl rfl rfl)
    refine ⟨.inr rfl, ?_⟩
    rw [Try.results76]
    cases h
    exact ⟨_, _, _, _, _, ld_own (i := ⟨.arr 64 5, 64, 64, (eA64u8 (vrep 64 (0 : Int)))⟩) rfl rfl rfl hl52, hl52.c, .inl ⟨rfl, .inl rfl⟩, rfl, rfl⟩
  · have h := hy26
    refine sr (vp (i6 0) rfl (nx ⟨[(0, (i6 a0)), (1, (i6 a1)), (4, (ow 4)), (5, (ow 5)), (6, (i6 0))], [(4, (bk (eA64u8 ((vrep 64 (0 : Int)))))), (5, (bk (eA64u8 ((vrep 64 (0 : Int))))))]⟩ (by kernel_rfl) (a_block ?_)))
    refine a_loop (emb := fun (s : (Int × Int × (Vec Int 64))) => ⟨[(0, (i6 a0)), (1, (i6 s.1)), (4, (ow 4)), (5, (ow 5)), (6, (i6 s.2.1))], [(4, (bk (eA64u8 ((vrep 64 (0 : Int)))))), (5, (bk (eA64u8 s.2.2)))]⟩) (body := (fun s : (Int × Int × (Vec Int 64)) => spec_l01Of_l1 a0 s.1 s.2.1 s.2.2)) (G := fun q => some q = some y25) h rfl ?_ (by kernel_rfl)
    rintro X41 ⟨x33, x34, x35⟩ x42 h hX43
    have h : spec_l01Of_l1 a0 x33 x34 x35 = some x42 := h
    refine a_st (σ' := ⟨[(0, (i6 a0)), (1, (i6 x33)), (4, (ow 4)), (5, (ow 5)), (6, (i6 x34))], [(4, (bk (eA64u8 ((vrep 64 (0 : Int)))))), (5, (bk (eA64u8 x35)))]⟩) (by kernel_rfl) (a_seq (sr (vp (i6 x33) rfl (vp (.bool ((decide (x33 > 0)))) rfl (nx ⟨[(0, (i6 a0)), (1, (i6 x33)), (4, (ow 4)), (5, (ow 5)), (6, (i6 x34)), (9, (.bool ((decide (x33 > 0)))))], [(4, (bk (eA64u8 ((vrep 64 (0 : Int)))))), (5, (bk (eA64u8 x35)))]⟩ (by kernel_rfl) ?_)))))
    cases hb44 : (decide (x33 > 0))
    · have h := ite_f hb44 h
      refine a_cond_f rfl (a_exit (t_exit ?_))
      cases h
      have h := hX43
      refine t_exit (b_exit ?_)
      exact j_leaf x35 (Option.some.inj h) (by kernel_rfl)
    · have h := ite_t hb44 h
      refine a_cond_t rfl (a_skip (a_next (σ' := ⟨[(0, (i6 a0)), (1, (i6 x33)), (4, (ow 4)), (5, (ow 5)), (6, (i6 x34))], [(4, (bk (eA64u8 ((vrep 64 (0 : Int)))))), (5, (bk (eA64u8 x35)))]⟩) (by kernel_rfl) (a_seq (a_block (sr (vp (i6 x34) rfl (vp (i6 x33) rfl (vp (i6 a0) rfl ?_))))))))
      obtain ⟨hc45, h⟩ := ifp_some h
      refine vq (i6 (Int.tmod x33 a0)) rfl hc45 (vp (b8 (IntKind.u8.wrap (Int.tmod x33 a0))) rfl ?_)
      obtain ⟨hc46, h⟩ := ifp_some h
      refine vq (.own 5 [x34.toNat] [x34.toNat * 1]) rfl hc46 ?_
      have hs47 : StOk [x34.toNat] (eA64u8 x35) [x34.toNat * 1] 1 (b8 (IntKind.u8.wrap (Int.tmod x33 a0))) (eA64u8 ((vset x35 x34.toNat (IntKind.u8.wrap (Int.tmod x33 a0))))) := (.arr (y := IntKind.u8.wrap (Int.tmod x33 a0)) (vlt x35 hc46) rfl (.nil rfl rfl rfl rfl))
      refine vu .top [(5, (bk (eA64u8 ((vset x35 x34.toNat (IntKind.u8.wrap (Int.tmod x33 a0)))))))] (st_own (i := ⟨.int .u8, 1, 1, (.int .u8 0)⟩) rfl rfl (fun _ => rfl) rfl hs47) (hs47.c rfl) rfl (nx ⟨[(0, (i6 a0)), (1, (i6 x33)), (4, (ow 4)), (5, (ow 5)), (6, (i6 x34))], [(4, (bk (eA64u8 ((vrep 64 (0 : Int)))))), (5, (bk (eA64u8 ((vset x35 x34.toNat (IntKind.u8.wrap (Int.tmod x33 a0)))))))]⟩ (by kernel_rfl) (a_region (vp (i6 x33) rfl (vp (i6 a0) rfl ?_))))
      obtain ⟨hc48, h⟩ := ifp_some h
      refine vq (i6 (IntKind.i64.wrap (Int.tdiv x33 a0))) rfl hc48 (vp (i6 (IntKind.i64.wrap (Int.tdiv x33 a0))) rfl (a_nil (b_norm (a_next (σ' := ⟨[(0, (i6 a0)), (1, (i6 (IntKind.i64.wrap (Int.tdiv x33 a0)))), (4, (ow 4)), (5, (ow 5)), (6, (i6 x34))], [(4, (bk (eA64u8 ((vrep 64 (0 : Int)))))), (5, (bk (eA64u8 ((vset x35 x34.toNat (IntKind.u8.wrap (Int.tmod x33 a0)))))))]⟩) (by kernel_rfl) (a_region (vp (i6 x34) rfl (vp (i6 (IntKind.i64.wrap (x34 + 1))) rfl (vp (i6 (IntKind.i64.wrap (x34 + 1))) rfl (a_nil ?_)))))))))
      cases h
      exact a_again (by kernel_rfl) hX43
def spec_l01Monic_c : ACode := (.seq (.region 0 [q 1 (.box 26 (t 0)), q 2 (.asg 0 (.const (.bool false)) 4)] false) (.seq (.region 1 [q 4 (.load 26 (t 1)), q 5 (.call 0 (.func 75) [(t 4)]), q 3 (.asg 0 (t 5) 2)] false) (.seq (.region 2 [q 6 (.mov (t 3)), q 7 (.bin .geq 2 (t 6) (.const (.int .i64 0))), q 8 (.mov (t 7)), ⟨some 9, .mov (t 3), some (8, true), []⟩, ⟨some 10, .indexAddr 26 (t 1) (t 9), some (8, true), []⟩, ⟨some 11, .load 5 (t 10), some (8, true), []⟩, ⟨some 12, .bin .eql 5 (t 11) (.const (.int .u8 1)), some (8, true), []⟩, q 13 (.pick (t 8) (t 12) (.const (.bool false))), q 2 (.asg 0 (t 13) 4)] false) .ret)))
def spec_l01Monic_L : Live := [(0, [0]), (1, [1]), (2, [1, 3])]
noncomputable def spec_l01Monic (a0 : (Vec Int 64)) : Option Bool :=
  (Option.bind (spec_l01Deg a0) fun r2 => (if (decide (r2 ≥ 0)) then (ifp (0 ≤ r2 ∧ r2 < ((64 : Nat) : Int)) ((some (((rd a0.1 r2.toNat) == 1))))) else (some false)))
theorem spec_l01Monic_ok (a0 : (Vec Int 64)) (r : Bool) (h : spec_l01Monic a0 = some r) : Den Try.prog 82 [(eA64u8 a0)] { r := (.bool r) } := by
  refine den_of (rs := [(.bool r)]) (ac := spec_l01Monic_c) (L := spec_l01Monic_L) (n := 14) (m := []) (c := Try.f82.body.getD .skip) good Try.func82 (by kernel_rfl) (by kernel_rfl) Try.ntmps82 rfl rfl (by kernel_rfl) rfl rfl ?_
  refine a_st (σ' := ⟨[(0, (eA64u8 a0))], []⟩) (by kernel_rfl) ?_
  unfold spec_l01Monic_c
  refine sr (vo 1100 (eA64u8 a0) rfl rfl (vp (.bool false) rfl (nx ⟨[(1, (ow 1))], [(1, (bk (eA64u8 a0)))]⟩ (by kernel_rfl) (sr (vl (eA64u8 a0) rfl rfl rfl rfl rfl rfl ?_)))))
  obtain ⟨r2, hr3, h⟩ := bind_some h
  refine a_call (args := [(eA64u8 a0)]) (u := []) (r := (i6 r2)) rfl rfl (spec_l01Deg_ok a0 r2 hr3) rfl (vp (i6 r2) rfl (nx ⟨[(1, (ow 1)), (3, (i6 r2))], [(1, (bk (eA64u8 a0)))]⟩ (by kernel_rfl) (sr (vp (i6 r2) rfl (vp (.bool ((decide (r2 ≥ 0)))) rfl (vp (.bool ((decide (r2 ≥ 0)))) rfl ?_))))))
  cases hb4 : (decide (r2 ≥ 0))
  · have h := ite_f hb4 h
    refine a_gskip rfl (a_gskip rfl (a_gskip rfl (a_gskip rfl (vp (.bool false) rfl (vp (.bool false) rfl (nx _ rfl (a_ret ?_)))))))
    refine ⟨.inr rfl, ?_⟩
    rw [Try.results82]
    cases h
    exact ⟨_, _, _, _, _, rfl, trivial, .inl ⟨rfl, .inl rfl⟩, rfl, rfl⟩
  · have h := ite_t hb4 h
    refine gp (i6 r2) rfl rfl ?_
    obtain ⟨hc5, h⟩ := ifp_some h
    refine gq (.own 1 [r2.toNat] [r2.toNat * 1]) rfl rfl hc5 ?_
    have hl6 : LdOk [r2.toNat] (eA64u8 a0) [r2.toNat * 1] 1 false (b8 (rd a0.1 r2.toNat)) := (.arr (vlt a0 hc5) rfl (.nil rfl rfl rfl))
    refine gq (b8 (rd a0.1 r2.toNat)) rfl (ld_own (i := ⟨.int .u8, 1, 1, (.int .u8 0)⟩) rfl rfl rfl hl6) hl6.c (gp (.bool (((rd a0.1 r2.toNat) == 1))) rfl rfl (vp (.bool (((rd a0.1 r2.toNat) == 1))) rfl (vp (.bool (((rd a0.1 r2.toNat) == 1))) rfl (nx _ rfl (a_ret ?_)))))
    refine ⟨.inr rfl, ?_⟩
    rw [Try.results82]
    cases h
    exact ⟨_, _, _, _, _, rfl, trivial, .inl ⟨rfl, .inl rfl⟩, rfl, rfl⟩
def spec_l07Square_c : ACode := (.seq (.region 0 [q 4 (.box 26 (t 1)), q 5 (.box 26 (t 2)), q 6 (.alloc 26)] false) (.seq (.region 1 [q 10 (.mov (t 0)), q 11 (.load 26 (t 5)), q 12 (.load 26 (t 5)), q 13 (.call 0 (.func 93) [(t 10), (t 11), (t 12)]), q 9 (.mov (t 13)), q 14 (.extract (t 9) 0), q 15 (.extract (t 9) 1), q 7 (.alloc 26), ⟨none, .store 26 (t 7) (t 14), none, []⟩, q 8 (.asg 0 (t 15) 4)] false) (.seq (.region 2 [q 16 (.mov (t 0)), q 17 (.load 26 (t 7)), q 18 (.load 26 (t 4)), q 19 (.call 0 (.func 94) [(t 16), (t 17), (t 18), (.const (.int .i64 (-1)))]), ⟨none, .store 26 (t 6) (t 19), none, []⟩] false) .ret)))
def spec_l07Square_L : Live := [(0, [0, 1, 2]), (1, [0, 4, 5, 6]), (2, [0, 4, 6, 7])]
noncomputable def spec_l07Square (a0 : Int) (a1 : (Vec Int 64)) (a2 : (Vec Int 64)) : Option (Vec Int 64) :=
  (Option.bind (spec_l01Times a0 a2 a2) fun r3 => (Option.bind (spec_l01Add a0 r3.1 a1 (-1)) fun r8 => (some r8)))
theorem spec_l07Square_ok (a0 : Int) (a1 : (Vec Int 64)) (a2 : (Vec Int 64)) (r : (Vec Int 64)) (h : spec_l07Square a0 a1 a2 = some r) : Den Try.prog 168 [(i6 a0), (eA64u8 a1), (eA64u8 a2)] { r := (eA64u8 r) } := by
  refine den_of (rs := [(eA64u8 r)]) (ac := spec_l07Square_c) (L := spec_l07Square_L) (n := 20) (m := []) (c := Try.f168.body.getD .skip) good Try.func168 (by kernel_rfl) (by kernel_rfl) Try.ntmps168 rfl rfl (by kernel_rfl) rfl rfl ?_
  refine a_st (σ' := ⟨[(0, (i6 a0)), (1, (eA64u8 a1)), (2, (eA64u8 a2))], []⟩) (by kernel_rfl) ?_
  unfold spec_l07Square_c
  refine sr (vo 1400 (eA64u8 a1) rfl rfl (vo 1500 (eA64u8 a2) rfl rfl (vo 1600 (eA64u8 ((vrep 64 (0 : Int)))) rfl rfl (nx ⟨[(0, (i6 a0)), (4, (ow 4)), (5, (ow 5)), (6, (ow 6))], [(4, (bk (eA64u8 a1))), (5, (bk (eA64u8 a2))), (6, (bk (eA64u8 ((vrep 64 (0 : Int))))))]⟩ (by kernel_rfl) (sr (vp (i6 a0) rfl (vl (eA64u8 a2) rfl rfl rfl rfl rfl rfl (vl (eA64u8 a2) rfl rfl rfl rfl rfl rfl ?_))))))))
  obtain ⟨r3, hr4, h⟩ := bind_some h
  refine a_call (args := [(i6 a0), (eA64u8 a2), (eA64u8 a2)]) (u := []) (r := (.tuple [(eA64u8 r3.1), (.bool r3.2)])) rfl rfl (spec_l01Times_ok a0 a2 a2 r3 hr4) rfl (vp (.tuple [(eA64u8 r3.1), (.bool r3.2)]) rfl (vb (eA64u8 r3.1) rfl rfl (vb (.bool r3.2) rfl rfl (vo 1700 (eA64u8 ((vrep 64 (0 : Int)))) rfl rfl (vs (eA64u8 r3.1) rfl rfl (fun _ => rfl) rfl rfl rfl rfl rfl rfl (vp (.bool r3.2) rfl (nx ⟨[(0, (i6 a0)), (4, (ow 4)), (6, (ow 6)), (7, (ow 7))], [(4, (bk (eA64u8 a1))), (6, (bk (eA64u8 ((vrep 64 (0 : Int)))))), (7, (bk (eA64u8 r3.1)))]⟩ (by kernel_rfl) (sr (vp (i6 a0) rfl ?_)))))))))
  refine vl (eA64u8 r3.1) rfl rfl rfl rfl rfl rfl (vl (eA64u8 a1) rfl rfl rfl rfl rfl rfl ?_)
  obtain ⟨r8, hr9, h⟩ := bind_some h
  refine a_call (args := [(i6 a0), (eA64u8 r3.1), (eA64u8 a1), (i6 (-1))]) (u := []) (r := (eA64u8 r8)) rfl rfl (spec_l01Add_ok a0 r3.1 a1 (-1) r8 hr9) rfl (vs (eA64u8 r8) rfl rfl (fun _ => rfl) rfl rfl rfl rfl rfl rfl (nx _ rfl (a_ret ?_)))
  have hl11 : LdOk [] (eA64u8 r8) [] 64 true (eA64u8 r8) := (.nil rfl rfl rfl)
  refine ⟨.inr rfl, ?_⟩
  rw [Try.results168]
  cases h
  exact ⟨_, _, _, _, _, ld_own (i := ⟨.arr 64 5, 64, 64, (eA64u8 (vrep 64 (0 : Int)))⟩) rfl rfl rfl hl11, hl11.c, .inl ⟨rfl, .inl rfl⟩, rfl, rfl⟩
def spec_l01Mod_c : ACode := (.seq (.region 0 [q 4 (.box 26 (t 1)), q 5 (.box 26 (t 2)), q 6 (.alloc 26)] false) (.seq (.region 1 [q 10 (.mov (t 0)), q 11 (.load 26 (t 4)), q 12 (.load 26 (t 5)), q 13 (.call 0 (.func 97) [(t 10), (t 11), (t 12)]), q 9 (.mov (t 13)), q 14 (.extract (t 9) 0), q 15 (.extract (t 9) 1), q 7 (.alloc 26), q 8 (.alloc 26), ⟨none, .store 26 (t 7) (t 14), none, []⟩, ⟨none, .store 26 (t 8) (t 15), none, []⟩] false) (.seq (.region 2 [q 16 (.load 26 (t 8)), ⟨none, .store 26 (t 6) (t 16), none, []⟩] false) .ret)))
def spec_l01Mod_L : Live := [(0, [0, 1, 2]), (1, [0, 4, 5, 6]), (2, [6, 8])]
noncomputable def spec_l01Mod (a0 : Int) (a1 : (Vec Int 64)) (a2 : (Vec Int 64)) : Option (Vec Int 64) :=
  (Option.bind (spec_l01Divide a0 a1 a2) fun r3 => (some r3.2))
theorem spec_l01Mod_ok (a0 : Int) (a1 : (Vec Int 64)) (a2 : (Vec Int 64)) (r : (Vec Int 64)) (h : spec_l01Mod a0 a1 a2 = some r) : Den Try.prog 96 [(i6 a0), (eA64u8 a1), (eA64u8 a2)] { r := (eA64u8 r) } := by
  refine den_of (rs := [(eA64u8 r)]) (ac := spec_l01Mod_c) (L := spec_l01Mod_L) (n := 17) (m := []) (c := Try.f96.body.getD .skip) good Try.func96 (by kernel_rfl) (by kernel_rfl) Try.ntmps96 rfl rfl (by kernel_rfl) rfl rfl ?_
  refine a_st (σ' := ⟨[(0, (i6 a0)), (1, (eA64u8 a1)), (2, (eA64u8 a2))], []⟩) (by kernel_rfl) ?_
  unfold spec_l01Mod_c
  refine sr (vo 1400 (eA64u8 a1) rfl rfl (vo 1500 (eA64u8 a2) rfl rfl (vo 1600 (eA64u8 ((vrep 64 (0 : Int)))) rfl rfl (nx ⟨[(0, (i6 a0)), (4, (ow 4)), (5, (ow 5)), (6, (ow 6))], [(4, (bk (eA64u8 a1))), (5, (bk (eA64u8 a2))), (6, (bk (eA64u8 ((vrep 64 (0 : Int))))))]⟩ (by kernel_rfl) (sr (vp (i6 a0) rfl (vl (eA64u8 a1) rfl rfl rfl rfl rfl rfl (vl (eA64u8 a2) rfl rfl rfl rfl rfl rfl ?_))))))))
  obtain ⟨r3, hr4, h⟩ := bind_some h
  refine a_call (args := [(i6 a0), (eA64u8 a1), (eA64u8 a2)]) (u := []) (r := (.tuple [(eA64u8 r3.1), (eA64u8 r3.2)])) rfl rfl (spec_l01Divide_ok a0 a1 a2 r3 hr4) rfl (vp (.tuple [(eA64u8 r3.1), (eA64u8 r3.2)]) rfl (vb (eA64u8 r3.1) rfl rfl (vb (eA64u8 r3.2) rfl rfl (vo 1700 (eA64u8 ((vrep 64 (0 : Int)))) rfl rfl (vo 1800 (eA64u8 ((vrep 64 (0 : Int)))) rfl rfl (vs (eA64u8 r3.1) rfl rfl (fun _ => rfl) rfl rfl rfl rfl rfl rfl (vs (eA64u8 r3.2) rfl rfl (fun _ => rfl) rfl rfl rfl rfl rfl rfl (nx ⟨[(6, (ow 6)), (8, (ow 8))], [(6, (bk (eA64u8 ((vrep 64 (0 : Int)))))), (8, (bk (eA64u8 r3.2)))]⟩ (by kernel_rfl) (sr ?_)))))))))
  refine vl (eA64u8 r3.2) rfl rfl rfl rfl rfl rfl (vs (eA64u8 r3.2) rfl rfl (fun _ => rfl) rfl rfl rfl rfl rfl rfl (nx _ rfl (a_ret ?_)))
  have hl9 : LdOk [] (eA64u8 r3.2) [] 64 true (eA64u8 r3.2) := (.nil rfl rfl rfl)
  refine ⟨.inr rfl, ?_⟩
  rw [Try.results96]
  cases h
  exact ⟨_, _, _, _, _, ld_own (i := ⟨.arr 64 5, 64, 64, (eA64u8 (vrep 64 (0 : Int)))⟩) rfl rfl rfl hl9, hl9.c, .inl ⟨rfl, .inl rfl⟩, rfl, rfl⟩
def spec_l07Form_c : ACode := (.seq (.region 0 [q 4 (.box 26 (t 1)), q 5 (.box 74 (t 2)), q 6 (.asg 0 (.const (.bool false)) 4)] false) (.seq (.seq (.region 1 [q 7 (.mov (t 0)), q 8 (.fieldAddr 74 (t 5) 0), ⟨some 9, .load 26 (t 8), none, [1]⟩, ⟨some 10, .call 0 (.func 117) [(t 7), (t 9)], none, [0, 2]⟩, ⟨some 11, .un .not (t 10), none, [3]⟩, ⟨some 12, .mov (t 11), none, [4, 3]⟩, ⟨some 13, .mov (t 0), some (12, false), [5]⟩, ⟨some 14, .fieldAddr 74 (t 5) 1, some (12, false), [5]⟩, ⟨some 15, .load 26 (t 14), some (12, false), [7, 5]⟩, ⟨some 16, .call 0 (.func 117) [(t 13), (t 15)], some (12, false), [6, 8, 5, 5]⟩, ⟨some 17, .un .not (t 16), some (12, false), [9, 5]⟩, ⟨some 18, .pick (t 12) (.const (.bool true)) (t 17), none, [5, 10]⟩, ⟨some 19, .mov (t 18), none, [11, 9]⟩, ⟨some 20, .fieldAddr 74 (t 5) 0, some (19, false), [12]⟩, ⟨some 21, .load 26 (t 20), some (19, false), [13, 12]⟩, ⟨some 22, .call 0 (.func 82) [(t 21)], some (19, false), [14, 12, 12]⟩, ⟨some 23, .un .not (t 22), some (19, false), [15, 12]⟩, ⟨some 24, .pick (t 19) (.const (.bool true)) (t 23), none, [12, 16]⟩, ⟨some 25, .mov (t 24), none, [17, 15]⟩, ⟨some 26, .fieldAddr 74 (t 5) 0, some (25, false), [18]⟩, ⟨some 27, .load 26 (t 26), some (25, false), [19, 18]⟩, ⟨some 28, .call 0 (.func 75) [(t 27)], some (25, false), [20, 18, 18]⟩, ⟨some 29, .bin .gtr 2 (t 28) (.const (.int .i64 12)), some (25, false), [21, 18]⟩, ⟨some 30, .pick (t 25) (.const (.bool true)) (t 29), none, [18, 22]⟩, ⟨some 31, .mov (t 30), none, [23, 21]⟩, ⟨some 32, .fieldAddr 74 (t 5) 1, some (31, false), [24]⟩, ⟨some 33, .load 26 (t 32), some (31, false), [25, 24]⟩, ⟨some 34, .call 0 (.func 75) [(t 33)], some (31, false), [26, 24, 24]⟩, ⟨some 35, .fieldAddr 74 (t 5) 0, some (31, false), [24]⟩, ⟨some 36, .load 26 (t 35), some (31, false), [28, 24]⟩, ⟨some 37, .call 0 (.func 75) [(t 36)], some (31, false), [29, 27, 24]⟩, ⟨some 38, .bin .geq 2 (t 34) (t 37), some (31, false), [27, 30, 24]⟩, ⟨some 39, .pick (t 31) (.const (.bool true)) (t 38), none, [24, 31]⟩] true) (.cond (t 39) (.seq (.region 2 [q 6 (.asg 0 (.const (.bool false)) 4)] false) .ret) .skip)) (.seq (.region 3 [q 40 (.mov (t 0)), q 41 (.mov (t 0)), q 42 (.load 26 (t 4)), q 43 (.fieldAddr 74 (t 5) 1), ⟨some 44, .load 26 (t 43), none, [3]⟩, ⟨some 45, .call 0 (.func 168) [(t 41), (t 42), (t 44)], none, [1, 2, 4]⟩, q 46 (.fieldAddr 74 (t 5) 0), ⟨some 47, .load 26 (t 46), none, [6]⟩, ⟨some 48, .call 0 (.func 96) [(t 40), (t 45), (t 47)], none, [0, 5, 7, 5]⟩, ⟨some 49, .call 0 (.func 75) [(t 48)], none, [8, 8]⟩, ⟨some 50, .bin .lss 2 (t 49) (.const (.int .i64 0)), none, [9]⟩, ⟨some 6, .asg 0 (t 50) 4, none, [10, 9, 0, 1, 2, 3, 4, 5, 6, 7, 8, 9, 10]⟩] true) .ret)))
def spec_l07Form_L : Live := [(0, [0, 1, 2]), (1, [0, 4, 5]), (2, []), (3, [0, 4, 5]), (100039, [0, 4, 5, 39])]
noncomputable def spec_l07Form (a0 : Int) (a1 : (Vec Int 64)) (a2 : ((Vec Int 64) × (Vec Int 64))) : Option Bool :=
  (Option.bind (α := Bool) ((Option.bind (spec_l01Is a0 a2.1) fun r72 => (if (!r72) then (some true) else (Option.bind (spec_l01Is a0 a2.2) fun r76 => (if (!r76) then (some true) else (Option.bind (spec_l01Monic a2.1) fun r80 => (if (!r80) then (some true) else (Option.bind (spec_l01Deg a2.1) fun r84 => (if (decide (r84 > 12)) then (some true) else (Option.bind (spec_l01Deg a2.2) fun r88 => (Option.bind (spec_l01Deg a2.1) fun r91 => (some ((decide (r88 ≥ r91))))))))))))))) fun x45 => (if x45 then (some false) else (Option.bind (spec_l07Square a0 a1 a2.2) fun r105 => (Option.bind (spec_l01Mod a0 r105 a2.1) fun r108 => (Option.bind (spec_l01Deg r108) fun r110 => (some ((decide (r110 < 0)))))))))
theorem spec_l07Form_ok (a0 : Int) (a1 : (Vec Int 64)) (a2 : ((Vec Int 64) × (Vec Int 64))) (r : Bool) (h : spec_l07Form a0 a1 a2 = some r) : Den Try.prog 121 [(i6 a0), (eA64u8 a1), (eT_A64u8_A64u8_Z a2)] { r := (.bool r) } := by
  refine den_of (rs := [(.bool r)]) (ac := spec_l07Form_c) (L := spec_l07Form_L) (n := 51) (m := []) (c := Try.f121.body.getD .skip) good Try.func121 (by kernel_rfl) (by kernel_rfl) Try.ntmps121 rfl rfl (by kernel_rfl) rfl rfl ?_
  refine a_st (σ' := ⟨[(0, (i6 a0)), (1, (eA64u8 a1)), (2, (eT_A64u8_A64u8_Z a2))], []⟩) (by kernel_rfl) ?_
  unfold spec_l07Form_c
  refine sr (vo 1400 (eA64u8 a1) rfl rfl (vo 1500 (eT_A64u8_A64u8_Z a2) rfl rfl (vp (.bool false) rfl (nx ⟨[(0, (i6 a0)), (4, (ow 4)), (5, (ow 5))], [(4, (bk (eA64u8 a1))), (5, (bk (eT_A64u8_A64u8_Z a2)))]⟩ (by kernel_rfl) (a_seq ?_)))))
  obtain ⟨y46, hy47, hk48⟩ := bind_some h
  clear h
  refine a_join (emb := fun (s : Bool) => ⟨[(0, (i6 a0)), (4, (ow 4)), (5, (ow 5)), (39, (.bool s))], [(4, (bk (eA64u8 a1))), (5, (bk (eT_A64u8_A64u8_Z a2)))]⟩) (pre := fun s => s = y46) ?_ ?_
  · rintro x45 rfl
    have h := hk48
    refine a_st (σ' := ⟨[(0, (i6 a0)), (4, (ow 4)), (5, (ow 5)), (39, (.bool x45))], [(4, (bk (eA64u8 a1))), (5, (bk (eT_A64u8_A64u8_Z a2)))]⟩) (by kernel_rfl) ?_
    cases hb93 : x45
    · have h := ite_f hb93 h
      refine a_cond_f rfl (a_skip (a_next (σ' := ⟨[(0, (i6 a0)), (4, (ow 4)), (5, (ow 5))], [(4, (bk (eA64u8 a1))), (5, (bk (eT_A64u8_A64u8_Z a2)))]⟩) (by kernel_rfl) (a_seq (a_draw [⟨[], [], [], []⟩, ⟨[], [], [], []⟩, ⟨[4], [], [], []⟩, ⟨[5], [], [5], []⟩, ⟨[5], [], [], [3]⟩, ⟨[], [], [], [1, 2, 3, 4]⟩, ⟨[5], [], [5], []⟩, ⟨[5], [], [], [6]⟩, ⟨[], [], [], [0, 1, 2, 3, 4, 5, 6, 7]⟩, ⟨[], [], [], [0, 1, 2, 3, 4, 5, 6, 7, 8]⟩, ⟨[], [], [], [0, 1, 2, 3, 4, 5, 6, 7, 8, 9]⟩, ⟨[], [], [], [0, 1, 2, 3, 4, 5, 6, 7, 8, 9, 10]⟩] (by kernel_rfl) (dp (i6 a0) rfl (by kernel_rfl) (dp (i6 a0) rfl (by kernel_rfl) (d_cons (vl (eA64u8 a1) rfl rfl rfl rfl rfl rfl (d_next (by kernel_rfl) ?_)))))))))
      refine d_cons (vb (.own 5 [1] [64]) rfl rfl (d_next (by kernel_rfl) (d_cons ?_)))
      have hl104 : LdOk [1] (eT_A64u8_A64u8_Z a2) [64] 64 true (eA64u8 a2.2) := (.fld rfl rfl rfl rfl (.nil rfl rfl rfl))
      refine vq (eA64u8 a2.2) (ld_own (i := ⟨.arr 64 5, 64, 64, (eA64u8 (vrep 64 (0 : Int)))⟩) rfl rfl rfl hl104) hl104.c (d_next (by kernel_rfl) (d_cons ?_))
      obtain ⟨r105, hr106, h⟩ := bind_some h
      refine a_call (args := [(i6 a0), (eA64u8 a1), (eA64u8 a2.2)]) (u := []) (r := (eA64u8 r105)) rfl rfl (spec_l07Square_ok a0 a1 a2.2 r105 hr106) rfl (d_next (by kernel_rfl) (d_cons (vb (.own 5 [0] [0]) rfl rfl (d_next (by kernel_rfl) (d_cons ?_)))))
      have hl107 : LdOk [0] (eT_A64u8_A64u8_Z a2) [0] 64 true (eA64u8 a2.1) := (.fld rfl rfl rfl rfl (.nil rfl rfl rfl))
      refine vq (eA64u8 a2.1) (ld_own (i := ⟨.arr 64 5, 64, 64, (eA64u8 (vrep 64 (0 : Int)))⟩) rfl rfl rfl hl107) hl107.c (d_next (by kernel_rfl) (d_cons ?_))
      obtain ⟨r108, hr109, h⟩ := bind_some h
      refine a_call (args := [(i6 a0), (eA64u8 r105), (eA64u8 a2.1)]) (u := []) (r := (eA64u8 r108)) rfl rfl (spec_l01Mod_ok a0 r105 a2.1 r108 hr109) rfl (d_next (by kernel_rfl) (d_cons ?_))
      obtain ⟨r110, hr111, h⟩ := bind_some h
      refine a_call (args := [(eA64u8 r108)]) (u := []) (r := (i6 r110)) rfl rfl (spec_l01Deg_ok r108 r110 hr111) rfl (d_next (by kernel_rfl) (dp (.bool ((decide (r110 < 0)))) rfl (by kernel_rfl) (dp (.bool ((decide (r110 < 0)))) rfl (by kernel_rfl) (d_nil (a_next rfl (a_ret ?_))))))
      refine ⟨.inr rfl, ?_⟩
      rw [Try.results121]
      cases h
      exact ⟨_, _, _, _, _, rfl, trivial, .inl ⟨rfl, .inl rfl⟩, rfl, rfl⟩
    · have h := ite_t hb93 h
      refine a_cond_t rfl (sr (vp (.bool false) rfl (nx _ rfl (a_ret (t_ret ?_)))))
      refine ⟨.inr rfl, ?_⟩
      rw [Try.results121]
      cases h
      exact ⟨_, _, _, _, _, rfl, trivial, .inl ⟨rfl, .inl rfl⟩, rfl, rfl⟩
  · have h := hy47
    refine a_draw [⟨[], [], [], []⟩, ⟨[5], [], [5], []⟩, ⟨[5], [], [], [1]⟩, ⟨[], [], [], [0, 1, 2]⟩, ⟨[], [], [], [0, 1, 2, 3]⟩, ⟨[], [], [], [0, 1, 2, 3, 4]⟩, ⟨[], [], [], [0, 1, 2, 3, 4, 5]⟩, ⟨[5], [], [5], [0, 1, 2, 3, 4, 5]⟩, ⟨[5], [], [], [0, 1, 2, 3, 4, 5, 7]⟩, ⟨[], [], [], [0, 1, 2, 3, 4, 5, 6, 7, 8]⟩, ⟨[], [], [], [0, 1, 2, 3, 4, 5, 6, 7, 8, 9]⟩, ⟨[], [], [], [0, 1, 2, 3, 4, 5, 6, 7, 8, 9, 10]⟩, ⟨[], [], [], [0, 1, 2, 3, 4, 5, 6, 7, 8, 9, 10, 11]⟩, ⟨[5], [], [5], [0, 1, 2, 3, 4, 5, 6, 7, 8, 9, 10, 11, 12]⟩, ⟨[5], [], [], [0, 1, 2, 3, 4, 5, 6, 7, 8, 9, 10, 11, 12, 13]⟩, ⟨[], [], [], [0, 1, 2, 3, 4, 5, 6, 7, 8, 9, 10, 11, 12, 13, 14]⟩, ⟨[], [], [], [0, 1, 2, 3, 4, 5, 6, 7, 8, 9, 10, 11, 12, 13, 14, 15]⟩, ⟨[], [], [], [0, 1, 2, 3, 4, 5, 6, 7, 8, 9, 10, 11, 12, 13, 14, 15, 16]⟩, ⟨[], [], [], [0, 1, 2, 3, 4, 5, 6, 7, 8, 9, 10, 11, 12, 13, 14, 15, 16, 17]⟩, ⟨[5], [], [5], [0, 1, 2, 3, 4, 5, 6, 7, 8, 9, 10, 11, 12, 13, 14, 15, 16, 17, 18]⟩, ⟨[5], [], [], [0, 1, 2, 3, 4, 5, 6, 7, 8, 9, 10, 11, 12, 13, 14, 15, 16, 17, 18, 19]⟩, ⟨[], [], [], [0, 1, 2, 3, 4, 5, 6, 7, 8, 9, 10, 11, 12, 13, 14, 15, 16, 17, 18, 19, 20]⟩, ⟨[], [], [], [0, 1, 2, 3, 4, 5, 6, 7, 8, 9, 10, 11, 12, 13, 14, 15, 16, 17, 18, 19, 20, 21]⟩, ⟨[], [], [], [0, 1, 2, 3, 4, 5, 6, 7, 8, 9, 10, 11, 12, 13, 14, 15, 16, 17, 18, 19, 20, 21, 22]⟩, ⟨[], [], [], [0, 1, 2, 3, 4, 5, 6, 7, 8, 9, 10, 11, 12, 13, 14, 15, 16, 17, 18, 19, 20, 21, 22, 23]⟩, ⟨[5], [], [5], [0, 1, 2, 3, 4, 5, 6, 7, 8, 9, 10, 11, 12, 13, 14, 15, 16, 17, 18, 19, 20, 21, 22, 23, 24]⟩, ⟨[5], [], [], [0, 1, 2, 3, 4, 5, 6, 7, 8, 9, 10, 11, 12, 13, 14, 15, 16, 17, 18, 19, 20, 21, 22, 23, 24, 25]⟩, ⟨[], [], [], [0, 1, 2, 3, 4, 5, 6, 7, 8, 9, 10, 11, 12, 13, 14, 15, 16, 17, 18, 19, 20, 21, 22, 23, 24, 25, 26]⟩, ⟨[5], [], [5], [0, 1, 2, 3, 4, 5, 6, 7, 8, 9, 10, 11, 12, 13, 14, 15, 16, 17, 18, 19, 20, 21, 22, 23, 24]⟩, ⟨[5], [], [], [0, 1, 2, 3, 4, 5, 6, 7, 8, 9, 10, 11, 12, 13, 14, 15, 16, 17, 18, 19, 20, 21, 22, 23, 24, 28]⟩, ⟨[], [], [], [0, 1, 2, 3, 4, 5, 6, 7, 8, 9, 10, 11, 12, 13, 14, 15, 16, 17, 18, 19, 20, 21, 22, 23, 24, 25, 26, 27, 28, 29]⟩, ⟨[], [], [], [0, 1, 2, 3, 4, 5, 6, 7, 8, 9, 10, 11, 12, 13, 14, 15, 16, 17, 18, 19, 20, 21, 22, 23, 24, 25, 26, 27, 28, 29, 30]⟩, ⟨[], [], [], [0, 1, 2, 3, 4, 5, 6, 7, 8, 9, 10, 11, 12, 13, 14, 15, 16, 17, 18, 19, 20, 21, 22, 23, 24, 25, 26, 27, 28, 29, 30, 31]⟩] (by kernel_rfl) (dp (i6 a0) rfl (by kernel_rfl) (d_cons (vb (.own 5 [0] [0]) rfl rfl (d_next (by kernel_rfl) (d_cons ?_)))))
    have hl71 : LdOk [0] (eT_A64u8_A64u8_Z a2) [0] 64 true (eA64u8 a2.1) := (.fld rfl rfl rfl rfl (.nil rfl rfl rfl))
    refine vq (eA64u8 a2.1) (ld_own (i := ⟨.arr 64 5, 64, 64, (eA64u8 (vrep 64 (0 : Int)))⟩) rfl rfl rfl hl71) hl71.c (d_next (by kernel_rfl) (d_cons ?_))
    obtain ⟨r72, hr73, h⟩ := bind_some h
    refine a_call (args := [(i6 a0), (eA64u8 a2.1)]) (u := []) (r := (.bool r72)) rfl rfl (spec_l01Is_ok a0 a2.1 r72 hr73) rfl (d_next (by kernel_rfl) (dp (.bool (!r72)) rfl (by kernel_rfl) (dp (.bool (!r72)) rfl (by kernel_rfl) ?_)))
    cases hb74 : (!r72)
    · have h := ite_f hb74 h
      refine dg (i6 a0) rfl rfl (by kernel_rfl) (d_cons (gq (.own 5 [1] [64]) rfl rfl (Nat.le_of_ble_eq_true rfl) (d_next (by kernel_rfl) (d_cons ?_))))
      have hl75 : LdOk [1] (eT_A64u8_A64u8_Z a2) [64] 64 true (eA64u8 a2.2) := (.fld rfl rfl rfl rfl (.nil rfl rfl rfl))
      refine gq (eA64u8 a2.2) rfl (ld_own (i := ⟨.arr 64 5, 64, 64, (eA64u8 (vrep 64 (0 : Int)))⟩) rfl rfl rfl hl75) hl75.c (d_next (by kernel_rfl) (d_cons ?_))
      obtain ⟨r76, hr77, h⟩ := bind_some h
      refine a_gcall rfl (args := [(i6 a0), (eA64u8 a2.2)]) (u := []) (r := (.bool r76)) rfl rfl (spec_l01Is_ok a0 a2.2 r76 hr77) rfl (d_next (by kernel_rfl) (dg (.bool (!r76)) rfl rfl (by kernel_rfl) (dp (.bool (!r76)) rfl (by kernel_rfl) (dp (.bool (!r76)) rfl (by kernel_rfl) ?_))))
      cases hb78 : (!r76)
      · have h := ite_f hb78 h
        refine d_cons (gq (.own 5 [0] [0]) rfl rfl (Nat.le_of_ble_eq_true rfl) (d_next (by kernel_rfl) (d_cons ?_)))
        have hl79 : LdOk [0] (eT_A64u8_A64u8_Z a2) [0] 64 true (eA64u8 a2.1) := (.fld rfl rfl rfl rfl (.nil rfl rfl rfl))
        refine gq (eA64u8 a2.1) rfl (ld_own (i := ⟨.arr 64 5, 64, 64, (eA64u8 (vrep 64 (0 : Int)))⟩) rfl rfl rfl hl79) hl79.c (d_next (by kernel_rfl) (d_cons ?_))
        obtain ⟨r80, hr81, h⟩ := bind_some h
        refine a_gcall rfl (args := [(eA64u8 a2.1)]) (u := []) (r := (.bool r80)) rfl rfl (spec_l01Monic_ok a2.1 r80 hr81) rfl (d_next (by kernel_rfl) (dg (.bool (!r80)) rfl rfl (by kernel_rfl) (dp (.bool (!r80)) rfl (by kernel_rfl) (dp (.bool (!r80)) rfl (by kernel_rfl) ?_))))
        cases hb82 : (!r80)
        · have h := ite_f hb82 h
          refine d_cons (gq (.own 5 [0] [0]) rfl rfl (Nat.le_of_ble_eq_true rfl) (d_next (by kernel_rfl) (d_cons ?_)))
          have hl83 : LdOk [0] (eT_A64u8_A64u8_Z a2) [0] 64 true (eA64u8 a2.1) := (.fld rfl rfl rfl rfl (.nil rfl rfl rfl))
          refine gq (eA64u8 a2.1) rfl (ld_own (i := ⟨.arr 64 5, 64, 64, (eA64u8 (vrep 64 (0 : Int)))⟩) rfl rfl rfl hl83) hl83.c (d_next (by kernel_rfl) (d_cons ?_))
          obtain ⟨r84, hr85, h⟩ := bind_some h
          refine a_gcall rfl (args := [(eA64u8 a2.1)]) (u := []) (r := (i6 r84)) rfl rfl (spec_l01Deg_ok a2.1 r84 hr85) rfl (d_next (by kernel_rfl) (dg (.bool ((decide (r84 > 12)))) rfl rfl (by kernel_rfl) (dp (.bool ((decide (r84 > 12)))) rfl (by kernel_rfl) (dp (.bool ((decide (r84 > 12)))) rfl (by kernel_rfl) ?_))))
          cases hb86 : (decide (r84 > 12))
          · have h := ite_f hb86 h
            refine d_cons (gq (.own 5 [1] [64]) rfl rfl (Nat.le_of_ble_eq_true rfl) (d_next (by kernel_rfl) (d_cons ?_)))
            have hl87 : LdOk [1] (eT_A64u8_A64u8_Z a2) [64] 64 true (eA64u8 a2.2) := (.fld rfl rfl rfl rfl (.nil rfl rfl rfl))
            refine gq (eA64u8 a2.2) rfl (ld_own (i := ⟨.arr 64 5, 64, 64, (eA64u8 (vrep 64 (0 : Int)))⟩) rfl rfl rfl hl87) hl87.c (d_next (by kernel_rfl) (d_cons ?_))
            obtain ⟨r88, hr89, h⟩ := bind_some h
            refine a_gcall rfl (args := [(eA64u8 a2.2)]) (u := []) (r := (i6 r88)) rfl rfl (spec_l01Deg_ok a2.2 r88 hr89) rfl (d_next (by kernel_rfl) (d_cons (gq (.own 5 [0] [0]) rfl rfl (Nat.le_of_ble_eq_true rfl) (d_next (by kernel_rfl) (d_cons ?_)))))
            have hl90 : LdOk [0] (eT_A64u8_A64u8_Z a2) [0] 64 true (eA64u8 a2.1) := (.fld rfl rfl rfl rfl (.nil rfl rfl rfl))
            refine gq (eA64u8 a2.1) rfl (ld_own (i := ⟨.arr 64 5, 64, 64, (eA64u8 (vrep 64 (0 : Int)))⟩) rfl rfl rfl hl90) hl90.c (d_next (by kernel_rfl) (d_cons ?_))
            obtain ⟨r91, hr92, h⟩ := bind_some h
            refine a_gcall rfl (args := [(eA64u8 a2.1)]) (u := []) (r := (i6 r91)) rfl rfl (spec_l01Deg_ok a2.1 r91 hr92) rfl (d_next (by kernel_rfl) (dg (.bool ((decide (r88 ≥ r91)))) rfl rfl (by kernel_rfl) (dp (.bool ((decide (r88 ≥ r91)))) rfl (by kernel_rfl) (d_nil ?_))))
            exact j_leaf ((decide (r88 ≥ r91))) (Option.some.inj h) (by kernel_rfl)
          · have h := ite_t hb86 h
            refine dk rfl (by kernel_rfl) (dk rfl (by kernel_rfl) (dk rfl (by kernel_rfl) (dk rfl (by kernel_rfl) (dk rfl (by kernel_rfl) (dk rfl (by kernel_rfl) (dk rfl (by kernel_rfl) (dp (.bool true) rfl (by kernel_rfl) (d_nil ?_))))))))
            exact j_leaf true (Option.some.inj h) (by kernel_rfl)
        · have h := ite_t hb82 h
          refine dk rfl (by kernel_rfl) (dk rfl (by kernel_rfl) (dk rfl (by kernel_rfl) (dk rfl (by kernel_rfl) (dp (.bool true) rfl (by kernel_rfl) (dp (.bool true) rfl (by kernel_rfl) (dk rfl (by kernel_rfl) (dk rfl (by kernel_rfl) (dk rfl (by kernel_rfl) (dk rfl (by kernel_rfl) ?_)))))))))
          refine dk rfl (by kernel_rfl) (dk rfl (by kernel_rfl) (dk rfl (by kernel_rfl) (dp (.bool true) rfl (by kernel_rfl) (d_nil ?_))))
          exact j_leaf true (Option.some.inj h) (by kernel_rfl)
      · have h := ite_t hb78 h
        refine dk rfl (by kernel_rfl) (dk rfl (by kernel_rfl) (dk rfl (by kernel_rfl) (dk rfl (by kernel_rfl) (dp (.bool true) rfl (by kernel_rfl) (dp (.bool true) rfl (by kernel_rfl) (dk rfl (by kernel_rfl) (dk rfl (by kernel_rfl) (dk rfl (by kernel_rfl) (dk rfl (by kernel_rfl) ?_)))))))))
        refine dp (.bool true) rfl (by kernel_rfl) (dp (.bool true) rfl (by kernel_rfl) (dk rfl (by kernel_rfl) (dk rfl (by kernel_rfl) (dk rfl (by kernel_rfl) (dk rfl (by kernel_rfl) (dk rfl (by kernel_rfl) (dk rfl (by kernel_rfl) (dk rfl (by kernel_rfl) (dp (.bool true) rfl (by kernel_rfl) ?_)))))))))
        refine d_nil ?_
        exact j_leaf true (Option.some.inj h) (by kernel_rfl)
    · have h := ite_t hb74 h
      refine dk rfl (by kernel_rfl) (dk rfl (by kernel_rfl) (dk rfl (by kernel_rfl) (dk rfl (by kernel_rfl) (dk rfl (by kernel_rfl) (dp (.bool true) rfl (by kernel_rfl) (dp (.bool true) rfl (by kernel_rfl) (dk rfl (by kernel_rfl) (dk rfl (by kernel_rfl) (dk rfl (by kernel_rfl) ?_)))))))))
      refine dk rfl (by kernel_rfl) (dp (.bool true) rfl (by kernel_rfl) (dp (.bool true) rfl (by kernel_rfl) (dk rfl (by kernel_rfl) (dk rfl (by kernel_rfl) (dk rfl (by kernel_rfl) (dk rfl (by kernel_rfl) (dp (.bool true) rfl (by kernel_rfl) (dp (.bool true) rfl (by kernel_rfl) (dk rfl (by kernel_rfl) ?_)))))))))
      refine dk rfl (by kernel_rfl) (dk rfl (by kernel_rfl) (dk rfl (by kernel_rfl) (dk rfl (by kernel_rfl) (dk rfl (by kernel_rfl) (dk rfl (by kernel_rfl) (dp (.bool true) rfl (by kernel_rfl) (d_nil ?_)))))))
      exact j_leaf true (Option.some.inj h) (by kernel_rfl)
end Go.Proofs.Ytdhcpekngpndnaa
