/- Functions of the program: plain Lean functions, and that the program computes them. Printed by gen.py. -/
import Derived.Test.YtebfhlnfmkhmcaaFnT
import Derived.Test.YtebfhlnfmkhmcaaFn1
namespace Go.Proofs.Ytebfhlnfmkhmcaa
open Go.Abs Go.Proofs
set_option linter.unusedSimpArgs false
set_option linter.unusedVariables false
set_option maxHeartbeats 16000000
attribute [local irreducible] Abs.acode Abs.aops Abs.aopsT Abs.thenK Abs.blockK

def spec_l01Add_c : ACode := (.seq (.region 0 [q 5 (.box 26 (t 1)), q 6 (.box 26 (t 2)), q 8 (.alloc 26)] false) (.seq (.seq (.region 1 [q 9 (.asg 0 (.const (.int .i64 0)) 3)] false) (.block 0 (.loop (.seq (.seq (.region 2 [q 10 (.mov (t 9)), q 11 (.bin .lss 3 (t 10) (.const (.int .i64 64)))] false) (.cond (t 11) .skip (.exit 0))) (.seq (.block 1 (.region 4 [q 14 (.mov (t 9)), q 15 (.mov (t 9)), ⟨some 16, .indexAddr 26 (t 5) (t 15), none, [1]⟩, ⟨some 17, .load 5 (t 16), none, [2]⟩, ⟨some 18, .conv 5 2 (t 17), none, [3]⟩, q 19 (.mov (t 3)), q 20 (.mov (t 9)), ⟨some 21, .indexAddr 26 (t 6) (t 20), none, [6]⟩, ⟨some 22, .load 5 (t 21), none, [7]⟩, ⟨some 23, .conv 5 2 (t 22), none, [8]⟩, ⟨some 24, .bin .mul 2 (t 19) (t 23), none, [5, 9]⟩, ⟨some 25, .bin .add 2 (t 18) (t 24), none, [4, 10]⟩, q 26 (.mov (t 0)), ⟨some 27, .bin .rem 2 (t 25) (t 26), none, [11, 12]⟩, q 28 (.mov (t 0)), ⟨some 29, .bin .add 2 (t 27) (t 28), none, [13, 14]⟩, q 30 (.mov (t 0)), ⟨some 31, .bin .rem 2 (t 29) (t 30), none, [15, 16]⟩, ⟨some 32, .conv 2 5 (t 31), none, [17]⟩, ⟨some 33, .indexAddr 26 (t 5) (t 14), none, [0, 0, 1, 2, 3, 4, 5, 6, 7, 8, 9, 10, 11, 12, 13, 14, 15, 16, 17, 18]⟩, ⟨none, .store 5 (t 33) (t 32), none, [19, 18, 0, 1, 2, 3, 4, 5, 6, 7, 8, 9, 10, 11, 12, 13, 14, 15, 16, 17, 18]⟩] true)) (.region 3 [q 12 (.mov (t 9)), q 13 (.bin .add 3 (t 12) (.const (.int .i64 1))), q 9 (.asg 0 (t 13) 3)] false)))))) (.seq (.region 5 [q 34 (.load 26 (t 5)), ⟨none, .store 26 (t 8) (t 34), none, []⟩] false) .ret)))
def spec_l01Add_L : Live := [(0, [0, 1, 2, 3]), (1, [0, 3, 5, 6, 8]), (2, [0, 3, 5, 6, 8, 9]), (3, [0, 3, 5, 6, 8, 9]), (4, [0, 3, 5, 6, 8, 9]), (5, [5, 8]), (100011, [0, 3, 5, 6, 8, 9, 11])]
noncomputable def spec_l01Add_l1 (a3 : Int) (a2 : (Vec Int 64)) (a0 : Int) (x127 : Int) (x128 : (Vec Int 64)) : Option ((Int × (Vec Int 64)) ⊕ (Vec Int 64)) :=
  (if (decide (x127 < 64)) then (ifp (0 ≤ x127 ∧ x127 < ((64 : Nat) : Int)) ((ifp (0 ≤ x127 ∧ x127 < ((64 : Nat) : Int)) ((letp (IntKind.i64.wrap (a3 * (IntKind.i64.wrap (rd a2.1 x127.toNat)))) fun x180 => (letp (IntKind.i64.wrap ((IntKind.i64.wrap (rd x128.1 x127.toNat)) + x180)) fun x182 => (ifp (a0 ≠ 0) ((ifp (a0 ≠ 0) ((letp (IntKind.u8.wrap (Int.tmod (IntKind.i64.wrap ((Int.tmod x182 a0) + a0)) a0)) fun x186 => (ifp (0 ≤ x127 ∧ x127 < ((64 : Nat) : Int)) ((some (.inl ((IntKind.i64.wrap (x127 + 1), (vset x128 x127.toNat x186)))))))))))))))))) else (some (.inr x128)))
noncomputable def spec_l01Add (a0 : Int) (a1 : (Vec Int 64)) (a2 : (Vec Int 64)) (a3 : Int) : Option (Vec Int 64) :=
  (Option.bind (α := (Vec Int 64)) ((loopM (fun s : (Int × (Vec Int 64)) => spec_l01Add_l1 a3 a2 a0 s.1 s.2) (0, a1))) fun x94 => (some x94))
theorem spec_l01Add_ok (a0 : Int) (a1 : (Vec Int 64)) (a2 : (Vec Int 64)) (a3 : Int) (r : (Vec Int 64)) (h : spec_l01Add a0 a1 a2 a3 = some r) : Den Try.prog 73 [(i6 a0), (eA64u8 a1), (eA64u8 a2), (i6 a3)] { r := (eA64u8 r) } := by
  refine den_of (rs := [(eA64u8 r)]) (ac := spec_l01Add_c) (L := spec_l01Add_L) (n := 35) (m := []) (c := Try.f73.body.getD .skip) good Try.func73 (by kernel_rfl) (by kernel_rfl) Try.ntmps73 rfl rfl (by kernel_rfl) rfl rfl ?_
  refine a_st (σ' := ⟨[(0, (i6 a0)), (1, (eA64u8 a1)), (2, (eA64u8 a2)), (3, (i6 a3))], []⟩) (by kernel_rfl) ?_
  unfold spec_l01Add_c
  refine sr (vo 1500 (eA64u8 a1) rfl rfl (vo 1600 (eA64u8 a2) rfl rfl (vo 1800 (eA64u8 ((vrep 64 (0 : Int)))) rfl rfl (nx ⟨[(0, (i6 a0)), (3, (i6 a3)), (5, (ow 5)), (6, (ow 6)), (8, (ow 8))], [(5, (bk (eA64u8 a1))), (6, (bk (eA64u8 a2))), (8, (bk (eA64u8 ((vrep 64 (0 : Int))))))]⟩ (by kernel_rfl) ?_))))
  obtain ⟨y95, hy96, hk97⟩ := bind_some h
  clear h
  refine a_join (emb := fun (s : (Vec Int 64)) => ⟨[(5, (ow 5)), (8, (ow 8))], [(5, (bk (eA64u8 s))), (8, (bk (eA64u8 ((vrep 64 (0 : Int))))))]⟩) (pre := fun s => s = y95) ?_ ?_
  · rintro x94 rfl
    have h := hk97
    refine a_st (σ' := ⟨[(5, (ow 5)), (8, (ow 8))], [(5, (bk (eA64u8 x94))), (8, (bk (eA64u8 ((vrep 64 (0 : Int))))))]⟩) (by kernel_rfl) (sr (vl (eA64u8 x94) rfl rfl rfl rfl rfl rfl (vs (eA64u8 x94) rfl rfl (fun _ => rfl) rfl rfl rfl rfl rfl rfl (nx _ rfl (a_ret ?_)))))
    have hl193 : LdOk [] (eA64u8 x94) [] 64 true (eA64u8 x94) := (.nil rfl rfl rfl)
    refine ⟨.inr rfl, ?_⟩
    rw [Try.results73]
    cases h
    exact ⟨_, _, _, _, _, ld_own (i := ⟨.arr 64 5, 64, 64, (eA64u8 (vrep 64 (0 : Int)))⟩) rfl rfl rfl hl193, hl193.c, .inl ⟨rfl, .inl rfl⟩, rfl, rfl⟩
  · have h := hy96
    refine sr (vp (i6 0) rfl (nx ⟨[(0, (i6 a0)), (3, (i6 a3)), (5, (ow 5)), (6, (ow 6)), (8, (ow 8)), (9, (i6 0))], [(5, (bk (eA64u8 a1))), (6, (bk (eA64u8 a2))), (8, (bk (eA64u8 ((vrep 64 (0 : Int))))))]⟩ (by kernel_rfl) (a_block ?_)))
    refine a_loop (emb := fun (s : (Int × (Vec Int 64))) => ⟨[(0, (i6 a0)), (3, (i6 a3)), (5, (ow 5)), (6, (ow 6)), (8, (ow 8)), (9, (i6 s.1))], [(5, (bk (eA64u8 s.2))), (6, (bk (eA64u8 a2))), (8, (bk (eA64u8 ((vrep 64 (0 : Int))))))]⟩) (body := (fun s : (Int × (Vec Int 64)) => spec_l01Add_l1 a3 a2 a0 s.1 s.2)) (G := fun q => some q = some y95) h rfl ?_ (by kernel_rfl)
    rintro X158 ⟨x127, x128⟩ x159 h hX160
    have h : spec_l01Add_l1 a3 a2 a0 x127 x128 = some x159 := h
    refine a_st (σ' := ⟨[(0, (i6 a0)), (3, (i6 a3)), (5, (ow 5)), (6, (ow 6)), (8, (ow 8)), (9, (i6 x127))], [(5, (bk (eA64u8 x128))), (6, (bk (eA64u8 a2))), (8, (bk (eA64u8 ((vrep 64 (0 : Int))))))]⟩) (by kernel_rfl) (a_seq (sr (vp (i6 x127) rfl (vp (.bool ((decide (x127 < 64)))) rfl (nx ⟨[(0, (i6 a0)), (3, (i6 a3)), (5, (ow 5)), (6, (ow 6)), (8, (ow 8)), (9, (i6 x127)), (11, (.bool ((decide (x127 < 64)))))], [(5, (bk (eA64u8 x128))), (6, (bk (eA64u8 a2))), (8, (bk (eA64u8 ((vrep 64 (0 : Int))))))]⟩ (by kernel_rfl) ?_)))))
    cases hb161 : (decide (x127 < 64))
    · have h := ite_f hb161 h
      refine a_cond_f rfl (a_exit (t_exit ?_))
      cases h
      have h := hX160
      refine t_exit (b_exit ?_)
      exact j_leaf x128 (Option.some.inj h) (by kernel_rfl)
    · have h := ite_t hb161 h
      refine a_cond_t rfl (a_skip (a_next (σ' := ⟨[(0, (i6 a0)), (3, (i6 a3)), (5, (ow 5)), (6, (ow 6)), (8, (ow 8)), (9, (i6 x127))], [(5, (bk (eA64u8 x128))), (6, (bk (eA64u8 a2))), (8, (bk (eA64u8 ((vrep 64 (0 : Int))))))]⟩) (by kernel_rfl) (a_seq (a_block (a_draw [⟨[], [], [], []⟩, ⟨[], [], [], []⟩, ⟨[5], [], [5], [1]⟩, ⟨[5], [], [], [1, 2]⟩, ⟨[], [], [], [1, 2, 3]⟩, ⟨[], [], [], []⟩, ⟨[], [], [], []⟩, ⟨[6], [], [6], [6]⟩, ⟨[6], [], [], [6, 7]⟩, ⟨[], [], [], [6, 7, 8]⟩, ⟨[], [], [], [5, 6, 7, 8, 9]⟩, ⟨[], [], [], [1, 2, 3, 4, 5, 6, 7, 8, 9, 10]⟩, ⟨[], [], [], []⟩, ⟨[], [], [], [1, 2, 3, 4, 5, 6, 7, 8, 9, 10, 11, 12]⟩, ⟨[], [], [], []⟩, ⟨[], [], [], [1, 2, 3, 4, 5, 6, 7, 8, 9, 10, 11, 12, 13, 14]⟩, ⟨[], [], [], []⟩, ⟨[], [], [], [1, 2, 3, 4, 5, 6, 7, 8, 9, 10, 11, 12, 13, 14, 15, 16]⟩, ⟨[], [], [], [1, 2, 3, 4, 5, 6, 7, 8, 9, 10, 11, 12, 13, 14, 15, 16, 17]⟩, ⟨[5], [], [5], [0, 1, 2, 3, 4, 5, 6, 7, 8, 9, 10, 11, 12, 13, 14, 15, 16, 17, 18]⟩, ⟨[5], [5], [], [0, 1, 2, 3, 4, 5, 6, 7, 8, 9, 10, 11, 12, 13, 14, 15, 16, 17, 18, 19]⟩] (by kernel_rfl) (dp (i6 x127) rfl (by kernel_rfl) (dp (i6 x127) rfl (by kernel_rfl) (d_cons ?_))))))))
      obtain ⟨hc176, h⟩ := ifp_some h
      refine vq (.own 5 [x127.toNat] [x127.toNat * 1]) rfl hc176 (d_next (by kernel_rfl) (d_cons ?_))
      have hl177 : LdOk [x127.toNat] (eA64u8 x128) [x127.toNat * 1] 1 false (b8 (rd x128.1 x127.toNat)) := (.arr (vlt x128 hc176) rfl (.nil rfl rfl rfl))
      refine vq (b8 (rd x128.1 x127.toNat)) (ld_own (i := ⟨.int .u8, 1, 1, (.int .u8 0)⟩) rfl rfl rfl hl177) hl177.c (d_next (by kernel_rfl) (dp (i6 (IntKind.i64.wrap (rd x128.1 x127.toNat))) rfl (by kernel_rfl) (dp (i6 a3) rfl (by kernel_rfl) (dp (i6 x127) rfl (by kernel_rfl) (d_cons ?_)))))
      obtain ⟨hc178, h⟩ := ifp_some h
      refine vq (.own 6 [x127.toNat] [x127.toNat * 1]) rfl hc178 (d_next (by kernel_rfl) (d_cons ?_))
      have hl179 : LdOk [x127.toNat] (eA64u8 a2) [x127.toNat * 1] 1 false (b8 (rd a2.1 x127.toNat)) := (.arr (vlt a2 hc178) rfl (.nil rfl rfl rfl))
      refine vq (b8 (rd a2.1 x127.toNat)) (ld_own (i := ⟨.int .u8, 1, 1, (.int .u8 0)⟩) rfl rfl rfl hl179) hl179.c (d_next (by kernel_rfl) (dp (i6 (IntKind.i64.wrap (rd a2.1 x127.toNat))) rfl (by kernel_rfl) (d_cons ?_)))
      obtain ⟨x180, hx181, h⟩ := letp_some h
      refine a_val' (v := (i6 (IntKind.i64.wrap (a3 * (IntKind.i64.wrap (rd a2.1 x127.toNat)))))) (v' := (i6 x180)) (u := []) (u' := []) rfl (congrArg (fun z => ((i6 z) : AV)) hx181) rfl trivial rfl (d_next (by kernel_rfl) (d_cons ?_))
      obtain ⟨x182, hx183, h⟩ := letp_some h
      refine a_val' (v := (i6 (IntKind.i64.wrap ((IntKind.i64.wrap (rd x128.1 x127.toNat)) + x180)))) (v' := (i6 x182)) (u := []) (u' := []) rfl (congrArg (fun z => ((i6 z) : AV)) hx183) rfl trivial rfl (d_next (by kernel_rfl) (dp (i6 a0) rfl (by kernel_rfl) (d_cons ?_)))
      obtain ⟨hc184, h⟩ := ifp_some h
      refine vq (i6 (Int.tmod x182 a0)) rfl hc184 (d_next (by kernel_rfl) (dp (i6 a0) rfl (by kernel_rfl) (dp (i6 (IntKind.i64.wrap ((Int.tmod x182 a0) + a0))) rfl (by kernel_rfl) (dp (i6 a0) rfl (by kernel_rfl) (d_cons ?_)))))
      obtain ⟨hc185, h⟩ := ifp_some h
      refine vq (i6 (Int.tmod (IntKind.i64.wrap ((Int.tmod x182 a0) + a0)) a0)) rfl hc185 (d_next (by kernel_rfl) (d_cons ?_))
      obtain ⟨x186, hx187, h⟩ := letp_some h
      refine a_val' (v := (b8 (IntKind.u8.wrap (Int.tmod (IntKind.i64.wrap ((Int.tmod x182 a0) + a0)) a0)))) (v' := (b8 x186)) (u := []) (u' := []) rfl (congrArg (fun z => ((b8 z) : AV)) hx187) rfl trivial rfl (d_next (by kernel_rfl) (d_cons ?_))
      obtain ⟨hc188, h⟩ := ifp_some h
      refine vq (.own 5 [x127.toNat] [x127.toNat * 1]) rfl hc188 (d_next (by kernel_rfl) (d_cons ?_))
      have hs189 : StOk [x127.toNat] (eA64u8 x128) [x127.toNat * 1] 1 (b8 x186) (eA64u8 (vset x128 x127.toNat x186)) := (.arr (y := x186) (vlt x128 hc188) rfl (.nil rfl rfl rfl rfl))
      refine vu .top [(5, (bk (eA64u8 (vset x128 x127.toNat x186))))] (st_own (i := ⟨.int .u8, 1, 1, (.int .u8 0)⟩) rfl rfl (fun _ => rfl) rfl hs189) (hs189.c rfl) rfl (d_next (by kernel_rfl) (d_nil (b_norm (a_next (σ' := ⟨[(0, (i6 a0)), (3, (i6 a3)), (5, (ow 5)), (6, (ow 6)), (8, (ow 8)), (9, (i6 x127))], [(5, (bk (eA64u8 (vset x128 x127.toNat x186)))), (6, (bk (eA64u8 a2))), (8, (bk (eA64u8 ((vrep 64 (0 : Int))))))]⟩) (by kernel_rfl) (a_region (vp (i6 x127) rfl (vp (i6 (IntKind.i64.wrap (x127 + 1))) rfl (vp (i6 (IntKind.i64.wrap (x127 + 1))) rfl (a_nil ?_)))))))))
      cases h
      exact a_again (by kernel_rfl) hX160
def spec_l01MulMod_c : ACode := (.seq (.region 0 [q 5 (.box 26 (t 1)), q 6 (.box 26 (t 2)), q 7 (.box 26 (t 3)), q 8 (.alloc 26)] false) (.seq (.region 1 [q 11 (.build 26 []), q 9 (.alloc 26), ⟨none, .store 26 (t 9) (t 11), none, []⟩] false) (.seq (.seq (.region 2 [q 12 (.load 26 (t 6)), q 13 (.call 0 (.func 34) [(t 12)]), q 10 (.asg 0 (t 13) 2)] false) (.block 0 (.loop (.seq (.seq (.region 3 [q 14 (.mov (t 10)), q 15 (.bin .geq 2 (t 14) (.const (.int .i64 0)))] false) (.cond (t 15) .skip (.exit 0))) (.seq (.block 1 (.seq (.region 5 [q 18 (.mov (t 0)), q 19 (.load 26 (t 9)), q 20 (.load 26 (t 7)), q 21 (.call 0 (.func 119) [(t 18), (t 19), (t 20)]), ⟨none, .store 26 (t 9) (t 21), none, []⟩] false) (.region 6 [q 22 (.mov (t 0)), q 23 (.mov (t 0)), q 24 (.load 26 (t 9)), q 25 (.load 26 (t 5)), q 26 (.mov (t 10)), ⟨some 27, .indexAddr 26 (t 6) (t 26), none, [4]⟩, ⟨some 28, .load 5 (t 27), none, [5]⟩, ⟨some 29, .conv 5 2 (t 28), none, [6]⟩, ⟨some 30, .call 0 (.func 73) [(t 23), (t 24), (t 25), (t 29)], none, [1, 2, 3, 7]⟩, q 31 (.load 26 (t 7)), ⟨some 32, .call 0 (.func 77) [(t 22), (t 30), (t 31)], none, [0, 8, 9, 8]⟩, ⟨none, .store 26 (t 9) (t 32), none, [10, 10, 0, 1, 2, 3, 4, 5, 6, 7, 8, 9, 10]⟩] true))) (.region 4 [q 16 (.mov (t 10)), q 17 (.bin .sub 2 (t 16) (.const (.int .i64 1))), q 10 (.asg 0 (t 17) 2)] false)))))) (.seq (.region 7 [q 33 (.load 26 (t 9)), ⟨none, .store 26 (t 8) (t 33), none, []⟩] false) .ret))))
def spec_l01MulMod_L : Live := [(0, [0, 1, 2, 3]), (1, [0, 5, 6, 7, 8]), (2, [0, 5, 6, 7, 8, 9]), (3, [0, 5, 6, 7, 8, 9, 10]), (4, [0, 5, 6, 7, 8, 9, 10]), (5, [0, 5, 6, 7, 8, 9, 10]), (6, [0, 5, 6, 7, 8, 9, 10]), (7, [8, 9]), (100015, [0, 5, 6, 7, 8, 9, 10, 15])]
noncomputable def spec_l01MulMod_l1 (a0 : Int) (a3 : (Vec Int 64)) (a1 : (Vec Int 64)) (a2 : (Vec Int 64)) (x122 : Int) (x123 : (Vec Int 64)) : Option ((Int × (Vec Int 64)) ⊕ (Vec Int 64)) :=
  (if (decide (x122 ≥ 0)) then (Option.bind (spec_l01Up a0 x123 a3) fun r156 => (ifp (0 ≤ x122 ∧ x122 < ((64 : Nat) : Int)) ((Option.bind (spec_l01Add a0 r156 a1 (IntKind.i64.wrap (rd a2.1 x122.toNat))) fun r173 => (Option.bind (spec_l01Mod a0 r173 a3) fun r176 => (some (.inl ((IntKind.i64.wrap (x122 - 1), r176))))))))) else (some (.inr x123)))
noncomputable def spec_l01MulMod (a0 : Int) (a1 : (Vec Int 64)) (a2 : (Vec Int 64)) (a3 : (Vec Int 64)) : Option (Vec Int 64) :=
  (Option.bind (α := (Vec Int 64)) ((Option.bind (spec_l01Deg a2) fun r94 => (loopM (fun s : (Int × (Vec Int 64)) => spec_l01MulMod_l1 a0 a3 a1 a2 s.1 s.2) (r94, (vrep 64 (0 : Int)))))) fun x89 => (some x89))
theorem spec_l01MulMod_ok (a0 : Int) (a1 : (Vec Int 64)) (a2 : (Vec Int 64)) (a3 : (Vec Int 64)) (r : (Vec Int 64)) (h : spec_l01MulMod a0 a1 a2 a3 = some r) : Den Try.prog 106 [(i6 a0), (eA64u8 a1), (eA64u8 a2), (eA64u8 a3)] { r := (eA64u8 r) } := by
  refine den_of (rs := [(eA64u8 r)]) (ac := spec_l01MulMod_c) (L := spec_l01MulMod_L) (n := 34) (m := []) (c := Try.f106.body.getD .skip) good Try.func106 (by kernel_rfl) (by kernel_rfl) Try.ntmps106 rfl rfl (by kernel_rfl) rfl rfl ?_
  refine a_st (σ' := ⟨[(0, (i6 a0)), (1, (eA64u8 a1)), (2, (eA64u8 a2)), (3, (eA64u8 a3))], []⟩) (by kernel_rfl) ?_
  unfold spec_l01MulMod_c
  refine sr (vo 1500 (eA64u8 a1) rfl rfl (vo 1600 (eA64u8 a2) rfl rfl (vo 1700 (eA64u8 a3) rfl rfl (vo 1800 (eA64u8 ((vrep 64 (0 : Int)))) rfl rfl (nx ⟨[(0, (i6 a0)), (5, (ow 5)), (6, (ow 6)), (7, (ow 7)), (8, (ow 8))], [(5, (bk (eA64u8 a1))), (6, (bk (eA64u8 a2))), (7, (bk (eA64u8 a3))), (8, (bk (eA64u8 ((vrep 64 (0 : Int))))))]⟩ (by kernel_rfl) (sr (vq (eA64u8 ((vrep 64 (0 : Int)))) rfl ⟨⟨_, rfl, rfl⟩, all_nil⟩ (vo 1900 (eA64u8 ((vrep 64 (0 : Int)))) rfl rfl (vs (eA64u8 ((vrep 64 (0 : Int)))) rfl rfl (fun _ => rfl) rfl rfl rfl rfl rfl rfl ?_)))))))))
  refine nx ⟨[(0, (i6 a0)), (5, (ow 5)), (6, (ow 6)), (7, (ow 7)), (8, (ow 8)), (9, (ow 9))], [(5, (bk (eA64u8 a1))), (6, (bk (eA64u8 a2))), (7, (bk (eA64u8 a3))), (8, (bk (eA64u8 ((vrep 64 (0 : Int)))))), (9, (bk (eA64u8 ((vrep 64 (0 : Int))))))]⟩ (by kernel_rfl) ?_
  obtain ⟨y90, hy91, hk92⟩ := bind_some h
  clear h
  refine a_join (emb := fun (s : (Vec Int 64)) => ⟨[(8, (ow 8)), (9, (ow 9))], [(8, (bk (eA64u8 ((vrep 64 (0 : Int)))))), (9, (bk (eA64u8 s)))]⟩) (pre := fun s => s = y90) ?_ ?_
  · rintro x89 rfl
    have h := hk92
    refine a_st (σ' := ⟨[(8, (ow 8)), (9, (ow 9))], [(8, (bk (eA64u8 ((vrep 64 (0 : Int)))))), (9, (bk (eA64u8 x89)))]⟩) (by kernel_rfl) (sr (vl (eA64u8 x89) rfl rfl rfl rfl rfl rfl (vs (eA64u8 x89) rfl rfl (fun _ => rfl) rfl rfl rfl rfl rfl rfl (nx _ rfl (a_ret ?_)))))
    have hl182 : LdOk [] (eA64u8 x89) [] 64 true (eA64u8 x89) := (.nil rfl rfl rfl)
    refine ⟨.inr rfl, ?_⟩
    rw [Try.results106]
    cases h
    exact ⟨_, _, _, _, _, ld_own (i := ⟨.arr 64 5, 64, 64, (eA64u8 (vrep 64 (0 : Int)))⟩) rfl rfl rfl hl182, hl182.c, .inl ⟨rfl, .inl rfl⟩, rfl, rfl⟩
  · have h := hy91
    refine sr (vl (eA64u8 a2) rfl rfl rfl rfl rfl rfl ?_)
    obtain ⟨r94, hr95, h⟩ := bind_some h
    refine a_call (args := [(eA64u8 a2)]) (u := []) (r := (i6 r94)) rfl rfl (spec_l01Deg_ok a2 r94 hr95) rfl (vp (i6 r94) rfl (nx ⟨[(0, (i6 a0)), (5, (ow 5)), (6, (ow 6)), (7, (ow 7)), (8, (ow 8)), (9, (ow 9)), (10, (i6 r94))], [(5, (bk (eA64u8 a1))), (6, (bk (eA64u8 a2))), (7, (bk (eA64u8 a3))), (8, (bk (eA64u8 ((vrep 64 (0 : Int)))))), (9, (bk (eA64u8 ((vrep 64 (0 : Int))))))]⟩ (by kernel_rfl) (a_block ?_)))
    refine a_loop (emb := fun (s : (Int × (Vec Int 64))) => ⟨[(0, (i6 a0)), (5, (ow 5)), (6, (ow 6)), (7, (ow 7)), (8, (ow 8)), (9, (ow 9)), (10, (i6 s.1))], [(5, (bk (eA64u8 a1))), (6, (bk (eA64u8 a2))), (7, (bk (eA64u8 a3))), (8, (bk (eA64u8 ((vrep 64 (0 : Int)))))), (9, (bk (eA64u8 s.2)))]⟩) (body := (fun s : (Int × (Vec Int 64)) => spec_l01MulMod_l1 a0 a3 a1 a2 s.1 s.2)) (G := fun q => some q = some y90) h rfl ?_ (by kernel_rfl)
    rintro X150 ⟨x122, x123⟩ x151 h hX152
    have h : spec_l01MulMod_l1 a0 a3 a1 a2 x122 x123 = some x151 := h
    refine a_st (σ' := ⟨[(0, (i6 a0)), (5, (ow 5)), (6, (ow 6)), (7, (ow 7)), (8, (ow 8)), (9, (ow 9)), (10, (i6 x122))], [(5, (bk (eA64u8 a1))), (6, (bk (eA64u8 a2))), (7, (bk (eA64u8 a3))), (8, (bk (eA64u8 ((vrep 64 (0 : Int)))))), (9, (bk (eA64u8 x123)))]⟩) (by kernel_rfl) (a_seq (sr (vp (i6 x122) rfl (vp (.bool ((decide (x122 ≥ 0)))) rfl (nx ⟨[(0, (i6 a0)), (5, (ow 5)), (6, (ow 6)), (7, (ow 7)), (8, (ow 8)), (9, (ow 9)), (10, (i6 x122)), (15, (.bool ((decide (x122 ≥ 0)))))], [(5, (bk (eA64u8 a1))), (6, (bk (eA64u8 a2))), (7, (bk (eA64u8 a3))), (8, (bk (eA64u8 ((vrep 64 (0 : Int)))))), (9, (bk (eA64u8 x123)))]⟩ (by kernel_rfl) ?_)))))
    cases hb153 : (decide (x122 ≥ 0))
    · have h := ite_f hb153 h
      refine a_cond_f rfl (a_exit (t_exit ?_))
      cases h
      have h := hX152
      refine t_exit (b_exit ?_)
      exact j_leaf x123 (Option.some.inj h) (by kernel_rfl)
    · have h := ite_t hb153 h
      refine a_cond_t rfl (a_skip (a_next (σ' := ⟨[(0, (i6 a0)), (5, (ow 5)), (6, (ow 6)), (7, (ow 7)), (8, (ow 8)), (9, (ow 9)), (10, (i6 x122))], [(5, (bk (eA64u8 a1))), (6, (bk (eA64u8 a2))), (7, (bk (eA64u8 a3))), (8, (bk (eA64u8 ((vrep 64 (0 : Int)))))), (9, (bk (eA64u8 x123)))]⟩) (by kernel_rfl) (a_seq (a_block (sr (vp (i6 a0) rfl (vl (eA64u8 x123) rfl rfl rfl rfl rfl rfl (vl (eA64u8 a3) rfl rfl rfl rfl rfl rfl ?_))))))))
      obtain ⟨r156, hr157, h⟩ := bind_some h
      refine a_call (args := [(i6 a0), (eA64u8 x123), (eA64u8 a3)]) (u := []) (r := (eA64u8 r156)) rfl rfl (spec_l01Up_ok a0 x123 a3 r156 hr157) rfl (vs (eA64u8 r156) rfl rfl (fun _ => rfl) rfl rfl rfl rfl rfl rfl (nx ⟨[(0, (i6 a0)), (5, (ow 5)), (6, (ow 6)), (7, (ow 7)), (8, (ow 8)), (9, (ow 9)), (10, (i6 x122))], [(5, (bk (eA64u8 a1))), (6, (bk (eA64u8 a2))), (7, (bk (eA64u8 a3))), (8, (bk (eA64u8 ((vrep 64 (0 : Int)))))), (9, (bk (eA64u8 r156)))]⟩ (by kernel_rfl) (a_draw [⟨[], [], [], []⟩, ⟨[], [], [], []⟩, ⟨[9], [], [], []⟩, ⟨[5], [], [], []⟩, ⟨[], [], [], []⟩, ⟨[6], [], [6], [4]⟩, ⟨[6], [], [], [4, 5]⟩, ⟨[], [], [], [4, 5, 6]⟩, ⟨[], [], [], [1, 2, 3, 4, 5, 6, 7]⟩, ⟨[7], [], [], []⟩, ⟨[], [], [], [0, 1, 2, 3, 4, 5, 6, 7, 8, 9]⟩, ⟨[9], [9], [], [0, 1, 2, 3, 4, 5, 6, 7, 8, 9, 10]⟩] (by kernel_rfl) (dp (i6 a0) rfl (by kernel_rfl) (dp (i6 a0) rfl (by kernel_rfl) (d_cons (vl (eA64u8 r156) rfl rfl rfl rfl rfl rfl (d_next (by kernel_rfl) (d_cons ?_)))))))))
      refine vl (eA64u8 a1) rfl rfl rfl rfl rfl rfl (d_next (by kernel_rfl) (dp (i6 x122) rfl (by kernel_rfl) (d_cons ?_)))
      obtain ⟨hc171, h⟩ := ifp_some h
      refine vq (.own 6 [x122.toNat] [x122.toNat * 1]) rfl hc171 (d_next (by kernel_rfl) (d_cons ?_))
      have hl172 : LdOk [x122.toNat] (eA64u8 a2) [x122.toNat * 1] 1 false (b8 (rd a2.1 x122.toNat)) := (.arr (vlt a2 hc171) rfl (.nil rfl rfl rfl))
      refine vq (b8 (rd a2.1 x122.toNat)) (ld_own (i := ⟨.int .u8, 1, 1, (.int .u8 0)⟩) rfl rfl rfl hl172) hl172.c (d_next (by kernel_rfl) (dp (i6 (IntKind.i64.wrap (rd a2.1 x122.toNat))) rfl (by kernel_rfl) (d_cons ?_)))
      obtain ⟨r173, hr174, h⟩ := bind_some h
      refine a_call (args := [(i6 a0), (eA64u8 r156), (eA64u8 a1), (i6 (IntKind.i64.wrap (rd a2.1 x122.toNat)))]) (u := []) (r := (eA64u8 r173)) rfl rfl (spec_l01Add_ok a0 r156 a1 (IntKind.i64.wrap (rd a2.1 x122.toNat)) r173 hr174) rfl (d_next (by kernel_rfl) (d_cons (vl (eA64u8 a3) rfl rfl rfl rfl rfl rfl (d_next (by kernel_rfl) (d_cons ?_)))))
      obtain ⟨r176, hr177, h⟩ := bind_some h
      refine a_call (args := [(i6 a0), (eA64u8 r173), (eA64u8 a3)]) (u := []) (r := (eA64u8 r176)) rfl rfl (spec_l01Mod_ok a0 r173 a3 r176 hr177) rfl (d_next (by kernel_rfl) (d_cons (vs (eA64u8 r176) rfl rfl (fun _ => rfl) rfl rfl rfl rfl rfl rfl (d_next (by kernel_rfl) (d_nil (b_norm (a_next (σ' := ⟨[(0, (i6 a0)), (5, (ow 5)), (6, (ow 6)), (7, (ow 7)), (8, (ow 8)), (9, (ow 9)), (10, (i6 x122))], [(5, (bk (eA64u8 a1))), (6, (bk (eA64u8 a2))), (7, (bk (eA64u8 a3))), (8, (bk (eA64u8 ((vrep 64 (0 : Int)))))), (9, (bk (eA64u8 r176)))]⟩) (by kernel_rfl) (a_region (vp (i6 x122) rfl ?_)))))))))
      refine vp (i6 (IntKind.i64.wrap (x122 - 1))) rfl (vp (i6 (IntKind.i64.wrap (x122 - 1))) rfl (a_nil ?_))
      cases h
      exact a_again (by kernel_rfl) hX152
def spec_l01One_c : ACode := (.seq (.region 0 [q 0 (.alloc 26)] false) (.seq (.region 1 [q 1 (.build 26 [(0, (.const (.int .u8 1)))]), ⟨none, .store 26 (t 0) (t 1), none, []⟩] false) .ret))
def spec_l01One_L : Live := [(0, []), (1, [0])]
noncomputable def spec_l01One  : Option (Vec Int 64) :=
  (some ((vset (vrep 64 (0 : Int)) 0 1)))
theorem spec_l01One_ok  (r : (Vec Int 64)) (h : spec_l01One = some r) : Den Try.prog 79 [] { r := (eA64u8 r) } := by
  refine den_of (rs := [(eA64u8 r)]) (ac := spec_l01One_c) (L := spec_l01One_L) (n := 2) (m := []) (c := Try.f79.body.getD .skip) good Try.func79 (by kernel_rfl) (by kernel_rfl) Try.ntmps79 rfl rfl (by kernel_rfl) rfl rfl ?_
  refine a_st (σ' := ⟨[], []⟩) (by kernel_rfl) ?_
  unfold spec_l01One_c
  refine sr (vo 1000 (eA64u8 ((vrep 64 (0 : Int)))) rfl rfl (nx ⟨[(0, (ow 0))], [(0, (bk (eA64u8 ((vrep 64 (0 : Int))))))]⟩ (by kernel_rfl) (sr (vq (eA64u8 ((vset (vrep 64 (0 : Int)) 0 1))) rfl ⟨⟨_, rfl, rfl⟩, (all_cons ⟨(Nat.le_of_ble_eq_true rfl), rfl⟩ all_nil)⟩ (vs (eA64u8 ((vset (vrep 64 (0 : Int)) 0 1))) rfl rfl (fun _ => rfl) rfl rfl rfl rfl rfl rfl (nx _ rfl (a_ret ?_)))))))
  have hl2 : LdOk [] (eA64u8 ((vset (vrep 64 (0 : Int)) 0 1))) [] 64 true (eA64u8 ((vset (vrep 64 (0 : Int)) 0 1))) := (.nil rfl rfl rfl)
  refine ⟨.inr rfl, ?_⟩
  rw [Try.results79]
  cases h
  exact ⟨_, _, _, _, _, ld_own (i := ⟨.arr 64 5, 64, 64, (eA64u8 (vrep 64 (0 : Int)))⟩) rfl rfl rfl hl2, hl2.c, .inl ⟨rfl, .inl rfl⟩, rfl, rfl⟩
def spec_l01PowMod_c : ACode := (.seq (.region 0 [q 5 (.box 26 (t 1)), q 7 (.box 26 (t 3)), q 8 (.alloc 26)] false) (.seq (.region 1 [q 11 (.mov (t 0)), q 12 (.call 0 (.func 79) []), q 13 (.load 26 (t 7)), ⟨some 14, .call 0 (.func 77) [(t 11), (t 12), (t 13)], none, [0, 1, 2, 1]⟩, q 15 (.mov (t 0)), q 16 (.load 26 (t 5)), q 17 (.load 26 (t 7)), ⟨some 18, .call 0 (.func 77) [(t 15), (t 16), (t 17)], none, [4, 5, 6, 3]⟩, q 9 (.alloc 26), q 10 (.alloc 26), ⟨none, .store 26 (t 9) (t 14), none, [8, 3, 7, 0, 1, 2, 3, 8, 9]⟩, ⟨none, .store 26 (t 10) (t 18), none, [9, 7, 10, 0, 1, 2, 3, 4, 5, 6, 7, 8, 9, 10]⟩] true) (.seq (.block 0 (.loop (.seq (.seq (.region 2 [q 19 (.mov (t 2)), q 20 (.bin .gtr 2 (t 19) (.const (.int .i64 0)))] false) (.cond (t 20) .skip (.exit 0))) (.seq (.block 1 (.seq (.seq (.region 4 [q 23 (.mov (t 2)), q 24 (.bin .rem 2 (t 23) (.const (.int .i64 2))), q 25 (.bin .eql 2 (t 24) (.const (.int .i64 1)))] false) (.cond (t 25) (.region 5 [q 26 (.mov (t 0)), q 27 (.load 26 (t 9)), q 28 (.load 26 (t 10)), q 29 (.load 26 (t 7)), q 30 (.call 0 (.func 106) [(t 26), (t 27), (t 28), (t 29)]), ⟨none, .store 26 (t 9) (t 30), none, []⟩] false) .skip)) (.region 6 [q 31 (.mov (t 0)), q 32 (.load 26 (t 10)), q 33 (.load 26 (t 10)), q 34 (.load 26 (t 7)), q 35 (.call 0 (.func 106) [(t 31), (t 32), (t 33), (t 34)]), ⟨none, .store 26 (t 10) (t 35), none, []⟩] false))) (.region 3 [q 21 (.mov (t 2)), q 22 (.bin .quo 2 (t 21) (.const (.int .i64 2))), q 2 (.asg 0 (t 22) 2)] false))))) (.seq (.region 7 [q 36 (.load 26 (t 9)), ⟨none, .store 26 (t 8) (t 36), none, []⟩] false) .ret))))
def spec_l01PowMod_L : Live := [(0, [0, 1, 2, 3]), (1, [0, 2, 5, 7, 8]), (2, [0, 2, 7, 8, 9, 10]), (3, [0, 2, 7, 8, 9, 10]), (4, [0, 2, 7, 8, 9, 10]), (5, [0, 2, 7, 8, 9, 10]), (6, [0, 2, 7, 8, 9, 10]), (7, [8, 9]), (100020, [0, 2, 7, 8, 9, 10, 20]), (100025, [0, 2, 7, 8, 9, 10, 25])]
noncomputable def spec_l01PowMod_l1 (a0 : Int) (a3 : (Vec Int 64)) (x134 : Int) (x135 : (Vec Int 64)) (x136 : (Vec Int 64)) : Option ((Int × (Vec Int 64) × (Vec Int 64)) ⊕ (Vec Int 64)) :=
  (if (decide (x134 > 0)) then (Option.bind (α := (Vec Int 64)) ((if ((Int.tmod x134 2) == 1) then (Option.bind (spec_l01MulMod a0 x135 x136 a3) fun r181 => (some r181)) else (some x135))) fun x173 => (Option.bind (spec_l01MulMod a0 x136 x136 a3) fun r187 => (some (.inl ((IntKind.i64.wrap (Int.tdiv x134 2), x173, r187)))))) else (some (.inr x135)))
noncomputable def spec_l01PowMod (a0 : Int) (a1 : (Vec Int 64)) (a2 : Int) (a3 : (Vec Int 64)) : Option (Vec Int 64) :=
  (Option.bind (spec_l01One) fun r12 => (Option.bind (spec_l01Mod a0 r12 a3) fun r15 => (Option.bind (spec_l01Mod a0 a1 a3) fun r19 => (Option.bind (α := (Vec Int 64)) ((loopM (fun s : (Int × (Vec Int 64) × (Vec Int 64)) => spec_l01PowMod_l1 a0 a3 s.1 s.2.1 s.2.2) (a2, r15, r19))) fun x105 => (some x105)))))
theorem spec_l01PowMod_ok (a0 : Int) (a1 : (Vec Int 64)) (a2 : Int) (a3 : (Vec Int 64)) (r : (Vec Int 64)) (h : spec_l01PowMod a0 a1 a2 a3 = some r) : Den Try.prog 108 [(i6 a0), (eA64u8 a1), (i6 a2), (eA64u8 a3)] { r := (eA64u8 r) } := by
  refine den_of (rs := [(eA64u8 r)]) (ac := spec_l01PowMod_c) (L := spec_l01PowMod_L) (n := 37) (m := []) (c := Try.f108.body.getD .skip) good Try.func108 (by kernel_rfl) (by kernel_rfl) Try.ntmps108 rfl rfl (by kernel_rfl) rfl rfl ?_
  refine a_st (σ' := ⟨[(0, (i6 a0)), (1, (eA64u8 a1)), (2, (i6 a2)), (3, (eA64u8 a3))], []⟩) (by kernel_rfl) ?_
  unfold spec_l01PowMod_c
  refine sr (vo 1500 (eA64u8 a1) rfl rfl (vo 1700 (eA64u8 a3) rfl rfl (vo 1800 (eA64u8 ((vrep 64 (0 : Int)))) rfl rfl (nx ⟨[(0, (i6 a0)), (2, (i6 a2)), (5, (ow 5)), (7, (ow 7)), (8, (ow 8))], [(5, (bk (eA64u8 a1))), (7, (bk (eA64u8 a3))), (8, (bk (eA64u8 ((vrep 64 (0 : Int))))))]⟩ (by kernel_rfl) (a_seq (a_draw [⟨[], [], [], []⟩, ⟨[], [], [], []⟩, ⟨[7], [], [], []⟩, ⟨[], [], [], [0, 1, 2]⟩, ⟨[], [], [], []⟩, ⟨[5], [], [], []⟩, ⟨[7], [], [], []⟩, ⟨[], [], [], [0, 1, 2, 3, 4, 5, 6]⟩, ⟨[1900], [1900], [1900], []⟩, ⟨[2000], [2000], [2000], []⟩, ⟨[1900], [1900], [], [0, 1, 2, 3, 4, 5, 6, 7, 8, 9]⟩, ⟨[2000], [2000], [], [0, 1, 2, 3, 4, 5, 6, 7, 8, 9, 10]⟩] (by kernel_rfl) (dp (i6 a0) rfl (by kernel_rfl) (d_cons ?_))))))))
  obtain ⟨r12, hr13, h⟩ := bind_some h
  refine a_call (args := []) (u := []) (r := (eA64u8 r12)) rfl rfl (spec_l01One_ok r12 hr13) rfl (d_next (by kernel_rfl) (d_cons (vl (eA64u8 a3) rfl rfl rfl rfl rfl rfl (d_next (by kernel_rfl) (d_cons ?_)))))
  obtain ⟨r15, hr16, h⟩ := bind_some h
  refine a_call (args := [(i6 a0), (eA64u8 r12), (eA64u8 a3)]) (u := []) (r := (eA64u8 r15)) rfl rfl (spec_l01Mod_ok a0 r12 a3 r15 hr16) rfl (d_next (by kernel_rfl) (dp (i6 a0) rfl (by kernel_rfl) (d_cons (vl (eA64u8 a1) rfl rfl rfl rfl rfl rfl (d_next (by kernel_rfl) (d_cons (vl (eA64u8 a3) rfl rfl rfl rfl rfl rfl (d_next (by kernel_rfl) (d_cons ?_)))))))))
  obtain ⟨r19, hr20, h⟩ := bind_some h
  refine a_call (args := [(i6 a0), (eA64u8 a1), (eA64u8 a3)]) (u := []) (r := (eA64u8 r19)) rfl rfl (spec_l01Mod_ok a0 a1 a3 r19 hr20) rfl (d_next (by kernel_rfl) (d_cons (vo 1900 (eA64u8 ((vrep 64 (0 : Int)))) rfl rfl (d_next (by kernel_rfl) (d_cons (vo 2000 (eA64u8 ((vrep 64 (0 : Int)))) rfl rfl (d_next (by kernel_rfl) (d_cons (vs (eA64u8 r15) rfl rfl (fun _ => rfl) rfl rfl rfl rfl rfl rfl ?_)))))))))
  refine d_next (by kernel_rfl) (d_cons (vs (eA64u8 r19) rfl rfl (fun _ => rfl) rfl rfl rfl rfl rfl rfl (d_next (by kernel_rfl) (d_nil (a_next (σ' := ⟨[(0, (i6 a0)), (2, (i6 a2)), (7, (ow 7)), (8, (ow 8)), (9, (ow 9)), (10, (ow 10))], [(7, (bk (eA64u8 a3))), (8, (bk (eA64u8 ((vrep 64 (0 : Int)))))), (9, (bk (eA64u8 r15))), (10, (bk (eA64u8 r19)))]⟩) (by kernel_rfl) ?_)))))
  obtain ⟨y106, hy107, hk108⟩ := bind_some h
  clear h
  refine a_join (emb := fun (s : (Vec Int 64)) => ⟨[(8, (ow 8)), (9, (ow 9))], [(8, (bk (eA64u8 ((vrep 64 (0 : Int)))))), (9, (bk (eA64u8 s)))]⟩) (pre := fun s => s = y106) ?_ ?_
  · rintro x105 rfl
    have h := hk108
    refine a_st (σ' := ⟨[(8, (ow 8)), (9, (ow 9))], [(8, (bk (eA64u8 ((vrep 64 (0 : Int)))))), (9, (bk (eA64u8 x105)))]⟩) (by kernel_rfl) (sr (vl (eA64u8 x105) rfl rfl rfl rfl rfl rfl (vs (eA64u8 x105) rfl rfl (fun _ => rfl) rfl rfl rfl rfl rfl rfl (nx _ rfl (a_ret ?_)))))
    have hl193 : LdOk [] (eA64u8 x105) [] 64 true (eA64u8 x105) := (.nil rfl rfl rfl)
    refine ⟨.inr rfl, ?_⟩
    rw [Try.results108]
    cases h
    exact ⟨_, _, _, _, _, ld_own (i := ⟨.arr 64 5, 64, 64, (eA64u8 (vrep 64 (0 : Int)))⟩) rfl rfl rfl hl193, hl193.c, .inl ⟨rfl, .inl rfl⟩, rfl, rfl⟩
  · have h := hy107
    refine a_block ?_
    refine a_loop (emb := fun (s : (Int × (Vec Int 64) × (Vec Int 64))) => ⟨[(0, (i6 a0)), (2, (i6 s.1)), (7, (ow 7)), (8, (ow 8)), (9, (ow 9)), (10, (ow 10))], [(7, (bk (eA64u8 a3))), (8, (bk (eA64u8 ((vrep 64 (0 : Int)))))), (9, (bk (eA64u8 s.2.1))), (10, (bk (eA64u8 s.2.2)))]⟩) (body := (fun s : (Int × (Vec Int 64) × (Vec Int 64)) => spec_l01PowMod_l1 a0 a3 s.1 s.2.1 s.2.2)) (G := fun q => some q = some y106) h rfl ?_ (by kernel_rfl)
    rintro X162 ⟨x134, x135, x136⟩ x163 h hX164
    have h : spec_l01PowMod_l1 a0 a3 x134 x135 x136 = some x163 := h
    refine a_st (σ' := ⟨[(0, (i6 a0)), (2, (i6 x134)), (7, (ow 7)), (8, (ow 8)), (9, (ow 9)), (10, (ow 10))], [(7, (bk (eA64u8 a3))), (8, (bk (eA64u8 ((vrep 64 (0 : Int)))))), (9, (bk (eA64u8 x135))), (10, (bk (eA64u8 x136)))]⟩) (by kernel_rfl) (a_seq (sr (vp (i6 x134) rfl (vp (.bool ((decide (x134 > 0)))) rfl (nx ⟨[(0, (i6 a0)), (2, (i6 x134)), (7, (ow 7)), (8, (ow 8)), (9, (ow 9)), (10, (ow 10)), (20, (.bool ((decide (x134 > 0)))))], [(7, (bk (eA64u8 a3))), (8, (bk (eA64u8 ((vrep 64 (0 : Int)))))), (9, (bk (eA64u8 x135))), (10, (bk (eA64u8 x136)))]⟩ (by kernel_rfl) ?_)))))
    cases hb165 : (decide (x134 > 0))
    · have h := ite_f hb165 h
      refine a_cond_f rfl (a_exit (t_exit ?_))
      cases h
      have h := hX164
      refine t_exit (b_exit ?_)
      exact j_leaf x135 (Option.some.inj h) (by kernel_rfl)
    · have h := ite_t hb165 h
      refine a_cond_t rfl (a_skip (a_next (σ' := ⟨[(0, (i6 a0)), (2, (i6 x134)), (7, (ow 7)), (8, (ow 8)), (9, (ow 9)), (10, (ow 10))], [(7, (bk (eA64u8 a3))), (8, (bk (eA64u8 ((vrep 64 (0 : Int)))))), (9, (bk (eA64u8 x135))), (10, (bk (eA64u8 x136)))]⟩) (by kernel_rfl) (a_seq (a_block ?_))))
      obtain ⟨y174, hy175, hk176⟩ := bind_some h
      clear h
      refine a_join (emb := fun (s : (Vec Int 64)) => ⟨[(0, (i6 a0)), (2, (i6 x134)), (7, (ow 7)), (8, (ow 8)), (9, (ow 9)), (10, (ow 10))], [(7, (bk (eA64u8 a3))), (8, (bk (eA64u8 ((vrep 64 (0 : Int)))))), (9, (bk (eA64u8 s))), (10, (bk (eA64u8 x136)))]⟩) (pre := fun s => s = y174) ?_ ?_
      · rintro x173 rfl
        have h := hk176
        refine a_st (σ' := ⟨[(0, (i6 a0)), (2, (i6 x134)), (7, (ow 7)), (8, (ow 8)), (9, (ow 9)), (10, (ow 10))], [(7, (bk (eA64u8 a3))), (8, (bk (eA64u8 ((vrep 64 (0 : Int)))))), (9, (bk (eA64u8 x173))), (10, (bk (eA64u8 x136)))]⟩) (by kernel_rfl) (a_region (vp (i6 a0) rfl (vl (eA64u8 x136) rfl rfl rfl rfl rfl rfl (vl (eA64u8 x136) rfl rfl rfl rfl rfl rfl (vl (eA64u8 a3) rfl rfl rfl rfl rfl rfl ?_)))))
        obtain ⟨r187, hr188, h⟩ := bind_some h
        refine a_call (args := [(i6 a0), (eA64u8 x136), (eA64u8 x136), (eA64u8 a3)]) (u := []) (r := (eA64u8 r187)) rfl rfl (spec_l01MulMod_ok a0 x136 x136 a3 r187 hr188) rfl (vs (eA64u8 r187) rfl rfl (fun _ => rfl) rfl rfl rfl rfl rfl rfl (a_nil (b_norm (a_next (σ' := ⟨[(0, (i6 a0)), (2, (i6 x134)), (7, (ow 7)), (8, (ow 8)), (9, (ow 9)), (10, (ow 10))], [(7, (bk (eA64u8 a3))), (8, (bk (eA64u8 ((vrep 64 (0 : Int)))))), (9, (bk (eA64u8 x173))), (10, (bk (eA64u8 r187)))]⟩) (by kernel_rfl) (a_region (vp (i6 x134) rfl (vq (i6 (IntKind.i64.wrap (Int.tdiv x134 2))) rfl (by decide) (vp (i6 (IntKind.i64.wrap (Int.tdiv x134 2))) rfl (a_nil ?_)))))))))
        cases h
        exact a_again (by kernel_rfl) hX164
      · have h := hy175
        refine sr (vp (i6 x134) rfl (vq (i6 (Int.tmod x134 2)) rfl (by decide) (vp (.bool (((Int.tmod x134 2) == 1))) rfl (nx ⟨[(0, (i6 a0)), (2, (i6 x134)), (7, (ow 7)), (8, (ow 8)), (9, (ow 9)), (10, (ow 10)), (25, (.bool (((Int.tmod x134 2) == 1))))], [(7, (bk (eA64u8 a3))), (8, (bk (eA64u8 ((vrep 64 (0 : Int)))))), (9, (bk (eA64u8 x135))), (10, (bk (eA64u8 x136)))]⟩ (by kernel_rfl) ?_))))
        cases hb177 : ((Int.tmod x134 2) == 1)
        · have h := ite_f hb177 h
          refine a_cond_f rfl (a_skip ?_)
          exact j_leaf x135 (Option.some.inj h) (by kernel_rfl)
        · have h := ite_t hb177 h
          refine a_cond_t rfl (a_region (vp (i6 a0) rfl (vl (eA64u8 x135) rfl rfl rfl rfl rfl rfl (vl (eA64u8 x136) rfl rfl rfl rfl rfl rfl (vl (eA64u8 a3) rfl rfl rfl rfl rfl rfl ?_)))))
          obtain ⟨r181, hr182, h⟩ := bind_some h
          refine a_call (args := [(i6 a0), (eA64u8 x135), (eA64u8 x136), (eA64u8 a3)]) (u := []) (r := (eA64u8 r181)) rfl rfl (spec_l01MulMod_ok a0 x135 x136 a3 r181 hr182) rfl (vs (eA64u8 r181) rfl rfl (fun _ => rfl) rfl rfl rfl rfl rfl rfl (a_nil ?_))
          exact j_leaf r181 (Option.some.inj h) (by kernel_rfl)
def spec_l04Step_c : ACode := (.seq (.region 0 [q 4 (.box 26 (t 1)), q 5 (.box 26 (t 2)), q 6 (.alloc 26)] false) (.seq (.region 1 [q 7 (.mov (t 0)), q 8 (.mov (t 0)), q 9 (.mov (t 0)), q 10 (.call 0 (.func 107) []), q 11 (.load 26 (t 5)), ⟨some 12, .call 0 (.func 77) [(t 9), (t 10), (t 11)], none, [2, 3, 4, 3]⟩, q 13 (.load 26 (t 4)), q 14 (.load 26 (t 5)), ⟨some 15, .call 0 (.func 106) [(t 8), (t 12), (t 13), (t 14)], none, [1, 5, 6, 7, 5]⟩, q 16 (.mov (t 0)), q 17 (.load 26 (t 4)), q 18 (.mov (t 0)), q 19 (.load 26 (t 5)), ⟨some 20, .call 0 (.func 108) [(t 16), (t 17), (t 18), (t 19)], none, [9, 10, 11, 12, 8]⟩, ⟨some 21, .call 0 (.func 73) [(t 7), (t 15), (t 20), (.const (.int .i64 1))], none, [0, 8, 13, 13]⟩, ⟨none, .store 26 (t 6) (t 21), none, [14, 14, 0, 1, 2, 3, 4, 5, 6, 7, 8, 9, 10, 11, 12, 13, 14]⟩] true) .ret))
def spec_l04Step_L : Live := [(0, [0, 1, 2]), (1, [0, 4, 5, 6])]
noncomputable def spec_l04Step (a0 : Int) (a1 : (Vec Int 64)) (a2 : (Vec Int 64)) : Option (Vec Int 64) :=
  (Option.bind (spec_l01T) fun r17 => (Option.bind (spec_l01Mod a0 r17 a2) fun r20 => (Option.bind (spec_l01MulMod a0 r20 a1 a2) fun r24 => (Option.bind (spec_l01PowMod a0 a1 a0 a2) fun r28 => (Option.bind (spec_l01Add a0 r24 r28 1) fun r30 => (some r30))))))
theorem spec_l04Step_ok (a0 : Int) (a1 : (Vec Int 64)) (a2 : (Vec Int 64)) (r : (Vec Int 64)) (h : spec_l04Step a0 a1 a2 = some r) : Den Try.prog 72 [(i6 a0), (eA64u8 a1), (eA64u8 a2)] { r := (eA64u8 r) } := by
  refine den_of (rs := [(eA64u8 r)]) (ac := spec_l04Step_c) (L := spec_l04Step_L) (n := 22) (m := []) (c := Try.f72.body.getD .skip) good Try.func72 (by kernel_rfl) (by kernel_rfl) Try.ntmps72 rfl rfl (by kernel_rfl) rfl rfl ?_
  refine a_st (σ' := ⟨[(0, (i6 a0)), (1, (eA64u8 a1)), (2, (eA64u8 a2))], []⟩) (by kernel_rfl) ?_
  unfold spec_l04Step_c
  refine sr (vo 1400 (eA64u8 a1) rfl rfl (vo 1500 (eA64u8 a2) rfl rfl (vo 1600 (eA64u8 ((vrep 64 (0 : Int)))) rfl rfl (nx ⟨[(0, (i6 a0)), (4, (ow 4)), (5, (ow 5)), (6, (ow 6))], [(4, (bk (eA64u8 a1))), (5, (bk (eA64u8 a2))), (6, (bk (eA64u8 ((vrep 64 (0 : Int))))))]⟩ (by kernel_rfl) (a_seq (a_draw [⟨[], [], [], []⟩, ⟨[], [], [], []⟩, ⟨[], [], [], []⟩, ⟨[], [], [], []⟩, ⟨[5], [], [], []⟩, ⟨[], [], [], [2, 3, 4]⟩, ⟨[4], [], [], []⟩, ⟨[5], [], [], []⟩, ⟨[], [], [], [1, 2, 3, 4, 5, 6, 7]⟩, ⟨[], [], [], []⟩, ⟨[4], [], [], []⟩, ⟨[], [], [], []⟩, ⟨[5], [], [], []⟩, ⟨[], [], [], [1, 2, 3, 4, 5, 6, 7, 8, 9, 10, 11, 12]⟩, ⟨[], [], [], [0, 1, 2, 3, 4, 5, 6, 7, 8, 9, 10, 11, 12, 13]⟩, ⟨[6], [6], [], [0, 1, 2, 3, 4, 5, 6, 7, 8, 9, 10, 11, 12, 13, 14]⟩] (by kernel_rfl) (dp (i6 a0) rfl (by kernel_rfl) (dp (i6 a0) rfl (by kernel_rfl) (dp (i6 a0) rfl (by kernel_rfl) ?_)))))))))
  refine d_cons ?_
  obtain ⟨r17, hr18, h⟩ := bind_some h
  refine a_call (args := []) (u := []) (r := (eA64u8 r17)) rfl rfl (spec_l01T_ok r17 hr18) rfl (d_next (by kernel_rfl) (d_cons (vl (eA64u8 a2) rfl rfl rfl rfl rfl rfl (d_next (by kernel_rfl) (d_cons ?_)))))
  obtain ⟨r20, hr21, h⟩ := bind_some h
  refine a_call (args := [(i6 a0), (eA64u8 r17), (eA64u8 a2)]) (u := []) (r := (eA64u8 r20)) rfl rfl (spec_l01Mod_ok a0 r17 a2 r20 hr21) rfl (d_next (by kernel_rfl) (d_cons (vl (eA64u8 a1) rfl rfl rfl rfl rfl rfl (d_next (by kernel_rfl) (d_cons (vl (eA64u8 a2) rfl rfl rfl rfl rfl rfl (d_next (by kernel_rfl) (d_cons ?_))))))))
  obtain ⟨r24, hr25, h⟩ := bind_some h
  refine a_call (args := [(i6 a0), (eA64u8 r20), (eA64u8 a1), (eA64u8 a2)]) (u := []) (r := (eA64u8 r24)) rfl rfl (spec_l01MulMod_ok a0 r20 a1 a2 r24 hr25) rfl (d_next (by kernel_rfl) (dp (i6 a0) rfl (by kernel_rfl) (d_cons (vl (eA64u8 a1) rfl rfl rfl rfl rfl rfl (d_next (by kernel_rfl) (dp (i6 a0) rfl (by kernel_rfl) (d_cons (vl (eA64u8 a2) rfl rfl rfl rfl rfl rfl (d_next (by kernel_rfl) ?_)))))))))
  refine d_cons ?_
  obtain ⟨r28, hr29, h⟩ := bind_some h
  refine a_call (args := [(i6 a0), (eA64u8 a1), (i6 a0), (eA64u8 a2)]) (u := []) (r := (eA64u8 r28)) rfl rfl (spec_l01PowMod_ok a0 a1 a0 a2 r28 hr29) rfl (d_next (by kernel_rfl) (d_cons ?_))
  obtain ⟨r30, hr31, h⟩ := bind_some h
  refine a_call (args := [(i6 a0), (eA64u8 r24), (eA64u8 r28), (i6 1)]) (u := []) (r := (eA64u8 r30)) rfl rfl (spec_l01Add_ok a0 r24 r28 1 r30 hr31) rfl (d_next (by kernel_rfl) (d_cons (vs (eA64u8 r30) rfl rfl (fun _ => rfl) rfl rfl rfl rfl rfl rfl (d_next (by kernel_rfl) (d_nil (a_next rfl (a_ret ?_)))))))
  have hl33 : LdOk [] (eA64u8 r30) [] 64 true (eA64u8 r30) := (.nil rfl rfl rfl)
  refine ⟨.inr rfl, ?_⟩
  rw [Try.results72]
  cases h
  exact ⟨_, _, _, _, _, ld_own (i := ⟨.arr 64 5, 64, 64, (eA64u8 (vrep 64 (0 : Int)))⟩) rfl rfl rfl hl33, hl33.c, .inl ⟨rfl, .inl rfl⟩, rfl, rfl⟩
def spec_l04Annihilator_c : ACode := (.seq (.region 0 [q 5 (.box 26 (t 2)), q 6 (.alloc 26)] false) (.seq (.region 1 [q 21 (.load 26 (t 5)), q 22 (.call 0 (.func 34) [(t 21)]), q 7 (.asg 0 (t 22) 2)] false) (.seq (.region 2 [q 23 (.bslice 2 62 0 []), q 24 (.bslice 2 62 0 []), q 8 (.asg 2 (t 23) 62), q 9 (.asg 2 (t 24) 62)] false) (.seq (.region 3 [q 25 (.bslice 0 62 0 []), q 26 (.mov (t 1)), q 27 (.blt 0 .append [(t 25), (t 26)] [62, 62]), q 10 (.asg 2 (t 27) 62)] false) (.seq (.region 4 [q 11 (.asg 0 (.const (.int .i64 0)) 2)] false) (.block 0 (.loop (.seq (.block 1 (.seq (.region 6 [q 30 (.build 26 []), q 31 (.build 26 []), q 12 (.alloc 26), q 13 (.alloc 26), ⟨none, .store 26 (t 12) (t 30), none, []⟩, ⟨none, .store 26 (t 13) (t 31), none, []⟩] false) (.seq (.seq (.region 7 [q 14 (.asg 0 (.const (.int .i64 0)) 3)] false) (.block 2 (.loop (.seq (.seq (.region 8 [q 32 (.mov (t 14)), q 33 (.mov (t 10)), q 34 (.blt 0 .len [(t 33)] [62]), q 35 (.bin .lss 3 (t 32) (t 34))] false) (.cond (t 35) .skip (.exit 2))) (.seq (.block 3 (.seq (.seq (.region 10 [q 15 (.asg 0 (.const (.int .i64 0)) 2)] false) (.block 4 (.loop (.seq (.seq (.region 11 [q 38 (.mov (t 15)), q 39 (.mov (t 7)), q 40 (.bin .lss 2 (t 38) (t 39))] false) (.cond (t 40) .skip (.exit 4))) (.seq (.block 5 (.region 13 [q 43 (.mov (t 14)), q 44 (.mov (t 7)), q 45 (.bin .mul 2 (t 43) (t 44)), q 46 (.mov (t 15)), q 47 (.bin .add 2 (t 45) (t 46)), q 48 (.mov (t 10)), q 49 (.mov (t 14)), q 50 (.mov (t 15)), q 51 (.indexAddr 62 (t 48) (t 49)), q 52 (.indexAddr 26 (t 51) (t 50)), q 53 (.load 5 (t 52)), q 54 (.indexAddr 26 (t 12) (t 47)), ⟨none, .store 5 (t 54) (t 53), none, []⟩] false)) (.region 12 [q 41 (.mov (t 15)), q 42 (.bin .add 2 (t 41) (.const (.int .i64 1))), q 15 (.asg 0 (t 42) 2)] false)))))) (.region 14 [q 55 (.mov (t 10)), q 56 (.mov (t 14)), q 57 (.mov (t 0)), q 58 (.mov (t 10)), q 59 (.mov (t 14)), ⟨some 60, .indexAddr 62 (t 58) (t 59), none, [3, 4]⟩, ⟨some 61, .load 26 (t 60), none, [5]⟩, q 62 (.load 26 (t 5)), ⟨some 63, .call 0 (.func 72) [(t 57), (t 61), (t 62)], none, [2, 6, 7]⟩, ⟨some 64, .indexAddr 62 (t 55) (t 56), none, [0, 1, 0, 1, 2, 3, 4, 5, 6, 7, 8]⟩, ⟨none, .store 26 (t 64) (t 63), none, [9, 8, 8, 0, 1, 2, 3, 4, 5, 6, 7, 8]⟩] true))) (.region 9 [q 36 (.mov (t 14)), q 37 (.bin .add 3 (t 36) (.const (.int .i64 1))), q 14 (.asg 0 (t 37) 3)] false)))))) (.seq (.region 15 [q 65 (.mov (t 11)), q 66 (.indexAddr 26 (t 13) (t 65)), ⟨none, .store 5 (t 66) (.const (.int .u8 1)), none, []⟩] false) (.seq (.seq (.region 16 [q 16 (.asg 0 (.const (.int .i64 0)) 3)] false) (.block 6 (.loop (.seq (.seq (.region 17 [q 67 (.mov (t 16)), q 68 (.mov (t 8)), q 69 (.blt 0 .len [(t 68)] [62]), q 70 (.bin .lss 3 (t 67) (t 69))] false) (.cond (t 70) .skip (.exit 6))) (.seq (.block 7 (.seq (.region 19 [q 73 (.mov (t 8)), q 74 (.mov (t 16)), q 75 (.indexAddr 62 (t 73) (t 74)), q 76 (.load 26 (t 75)), q 77 (.call 0 (.func 34) [(t 76)]), q 17 (.asg 0 (t 77) 2)] false) (.seq (.region 20 [q 78 (.mov (t 17)), q 79 (.indexAddr 26 (t 12) (t 78)), q 80 (.load 5 (t 79)), q 81 (.bin .neq 5 (t 80) (.const (.int .u8 0)))] false) (.cond (t 81) (.seq (.region 21 [q 82 (.mov (t 17)), q 83 (.indexAddr 26 (t 12) (t 82)), q 84 (.load 5 (t 83)), q 85 (.conv 5 2 (t 84)), q 86 (.un .neg (t 85)), q 18 (.asg 0 (t 86) 2)] false) (.seq (.region 22 [q 87 (.mov (t 0)), q 88 (.load 26 (t 12)), q 89 (.mov (t 8)), q 90 (.mov (t 16)), ⟨some 91, .indexAddr 62 (t 89) (t 90), none, [2, 3]⟩, ⟨some 92, .load 26 (t 91), none, [4]⟩, q 93 (.mov (t 18)), ⟨some 94, .call 0 (.func 73) [(t 87), (t 88), (t 92), (t 93)], none, [0, 1, 5, 6]⟩, ⟨none, .store 26 (t 12) (t 94), none, [7, 7, 0, 1, 2, 3, 4, 5, 6, 7]⟩] true) (.region 23 [q 95 (.mov (t 0)), q 96 (.load 26 (t 13)), q 97 (.mov (t 9)), q 98 (.mov (t 16)), ⟨some 99, .indexAddr 62 (t 97) (t 98), none, [2, 3]⟩, ⟨some 100, .load 26 (t 99), none, [4]⟩, q 101 (.mov (t 18)), ⟨some 102, .call 0 (.func 73) [(t 95), (t 96), (t 100), (t 101)], none, [0, 1, 5, 6]⟩, ⟨none, .store 26 (t 13) (t 102), none, [7, 7, 0, 1, 2, 3, 4, 5, 6, 7]⟩] true))) .skip)))) (.region 18 [q 71 (.mov (t 16)), q 72 (.bin .add 3 (t 71) (.const (.int .i64 1))), q 16 (.asg 0 (t 72) 3)] false)))))) (.seq (.region 24 [q 103 (.load 26 (t 12)), q 104 (.call 0 (.func 34) [(t 103)]), q 19 (.asg 0 (t 104) 2)] false) (.seq (.seq (.region 25 [q 105 (.mov (t 19)), q 106 (.bin .lss 2 (t 105) (.const (.int .i64 0)))] false) (.cond (t 106) (.seq (.region 26 [q 107 (.load 26 (t 13)), ⟨none, .store 26 (t 6) (t 107), none, []⟩] false) .ret) .skip)) (.seq (.region 27 [q 108 (.mov (t 0)), q 109 (.mov (t 19)), q 110 (.indexAddr 26 (t 12) (t 109)), q 111 (.load 5 (t 110)), q 112 (.call 0 (.func 74) [(t 108), (t 111)]), q 113 (.conv 5 2 (t 112)), q 20 (.asg 0 (t 113) 2)] false) (.seq (.region 28 [q 114 (.mov (t 8)), q 115 (.mov (t 0)), q 116 (.build 26 []), q 117 (.load 26 (t 12)), q 118 (.mov (t 20)), q 119 (.call 0 (.func 73) [(t 115), (t 116), (t 117), (t 118)]), q 120 (.bslice 0 62 1 [(0, (t 119))]), q 121 (.blt 0 .append [(t 114), (t 120)] [62, 62]), q 8 (.asg 2 (t 121) 62)] false) (.region 29 [q 122 (.mov (t 9)), q 123 (.mov (t 0)), q 124 (.build 26 []), q 125 (.load 26 (t 13)), q 126 (.mov (t 20)), q 127 (.call 0 (.func 73) [(t 123), (t 124), (t 125), (t 126)]), q 128 (.bslice 0 62 1 [(0, (t 127))]), q 129 (.blt 0 .append [(t 122), (t 128)] [62, 62]), q 9 (.asg 2 (t 129) 62)] false)))))))))) (.region 5 [q 28 (.mov (t 11)), q 29 (.bin .add 2 (t 28) (.const (.int .i64 1))), q 11 (.asg 0 (t 29) 2)] false)))))))))
def spec_l04Annihilator_L : Live := [(0, [0, 1, 2]), (1, [0, 1, 5, 6]), (2, [0, 1, 5, 6, 7]), (3, [0, 1, 5, 6, 7, 8, 9]), (4, [0, 5, 6, 7, 8, 9, 10]), (5, [0, 5, 6, 7, 8, 9, 10, 11]), (6, [0, 5, 6, 7, 8, 9, 10, 11]), (7, [0, 5, 6, 7, 8, 9, 10, 11, 12, 13]), (8, [0, 5, 6, 7, 8, 9, 10, 11, 12, 13, 14]), (9, [0, 5, 6, 7, 8, 9, 10, 11, 12, 13, 14]), (10, [0, 5, 6, 7, 8, 9, 10, 11, 12, 13, 14]), (11, [0, 5, 6, 7, 8, 9, 10, 11, 12, 13, 14, 15]), (12, [0, 5, 6, 7, 8, 9, 10, 11, 12, 13, 14, 15]), (13, [0, 5, 6, 7, 8, 9, 10, 11, 12, 13, 14, 15]), (14, [0, 5, 6, 7, 8, 9, 10, 11, 12, 13, 14]), (15, [0, 5, 6, 7, 8, 9, 10, 11, 12, 13]), (16, [0, 5, 6, 7, 8, 9, 10, 11, 12, 13]), (17, [0, 5, 6, 7, 8, 9, 10, 11, 12, 13, 16]), (18, [0, 5, 6, 7, 8, 9, 10, 11, 12, 13, 16]), (19, [0, 5, 6, 7, 8, 9, 10, 11, 12, 13, 16]), (20, [0, 5, 6, 7, 8, 9, 10, 11, 12, 13, 16, 17]), (21, [0, 5, 6, 7, 8, 9, 10, 11, 12, 13, 16, 17]), (22, [0, 5, 6, 7, 8, 9, 10, 11, 12, 13, 16, 18]), (23, [0, 5, 6, 7, 8, 9, 10, 11, 12, 13, 16, 18]), (24, [0, 5, 6, 7, 8, 9, 10, 11, 12, 13]), (25, [0, 5, 6, 7, 8, 9, 10, 11, 12, 13, 19]), (26, [6, 13]), (27, [0, 5, 6, 7, 8, 9, 10, 11, 12, 13, 19]), (28, [0, 5, 6, 7, 8, 9, 10, 11, 12, 13, 20]), (29, [0, 5, 6, 7, 8, 9, 10, 11, 13, 20]), (100035, [0, 5, 6, 7, 8, 9, 10, 11, 12, 13, 14, 35]), (100040, [0, 5, 6, 7, 8, 9, 10, 11, 12, 13, 14, 15, 40]), (100070, [0, 5, 6, 7, 8, 9, 10, 11, 12, 13, 16, 70]), (100081, [0, 5, 6, 7, 8, 9, 10, 11, 12, 13, 16, 17, 81]), (100106, [0, 5, 6, 7, 8, 9, 10, 11, 12, 13, 19, 106])]
noncomputable def spec_l04Annihilator_l3 (r2 : Int) (x2158 : Int) (x2159 : (List (Vec Int 64))) (x2266 : Int) (x2267 : (Vec Int 64)) : Option ((Int × (Vec Int 64)) ⊕ (Vec Int 64)) :=
  (if (decide (x2266 < r2)) then (ifp (0 ≤ x2158 ∧ x2158 < ((x2159.length : Nat) : Int)) ((ifp (0 ≤ x2266 ∧ x2266 < ((64 : Nat) : Int)) ((ifp (0 ≤ IntKind.i64.wrap ((IntKind.i64.wrap (x2158 * r2)) + x2266) ∧ IntKind.i64.wrap ((IntKind.i64.wrap (x2158 * r2)) + x2266) < ((64 : Nat) : Int)) ((some (.inl ((IntKind.i64.wrap (x2266 + 1), (vset x2267 (IntKind.i64.wrap ((IntKind.i64.wrap (x2158 * r2)) + x2266)).toNat ((rd (rd x2159 x2158.toNat).1 x2266.toNat))))))))))))) else (some (.inr x2267)))
noncomputable def spec_l04Annihilator_l2 (r2 : Int) (a0 : Int) (a2 : (Vec Int 64)) (x2158 : Int) (x2159 : (List (Vec Int 64))) (x2160 : (Vec Int 64)) : Option ((Int × (List (Vec Int 64)) × (Vec Int 64)) ⊕ ((List (Vec Int 64)) × (Vec Int 64))) :=
  (if (decide (x2158 < (x2159.length : Int))) then (Option.bind (α := (Vec Int 64)) ((loopM (fun s : (Int × (Vec Int 64)) => spec_l04Annihilator_l3 r2 x2158 x2159 s.1 s.2) (0, x2160))) fun x2256 => (ifp (0 ≤ x2158 ∧ x2158 < ((x2159.length : Nat) : Int)) ((Option.bind (spec_l04Step a0 (rd x2159 x2158.toNat) a2) fun r2294 => (ifp (0 ≤ x2158 ∧ x2158 < ((x2159.length : Nat) : Int)) ((some (.inl ((IntKind.i64.wrap (x2158 + 1), (x2159.set x2158.toNat r2294), x2256)))))))))) else (some (.inr (x2159, x2160))))
noncomputable def spec_l04Annihilator_l4 (x952 : (List (Vec Int 64))) (a0 : Int) (x953 : (List (Vec Int 64))) (x2617 : Int) (x2618 : (Vec Int 64)) (x2619 : (Vec Int 64)) : Option ((Int × (Vec Int 64) × (Vec Int 64)) ⊕ ((Vec Int 64) × (Vec Int 64))) :=
  (if (decide (x2617 < (x952.length : Int))) then (Option.bind (α := ((Vec Int 64) × (Vec Int 64))) ((ifp (0 ≤ x2617 ∧ x2617 < ((x952.length : Nat) : Int)) ((Option.bind (spec_l01Deg (rd x952 x2617.toNat)) fun r2742 => (ifp (0 ≤ r2742 ∧ r2742 < ((64 : Nat) : Int)) ((if ((rd x2618.1 r2742.toNat) != 0) then (ifp (0 ≤ r2742 ∧ r2742 < ((64 : Nat) : Int)) ((letp (IntKind.i64.wrap (0 - (IntKind.i64.wrap (rd x2618.1 r2742.toNat)))) fun x2749 => (ifp (0 ≤ x2617 ∧ x2617 < ((x952.length : Nat) : Int)) ((Option.bind (spec_l01Add a0 x2618 (rd x952 x2617.toNat) x2749) fun r2760 => (ifp (0 ≤ x2617 ∧ x2617 < ((x953.length : Nat) : Int)) ((Option.bind (spec_l01Add a0 x2619 (rd x953 x2617.toNat) x2749) fun r2772 => (some (r2760, r2772))))))))))) else (some (x2618, x2619))))))))) fun ⟨x2735, x2736⟩ => (some (.inl ((IntKind.i64.wrap (x2617 + 1), x2735, x2736))))) else (some (.inr (x2618, x2619))))
noncomputable def spec_l04Annihilator_l1 (r2 : Int) (a0 : Int) (a2 : (Vec Int 64)) (x951 : Int) (x952 : (List (Vec Int 64))) (x953 : (List (Vec Int 64))) (x954 : (List (Vec Int 64))) : Option ((Int × (List (Vec Int 64)) × (List (Vec Int 64)) × (List (Vec Int 64))) ⊕ (Vec Int 64)) :=
  (Option.bind (α := ((List (Vec Int 64)) × (Vec Int 64))) ((loopM (fun s : (Int × (List (Vec Int 64)) × (Vec Int 64)) => spec_l04Annihilator_l2 r2 a0 a2 s.1 s.2.1 s.2.2) (0, x954, (vrep 64 (0 : Int))))) fun ⟨x2086, x2087⟩ => (ifp (0 ≤ x951 ∧ x951 < ((64 : Nat) : Int)) ((Option.bind (α := ((Vec Int 64) × (Vec Int 64))) ((loopM (fun s : (Int × (Vec Int 64) × (Vec Int 64)) => spec_l04Annihilator_l4 x952 a0 x953 s.1 s.2.1 s.2.2) (0, x2087, (vset ((vrep 64 (0 : Int))) x951.toNat 1)))) fun ⟨x2536, x2537⟩ => (Option.bind (spec_l01Deg x2536) fun r2777 => (if (decide (r2777 < 0)) then (some (.inr x2537)) else (ifp (0 ≤ r2777 ∧ r2777 < ((64 : Nat) : Int)) ((Option.bind (spec_l01Inverse a0 (rd x2536.1 r2777.toNat)) fun r2782 => (Option.bind (spec_l01Add a0 ((vrep 64 (0 : Int))) x2536 (IntKind.i64.wrap r2782)) fun r2785 => (ifp ((x952.length + ([r2785] : List (Vec Int 64)).length) * 64 ≤ 140737488355328) ((Option.bind (spec_l01Add a0 ((vrep 64 (0 : Int))) x2537 (IntKind.i64.wrap r2782)) fun r2789 => (ifp ((x953.length + ([r2789] : List (Vec Int 64)).length) * 64 ≤ 140737488355328) ((some (.inl ((IntKind.i64.wrap (x951 + 1), (x952 ++ ([r2785])), (x953 ++ ([r2789])), x2086)))))))))))))))))))
noncomputable def spec_l04Annihilator (a0 : Int) (a1 : (List (Vec Int 64))) (a2 : (Vec Int 64)) : Option (Vec Int 64) :=
  (Option.bind (spec_l01Deg a2) fun r2 => (ifp ((([] : List (Vec Int 64)).length + a1.length) * 64 ≤ 140737488355328) ((loopM (fun s : (Int × (List (Vec Int 64)) × (List (Vec Int 64)) × (List (Vec Int 64))) => spec_l04Annihilator_l1 r2 a0 a2 s.1 s.2.1 s.2.2.1 s.2.2.2) (0, [], [], (([] : List (Vec Int 64)) ++ a1))))))
theorem spec_l04Annihilator_ok (a0 : Int) (a1 : (List (Vec Int 64))) (a2 : (Vec Int 64)) (r : (Vec Int 64)) (h : spec_l04Annihilator a0 a1 a2 = some r) : Den Try.prog 36 [(i6 a0), (eSA64u8 a1), (eA64u8 a2)] { r := (eA64u8 r) } := by
  refine den_of (rs := [(eA64u8 r)]) (ac := spec_l04Annihilator_c) (L := spec_l04Annihilator_L) (n := 130) (m := [(8, 2), (9, 2), (10, 2), (23, 2), (24, 2)]) (c := Try.f36.body.getD .skip) good Try.func36 (by kernel_rfl) (by kernel_rfl) Try.ntmps36 rfl rfl (by kernel_rfl) rfl rfl ?_
  refine a_st (σ' := ⟨[(0, (i6 a0)), (1, (eSA64u8 a1)), (2, (eA64u8 a2))], []⟩) (by kernel_rfl) ?_
  unfold spec_l04Annihilator_c
  refine sr (vo 1500 (eA64u8 a2) rfl rfl (vo 1600 (eA64u8 ((vrep 64 (0 : Int)))) rfl rfl (nx ⟨[(0, (i6 a0)), (1, (eSA64u8 a1)), (5, (ow 5)), (6, (ow 6))], [(5, (bk (eA64u8 a2))), (6, (bk (eA64u8 ((vrep 64 (0 : Int))))))]⟩ (by kernel_rfl) (sr (vl (eA64u8 a2) rfl rfl rfl rfl rfl rfl ?_)))))
  obtain ⟨r2, hr3, h⟩ := bind_some h
  refine a_call (args := [(eA64u8 a2)]) (u := []) (r := (i6 r2)) rfl rfl (spec_l01Deg_ok a2 r2 hr3) rfl (vp (i6 r2) rfl (nx ⟨[(0, (i6 a0)), (1, (eSA64u8 a1)), (5, (ow 5)), (6, (ow 6)), (7, (i6 r2))], [(5, (bk (eA64u8 a2))), (6, (bk (eA64u8 ((vrep 64 (0 : Int))))))]⟩ (by kernel_rfl) (sr (vu (.osl 3300) [(3300, (bk (.row 64 (([]).map eA64u8))))] rfl ⟨(Nat.le_of_ble_eq_true rfl), (Nat.le_of_ble_eq_true rfl), all_nil⟩ rfl (vu (.osl 3400) [(3400, (bk (.row 64 (([]).map eA64u8))))] rfl ⟨(Nat.le_of_ble_eq_true rfl), (Nat.le_of_ble_eq_true rfl), all_nil⟩ rfl (vp (.osl 3300) rfl (vp (.osl 3400) rfl (nx ⟨[(0, (i6 a0)), (1, (eSA64u8 a1)), (5, (ow 5)), (6, (ow 6)), (7, (i6 r2)), (8, (.osl 8)), (9, (.osl 9))], [(5, (bk (eA64u8 a2))), (6, (bk (eA64u8 ((vrep 64 (0 : Int)))))), (8, (bk (.row 64 (([]).map eA64u8)))), (9, (bk (.row 64 (([]).map eA64u8))))]⟩ (by kernel_rfl) (sr ?_)))))))))
  refine vq (.sl 64 true (([]).map eA64u8)) rfl ⟨(Nat.le_of_ble_eq_true rfl), (Nat.le_of_ble_eq_true rfl), all_nil⟩ (vp (eSA64u8 a1) rfl ?_)
  obtain ⟨hc4, h⟩ := ifp_some h
  refine vu (.osl 3700) [(3700, (bk (.row 64 (((([] : List (Vec Int 64)) ++ a1)).map eA64u8))))] (appt_run (i := ⟨.arr 64 5, 64, 64, (eA64u8 (vrep 64 (0 : Int)))⟩) (f := eA64u8) (l := []) (l2 := a1) rfl rfl rfl rfl (fun _ => rfl) rfl) (appt_c (f := eA64u8) (s := 64) (sz := 64) (sz' := 64) (by' := 64) hc4 (.inl rfl) (.inl rfl) (.inr rfl) rfl rfl) rfl (vp (.osl 3700) rfl (nx ⟨[(0, (i6 a0)), (5, (ow 5)), (6, (ow 6)), (7, (i6 r2)), (8, (.osl 8)), (9, (.osl 9)), (10, (.osl 10))], [(5, (bk (eA64u8 a2))), (6, (bk (eA64u8 ((vrep 64 (0 : Int)))))), (8, (bk (.row 64 (([]).map eA64u8)))), (9, (bk (.row 64 (([]).map eA64u8)))), (10, (bk (.row 64 (((([] : List (Vec Int 64)) ++ a1)).map eA64u8))))]⟩ (by kernel_rfl) (sr (vp (i6 0) rfl (nx ⟨[(0, (i6 a0)), (5, (ow 5)), (6, (ow 6)), (7, (i6 r2)), (8, (.osl 8)), (9, (.osl 9)), (10, (.osl 10)), (11, (i6 0))], [(5, (bk (eA64u8 a2))), (6, (bk (eA64u8 ((vrep 64 (0 : Int)))))), (8, (bk (.row 64 (([]).map eA64u8)))), (9, (bk (.row 64 (([]).map eA64u8)))), (10, (bk (.row 64 (((([] : List (Vec Int 64)) ++ a1)).map eA64u8))))]⟩ (by kernel_rfl) (a_block ?_))))))
  refine a_loop (emb := fun (s : (Int × (List (Vec Int 64)) × (List (Vec Int 64)) × (List (Vec Int 64)))) => ⟨[(0, (i6 a0)), (5, (ow 5)), (6, (ow 6)), (7, (i6 r2)), (8, (.osl 8)), (9, (.osl 9)), (10, (.osl 10)), (11, (i6 s.1))], [(5, (bk (eA64u8 a2))), (6, (bk (eA64u8 ((vrep 64 (0 : Int)))))), (8, (bk (.row 64 (s.2.1.map eA64u8)))), (9, (bk (.row 64 (s.2.2.1.map eA64u8)))), (10, (bk (.row 64 (s.2.2.2.map eA64u8))))]⟩) (body := (fun s : (Int × (List (Vec Int 64)) × (List (Vec Int 64)) × (List (Vec Int 64))) => spec_l04Annihilator_l1 r2 a0 a2 s.1 s.2.1 s.2.2.1 s.2.2.2)) (G := fun q => some q = some r) h rfl ?_ (by kernel_rfl)
  rintro X1873 ⟨x951, x952, x953, x954⟩ x1874 h hX1875
  have h : spec_l04Annihilator_l1 r2 a0 a2 x951 x952 x953 x954 = some x1874 := h
  refine a_st (σ' := ⟨[(0, (i6 a0)), (5, (ow 5)), (6, (ow 6)), (7, (i6 r2)), (8, (.osl 8)), (9, (.osl 9)), (10, (.osl 10)), (11, (i6 x951))], [(5, (bk (eA64u8 a2))), (6, (bk (eA64u8 ((vrep 64 (0 : Int)))))), (8, (bk (.row 64 (x952.map eA64u8)))), (9, (bk (.row 64 (x953.map eA64u8)))), (10, (bk (.row 64 (x954.map eA64u8))))]⟩) (by kernel_rfl) (a_seq (a_block (sr (vq (eA64u8 ((vrep 64 (0 : Int)))) rfl ⟨⟨_, rfl, rfl⟩, all_nil⟩ (vq (eA64u8 ((vrep 64 (0 : Int)))) rfl ⟨⟨_, rfl, rfl⟩, all_nil⟩ (vo 2200 (eA64u8 ((vrep 64 (0 : Int)))) rfl rfl (vo 2300 (eA64u8 ((vrep 64 (0 : Int)))) rfl rfl (vs (eA64u8 ((vrep 64 (0 : Int)))) rfl rfl (fun _ => rfl) rfl rfl rfl rfl rfl rfl (vs (eA64u8 ((vrep 64 (0 : Int)))) rfl rfl (fun _ => rfl) rfl rfl rfl rfl rfl rfl ?_)))))))))
  refine nx ⟨[(0, (i6 a0)), (5, (ow 5)), (6, (ow 6)), (7, (i6 r2)), (8, (.osl 8)), (9, (.osl 9)), (10, (.osl 10)), (11, (i6 x951)), (12, (ow 12)), (13, (ow 13))], [(5, (bk (eA64u8 a2))), (6, (bk (eA64u8 ((vrep 64 (0 : Int)))))), (8, (bk (.row 64 (x952.map eA64u8)))), (9, (bk (.row 64 (x953.map eA64u8)))), (10, (bk (.row 64 (x954.map eA64u8)))), (12, (bk (eA64u8 ((vrep 64 (0 : Int)))))), (13, (bk (eA64u8 ((vrep 64 (0 : Int))))))]⟩ (by kernel_rfl) ?_
  obtain ⟨y2088, hy2089, hk2090⟩ := bind_some h
  clear h
  refine a_join (emb := fun (s : ((List (Vec Int 64)) × (Vec Int 64))) => ⟨[(0, (i6 a0)), (5, (ow 5)), (6, (ow 6)), (7, (i6 r2)), (8, (.osl 8)), (9, (.osl 9)), (10, (.osl 10)), (11, (i6 x951)), (12, (ow 12)), (13, (ow 13))], [(5, (bk (eA64u8 a2))), (6, (bk (eA64u8 ((vrep 64 (0 : Int)))))), (8, (bk (.row 64 (x952.map eA64u8)))), (9, (bk (.row 64 (x953.map eA64u8)))), (10, (bk (.row 64 (s.1.map eA64u8)))), (12, (bk (eA64u8 s.2))), (13, (bk (eA64u8 ((vrep 64 (0 : Int))))))]⟩) (pre := fun s => s = y2088) ?_ ?_
  · rintro ⟨x2086, x2087⟩ rfl
    have h := hk2090
    refine a_st (σ' := ⟨[(0, (i6 a0)), (5, (ow 5)), (6, (ow 6)), (7, (i6 r2)), (8, (.osl 8)), (9, (.osl 9)), (10, (.osl 10)), (11, (i6 x951)), (12, (ow 12)), (13, (ow 13))], [(5, (bk (eA64u8 a2))), (6, (bk (eA64u8 ((vrep 64 (0 : Int)))))), (8, (bk (.row 64 (x952.map eA64u8)))), (9, (bk (.row 64 (x953.map eA64u8)))), (10, (bk (.row 64 (x2086.map eA64u8)))), (12, (bk (eA64u8 x2087))), (13, (bk (eA64u8 ((vrep 64 (0 : Int))))))]⟩) (by kernel_rfl) (sr (vp (i6 x951) rfl ?_))
    obtain ⟨hc2299, h⟩ := ifp_some h
    refine vq (.own 13 [x951.toNat] [x951.toNat * 1]) rfl hc2299 ?_
    have hs2300 : StOk [x951.toNat] (eA64u8 ((vrep 64 (0 : Int)))) [x951.toNat * 1] 1 (b8 1) (eA64u8 ((vset ((vrep 64 (0 : Int))) x951.toNat 1))) := (.arr (y := 1) (vlt ((vrep 64 (0 : Int))) hc2299) rfl (.nil rfl rfl rfl rfl))
    refine vu .top [(13, (bk (eA64u8 ((vset ((vrep 64 (0 : Int))) x951.toNat 1)))))] (st_own (i := ⟨.int .u8, 1, 1, (.int .u8 0)⟩) rfl rfl (fun _ => rfl) rfl hs2300) (hs2300.c rfl) rfl (nx ⟨[(0, (i6 a0)), (5, (ow 5)), (6, (ow 6)), (7, (i6 r2)), (8, (.osl 8)), (9, (.osl 9)), (10, (.osl 10)), (11, (i6 x951)), (12, (ow 12)), (13, (ow 13))], [(5, (bk (eA64u8 a2))), (6, (bk (eA64u8 ((vrep 64 (0 : Int)))))), (8, (bk (.row 64 (x952.map eA64u8)))), (9, (bk (.row 64 (x953.map eA64u8)))), (10, (bk (.row 64 (x2086.map eA64u8)))), (12, (bk (eA64u8 x2087))), (13, (bk (eA64u8 ((vset ((vrep 64 (0 : Int))) x951.toNat 1)))))]⟩ (by kernel_rfl) ?_)
    obtain ⟨y2538, hy2539, hk2540⟩ := bind_some h
    clear h
    refine a_join (emb := fun (s : ((Vec Int 64) × (Vec Int 64))) => ⟨[(0, (i6 a0)), (5, (ow 5)), (6, (ow 6)), (7, (i6 r2)), (8, (.osl 8)), (9, (.osl 9)), (10, (.osl 10)), (11, (i6 x951)), (12, (ow 12)), (13, (ow 13))], [(5, (bk (eA64u8 a2))), (6, (bk (eA64u8 ((vrep 64 (0 : Int)))))), (8, (bk (.row 64 (x952.map eA64u8)))), (9, (bk (.row 64 (x953.map eA64u8)))), (10, (bk (.row 64 (x2086.map eA64u8)))), (12, (bk (eA64u8 s.1))), (13, (bk (eA64u8 s.2)))]⟩) (pre := fun s => s = y2538) ?_ ?_
    · rintro ⟨x2536, x2537⟩ rfl
      have h := hk2540
      refine a_st (σ' := ⟨[(0, (i6 a0)), (5, (ow 5)), (6, (ow 6)), (7, (i6 r2)), (8, (.osl 8)), (9, (.osl 9)), (10, (.osl 10)), (11, (i6 x951)), (12, (ow 12)), (13, (ow 13))], [(5, (bk (eA64u8 a2))), (6, (bk (eA64u8 ((vrep 64 (0 : Int)))))), (8, (bk (.row 64 (x952.map eA64u8)))), (9, (bk (.row 64 (x953.map eA64u8)))), (10, (bk (.row 64 (x2086.map eA64u8)))), (12, (bk (eA64u8 x2536))), (13, (bk (eA64u8 x2537)))]⟩) (by kernel_rfl) (sr (vl (eA64u8 x2536) rfl rfl rfl rfl rfl rfl ?_))
      obtain ⟨r2777, hr2778, h⟩ := bind_some h
      refine a_call (args := [(eA64u8 x2536)]) (u := []) (r := (i6 r2777)) rfl rfl (spec_l01Deg_ok x2536 r2777 hr2778) rfl (vp (i6 r2777) rfl (nx ⟨[(0, (i6 a0)), (5, (ow 5)), (6, (ow 6)), (7, (i6 r2)), (8, (.osl 8)), (9, (.osl 9)), (10, (.osl 10)), (11, (i6 x951)), (12, (ow 12)), (13, (ow 13)), (19, (i6 r2777))], [(5, (bk (eA64u8 a2))), (6, (bk (eA64u8 ((vrep 64 (0 : Int)))))), (8, (bk (.row 64 (x952.map eA64u8)))), (9, (bk (.row 64 (x953.map eA64u8)))), (10, (bk (.row 64 (x2086.map eA64u8)))), (12, (bk (eA64u8 x2536))), (13, (bk (eA64u8 x2537)))]⟩ (by kernel_rfl) (a_seq (sr (vp (i6 r2777) rfl (vp (.bool ((decide (r2777 < 0)))) rfl (nx ⟨[(0, (i6 a0)), (5, (ow 5)), (6, (ow 6)), (7, (i6 r2)), (8, (.osl 8)), (9, (.osl 9)), (10, (.osl 10)), (11, (i6 x951)), (12, (ow 12)), (13, (ow 13)), (19, (i6 r2777)), (106, (.bool ((decide (r2777 < 0)))))], [(5, (bk (eA64u8 a2))), (6, (bk (eA64u8 ((vrep 64 (0 : Int)))))), (8, (bk (.row 64 (x952.map eA64u8)))), (9, (bk (.row 64 (x953.map eA64u8)))), (10, (bk (.row 64 (x2086.map eA64u8)))), (12, (bk (eA64u8 x2536))), (13, (bk (eA64u8 x2537)))]⟩ (by kernel_rfl) ?_)))))))
      cases hb2779 : (decide (r2777 < 0))
      · have h := ite_f hb2779 h
        refine a_cond_f rfl (a_skip (a_next (σ' := ⟨[(0, (i6 a0)), (5, (ow 5)), (6, (ow 6)), (7, (i6 r2)), (8, (.osl 8)), (9, (.osl 9)), (10, (.osl 10)), (11, (i6 x951)), (12, (ow 12)), (13, (ow 13)), (19, (i6 r2777))], [(5, (bk (eA64u8 a2))), (6, (bk (eA64u8 ((vrep 64 (0 : Int)))))), (8, (bk (.row 64 (x952.map eA64u8)))), (9, (bk (.row 64 (x953.map eA64u8)))), (10, (bk (.row 64 (x2086.map eA64u8)))), (12, (bk (eA64u8 x2536))), (13, (bk (eA64u8 x2537)))]⟩) (by kernel_rfl) (sr (vp (i6 a0) rfl (vp (i6 r2777) rfl ?_)))))
        obtain ⟨hc2780, h⟩ := ifp_some h
        refine vq (.own 12 [r2777.toNat] [r2777.toNat * 1]) rfl hc2780 ?_
        have hl2781 : LdOk [r2777.toNat] (eA64u8 x2536) [r2777.toNat * 1] 1 false (b8 (rd x2536.1 r2777.toNat)) := (.arr (vlt x2536 hc2780) rfl (.nil rfl rfl rfl))
        refine vq (b8 (rd x2536.1 r2777.toNat)) (ld_own (i := ⟨.int .u8, 1, 1, (.int .u8 0)⟩) rfl rfl rfl hl2781) hl2781.c ?_
        obtain ⟨r2782, hr2783, h⟩ := bind_some h
        refine a_call (args := [(i6 a0), (b8 (rd x2536.1 r2777.toNat))]) (u := []) (r := (b8 r2782)) rfl rfl (spec_l01Inverse_ok a0 (rd x2536.1 r2777.toNat) r2782 hr2783) rfl (vp (i6 (IntKind.i64.wrap r2782)) rfl (vp (i6 (IntKind.i64.wrap r2782)) rfl (nx ⟨[(0, (i6 a0)), (5, (ow 5)), (6, (ow 6)), (7, (i6 r2)), (8, (.osl 8)), (9, (.osl 9)), (10, (.osl 10)), (11, (i6 x951)), (12, (ow 12)), (13, (ow 13)), (20, (i6 (IntKind.i64.wrap r2782)))], [(5, (bk (eA64u8 a2))), (6, (bk (eA64u8 ((vrep 64 (0 : Int)))))), (8, (bk (.row 64 (x952.map eA64u8)))), (9, (bk (.row 64 (x953.map eA64u8)))), (10, (bk (.row 64 (x2086.map eA64u8)))), (12, (bk (eA64u8 x2536))), (13, (bk (eA64u8 x2537)))]⟩ (by kernel_rfl) (sr (vp (.osl 8) rfl (vp (i6 a0) rfl (vq (eA64u8 ((vrep 64 (0 : Int)))) rfl ⟨⟨_, rfl, rfl⟩, all_nil⟩ (vl (eA64u8 x2536) rfl rfl rfl rfl rfl rfl (vp (i6 (IntKind.i64.wrap r2782)) rfl ?_)))))))))
        obtain ⟨r2785, hr2786, h⟩ := bind_some h
        refine a_call (args := [(i6 a0), (eA64u8 ((vrep 64 (0 : Int)))), (eA64u8 x2536), (i6 (IntKind.i64.wrap r2782))]) (u := []) (r := (eA64u8 r2785)) rfl rfl (spec_l01Add_ok a0 ((vrep 64 (0 : Int))) x2536 (IntKind.i64.wrap r2782) r2785 hr2786) rfl (vq (.sl 64 true (([r2785]).map eA64u8)) rfl ⟨(Nat.le_of_ble_eq_true rfl), (Nat.le_of_ble_eq_true rfl), (all_cons ⟨(Nat.le_of_ble_eq_true rfl), rfl⟩ all_nil)⟩ ?_)
        obtain ⟨hc2787, h⟩ := ifp_some h
        refine vu (.osl 13100) [(13100, (bk (.row 64 (((x952 ++ ([r2785]))).map eA64u8)))), (8, none)] (app_run (i := ⟨.arr 64 5, 64, 64, (eA64u8 (vrep 64 (0 : Int)))⟩) (f := eA64u8) (l := x952) (l2 := [r2785]) rfl rfl rfl rfl (fun _ => rfl) rfl rfl) (app_c (f := eA64u8) (s := 64) (sz := 64) (by' := 64) (u := []) (id := 8) hc2787 (.inr rfl) rfl rfl rfl) rfl (vp (.osl 13100) rfl (nx ⟨[(0, (i6 a0)), (5, (ow 5)), (6, (ow 6)), (7, (i6 r2)), (8, (.osl 8)), (9, (.osl 9)), (10, (.osl 10)), (11, (i6 x951)), (13, (ow 13)), (20, (i6 (IntKind.i64.wrap r2782)))], [(5, (bk (eA64u8 a2))), (6, (bk (eA64u8 ((vrep 64 (0 : Int)))))), (8, (bk (.row 64 (((x952 ++ ([r2785]))).map eA64u8)))), (9, (bk (.row 64 (x953.map eA64u8)))), (10, (bk (.row 64 (x2086.map eA64u8)))), (13, (bk (eA64u8 x2537)))]⟩ (by kernel_rfl) (a_region (vp (.osl 9) rfl (vp (i6 a0) rfl (vq (eA64u8 ((vrep 64 (0 : Int)))) rfl ⟨⟨_, rfl, rfl⟩, all_nil⟩ (vl (eA64u8 x2537) rfl rfl rfl rfl rfl rfl (vp (i6 (IntKind.i64.wrap r2782)) rfl ?_))))))))
        obtain ⟨r2789, hr2790, h⟩ := bind_some h
        refine a_call (args := [(i6 a0), (eA64u8 ((vrep 64 (0 : Int)))), (eA64u8 x2537), (i6 (IntKind.i64.wrap r2782))]) (u := []) (r := (eA64u8 r2789)) rfl rfl (spec_l01Add_ok a0 ((vrep 64 (0 : Int))) x2537 (IntKind.i64.wrap r2782) r2789 hr2790) rfl (vq (.sl 64 true (([r2789]).map eA64u8)) rfl ⟨(Nat.le_of_ble_eq_true rfl), (Nat.le_of_ble_eq_true rfl), (all_cons ⟨(Nat.le_of_ble_eq_true rfl), rfl⟩ all_nil)⟩ ?_)
        obtain ⟨hc2791, h⟩ := ifp_some h
        refine vu (.osl 13900) [(13900, (bk (.row 64 (((x953 ++ ([r2789]))).map eA64u8)))), (9, none)] (app_run (i := ⟨.arr 64 5, 64, 64, (eA64u8 (vrep 64 (0 : Int)))⟩) (f := eA64u8) (l := x953) (l2 := [r2789]) rfl rfl rfl rfl (fun _ => rfl) rfl rfl) (app_c (f := eA64u8) (s := 64) (sz := 64) (by' := 64) (u := []) (id := 9) hc2791 (.inr rfl) rfl rfl rfl) rfl (vp (.osl 13900) rfl (a_nil (b_norm (a_next (σ' := ⟨[(0, (i6 a0)), (5, (ow 5)), (6, (ow 6)), (7, (i6 r2)), (8, (.osl 8)), (9, (.osl 9)), (10, (.osl 10)), (11, (i6 x951))], [(5, (bk (eA64u8 a2))), (6, (bk (eA64u8 ((vrep 64 (0 : Int)))))), (8, (bk (.row 64 (((x952 ++ ([r2785]))).map eA64u8)))), (9, (bk (.row 64 (((x953 ++ ([r2789]))).map eA64u8)))), (10, (bk (.row 64 (x2086.map eA64u8))))]⟩) (by kernel_rfl) (a_region (vp (i6 x951) rfl (vp (i6 (IntKind.i64.wrap (x951 + 1))) rfl (vp (i6 (IntKind.i64.wrap (x951 + 1))) rfl (a_nil ?_)))))))))
        cases h
        exact a_again (by kernel_rfl) hX1875
      · have h := ite_t hb2779 h
        refine a_cond_t rfl (sr (vl (eA64u8 x2537) rfl rfl rfl rfl rfl rfl (vs (eA64u8 x2537) rfl rfl (fun _ => rfl) rfl rfl rfl rfl rfl rfl (nx _ rfl (a_ret (t_ret (b_ret (t_ret ?_))))))))
        cases h
        have h := hX1875
        refine t_ret (b_ret ?_)
        have hl2794 : LdOk [] (eA64u8 x2537) [] 64 true (eA64u8 x2537) := (.nil rfl rfl rfl)
        refine ⟨.inr rfl, ?_⟩
        rw [Try.results36]
        cases h
        exact ⟨_, _, _, _, _, ld_own (i := ⟨.arr 64 5, 64, 64, (eA64u8 (vrep 64 (0 : Int)))⟩) rfl rfl rfl hl2794, hl2794.c, .inl ⟨rfl, .inl rfl⟩, rfl, rfl⟩
    · have h := hy2539
      refine sr (vp (i6 0) rfl (nx ⟨[(0, (i6 a0)), (5, (ow 5)), (6, (ow 6)), (7, (i6 r2)), (8, (.osl 8)), (9, (.osl 9)), (10, (.osl 10)), (11, (i6 x951)), (12, (ow 12)), (13, (ow 13)), (16, (i6 0))], [(5, (bk (eA64u8 a2))), (6, (bk (eA64u8 ((vrep 64 (0 : Int)))))), (8, (bk (.row 64 (x952.map eA64u8)))), (9, (bk (.row 64 (x953.map eA64u8)))), (10, (bk (.row 64 (x2086.map eA64u8)))), (12, (bk (eA64u8 x2087))), (13, (bk (eA64u8 ((vset ((vrep 64 (0 : Int))) x951.toNat 1)))))]⟩ (by kernel_rfl) (a_block ?_)))
      refine a_loop (emb := fun (s : (Int × (Vec Int 64) × (Vec Int 64))) => ⟨[(0, (i6 a0)), (5, (ow 5)), (6, (ow 6)), (7, (i6 r2)), (8, (.osl 8)), (9, (.osl 9)), (10, (.osl 10)), (11, (i6 x951)), (12, (ow 12)), (13, (ow 13)), (16, (i6 s.1))], [(5, (bk (eA64u8 a2))), (6, (bk (eA64u8 ((vrep 64 (0 : Int)))))), (8, (bk (.row 64 (x952.map eA64u8)))), (9, (bk (.row 64 (x953.map eA64u8)))), (10, (bk (.row 64 (x2086.map eA64u8)))), (12, (bk (eA64u8 s.2.1))), (13, (bk (eA64u8 s.2.2)))]⟩) (body := (fun s : (Int × (Vec Int 64) × (Vec Int 64)) => spec_l04Annihilator_l4 x952 a0 x953 s.1 s.2.1 s.2.2)) (G := fun q => some q = some y2538) h rfl ?_ (by kernel_rfl)
      rintro X2696 ⟨x2617, x2618, x2619⟩ x2697 h hX2698
      have h : spec_l04Annihilator_l4 x952 a0 x953 x2617 x2618 x2619 = some x2697 := h
      refine a_st (σ' := ⟨[(0, (i6 a0)), (5, (ow 5)), (6, (ow 6)), (7, (i6 r2)), (8, (.osl 8)), (9, (.osl 9)), (10, (.osl 10)), (11, (i6 x951)), (12, (ow 12)), (13, (ow 13)), (16, (i6 x2617))], [(5, (bk (eA64u8 a2))), (6, (bk (eA64u8 ((vrep 64 (0 : Int)))))), (8, (bk (.row 64 (x952.map eA64u8)))), (9, (bk (.row 64 (x953.map eA64u8)))), (10, (bk (.row 64 (x2086.map eA64u8)))), (12, (bk (eA64u8 x2618))), (13, (bk (eA64u8 x2619)))]⟩) (by kernel_rfl) (a_seq (sr (vp (i6 x2617) rfl (vp (.osl 8) rfl (vq (i6 (x952.length : Int)) (leno_run rfl rfl rfl) trivial (vp (.bool ((decide (x2617 < (x952.length : Int))))) rfl (nx ⟨[(0, (i6 a0)), (5, (ow 5)), (6, (ow 6)), (7, (i6 r2)), (8, (.osl 8)), (9, (.osl 9)), (10, (.osl 10)), (11, (i6 x951)), (12, (ow 12)), (13, (ow 13)), (16, (i6 x2617)), (70, (.bool ((decide (x2617 < (x952.length : Int))))))], [(5, (bk (eA64u8 a2))), (6, (bk (eA64u8 ((vrep 64 (0 : Int)))))), (8, (bk (.row 64 (x952.map eA64u8)))), (9, (bk (.row 64 (x953.map eA64u8)))), (10, (bk (.row 64 (x2086.map eA64u8)))), (12, (bk (eA64u8 x2618))), (13, (bk (eA64u8 x2619)))]⟩ (by kernel_rfl) ?_)))))))
      cases hb2699 : (decide (x2617 < (x952.length : Int)))
      · have h := ite_f hb2699 h
        refine a_cond_f rfl (a_exit (t_exit ?_))
        cases h
        have h := hX2698
        refine t_exit (b_exit ?_)
        exact j_leaf (x2618, x2619) (Option.some.inj h) (by kernel_rfl)
      · have h := ite_t hb2699 h
        refine a_cond_t rfl (a_skip (a_next (σ' := ⟨[(0, (i6 a0)), (5, (ow 5)), (6, (ow 6)), (7, (i6 r2)), (8, (.osl 8)), (9, (.osl 9)), (10, (.osl 10)), (11, (i6 x951)), (12, (ow 12)), (13, (ow 13)), (16, (i6 x2617))], [(5, (bk (eA64u8 a2))), (6, (bk (eA64u8 ((vrep 64 (0 : Int)))))), (8, (bk (.row 64 (x952.map eA64u8)))), (9, (bk (.row 64 (x953.map eA64u8)))), (10, (bk (.row 64 (x2086.map eA64u8)))), (12, (bk (eA64u8 x2618))), (13, (bk (eA64u8 x2619)))]⟩) (by kernel_rfl) ?_))
        obtain ⟨y2737, hy2738, hk2739⟩ := bind_some h
        clear h
        refine a_join (emb := fun (s : ((Vec Int 64) × (Vec Int 64))) => ⟨[(0, (i6 a0)), (5, (ow 5)), (6, (ow 6)), (7, (i6 r2)), (8, (.osl 8)), (9, (.osl 9)), (10, (.osl 10)), (11, (i6 x951)), (12, (ow 12)), (13, (ow 13)), (16, (i6 x2617))], [(5, (bk (eA64u8 a2))), (6, (bk (eA64u8 ((vrep 64 (0 : Int)))))), (8, (bk (.row 64 (x952.map eA64u8)))), (9, (bk (.row 64 (x953.map eA64u8)))), (10, (bk (.row 64 (x2086.map eA64u8)))), (12, (bk (eA64u8 s.1))), (13, (bk (eA64u8 s.2)))]⟩) (pre := fun s => s = y2737) ?_ ?_
        · rintro ⟨x2735, x2736⟩ rfl
          have h := hk2739
          refine a_st (σ' := ⟨[(0, (i6 a0)), (5, (ow 5)), (6, (ow 6)), (7, (i6 r2)), (8, (.osl 8)), (9, (.osl 9)), (10, (.osl 10)), (11, (i6 x951)), (12, (ow 12)), (13, (ow 13)), (16, (i6 x2617))], [(5, (bk (eA64u8 a2))), (6, (bk (eA64u8 ((vrep 64 (0 : Int)))))), (8, (bk (.row 64 (x952.map eA64u8)))), (9, (bk (.row 64 (x953.map eA64u8)))), (10, (bk (.row 64 (x2086.map eA64u8)))), (12, (bk (eA64u8 x2735))), (13, (bk (eA64u8 x2736)))]⟩) (by kernel_rfl) (a_region (vp (i6 x2617) rfl (vp (i6 (IntKind.i64.wrap (x2617 + 1))) rfl (vp (i6 (IntKind.i64.wrap (x2617 + 1))) rfl (a_nil ?_)))))
          cases h
          exact a_again (by kernel_rfl) hX2698
        · have h := hy2738
          refine a_block (sr (vp (.osl 8) rfl (vp (i6 x2617) rfl ?_)))
          obtain ⟨hc2740, h⟩ := ifp_some h
          refine vq (.own 8 [x2617.toNat] [x2617.toNat * 64]) rfl (lmap hc2740) ?_
          have hl2741 : LdOk [x2617.toNat] (.row 64 (x952.map eA64u8)) [x2617.toNat * 64] 64 true (eA64u8 (rd x952 x2617.toNat)) := (.row (llt hc2740) rfl (.nil rfl rfl rfl))
          refine vq (eA64u8 (rd x952 x2617.toNat)) (ld_own (i := ⟨.arr 64 5, 64, 64, (eA64u8 (vrep 64 (0 : Int)))⟩) rfl rfl rfl hl2741) hl2741.c ?_
          obtain ⟨r2742, hr2743, h⟩ := bind_some h
          refine a_call (args := [(eA64u8 (rd x952 x2617.toNat))]) (u := []) (r := (i6 r2742)) rfl rfl (spec_l01Deg_ok (rd x952 x2617.toNat) r2742 hr2743) rfl (vp (i6 r2742) rfl (nx ⟨[(0, (i6 a0)), (5, (ow 5)), (6, (ow 6)), (7, (i6 r2)), (8, (.osl 8)), (9, (.osl 9)), (10, (.osl 10)), (11, (i6 x951)), (12, (ow 12)), (13, (ow 13)), (16, (i6 x2617)), (17, (i6 r2742))], [(5, (bk (eA64u8 a2))), (6, (bk (eA64u8 ((vrep 64 (0 : Int)))))), (8, (bk (.row 64 (x952.map eA64u8)))), (9, (bk (.row 64 (x953.map eA64u8)))), (10, (bk (.row 64 (x2086.map eA64u8)))), (12, (bk (eA64u8 x2618))), (13, (bk (eA64u8 x2619)))]⟩ (by kernel_rfl) (sr (vp (i6 r2742) rfl ?_))))
          obtain ⟨hc2744, h⟩ := ifp_some h
          refine vq (.own 12 [r2742.toNat] [r2742.toNat * 1]) rfl hc2744 ?_
          have hl2745 : LdOk [r2742.toNat] (eA64u8 x2618) [r2742.toNat * 1] 1 false (b8 (rd x2618.1 r2742.toNat)) := (.arr (vlt x2618 hc2744) rfl (.nil rfl rfl rfl))
          refine vq (b8 (rd x2618.1 r2742.toNat)) (ld_own (i := ⟨.int .u8, 1, 1, (.int .u8 0)⟩) rfl rfl rfl hl2745) hl2745.c (vp (.bool (((rd x2618.1 r2742.toNat) != 0))) rfl (nx ⟨[(0, (i6 a0)), (5, (ow 5)), (6, (ow 6)), (7, (i6 r2)), (8, (.osl 8)), (9, (.osl 9)), (10, (.osl 10)), (11, (i6 x951)), (12, (ow 12)), (13, (ow 13)), (16, (i6 x2617)), (17, (i6 r2742)), (81, (.bool (((rd x2618.1 r2742.toNat) != 0))))], [(5, (bk (eA64u8 a2))), (6, (bk (eA64u8 ((vrep 64 (0 : Int)))))), (8, (bk (.row 64 (x952.map eA64u8)))), (9, (bk (.row 64 (x953.map eA64u8)))), (10, (bk (.row 64 (x2086.map eA64u8)))), (12, (bk (eA64u8 x2618))), (13, (bk (eA64u8 x2619)))]⟩ (by kernel_rfl) ?_))
          cases hb2746 : ((rd x2618.1 r2742.toNat) != 0)
          · have h := ite_f hb2746 h
            refine a_cond_f rfl (a_skip (b_norm ?_))
            exact j_leaf (x2618, x2619) (Option.some.inj h) (by kernel_rfl)
          · have h := ite_t hb2746 h
            refine a_cond_t rfl (sr (vp (i6 r2742) rfl ?_))
            obtain ⟨hc2747, h⟩ := ifp_some h
            refine vq (.own 12 [r2742.toNat] [r2742.toNat * 1]) rfl hc2747 ?_
            have hl2748 : LdOk [r2742.toNat] (eA64u8 x2618) [r2742.toNat * 1] 1 false (b8 (rd x2618.1 r2742.toNat)) := (.arr (vlt x2618 hc2747) rfl (.nil rfl rfl rfl))
            refine vq (b8 (rd x2618.1 r2742.toNat)) (ld_own (i := ⟨.int .u8, 1, 1, (.int .u8 0)⟩) rfl rfl rfl hl2748) hl2748.c (vp (i6 (IntKind.i64.wrap (rd x2618.1 r2742.toNat))) rfl ?_)
            obtain ⟨x2749, hx2750, h⟩ := letp_some h
            refine a_val' (v := (i6 (IntKind.i64.wrap (0 - (IntKind.i64.wrap (rd x2618.1 r2742.toNat)))))) (v' := (i6 x2749)) (u := []) (u' := []) rfl (congrArg (fun z => ((i6 z) : AV)) hx2750) rfl trivial rfl (vp (i6 x2749) rfl (nx ⟨[(0, (i6 a0)), (5, (ow 5)), (6, (ow 6)), (7, (i6 r2)), (8, (.osl 8)), (9, (.osl 9)), (10, (.osl 10)), (11, (i6 x951)), (12, (ow 12)), (13, (ow 13)), (16, (i6 x2617)), (18, (i6 x2749))], [(5, (bk (eA64u8 a2))), (6, (bk (eA64u8 ((vrep 64 (0 : Int)))))), (8, (bk (.row 64 (x952.map eA64u8)))), (9, (bk (.row 64 (x953.map eA64u8)))), (10, (bk (.row 64 (x2086.map eA64u8)))), (12, (bk (eA64u8 x2618))), (13, (bk (eA64u8 x2619)))]⟩ (by kernel_rfl) (a_seq (a_draw [⟨[], [], [], []⟩, ⟨[12], [], [], []⟩, ⟨[], [], [8], []⟩, ⟨[], [], [], []⟩, ⟨[8], [], [8], [2, 3]⟩, ⟨[8], [], [], [2, 3, 4]⟩, ⟨[], [], [], []⟩, ⟨[], [], [], [0, 1, 2, 3, 4, 5, 6]⟩, ⟨[12], [12], [], [0, 1, 2, 3, 4, 5, 6, 7]⟩] (by kernel_rfl) (dp (i6 a0) rfl (by kernel_rfl) (d_cons (vl (eA64u8 x2618) rfl rfl rfl rfl rfl rfl (d_next (by kernel_rfl) (dp (.osl 8) rfl (by kernel_rfl) ?_)))))))))
            refine dp (i6 x2617) rfl (by kernel_rfl) (d_cons ?_)
            obtain ⟨hc2758, h⟩ := ifp_some h
            refine vq (.own 8 [x2617.toNat] [x2617.toNat * 64]) rfl (lmap hc2758) (d_next (by kernel_rfl) (d_cons ?_))
            have hl2759 : LdOk [x2617.toNat] (.row 64 (x952.map eA64u8)) [x2617.toNat * 64] 64 true (eA64u8 (rd x952 x2617.toNat)) := (.row (llt hc2758) rfl (.nil rfl rfl rfl))
            refine vq (eA64u8 (rd x952 x2617.toNat)) (ld_own (i := ⟨.arr 64 5, 64, 64, (eA64u8 (vrep 64 (0 : Int)))⟩) rfl rfl rfl hl2759) hl2759.c (d_next (by kernel_rfl) (dp (i6 x2749) rfl (by kernel_rfl) (d_cons ?_)))
            obtain ⟨r2760, hr2761, h⟩ := bind_some h
            refine a_call (args := [(i6 a0), (eA64u8 x2618), (eA64u8 (rd x952 x2617.toNat)), (i6 x2749)]) (u := []) (r := (eA64u8 r2760)) rfl rfl (spec_l01Add_ok a0 x2618 (rd x952 x2617.toNat) x2749 r2760 hr2761) rfl (d_next (by kernel_rfl) (d_cons (vs (eA64u8 r2760) rfl rfl (fun _ => rfl) rfl rfl rfl rfl rfl rfl (d_next (by kernel_rfl) (d_nil (a_next (σ' := ⟨[(0, (i6 a0)), (5, (ow 5)), (6, (ow 6)), (7, (i6 r2)), (8, (.osl 8)), (9, (.osl 9)), (10, (.osl 10)), (11, (i6 x951)), (12, (ow 12)), (13, (ow 13)), (16, (i6 x2617)), (18, (i6 x2749))], [(5, (bk (eA64u8 a2))), (6, (bk (eA64u8 ((vrep 64 (0 : Int)))))), (8, (bk (.row 64 (x952.map eA64u8)))), (9, (bk (.row 64 (x953.map eA64u8)))), (10, (bk (.row 64 (x2086.map eA64u8)))), (12, (bk (eA64u8 r2760))), (13, (bk (eA64u8 x2619)))]⟩) (by kernel_rfl) (a_draw [⟨[], [], [], []⟩, ⟨[13], [], [], []⟩, ⟨[], [], [9], []⟩, ⟨[], [], [], []⟩, ⟨[9], [], [9], [2, 3]⟩, ⟨[9], [], [], [2, 3, 4]⟩, ⟨[], [], [], []⟩, ⟨[], [], [], [0, 1, 2, 3, 4, 5, 6]⟩, ⟨[13], [13], [], [0, 1, 2, 3, 4, 5, 6, 7]⟩] (by kernel_rfl) (dp (i6 a0) rfl (by kernel_rfl) (d_cons ?_)))))))))
            refine vl (eA64u8 x2619) rfl rfl rfl rfl rfl rfl (d_next (by kernel_rfl) (dp (.osl 9) rfl (by kernel_rfl) (dp (i6 x2617) rfl (by kernel_rfl) (d_cons ?_))))
            obtain ⟨hc2770, h⟩ := ifp_some h
            refine vq (.own 9 [x2617.toNat] [x2617.toNat * 64]) rfl (lmap hc2770) (d_next (by kernel_rfl) (d_cons ?_))
            have hl2771 : LdOk [x2617.toNat] (.row 64 (x953.map eA64u8)) [x2617.toNat * 64] 64 true (eA64u8 (rd x953 x2617.toNat)) := (.row (llt hc2770) rfl (.nil rfl rfl rfl))
            refine vq (eA64u8 (rd x953 x2617.toNat)) (ld_own (i := ⟨.arr 64 5, 64, 64, (eA64u8 (vrep 64 (0 : Int)))⟩) rfl rfl rfl hl2771) hl2771.c (d_next (by kernel_rfl) (dp (i6 x2749) rfl (by kernel_rfl) (d_cons ?_)))
            obtain ⟨r2772, hr2773, h⟩ := bind_some h
            refine a_call (args := [(i6 a0), (eA64u8 x2619), (eA64u8 (rd x953 x2617.toNat)), (i6 x2749)]) (u := []) (r := (eA64u8 r2772)) rfl rfl (spec_l01Add_ok a0 x2619 (rd x953 x2617.toNat) x2749 r2772 hr2773) rfl (d_next (by kernel_rfl) (d_cons (vs (eA64u8 r2772) rfl rfl (fun _ => rfl) rfl rfl rfl rfl rfl rfl (d_next (by kernel_rfl) (d_nil (b_norm ?_))))))
            exact j_leaf (r2760, r2772) (Option.some.inj h) (by kernel_rfl)
  · have h := hy2089
    refine sr (vp (i6 0) rfl (nx ⟨[(0, (i6 a0)), (5, (ow 5)), (6, (ow 6)), (7, (i6 r2)), (8, (.osl 8)), (9, (.osl 9)), (10, (.osl 10)), (11, (i6 x951)), (12, (ow 12)), (13, (ow 13)), (14, (i6 0))], [(5, (bk (eA64u8 a2))), (6, (bk (eA64u8 ((vrep 64 (0 : Int)))))), (8, (bk (.row 64 (x952.map eA64u8)))), (9, (bk (.row 64 (x953.map eA64u8)))), (10, (bk (.row 64 (x954.map eA64u8)))), (12, (bk (eA64u8 ((vrep 64 (0 : Int)))))), (13, (bk (eA64u8 ((vrep 64 (0 : Int))))))]⟩ (by kernel_rfl) (a_block ?_)))
    refine a_loop (emb := fun (s : (Int × (List (Vec Int 64)) × (Vec Int 64))) => ⟨[(0, (i6 a0)), (5, (ow 5)), (6, (ow 6)), (7, (i6 r2)), (8, (.osl 8)), (9, (.osl 9)), (10, (.osl 10)), (11, (i6 x951)), (12, (ow 12)), (13, (ow 13)), (14, (i6 s.1))], [(5, (bk (eA64u8 a2))), (6, (bk (eA64u8 ((vrep 64 (0 : Int)))))), (8, (bk (.row 64 (x952.map eA64u8)))), (9, (bk (.row 64 (x953.map eA64u8)))), (10, (bk (.row 64 (s.2.1.map eA64u8)))), (12, (bk (eA64u8 s.2.2))), (13, (bk (eA64u8 ((vrep 64 (0 : Int))))))]⟩) (body := (fun s : (Int × (List (Vec Int 64)) × (Vec Int 64)) => spec_l04Annihilator_l2 r2 a0 a2 s.1 s.2.1 s.2.2)) (G := fun q => some q = some y2088) h rfl ?_ (by kernel_rfl)
    rintro X2228 ⟨x2158, x2159, x2160⟩ x2229 h hX2230
    have h : spec_l04Annihilator_l2 r2 a0 a2 x2158 x2159 x2160 = some x2229 := h
    refine a_st (σ' := ⟨[(0, (i6 a0)), (5, (ow 5)), (6, (ow 6)), (7, (i6 r2)), (8, (.osl 8)), (9, (.osl 9)), (10, (.osl 10)), (11, (i6 x951)), (12, (ow 12)), (13, (ow 13)), (14, (i6 x2158))], [(5, (bk (eA64u8 a2))), (6, (bk (eA64u8 ((vrep 64 (0 : Int)))))), (8, (bk (.row 64 (x952.map eA64u8)))), (9, (bk (.row 64 (x953.map eA64u8)))), (10, (bk (.row 64 (x2159.map eA64u8)))), (12, (bk (eA64u8 x2160))), (13, (bk (eA64u8 ((vrep 64 (0 : Int))))))]⟩) (by kernel_rfl) (a_seq (sr (vp (i6 x2158) rfl (vp (.osl 10) rfl (vq (i6 (x2159.length : Int)) (leno_run rfl rfl rfl) trivial (vp (.bool ((decide (x2158 < (x2159.length : Int))))) rfl (nx ⟨[(0, (i6 a0)), (5, (ow 5)), (6, (ow 6)), (7, (i6 r2)), (8, (.osl 8)), (9, (.osl 9)), (10, (.osl 10)), (11, (i6 x951)), (12, (ow 12)), (13, (ow 13)), (14, (i6 x2158)), (35, (.bool ((decide (x2158 < (x2159.length : Int))))))], [(5, (bk (eA64u8 a2))), (6, (bk (eA64u8 ((vrep 64 (0 : Int)))))), (8, (bk (.row 64 (x952.map eA64u8)))), (9, (bk (.row 64 (x953.map eA64u8)))), (10, (bk (.row 64 (x2159.map eA64u8)))), (12, (bk (eA64u8 x2160))), (13, (bk (eA64u8 ((vrep 64 (0 : Int))))))]⟩ (by kernel_rfl) ?_)))))))
    cases hb2231 : (decide (x2158 < (x2159.length : Int)))
    · have h := ite_f hb2231 h
      refine a_cond_f rfl (a_exit (t_exit ?_))
      cases h
      have h := hX2230
      refine t_exit (b_exit ?_)
      exact j_leaf (x2159, x2160) (Option.some.inj h) (by kernel_rfl)
    · have h := ite_t hb2231 h
      refine a_cond_t rfl (a_skip (a_next (σ' := ⟨[(0, (i6 a0)), (5, (ow 5)), (6, (ow 6)), (7, (i6 r2)), (8, (.osl 8)), (9, (.osl 9)), (10, (.osl 10)), (11, (i6 x951)), (12, (ow 12)), (13, (ow 13)), (14, (i6 x2158))], [(5, (bk (eA64u8 a2))), (6, (bk (eA64u8 ((vrep 64 (0 : Int)))))), (8, (bk (.row 64 (x952.map eA64u8)))), (9, (bk (.row 64 (x953.map eA64u8)))), (10, (bk (.row 64 (x2159.map eA64u8)))), (12, (bk (eA64u8 x2160))), (13, (bk (eA64u8 ((vrep 64 (0 : Int))))))]⟩) (by kernel_rfl) (a_seq (a_block ?_))))
      obtain ⟨y2257, hy2258, hk2259⟩ := bind_some h
      clear h
      refine a_join (emb := fun (s : (Vec Int 64)) => ⟨[(0, (i6 a0)), (5, (ow 5)), (6, (ow 6)), (7, (i6 r2)), (8, (.osl 8)), (9, (.osl 9)), (10, (.osl 10)), (11, (i6 x951)), (12, (ow 12)), (13, (ow 13)), (14, (i6 x2158))], [(5, (bk (eA64u8 a2))), (6, (bk (eA64u8 ((vrep 64 (0 : Int)))))), (8, (bk (.row 64 (x952.map eA64u8)))), (9, (bk (.row 64 (x953.map eA64u8)))), (10, (bk (.row 64 (x2159.map eA64u8)))), (12, (bk (eA64u8 s))), (13, (bk (eA64u8 ((vrep 64 (0 : Int))))))]⟩) (pre := fun s => s = y2257) ?_ ?_
      · rintro x2256 rfl
        have h := hk2259
        refine a_st (σ' := ⟨[(0, (i6 a0)), (5, (ow 5)), (6, (ow 6)), (7, (i6 r2)), (8, (.osl 8)), (9, (.osl 9)), (10, (.osl 10)), (11, (i6 x951)), (12, (ow 12)), (13, (ow 13)), (14, (i6 x2158))], [(5, (bk (eA64u8 a2))), (6, (bk (eA64u8 ((vrep 64 (0 : Int)))))), (8, (bk (.row 64 (x952.map eA64u8)))), (9, (bk (.row 64 (x953.map eA64u8)))), (10, (bk (.row 64 (x2159.map eA64u8)))), (12, (bk (eA64u8 x2256))), (13, (bk (eA64u8 ((vrep 64 (0 : Int))))))]⟩) (by kernel_rfl) (a_draw [⟨[], [], [10], []⟩, ⟨[], [], [], []⟩, ⟨[], [], [], []⟩, ⟨[], [], [10], []⟩, ⟨[], [], [], []⟩, ⟨[10], [], [10], [3, 4]⟩, ⟨[10], [], [], [3, 4, 5]⟩, ⟨[5], [], [], []⟩, ⟨[], [], [], [2, 3, 4, 5, 6, 7]⟩, ⟨[10], [], [10], [0, 1, 2, 3, 4, 5, 6, 7, 8]⟩, ⟨[10], [10], [], [0, 1, 2, 3, 4, 5, 6, 7, 8, 9]⟩] (by kernel_rfl) (dp (.osl 10) rfl (by kernel_rfl) (dp (i6 x2158) rfl (by kernel_rfl) (dp (i6 a0) rfl (by kernel_rfl) (dp (.osl 10) rfl (by kernel_rfl) (dp (i6 x2158) rfl (by kernel_rfl) (d_cons ?_)))))))
        obtain ⟨hc2291, h⟩ := ifp_some h
        refine vq (.own 10 [x2158.toNat] [x2158.toNat * 64]) rfl (lmap hc2291) (d_next (by kernel_rfl) (d_cons ?_))
        have hl2292 : LdOk [x2158.toNat] (.row 64 (x2159.map eA64u8)) [x2158.toNat * 64] 64 true (eA64u8 (rd x2159 x2158.toNat)) := (.row (llt hc2291) rfl (.nil rfl rfl rfl))
        refine vq (eA64u8 (rd x2159 x2158.toNat)) (ld_own (i := ⟨.arr 64 5, 64, 64, (eA64u8 (vrep 64 (0 : Int)))⟩) rfl rfl rfl hl2292) hl2292.c (d_next (by kernel_rfl) (d_cons (vl (eA64u8 a2) rfl rfl rfl rfl rfl rfl (d_next (by kernel_rfl) (d_cons ?_)))))
        obtain ⟨r2294, hr2295, h⟩ := bind_some h
        refine a_call (args := [(i6 a0), (eA64u8 (rd x2159 x2158.toNat)), (eA64u8 a2)]) (u := []) (r := (eA64u8 r2294)) rfl rfl (spec_l04Step_ok a0 (rd x2159 x2158.toNat) a2 r2294 hr2295) rfl (d_next (by kernel_rfl) (d_cons ?_))
        obtain ⟨hc2296, h⟩ := ifp_some h
        refine vq (.own 10 [x2158.toNat] [x2158.toNat * 64]) rfl (lmap hc2296) (d_next (by kernel_rfl) (d_cons ?_))
        have hs2297 : StOk [x2158.toNat] (.row 64 (x2159.map eA64u8)) [x2158.toNat * 64] 64 (eA64u8 r2294) (.row 64 ((x2159.set x2158.toNat r2294).map eA64u8)) := (.row (y := r2294) (llt hc2296) rfl (.nil rfl rfl rfl rfl))
        refine vu .top [(10, (bk (.row 64 ((x2159.set x2158.toNat r2294).map eA64u8))))] (st_own (i := ⟨.arr 64 5, 64, 64, (eA64u8 (vrep 64 (0 : Int)))⟩) rfl rfl (fun _ => rfl) rfl hs2297) (hs2297.c rfl) rfl (d_next (by kernel_rfl) (d_nil (b_norm (a_next (σ' := ⟨[(0, (i6 a0)), (5, (ow 5)), (6, (ow 6)), (7, (i6 r2)), (8, (.osl 8)), (9, (.osl 9)), (10, (.osl 10)), (11, (i6 x951)), (12, (ow 12)), (13, (ow 13)), (14, (i6 x2158))], [(5, (bk (eA64u8 a2))), (6, (bk (eA64u8 ((vrep 64 (0 : Int)))))), (8, (bk (.row 64 (x952.map eA64u8)))), (9, (bk (.row 64 (x953.map eA64u8)))), (10, (bk (.row 64 ((x2159.set x2158.toNat r2294).map eA64u8)))), (12, (bk (eA64u8 x2256))), (13, (bk (eA64u8 ((vrep 64 (0 : Int))))))]⟩) (by kernel_rfl) (a_region (vp (i6 x2158) rfl (vp (i6 (IntKind.i64.wrap (x2158 + 1))) rfl (vp (i6 (IntKind.i64.wrap (x2158 + 1))) rfl (a_nil ?_)))))))))
        cases h
        exact a_again (by kernel_rfl) hX2230
      · have h := hy2258
        refine sr (vp (i6 0) rfl (nx ⟨[(0, (i6 a0)), (5, (ow 5)), (6, (ow 6)), (7, (i6 r2)), (8, (.osl 8)), (9, (.osl 9)), (10, (.osl 10)), (11, (i6 x951)), (12, (ow 12)), (13, (ow 13)), (14, (i6 x2158)), (15, (i6 0))], [(5, (bk (eA64u8 a2))), (6, (bk (eA64u8 ((vrep 64 (0 : Int)))))), (8, (bk (.row 64 (x952.map eA64u8)))), (9, (bk (.row 64 (x953.map eA64u8)))), (10, (bk (.row 64 (x2159.map eA64u8)))), (12, (bk (eA64u8 x2160))), (13, (bk (eA64u8 ((vrep 64 (0 : Int))))))]⟩ (by kernel_rfl) (a_block ?_)))
        refine a_loop (emb := fun (s : (Int × (Vec Int 64))) => ⟨[(0, (i6 a0)), (5, (ow 5)), (6, (ow 6)), (7, (i6 r2)), (8, (.osl 8)), (9, (.osl 9)), (10, (.osl 10)), (11, (i6 x951)), (12, (ow 12)), (13, (ow 13)), (14, (i6 x2158)), (15, (i6 s.1))], [(5, (bk (eA64u8 a2))), (6, (bk (eA64u8 ((vrep 64 (0 : Int)))))), (8, (bk (.row 64 (x952.map eA64u8)))), (9, (bk (.row 64 (x953.map eA64u8)))), (10, (bk (.row 64 (x2159.map eA64u8)))), (12, (bk (eA64u8 s.2))), (13, (bk (eA64u8 ((vrep 64 (0 : Int))))))]⟩) (body := (fun s : (Int × (Vec Int 64)) => spec_l04Annihilator_l3 r2 x2158 x2159 s.1 s.2)) (G := fun q => some q = some y2257) h rfl ?_ (by kernel_rfl)
        rintro X2274 ⟨x2266, x2267⟩ x2275 h hX2276
        have h : spec_l04Annihilator_l3 r2 x2158 x2159 x2266 x2267 = some x2275 := h
        refine a_st (σ' := ⟨[(0, (i6 a0)), (5, (ow 5)), (6, (ow 6)), (7, (i6 r2)), (8, (.osl 8)), (9, (.osl 9)), (10, (.osl 10)), (11, (i6 x951)), (12, (ow 12)), (13, (ow 13)), (14, (i6 x2158)), (15, (i6 x2266))], [(5, (bk (eA64u8 a2))), (6, (bk (eA64u8 ((vrep 64 (0 : Int)))))), (8, (bk (.row 64 (x952.map eA64u8)))), (9, (bk (.row 64 (x953.map eA64u8)))), (10, (bk (.row 64 (x2159.map eA64u8)))), (12, (bk (eA64u8 x2267))), (13, (bk (eA64u8 ((vrep 64 (0 : Int))))))]⟩) (by kernel_rfl) (a_seq (sr (vp (i6 x2266) rfl (vp (i6 r2) rfl (vp (.bool ((decide (x2266 < r2)))) rfl (nx ⟨[(0, (i6 a0)), (5, (ow 5)), (6, (ow 6)), (7, (i6 r2)), (8, (.osl 8)), (9, (.osl 9)), (10, (.osl 10)), (11, (i6 x951)), (12, (ow 12)), (13, (ow 13)), (14, (i6 x2158)), (15, (i6 x2266)), (40, (.bool ((decide (x2266 < r2)))))], [(5, (bk (eA64u8 a2))), (6, (bk (eA64u8 ((vrep 64 (0 : Int)))))), (8, (bk (.row 64 (x952.map eA64u8)))), (9, (bk (.row 64 (x953.map eA64u8)))), (10, (bk (.row 64 (x2159.map eA64u8)))), (12, (bk (eA64u8 x2267))), (13, (bk (eA64u8 ((vrep 64 (0 : Int))))))]⟩ (by kernel_rfl) ?_))))))
        cases hb2277 : (decide (x2266 < r2))
        · have h := ite_f hb2277 h
          refine a_cond_f rfl (a_exit (t_exit ?_))
          cases h
          have h := hX2276
          refine t_exit (b_exit ?_)
          exact j_leaf x2267 (Option.some.inj h) (by kernel_rfl)
        · have h := ite_t hb2277 h
          refine a_cond_t rfl (a_skip (a_next (σ' := ⟨[(0, (i6 a0)), (5, (ow 5)), (6, (ow 6)), (7, (i6 r2)), (8, (.osl 8)), (9, (.osl 9)), (10, (.osl 10)), (11, (i6 x951)), (12, (ow 12)), (13, (ow 13)), (14, (i6 x2158)), (15, (i6 x2266))], [(5, (bk (eA64u8 a2))), (6, (bk (eA64u8 ((vrep 64 (0 : Int)))))), (8, (bk (.row 64 (x952.map eA64u8)))), (9, (bk (.row 64 (x953.map eA64u8)))), (10, (bk (.row 64 (x2159.map eA64u8)))), (12, (bk (eA64u8 x2267))), (13, (bk (eA64u8 ((vrep 64 (0 : Int))))))]⟩) (by kernel_rfl) (a_seq (a_block (a_region (vp (i6 x2158) rfl (vp (i6 r2) rfl (vp (i6 (IntKind.i64.wrap (x2158 * r2))) rfl (vp (i6 x2266) rfl ?_)))))))))
          refine vp (i6 (IntKind.i64.wrap ((IntKind.i64.wrap (x2158 * r2)) + x2266))) rfl (vp (.osl 10) rfl (vp (i6 x2158) rfl (vp (i6 x2266) rfl ?_)))
          obtain ⟨hc2278, h⟩ := ifp_some h
          refine vq (.own 10 [x2158.toNat] [x2158.toNat * 64]) rfl (lmap hc2278) ?_
          obtain ⟨hc2279, h⟩ := ifp_some h
          refine vq (.own 10 [x2158.toNat, x2266.toNat] [x2158.toNat * 64, x2266.toNat * 1]) rfl hc2279 ?_
          have hl2280 : LdOk [x2158.toNat, x2266.toNat] (.row 64 (x2159.map eA64u8)) [x2158.toNat * 64, x2266.toNat * 1] 1 false (b8 ((rd (rd x2159 x2158.toNat).1 x2266.toNat))) := (.row (llt hc2278) rfl (.arr (vlt (rd x2159 x2158.toNat) hc2279) rfl (.nil rfl rfl rfl)))
          refine vq (b8 ((rd (rd x2159 x2158.toNat).1 x2266.toNat))) (ld_own (i := ⟨.int .u8, 1, 1, (.int .u8 0)⟩) rfl rfl rfl hl2280) hl2280.c ?_
          obtain ⟨hc2281, h⟩ := ifp_some h
          refine vq (.own 12 [(IntKind.i64.wrap ((IntKind.i64.wrap (x2158 * r2)) + x2266)).toNat] [(IntKind.i64.wrap ((IntKind.i64.wrap (x2158 * r2)) + x2266)).toNat * 1]) rfl hc2281 ?_
          have hs2282 : StOk [(IntKind.i64.wrap ((IntKind.i64.wrap (x2158 * r2)) + x2266)).toNat] (eA64u8 x2267) [(IntKind.i64.wrap ((IntKind.i64.wrap (x2158 * r2)) + x2266)).toNat * 1] 1 (b8 ((rd (rd x2159 x2158.toNat).1 x2266.toNat))) (eA64u8 ((vset x2267 (IntKind.i64.wrap ((IntKind.i64.wrap (x2158 * r2)) + x2266)).toNat ((rd (rd x2159 x2158.toNat).1 x2266.toNat))))) := (.arr (y := (rd (rd x2159 x2158.toNat).1 x2266.toNat)) (vlt x2267 hc2281) rfl (.nil rfl rfl rfl rfl))
          refine vu .top [(12, (bk (eA64u8 ((vset x2267 (IntKind.i64.wrap ((IntKind.i64.wrap (x2158 * r2)) + x2266)).toNat ((rd (rd x2159 x2158.toNat).1 x2266.toNat)))))))] (st_own (i := ⟨.int .u8, 1, 1, (.int .u8 0)⟩) rfl rfl (fun _ => rfl) rfl hs2282) (hs2282.c rfl) rfl (a_nil (b_norm (a_next (σ' := ⟨[(0, (i6 a0)), (5, (ow 5)), (6, (ow 6)), (7, (i6 r2)), (8, (.osl 8)), (9, (.osl 9)), (10, (.osl 10)), (11, (i6 x951)), (12, (ow 12)), (13, (ow 13)), (14, (i6 x2158)), (15, (i6 x2266))], [(5, (bk (eA64u8 a2))), (6, (bk (eA64u8 ((vrep 64 (0 : Int)))))), (8, (bk (.row 64 (x952.map eA64u8)))), (9, (bk (.row 64 (x953.map eA64u8)))), (10, (bk (.row 64 (x2159.map eA64u8)))), (12, (bk (eA64u8 ((vset x2267 (IntKind.i64.wrap ((IntKind.i64.wrap (x2158 * r2)) + x2266)).toNat ((rd (rd x2159 x2158.toNat).1 x2266.toNat))))))), (13, (bk (eA64u8 ((vrep 64 (0 : Int))))))]⟩) (by kernel_rfl) (a_region (vp (i6 x2266) rfl (vp (i6 (IntKind.i64.wrap (x2266 + 1))) rfl (vp (i6 (IntKind.i64.wrap (x2266 + 1))) rfl (a_nil ?_))))))))
          cases h
          exact a_again (by kernel_rfl) hX2276
def spec_l04Exponent_c : ACode := (.seq (.region 0 [q 3 (.box 26 (t 1)), q 4 (.alloc 26)] false) (.seq (.region 1 [q 8 (.bslice 2 62 0 []), q 5 (.asg 2 (t 8) 62)] false) (.seq (.seq (.region 2 [q 6 (.asg 0 (.const (.int .i64 0)) 2)] false) (.block 0 (.loop (.seq (.seq (.region 3 [q 9 (.mov (t 6)), q 10 (.load 26 (t 3)), q 11 (.call 0 (.func 34) [(t 10)]), q 12 (.bin .lss 2 (t 9) (t 11))] false) (.cond (t 12) .skip (.exit 0))) (.seq (.block 1 (.seq (.region 5 [q 15 (.build 26 []), q 7 (.alloc 26), ⟨none, .store 26 (t 7) (t 15), none, []⟩] false) (.seq (.region 6 [q 16 (.mov (t 6)), q 17 (.indexAddr 26 (t 7) (t 16)), ⟨none, .store 5 (t 17) (.const (.int .u8 1)), none, []⟩] false) (.region 7 [q 18 (.mov (t 5)), q 19 (.load 26 (t 7)), q 20 (.bslice 0 62 1 [(0, (t 19))]), q 21 (.blt 0 .append [(t 18), (t 20)] [62, 62]), q 5 (.asg 2 (t 21) 62)] false)))) (.region 4 [q 13 (.mov (t 6)), q 14 (.bin .add 2 (t 13) (.const (.int .i64 1))), q 6 (.asg 0 (t 14) 2)] false)))))) (.seq (.region 8 [q 22 (.mov (t 0)), q 23 (.mov (t 5)), q 24 (.load 26 (t 3)), q 25 (.call 0 (.func 36) [(t 22), (t 23), (t 24)]), ⟨none, .store 26 (t 4) (t 25), none, []⟩] false) .ret))))
def spec_l04Exponent_L : Live := [(0, [0, 1]), (1, [0, 3, 4]), (2, [0, 3, 4, 5]), (3, [0, 3, 4, 5, 6]), (4, [0, 3, 4, 5, 6]), (5, [0, 3, 4, 5, 6]), (6, [0, 3, 4, 5, 6, 7]), (7, [0, 3, 4, 5, 6, 7]), (8, [0, 3, 4, 5]), (100012, [0, 3, 4, 5, 6, 12])]
noncomputable def spec_l04Exponent_l1 (a1 : (Vec Int 64)) (x47 : Int) (x48 : (List (Vec Int 64))) : Option ((Int × (List (Vec Int 64))) ⊕ (List (Vec Int 64))) :=
  (Option.bind (spec_l01Deg a1) fun r62 => (if (decide (x47 < r62)) then (ifp (0 ≤ x47 ∧ x47 < ((64 : Nat) : Int)) ((ifp ((x48.length + ([(vset ((vrep 64 (0 : Int))) x47.toNat 1)] : List (Vec Int 64)).length) * 64 ≤ 140737488355328) ((some (.inl ((IntKind.i64.wrap (x47 + 1), (x48 ++ ([(vset ((vrep 64 (0 : Int))) x47.toNat 1)])))))))))) else (some (.inr x48))))
noncomputable def spec_l04Exponent (a0 : Int) (a1 : (Vec Int 64)) : Option (Vec Int 64) :=
  (Option.bind (α := (List (Vec Int 64))) ((loopM (fun s : (Int × (List (Vec Int 64))) => spec_l04Exponent_l1 a1 s.1 s.2) (0, []))) fun x34 => (Option.bind (spec_l04Annihilator a0 x34 a1) fun r72 => (some r72)))
theorem spec_l04Exponent_ok (a0 : Int) (a1 : (Vec Int 64)) (r : (Vec Int 64)) (h : spec_l04Exponent a0 a1 = some r) : Den Try.prog 25 [(i6 a0), (eA64u8 a1)] { r := (eA64u8 r) } := by
  refine den_of (rs := [(eA64u8 r)]) (ac := spec_l04Exponent_c) (L := spec_l04Exponent_L) (n := 26) (m := [(5, 2), (8, 2)]) (c := Try.f25.body.getD .skip) good Try.func25 (by kernel_rfl) (by kernel_rfl) Try.ntmps25 rfl rfl (by kernel_rfl) rfl rfl ?_
  refine a_st (σ' := ⟨[(0, (i6 a0)), (1, (eA64u8 a1))], []⟩) (by kernel_rfl) ?_
  unfold spec_l04Exponent_c
  refine sr (vo 1300 (eA64u8 a1) rfl rfl (vo 1400 (eA64u8 ((vrep 64 (0 : Int)))) rfl rfl (nx ⟨[(0, (i6 a0)), (3, (ow 3)), (4, (ow 4))], [(3, (bk (eA64u8 a1))), (4, (bk (eA64u8 ((vrep 64 (0 : Int))))))]⟩ (by kernel_rfl) (sr (vu (.osl 1800) [(1800, (bk (.row 64 (([]).map eA64u8))))] rfl ⟨(Nat.le_of_ble_eq_true rfl), (Nat.le_of_ble_eq_true rfl), all_nil⟩ rfl (vp (.osl 1800) rfl (nx ⟨[(0, (i6 a0)), (3, (ow 3)), (4, (ow 4)), (5, (.osl 5))], [(3, (bk (eA64u8 a1))), (4, (bk (eA64u8 ((vrep 64 (0 : Int)))))), (5, (bk (.row 64 (([]).map eA64u8))))]⟩ (by kernel_rfl) ?_)))))))
  obtain ⟨y35, hy36, hk37⟩ := bind_some h
  clear h
  refine a_join (emb := fun (s : (List (Vec Int 64))) => ⟨[(0, (i6 a0)), (3, (ow 3)), (4, (ow 4)), (5, (.osl 5))], [(3, (bk (eA64u8 a1))), (4, (bk (eA64u8 ((vrep 64 (0 : Int)))))), (5, (bk (.row 64 (s.map eA64u8))))]⟩) (pre := fun s => s = y35) ?_ ?_
  · rintro x34 rfl
    have h := hk37
    refine a_st (σ' := ⟨[(0, (i6 a0)), (3, (ow 3)), (4, (ow 4)), (5, (.osl 5))], [(3, (bk (eA64u8 a1))), (4, (bk (eA64u8 ((vrep 64 (0 : Int)))))), (5, (bk (.row 64 (x34.map eA64u8))))]⟩) (by kernel_rfl) (sr (vp (i6 a0) rfl (vp (.osl 5) rfl (vl (eA64u8 a1) rfl rfl rfl rfl rfl rfl ?_))))
    obtain ⟨r72, hr73, h⟩ := bind_some h
    refine a_call (args := [(i6 a0), (eSA64u8 x34), (eA64u8 a1)]) (u := [(5, (bf (.row 64 (x34.map eA64u8))))]) (r := (eA64u8 r72)) rfl rfl (spec_l04Annihilator_ok a0 x34 a1 r72 hr73) rfl (vs (eA64u8 r72) rfl rfl (fun _ => rfl) rfl rfl rfl rfl rfl rfl (nx _ rfl (a_ret ?_)))
    have hl75 : LdOk [] (eA64u8 r72) [] 64 true (eA64u8 r72) := (.nil rfl rfl rfl)
    refine ⟨.inr rfl, ?_⟩
    rw [Try.results25]
    cases h
    exact ⟨_, _, _, _, _, ld_own (i := ⟨.arr 64 5, 64, 64, (eA64u8 (vrep 64 (0 : Int)))⟩) rfl rfl rfl hl75, hl75.c, .inl ⟨rfl, .inl rfl⟩, rfl, rfl⟩
  · have h := hy36
    refine sr (vp (i6 0) rfl (nx ⟨[(0, (i6 a0)), (3, (ow 3)), (4, (ow 4)), (5, (.osl 5)), (6, (i6 0))], [(3, (bk (eA64u8 a1))), (4, (bk (eA64u8 ((vrep 64 (0 : Int)))))), (5, (bk (.row 64 (([]).map eA64u8))))]⟩ (by kernel_rfl) (a_block ?_)))
    refine a_loop (emb := fun (s : (Int × (List (Vec Int 64)))) => ⟨[(0, (i6 a0)), (3, (ow 3)), (4, (ow 4)), (5, (.osl 5)), (6, (i6 s.1))], [(3, (bk (eA64u8 a1))), (4, (bk (eA64u8 ((vrep 64 (0 : Int)))))), (5, (bk (.row 64 (s.2.map eA64u8))))]⟩) (body := (fun s : (Int × (List (Vec Int 64))) => spec_l04Exponent_l1 a1 s.1 s.2)) (G := fun q => some q = some y35) h rfl ?_ (by kernel_rfl)
    rintro X58 ⟨x47, x48⟩ x59 h hX60
    have h : spec_l04Exponent_l1 a1 x47 x48 = some x59 := h
    refine a_st (σ' := ⟨[(0, (i6 a0)), (3, (ow 3)), (4, (ow 4)), (5, (.osl 5)), (6, (i6 x47))], [(3, (bk (eA64u8 a1))), (4, (bk (eA64u8 ((vrep 64 (0 : Int)))))), (5, (bk (.row 64 (x48.map eA64u8))))]⟩) (by kernel_rfl) (a_seq (sr (vp (i6 x47) rfl (vl (eA64u8 a1) rfl rfl rfl rfl rfl rfl ?_))))
    obtain ⟨r62, hr63, h⟩ := bind_some h
    refine a_call (args := [(eA64u8 a1)]) (u := []) (r := (i6 r62)) rfl rfl (spec_l01Deg_ok a1 r62 hr63) rfl (vp (.bool ((decide (x47 < r62)))) rfl (nx ⟨[(0, (i6 a0)), (3, (ow 3)), (4, (ow 4)), (5, (.osl 5)), (6, (i6 x47)), (12, (.bool ((decide (x47 < r62)))))], [(3, (bk (eA64u8 a1))), (4, (bk (eA64u8 ((vrep 64 (0 : Int)))))), (5, (bk (.row 64 (x48.map eA64u8))))]⟩ (by kernel_rfl) ?_))
    cases hb64 : (decide (x47 < r62))
    · have h := ite_f hb64 h
      refine a_cond_f rfl (a_exit (t_exit ?_))
      cases h
      have h := hX60
      refine t_exit (b_exit ?_)
      exact j_leaf x48 (Option.some.inj h) (by kernel_rfl)
    · have h := ite_t hb64 h
      refine a_cond_t rfl (a_skip (a_next (σ' := ⟨[(0, (i6 a0)), (3, (ow 3)), (4, (ow 4)), (5, (.osl 5)), (6, (i6 x47))], [(3, (bk (eA64u8 a1))), (4, (bk (eA64u8 ((vrep 64 (0 : Int)))))), (5, (bk (.row 64 (x48.map eA64u8))))]⟩) (by kernel_rfl) (a_seq (a_block (sr (vq (eA64u8 ((vrep 64 (0 : Int)))) rfl ⟨⟨_, rfl, rfl⟩, all_nil⟩ (vo 1700 (eA64u8 ((vrep 64 (0 : Int)))) rfl rfl (vs (eA64u8 ((vrep 64 (0 : Int)))) rfl rfl (fun _ => rfl) rfl rfl rfl rfl rfl rfl (nx ⟨[(0, (i6 a0)), (3, (ow 3)), (4, (ow 4)), (5, (.osl 5)), (6, (i6 x47)), (7, (ow 7))], [(3, (bk (eA64u8 a1))), (4, (bk (eA64u8 ((vrep 64 (0 : Int)))))), (5, (bk (.row 64 (x48.map eA64u8)))), (7, (bk (eA64u8 ((vrep 64 (0 : Int))))))]⟩ (by kernel_rfl) ?_)))))))))
      refine sr (vp (i6 x47) rfl ?_)
      obtain ⟨hc66, h⟩ := ifp_some h
      refine vq (.own 7 [x47.toNat] [x47.toNat * 1]) rfl hc66 ?_
      have hs67 : StOk [x47.toNat] (eA64u8 ((vrep 64 (0 : Int)))) [x47.toNat * 1] 1 (b8 1) (eA64u8 ((vset ((vrep 64 (0 : Int))) x47.toNat 1))) := (.arr (y := 1) (vlt ((vrep 64 (0 : Int))) hc66) rfl (.nil rfl rfl rfl rfl))
      refine vu .top [(7, (bk (eA64u8 ((vset ((vrep 64 (0 : Int))) x47.toNat 1)))))] (st_own (i := ⟨.int .u8, 1, 1, (.int .u8 0)⟩) rfl rfl (fun _ => rfl) rfl hs67) (hs67.c rfl) rfl (nx ⟨[(0, (i6 a0)), (3, (ow 3)), (4, (ow 4)), (5, (.osl 5)), (6, (i6 x47)), (7, (ow 7))], [(3, (bk (eA64u8 a1))), (4, (bk (eA64u8 ((vrep 64 (0 : Int)))))), (5, (bk (.row 64 (x48.map eA64u8)))), (7, (bk (eA64u8 ((vset ((vrep 64 (0 : Int))) x47.toNat 1)))))]⟩ (by kernel_rfl) (a_region (vp (.osl 5) rfl (vl (eA64u8 ((vset ((vrep 64 (0 : Int))) x47.toNat 1))) rfl rfl rfl rfl rfl rfl (vq (.sl 64 true (([(vset ((vrep 64 (0 : Int))) x47.toNat 1)]).map eA64u8)) rfl ⟨(Nat.le_of_ble_eq_true rfl), (Nat.le_of_ble_eq_true rfl), (all_cons ⟨(Nat.le_of_ble_eq_true rfl), rfl⟩ all_nil)⟩ ?_)))))
      obtain ⟨hc69, h⟩ := ifp_some h
      refine vu (.osl 3100) [(3100, (bk (.row 64 (((x48 ++ ([(vset ((vrep 64 (0 : Int))) x47.toNat 1)]))).map eA64u8)))), (5, none)] (app_run (i := ⟨.arr 64 5, 64, 64, (eA64u8 (vrep 64 (0 : Int)))⟩) (f := eA64u8) (l := x48) (l2 := [(vset ((vrep 64 (0 : Int))) x47.toNat 1)]) rfl rfl rfl rfl (fun _ => rfl) rfl rfl) (app_c (f := eA64u8) (s := 64) (sz := 64) (by' := 64) (u := []) (id := 5) hc69 (.inr rfl) rfl rfl rfl) rfl (vp (.osl 3100) rfl (a_nil (b_norm (a_next (σ' := ⟨[(0, (i6 a0)), (3, (ow 3)), (4, (ow 4)), (5, (.osl 5)), (6, (i6 x47))], [(3, (bk (eA64u8 a1))), (4, (bk (eA64u8 ((vrep 64 (0 : Int)))))), (5, (bk (.row 64 (((x48 ++ ([(vset ((vrep 64 (0 : Int))) x47.toNat 1)]))).map eA64u8))))]⟩) (by kernel_rfl) (a_region (vp (i6 x47) rfl (vp (i6 (IntKind.i64.wrap (x47 + 1))) rfl (vp (i6 (IntKind.i64.wrap (x47 + 1))) rfl (a_nil ?_)))))))))
      cases h
      exact a_again (by kernel_rfl) hX60
def spec_ExponentOf_c : ACode := (.seq (.region 0 [q 3 (.box 26 (t 1)), q 4 (.alloc 26), q 5 (.asg 0 (.const (.int .i64 0)) 2)] false) (.seq (.seq (.region 1 [q 7 (.mov (t 0)), q 8 (.load 26 (t 3)), q 9 (.call 0 (.func 24) [(t 7), (t 8), (.const (.slice none 0 0))]), q 6 (.asg 0 (t 9) 2)] false) (.seq (.region 2 [q 10 (.mov (t 6)), q 11 (.bin .neq 2 (t 10) (.const (.int .i64 0)))] false) (.cond (t 11) (.seq (.region 3 [q 12 (.build 26 []), q 13 (.mov (t 6)), ⟨none, .store 26 (t 4) (t 12), none, []⟩, q 5 (.asg 0 (t 13) 2)] false) .ret) .skip))) (.seq (.region 4 [q 14 (.mov (t 0)), q 15 (.load 26 (t 3)), q 16 (.call 0 (.func 25) [(t 14), (t 15)]), ⟨none, .store 26 (t 4) (t 16), none, []⟩, q 5 (.asg 0 (.const (.int .i64 0)) 2)] false) .ret)))
def spec_ExponentOf_L : Live := [(0, [0, 1]), (1, [0, 3, 4]), (2, [0, 3, 4, 6]), (3, [4, 6]), (4, [0, 3, 4]), (100011, [0, 3, 4, 6, 11])]
noncomputable def spec_ExponentOf (a0 : Int) (a1 : (Vec Int 64)) : Option ((Vec Int 64) × Int) :=
  (Option.bind (spec_l02Modulus a0 a1 ([])) fun r2 => (if (r2 != 0) then (some (((vrep 64 (0 : Int)), r2))) else (Option.bind (spec_l04Exponent a0 a1) fun r6 => (some (r6, 0)))))
theorem spec_ExponentOf_ok (a0 : Int) (a1 : (Vec Int 64)) (r : ((Vec Int 64) × Int)) (h : spec_ExponentOf a0 a1 = some r) : Den Try.prog 12 [(i6 a0), (eA64u8 a1)] { r := (.tuple [(eA64u8 r.1), (i6 r.2)]) } := by
  refine den_of (rs := [(eA64u8 r.1), (i6 r.2)]) (ac := spec_ExponentOf_c) (L := spec_ExponentOf_L) (n := 17) (m := []) (c := Try.f12.body.getD .skip) good Try.func12 (by kernel_rfl) (by kernel_rfl) Try.ntmps12 rfl rfl (by kernel_rfl) rfl rfl ?_
  refine a_st (σ' := ⟨[(0, (i6 a0)), (1, (eA64u8 a1))], []⟩) (by kernel_rfl) ?_
  unfold spec_ExponentOf_c
  refine sr (vo 1300 (eA64u8 a1) rfl rfl (vo 1400 (eA64u8 ((vrep 64 (0 : Int)))) rfl rfl (vp (i6 0) rfl (nx ⟨[(0, (i6 a0)), (3, (ow 3)), (4, (ow 4))], [(3, (bk (eA64u8 a1))), (4, (bk (eA64u8 ((vrep 64 (0 : Int))))))]⟩ (by kernel_rfl) (a_seq (sr (vp (i6 a0) rfl (vl (eA64u8 a1) rfl rfl rfl rfl rfl rfl ?_))))))))
  obtain ⟨r2, hr3, h⟩ := bind_some h
  refine a_call (args := [(i6 a0), (eA64u8 a1), (.sl 0 true [])]) (u := []) (r := (i6 r2)) rfl rfl (Den.args (spec_l02Modulus_ok a0 a1 ([]) r2 hr3) rfl rfl (.cons (.refl _) (.cons (.refl _) (.cons (.nil _ _ _ _ (fun _ => rfl)) .nil)))) rfl (vp (i6 r2) rfl (nx ⟨[(0, (i6 a0)), (3, (ow 3)), (4, (ow 4)), (6, (i6 r2))], [(3, (bk (eA64u8 a1))), (4, (bk (eA64u8 ((vrep 64 (0 : Int))))))]⟩ (by kernel_rfl) (sr (vp (i6 r2) rfl (vp (.bool (r2 != 0)) rfl (nx ⟨[(0, (i6 a0)), (3, (ow 3)), (4, (ow 4)), (6, (i6 r2)), (11, (.bool (r2 != 0)))], [(3, (bk (eA64u8 a1))), (4, (bk (eA64u8 ((vrep 64 (0 : Int))))))]⟩ (by kernel_rfl) ?_))))))
  cases hb4 : (r2 != 0)
  · have h := ite_f hb4 h
    refine a_cond_f rfl (a_skip (a_next (σ' := ⟨[(0, (i6 a0)), (3, (ow 3)), (4, (ow 4))], [(3, (bk (eA64u8 a1))), (4, (bk (eA64u8 ((vrep 64 (0 : Int))))))]⟩) (by kernel_rfl) (sr (vp (i6 a0) rfl (vl (eA64u8 a1) rfl rfl rfl rfl rfl rfl ?_)))))
    obtain ⟨r6, hr7, h⟩ := bind_some h
    refine a_call (args := [(i6 a0), (eA64u8 a1)]) (u := []) (r := (eA64u8 r6)) rfl rfl (spec_l04Exponent_ok a0 a1 r6 hr7) rfl (vs (eA64u8 r6) rfl rfl (fun _ => rfl) rfl rfl rfl rfl rfl rfl (vp (i6 0) rfl (nx _ rfl (a_ret ?_))))
    have hl9 : LdOk [] (eA64u8 r6) [] 64 true (eA64u8 r6) := (.nil rfl rfl rfl)
    refine ⟨.inr rfl, ?_⟩
    rw [Try.results12]
    cases h
    exact ⟨_, _, _, _, _, ld_own (i := ⟨.arr 64 5, 64, 64, (eA64u8 (vrep 64 (0 : Int)))⟩) rfl rfl rfl hl9, hl9.c, .inl ⟨rfl, .inl rfl⟩, rfl, ⟨_, _, _, _, _, rfl, trivial, .inl ⟨rfl, .inl rfl⟩, rfl, rfl⟩⟩
  · have h := ite_t hb4 h
    refine a_cond_t rfl (sr (vq (eA64u8 ((vrep 64 (0 : Int)))) rfl ⟨⟨_, rfl, rfl⟩, all_nil⟩ (vp (i6 r2) rfl (vs (eA64u8 ((vrep 64 (0 : Int)))) rfl rfl (fun _ => rfl) rfl rfl rfl rfl rfl rfl (vp (i6 r2) rfl (nx _ rfl (a_ret (t_ret ?_))))))))
    have hl11 : LdOk [] (eA64u8 ((vrep 64 (0 : Int)))) [] 64 true (eA64u8 ((vrep 64 (0 : Int)))) := (.nil rfl rfl rfl)
    refine ⟨.inr rfl, ?_⟩
    rw [Try.results12]
    cases h
    exact ⟨_, _, _, _, _, ld_own (i := ⟨.arr 64 5, 64, 64, (eA64u8 (vrep 64 (0 : Int)))⟩) rfl rfl rfl hl11, hl11.c, .inl ⟨rfl, .inl rfl⟩, rfl, ⟨_, _, _, _, _, rfl, trivial, .inl ⟨rfl, .inl rfl⟩, rfl, rfl⟩⟩
def impl_isPrime_c : ACode := (.seq (.region 0 [q 2 (.asg 0 (.const (.bool false)) 4)] false) (.seq (.region 1 [q 3 (.mov (t 0)), q 4 (.bin .eql 2 (t 3) (.const (.int .i64 2))), q 5 (.mov (t 4)), ⟨some 6, .mov (t 0), some (5, false), []⟩, ⟨some 7, .bin .eql 2 (t 6) (.const (.int .i64 3)), some (5, false), []⟩, q 8 (.pick (t 5) (.const (.bool true)) (t 7)), q 9 (.mov (t 8)), ⟨some 10, .mov (t 0), some (9, false), []⟩, ⟨some 11, .bin .eql 2 (t 10) (.const (.int .i64 5)), some (9, false), []⟩, q 12 (.pick (t 9) (.const (.bool true)) (t 11)), q 13 (.mov (t 12)), ⟨some 14, .mov (t 0), some (13, false), []⟩, ⟨some 15, .bin .eql 2 (t 14) (.const (.int .i64 7)), some (13, false), []⟩, q 16 (.pick (t 13) (.const (.bool true)) (t 15)), q 2 (.asg 0 (t 16) 4)] false) .ret))
def impl_isPrime_L : Live := [(0, [0]), (1, [0])]
noncomputable def impl_isPrime (a0 : Int) : Option Bool :=
  (if (a0 == 2) then (some true) else (if (a0 == 3) then (some true) else (if (a0 == 5) then (some true) else (some (a0 == 7)))))
theorem impl_isPrime_ok (a0 : Int) (r : Bool) (h : impl_isPrime a0 = some r) : Den Try.prog 93 [(i6 a0)] { r := (.bool r) } := by
  refine den_of (rs := [(.bool r)]) (ac := impl_isPrime_c) (L := impl_isPrime_L) (n := 17) (m := []) (c := Try.f93.body.getD .skip) good Try.func93 (by kernel_rfl) (by kernel_rfl) Try.ntmps93 rfl rfl (by kernel_rfl) rfl rfl ?_
  refine a_st (σ' := ⟨[(0, (i6 a0))], []⟩) (by kernel_rfl) ?_
  unfold impl_isPrime_c
  refine sr (vp (.bool false) rfl (nx ⟨[(0, (i6 a0))], []⟩ (by kernel_rfl) (sr (vp (i6 a0) rfl (vp (.bool (a0 == 2)) rfl (vp (.bool (a0 == 2)) rfl ?_))))))
  cases hb1 : (a0 == 2)
  · have h := ite_f hb1 h
    refine gp (i6 a0) rfl rfl (gp (.bool (a0 == 3)) rfl rfl (vp (.bool (a0 == 3)) rfl (vp (.bool (a0 == 3)) rfl ?_)))
    cases hb2 : (a0 == 3)
    · have h := ite_f hb2 h
      refine gp (i6 a0) rfl rfl (gp (.bool (a0 == 5)) rfl rfl (vp (.bool (a0 == 5)) rfl (vp (.bool (a0 == 5)) rfl ?_)))
      cases hb3 : (a0 == 5)
      · have h := ite_f hb3 h
        refine gp (i6 a0) rfl rfl (gp (.bool (a0 == 7)) rfl rfl (vp (.bool (a0 == 7)) rfl (vp (.bool (a0 == 7)) rfl (nx _ rfl (a_ret ?_)))))
        refine ⟨.inr rfl, ?_⟩
        rw [Try.results93]
        cases h
        exact ⟨_, _, _, _, _, rfl, trivial, .inl ⟨rfl, .inl rfl⟩, rfl, rfl⟩
      · have h := ite_t hb3 h
        refine a_gskip rfl (a_gskip rfl (vp (.bool true) rfl (vp (.bool true) rfl (nx _ rfl (a_ret ?_)))))
        refine ⟨.inr rfl, ?_⟩
        rw [Try.results93]
        cases h
        exact ⟨_, _, _, _, _, rfl, trivial, .inl ⟨rfl, .inl rfl⟩, rfl, rfl⟩
    · have h := ite_t hb2 h
      refine a_gskip rfl (a_gskip rfl (vp (.bool true) rfl (vp (.bool true) rfl (a_gskip rfl (a_gskip rfl (vp (.bool true) rfl (vp (.bool true) rfl (nx _ rfl (a_ret ?_)))))))))
      refine ⟨.inr rfl, ?_⟩
      rw [Try.results93]
      cases h
      exact ⟨_, _, _, _, _, rfl, trivial, .inl ⟨rfl, .inl rfl⟩, rfl, rfl⟩
  · have h := ite_t hb1 h
    refine a_gskip rfl (a_gskip rfl (vp (.bool true) rfl (vp (.bool true) rfl (a_gskip rfl (a_gskip rfl (vp (.bool true) rfl (vp (.bool true) rfl (a_gskip rfl (a_gskip rfl ?_)))))))))
    refine vp (.bool true) rfl (vp (.bool true) rfl (nx _ rfl (a_ret ?_)))
    refine ⟨.inr rfl, ?_⟩
    rw [Try.results93]
    cases h
    exact ⟨_, _, _, _, _, rfl, trivial, .inl ⟨rfl, .inl rfl⟩, rfl, rfl⟩
def impl_isPoly_c1_of_p_c : ACode := (.seq (.region 0 [q 3 (.asg 0 (.const (.bool false)) 4)] false) (.seq (.region 1 [q 4 (.mov (t 0)), q 5 (.conv 5 2 (t 4)), q 6 (.load 2 (t 1)), q 7 (.bin .lss 2 (t 5) (t 6)), q 3 (.asg 0 (t 7) 4)] false) .ret))
def impl_isPoly_c1_of_p_L : Live := [(0, [0, 1]), (1, [0, 1])]
noncomputable def impl_isPoly_c1_of_p (a0 : Int) (a1 : Int) : Option Bool :=
  (some ((decide ((IntKind.i64.wrap a0) < a1))))
theorem impl_isPoly_c1_of_p_ok (a0 : Int) (a1 : Int) (r : Bool) (h : impl_isPoly_c1_of_p a0 a1 = some r) : Den Try.prog 113 [(b8 a0), (.ref (i6 a1) [] [])] { r := (.bool r) } := by
  refine den_of (rs := [(.bool r)]) (ac := impl_isPoly_c1_of_p_c) (L := impl_isPoly_c1_of_p_L) (n := 8) (m := []) (c := Try.f113.body.getD .skip) good Try.func113 (by kernel_rfl) (by kernel_rfl) Try.ntmps113 rfl rfl (by kernel_rfl) rfl rfl ?_
  refine a_st (σ' := ⟨[(0, (b8 a0)), (1, (.ref (i6 a1) [] []))], []⟩) (by kernel_rfl) ?_
  unfold impl_isPoly_c1_of_p_c
  refine sr (vp (.bool false) rfl (nx ⟨[(0, (b8 a0)), (1, (.ref (i6 a1) [] []))], []⟩ (by kernel_rfl) (sr (vp (b8 a0) rfl (vp (i6 (IntKind.i64.wrap a0)) rfl ?_)))))
  have hl1 : LdOk [] (i6 a1) [] 1 false (i6 a1) := (.nil rfl rfl rfl)
  refine vq (i6 a1) (ld_ref (i := ⟨.int .i64, 1, 8, (.int .i64 0)⟩) rfl rfl hl1) hl1.c (vp (.bool ((decide ((IntKind.i64.wrap a0) < a1)))) rfl (vp (.bool ((decide ((IntKind.i64.wrap a0) < a1)))) rfl (nx _ rfl (a_ret ?_))))
  refine ⟨.inr rfl, ?_⟩
  rw [Try.results113]
  cases h
  exact ⟨_, _, _, _, _, rfl, trivial, .inl ⟨rfl, .inl rfl⟩, rfl, rfl⟩
end Go.Proofs.Ytebfhlnfmkhmcaa
