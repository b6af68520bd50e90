/- Functions of the program: plain Lean functions, and that the program computes them. Printed by gen.py. -/
import Derived.Test.YtcgohoclbjgmkaaGreatFnT
import Derived.Test.YtcgohoclbjgmkaaGreatFn3
namespace Go.Proofs.YtcgohoclbjgmkaaGreat
open Go.Abs Go.Proofs
set_option linter.unusedSimpArgs false
set_option linter.unusedVariables false
set_option maxHeartbeats 16000000
attribute [local irreducible] Abs.acode Abs.aops Abs.aopsT Abs.thenK Abs.blockK

def impl_prime_times_c : ACode := (.seq (.region 0 [q 6 (.asg 1 (.const (.slice none 0 0)) 40)] false) (.seq (.seq (.region 1 [q 14 (.mov (t 1)), q 15 (.blt 0 .len [(t 14)] [40]), q 16 (.bin .eql 3 (t 15) (.const (.int .i64 0))), q 17 (.mov (t 16)), ⟨some 18, .mov (t 2), some (17, false), []⟩, ⟨some 19, .blt 0 .len [(t 18)] [40], some (17, false), []⟩, ⟨some 20, .bin .eql 3 (t 19) (.const (.int .i64 0)), some (17, false), []⟩, q 21 (.pick (t 17) (.const (.bool true)) (t 20))] false) (.cond (t 21) (.seq (.region 2 [q 6 (.asg 1 (.const (.slice none 0 0)) 40)] false) .ret) .skip)) (.seq (.region 3 [q 22 (.mov (t 1)), q 23 (.blt 0 .len [(t 22)] [40]), q 24 (.mov (t 2)), q 25 (.blt 0 .len [(t 24)] [40]), q 26 (.bin .add 3 (t 23) (t 25)), q 27 (.bin .sub 3 (t 26) (.const (.int .i64 1))), q 28 (.mkslice 40 (t 27) (t 27)), q 7 (.asg 2 (t 28) 40)] false) (.seq (.seq (.region 4 [q 29 (.mov (t 1)), q 30 (.blt 0 .len [(t 29)] [40]), q 31 (.mov (.const (.int .i64 0)))] false) (.block 0 (.loop (.seq (.region 5 [q 32 (.bin .lss 3 (t 31) (t 30))] false) (.seq (.cond (t 32) .skip (.exit 0)) (.seq (.block 1 (.seq (.region 6 [q 33 (.mov (t 31)), q 34 (.indexAddr 40 (t 29) (t 31)), q 35 (.load 2 (t 34)), q 8 (.asg 0 (t 33) 3), q 9 (.asg 0 (t 35) 2)] false) (.seq (.region 7 [q 36 (.mov (t 2)), q 37 (.blt 0 .len [(t 36)] [40]), q 38 (.mov (.const (.int .i64 0)))] false) (.block 2 (.loop (.seq (.region 8 [q 39 (.bin .lss 3 (t 38) (t 37))] false) (.seq (.cond (t 39) .skip (.exit 2)) (.seq (.block 3 (.seq (.region 9 [q 40 (.mov (t 38)), q 41 (.indexAddr 40 (t 36) (t 38)), q 42 (.load 2 (t 41)), q 10 (.asg 0 (t 40) 3), q 11 (.asg 0 (t 42) 2)] false) (.region 10 [q 43 (.mov (t 7)), q 44 (.mov (t 8)), q 45 (.mov (t 10)), q 46 (.bin .add 3 (t 44) (t 45)), q 47 (.indexAddr 40 (t 43) (t 46)), q 48 (.load 2 (t 47)), q 49 (.mov (t 9)), q 50 (.mov (t 11)), q 51 (.bin .mul 2 (t 49) (t 50)), q 52 (.bin .add 2 (t 48) (t 51)), q 53 (.indexAddr 40 (t 43) (t 46)), ⟨none, .store 2 (t 53) (t 52), none, []⟩] false))) (.region 11 [q 54 (.bin .add 3 (t 38) (.const (.int .i64 1))), q 38 (.mov (t 54))] false))))))))) (.region 12 [q 55 (.bin .add 3 (t 31) (.const (.int .i64 1))), q 31 (.mov (t 55))] false))))))) (.seq (.seq (.region 13 [q 56 (.mov (t 7)), q 57 (.blt 0 .len [(t 56)] [40]), q 58 (.mov (.const (.int .i64 0)))] false) (.block 4 (.loop (.seq (.region 14 [q 59 (.bin .lss 3 (t 58) (t 57))] false) (.seq (.cond (t 59) .skip (.exit 4)) (.seq (.block 5 (.seq (.region 15 [q 60 (.mov (t 58)), q 61 (.indexAddr 40 (t 56) (t 58)), q 62 (.load 2 (t 61)), q 12 (.asg 0 (t 60) 3), q 13 (.asg 0 (t 62) 2)] false) (.region 16 [q 63 (.mov (t 7)), q 64 (.mov (t 12)), q 65 (.mov (t 13)), q 66 (.mov (t 0)), q 67 (.bin .rem 2 (t 65) (t 66)), q 68 (.indexAddr 40 (t 63) (t 64)), ⟨none, .store 2 (t 68) (t 67), none, []⟩] false))) (.region 17 [q 69 (.bin .add 3 (t 58) (.const (.int .i64 1))), q 58 (.mov (t 69))] false))))))) (.seq (.region 18 [q 70 (.mov (t 7)), q 71 (.call 0 (.func 43) [(t 70)]), q 6 (.asg 1 (t 71) 40)] false) .ret))))))
def impl_prime_times_L : Live := [(0, [0, 1, 2]), (1, [0, 1, 2]), (2, []), (3, [0, 1, 2]), (4, [0, 1, 2, 7]), (5, [0, 2, 7, 29, 30, 31]), (6, [0, 2, 7, 29, 30, 31]), (7, [0, 2, 7, 8, 9, 29, 30, 31]), (8, [0, 2, 7, 8, 9, 29, 30, 31, 36, 37, 38]), (9, [0, 2, 7, 8, 9, 29, 30, 31, 36, 37, 38]), (10, [0, 2, 7, 8, 9, 10, 11, 29, 30, 31, 36, 37, 38]), (11, [0, 2, 7, 8, 9, 29, 30, 31, 36, 37, 38]), (12, [0, 2, 7, 29, 30, 31]), (13, [0, 7]), (14, [0, 7, 56, 57, 58]), (15, [0, 7, 56, 57, 58]), (16, [0, 7, 12, 13, 56, 57, 58]), (17, [0, 7, 56, 57, 58]), (18, [7]), (100021, [0, 1, 2, 21]), (100032, [0, 2, 7, 29, 30, 31, 32]), (100039, [0, 2, 7, 8, 9, 29, 30, 31, 36, 37, 38, 39]), (100059, [0, 7, 56, 57, 58, 59])]
noncomputable def impl_prime_times_l2 (a2 : (List Int)) (x353 : Int) (a1 : (List Int)) (x492 : Int) (x493 : (List Int)) : Option ((Int × (List Int)) ⊕ (List Int)) :=
  (if (decide (x492 < (a2.length : Int))) then (ifp (0 ≤ x492 ∧ x492 < ((a2.length : Nat) : Int)) ((ifp (0 ≤ IntKind.i64.wrap (x353 + x492) ∧ IntKind.i64.wrap (x353 + x492) < ((x493.length : Nat) : Int)) ((letp (IntKind.i64.wrap (((rd x493 (IntKind.i64.wrap (x353 + x492)).toNat)) + (IntKind.i64.wrap ((rd a1 x353.toNat) * (rd a2 x492.toNat))))) fun x511 => (ifp (0 ≤ IntKind.i64.wrap (x353 + x492) ∧ IntKind.i64.wrap (x353 + x492) < ((x493.length : Nat) : Int)) ((some (.inl ((IntKind.i64.wrap (x492 + 1), (x493.set (IntKind.i64.wrap (x353 + x492)).toNat x511)))))))))))) else (some (.inr x493)))
noncomputable def impl_prime_times_l1 (a1 : (List Int)) (a2 : (List Int)) (x353 : Int) (x354 : (List Int)) : Option ((Int × (List Int)) ⊕ (List Int)) :=
  (if (decide (x353 < (a1.length : Int))) then (Option.bind (α := (List Int)) ((ifp (0 ≤ x353 ∧ x353 < ((a1.length : Nat) : Int)) ((loopM (fun s : (Int × (List Int)) => impl_prime_times_l2 a2 x353 a1 s.1 s.2) (0, x354))))) fun x475 => (some (.inl ((IntKind.i64.wrap (x353 + 1), x475))))) else (some (.inr x354)))
noncomputable def impl_prime_times_l3 (x262 : (List Int)) (a0 : Int) (x551 : Int) (x552 : (List Int)) : Option ((Int × (List Int)) ⊕ (List Int)) :=
  (if (decide (x551 < (x262.length : Int))) then (ifp (0 ≤ x551 ∧ x551 < ((x552.length : Nat) : Int)) ((ifp (a0 ≠ 0) ((ifp (0 ≤ x551 ∧ x551 < ((x552.length : Nat) : Int)) ((some (.inl ((IntKind.i64.wrap (x551 + 1), (x552.set x551.toNat (Int.tmod (rd x552 x551.toNat) a0)))))))))))) else (some (.inr x552)))
noncomputable def impl_prime_times (a0 : Int) (a1 : (List Int)) (a2 : (List Int)) : Option (List Int) :=
  (Option.bind (α := Bool) ((if ((a1.length : Int) == 0) then (some true) else (some (((a2.length : Int) == 0))))) fun x2 => (if x2 then (some ([])) else (letp (IntKind.i64.wrap ((IntKind.i64.wrap ((a1.length : Int) + (a2.length : Int))) - 1)) fun x8 => (ifp (0 ≤ x8 ∧ x8 ≤ 140737488355328 ∧ 8 * x8 ≤ 140737488355328) ((Option.bind (α := (List Int)) ((loopM (fun s : (Int × (List Int)) => impl_prime_times_l1 a1 a2 s.1 s.2) (0, List.replicate x8.toNat (0 : Int)))) fun x262 => (Option.bind (α := (List Int)) ((loopM (fun s : (Int × (List Int)) => impl_prime_times_l3 x262 a0 s.1 s.2) (0, x262))) fun x541 => (Option.bind (impl_row_trimmed x541) fun r569 => (some r569)))))))))
theorem impl_prime_times_ok (a0 : Int) (a1 : (List Int)) (a2 : (List Int)) (r : (List Int)) (h : impl_prime_times a0 a1 a2 = some r) : Den Tryz.prog 81 [(i6 a0), (eSi64 a1), (eSi64 a2)] { r := (eSi64 r) } := by
  refine den_of (rs := [(eSi64 r)]) (ac := impl_prime_times_c) (L := impl_prime_times_L) (n := 72) (m := [(6, 1), (7, 2)]) (c := Tryz.f81.body.getD .skip) good Tryz.func81 (by kernel_rfl) (by kernel_rfl) Tryz.ntmps81 rfl rfl (by kernel_rfl) rfl rfl ?_
  refine a_st (σ' := ⟨[(0, (i6 a0)), (1, (eSi64 a1)), (2, (eSi64 a2))], []⟩) (by kernel_rfl) ?_
  unfold impl_prime_times_c
  refine sr (vp (eSi64 ([])) rfl (nx ⟨[(0, (i6 a0)), (1, (eSi64 a1)), (2, (eSi64 a2))], []⟩ (by kernel_rfl) (a_seq ?_)))
  obtain ⟨y3, hy4, hk5⟩ := bind_some h
  clear h
  refine a_join (emb := fun (s : Bool) => ⟨[(0, (i6 a0)), (1, (eSi64 a1)), (2, (eSi64 a2)), (21, (.bool s))], []⟩) (pre := fun s => s = y3) ?_ ?_
  · rintro x2 rfl
    have h := hk5
    refine a_st (σ' := ⟨[(0, (i6 a0)), (1, (eSi64 a1)), (2, (eSi64 a2)), (21, (.bool x2))], []⟩) (by kernel_rfl) ?_
    cases hb7 : x2
    · have h := ite_f hb7 h
      refine a_cond_f rfl (a_skip (a_next (σ' := ⟨[(0, (i6 a0)), (1, (eSi64 a1)), (2, (eSi64 a2))], []⟩) (by kernel_rfl) (sr (vp (eSi64 a1) rfl (vq (i6 (a1.length : Int)) (len_run rfl rfl) trivial (vp (eSi64 a2) rfl (vq (i6 (a2.length : Int)) (len_run rfl rfl) trivial (vp (i6 (IntKind.i64.wrap ((a1.length : Int) + (a2.length : Int)))) rfl ?_))))))))
      obtain ⟨x8, hx9, h⟩ := letp_some h
      refine a_val' (v := (i6 (IntKind.i64.wrap ((IntKind.i64.wrap ((a1.length : Int) + (a2.length : Int))) - 1)))) (v' := (i6 x8)) (u := []) (u' := []) rfl (congrArg (fun z => ((i6 z) : AV)) hx9) rfl trivial rfl ?_
      obtain ⟨hc10, h⟩ := ifp_some h
      refine vu (.osl 3800) [(3800, (bk (.row 1 ((List.replicate x8.toNat (0 : Int)).map (AV.int .i64)))))] (mk_run (i := ⟨.int .i64, 1, 8, (.int .i64 0)⟩) (f := (AV.int .i64)) (y := (0 : Int)) rfl rfl rfl rfl rfl rfl) ⟨rfl, hc10.1, hc10.2.1, hc10.2.2, (Nat.le_of_ble_eq_true rfl)⟩ rfl (vp (.osl 3800) rfl (nx ⟨[(0, (i6 a0)), (1, (eSi64 a1)), (2, (eSi64 a2)), (7, (.osl 7))], [(7, (bk (.row 1 ((List.replicate x8.toNat (0 : Int)).map (AV.int .i64)))))]⟩ (by kernel_rfl) ?_))
      obtain ⟨y263, hy264, hk265⟩ := bind_some h
      clear h
      refine a_join (emb := fun (s : (List Int)) => ⟨[(0, (i6 a0)), (7, (.osl 7))], [(7, (bk (.row 1 (s.map (AV.int .i64)))))]⟩) (pre := fun s => s = y263) ?_ ?_
      · rintro x262 rfl
        have h := hk265
        refine a_st (σ' := ⟨[(0, (i6 a0)), (7, (.osl 7))], [(7, (bk (.row 1 (x262.map (AV.int .i64)))))]⟩) (by kernel_rfl) ?_
        obtain ⟨y542, hy543, hk544⟩ := bind_some h
        clear h
        refine a_join (emb := fun (s : (List Int)) => ⟨[(7, (.osl 7))], [(7, (bk (.row 1 (s.map (AV.int .i64)))))]⟩) (pre := fun s => s = y542) ?_ ?_
        · rintro x541 rfl
          have h := hk544
          refine a_st (σ' := ⟨[(7, (.osl 7))], [(7, (bk (.row 1 (x541.map (AV.int .i64)))))]⟩) (by kernel_rfl) (sr (vp (.osl 7) rfl ?_))
          obtain ⟨r569, hr570, h⟩ := bind_some h
          refine a_call (args := [(eSi64 x541)]) (u := [(7, (bf (.row 1 (x541.map (AV.int .i64)))))]) (r := (eSi64 r569)) rfl rfl (impl_row_trimmed_ok x541 r569 hr570) rfl (vp (eSi64 r569) rfl (nx _ rfl (a_ret ?_)))
          refine ⟨.inr rfl, ?_⟩
          rw [Tryz.results81]
          cases h
          exact ⟨_, _, _, _, _, rfl, trivial, .inl ⟨rfl, .inl rfl⟩, rfl, rfl⟩
        · have h := hy543
          refine sr (vp (.osl 7) rfl (vq (i6 (x262.length : Int)) (leno_run rfl rfl rfl) trivial (vp (i6 0) rfl (nx ⟨[(0, (i6 a0)), (7, (.osl 7)), (56, (.osl 7)), (57, (i6 (x262.length : Int))), (58, (i6 0))], [(7, (bk (.row 1 (x262.map (AV.int .i64)))))]⟩ (by kernel_rfl) (a_block ?_)))))
          refine a_loop (emb := fun (s : (Int × (List Int))) => ⟨[(0, (i6 a0)), (7, (.osl 7)), (56, (.osl 7)), (57, (i6 (x262.length : Int))), (58, (i6 s.1))], [(7, (bk (.row 1 (s.2.map (AV.int .i64)))))]⟩) (body := (fun s : (Int × (List Int)) => impl_prime_times_l3 x262 a0 s.1 s.2)) (G := fun q => some q = some y542) h rfl ?_ (by kernel_rfl)
          rintro X559 ⟨x551, x552⟩ x560 h hX561
          have h : impl_prime_times_l3 x262 a0 x551 x552 = some x560 := h
          refine a_st (σ' := ⟨[(0, (i6 a0)), (7, (.osl 7)), (56, (.osl 7)), (57, (i6 (x262.length : Int))), (58, (i6 x551))], [(7, (bk (.row 1 (x552.map (AV.int .i64)))))]⟩) (by kernel_rfl) (sr (vp (.bool ((decide (x551 < (x262.length : Int))))) rfl (nx ⟨[(0, (i6 a0)), (7, (.osl 7)), (56, (.osl 7)), (57, (i6 (x262.length : Int))), (58, (i6 x551)), (59, (.bool ((decide (x551 < (x262.length : Int))))))], [(7, (bk (.row 1 (x552.map (AV.int .i64)))))]⟩ (by kernel_rfl) (a_seq ?_))))
          cases hb562 : (decide (x551 < (x262.length : Int)))
          · have h := ite_f hb562 h
            refine a_cond_f rfl (a_exit (t_exit ?_))
            cases h
            have h := hX561
            refine t_exit (b_exit ?_)
            exact j_leaf x552 (Option.some.inj h) (by kernel_rfl)
          · have h := ite_t hb562 h
            refine a_cond_t rfl (a_skip (a_next (σ' := ⟨[(0, (i6 a0)), (7, (.osl 7)), (56, (.osl 7)), (57, (i6 (x262.length : Int))), (58, (i6 x551))], [(7, (bk (.row 1 (x552.map (AV.int .i64)))))]⟩) (by kernel_rfl) (a_seq (a_block (sr (vp (i6 x551) rfl ?_))))))
            obtain ⟨hc563, h⟩ := ifp_some h
            refine vq (.own 7 [x551.toNat] [x551.toNat * 1]) rfl (lmap hc563) ?_
            have hl564 : LdOk [x551.toNat] (.row 1 (x552.map (AV.int .i64))) [x551.toNat * 1] 1 false (i6 (rd x552 x551.toNat)) := (.row (llt hc563) rfl (.nil rfl rfl rfl))
            refine vq (i6 (rd x552 x551.toNat)) (ld_own (i := ⟨.int .i64, 1, 8, (.int .i64 0)⟩) rfl rfl rfl hl564) hl564.c (vp (i6 x551) rfl (vp (i6 (rd x552 x551.toNat)) rfl (nx ⟨[(0, (i6 a0)), (7, (.osl 7)), (12, (i6 x551)), (13, (i6 (rd x552 x551.toNat))), (56, (.osl 7)), (57, (i6 (x262.length : Int))), (58, (i6 x551))], [(7, (bk (.row 1 (x552.map (AV.int .i64)))))]⟩ (by kernel_rfl) (a_region (vp (.osl 7) rfl (vp (i6 x551) rfl (vp (i6 (rd x552 x551.toNat)) rfl (vp (i6 a0) rfl ?_))))))))
            obtain ⟨hc565, h⟩ := ifp_some h
            refine vq (i6 (Int.tmod (rd x552 x551.toNat) a0)) rfl hc565 ?_
            obtain ⟨hc566, h⟩ := ifp_some h
            refine vq (.own 7 [x551.toNat] [x551.toNat * 1]) rfl (lmap hc566) ?_
            have hs567 : StOk [x551.toNat] (.row 1 (x552.map (AV.int .i64))) [x551.toNat * 1] 1 (i6 (Int.tmod (rd x552 x551.toNat) a0)) (.row 1 (((x552.set x551.toNat (Int.tmod (rd x552 x551.toNat) a0))).map (AV.int .i64))) := (.row (y := Int.tmod (rd x552 x551.toNat) a0) (llt hc566) rfl (.nil rfl rfl rfl rfl))
            refine vu .top [(7, (bk (.row 1 (((x552.set x551.toNat (Int.tmod (rd x552 x551.toNat) a0))).map (AV.int .i64)))))] (st_own (i := ⟨.int .i64, 1, 8, (.int .i64 0)⟩) rfl rfl (fun _ => rfl) rfl hs567) (hs567.c rfl) rfl (a_nil (b_norm (a_next (σ' := ⟨[(0, (i6 a0)), (7, (.osl 7)), (56, (.osl 7)), (57, (i6 (x262.length : Int))), (58, (i6 x551))], [(7, (bk (.row 1 (((x552.set x551.toNat (Int.tmod (rd x552 x551.toNat) a0))).map (AV.int .i64)))))]⟩) (by kernel_rfl) (a_region (vp (i6 (IntKind.i64.wrap (x551 + 1))) rfl (vp (i6 (IntKind.i64.wrap (x551 + 1))) rfl (a_nil ?_)))))))
            cases h
            exact a_again (by kernel_rfl) hX561
      · have h := hy264
        refine sr (vp (eSi64 a1) rfl (vq (i6 (a1.length : Int)) (len_run rfl rfl) trivial (vp (i6 0) rfl (nx ⟨[(0, (i6 a0)), (2, (eSi64 a2)), (7, (.osl 7)), (29, (eSi64 a1)), (30, (i6 (a1.length : Int))), (31, (i6 0))], [(7, (bk (.row 1 ((List.replicate x8.toNat (0 : Int)).map (AV.int .i64)))))]⟩ (by kernel_rfl) (a_block ?_)))))
        refine a_loop (emb := fun (s : (Int × (List Int))) => ⟨[(0, (i6 a0)), (2, (eSi64 a2)), (7, (.osl 7)), (29, (eSi64 a1)), (30, (i6 (a1.length : Int))), (31, (i6 s.1))], [(7, (bk (.row 1 (s.2.map (AV.int .i64)))))]⟩) (body := (fun s : (Int × (List Int)) => impl_prime_times_l1 a1 a2 s.1 s.2)) (G := fun q => some q = some y263) h rfl ?_ (by kernel_rfl)
        rintro X434 ⟨x353, x354⟩ x435 h hX436
        have h : impl_prime_times_l1 a1 a2 x353 x354 = some x435 := h
        refine a_st (σ' := ⟨[(0, (i6 a0)), (2, (eSi64 a2)), (7, (.osl 7)), (29, (eSi64 a1)), (30, (i6 (a1.length : Int))), (31, (i6 x353))], [(7, (bk (.row 1 (x354.map (AV.int .i64)))))]⟩) (by kernel_rfl) (sr (vp (.bool ((decide (x353 < (a1.length : Int))))) rfl (nx ⟨[(0, (i6 a0)), (2, (eSi64 a2)), (7, (.osl 7)), (29, (eSi64 a1)), (30, (i6 (a1.length : Int))), (31, (i6 x353)), (32, (.bool ((decide (x353 < (a1.length : Int))))))], [(7, (bk (.row 1 (x354.map (AV.int .i64)))))]⟩ (by kernel_rfl) (a_seq ?_))))
        cases hb437 : (decide (x353 < (a1.length : Int)))
        · have h := ite_f hb437 h
          refine a_cond_f rfl (a_exit (t_exit ?_))
          cases h
          have h := hX436
          refine t_exit (b_exit ?_)
          exact j_leaf x354 (Option.some.inj h) (by kernel_rfl)
        · have h := ite_t hb437 h
          refine a_cond_t rfl (a_skip (a_next (σ' := ⟨[(0, (i6 a0)), (2, (eSi64 a2)), (7, (.osl 7)), (29, (eSi64 a1)), (30, (i6 (a1.length : Int))), (31, (i6 x353))], [(7, (bk (.row 1 (x354.map (AV.int .i64)))))]⟩) (by kernel_rfl) ?_))
          obtain ⟨y476, hy477, hk478⟩ := bind_some h
          clear h
          refine a_join (emb := fun (s : (List Int)) => ⟨[(0, (i6 a0)), (2, (eSi64 a2)), (7, (.osl 7)), (29, (eSi64 a1)), (30, (i6 (a1.length : Int))), (31, (i6 x353))], [(7, (bk (.row 1 (s.map (AV.int .i64)))))]⟩) (pre := fun s => s = y476) ?_ ?_
          · rintro x475 rfl
            have h := hk478
            refine a_st (σ' := ⟨[(0, (i6 a0)), (2, (eSi64 a2)), (7, (.osl 7)), (29, (eSi64 a1)), (30, (i6 (a1.length : Int))), (31, (i6 x353))], [(7, (bk (.row 1 (x475.map (AV.int .i64)))))]⟩) (by kernel_rfl) (a_region (vp (i6 (IntKind.i64.wrap (x353 + 1))) rfl (vp (i6 (IntKind.i64.wrap (x353 + 1))) rfl (a_nil ?_))))
            cases h
            exact a_again (by kernel_rfl) hX436
          · have h := hy477
            refine a_block (sr (vp (i6 x353) rfl ?_))
            obtain ⟨hc479, h⟩ := ifp_some h
            refine vq (.ref (.row 1 (a1.map (AV.int .i64))) [x353.toNat] [x353.toNat * 1]) rfl (lmap hc479) ?_
            have hl480 : LdOk [x353.toNat] (.row 1 (a1.map (AV.int .i64))) [x353.toNat * 1] 1 false (i6 (rd a1 x353.toNat)) := (.row (llt hc479) rfl (.nil rfl rfl rfl))
            refine vq (i6 (rd a1 x353.toNat)) (ld_ref (i := ⟨.int .i64, 1, 8, (.int .i64 0)⟩) rfl rfl hl480) hl480.c (vp (i6 x353) rfl (vp (i6 (rd a1 x353.toNat)) rfl (nx ⟨[(0, (i6 a0)), (2, (eSi64 a2)), (7, (.osl 7)), (8, (i6 x353)), (9, (i6 (rd a1 x353.toNat))), (29, (eSi64 a1)), (30, (i6 (a1.length : Int))), (31, (i6 x353))], [(7, (bk (.row 1 (x354.map (AV.int .i64)))))]⟩ (by kernel_rfl) (sr (vp (eSi64 a2) rfl (vq (i6 (a2.length : Int)) (len_run rfl rfl) trivial (vp (i6 0) rfl (nx ⟨[(0, (i6 a0)), (2, (eSi64 a2)), (7, (.osl 7)), (8, (i6 x353)), (9, (i6 (rd a1 x353.toNat))), (29, (eSi64 a1)), (30, (i6 (a1.length : Int))), (31, (i6 x353)), (36, (eSi64 a2)), (37, (i6 (a2.length : Int))), (38, (i6 0))], [(7, (bk (.row 1 (x354.map (AV.int .i64)))))]⟩ (by kernel_rfl) (a_block ?_)))))))))
            refine a_loop (emb := fun (s : (Int × (List Int))) => ⟨[(0, (i6 a0)), (2, (eSi64 a2)), (7, (.osl 7)), (8, (i6 x353)), (9, (i6 (rd a1 x353.toNat))), (29, (eSi64 a1)), (30, (i6 (a1.length : Int))), (31, (i6 x353)), (36, (eSi64 a2)), (37, (i6 (a2.length : Int))), (38, (i6 s.1))], [(7, (bk (.row 1 (s.2.map (AV.int .i64)))))]⟩) (body := (fun s : (Int × (List Int)) => impl_prime_times_l2 a2 x353 a1 s.1 s.2)) (G := fun q => some q = some y476) h rfl ?_ (by kernel_rfl)
            rintro X503 ⟨x492, x493⟩ x504 h hX505
            have h : impl_prime_times_l2 a2 x353 a1 x492 x493 = some x504 := h
            refine a_st (σ' := ⟨[(0, (i6 a0)), (2, (eSi64 a2)), (7, (.osl 7)), (8, (i6 x353)), (9, (i6 (rd a1 x353.toNat))), (29, (eSi64 a1)), (30, (i6 (a1.length : Int))), (31, (i6 x353)), (36, (eSi64 a2)), (37, (i6 (a2.length : Int))), (38, (i6 x492))], [(7, (bk (.row 1 (x493.map (AV.int .i64)))))]⟩) (by kernel_rfl) (sr (vp (.bool ((decide (x492 < (a2.length : Int))))) rfl (nx ⟨[(0, (i6 a0)), (2, (eSi64 a2)), (7, (.osl 7)), (8, (i6 x353)), (9, (i6 (rd a1 x353.toNat))), (29, (eSi64 a1)), (30, (i6 (a1.length : Int))), (31, (i6 x353)), (36, (eSi64 a2)), (37, (i6 (a2.length : Int))), (38, (i6 x492)), (39, (.bool ((decide (x492 < (a2.length : Int))))))], [(7, (bk (.row 1 (x493.map (AV.int .i64)))))]⟩ (by kernel_rfl) (a_seq ?_))))
            cases hb506 : (decide (x492 < (a2.length : Int)))
            · have h := ite_f hb506 h
              refine a_cond_f rfl (a_exit (t_exit ?_))
              cases h
              have h := hX505
              refine t_exit (b_exit (b_norm ?_))
              exact j_leaf x493 (Option.some.inj h) (by kernel_rfl)
            · have h := ite_t hb506 h
              refine a_cond_t rfl (a_skip (a_next (σ' := ⟨[(0, (i6 a0)), (2, (eSi64 a2)), (7, (.osl 7)), (8, (i6 x353)), (9, (i6 (rd a1 x353.toNat))), (29, (eSi64 a1)), (30, (i6 (a1.length : Int))), (31, (i6 x353)), (36, (eSi64 a2)), (37, (i6 (a2.length : Int))), (38, (i6 x492))], [(7, (bk (.row 1 (x493.map (AV.int .i64)))))]⟩) (by kernel_rfl) (a_seq (a_block (sr (vp (i6 x492) rfl ?_))))))
              obtain ⟨hc507, h⟩ := ifp_some h
              refine vq (.ref (.row 1 (a2.map (AV.int .i64))) [x492.toNat] [x492.toNat * 1]) rfl (lmap hc507) ?_
              have hl508 : LdOk [x492.toNat] (.row 1 (a2.map (AV.int .i64))) [x492.toNat * 1] 1 false (i6 (rd a2 x492.toNat)) := (.row (llt hc507) rfl (.nil rfl rfl rfl))
              refine vq (i6 (rd a2 x492.toNat)) (ld_ref (i := ⟨.int .i64, 1, 8, (.int .i64 0)⟩) rfl rfl hl508) hl508.c (vp (i6 x492) rfl (vp (i6 (rd a2 x492.toNat)) rfl (nx ⟨[(0, (i6 a0)), (2, (eSi64 a2)), (7, (.osl 7)), (8, (i6 x353)), (9, (i6 (rd a1 x353.toNat))), (10, (i6 x492)), (11, (i6 (rd a2 x492.toNat))), (29, (eSi64 a1)), (30, (i6 (a1.length : Int))), (31, (i6 x353)), (36, (eSi64 a2)), (37, (i6 (a2.length : Int))), (38, (i6 x492))], [(7, (bk (.row 1 (x493.map (AV.int .i64)))))]⟩ (by kernel_rfl) (a_region (vp (.osl 7) rfl (vp (i6 x353) rfl (vp (i6 x492) rfl (vp (i6 (IntKind.i64.wrap (x353 + x492))) rfl ?_))))))))
              obtain ⟨hc509, h⟩ := ifp_some h
              refine vq (.own 7 [(IntKind.i64.wrap (x353 + x492)).toNat] [(IntKind.i64.wrap (x353 + x492)).toNat * 1]) rfl (lmap hc509) ?_
              have hl510 : LdOk [(IntKind.i64.wrap (x353 + x492)).toNat] (.row 1 (x493.map (AV.int .i64))) [(IntKind.i64.wrap (x353 + x492)).toNat * 1] 1 false (i6 ((rd x493 (IntKind.i64.wrap (x353 + x492)).toNat))) := (.row (llt hc509) rfl (.nil rfl rfl rfl))
              refine vq (i6 ((rd x493 (IntKind.i64.wrap (x353 + x492)).toNat))) (ld_own (i := ⟨.int .i64, 1, 8, (.int .i64 0)⟩) rfl rfl rfl hl510) hl510.c (vp (i6 (rd a1 x353.toNat)) rfl (vp (i6 (rd a2 x492.toNat)) rfl (vp (i6 (IntKind.i64.wrap ((rd a1 x353.toNat) * (rd a2 x492.toNat)))) rfl ?_)))
              obtain ⟨x511, hx512, h⟩ := letp_some h
              refine a_val' (v := (i6 (IntKind.i64.wrap (((rd x493 (IntKind.i64.wrap (x353 + x492)).toNat)) + (IntKind.i64.wrap ((rd a1 x353.toNat) * (rd a2 x492.toNat))))))) (v' := (i6 x511)) (u := []) (u' := []) rfl (congrArg (fun z => ((i6 z) : AV)) hx512) rfl trivial rfl ?_
              obtain ⟨hc513, h⟩ := ifp_some h
              refine vq (.own 7 [(IntKind.i64.wrap (x353 + x492)).toNat] [(IntKind.i64.wrap (x353 + x492)).toNat * 1]) rfl (lmap hc513) ?_
              have hs514 : StOk [(IntKind.i64.wrap (x353 + x492)).toNat] (.row 1 (x493.map (AV.int .i64))) [(IntKind.i64.wrap (x353 + x492)).toNat * 1] 1 (i6 x511) (.row 1 (((x493.set (IntKind.i64.wrap (x353 + x492)).toNat x511)).map (AV.int .i64))) := (.row (y := x511) (llt hc513) rfl (.nil rfl rfl rfl rfl))
              refine vu .top [(7, (bk (.row 1 (((x493.set (IntKind.i64.wrap (x353 + x492)).toNat x511)).map (AV.int .i64)))))] (st_own (i := ⟨.int .i64, 1, 8, (.int .i64 0)⟩) rfl rfl (fun _ => rfl) rfl hs514) (hs514.c rfl) rfl (a_nil (b_norm (a_next (σ' := ⟨[(0, (i6 a0)), (2, (eSi64 a2)), (7, (.osl 7)), (8, (i6 x353)), (9, (i6 (rd a1 x353.toNat))), (29, (eSi64 a1)), (30, (i6 (a1.length : Int))), (31, (i6 x353)), (36, (eSi64 a2)), (37, (i6 (a2.length : Int))), (38, (i6 x492))], [(7, (bk (.row 1 (((x493.set (IntKind.i64.wrap (x353 + x492)).toNat x511)).map (AV.int .i64)))))]⟩) (by kernel_rfl) (a_region (vp (i6 (IntKind.i64.wrap (x492 + 1))) rfl (vp (i6 (IntKind.i64.wrap (x492 + 1))) rfl (a_nil ?_)))))))
              cases h
              exact a_again (by kernel_rfl) hX505
    · have h := ite_t hb7 h
      refine a_cond_t rfl (sr (vp (eSi64 ([])) rfl (nx _ rfl (a_ret (t_ret ?_)))))
      refine ⟨.inr rfl, ?_⟩
      rw [Tryz.results81]
      cases h
      exact ⟨_, _, _, _, _, rfl, trivial, .inl ⟨rfl, .inl rfl⟩, rfl, rfl⟩
  · have h := hy4
    refine a_region (vp (eSi64 a1) rfl (vq (i6 (a1.length : Int)) (len_run rfl rfl) trivial (vp (.bool (((a1.length : Int) == 0))) rfl (vp (.bool (((a1.length : Int) == 0))) rfl ?_))))
    cases hb6 : ((a1.length : Int) == 0)
    · have h := ite_f hb6 h
      refine gp (eSi64 a2) rfl rfl (gq (i6 (a2.length : Int)) rfl (len_run rfl rfl) trivial (gp (.bool (((a2.length : Int) == 0))) rfl rfl (vp (.bool (((a2.length : Int) == 0))) rfl (a_nil ?_))))
      exact j_leaf (((a2.length : Int) == 0)) (Option.some.inj h) (by kernel_rfl)
    · have h := ite_t hb6 h
      refine a_gskip rfl (a_gskip rfl (a_gskip rfl (vp (.bool true) rfl (a_nil ?_))))
      exact j_leaf true (Option.some.inj h) (by kernel_rfl)
def impl_prime_power_c : ACode := (.seq (.region 0 [q 8 (.asg 1 (.const (.slice none 0 0)) 40)] false) (.seq (.region 1 [q 11 (.mov (t 0)), q 12 (.bslice 0 40 1 [(0, (.const (.int .i64 1)))]), q 13 (.mov (t 3)), q 14 (.call 0 (.func 80) [(t 11), (t 12), (t 13)]), q 15 (.mov (t 0)), q 16 (.mov (t 1)), q 17 (.mov (t 3)), q 18 (.call 0 (.func 80) [(t 15), (t 16), (t 17)]), q 9 (.asg 1 (t 14) 40), q 10 (.asg 1 (t 18) 40)] false) (.seq (.block 0 (.loop (.seq (.seq (.region 2 [q 19 (.mov (t 2)), q 20 (.bin .gtr 2 (t 19) (.const (.int .i64 0)))] false) (.cond (t 20) .skip (.exit 0))) (.seq (.block 1 (.seq (.seq (.region 4 [q 23 (.mov (t 2)), q 24 (.bin .and 2 (t 23) (.const (.int .i64 1))), q 25 (.bin .eql 2 (t 24) (.const (.int .i64 1)))] false) (.cond (t 25) (.region 5 [q 26 (.mov (t 0)), q 27 (.mov (t 0)), q 28 (.mov (t 9)), q 29 (.mov (t 10)), q 30 (.call 0 (.func 81) [(t 27), (t 28), (t 29)]), q 31 (.mov (t 3)), q 32 (.call 0 (.func 80) [(t 26), (t 30), (t 31)]), q 9 (.asg 1 (t 32) 40)] false) .skip)) (.region 6 [q 33 (.mov (t 0)), q 34 (.mov (t 0)), q 35 (.mov (t 10)), q 36 (.mov (t 10)), q 37 (.call 0 (.func 81) [(t 34), (t 35), (t 36)]), q 38 (.mov (t 3)), q 39 (.call 0 (.func 80) [(t 33), (t 37), (t 38)]), q 10 (.asg 1 (t 39) 40)] false))) (.region 3 [q 21 (.mov (t 2)), q 22 (.bin .shr 2 (t 21) (.const (.int .u64 1))), q 2 (.asg 0 (t 22) 2)] false))))) (.seq (.region 7 [q 40 (.mov (t 9)), q 8 (.asg 1 (t 40) 40)] false) .ret))))
def impl_prime_power_L : Live := [(0, [0, 1, 2, 3]), (1, [0, 1, 2, 3]), (2, [0, 2, 3, 9, 10]), (3, [0, 2, 3, 9, 10]), (4, [0, 2, 3, 9, 10]), (5, [0, 2, 3, 9, 10]), (6, [0, 2, 3, 9, 10]), (7, [9]), (100020, [0, 2, 3, 9, 10, 20]), (100025, [0, 2, 3, 9, 10, 25])]
noncomputable def impl_prime_power_l1 (a0 : Int) (a3 : (List Int)) (x108 : Int) (x109 : (List Int)) (x110 : (List Int)) : Option ((Int × (List Int) × (List Int)) ⊕ (List Int)) :=
  (if (decide (x108 > 0)) then (Option.bind (α := (List Int)) ((letp (IntKind.i64.wrap (BitVec.ofInt IntKind.i64.bits x108 &&& BitVec.ofInt IntKind.i64.bits 1).toNat) fun x149 => (if (x149 == 1) then (Option.bind (impl_prime_times a0 x109 x110) fun r152 => (Option.bind (impl_prime_rest a0 r152 a3) fun r154 => (some r154))) else (some x109)))) fun x145 => (Option.bind (impl_prime_times a0 x110 x110) fun r156 => (Option.bind (impl_prime_rest a0 r156 a3) fun r158 => (some (.inl ((Int.fdiv x108 (2 ^ (min (1 : Int).toNat IntKind.i64.bits)), x145, r158))))))) else (some (.inr x109)))
noncomputable def impl_prime_power (a0 : Int) (a1 : (List Int)) (a2 : Int) (a3 : (List Int)) : Option (List Int) :=
  (Option.bind (impl_prime_rest a0 ([1]) a3) fun r1 => (Option.bind (impl_prime_rest a0 a1 a3) fun r3 => (Option.bind (α := (List Int)) ((loopM (fun s : (Int × (List Int) × (List Int)) => impl_prime_power_l1 a0 a3 s.1 s.2.1 s.2.2) (a2, r1, r3))) fun x81 => (some x81))))
theorem impl_prime_power_ok (a0 : Int) (a1 : (List Int)) (a2 : Int) (a3 : (List Int)) (r : (List Int)) (h : impl_prime_power a0 a1 a2 a3 = some r) : Den Tryz.prog 67 [(i6 a0), (eSi64 a1), (i6 a2), (eSi64 a3)] { r := (eSi64 r) } := by
  refine den_of (rs := [(eSi64 r)]) (ac := impl_prime_power_c) (L := impl_prime_power_L) (n := 41) (m := [(8, 1), (9, 1), (10, 1)]) (c := Tryz.f67.body.getD .skip) good Tryz.func67 (by kernel_rfl) (by kernel_rfl) Tryz.ntmps67 rfl rfl (by kernel_rfl) rfl rfl ?_
  refine a_st (σ' := ⟨[(0, (i6 a0)), (1, (eSi64 a1)), (2, (i6 a2)), (3, (eSi64 a3))], []⟩) (by kernel_rfl) ?_
  unfold impl_prime_power_c
  refine sr (vp (eSi64 ([])) rfl (nx ⟨[(0, (i6 a0)), (1, (eSi64 a1)), (2, (i6 a2)), (3, (eSi64 a3))], []⟩ (by kernel_rfl) (sr (vp (i6 a0) rfl (vq (.sl 1 true (([1]).map (AV.int .i64))) rfl ⟨(Nat.le_of_ble_eq_true rfl), (Nat.le_of_ble_eq_true rfl), (all_cons ⟨(Nat.le_of_ble_eq_true rfl), rfl⟩ all_nil)⟩ (vp (eSi64 a3) rfl ?_))))))
  obtain ⟨r1, hr2, h⟩ := bind_some h
  refine a_call (args := [(i6 a0), (.sl 1 true (([1]).map (AV.int .i64))), (eSi64 a3)]) (u := []) (r := (eSi64 r1)) rfl rfl (Den.args (impl_prime_rest_ok a0 ([1]) a3 r1 hr2) rfl rfl (.cons (.refl _) (.cons (.loose _) (.cons (.refl _) .nil)))) rfl (vp (i6 a0) rfl (vp (eSi64 a1) rfl (vp (eSi64 a3) rfl ?_)))
  obtain ⟨r3, hr4, h⟩ := bind_some h
  refine a_call (args := [(i6 a0), (eSi64 a1), (eSi64 a3)]) (u := []) (r := (eSi64 r3)) rfl rfl (impl_prime_rest_ok a0 a1 a3 r3 hr4) rfl (vp (eSi64 r1) rfl (vp (eSi64 r3) rfl (nx ⟨[(0, (i6 a0)), (2, (i6 a2)), (3, (eSi64 a3)), (9, (eSi64 r1)), (10, (eSi64 r3))], []⟩ (by kernel_rfl) ?_)))
  obtain ⟨y82, hy83, hk84⟩ := bind_some h
  clear h
  refine a_join (emb := fun (s : (List Int)) => ⟨[(9, (eSi64 s))], []⟩) (pre := fun s => s = y82) ?_ ?_
  · rintro x81 rfl
    have h := hk84
    refine a_st (σ' := ⟨[(9, (eSi64 x81))], []⟩) (by kernel_rfl) (sr (vp (eSi64 x81) rfl (vp (eSi64 x81) rfl (nx _ rfl (a_ret ?_)))))
    refine ⟨.inr rfl, ?_⟩
    rw [Tryz.results67]
    cases h
    exact ⟨_, _, _, _, _, rfl, trivial, .inl ⟨rfl, .inl rfl⟩, rfl, rfl⟩
  · have h := hy83
    refine a_block ?_
    refine a_loop (emb := fun (s : (Int × (List Int) × (List Int))) => ⟨[(0, (i6 a0)), (2, (i6 s.1)), (3, (eSi64 a3)), (9, (eSi64 s.2.1)), (10, (eSi64 s.2.2))], []⟩) (body := (fun s : (Int × (List Int) × (List Int)) => impl_prime_power_l1 a0 a3 s.1 s.2.1 s.2.2)) (G := fun q => some q = some y82) h rfl ?_ (by kernel_rfl)
    rintro X134 ⟨x108, x109, x110⟩ x135 h hX136
    have h : impl_prime_power_l1 a0 a3 x108 x109 x110 = some x135 := h
    refine a_st (σ' := ⟨[(0, (i6 a0)), (2, (i6 x108)), (3, (eSi64 a3)), (9, (eSi64 x109)), (10, (eSi64 x110))], []⟩) (by kernel_rfl) (a_seq (sr (vp (i6 x108) rfl (vp (.bool ((decide (x108 > 0)))) rfl (nx ⟨[(0, (i6 a0)), (2, (i6 x108)), (3, (eSi64 a3)), (9, (eSi64 x109)), (10, (eSi64 x110)), (20, (.bool ((decide (x108 > 0)))))], []⟩ (by kernel_rfl) ?_)))))
    cases hb137 : (decide (x108 > 0))
    · have h := ite_f hb137 h
      refine a_cond_f rfl (a_exit (t_exit ?_))
      cases h
      have h := hX136
      refine t_exit (b_exit ?_)
      exact j_leaf x109 (Option.some.inj h) (by kernel_rfl)
    · have h := ite_t hb137 h
      refine a_cond_t rfl (a_skip (a_next (σ' := ⟨[(0, (i6 a0)), (2, (i6 x108)), (3, (eSi64 a3)), (9, (eSi64 x109)), (10, (eSi64 x110))], []⟩) (by kernel_rfl) (a_seq (a_block ?_))))
      obtain ⟨y146, hy147, hk148⟩ := bind_some h
      clear h
      refine a_join (emb := fun (s : (List Int)) => ⟨[(0, (i6 a0)), (2, (i6 x108)), (3, (eSi64 a3)), (9, (eSi64 s)), (10, (eSi64 x110))], []⟩) (pre := fun s => s = y146) ?_ ?_
      · rintro x145 rfl
        have h := hk148
        refine a_st (σ' := ⟨[(0, (i6 a0)), (2, (i6 x108)), (3, (eSi64 a3)), (9, (eSi64 x145)), (10, (eSi64 x110))], []⟩) (by kernel_rfl) (a_region (vp (i6 a0) rfl (vp (i6 a0) rfl (vp (eSi64 x110) rfl (vp (eSi64 x110) rfl ?_)))))
        obtain ⟨r156, hr157, h⟩ := bind_some h
        refine a_call (args := [(i6 a0), (eSi64 x110), (eSi64 x110)]) (u := []) (r := (eSi64 r156)) rfl rfl (impl_prime_times_ok a0 x110 x110 r156 hr157) rfl (vp (eSi64 a3) rfl ?_)
        obtain ⟨r158, hr159, h⟩ := bind_some h
        refine a_call (args := [(i6 a0), (eSi64 r156), (eSi64 a3)]) (u := []) (r := (eSi64 r158)) rfl rfl (impl_prime_rest_ok a0 r156 a3 r158 hr159) rfl (vp (eSi64 r158) rfl (a_nil (b_norm (a_next (σ' := ⟨[(0, (i6 a0)), (2, (i6 x108)), (3, (eSi64 a3)), (9, (eSi64 x145)), (10, (eSi64 r158))], []⟩) (by kernel_rfl) (a_region (vp (i6 x108) rfl (vq (i6 (Int.fdiv x108 (2 ^ (min (1 : Int).toNat IntKind.i64.bits)))) rfl (by decide) (vp (i6 (Int.fdiv x108 (2 ^ (min (1 : Int).toNat IntKind.i64.bits)))) rfl (a_nil ?_)))))))))
        cases h
        exact a_again (by kernel_rfl) hX136
      · have h := hy147
        refine sr (vp (i6 x108) rfl ?_)
        obtain ⟨x149, hx150, h⟩ := letp_some h
        refine a_val' (v := (i6 (IntKind.i64.wrap (BitVec.ofInt IntKind.i64.bits x108 &&& BitVec.ofInt IntKind.i64.bits 1).toNat))) (v' := (i6 x149)) (u := []) (u' := []) rfl (congrArg (fun z => ((i6 z) : AV)) hx150) rfl trivial rfl (vp (.bool (x149 == 1)) rfl (nx ⟨[(0, (i6 a0)), (2, (i6 x108)), (3, (eSi64 a3)), (9, (eSi64 x109)), (10, (eSi64 x110)), (25, (.bool (x149 == 1)))], []⟩ (by kernel_rfl) ?_))
        cases hb151 : (x149 == 1)
        · have h := ite_f hb151 h
          refine a_cond_f rfl (a_skip ?_)
          exact j_leaf x109 (Option.some.inj h) (by kernel_rfl)
        · have h := ite_t hb151 h
          refine a_cond_t rfl (a_region (vp (i6 a0) rfl (vp (i6 a0) rfl (vp (eSi64 x109) rfl (vp (eSi64 x110) rfl ?_)))))
          obtain ⟨r152, hr153, h⟩ := bind_some h
          refine a_call (args := [(i6 a0), (eSi64 x109), (eSi64 x110)]) (u := []) (r := (eSi64 r152)) rfl rfl (impl_prime_times_ok a0 x109 x110 r152 hr153) rfl (vp (eSi64 a3) rfl ?_)
          obtain ⟨r154, hr155, h⟩ := bind_some h
          refine a_call (args := [(i6 a0), (eSi64 r152), (eSi64 a3)]) (u := []) (r := (eSi64 r154)) rfl rfl (impl_prime_rest_ok a0 r152 a3 r154 hr155) rfl (vp (eSi64 r154) rfl (a_nil ?_))
          exact j_leaf r154 (Option.some.inj h) (by kernel_rfl)
def impl_row_at_c : ACode := (.seq (.region 0 [q 4 (.asg 0 (.const (.int .i64 0)) 2)] false) (.seq (.seq (.region 1 [q 5 (.mov (t 1)), q 6 (.mov (t 0)), q 7 (.blt 0 .len [(t 6)] [40]), q 8 (.bin .lss 3 (t 5) (t 7))] false) (.cond (t 8) (.seq (.region 2 [q 9 (.mov (t 0)), q 10 (.mov (t 1)), q 11 (.indexAddr 40 (t 9) (t 10)), q 12 (.load 2 (t 11)), q 4 (.asg 0 (t 12) 2)] false) .ret) .skip)) (.seq (.region 3 [q 4 (.asg 0 (.const (.int .i64 0)) 2)] false) .ret)))
def impl_row_at_L : Live := [(0, [0, 1]), (1, [0, 1]), (2, [0, 1]), (3, []), (100008, [0, 1, 8])]
noncomputable def impl_row_at (a0 : (List Int)) (a1 : Int) : Option Int :=
  (if (decide (a1 < (a0.length : Int))) then (ifp (0 ≤ a1 ∧ a1 < ((a0.length : Nat) : Int)) ((some (rd a0 a1.toNat)))) else (some 0))
theorem impl_row_at_ok (a0 : (List Int)) (a1 : Int) (r : Int) (h : impl_row_at a0 a1 = some r) : Den Tryz.prog 45 [(eSi64 a0), (i6 a1)] { r := (i6 r) } := by
  refine den_of (rs := [(i6 r)]) (ac := impl_row_at_c) (L := impl_row_at_L) (n := 13) (m := []) (c := Tryz.f45.body.getD .skip) good Tryz.func45 (by kernel_rfl) (by kernel_rfl) Tryz.ntmps45 rfl rfl (by kernel_rfl) rfl rfl ?_
  refine a_st (σ' := ⟨[(0, (eSi64 a0)), (1, (i6 a1))], []⟩) (by kernel_rfl) ?_
  unfold impl_row_at_c
  refine sr (vp (i6 0) rfl (nx ⟨[(0, (eSi64 a0)), (1, (i6 a1))], []⟩ (by kernel_rfl) (a_seq (sr (vp (i6 a1) rfl (vp (eSi64 a0) rfl (vq (i6 (a0.length : Int)) (len_run rfl rfl) trivial (vp (.bool ((decide (a1 < (a0.length : Int))))) rfl (nx ⟨[(0, (eSi64 a0)), (1, (i6 a1)), (8, (.bool ((decide (a1 < (a0.length : Int))))))], []⟩ (by kernel_rfl) ?_)))))))))
  cases hb1 : (decide (a1 < (a0.length : Int)))
  · have h := ite_f hb1 h
    refine a_cond_f rfl (a_skip (a_next (σ' := ⟨[], []⟩) (by kernel_rfl) (sr (vp (i6 0) rfl (nx _ rfl (a_ret ?_))))))
    refine ⟨.inr rfl, ?_⟩
    rw [Tryz.results45]
    cases h
    exact ⟨_, _, _, _, _, rfl, trivial, .inl ⟨rfl, .inl rfl⟩, rfl, rfl⟩
  · have h := ite_t hb1 h
    refine a_cond_t rfl (sr (vp (eSi64 a0) rfl (vp (i6 a1) rfl ?_)))
    obtain ⟨hc2, h⟩ := ifp_some h
    refine vq (.ref (.row 1 (a0.map (AV.int .i64))) [a1.toNat] [a1.toNat * 1]) rfl (lmap hc2) ?_
    have hl3 : LdOk [a1.toNat] (.row 1 (a0.map (AV.int .i64))) [a1.toNat * 1] 1 false (i6 (rd a0 a1.toNat)) := (.row (llt hc2) rfl (.nil rfl rfl rfl))
    refine vq (i6 (rd a0 a1.toNat)) (ld_ref (i := ⟨.int .i64, 1, 8, (.int .i64 0)⟩) rfl rfl hl3) hl3.c (vp (i6 (rd a0 a1.toNat)) rfl (nx _ rfl (a_ret (t_ret ?_))))
    refine ⟨.inr rfl, ?_⟩
    rw [Tryz.results45]
    cases h
    exact ⟨_, _, _, _, _, rfl, trivial, .inl ⟨rfl, .inl rfl⟩, rfl, rfl⟩
def impl_prime_combine_c : ACode := (.seq (.region 0 [q 8 (.asg 1 (.const (.slice none 0 0)) 40)] false) (.seq (.region 1 [q 11 (.mov (t 1)), q 12 (.blt 0 .len [(t 11)] [40]), q 13 (.mov (t 2)), q 14 (.blt 0 .len [(t 13)] [40]), q 15 (.blt 0 .max [(t 12), (t 14)] [3, 3]), q 16 (.mkslice 40 (t 15) (t 15)), q 9 (.asg 2 (t 16) 40)] false) (.seq (.seq (.region 2 [q 17 (.mov (t 9)), q 18 (.blt 0 .len [(t 17)] [40]), q 19 (.mov (.const (.int .i64 0)))] false) (.block 0 (.loop (.seq (.region 3 [q 20 (.bin .lss 3 (t 19) (t 18))] false) (.seq (.cond (t 20) .skip (.exit 0)) (.seq (.block 1 (.seq (.region 4 [q 21 (.mov (t 19)), q 10 (.asg 0 (t 21) 3)] false) (.region 5 [q 22 (.mov (t 9)), q 23 (.mov (t 10)), q 24 (.mov (t 0)), q 25 (.mov (t 1)), q 26 (.mov (t 10)), q 27 (.call 0 (.func 45) [(t 25), (t 26)]), q 28 (.mov (t 3)), q 29 (.mov (t 2)), q 30 (.mov (t 10)), q 31 (.call 0 (.func 45) [(t 29), (t 30)]), q 32 (.bin .mul 2 (t 28) (t 31)), q 33 (.bin .add 2 (t 27) (t 32)), q 34 (.call 0 (.func 44) [(t 24), (t 33)]), q 35 (.indexAddr 40 (t 22) (t 23)), ⟨none, .store 2 (t 35) (t 34), none, []⟩] false))) (.region 6 [q 36 (.bin .add 3 (t 19) (.const (.int .i64 1))), q 19 (.mov (t 36))] false))))))) (.seq (.region 7 [q 37 (.mov (t 9)), q 38 (.call 0 (.func 43) [(t 37)]), q 8 (.asg 1 (t 38) 40)] false) .ret))))
def impl_prime_combine_L : Live := [(0, [0, 1, 2, 3]), (1, [0, 1, 2, 3]), (2, [0, 1, 2, 3, 9]), (3, [0, 1, 2, 3, 9, 18, 19]), (4, [0, 1, 2, 3, 9, 18, 19]), (5, [0, 1, 2, 3, 9, 10, 18, 19]), (6, [0, 1, 2, 3, 9, 18, 19]), (7, [9]), (100020, [0, 1, 2, 3, 9, 18, 19, 20])]
noncomputable def impl_prime_combine_l1 (x1 : Int) (a1 : (List Int)) (a2 : (List Int)) (a0 : Int) (a3 : Int) (x58 : Int) (x59 : (List Int)) : Option ((Int × (List Int)) ⊕ (List Int)) :=
  (letp ((decide (x58 < (((List.replicate x1.toNat (0 : Int)).length : Int))))) fun x74 => (if x74 then (Option.bind (impl_row_at a1 x58) fun r77 => (Option.bind (impl_row_at a2 x58) fun r79 => (Option.bind (impl_prime_reduce a0 (IntKind.i64.wrap (r77 + (IntKind.i64.wrap (a3 * r79))))) fun r81 => (ifp (0 ≤ x58 ∧ x58 < ((x59.length : Nat) : Int)) ((some (.inl ((IntKind.i64.wrap (x58 + 1), (x59.set x58.toNat r81)))))))))) else (some (.inr x59))))
noncomputable def impl_prime_combine (a0 : Int) (a1 : (List Int)) (a2 : (List Int)) (a3 : Int) : Option (List Int) :=
  (letp ((if (a2.length : Int) > (a1.length : Int) then (a2.length : Int) else (a1.length : Int))) fun x1 => (ifp (0 ≤ x1 ∧ x1 ≤ 140737488355328 ∧ 8 * x1 ≤ 140737488355328) ((Option.bind (α := (List Int)) ((loopM (fun s : (Int × (List Int)) => impl_prime_combine_l1 x1 a1 a2 a0 a3 s.1 s.2) (0, List.replicate x1.toNat (0 : Int)))) fun x43 => (Option.bind (impl_row_trimmed x43) fun r86 => (some r86))))))
theorem impl_prime_combine_ok (a0 : Int) (a1 : (List Int)) (a2 : (List Int)) (a3 : Int) (r : (List Int)) (h : impl_prime_combine a0 a1 a2 a3 = some r) : Den Tryz.prog 26 [(i6 a0), (eSi64 a1), (eSi64 a2), (i6 a3)] { r := (eSi64 r) } := by
  refine den_of (rs := [(eSi64 r)]) (ac := impl_prime_combine_c) (L := impl_prime_combine_L) (n := 39) (m := [(8, 1), (9, 2)]) (c := Tryz.f26.body.getD .skip) good Tryz.func26 (by kernel_rfl) (by kernel_rfl) Tryz.ntmps26 rfl rfl (by kernel_rfl) rfl rfl ?_
  refine a_st (σ' := ⟨[(0, (i6 a0)), (1, (eSi64 a1)), (2, (eSi64 a2)), (3, (i6 a3))], []⟩) (by kernel_rfl) ?_
  unfold impl_prime_combine_c
  refine sr (vp (eSi64 ([])) rfl (nx ⟨[(0, (i6 a0)), (1, (eSi64 a1)), (2, (eSi64 a2)), (3, (i6 a3))], []⟩ (by kernel_rfl) (sr (vp (eSi64 a1) rfl (vq (i6 (a1.length : Int)) (len_run rfl rfl) trivial (vp (eSi64 a2) rfl (vq (i6 (a2.length : Int)) (len_run rfl rfl) trivial ?_)))))))
  obtain ⟨x1, hx2, h⟩ := letp_some h
  refine a_val' (v := (i6 ((if (a2.length : Int) > (a1.length : Int) then (a2.length : Int) else (a1.length : Int))))) (v' := (i6 x1)) (u := []) (u' := []) rfl (congrArg (fun z => ((i6 z) : AV)) hx2) rfl trivial rfl ?_
  obtain ⟨hc3, h⟩ := ifp_some h
  refine vu (.osl 2600) [(2600, (bk (.row 1 ((List.replicate x1.toNat (0 : Int)).map (AV.int .i64)))))] (mk_run (i := ⟨.int .i64, 1, 8, (.int .i64 0)⟩) (f := (AV.int .i64)) (y := (0 : Int)) rfl rfl rfl rfl rfl rfl) ⟨rfl, hc3.1, hc3.2.1, hc3.2.2, (Nat.le_of_ble_eq_true rfl)⟩ rfl (vp (.osl 2600) rfl (nx ⟨[(0, (i6 a0)), (1, (eSi64 a1)), (2, (eSi64 a2)), (3, (i6 a3)), (9, (.osl 9))], [(9, (bk (.row 1 ((List.replicate x1.toNat (0 : Int)).map (AV.int .i64)))))]⟩ (by kernel_rfl) ?_))
  obtain ⟨y44, hy45, hk46⟩ := bind_some h
  clear h
  refine a_join (emb := fun (s : (List Int)) => ⟨[(9, (.osl 9))], [(9, (bk (.row 1 (s.map (AV.int .i64)))))]⟩) (pre := fun s => s = y44) ?_ ?_
  · rintro x43 rfl
    have h := hk46
    refine a_st (σ' := ⟨[(9, (.osl 9))], [(9, (bk (.row 1 (x43.map (AV.int .i64)))))]⟩) (by kernel_rfl) (sr (vp (.osl 9) rfl ?_))
    obtain ⟨r86, hr87, h⟩ := bind_some h
    refine a_call (args := [(eSi64 x43)]) (u := [(9, (bf (.row 1 (x43.map (AV.int .i64)))))]) (r := (eSi64 r86)) rfl rfl (impl_row_trimmed_ok x43 r86 hr87) rfl (vp (eSi64 r86) rfl (nx _ rfl (a_ret ?_)))
    refine ⟨.inr rfl, ?_⟩
    rw [Tryz.results26]
    cases h
    exact ⟨_, _, _, _, _, rfl, trivial, .inl ⟨rfl, .inl rfl⟩, rfl, rfl⟩
  · have h := hy45
    refine sr (vp (.osl 9) rfl (vq (i6 (((List.replicate x1.toNat (0 : Int)).length : Int))) (leno_run rfl rfl rfl) trivial (vp (i6 0) rfl (nx ⟨[(0, (i6 a0)), (1, (eSi64 a1)), (2, (eSi64 a2)), (3, (i6 a3)), (9, (.osl 9)), (18, (i6 (((List.replicate x1.toNat (0 : Int)).length : Int)))), (19, (i6 0))], [(9, (bk (.row 1 ((List.replicate x1.toNat (0 : Int)).map (AV.int .i64)))))]⟩ (by kernel_rfl) (a_block ?_)))))
    refine a_loop (emb := fun (s : (Int × (List Int))) => ⟨[(0, (i6 a0)), (1, (eSi64 a1)), (2, (eSi64 a2)), (3, (i6 a3)), (9, (.osl 9)), (18, (i6 (((List.replicate x1.toNat (0 : Int)).length : Int)))), (19, (i6 s.1))], [(9, (bk (.row 1 (s.2.map (AV.int .i64)))))]⟩) (body := (fun s : (Int × (List Int)) => impl_prime_combine_l1 x1 a1 a2 a0 a3 s.1 s.2)) (G := fun q => some q = some y44) h rfl ?_ (by kernel_rfl)
    rintro X71 ⟨x58, x59⟩ x72 h hX73
    have h : impl_prime_combine_l1 x1 a1 a2 a0 a3 x58 x59 = some x72 := h
    refine a_st (σ' := ⟨[(0, (i6 a0)), (1, (eSi64 a1)), (2, (eSi64 a2)), (3, (i6 a3)), (9, (.osl 9)), (18, (i6 (((List.replicate x1.toNat (0 : Int)).length : Int)))), (19, (i6 x58))], [(9, (bk (.row 1 (x59.map (AV.int .i64)))))]⟩) (by kernel_rfl) (sr ?_)
    obtain ⟨x74, hx75, h⟩ := letp_some h
    refine a_val' (v := (.bool ((decide (x58 < (((List.replicate x1.toNat (0 : Int)).length : Int))))))) (v' := (.bool x74)) (u := []) (u' := []) rfl (congrArg (fun z => ((.bool z) : AV)) hx75) rfl trivial rfl (nx ⟨[(0, (i6 a0)), (1, (eSi64 a1)), (2, (eSi64 a2)), (3, (i6 a3)), (9, (.osl 9)), (18, (i6 (((List.replicate x1.toNat (0 : Int)).length : Int)))), (19, (i6 x58)), (20, (.bool x74))], [(9, (bk (.row 1 (x59.map (AV.int .i64)))))]⟩ (by kernel_rfl) (a_seq ?_))
    cases hb76 : x74
    · have h := ite_f hb76 h
      refine a_cond_f rfl (a_exit (t_exit ?_))
      cases h
      have h := hX73
      refine t_exit (b_exit ?_)
      exact j_leaf x59 (Option.some.inj h) (by kernel_rfl)
    · have h := ite_t hb76 h
      refine a_cond_t rfl (a_skip (a_next (σ' := ⟨[(0, (i6 a0)), (1, (eSi64 a1)), (2, (eSi64 a2)), (3, (i6 a3)), (9, (.osl 9)), (18, (i6 (((List.replicate x1.toNat (0 : Int)).length : Int)))), (19, (i6 x58))], [(9, (bk (.row 1 (x59.map (AV.int .i64)))))]⟩) (by kernel_rfl) (a_seq (a_block (sr (vp (i6 x58) rfl (vp (i6 x58) rfl (nx ⟨[(0, (i6 a0)), (1, (eSi64 a1)), (2, (eSi64 a2)), (3, (i6 a3)), (9, (.osl 9)), (10, (i6 x58)), (18, (i6 (((List.replicate x1.toNat (0 : Int)).length : Int)))), (19, (i6 x58))], [(9, (bk (.row 1 (x59.map (AV.int .i64)))))]⟩ (by kernel_rfl) (a_region ?_)))))))))
      refine vp (.osl 9) rfl (vp (i6 x58) rfl (vp (i6 a0) rfl (vp (eSi64 a1) rfl (vp (i6 x58) rfl ?_))))
      obtain ⟨r77, hr78, h⟩ := bind_some h
      refine a_call (args := [(eSi64 a1), (i6 x58)]) (u := []) (r := (i6 r77)) rfl rfl (impl_row_at_ok a1 x58 r77 hr78) rfl (vp (i6 a3) rfl (vp (eSi64 a2) rfl (vp (i6 x58) rfl ?_)))
      obtain ⟨r79, hr80, h⟩ := bind_some h
      refine a_call (args := [(eSi64 a2), (i6 x58)]) (u := []) (r := (i6 r79)) rfl rfl (impl_row_at_ok a2 x58 r79 hr80) rfl (vp (i6 (IntKind.i64.wrap (a3 * r79))) rfl (vp (i6 (IntKind.i64.wrap (r77 + (IntKind.i64.wrap (a3 * r79))))) rfl ?_))
      obtain ⟨r81, hr82, h⟩ := bind_some h
      refine a_call (args := [(i6 a0), (i6 (IntKind.i64.wrap (r77 + (IntKind.i64.wrap (a3 * r79)))))]) (u := []) (r := (i6 r81)) rfl rfl (impl_prime_reduce_ok a0 (IntKind.i64.wrap (r77 + (IntKind.i64.wrap (a3 * r79)))) r81 hr82) rfl ?_
      obtain ⟨hc83, h⟩ := ifp_some h
      refine vq (.own 9 [x58.toNat] [x58.toNat * 1]) rfl (lmap hc83) ?_
      have hs84 : StOk [x58.toNat] (.row 1 (x59.map (AV.int .i64))) [x58.toNat * 1] 1 (i6 r81) (.row 1 ((x59.set x58.toNat r81).map (AV.int .i64))) := (.row (y := r81) (llt hc83) rfl (.nil rfl rfl rfl rfl))
      refine vu .top [(9, (bk (.row 1 ((x59.set x58.toNat r81).map (AV.int .i64)))))] (st_own (i := ⟨.int .i64, 1, 8, (.int .i64 0)⟩) rfl rfl (fun _ => rfl) rfl hs84) (hs84.c rfl) rfl (a_nil (b_norm (a_next (σ' := ⟨[(0, (i6 a0)), (1, (eSi64 a1)), (2, (eSi64 a2)), (3, (i6 a3)), (9, (.osl 9)), (18, (i6 (((List.replicate x1.toNat (0 : Int)).length : Int)))), (19, (i6 x58))], [(9, (bk (.row 1 ((x59.set x58.toNat r81).map (AV.int .i64)))))]⟩) (by kernel_rfl) (a_region (vp (i6 (IntKind.i64.wrap (x58 + 1))) rfl (vp (i6 (IntKind.i64.wrap (x58 + 1))) rfl (a_nil ?_)))))))
      cases h
      exact a_again (by kernel_rfl) hX73
def impl_prime_scale_c : ACode := (.seq (.region 0 [q 6 (.asg 1 (.const (.slice none 0 0)) 40)] false) (.seq (.region 1 [q 7 (.mov (t 0)), q 8 (.mov (t 1)), q 9 (.mov (t 2)), q 10 (.call 0 (.func 26) [(t 7), (.const (.slice none 0 0)), (t 8), (t 9)]), q 6 (.asg 1 (t 10) 40)] false) .ret))
def impl_prime_scale_L : Live := [(0, [0, 1, 2]), (1, [0, 1, 2])]
noncomputable def impl_prime_scale (a0 : Int) (a1 : (List Int)) (a2 : Int) : Option (List Int) :=
  (Option.bind (impl_prime_combine a0 ([]) a1 a2) fun r1 => (some r1))
theorem impl_prime_scale_ok (a0 : Int) (a1 : (List Int)) (a2 : Int) (r : (List Int)) (h : impl_prime_scale a0 a1 a2 = some r) : Den Tryz.prog 64 [(i6 a0), (eSi64 a1), (i6 a2)] { r := (eSi64 r) } := by
  refine den_of (rs := [(eSi64 r)]) (ac := impl_prime_scale_c) (L := impl_prime_scale_L) (n := 11) (m := [(6, 1)]) (c := Tryz.f64.body.getD .skip) good Tryz.func64 (by kernel_rfl) (by kernel_rfl) Tryz.ntmps64 rfl rfl (by kernel_rfl) rfl rfl ?_
  refine a_st (σ' := ⟨[(0, (i6 a0)), (1, (eSi64 a1)), (2, (i6 a2))], []⟩) (by kernel_rfl) ?_
  unfold impl_prime_scale_c
  refine sr (vp (eSi64 ([])) rfl (nx ⟨[(0, (i6 a0)), (1, (eSi64 a1)), (2, (i6 a2))], []⟩ (by kernel_rfl) (sr (vp (i6 a0) rfl (vp (eSi64 a1) rfl (vp (i6 a2) rfl ?_))))))
  obtain ⟨r1, hr2, h⟩ := bind_some h
  refine a_call (args := [(i6 a0), (.sl 0 true []), (eSi64 a1), (i6 a2)]) (u := []) (r := (eSi64 r1)) rfl rfl (Den.args (impl_prime_combine_ok a0 ([]) a1 a2 r1 hr2) rfl rfl (.cons (.refl _) (.cons (.nil _ _ _ _ (fun _ => rfl)) (.cons (.refl _) (.cons (.refl _) .nil))))) rfl (vp (eSi64 r1) rfl (nx _ rfl (a_ret ?_)))
  refine ⟨.inr rfl, ?_⟩
  rw [Tryz.results64]
  cases h
  exact ⟨_, _, _, _, _, rfl, trivial, .inl ⟨rfl, .inl rfl⟩, rfl, rfl⟩
def impl_prime_bezout_c : ACode := (.seq (.region 0 [q 6 (.asg 1 (.const (.slice none 0 0)) 40), q 7 (.asg 1 (.const (.slice none 0 0)) 40), q 8 (.asg 1 (.const (.slice none 0 0)) 40)] false) (.seq (.region 1 [q 16 (.bslice 0 40 1 [(0, (.const (.int .i64 1)))]), q 9 (.asg 1 (t 16) 40), q 10 (.asg 1 (.const (.slice none 0 0)) 40)] false) (.seq (.region 2 [q 17 (.bslice 0 40 1 [(0, (.const (.int .i64 1)))]), q 11 (.asg 1 (.const (.slice none 0 0)) 40), q 12 (.asg 1 (t 17) 40)] false) (.seq (.block 0 (.loop (.seq (.seq (.region 3 [q 18 (.mov (t 2)), q 19 (.blt 0 .len [(t 18)] [40]), q 20 (.bin .gtr 3 (t 19) (.const (.int .i64 0)))] false) (.cond (t 20) .skip (.exit 0))) (.block 1 (.seq (.region 4 [q 22 (.mov (t 0)), q 23 (.mov (t 1)), q 24 (.mov (t 2)), q 25 (.call 0 (.func 85) [(t 22), (t 23), (t 24)]), q 21 (.mov (t 25)), q 26 (.extract (t 21) 0), q 27 (.extract (t 21) 1), q 13 (.asg 1 (t 26) 40), q 14 (.asg 1 (t 27) 40)] false) (.seq (.region 5 [q 28 (.mov (t 2)), q 29 (.mov (t 14)), q 1 (.asg 1 (t 28) 40), q 2 (.asg 1 (t 29) 40)] false) (.seq (.region 6 [q 30 (.mov (t 11)), q 31 (.mov (t 0)), q 32 (.mov (t 9)), q 33 (.mov (t 0)), q 34 (.mov (t 13)), q 35 (.mov (t 11)), q 36 (.call 0 (.func 81) [(t 33), (t 34), (t 35)]), q 37 (.call 0 (.func 26) [(t 31), (t 32), (t 36), (.const (.int .i64 (-1)))]), q 9 (.asg 1 (t 30) 40), q 11 (.asg 1 (t 37) 40)] false) (.region 7 [q 38 (.mov (t 12)), q 39 (.mov (t 0)), q 40 (.mov (t 10)), q 41 (.mov (t 0)), q 42 (.mov (t 13)), q 43 (.mov (t 12)), q 44 (.call 0 (.func 81) [(t 41), (t 42), (t 43)]), q 45 (.call 0 (.func 26) [(t 39), (t 40), (t 44), (.const (.int .i64 (-1)))]), q 10 (.asg 1 (t 38) 40), q 12 (.asg 1 (t 45) 40)] false)))))))) (.seq (.region 8 [q 46 (.mov (t 0)), q 47 (.mov (t 1)), q 48 (.call 0 (.func 53) [(t 47)]), q 49 (.call 0 (.func 65) [(t 46), (t 48)]), q 15 (.asg 0 (t 49) 2)] false) (.seq (.region 9 [q 50 (.mov (t 0)), q 51 (.mov (t 1)), q 52 (.mov (t 15)), q 53 (.call 0 (.func 64) [(t 50), (t 51), (t 52)]), q 54 (.mov (t 0)), q 55 (.mov (t 9)), q 56 (.mov (t 15)), q 57 (.call 0 (.func 64) [(t 54), (t 55), (t 56)]), q 58 (.mov (t 0)), q 59 (.mov (t 10)), q 60 (.mov (t 15)), q 61 (.call 0 (.func 64) [(t 58), (t 59), (t 60)]), q 6 (.asg 1 (t 53) 40), q 7 (.asg 1 (t 57) 40), q 8 (.asg 1 (t 61) 40)] false) .ret))))))
def impl_prime_bezout_L : Live := [(0, [0, 1, 2]), (1, [0, 1, 2]), (2, [0, 1, 2, 9, 10]), (3, [0, 1, 2, 9, 10, 11, 12]), (4, [0, 1, 2, 9, 10, 11, 12]), (5, [0, 2, 9, 10, 11, 12, 13, 14]), (6, [0, 1, 2, 9, 10, 11, 12, 13]), (7, [0, 1, 2, 9, 10, 11, 12, 13]), (8, [0, 1, 9, 10]), (9, [0, 1, 9, 10, 15]), (100020, [0, 1, 2, 9, 10, 11, 12, 20])]
noncomputable def impl_prime_bezout_l1 (a0 : Int) (x61 : (List Int)) (x62 : (List Int)) (x63 : (List Int)) (x64 : (List Int)) (x65 : (List Int)) (x66 : (List Int)) : Option (((List Int) × (List Int) × (List Int) × (List Int) × (List Int) × (List Int)) ⊕ ((List Int) × (List Int) × (List Int))) :=
  (if (decide ((x62.length : Int) > 0)) then (Option.bind (impl_prime_divide a0 x61 x62) fun r82 => (Option.bind (impl_prime_times a0 r82.1 x65) fun r84 => (Option.bind (impl_prime_combine a0 x63 r84 (-1)) fun r86 => (Option.bind (impl_prime_times a0 r82.1 x66) fun r88 => (Option.bind (impl_prime_combine a0 x64 r88 (-1)) fun r90 => (some (.inl (x62, r82.2, x65, x66, r86, r90)))))))) else (some (.inr (x61, x63, x64))))
noncomputable def impl_prime_bezout (a0 : Int) (a1 : (List Int)) (a2 : (List Int)) : Option ((List Int) × (List Int) × (List Int)) :=
  (Option.bind (α := ((List Int) × (List Int) × (List Int))) ((loopM (fun s : ((List Int) × (List Int) × (List Int) × (List Int) × (List Int) × (List Int)) => impl_prime_bezout_l1 a0 s.1 s.2.1 s.2.2.1 s.2.2.2.1 s.2.2.2.2.1 s.2.2.2.2.2) (a1, a2, [1], [], [], [1]))) fun ⟨x44, x45, x46⟩ => (Option.bind (impl_row_lead x44) fun r93 => (Option.bind (impl_prime_inverse a0 r93) fun r95 => (Option.bind (impl_prime_scale a0 x44 r95) fun r97 => (Option.bind (impl_prime_scale a0 x45 r95) fun r99 => (Option.bind (impl_prime_scale a0 x46 r95) fun r101 => (some (r97, r99, r101))))))))
theorem impl_prime_bezout_ok (a0 : Int) (a1 : (List Int)) (a2 : (List Int)) (r : ((List Int) × (List Int) × (List Int))) (h : impl_prime_bezout a0 a1 a2 = some r) : Den Tryz.prog 82 [(i6 a0), (eSi64 a1), (eSi64 a2)] { r := (.tuple [(eSi64 r.1), (eSi64 r.2.1), (eSi64 r.2.2)]) } := by
  refine den_of (rs := [(eSi64 r.1), (eSi64 r.2.1), (eSi64 r.2.2)]) (ac := impl_prime_bezout_c) (L := impl_prime_bezout_L) (n := 62) (m := [(1, 1), (2, 1), (6, 1), (7, 1), (8, 1), (9, 1), (10, 1), (11, 1), (12, 1), (13, 1), (14, 1)]) (c := Tryz.f82.body.getD .skip) good Tryz.func82 (by kernel_rfl) (by kernel_rfl) Tryz.ntmps82 rfl rfl (by kernel_rfl) rfl rfl ?_
  refine a_st (σ' := ⟨[(0, (i6 a0)), (1, (eSi64 a1)), (2, (eSi64 a2))], []⟩) (by kernel_rfl) ?_
  unfold impl_prime_bezout_c
  refine sr (vp (eSi64 ([])) rfl (vp (eSi64 ([])) rfl (vp (eSi64 ([])) rfl (nx ⟨[(0, (i6 a0)), (1, (eSi64 a1)), (2, (eSi64 a2))], []⟩ (by kernel_rfl) (sr (vq (.sl 1 true (([1]).map (AV.int .i64))) rfl ⟨(Nat.le_of_ble_eq_true rfl), (Nat.le_of_ble_eq_true rfl), (all_cons ⟨(Nat.le_of_ble_eq_true rfl), rfl⟩ all_nil)⟩ (vq (eSi64 ([1])) (asg_tight (i := ⟨.int .i64, 1, 8, (.int .i64 0)⟩) (f := (AV.int .i64)) (l := [1]) rfl rfl rfl) trivial (vp (eSi64 ([])) rfl (nx ⟨[(0, (i6 a0)), (1, (eSi64 a1)), (2, (eSi64 a2)), (9, (eSi64 ([1]))), (10, (eSi64 ([])))], []⟩ (by kernel_rfl) ?_)))))))))
  refine sr (vq (.sl 1 true (([1]).map (AV.int .i64))) rfl ⟨(Nat.le_of_ble_eq_true rfl), (Nat.le_of_ble_eq_true rfl), (all_cons ⟨(Nat.le_of_ble_eq_true rfl), rfl⟩ all_nil)⟩ (vp (eSi64 ([])) rfl (vq (eSi64 ([1])) (asg_tight (i := ⟨.int .i64, 1, 8, (.int .i64 0)⟩) (f := (AV.int .i64)) (l := [1]) rfl rfl rfl) trivial (nx ⟨[(0, (i6 a0)), (1, (eSi64 a1)), (2, (eSi64 a2)), (9, (eSi64 ([1]))), (10, (eSi64 ([]))), (11, (eSi64 ([]))), (12, (eSi64 ([1])))], []⟩ (by kernel_rfl) ?_))))
  obtain ⟨y47, hy48, hk49⟩ := bind_some h
  clear h
  refine a_join (emb := fun (s : ((List Int) × (List Int) × (List Int))) => ⟨[(0, (i6 a0)), (1, (eSi64 s.1)), (9, (eSi64 s.2.1)), (10, (eSi64 s.2.2))], []⟩) (pre := fun s => s = y47) ?_ ?_
  · rintro ⟨x44, x45, x46⟩ rfl
    have h := hk49
    refine a_st (σ' := ⟨[(0, (i6 a0)), (1, (eSi64 x44)), (9, (eSi64 x45)), (10, (eSi64 x46))], []⟩) (by kernel_rfl) (sr (vp (i6 a0) rfl (vp (eSi64 x44) rfl ?_)))
    obtain ⟨r93, hr94, h⟩ := bind_some h
    refine a_call (args := [(eSi64 x44)]) (u := []) (r := (i6 r93)) rfl rfl (impl_row_lead_ok x44 r93 hr94) rfl ?_
    obtain ⟨r95, hr96, h⟩ := bind_some h
    refine a_call (args := [(i6 a0), (i6 r93)]) (u := []) (r := (i6 r95)) rfl rfl (impl_prime_inverse_ok a0 r93 r95 hr96) rfl (vp (i6 r95) rfl (nx ⟨[(0, (i6 a0)), (1, (eSi64 x44)), (9, (eSi64 x45)), (10, (eSi64 x46)), (15, (i6 r95))], []⟩ (by kernel_rfl) (sr (vp (i6 a0) rfl (vp (eSi64 x44) rfl (vp (i6 r95) rfl ?_))))))
    obtain ⟨r97, hr98, h⟩ := bind_some h
    refine a_call (args := [(i6 a0), (eSi64 x44), (i6 r95)]) (u := []) (r := (eSi64 r97)) rfl rfl (impl_prime_scale_ok a0 x44 r95 r97 hr98) rfl (vp (i6 a0) rfl (vp (eSi64 x45) rfl (vp (i6 r95) rfl ?_)))
    obtain ⟨r99, hr100, h⟩ := bind_some h
    refine a_call (args := [(i6 a0), (eSi64 x45), (i6 r95)]) (u := []) (r := (eSi64 r99)) rfl rfl (impl_prime_scale_ok a0 x45 r95 r99 hr100) rfl (vp (i6 a0) rfl (vp (eSi64 x46) rfl (vp (i6 r95) rfl ?_)))
    obtain ⟨r101, hr102, h⟩ := bind_some h
    refine a_call (args := [(i6 a0), (eSi64 x46), (i6 r95)]) (u := []) (r := (eSi64 r101)) rfl rfl (impl_prime_scale_ok a0 x46 r95 r101 hr102) rfl (vp (eSi64 r97) rfl (vp (eSi64 r99) rfl (vp (eSi64 r101) rfl (nx _ rfl (a_ret ?_)))))
    refine ⟨.inr rfl, ?_⟩
    rw [Tryz.results82]
    cases h
    exact ⟨_, _, _, _, _, rfl, trivial, .inl ⟨rfl, .inl rfl⟩, rfl, ⟨_, _, _, _, _, rfl, trivial, .inl ⟨rfl, .inl rfl⟩, rfl, ⟨_, _, _, _, _, rfl, trivial, .inl ⟨rfl, .inl rfl⟩, rfl, rfl⟩⟩⟩
  · have h := hy48
    refine a_block ?_
    refine a_loop (emb := fun (s : ((List Int) × (List Int) × (List Int) × (List Int) × (List Int) × (List Int))) => ⟨[(0, (i6 a0)), (1, (eSi64 s.1)), (2, (eSi64 s.2.1)), (9, (eSi64 s.2.2.1)), (10, (eSi64 s.2.2.2.1)), (11, (eSi64 s.2.2.2.2.1)), (12, (eSi64 s.2.2.2.2.2))], []⟩) (body := (fun s : ((List Int) × (List Int) × (List Int) × (List Int) × (List Int) × (List Int)) => impl_prime_bezout_l1 a0 s.1 s.2.1 s.2.2.1 s.2.2.2.1 s.2.2.2.2.1 s.2.2.2.2.2)) (G := fun q => some q = some y47) h rfl ?_ (by kernel_rfl)
    rintro X78 ⟨x61, x62, x63, x64, x65, x66⟩ x79 h hX80
    have h : impl_prime_bezout_l1 a0 x61 x62 x63 x64 x65 x66 = some x79 := h
    refine a_st (σ' := ⟨[(0, (i6 a0)), (1, (eSi64 x61)), (2, (eSi64 x62)), (9, (eSi64 x63)), (10, (eSi64 x64)), (11, (eSi64 x65)), (12, (eSi64 x66))], []⟩) (by kernel_rfl) (a_seq (sr (vp (eSi64 x62) rfl (vq (i6 (x62.length : Int)) (len_run rfl rfl) trivial (vp (.bool ((decide ((x62.length : Int) > 0)))) rfl (nx ⟨[(0, (i6 a0)), (1, (eSi64 x61)), (2, (eSi64 x62)), (9, (eSi64 x63)), (10, (eSi64 x64)), (11, (eSi64 x65)), (12, (eSi64 x66)), (20, (.bool ((decide ((x62.length : Int) > 0)))))], []⟩ (by kernel_rfl) ?_))))))
    cases hb81 : (decide ((x62.length : Int) > 0))
    · have h := ite_f hb81 h
      refine a_cond_f rfl (a_exit (t_exit ?_))
      cases h
      have h := hX80
      refine t_exit (b_exit ?_)
      exact j_leaf (x61, x63, x64) (Option.some.inj h) (by kernel_rfl)
    · have h := ite_t hb81 h
      refine a_cond_t rfl (a_skip (a_next (σ' := ⟨[(0, (i6 a0)), (1, (eSi64 x61)), (2, (eSi64 x62)), (9, (eSi64 x63)), (10, (eSi64 x64)), (11, (eSi64 x65)), (12, (eSi64 x66))], []⟩) (by kernel_rfl) (a_block (sr (vp (i6 a0) rfl (vp (eSi64 x61) rfl (vp (eSi64 x62) rfl ?_)))))))
      obtain ⟨r82, hr83, h⟩ := bind_some h
      refine a_call (args := [(i6 a0), (eSi64 x61), (eSi64 x62)]) (u := []) (r := (.tuple [(eSi64 r82.1), (eSi64 r82.2)])) rfl rfl (impl_prime_divide_ok a0 x61 x62 r82 hr83) rfl (vp (.tuple [(eSi64 r82.1), (eSi64 r82.2)]) rfl (vb (eSi64 r82.1) rfl rfl (vb (eSi64 r82.2) rfl rfl (vp (eSi64 r82.1) rfl (vp (eSi64 r82.2) rfl (nx ⟨[(0, (i6 a0)), (2, (eSi64 x62)), (9, (eSi64 x63)), (10, (eSi64 x64)), (11, (eSi64 x65)), (12, (eSi64 x66)), (13, (eSi64 r82.1)), (14, (eSi64 r82.2))], []⟩ (by kernel_rfl) (sr (vp (eSi64 x62) rfl (vp (eSi64 r82.2) rfl ?_)))))))))
      refine vp (eSi64 x62) rfl (vp (eSi64 r82.2) rfl (nx ⟨[(0, (i6 a0)), (1, (eSi64 x62)), (2, (eSi64 r82.2)), (9, (eSi64 x63)), (10, (eSi64 x64)), (11, (eSi64 x65)), (12, (eSi64 x66)), (13, (eSi64 r82.1))], []⟩ (by kernel_rfl) (sr (vp (eSi64 x65) rfl (vp (i6 a0) rfl (vp (eSi64 x63) rfl (vp (i6 a0) rfl (vp (eSi64 r82.1) rfl (vp (eSi64 x65) rfl ?_)))))))))
      obtain ⟨r84, hr85, h⟩ := bind_some h
      refine a_call (args := [(i6 a0), (eSi64 r82.1), (eSi64 x65)]) (u := []) (r := (eSi64 r84)) rfl rfl (impl_prime_times_ok a0 r82.1 x65 r84 hr85) rfl ?_
      obtain ⟨r86, hr87, h⟩ := bind_some h
      refine a_call (args := [(i6 a0), (eSi64 x63), (eSi64 r84), (i6 (-1))]) (u := []) (r := (eSi64 r86)) rfl rfl (impl_prime_combine_ok a0 x63 r84 (-1) r86 hr87) rfl (vp (eSi64 x65) rfl (vp (eSi64 r86) rfl (nx ⟨[(0, (i6 a0)), (1, (eSi64 x62)), (2, (eSi64 r82.2)), (9, (eSi64 x65)), (10, (eSi64 x64)), (11, (eSi64 r86)), (12, (eSi64 x66)), (13, (eSi64 r82.1))], []⟩ (by kernel_rfl) (a_region (vp (eSi64 x66) rfl (vp (i6 a0) rfl (vp (eSi64 x64) rfl (vp (i6 a0) rfl (vp (eSi64 r82.1) rfl ?_)))))))))
      refine vp (eSi64 x66) rfl ?_
      obtain ⟨r88, hr89, h⟩ := bind_some h
      refine a_call (args := [(i6 a0), (eSi64 r82.1), (eSi64 x66)]) (u := []) (r := (eSi64 r88)) rfl rfl (impl_prime_times_ok a0 r82.1 x66 r88 hr89) rfl ?_
      obtain ⟨r90, hr91, h⟩ := bind_some h
      refine a_call (args := [(i6 a0), (eSi64 x64), (eSi64 r88), (i6 (-1))]) (u := []) (r := (eSi64 r90)) rfl rfl (impl_prime_combine_ok a0 x64 r88 (-1) r90 hr91) rfl (vp (eSi64 x66) rfl (vp (eSi64 r90) rfl (a_nil (b_norm ?_))))
      cases h
      exact a_again (by kernel_rfl) hX80
def impl_prime_gcd_c : ACode := (.seq (.region 0 [q 6 (.asg 1 (.const (.slice none 0 0)) 40)] false) (.seq (.region 1 [q 11 (.mov (t 0)), q 12 (.mov (t 1)), q 13 (.mov (t 2)), q 14 (.call 0 (.func 82) [(t 11), (t 12), (t 13)]), q 10 (.mov (t 14)), q 15 (.extract (t 10) 0), q 16 (.extract (t 10) 1), q 17 (.extract (t 10) 2), q 7 (.asg 1 (t 15) 40), q 8 (.asg 1 (t 16) 40), q 9 (.asg 1 (t 17) 40)] false) (.seq (.region 2 [q 18 (.mov (t 7)), q 6 (.asg 1 (t 18) 40)] false) .ret)))
def impl_prime_gcd_L : Live := [(0, [0, 1, 2]), (1, [0, 1, 2]), (2, [7])]
noncomputable def impl_prime_gcd (a0 : Int) (a1 : (List Int)) (a2 : (List Int)) : Option (List Int) :=
  (Option.bind (impl_prime_bezout a0 a1 a2) fun r1 => (some r1.1))
theorem impl_prime_gcd_ok (a0 : Int) (a1 : (List Int)) (a2 : (List Int)) (r : (List Int)) (h : impl_prime_gcd a0 a1 a2 = some r) : Den Tryz.prog 68 [(i6 a0), (eSi64 a1), (eSi64 a2)] { r := (eSi64 r) } := by
  refine den_of (rs := [(eSi64 r)]) (ac := impl_prime_gcd_c) (L := impl_prime_gcd_L) (n := 19) (m := [(6, 1), (7, 1), (8, 1), (9, 1)]) (c := Tryz.f68.body.getD .skip) good Tryz.func68 (by kernel_rfl) (by kernel_rfl) Tryz.ntmps68 rfl rfl (by kernel_rfl) rfl rfl ?_
  refine a_st (σ' := ⟨[(0, (i6 a0)), (1, (eSi64 a1)), (2, (eSi64 a2))], []⟩) (by kernel_rfl) ?_
  unfold impl_prime_gcd_c
  refine sr (vp (eSi64 ([])) rfl (nx ⟨[(0, (i6 a0)), (1, (eSi64 a1)), (2, (eSi64 a2))], []⟩ (by kernel_rfl) (sr (vp (i6 a0) rfl (vp (eSi64 a1) rfl (vp (eSi64 a2) rfl ?_))))))
  obtain ⟨r1, hr2, h⟩ := bind_some h
  refine a_call (args := [(i6 a0), (eSi64 a1), (eSi64 a2)]) (u := []) (r := (.tuple [(eSi64 r1.1), (eSi64 r1.2.1), (eSi64 r1.2.2)])) rfl rfl (impl_prime_bezout_ok a0 a1 a2 r1 hr2) rfl (vp (.tuple [(eSi64 r1.1), (eSi64 r1.2.1), (eSi64 r1.2.2)]) rfl (vb (eSi64 r1.1) rfl rfl (vb (eSi64 r1.2.1) rfl rfl (vb (eSi64 r1.2.2) rfl rfl (vp (eSi64 r1.1) rfl (vp (eSi64 r1.2.1) rfl (vp (eSi64 r1.2.2) rfl (nx ⟨[(7, (eSi64 r1.1))], []⟩ (by kernel_rfl) (sr ?_)))))))))
  refine vp (eSi64 r1.1) rfl (vp (eSi64 r1.1) rfl (nx _ rfl (a_ret ?_)))
  refine ⟨.inr rfl, ?_⟩
  rw [Tryz.results68]
  cases h
  exact ⟨_, _, _, _, _, rfl, trivial, .inl ⟨rfl, .inl rfl⟩, rfl, rfl⟩
def impl_prime_norm_c : ACode := (.seq (.region 0 [q 6 (.asg 0 (.const (.int .i64 0)) 2)] false) (.seq (.region 1 [q 7 (.asg 0 (.const (.int .i64 1)) 2)] false) (.seq (.seq (.region 2 [q 8 (.mov (t 1)), q 9 (.mov (.const (.int .i64 0)))] false) (.block 0 (.loop (.seq (.region 3 [q 10 (.bin .lss 2 (t 9) (t 8))] false) (.seq (.cond (t 10) .skip (.exit 0)) (.seq (.block 1 (.seq (.seq (.region 4 [q 11 (.mov (t 7)), q 12 (.mov (t 2)), q 13 (.bin .gtr 2 (t 11) (t 12))] false) (.cond (t 13) (.exit 0) .skip)) (.region 5 [q 14 (.mov (t 7)), q 15 (.mov (t 0)), q 16 (.bin .mul 2 (t 14) (t 15)), q 7 (.asg 0 (t 16) 2)] false))) (.region 6 [q 17 (.bin .add 2 (t 9) (.const (.int .i64 1))), q 9 (.mov (t 17))] false))))))) (.seq (.region 7 [q 18 (.mov (t 7)), q 6 (.asg 0 (t 18) 2)] false) .ret))))
def impl_prime_norm_L : Live := [(0, [0, 1, 2]), (1, [0, 1, 2]), (2, [0, 1, 2, 7]), (3, [0, 2, 7, 8, 9]), (4, [0, 2, 7, 8, 9]), (5, [0, 2, 7, 8, 9]), (6, [0, 2, 7, 8, 9]), (7, [7]), (100010, [0, 2, 7, 8, 9, 10]), (100013, [0, 2, 7, 8, 9, 13])]
noncomputable def impl_prime_norm_l1 (a1 : Int) (a2 : Int) (a0 : Int) (x19 : Int) (x20 : Int) : Option ((Int × Int) ⊕ Int) :=
  (if (decide (x20 < a1)) then (if (decide (x19 > a2)) then (some (.inr x19)) else (some (.inl ((IntKind.i64.wrap (x19 * a0), IntKind.i64.wrap (x20 + 1)))))) else (some (.inr x19)))
noncomputable def impl_prime_norm (a0 : Int) (a1 : Int) (a2 : Int) : Option Int :=
  (Option.bind (α := Int) ((loopM (fun s : (Int × Int) => impl_prime_norm_l1 a1 a2 a0 s.1 s.2) (1, 0))) fun x13 => (some x13))
theorem impl_prime_norm_ok (a0 : Int) (a1 : Int) (a2 : Int) (r : Int) (h : impl_prime_norm a0 a1 a2 = some r) : Den Tryz.prog 83 [(i6 a0), (i6 a1), (i6 a2)] { r := (i6 r) } := by
  refine den_of (rs := [(i6 r)]) (ac := impl_prime_norm_c) (L := impl_prime_norm_L) (n := 19) (m := []) (c := Tryz.f83.body.getD .skip) good Tryz.func83 (by kernel_rfl) (by kernel_rfl) Tryz.ntmps83 rfl rfl (by kernel_rfl) rfl rfl ?_
  refine a_st (σ' := ⟨[(0, (i6 a0)), (1, (i6 a1)), (2, (i6 a2))], []⟩) (by kernel_rfl) ?_
  unfold impl_prime_norm_c
  refine sr (vp (i6 0) rfl (nx ⟨[(0, (i6 a0)), (1, (i6 a1)), (2, (i6 a2))], []⟩ (by kernel_rfl) (sr (vp (i6 1) rfl (nx ⟨[(0, (i6 a0)), (1, (i6 a1)), (2, (i6 a2)), (7, (i6 1))], []⟩ (by kernel_rfl) ?_)))))
  obtain ⟨y14, hy15, hk16⟩ := bind_some h
  clear h
  refine a_join (emb := fun (s : Int) => ⟨[(7, (i6 s))], []⟩) (pre := fun s => s = y14) ?_ ?_
  · rintro x13 rfl
    have h := hk16
    refine a_st (σ' := ⟨[(7, (i6 x13))], []⟩) (by kernel_rfl) (sr (vp (i6 x13) rfl (vp (i6 x13) rfl (nx _ rfl (a_ret ?_)))))
    refine ⟨.inr rfl, ?_⟩
    rw [Tryz.results83]
    cases h
    exact ⟨_, _, _, _, _, rfl, trivial, .inl ⟨rfl, .inl rfl⟩, rfl, rfl⟩
  · have h := hy15
    refine sr (vp (i6 a1) rfl (vp (i6 0) rfl (nx ⟨[(0, (i6 a0)), (2, (i6 a2)), (7, (i6 1)), (8, (i6 a1)), (9, (i6 0))], []⟩ (by kernel_rfl) (a_block ?_))))
    refine a_loop (emb := fun (s : (Int × Int)) => ⟨[(0, (i6 a0)), (2, (i6 a2)), (7, (i6 s.1)), (8, (i6 a1)), (9, (i6 s.2))], []⟩) (body := (fun s : (Int × Int) => impl_prime_norm_l1 a1 a2 a0 s.1 s.2)) (G := fun q => some q = some y14) h rfl ?_ (by kernel_rfl)
    rintro X23 ⟨x19, x20⟩ x24 h hX25
    have h : impl_prime_norm_l1 a1 a2 a0 x19 x20 = some x24 := h
    refine a_st (σ' := ⟨[(0, (i6 a0)), (2, (i6 a2)), (7, (i6 x19)), (8, (i6 a1)), (9, (i6 x20))], []⟩) (by kernel_rfl) (sr (vp (.bool ((decide (x20 < a1)))) rfl (nx ⟨[(0, (i6 a0)), (2, (i6 a2)), (7, (i6 x19)), (8, (i6 a1)), (9, (i6 x20)), (10, (.bool ((decide (x20 < a1)))))], []⟩ (by kernel_rfl) (a_seq ?_))))
    cases hb26 : (decide (x20 < a1))
    · have h := ite_f hb26 h
      refine a_cond_f rfl (a_exit (t_exit ?_))
      cases h
      have h := hX25
      refine t_exit (b_exit ?_)
      exact j_leaf x19 (Option.some.inj h) (by kernel_rfl)
    · have h := ite_t hb26 h
      refine a_cond_t rfl (a_skip (a_next (σ' := ⟨[(0, (i6 a0)), (2, (i6 a2)), (7, (i6 x19)), (8, (i6 a1)), (9, (i6 x20))], []⟩) (by kernel_rfl) (a_seq (a_block (a_seq (sr (vp (i6 x19) rfl (vp (i6 a2) rfl (vp (.bool ((decide (x19 > a2)))) rfl ?_)))))))))
      refine nx ⟨[(0, (i6 a0)), (2, (i6 a2)), (7, (i6 x19)), (8, (i6 a1)), (9, (i6 x20)), (13, (.bool ((decide (x19 > a2)))))], []⟩ (by kernel_rfl) ?_
      cases hb27 : (decide (x19 > a2))
      · have h := ite_f hb27 h
        refine a_cond_f rfl (a_skip (a_next (σ' := ⟨[(0, (i6 a0)), (2, (i6 a2)), (7, (i6 x19)), (8, (i6 a1)), (9, (i6 x20))], []⟩) (by kernel_rfl) (a_region (vp (i6 x19) rfl (vp (i6 a0) rfl (vp (i6 (IntKind.i64.wrap (x19 * a0))) rfl (vp (i6 (IntKind.i64.wrap (x19 * a0))) rfl (a_nil (b_norm ?_)))))))))
        refine a_next (σ' := ⟨[(0, (i6 a0)), (2, (i6 a2)), (7, (i6 (IntKind.i64.wrap (x19 * a0)))), (8, (i6 a1)), (9, (i6 x20))], []⟩) (by kernel_rfl) (a_region (vp (i6 (IntKind.i64.wrap (x20 + 1))) rfl (vp (i6 (IntKind.i64.wrap (x20 + 1))) rfl (a_nil ?_))))
        cases h
        exact a_again (by kernel_rfl) hX25
      · have h := ite_t hb27 h
        refine a_cond_t rfl (a_exit (t_exit (b_other rfl (t_exit ?_))))
        cases h
        have h := hX25
        refine t_exit (b_exit ?_)
        exact j_leaf x19 (Option.some.inj h) (by kernel_rfl)
def impl_prime_numbered_c : ACode := (.seq (.region 0 [q 4 (.asg 1 (.const (.slice none 0 0)) 40)] false) (.seq (.region 1 [q 5 (.asg 2 (.const (.slice none 0 0)) 40)] false) (.seq (.block 0 (.loop (.seq (.seq (.region 2 [q 6 (.mov (t 1)), q 7 (.bin .gtr 2 (t 6) (.const (.int .i64 0)))] false) (.cond (t 7) .skip (.exit 0))) (.seq (.block 1 (.region 4 [q 11 (.mov (t 5)), q 12 (.mov (t 1)), q 13 (.mov (t 0)), q 14 (.bin .rem 2 (t 12) (t 13)), q 15 (.bslice 0 40 1 [(0, (t 14))]), q 16 (.blt 0 .append [(t 11), (t 15)] [40, 40]), q 5 (.asg 2 (t 16) 40)] false)) (.region 3 [q 8 (.mov (t 1)), q 9 (.mov (t 0)), q 10 (.bin .quo 2 (t 8) (t 9)), q 1 (.asg 0 (t 10) 2)] false))))) (.seq (.region 5 [q 17 (.mov (t 5)), q 4 (.asg 1 (t 17) 40)] false) .ret))))
def impl_prime_numbered_L : Live := [(0, [0, 1]), (1, [0, 1]), (2, [0, 1, 5]), (3, [0, 1, 5]), (4, [0, 1, 5]), (5, [5]), (100007, [0, 1, 5, 7])]
noncomputable def impl_prime_numbered_l1 (a0 : Int) (x27 : Int) (x28 : (List Int)) : Option ((Int × (List Int)) ⊕ (List Int)) :=
  (if (decide (x27 > 0)) then (ifp (a0 ≠ 0) ((ifp ((x28.length + ([Int.tmod x27 a0] : List Int).length) * 8 ≤ 140737488355328) ((ifp (a0 ≠ 0) ((some (.inl ((IntKind.i64.wrap (Int.tdiv x27 a0), (x28 ++ ([Int.tmod x27 a0])))))))))))) else (some (.inr x28)))
noncomputable def impl_prime_numbered (a0 : Int) (a1 : Int) : Option (List Int) :=
  (Option.bind (α := (List Int)) ((loopM (fun s : (Int × (List Int)) => impl_prime_numbered_l1 a0 s.1 s.2) (a1, []))) fun x19 => (some x19))
theorem impl_prime_numbered_ok (a0 : Int) (a1 : Int) (r : (List Int)) (h : impl_prime_numbered a0 a1 = some r) : Den Tryz.prog 84 [(i6 a0), (i6 a1)] { r := (eSi64 r) } := by
  refine den_of (rs := [(eSi64 r)]) (ac := impl_prime_numbered_c) (L := impl_prime_numbered_L) (n := 18) (m := [(4, 1), (5, 2)]) (c := Tryz.f84.body.getD .skip) good Tryz.func84 (by kernel_rfl) (by kernel_rfl) Tryz.ntmps84 rfl rfl (by kernel_rfl) rfl rfl ?_
  refine a_st (σ' := ⟨[(0, (i6 a0)), (1, (i6 a1))], []⟩) (by kernel_rfl) ?_
  unfold impl_prime_numbered_c
  refine sr (vp (eSi64 ([])) rfl (nx ⟨[(0, (i6 a0)), (1, (i6 a1))], []⟩ (by kernel_rfl) (sr (vu (.osl 1500) [(1500, (bk (.row 1 (([]).map (AV.int .i64)))))] rfl trivial rfl (nx ⟨[(0, (i6 a0)), (1, (i6 a1)), (5, (.osl 5))], [(5, (bk (.row 1 (([]).map (AV.int .i64)))))]⟩ (by kernel_rfl) ?_)))))
  obtain ⟨y20, hy21, hk22⟩ := bind_some h
  clear h
  refine a_join (emb := fun (s : (List Int)) => ⟨[(5, (.osl 5))], [(5, (bk (.row 1 (s.map (AV.int .i64)))))]⟩) (pre := fun s => s = y20) ?_ ?_
  · rintro x19 rfl
    have h := hk22
    refine a_st (σ' := ⟨[(5, (.osl 5))], [(5, (bk (.row 1 (x19.map (AV.int .i64)))))]⟩) (by kernel_rfl) (sr (vp (.osl 5) rfl (vu (eSi64 x19) [(5, (bf (.row 1 (x19.map (AV.int .i64)))))] rfl trivial rfl (nx _ rfl (a_ret ?_)))))
    refine ⟨.inr rfl, ?_⟩
    rw [Tryz.results84]
    cases h
    exact ⟨_, _, _, _, _, rfl, trivial, .inl ⟨rfl, .inl rfl⟩, rfl, rfl⟩
  · have h := hy21
    refine a_block ?_
    refine a_loop (emb := fun (s : (Int × (List Int))) => ⟨[(0, (i6 a0)), (1, (i6 s.1)), (5, (.osl 5))], [(5, (bk (.row 1 (s.2.map (AV.int .i64)))))]⟩) (body := (fun s : (Int × (List Int)) => impl_prime_numbered_l1 a0 s.1 s.2)) (G := fun q => some q = some y20) h rfl ?_ (by kernel_rfl)
    rintro X33 ⟨x27, x28⟩ x34 h hX35
    have h : impl_prime_numbered_l1 a0 x27 x28 = some x34 := h
    refine a_st (σ' := ⟨[(0, (i6 a0)), (1, (i6 x27)), (5, (.osl 5))], [(5, (bk (.row 1 (x28.map (AV.int .i64)))))]⟩) (by kernel_rfl) (a_seq (sr (vp (i6 x27) rfl (vp (.bool ((decide (x27 > 0)))) rfl (nx ⟨[(0, (i6 a0)), (1, (i6 x27)), (5, (.osl 5)), (7, (.bool ((decide (x27 > 0)))))], [(5, (bk (.row 1 (x28.map (AV.int .i64)))))]⟩ (by kernel_rfl) ?_)))))
    cases hb36 : (decide (x27 > 0))
    · have h := ite_f hb36 h
      refine a_cond_f rfl (a_exit (t_exit ?_))
      cases h
      have h := hX35
      refine t_exit (b_exit ?_)
      exact j_leaf x28 (Option.some.inj h) (by kernel_rfl)
    · have h := ite_t hb36 h
      refine a_cond_t rfl (a_skip (a_next (σ' := ⟨[(0, (i6 a0)), (1, (i6 x27)), (5, (.osl 5))], [(5, (bk (.row 1 (x28.map (AV.int .i64)))))]⟩) (by kernel_rfl) (a_seq (a_block (a_region (vp (.osl 5) rfl (vp (i6 x27) rfl (vp (i6 a0) rfl ?_))))))))
      obtain ⟨hc37, h⟩ := ifp_some h
      refine vq (i6 (Int.tmod x27 a0)) rfl hc37 (vq (.sl 1 true (([Int.tmod x27 a0]).map (AV.int .i64))) rfl ⟨(Nat.le_of_ble_eq_true rfl), (Nat.le_of_ble_eq_true rfl), (all_cons ⟨(Nat.le_of_ble_eq_true rfl), rfl⟩ all_nil)⟩ ?_)
      obtain ⟨hc38, h⟩ := ifp_some h
      refine vu (.osl 2600) [(2600, (bk (.row 1 (((x28 ++ ([Int.tmod x27 a0]))).map (AV.int .i64))))), (5, none)] (app_run (i := ⟨.int .i64, 1, 8, (.int .i64 0)⟩) (f := (AV.int .i64)) (l := x28) (l2 := [Int.tmod x27 a0]) rfl rfl rfl rfl (fun _ => rfl) rfl rfl) (app_c (f := (AV.int .i64)) (s := 1) (sz := 1) (by' := 8) (u := []) (id := 5) hc38 (.inr rfl) rfl rfl rfl) rfl (vp (.osl 2600) rfl (a_nil (b_norm (a_next (σ' := ⟨[(0, (i6 a0)), (1, (i6 x27)), (5, (.osl 5))], [(5, (bk (.row 1 (((x28 ++ ([Int.tmod x27 a0]))).map (AV.int .i64)))))]⟩) (by kernel_rfl) (a_region (vp (i6 x27) rfl (vp (i6 a0) rfl ?_)))))))
      obtain ⟨hc39, h⟩ := ifp_some h
      refine vq (i6 (IntKind.i64.wrap (Int.tdiv x27 a0))) rfl hc39 (vp (i6 (IntKind.i64.wrap (Int.tdiv x27 a0))) rfl (a_nil ?_))
      cases h
      exact a_again (by kernel_rfl) hX35
def impl_prime_withDegree_c : ACode := (.seq (.region 0 [q 6 (.asg 1 (.const (.slice none 0 0)) 40)] false) (.seq (.seq (.region 1 [q 10 (.mov (t 1)), q 11 (.call 0 (.func 37) [(t 10)]), q 12 (.mov (t 2)), q 13 (.bin .eql 2 (t 11) (t 12))] false) (.cond (t 13) (.seq (.region 2 [q 14 (.mov (t 0)), q 15 (.mov (t 1)), q 16 (.mov (t 0)), q 17 (.mov (t 1)), q 18 (.call 0 (.func 53) [(t 17)]), q 19 (.call 0 (.func 65) [(t 16), (t 18)]), q 20 (.call 0 (.func 64) [(t 14), (t 15), (t 19)]), q 6 (.asg 1 (t 20) 40)] false) .ret) .skip)) (.seq (.region 3 [q 21 (.mov (t 0)), q 22 (.mov (t 2)), q 23 (.call 0 (.func 83) [(t 21), (t 22), (.const (.int .i64 1099511627776))]), q 7 (.asg 0 (t 23) 2)] false) (.seq (.seq (.region 4 [q 24 (.mov (t 7)), q 8 (.asg 0 (t 24) 2)] false) (.block 0 (.loop (.seq (.seq (.region 5 [q 25 (.mov (t 8)), q 26 (.mov (t 7)), q 27 (.bin .mul 2 (.const (.int .i64 2)) (t 26)), q 28 (.bin .lss 2 (t 25) (t 27))] false) (.cond (t 28) .skip (.exit 0))) (.seq (.block 1 (.seq (.region 7 [q 31 (.mov (t 0)), q 32 (.mov (t 8)), q 33 (.call 0 (.func 84) [(t 31), (t 32)]), q 9 (.asg 1 (t 33) 40)] false) (.seq (.region 8 [q 34 (.mov (t 0)), q 35 (.mov (t 1)), q 36 (.mov (t 9)), q 37 (.call 0 (.func 80) [(t 34), (t 35), (t 36)]), q 38 (.blt 0 .len [(t 37)] [40]), q 39 (.bin .eql 3 (t 38) (.const (.int .i64 0)))] false) (.cond (t 39) (.seq (.region 9 [q 40 (.mov (t 9)), q 6 (.asg 1 (t 40) 40)] false) .ret) .skip)))) (.region 6 [q 29 (.mov (t 8)), q 30 (.bin .add 2 (t 29) (.const (.int .i64 1))), q 8 (.asg 0 (t 30) 2)] false)))))) (.seq (.region 10 [q 41 (.mov (t 1)), q 6 (.asg 1 (t 41) 40)] false) .ret)))))
def impl_prime_withDegree_L : Live := [(0, [0, 1, 2]), (1, [0, 1, 2]), (2, [0, 1]), (3, [0, 1, 2]), (4, [0, 1, 7]), (5, [0, 1, 7, 8]), (6, [0, 1, 7, 8]), (7, [0, 1, 7, 8]), (8, [0, 1, 7, 8, 9]), (9, [9]), (10, [1]), (100013, [0, 1, 2, 13]), (100028, [0, 1, 7, 8, 28]), (100039, [0, 1, 7, 8, 9, 39])]
noncomputable def impl_prime_withDegree_l1 (r4 : Int) (a0 : Int) (a1 : (List Int)) (x38 : Int) : Option (Int ⊕ (Unit ⊕ (List Int))) :=
  (if (decide (x38 < (IntKind.i64.wrap (2 * r4)))) then (Option.bind (impl_prime_numbered a0 x38) fun r49 => (Option.bind (impl_prime_rest a0 a1 r49) fun r51 => (if ((r51.length : Int) == 0) then (some (.inr (.inr r49))) else (some (.inl (IntKind.i64.wrap (x38 + 1))))))) else (some (.inr (((.inl ()))))))
noncomputable def impl_prime_withDegree (a0 : Int) (a1 : (List Int)) (a2 : Int) : Option (List Int) :=
  (Option.bind (impl_row_degree a1) fun r1 => (if (r1 == a2) then (Option.bind (impl_row_lead a1) fun r56 => (Option.bind (impl_prime_inverse a0 r56) fun r58 => (Option.bind (impl_prime_scale a0 a1 r58) fun r60 => (some r60)))) else (Option.bind (impl_prime_norm a0 a2 1099511627776) fun r4 => (Option.bind (α := (Unit ⊕ (List Int))) ((loopM (fun s : Int => impl_prime_withDegree_l1 r4 a0 a1 s) r4)) fun z => match z with | .inl _ => (some a1) | .inr r55 => (some r55)))))
theorem impl_prime_withDegree_ok (a0 : Int) (a1 : (List Int)) (a2 : Int) (r : (List Int)) (h : impl_prime_withDegree a0 a1 a2 = some r) : Den Tryz.prog 69 [(i6 a0), (eSi64 a1), (i6 a2)] { r := (eSi64 r) } := by
  refine den_of (rs := [(eSi64 r)]) (ac := impl_prime_withDegree_c) (L := impl_prime_withDegree_L) (n := 42) (m := [(6, 1), (9, 1)]) (c := Tryz.f69.body.getD .skip) good Tryz.func69 (by kernel_rfl) (by kernel_rfl) Tryz.ntmps69 rfl rfl (by kernel_rfl) rfl rfl ?_
  refine a_st (σ' := ⟨[(0, (i6 a0)), (1, (eSi64 a1)), (2, (i6 a2))], []⟩) (by kernel_rfl) ?_
  unfold impl_prime_withDegree_c
  refine sr (vp (eSi64 ([])) rfl (nx ⟨[(0, (i6 a0)), (1, (eSi64 a1)), (2, (i6 a2))], []⟩ (by kernel_rfl) (a_seq (sr (vp (eSi64 a1) rfl ?_)))))
  obtain ⟨r1, hr2, h⟩ := bind_some h
  refine a_call (args := [(eSi64 a1)]) (u := []) (r := (i6 r1)) rfl rfl (impl_row_degree_ok a1 r1 hr2) rfl (vp (i6 a2) rfl (vp (.bool (r1 == a2)) rfl (nx ⟨[(0, (i6 a0)), (1, (eSi64 a1)), (2, (i6 a2)), (13, (.bool (r1 == a2)))], []⟩ (by kernel_rfl) ?_)))
  cases hb3 : (r1 == a2)
  · have h := ite_f hb3 h
    refine a_cond_f rfl (a_skip (a_next (σ' := ⟨[(0, (i6 a0)), (1, (eSi64 a1)), (2, (i6 a2))], []⟩) (by kernel_rfl) (sr (vp (i6 a0) rfl (vp (i6 a2) rfl ?_)))))
    obtain ⟨r4, hr5, h⟩ := bind_some h
    refine a_call (args := [(i6 a0), (i6 a2), (i6 1099511627776)]) (u := []) (r := (i6 r4)) rfl rfl (impl_prime_norm_ok a0 a2 1099511627776 r4 hr5) rfl (vp (i6 r4) rfl (nx ⟨[(0, (i6 a0)), (1, (eSi64 a1)), (7, (i6 r4))], []⟩ (by kernel_rfl) ?_))
    obtain ⟨y29, hy30, hk31⟩ := bind_some h
    clear h
    refine a_join (emb := fun (s : Unit) => ⟨[(1, (eSi64 a1))], []⟩) (pre := fun s => (.inl s) = y29) ?_ ?_
    · rintro _ rfl
      have h := hk31
      refine a_st (σ' := ⟨[(1, (eSi64 a1))], []⟩) (by kernel_rfl) (sr (vp (eSi64 a1) rfl (vp (eSi64 a1) rfl (nx _ rfl (a_ret ?_)))))
      refine ⟨.inr rfl, ?_⟩
      rw [Tryz.results69]
      cases h
      exact ⟨_, _, _, _, _, rfl, trivial, .inl ⟨rfl, .inl rfl⟩, rfl, rfl⟩
    · have h := hy30
      refine sr (vp (i6 r4) rfl (vp (i6 r4) rfl (nx ⟨[(0, (i6 a0)), (1, (eSi64 a1)), (7, (i6 r4)), (8, (i6 r4))], []⟩ (by kernel_rfl) (a_block ?_))))
      refine a_loop (emb := fun (s : Int) => ⟨[(0, (i6 a0)), (1, (eSi64 a1)), (7, (i6 r4)), (8, (i6 s))], []⟩) (body := (fun s : Int => impl_prime_withDegree_l1 r4 a0 a1 s)) (G := fun q => some q = some y29) h rfl ?_ (by kernel_rfl)
      rintro X45 x38 x46 h hX47
      have h : impl_prime_withDegree_l1 r4 a0 a1 x38 = some x46 := h
      refine a_st (σ' := ⟨[(0, (i6 a0)), (1, (eSi64 a1)), (7, (i6 r4)), (8, (i6 x38))], []⟩) (by kernel_rfl) (a_seq (sr (vp (i6 x38) rfl (vp (i6 r4) rfl (vp (i6 (IntKind.i64.wrap (2 * r4))) rfl (vp (.bool ((decide (x38 < (IntKind.i64.wrap (2 * r4)))))) rfl (nx ⟨[(0, (i6 a0)), (1, (eSi64 a1)), (7, (i6 r4)), (8, (i6 x38)), (28, (.bool ((decide (x38 < (IntKind.i64.wrap (2 * r4)))))))], []⟩ (by kernel_rfl) ?_)))))))
      cases hb48 : (decide (x38 < (IntKind.i64.wrap (2 * r4))))
      · have h := ite_f hb48 h
        refine a_cond_f rfl (a_exit (t_exit ?_))
        cases h
        have h := hX47
        refine t_exit (b_exit ?_)
        exact j_leaf () (Option.some.inj h) (by kernel_rfl)
      · have h := ite_t hb48 h
        refine a_cond_t rfl (a_skip (a_next (σ' := ⟨[(0, (i6 a0)), (1, (eSi64 a1)), (7, (i6 r4)), (8, (i6 x38))], []⟩) (by kernel_rfl) (a_seq (a_block (sr (vp (i6 a0) rfl (vp (i6 x38) rfl ?_)))))))
        obtain ⟨r49, hr50, h⟩ := bind_some h
        refine a_call (args := [(i6 a0), (i6 x38)]) (u := []) (r := (eSi64 r49)) rfl rfl (impl_prime_numbered_ok a0 x38 r49 hr50) rfl (vp (eSi64 r49) rfl (nx ⟨[(0, (i6 a0)), (1, (eSi64 a1)), (7, (i6 r4)), (8, (i6 x38)), (9, (eSi64 r49))], []⟩ (by kernel_rfl) (sr (vp (i6 a0) rfl (vp (eSi64 a1) rfl (vp (eSi64 r49) rfl ?_))))))
        obtain ⟨r51, hr52, h⟩ := bind_some h
        refine a_call (args := [(i6 a0), (eSi64 a1), (eSi64 r49)]) (u := []) (r := (eSi64 r51)) rfl rfl (impl_prime_rest_ok a0 a1 r49 r51 hr52) rfl (vq (i6 (r51.length : Int)) (len_run rfl rfl) trivial (vp (.bool (((r51.length : Int) == 0))) rfl (nx ⟨[(0, (i6 a0)), (1, (eSi64 a1)), (7, (i6 r4)), (8, (i6 x38)), (9, (eSi64 r49)), (39, (.bool (((r51.length : Int) == 0))))], []⟩ (by kernel_rfl) ?_)))
        cases hb53 : ((r51.length : Int) == 0)
        · have h := ite_f hb53 h
          refine a_cond_f rfl (a_skip (b_norm (a_next (σ' := ⟨[(0, (i6 a0)), (1, (eSi64 a1)), (7, (i6 r4)), (8, (i6 x38))], []⟩) (by kernel_rfl) (a_region (vp (i6 x38) rfl (vp (i6 (IntKind.i64.wrap (x38 + 1))) rfl (vp (i6 (IntKind.i64.wrap (x38 + 1))) rfl (a_nil ?_))))))))
          cases h
          exact a_again (by kernel_rfl) hX47
        · have h := ite_t hb53 h
          refine a_cond_t rfl (sr (vp (eSi64 r49) rfl (vp (eSi64 r49) rfl (nx _ rfl (a_ret (b_ret (t_ret ?_)))))))
          cases h
          have h := hX47
          refine t_ret (b_ret (t_ret ?_))
          cases h
          have h := hk31
          refine ⟨.inr rfl, ?_⟩
          rw [Tryz.results69]
          cases h
          exact ⟨_, _, _, _, _, rfl, trivial, .inl ⟨rfl, .inl rfl⟩, rfl, rfl⟩
  · have h := ite_t hb3 h
    refine a_cond_t rfl (sr (vp (i6 a0) rfl (vp (eSi64 a1) rfl (vp (i6 a0) rfl (vp (eSi64 a1) rfl ?_)))))
    obtain ⟨r56, hr57, h⟩ := bind_some h
    refine a_call (args := [(eSi64 a1)]) (u := []) (r := (i6 r56)) rfl rfl (impl_row_lead_ok a1 r56 hr57) rfl ?_
    obtain ⟨r58, hr59, h⟩ := bind_some h
    refine a_call (args := [(i6 a0), (i6 r56)]) (u := []) (r := (i6 r58)) rfl rfl (impl_prime_inverse_ok a0 r56 r58 hr59) rfl ?_
    obtain ⟨r60, hr61, h⟩ := bind_some h
    refine a_call (args := [(i6 a0), (eSi64 a1), (i6 r58)]) (u := []) (r := (eSi64 r60)) rfl rfl (impl_prime_scale_ok a0 a1 r58 r60 hr61) rfl (vp (eSi64 r60) rfl (nx _ rfl (a_ret (t_ret ?_))))
    refine ⟨.inr rfl, ?_⟩
    rw [Tryz.results69]
    cases h
    exact ⟨_, _, _, _, _, rfl, trivial, .inl ⟨rfl, .inl rfl⟩, rfl, rfl⟩
def impl_prime_strip_c : ACode := (.seq (.region 0 [q 6 (.asg 1 (.const (.slice none 0 0)) 40), q 7 (.asg 0 (.const (.int .i64 0)) 2)] false) (.seq (.region 1 [q 8 (.asg 0 (.const (.int .i64 0)) 2)] false) (.block 0 (.loop (.block 1 (.seq (.region 2 [q 12 (.mov (t 0)), q 13 (.mov (t 1)), q 14 (.mov (t 2)), q 15 (.call 0 (.func 85) [(t 12), (t 13), (t 14)]), q 11 (.mov (t 15)), q 16 (.extract (t 11) 0), q 17 (.extract (t 11) 1), q 9 (.asg 1 (t 16) 40), q 10 (.asg 1 (t 17) 40)] false) (.seq (.seq (.region 3 [q 18 (.mov (t 10)), q 19 (.blt 0 .len [(t 18)] [40]), q 20 (.bin .gtr 3 (t 19) (.const (.int .i64 0)))] false) (.cond (t 20) (.seq (.region 4 [q 21 (.mov (t 1)), q 22 (.mov (t 8)), q 6 (.asg 1 (t 21) 40), q 7 (.asg 0 (t 22) 2)] false) .ret) .skip)) (.seq (.region 5 [q 23 (.mov (t 9)), q 1 (.asg 1 (t 23) 40)] false) (.region 6 [q 24 (.mov (t 8)), q 25 (.bin .add 2 (t 24) (.const (.int .i64 1))), q 8 (.asg 0 (t 25) 2)] false)))))))))
def impl_prime_strip_L : Live := [(0, [0, 1, 2]), (1, [0, 1, 2]), (2, [0, 1, 2, 8]), (3, [0, 1, 2, 8, 9, 10]), (4, [1, 8]), (5, [0, 2, 8, 9]), (6, [0, 1, 2, 8]), (100020, [0, 1, 2, 8, 9, 20])]
noncomputable def impl_prime_strip_l1 (a0 : Int) (a2 : (List Int)) (x4 : (List Int)) (x5 : Int) : Option (((List Int) × Int) ⊕ ((List Int) × Int)) :=
  (Option.bind (impl_prime_divide a0 x4 a2) fun r12 => (if (decide ((r12.2.length : Int) > 0)) then (some (.inr (x4, x5))) else (some (.inl ((r12.1, IntKind.i64.wrap (x5 + 1)))))))
noncomputable def impl_prime_strip (a0 : Int) (a1 : (List Int)) (a2 : (List Int)) : Option ((List Int) × Int) :=
  (loopM (fun s : ((List Int) × Int) => impl_prime_strip_l1 a0 a2 s.1 s.2) (a1, 0))
theorem impl_prime_strip_ok (a0 : Int) (a1 : (List Int)) (a2 : (List Int)) (r : ((List Int) × Int)) (h : impl_prime_strip a0 a1 a2 = some r) : Den Tryz.prog 70 [(i6 a0), (eSi64 a1), (eSi64 a2)] { r := (.tuple [(eSi64 r.1), (i6 r.2)]) } := by
  refine den_of (rs := [(eSi64 r.1), (i6 r.2)]) (ac := impl_prime_strip_c) (L := impl_prime_strip_L) (n := 26) (m := [(1, 1), (6, 1), (9, 1), (10, 1)]) (c := Tryz.f70.body.getD .skip) good Tryz.func70 (by kernel_rfl) (by kernel_rfl) Tryz.ntmps70 rfl rfl (by kernel_rfl) rfl rfl ?_
  refine a_st (σ' := ⟨[(0, (i6 a0)), (1, (eSi64 a1)), (2, (eSi64 a2))], []⟩) (by kernel_rfl) ?_
  unfold impl_prime_strip_c
  refine sr (vp (eSi64 ([])) rfl (vp (i6 0) rfl (nx ⟨[(0, (i6 a0)), (1, (eSi64 a1)), (2, (eSi64 a2))], []⟩ (by kernel_rfl) (sr (vp (i6 0) rfl (nx ⟨[(0, (i6 a0)), (1, (eSi64 a1)), (2, (eSi64 a2)), (8, (i6 0))], []⟩ (by kernel_rfl) (a_block ?_)))))))
  refine a_loop (emb := fun (s : ((List Int) × Int)) => ⟨[(0, (i6 a0)), (1, (eSi64 s.1)), (2, (eSi64 a2)), (8, (i6 s.2))], []⟩) (body := (fun s : ((List Int) × Int) => impl_prime_strip_l1 a0 a2 s.1 s.2)) (G := fun q => some q = some r) h rfl ?_ (by kernel_rfl)
  rintro X9 ⟨x4, x5⟩ x10 h hX11
  have h : impl_prime_strip_l1 a0 a2 x4 x5 = some x10 := h
  refine a_st (σ' := ⟨[(0, (i6 a0)), (1, (eSi64 x4)), (2, (eSi64 a2)), (8, (i6 x5))], []⟩) (by kernel_rfl) (a_block (sr (vp (i6 a0) rfl (vp (eSi64 x4) rfl (vp (eSi64 a2) rfl ?_)))))
  obtain ⟨r12, hr13, h⟩ := bind_some h
  refine a_call (args := [(i6 a0), (eSi64 x4), (eSi64 a2)]) (u := []) (r := (.tuple [(eSi64 r12.1), (eSi64 r12.2)])) rfl rfl (impl_prime_divide_ok a0 x4 a2 r12 hr13) rfl (vp (.tuple [(eSi64 r12.1), (eSi64 r12.2)]) rfl (vb (eSi64 r12.1) rfl rfl (vb (eSi64 r12.2) rfl rfl (vp (eSi64 r12.1) rfl (vp (eSi64 r12.2) rfl (nx ⟨[(0, (i6 a0)), (1, (eSi64 x4)), (2, (eSi64 a2)), (8, (i6 x5)), (9, (eSi64 r12.1)), (10, (eSi64 r12.2))], []⟩ (by kernel_rfl) (a_seq (sr (vp (eSi64 r12.2) rfl ?_)))))))))
  refine vq (i6 (r12.2.length : Int)) (len_run rfl rfl) trivial (vp (.bool ((decide ((r12.2.length : Int) > 0)))) rfl (nx ⟨[(0, (i6 a0)), (1, (eSi64 x4)), (2, (eSi64 a2)), (8, (i6 x5)), (9, (eSi64 r12.1)), (20, (.bool ((decide ((r12.2.length : Int) > 0)))))], []⟩ (by kernel_rfl) ?_))
  cases hb14 : (decide ((r12.2.length : Int) > 0))
  · have h := ite_f hb14 h
    refine a_cond_f rfl (a_skip (a_next (σ' := ⟨[(0, (i6 a0)), (2, (eSi64 a2)), (8, (i6 x5)), (9, (eSi64 r12.1))], []⟩) (by kernel_rfl) (sr (vp (eSi64 r12.1) rfl (vp (eSi64 r12.1) rfl (nx ⟨[(0, (i6 a0)), (1, (eSi64 r12.1)), (2, (eSi64 a2)), (8, (i6 x5))], []⟩ (by kernel_rfl) (a_region (vp (i6 x5) rfl (vp (i6 (IntKind.i64.wrap (x5 + 1))) rfl ?_)))))))))
    refine vp (i6 (IntKind.i64.wrap (x5 + 1))) rfl (a_nil (b_norm ?_))
    cases h
    exact a_again (by kernel_rfl) hX11
  · have h := ite_t hb14 h
    refine a_cond_t rfl (sr (vp (eSi64 x4) rfl (vp (i6 x5) rfl (vp (eSi64 x4) rfl (vp (i6 x5) rfl (nx _ rfl (a_ret (t_ret (b_ret ?_)))))))))
    cases h
    have h := hX11
    refine t_ret (b_ret ?_)
    refine ⟨.inr rfl, ?_⟩
    rw [Tryz.results70]
    cases h
    exact ⟨_, _, _, _, _, rfl, trivial, .inl ⟨rfl, .inl rfl⟩, rfl, ⟨_, _, _, _, _, rfl, trivial, .inl ⟨rfl, .inl rfl⟩, rfl, rfl⟩⟩
def math_bits_Len64_c : ACode := (.seq (.region 0 [q 2 (.asg 0 (.const (.int .i64 0)) 3)] false) (.seq (.seq (.region 1 [q 3 (.mov (t 0)), q 4 (.bin .geq 121 (t 3) (.const (.int .u64 4294967296)))] false) (.cond (t 4) (.seq (.region 2 [q 5 (.mov (t 0)), q 6 (.bin .shr 121 (t 5) (.const (.int .u64 32))), q 0 (.asg 0 (t 6) 121)] false) (.region 3 [q 2 (.asg 0 (.const (.int .i64 32)) 3)] false)) .skip)) (.seq (.seq (.region 4 [q 7 (.mov (t 0)), q 8 (.bin .geq 121 (t 7) (.const (.int .u64 65536)))] false) (.cond (t 8) (.seq (.region 5 [q 9 (.mov (t 0)), q 10 (.bin .shr 121 (t 9) (.const (.int .u64 16))), q 0 (.asg 0 (t 10) 121)] false) (.region 6 [q 11 (.mov (t 2)), q 12 (.bin .add 3 (t 11) (.const (.int .i64 16))), q 2 (.asg 0 (t 12) 3)] false)) .skip)) (.seq (.seq (.region 7 [q 13 (.mov (t 0)), q 14 (.bin .geq 121 (t 13) (.const (.int .u64 256)))] false) (.cond (t 14) (.seq (.region 8 [q 15 (.mov (t 0)), q 16 (.bin .shr 121 (t 15) (.const (.int .u64 8))), q 0 (.asg 0 (t 16) 121)] false) (.region 9 [q 17 (.mov (t 2)), q 18 (.bin .add 3 (t 17) (.const (.int .i64 8))), q 2 (.asg 0 (t 18) 3)] false)) .skip)) (.seq (.region 10 [q 19 (.mov (t 2)), q 20 (.mov (t 0)), q 21 (.conv 121 5 (t 20)), q 22 (.index 9 (.const (.string ⟨#[0, 1, 2, 2, 3, 3, 3, 3, 4, 4, 4, 4, 4, 4, 4, 4, 5, 5, 5, 5, 5, 5, 5, 5, 5, 5, 5, 5, 5, 5, 5, 5, 6, 6, 6, 6, 6, 6, 6, 6, 6, 6, 6, 6, 6, 6, 6, 6, 6, 6, 6, 6, 6, 6, 6, 6, 6, 6, 6, 6, 6, 6, 6, 6, 7, 7, 7, 7, 7, 7, 7, 7, 7, 7, 7, 7, 7, 7, 7, 7, 7, 7, 7, 7, 7, 7, 7, 7, 7, 7, 7, 7, 7, 7, 7, 7, 7, 7, 7, 7, 7, 7, 7, 7, 7, 7, 7, 7, 7, 7, 7, 7, 7, 7, 7, 7, 7, 7, 7, 7, 7, 7, 7, 7, 7, 7, 7, 7, 8, 8, 8, 8, 8, 8, 8, 8, 8, 8, 8, 8, 8, 8, 8, 8, 8, 8, 8, 8, 8, 8, 8, 8, 8, 8, 8, 8, 8, 8, 8, 8, 8, 8, 8, 8, 8, 8, 8, 8, 8, 8, 8, 8, 8, 8, 8, 8, 8, 8, 8, 8, 8, 8, 8, 8, 8, 8, 8, 8, 8, 8, 8, 8, 8, 8, 8, 8, 8, 8, 8, 8, 8, 8, 8, 8, 8, 8, 8, 8, 8, 8, 8, 8, 8, 8, 8, 8, 8, 8, 8, 8, 8, 8, 8, 8, 8, 8, 8, 8, 8, 8, 8, 8, 8, 8, 8, 8, 8, 8, 8, 8, 8, 8, 8, 8, 8, 8, 8, 8, 8, 8, 8, 8, 8, 8, 8, 8]⟩)) (t 21)), q 23 (.conv 5 3 (t 22)), q 24 (.bin .add 3 (t 19) (t 23)), q 2 (.asg 0 (t 24) 3)] false) .ret)))))
def math_bits_Len64_L : Live := [(0, [0]), (1, [0, 2]), (2, [0]), (3, [0]), (4, [0, 2]), (5, [0, 2]), (6, [0, 2]), (7, [0, 2]), (8, [0, 2]), (9, [0, 2]), (10, [0, 2]), (100004, [0, 2, 4]), (100008, [0, 2, 8]), (100014, [0, 2, 14])]
noncomputable def math_bits_Len64 (a0 : Int) : Option Int :=
  (if (decide (a0 ≥ 4294967296)) then none else (if (decide (a0 ≥ 65536)) then none else (if (decide (a0 ≥ 256)) then none else (ifp (0 ≤ IntKind.u8.wrap a0 ∧ IntKind.u8.wrap a0 < (((⟨#[0, 1, 2, 2, 3, 3, 3, 3, 4, 4, 4, 4, 4, 4, 4, 4, 5, 5, 5, 5, 5, 5, 5, 5, 5, 5, 5, 5, 5, 5, 5, 5, 6, 6, 6, 6, 6, 6, 6, 6, 6, 6, 6, 6, 6, 6, 6, 6, 6, 6, 6, 6, 6, 6, 6, 6, 6, 6, 6, 6, 6, 6, 6, 6, 7, 7, 7, 7, 7, 7, 7, 7, 7, 7, 7, 7, 7, 7, 7, 7, 7, 7, 7, 7, 7, 7, 7, 7, 7, 7, 7, 7, 7, 7, 7, 7, 7, 7, 7, 7, 7, 7, 7, 7, 7, 7, 7, 7, 7, 7, 7, 7, 7, 7, 7, 7, 7, 7, 7, 7, 7, 7, 7, 7, 7, 7, 7, 7, 8, 8, 8, 8, 8, 8, 8, 8, 8, 8, 8, 8, 8, 8, 8, 8, 8, 8, 8, 8, 8, 8, 8, 8, 8, 8, 8, 8, 8, 8, 8, 8, 8, 8, 8, 8, 8, 8, 8, 8, 8, 8, 8, 8, 8, 8, 8, 8, 8, 8, 8, 8, 8, 8, 8, 8, 8, 8, 8, 8, 8, 8, 8, 8, 8, 8, 8, 8, 8, 8, 8, 8, 8, 8, 8, 8, 8, 8, 8, 8, 8, 8, 8, 8, 8, 8, 8, 8, 8, 8, 8, 8, 8, 8, 8, 8, 8, 8, 8, 8, 8, 8, 8, 8, 8, 8, 8, 8, 8, 8, 8, 8, 8, 8, 8, 8, 8, 8, 8, 8, 8, 8, 8, 8, 8, 8, 8, 8]⟩ : ByteArray).size : Nat) : Int)) ((letp (((((⟨#[0, 1, 2, 2, 3, 3, 3, 3, 4, 4, 4, 4, 4, 4, 4, 4, 5, 5, 5, 5, 5, 5, 5, 5, 5, 5, 5, 5, 5, 5, 5, 5, 6, 6, 6, 6, 6, 6, 6, 6, 6, 6, 6, 6, 6, 6, 6, 6, 6, 6, 6, 6, 6, 6, 6, 6, 6, 6, 6, 6, 6, 6, 6, 6, 7, 7, 7, 7, 7, 7, 7, 7, 7, 7, 7, 7, 7, 7, 7, 7, 7, 7, 7, 7, 7, 7, 7, 7, 7, 7, 7, 7, 7, 7, 7, 7, 7, 7, 7, 7, 7, 7, 7, 7, 7, 7, 7, 7, 7, 7, 7, 7, 7, 7, 7, 7, 7, 7, 7, 7, 7, 7, 7, 7, 7, 7, 7, 7, 8, 8, 8, 8, 8, 8, 8, 8, 8, 8, 8, 8, 8, 8, 8, 8, 8, 8, 8, 8, 8, 8, 8, 8, 8, 8, 8, 8, 8, 8, 8, 8, 8, 8, 8, 8, 8, 8, 8, 8, 8, 8, 8, 8, 8, 8, 8, 8, 8, 8, 8, 8, 8, 8, 8, 8, 8, 8, 8, 8, 8, 8, 8, 8, 8, 8, 8, 8, 8, 8, 8, 8, 8, 8, 8, 8, 8, 8, 8, 8, 8, 8, 8, 8, 8, 8, 8, 8, 8, 8, 8, 8, 8, 8, 8, 8, 8, 8, 8, 8, 8, 8, 8, 8, 8, 8, 8, 8, 8, 8, 8, 8, 8, 8, 8, 8, 8, 8, 8, 8, 8, 8, 8, 8, 8, 8, 8, 8]⟩ : ByteArray)).data.toList.getD (IntKind.u8.wrap a0).toNat 0).toNat : Int)) fun x8 => (some (IntKind.i64.wrap (0 + (IntKind.i64.wrap x8))))))))))
theorem math_bits_Len64_ok (a0 : Int) (r : Int) (h : math_bits_Len64 a0 = some r) : Den Tryz.prog 101 [(.int .u64 a0)] { r := (i6 r) } := by
  refine den_of (rs := [(i6 r)]) (ac := math_bits_Len64_c) (L := math_bits_Len64_L) (n := 25) (m := []) (c := Tryz.f101.body.getD .skip) good Tryz.func101 (by kernel_rfl) (by kernel_rfl) Tryz.ntmps101 rfl rfl (by kernel_rfl) rfl rfl ?_
  refine a_st (σ' := ⟨[(0, (.int .u64 a0))], []⟩) (by kernel_rfl) ?_
  unfold math_bits_Len64_c
  refine sr (vp (i6 0) rfl (nx ⟨[(0, (.int .u64 a0)), (2, (i6 0))], []⟩ (by kernel_rfl) (a_seq (sr (vp (.int .u64 a0) rfl (vp (.bool ((decide (a0 ≥ 4294967296)))) rfl (nx ⟨[(0, (.int .u64 a0)), (2, (i6 0)), (4, (.bool ((decide (a0 ≥ 4294967296)))))], []⟩ (by kernel_rfl) ?_)))))))
  cases hb2 : (decide (a0 ≥ 4294967296))
  · have h := ite_f hb2 h
    refine a_cond_f rfl (a_skip (a_next (σ' := ⟨[(0, (.int .u64 a0)), (2, (i6 0))], []⟩) (by kernel_rfl) (a_seq (sr (vp (.int .u64 a0) rfl (vp (.bool ((decide (a0 ≥ 65536)))) rfl (nx ⟨[(0, (.int .u64 a0)), (2, (i6 0)), (8, (.bool ((decide (a0 ≥ 65536)))))], []⟩ (by kernel_rfl) ?_)))))))
    cases hb4 : (decide (a0 ≥ 65536))
    · have h := ite_f hb4 h
      refine a_cond_f rfl (a_skip (a_next (σ' := ⟨[(0, (.int .u64 a0)), (2, (i6 0))], []⟩) (by kernel_rfl) (a_seq (sr (vp (.int .u64 a0) rfl (vp (.bool ((decide (a0 ≥ 256)))) rfl (nx ⟨[(0, (.int .u64 a0)), (2, (i6 0)), (14, (.bool ((decide (a0 ≥ 256)))))], []⟩ (by kernel_rfl) ?_)))))))
      cases hb6 : (decide (a0 ≥ 256))
      · have h := ite_f hb6 h
        refine a_cond_f rfl (a_skip (a_next (σ' := ⟨[(0, (.int .u64 a0)), (2, (i6 0))], []⟩) (by kernel_rfl) (sr (vp (i6 0) rfl (vp (.int .u64 a0) rfl (vp (b8 (IntKind.u8.wrap a0)) rfl ?_))))))
        obtain ⟨hc7, h⟩ := ifp_some h
        obtain ⟨x8, hx9, h⟩ := letp_some h
        refine a_val' (v := (b8 (((((⟨#[0, 1, 2, 2, 3, 3, 3, 3, 4, 4, 4, 4, 4, 4, 4, 4, 5, 5, 5, 5, 5, 5, 5, 5, 5, 5, 5, 5, 5, 5, 5, 5, 6, 6, 6, 6, 6, 6, 6, 6, 6, 6, 6, 6, 6, 6, 6, 6, 6, 6, 6, 6, 6, 6, 6, 6, 6, 6, 6, 6, 6, 6, 6, 6, 7, 7, 7, 7, 7, 7, 7, 7, 7, 7, 7, 7, 7, 7, 7, 7, 7, 7, 7, 7, 7, 7, 7, 7, 7, 7, 7, 7, 7, 7, 7, 7, 7, 7, 7, 7, 7, 7, 7, 7, 7, 7, 7, 7, 7, 7, 7, 7, 7, 7, 7, 7, 7, 7, 7, 7, 7, 7, 7, 7, 7, 7, 7, 7, 8, 8, 8, 8, 8, 8, 8, 8, 8, 8, 8, 8, 8, 8, 8, 8, 8, 8, 8, 8, 8, 8, 8, 8, 8, 8, 8, 8, 8, 8, 8, 8, 8, 8, 8, 8, 8, 8, 8, 8, 8, 8, 8, 8, 8, 8, 8, 8, 8, 8, 8, 8, 8, 8, 8, 8, 8, 8, 8, 8, 8, 8, 8, 8, 8, 8, 8, 8, 8, 8, 8, 8, 8, 8, 8, 8, 8, 8, 8, 8, 8, 8, 8, 8, 8, 8, 8, 8, 8, 8, 8, 8, 8, 8, 8, 8, 8, 8, 8, 8, 8, 8, 8, 8, 8, 8, 8, 8, 8, 8, 8, 8, 8, 8, 8, 8, 8, 8, 8, 8, 8, 8, 8, 8, 8, 8, 8, 8]⟩ : ByteArray)).data.toList.getD (IntKind.u8.wrap a0).toNat 0).toNat : Int)))) (v' := (b8 x8)) (u := []) (u' := []) rfl (congrArg (fun z => ((b8 z) : AV)) hx9) rfl hc7 rfl (vp (i6 (IntKind.i64.wrap x8)) rfl (vp (i6 (IntKind.i64.wrap (0 + (IntKind.i64.wrap x8)))) rfl (vp (i6 (IntKind.i64.wrap (0 + (IntKind.i64.wrap x8)))) rfl (nx _ rfl (a_ret ?_)))))
        refine ⟨.inr rfl, ?_⟩
        rw [Tryz.results101]
        cases h
        exact ⟨_, _, _, _, _, rfl, trivial, .inl ⟨rfl, .inl rfl⟩, rfl, rfl⟩
      · have h := ite_t hb6 h
        cases h
    · have h := ite_t hb4 h
      cases h
  · have h := ite_t hb2 h
    cases h
def math_bits_Len_c : ACode := (.seq (.region 0 [q 2 (.asg 0 (.const (.int .i64 0)) 3)] false) (.seq (.cond (.const (.bool false)) (.seq (.region 1 [q 3 (.mov (t 0)), q 4 (.conv 97 119 (t 3)), q 5 (.call 0 (.func 100) [(t 4)]), q 2 (.asg 0 (t 5) 3)] false) .ret) .skip) (.seq (.region 2 [q 6 (.mov (t 0)), q 7 (.call 0 (.func 101) [(t 6)]), q 2 (.asg 0 (t 7) 3)] false) .ret)))
def math_bits_Len_L : Live := [(0, [0]), (1, [0]), (2, [0])]
noncomputable def math_bits_Len (a0 : Int) : Option Int :=
  (Option.bind (math_bits_Len64 a0) fun r1 => (some r1))
theorem math_bits_Len_ok (a0 : Int) (r : Int) (h : math_bits_Len a0 = some r) : Den Tryz.prog 87 [(.int .u64 a0)] { r := (i6 r) } := by
  refine den_of (rs := [(i6 r)]) (ac := math_bits_Len_c) (L := math_bits_Len_L) (n := 8) (m := []) (c := Tryz.f87.body.getD .skip) good Tryz.func87 (by kernel_rfl) (by kernel_rfl) Tryz.ntmps87 rfl rfl (by kernel_rfl) rfl rfl ?_
  refine a_st (σ' := ⟨[(0, (.int .u64 a0))], []⟩) (by kernel_rfl) ?_
  unfold math_bits_Len_c
  refine sr (vp (i6 0) rfl (nx _ rfl (a_seq (a_cond_f rfl (a_skip (a_next (σ' := ⟨[(0, (.int .u64 a0))], []⟩) (by kernel_rfl) (sr (vp (.int .u64 a0) rfl ?_))))))))
  obtain ⟨r1, hr2, h⟩ := bind_some h
  refine a_call (args := [(.int .u64 a0)]) (u := []) (r := (i6 r1)) rfl rfl (math_bits_Len64_ok a0 r1 hr2) rfl (vp (i6 r1) rfl (nx _ rfl (a_ret ?_)))
  refine ⟨.inr rfl, ?_⟩
  rw [Tryz.results87]
  cases h
  exact ⟨_, _, _, _, _, rfl, trivial, .inl ⟨rfl, .inl rfl⟩, rfl, rfl⟩
def cmp_isNaN_int_c : ACode := (.seq (.region 0 [q 2 (.asg 0 (.const (.bool false)) 4)] false) (.seq (.region 1 [q 3 (.mov (t 0)), q 4 (.mov (t 0)), q 5 (.bin .neq 3 (t 3) (t 4)), q 2 (.asg 0 (t 5) 4)] false) .ret))
def cmp_isNaN_int_L : Live := [(0, [0]), (1, [0])]
noncomputable def cmp_isNaN_int (a0 : Int) : Option Bool :=
  (some (a0 != a0))
theorem cmp_isNaN_int_ok (a0 : Int) (r : Bool) (h : cmp_isNaN_int a0 = some r) : Den Tryz.prog 102 [(i6 a0)] { r := (.bool r) } := by
  refine den_of (rs := [(.bool r)]) (ac := cmp_isNaN_int_c) (L := cmp_isNaN_int_L) (n := 6) (m := []) (c := Tryz.f102.body.getD .skip) good Tryz.func102 (by kernel_rfl) (by kernel_rfl) Tryz.ntmps102 rfl rfl (by kernel_rfl) rfl rfl ?_
  refine a_st (σ' := ⟨[(0, (i6 a0))], []⟩) (by kernel_rfl) ?_
  unfold cmp_isNaN_int_c
  refine sr (vp (.bool false) rfl (nx ⟨[(0, (i6 a0))], []⟩ (by kernel_rfl) (sr (vp (i6 a0) rfl (vp (i6 a0) rfl (vp (.bool (a0 != a0)) rfl (vp (.bool (a0 != a0)) rfl (nx _ rfl (a_ret ?_)))))))))
  refine ⟨.inr rfl, ?_⟩
  rw [Tryz.results102]
  cases h
  exact ⟨_, _, _, _, _, rfl, trivial, .inl ⟨rfl, .inl rfl⟩, rfl, rfl⟩
def cmp_Compare_int_c : ACode := (.seq (.region 0 [q 4 (.asg 0 (.const (.int .i64 0)) 3)] false) (.seq (.region 1 [q 7 (.mov (t 0)), q 8 (.call 0 (.func 102) [(t 7)]), q 5 (.asg 0 (t 8) 4)] false) (.seq (.region 2 [q 9 (.mov (t 1)), q 10 (.call 0 (.func 102) [(t 9)]), q 6 (.asg 0 (t 10) 4)] false) (.seq (.seq (.region 3 [q 11 (.mov (t 5))] false) (.cond (t 11) (.seq (.seq (.region 4 [q 12 (.mov (t 6))] false) (.cond (t 12) (.seq (.region 5 [q 4 (.asg 0 (.const (.int .i64 0)) 3)] false) .ret) .skip)) (.seq (.region 6 [q 4 (.asg 0 (.const (.int .i64 (-1))) 3)] false) .ret)) .skip)) (.seq (.seq (.region 7 [q 13 (.mov (t 6))] false) (.cond (t 13) (.seq (.region 8 [q 4 (.asg 0 (.const (.int .i64 1)) 3)] false) .ret) .skip)) (.seq (.seq (.region 9 [q 14 (.mov (t 0)), q 15 (.mov (t 1)), q 16 (.bin .lss 3 (t 14) (t 15))] false) (.cond (t 16) (.seq (.region 10 [q 4 (.asg 0 (.const (.int .i64 (-1))) 3)] false) .ret) .skip)) (.seq (.seq (.region 11 [q 17 (.mov (t 0)), q 18 (.mov (t 1)), q 19 (.bin .gtr 3 (t 17) (t 18))] false) (.cond (t 19) (.seq (.region 12 [q 4 (.asg 0 (.const (.int .i64 1)) 3)] false) .ret) .skip)) (.seq (.region 13 [q 4 (.asg 0 (.const (.int .i64 0)) 3)] false) .ret))))))))
def cmp_Compare_int_L : Live := [(0, [0, 1]), (1, [0, 1]), (2, [0, 1, 5]), (3, [0, 1, 5, 6]), (4, [6]), (5, []), (6, []), (7, [0, 1, 6]), (8, []), (9, [0, 1]), (10, []), (11, [0, 1]), (12, []), (13, []), (100011, [0, 1, 6, 11]), (100012, [12]), (100013, [0, 1, 13]), (100016, [0, 1, 16]), (100019, [19])]
noncomputable def cmp_Compare_int (a0 : Int) (a1 : Int) : Option Int :=
  (Option.bind (cmp_isNaN_int a0) fun r1 => (Option.bind (cmp_isNaN_int a1) fun r3 => (if r1 then (if r3 then (some 0) else (some (-1))) else (if r3 then (some 1) else (if (decide (a0 < a1)) then (some (-1)) else (if (decide (a0 > a1)) then (some 1) else (some 0)))))))
theorem cmp_Compare_int_ok (a0 : Int) (a1 : Int) (r : Int) (h : cmp_Compare_int a0 a1 = some r) : Den Tryz.prog 88 [(i6 a0), (i6 a1)] { r := (i6 r) } := by
  refine den_of (rs := [(i6 r)]) (ac := cmp_Compare_int_c) (L := cmp_Compare_int_L) (n := 20) (m := []) (c := Tryz.f88.body.getD .skip) good Tryz.func88 (by kernel_rfl) (by kernel_rfl) Tryz.ntmps88 rfl rfl (by kernel_rfl) rfl rfl ?_
  refine a_st (σ' := ⟨[(0, (i6 a0)), (1, (i6 a1))], []⟩) (by kernel_rfl) ?_
  unfold cmp_Compare_int_c
  refine sr (vp (i6 0) rfl (nx ⟨[(0, (i6 a0)), (1, (i6 a1))], []⟩ (by kernel_rfl) (sr (vp (i6 a0) rfl ?_))))
  obtain ⟨r1, hr2, h⟩ := bind_some h
  refine a_call (args := [(i6 a0)]) (u := []) (r := (.bool r1)) rfl rfl (cmp_isNaN_int_ok a0 r1 hr2) rfl (vp (.bool r1) rfl (nx ⟨[(0, (i6 a0)), (1, (i6 a1)), (5, (.bool r1))], []⟩ (by kernel_rfl) (sr (vp (i6 a1) rfl ?_))))
  obtain ⟨r3, hr4, h⟩ := bind_some h
  refine a_call (args := [(i6 a1)]) (u := []) (r := (.bool r3)) rfl rfl (cmp_isNaN_int_ok a1 r3 hr4) rfl (vp (.bool r3) rfl (nx ⟨[(0, (i6 a0)), (1, (i6 a1)), (5, (.bool r1)), (6, (.bool r3))], []⟩ (by kernel_rfl) (a_seq (sr (vp (.bool r1) rfl (nx ⟨[(0, (i6 a0)), (1, (i6 a1)), (6, (.bool r3)), (11, (.bool r1))], []⟩ (by kernel_rfl) ?_))))))
  cases hb5 : r1
  · have h := ite_f hb5 h
    refine a_cond_f rfl (a_skip (a_next (σ' := ⟨[(0, (i6 a0)), (1, (i6 a1)), (6, (.bool r3))], []⟩) (by kernel_rfl) (a_seq (sr (vp (.bool r3) rfl (nx ⟨[(0, (i6 a0)), (1, (i6 a1)), (13, (.bool r3))], []⟩ (by kernel_rfl) ?_))))))
    cases hb6 : r3
    · have h := ite_f hb6 h
      refine a_cond_f rfl (a_skip (a_next (σ' := ⟨[(0, (i6 a0)), (1, (i6 a1))], []⟩) (by kernel_rfl) (a_seq (sr (vp (i6 a0) rfl (vp (i6 a1) rfl (vp (.bool ((decide (a0 < a1)))) rfl (nx ⟨[(0, (i6 a0)), (1, (i6 a1)), (16, (.bool ((decide (a0 < a1)))))], []⟩ (by kernel_rfl) ?_))))))))
      cases hb7 : (decide (a0 < a1))
      · have h := ite_f hb7 h
        refine a_cond_f rfl (a_skip (a_next (σ' := ⟨[(0, (i6 a0)), (1, (i6 a1))], []⟩) (by kernel_rfl) (a_seq (sr (vp (i6 a0) rfl (vp (i6 a1) rfl (vp (.bool ((decide (a0 > a1)))) rfl (nx ⟨[(19, (.bool ((decide (a0 > a1)))))], []⟩ (by kernel_rfl) ?_))))))))
        cases hb8 : (decide (a0 > a1))
        · have h := ite_f hb8 h
          refine a_cond_f rfl (a_skip (a_next (σ' := ⟨[], []⟩) (by kernel_rfl) (sr (vp (i6 0) rfl (nx _ rfl (a_ret ?_))))))
          refine ⟨.inr rfl, ?_⟩
          rw [Tryz.results88]
          cases h
          exact ⟨_, _, _, _, _, rfl, trivial, .inl ⟨rfl, .inl rfl⟩, rfl, rfl⟩
        · have h := ite_t hb8 h
          refine a_cond_t rfl (sr (vp (i6 1) rfl (nx _ rfl (a_ret (t_ret ?_)))))
          refine ⟨.inr rfl, ?_⟩
          rw [Tryz.results88]
          cases h
          exact ⟨_, _, _, _, _, rfl, trivial, .inl ⟨rfl, .inl rfl⟩, rfl, rfl⟩
      · have h := ite_t hb7 h
        refine a_cond_t rfl (sr (vp (i6 (-1)) rfl (nx _ rfl (a_ret (t_ret ?_)))))
        refine ⟨.inr rfl, ?_⟩
        rw [Tryz.results88]
        cases h
        exact ⟨_, _, _, _, _, rfl, trivial, .inl ⟨rfl, .inl rfl⟩, rfl, rfl⟩
    · have h := ite_t hb6 h
      refine a_cond_t rfl (sr (vp (i6 1) rfl (nx _ rfl (a_ret (t_ret ?_)))))
      refine ⟨.inr rfl, ?_⟩
      rw [Tryz.results88]
      cases h
      exact ⟨_, _, _, _, _, rfl, trivial, .inl ⟨rfl, .inl rfl⟩, rfl, rfl⟩
  · have h := ite_t hb5 h
    refine a_cond_t rfl (a_seq (sr (vp (.bool r3) rfl (nx ⟨[(12, (.bool r3))], []⟩ (by kernel_rfl) ?_))))
    cases hb9 : r3
    · have h := ite_f hb9 h
      refine a_cond_f rfl (a_skip (a_next (σ' := ⟨[], []⟩) (by kernel_rfl) (sr (vp (i6 (-1)) rfl (nx _ rfl (a_ret (t_ret ?_)))))))
      refine ⟨.inr rfl, ?_⟩
      rw [Tryz.results88]
      cases h
      exact ⟨_, _, _, _, _, rfl, trivial, .inl ⟨rfl, .inl rfl⟩, rfl, rfl⟩
    · have h := ite_t hb9 h
      refine a_cond_t rfl (sr (vp (i6 0) rfl (nx _ rfl (a_ret (t_ret (t_ret ?_))))))
      refine ⟨.inr rfl, ?_⟩
      rw [Tryz.results88]
      cases h
      exact ⟨_, _, _, _, _, rfl, trivial, .inl ⟨rfl, .inl rfl⟩, rfl, rfl⟩
def cmp_isNaN_int64_c : ACode := (.seq (.region 0 [q 2 (.asg 0 (.const (.bool false)) 4)] false) (.seq (.region 1 [q 3 (.mov (t 0)), q 4 (.mov (t 0)), q 5 (.bin .neq 2 (t 3) (t 4)), q 2 (.asg 0 (t 5) 4)] false) .ret))
def cmp_isNaN_int64_L : Live := [(0, [0]), (1, [0])]
noncomputable def cmp_isNaN_int64 (a0 : Int) : Option Bool :=
  (some (a0 != a0))
theorem cmp_isNaN_int64_ok (a0 : Int) (r : Bool) (h : cmp_isNaN_int64 a0 = some r) : Den Tryz.prog 103 [(i6 a0)] { r := (.bool r) } := by
  refine den_of (rs := [(.bool r)]) (ac := cmp_isNaN_int64_c) (L := cmp_isNaN_int64_L) (n := 6) (m := []) (c := Tryz.f103.body.getD .skip) good Tryz.func103 (by kernel_rfl) (by kernel_rfl) Tryz.ntmps103 rfl rfl (by kernel_rfl) rfl rfl ?_
  refine a_st (σ' := ⟨[(0, (i6 a0))], []⟩) (by kernel_rfl) ?_
  unfold cmp_isNaN_int64_c
  refine sr (vp (.bool false) rfl (nx ⟨[(0, (i6 a0))], []⟩ (by kernel_rfl) (sr (vp (i6 a0) rfl (vp (i6 a0) rfl (vp (.bool (a0 != a0)) rfl (vp (.bool (a0 != a0)) rfl (nx _ rfl (a_ret ?_)))))))))
  refine ⟨.inr rfl, ?_⟩
  rw [Tryz.results103]
  cases h
  exact ⟨_, _, _, _, _, rfl, trivial, .inl ⟨rfl, .inl rfl⟩, rfl, rfl⟩
end Go.Proofs.YtcgohoclbjgmkaaGreat
