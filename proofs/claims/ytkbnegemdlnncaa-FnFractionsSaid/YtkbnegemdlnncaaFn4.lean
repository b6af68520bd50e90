/- Functions of the program: plain Lean functions, and that the program computes them. Printed by gen.py. -/
import Derived.Test.YtkbnegemdlnncaaFnT
import Derived.Test.YtkbnegemdlnncaaFn1
import Derived.Test.YtkbnegemdlnncaaFn2
import Derived.Test.YtkbnegemdlnncaaFn3
namespace Go.Proofs.Ytkbnegemdlnncaa
open Go.Abs Go.Proofs
set_option linter.unusedSimpArgs false
set_option linter.unusedVariables false
set_option maxHeartbeats 16000000
attribute [local irreducible] Abs.acode Abs.aops Abs.aopsT Abs.thenK Abs.blockK

def impl_rows_c : ACode := (.seq (.region 0 [q 2 (.asg 1 (.const (.slice none 0 0)) 108)] false) (.seq (.region 1 [q 3 (.asg 2 (.const (.slice none 0 0)) 108)] false) (.seq (.seq (.region 2 [q 6 (.mov (t 0)), q 7 (.blt 0 .len [(t 6)] [55]), q 8 (.mov (.const (.int .i64 0)))] false) (.block 0 (.loop (.seq (.region 3 [q 9 (.bin .lss 3 (t 8) (t 7))] false) (.seq (.cond (t 9) .skip (.exit 0)) (.seq (.block 1 (.seq (.region 4 [q 10 (.indexAddr 55 (t 6) (t 8)), q 11 (.load 25 (t 10)), q 5 (.alloc 25), ⟨none, .store 25 (t 5) (t 11), none, []⟩] false) (.region 5 [q 12 (.mov (t 3)), q 13 (.load 25 (t 5)), q 14 (.call 0 (.func 103) [(t 13)]), q 15 (.bslice 0 108 1 [(0, (t 14))]), q 16 (.blt 0 .append [(t 12), (t 15)] [108, 108]), q 3 (.asg 2 (t 16) 108)] false))) (.region 6 [q 17 (.bin .add 3 (t 8) (.const (.int .i64 1))), q 8 (.mov (t 17))] false))))))) (.seq (.region 7 [q 18 (.mov (t 3)), q 2 (.asg 1 (t 18) 108)] false) .ret))))
def impl_rows_L : Live := [(0, [0]), (1, [0]), (2, [0, 3]), (3, [3, 6, 7, 8]), (4, [3, 6, 7, 8]), (5, [3, 5, 6, 7, 8]), (6, [3, 6, 7, 8]), (7, [3]), (100009, [3, 6, 7, 8, 9])]
noncomputable def impl_rows_l1 (a0 : (List (Vec Int 64))) (x43 : Int) (x44 : (List (List Int))) : Option ((Int × (List (List Int))) ⊕ (List (List Int))) :=
  (if (decide (x43 < (a0.length : Int))) then (ifp (0 ≤ x43 ∧ x43 < ((a0.length : Nat) : Int)) ((Option.bind (impl_rowOf (rd a0 x43.toNat)) fun r61 => (ifp ((x44.length + ([r61] : List (List Int)).length) * 24 ≤ 140737488355328) ((some (.inl ((IntKind.i64.wrap (x43 + 1), (x44 ++ ([r61]))))))))))) else (some (.inr x44)))
noncomputable def impl_rows (a0 : (List (Vec Int 64))) : Option (List (List Int)) :=
  (Option.bind (α := (List (List Int))) ((loopM (fun s : (Int × (List (List Int))) => impl_rows_l1 a0 s.1 s.2) (0, []))) fun x31 => (some x31))
theorem impl_rows_ok (a0 : (List (Vec Int 64))) (r : (List (List Int))) (h : impl_rows a0 = some r) : Den Try.prog 158 [(eSA64u8 a0)] { r := (eSSi64 r) } := by
  refine den_of (rs := [(eSSi64 r)]) (ac := impl_rows_c) (L := impl_rows_L) (n := 19) (m := [(2, 1), (3, 2)]) (c := Try.f158.body.getD .skip) good Try.func158 (by kernel_rfl) (by kernel_rfl) Try.ntmps158 rfl rfl (by kernel_rfl) rfl rfl ?_
  refine a_st (σ' := ⟨[(0, (eSA64u8 a0))], []⟩) (by kernel_rfl) ?_
  unfold impl_rows_c
  refine sr (vp (eSSi64 ([])) rfl (nx ⟨[(0, (eSA64u8 a0))], []⟩ (by kernel_rfl) (sr (vu (.osl 1300) [(1300, (bk (.row 1 (([]).map eSi64))))] rfl trivial rfl (nx ⟨[(0, (eSA64u8 a0)), (3, (.osl 3))], [(3, (bk (.row 1 (([]).map eSi64))))]⟩ (by kernel_rfl) ?_)))))
  obtain ⟨y32, hy33, hk34⟩ := bind_some h
  clear h
  refine a_join (emb := fun (s : (List (List Int))) => ⟨[(3, (.osl 3))], [(3, (bk (.row 1 (s.map eSi64))))]⟩) (pre := fun s => s = y32) ?_ ?_
  · rintro x31 rfl
    have h := hk34
    refine a_st (σ' := ⟨[(3, (.osl 3))], [(3, (bk (.row 1 (x31.map eSi64))))]⟩) (by kernel_rfl) (sr (vp (.osl 3) rfl (vu (eSSi64 x31) [(3, (bf (.row 1 (x31.map eSi64))))] rfl trivial rfl (nx _ rfl (a_ret ?_)))))
    refine ⟨.inr rfl, ?_⟩
    rw [Try.results158]
    cases h
    exact ⟨_, _, _, _, _, rfl, trivial, .inl ⟨rfl, .inl rfl⟩, rfl, rfl⟩
  · have h := hy33
    refine sr (vp (eSA64u8 a0) rfl (vq (i6 (a0.length : Int)) (len_run rfl rfl) trivial (vp (i6 0) rfl (nx ⟨[(3, (.osl 3)), (6, (eSA64u8 a0)), (7, (i6 (a0.length : Int))), (8, (i6 0))], [(3, (bk (.row 1 (([]).map eSi64))))]⟩ (by kernel_rfl) (a_block ?_)))))
    refine a_loop (emb := fun (s : (Int × (List (List Int)))) => ⟨[(3, (.osl 3)), (6, (eSA64u8 a0)), (7, (i6 (a0.length : Int))), (8, (i6 s.1))], [(3, (bk (.row 1 (s.2.map eSi64))))]⟩) (body := (fun s : (Int × (List (List Int))) => impl_rows_l1 a0 s.1 s.2)) (G := fun q => some q = some y32) h rfl ?_ (by kernel_rfl)
    rintro X53 ⟨x43, x44⟩ x54 h hX55
    have h : impl_rows_l1 a0 x43 x44 = some x54 := h
    refine a_st (σ' := ⟨[(3, (.osl 3)), (6, (eSA64u8 a0)), (7, (i6 (a0.length : Int))), (8, (i6 x43))], [(3, (bk (.row 1 (x44.map eSi64))))]⟩) (by kernel_rfl) (sr (vp (.bool ((decide (x43 < (a0.length : Int))))) rfl (nx ⟨[(3, (.osl 3)), (6, (eSA64u8 a0)), (7, (i6 (a0.length : Int))), (8, (i6 x43)), (9, (.bool ((decide (x43 < (a0.length : Int))))))], [(3, (bk (.row 1 (x44.map eSi64))))]⟩ (by kernel_rfl) (a_seq ?_))))
    cases hb56 : (decide (x43 < (a0.length : Int)))
    · have h := ite_f hb56 h
      refine a_cond_f rfl (a_exit (t_exit ?_))
      cases h
      have h := hX55
      refine t_exit (b_exit ?_)
      exact j_leaf x44 (Option.some.inj h) (by kernel_rfl)
    · have h := ite_t hb56 h
      refine a_cond_t rfl (a_skip (a_next (σ' := ⟨[(3, (.osl 3)), (6, (eSA64u8 a0)), (7, (i6 (a0.length : Int))), (8, (i6 x43))], [(3, (bk (.row 1 (x44.map eSi64))))]⟩) (by kernel_rfl) (a_seq (a_block (sr ?_)))))
      obtain ⟨hc57, h⟩ := ifp_some h
      refine vq (.ref (.row 64 (a0.map eA64u8)) [x43.toNat] [x43.toNat * 64]) rfl (lmap hc57) ?_
      have hl58 : LdOk [x43.toNat] (.row 64 (a0.map eA64u8)) [x43.toNat * 64] 64 true (eA64u8 (rd a0 x43.toNat)) := (.row (llt hc57) rfl (.nil rfl rfl rfl))
      refine vq (eA64u8 (rd a0 x43.toNat)) (ld_ref (i := ⟨.arr 64 5, 64, 64, (eA64u8 (vrep 64 (0 : Int)))⟩) rfl rfl hl58) hl58.c (vo 1500 (eA64u8 ((vrep 64 (0 : Int)))) rfl rfl (vs (eA64u8 (rd a0 x43.toNat)) rfl rfl (fun _ => rfl) rfl rfl rfl rfl rfl rfl (nx ⟨[(3, (.osl 3)), (5, (ow 5)), (6, (eSA64u8 a0)), (7, (i6 (a0.length : Int))), (8, (i6 x43))], [(3, (bk (.row 1 (x44.map eSi64)))), (5, (bk (eA64u8 (rd a0 x43.toNat))))]⟩ (by kernel_rfl) (a_region (vp (.osl 3) rfl (vl (eA64u8 (rd a0 x43.toNat)) rfl rfl rfl rfl rfl rfl ?_))))))
      obtain ⟨r61, hr62, h⟩ := bind_some h
      refine a_call (args := [(eA64u8 (rd a0 x43.toNat))]) (u := []) (r := (eSi64 r61)) rfl rfl (impl_rowOf_ok (rd a0 x43.toNat) r61 hr62) rfl (vq (.sl 1 true (([r61]).map eSi64)) rfl ⟨(Nat.le_of_ble_eq_true rfl), (Nat.le_of_ble_eq_true rfl), (all_cons ⟨(Nat.le_of_ble_eq_true rfl), rfl⟩ all_nil)⟩ ?_)
      obtain ⟨hc63, h⟩ := ifp_some h
      refine vu (.osl 2600) [(2600, (bk (.row 1 (((x44 ++ ([r61]))).map eSi64)))), (3, none)] (app_run (i := ⟨.slice 2, 1, 24, (eSi64 [])⟩) (f := eSi64) (l := x44) (l2 := [r61]) rfl rfl rfl rfl (fun _ => rfl) rfl rfl) (app_c (f := eSi64) (s := 1) (sz := 1) (by' := 24) (u := []) (id := 3) hc63 (.inr rfl) rfl rfl rfl) rfl (vp (.osl 2600) rfl (a_nil (b_norm (a_next (σ' := ⟨[(3, (.osl 3)), (6, (eSA64u8 a0)), (7, (i6 (a0.length : Int))), (8, (i6 x43))], [(3, (bk (.row 1 (((x44 ++ ([r61]))).map eSi64))))]⟩) (by kernel_rfl) (a_region (vp (i6 (IntKind.i64.wrap (x43 + 1))) rfl (vp (i6 (IntKind.i64.wrap (x43 + 1))) rfl (a_nil ?_))))))))
      cases h
      exact a_again (by kernel_rfl) hX55
def impl_prime_times_c : ACode := (.seq (.region 0 [q 6 (.asg 1 (.const (.slice none 0 0)) 80)] false) (.seq (.seq (.region 1 [q 14 (.mov (t 1)), q 15 (.blt 0 .len [(t 14)] [80]), q 16 (.bin .eql 3 (t 15) (.const (.int .i64 0))), q 17 (.mov (t 16)), ⟨some 18, .mov (t 2), some (17, false), []⟩, ⟨some 19, .blt 0 .len [(t 18)] [80], some (17, false), []⟩, ⟨some 20, .bin .eql 3 (t 19) (.const (.int .i64 0)), some (17, false), []⟩, q 21 (.pick (t 17) (.const (.bool true)) (t 20))] false) (.cond (t 21) (.seq (.region 2 [q 6 (.asg 1 (.const (.slice none 0 0)) 80)] false) .ret) .skip)) (.seq (.region 3 [q 22 (.mov (t 1)), q 23 (.blt 0 .len [(t 22)] [80]), q 24 (.mov (t 2)), q 25 (.blt 0 .len [(t 24)] [80]), q 26 (.bin .add 3 (t 23) (t 25)), q 27 (.bin .sub 3 (t 26) (.const (.int .i64 1))), q 28 (.mkslice 80 (t 27) (t 27)), q 7 (.asg 2 (t 28) 80)] false) (.seq (.seq (.region 4 [q 29 (.mov (t 1)), q 30 (.blt 0 .len [(t 29)] [80]), q 31 (.mov (.const (.int .i64 0)))] false) (.block 0 (.loop (.seq (.region 5 [q 32 (.bin .lss 3 (t 31) (t 30))] false) (.seq (.cond (t 32) .skip (.exit 0)) (.seq (.block 1 (.seq (.region 6 [q 33 (.mov (t 31)), q 34 (.indexAddr 80 (t 29) (t 31)), q 35 (.load 2 (t 34)), q 8 (.asg 0 (t 33) 3), q 9 (.asg 0 (t 35) 2)] false) (.seq (.region 7 [q 36 (.mov (t 2)), q 37 (.blt 0 .len [(t 36)] [80]), q 38 (.mov (.const (.int .i64 0)))] false) (.block 2 (.loop (.seq (.region 8 [q 39 (.bin .lss 3 (t 38) (t 37))] false) (.seq (.cond (t 39) .skip (.exit 2)) (.seq (.block 3 (.seq (.region 9 [q 40 (.mov (t 38)), q 41 (.indexAddr 80 (t 36) (t 38)), q 42 (.load 2 (t 41)), q 10 (.asg 0 (t 40) 3), q 11 (.asg 0 (t 42) 2)] false) (.region 10 [q 43 (.mov (t 7)), q 44 (.mov (t 8)), q 45 (.mov (t 10)), q 46 (.bin .add 3 (t 44) (t 45)), q 47 (.indexAddr 80 (t 43) (t 46)), q 48 (.load 2 (t 47)), q 49 (.mov (t 9)), q 50 (.mov (t 11)), q 51 (.bin .mul 2 (t 49) (t 50)), q 52 (.bin .add 2 (t 48) (t 51)), q 53 (.indexAddr 80 (t 43) (t 46)), ⟨none, .store 2 (t 53) (t 52), none, []⟩] false))) (.region 11 [q 54 (.bin .add 3 (t 38) (.const (.int .i64 1))), q 38 (.mov (t 54))] false))))))))) (.region 12 [q 55 (.bin .add 3 (t 31) (.const (.int .i64 1))), q 31 (.mov (t 55))] false))))))) (.seq (.seq (.region 13 [q 56 (.mov (t 7)), q 57 (.blt 0 .len [(t 56)] [80]), q 58 (.mov (.const (.int .i64 0)))] false) (.block 4 (.loop (.seq (.region 14 [q 59 (.bin .lss 3 (t 58) (t 57))] false) (.seq (.cond (t 59) .skip (.exit 4)) (.seq (.block 5 (.seq (.region 15 [q 60 (.mov (t 58)), q 61 (.indexAddr 80 (t 56) (t 58)), q 62 (.load 2 (t 61)), q 12 (.asg 0 (t 60) 3), q 13 (.asg 0 (t 62) 2)] false) (.region 16 [q 63 (.mov (t 7)), q 64 (.mov (t 12)), q 65 (.mov (t 13)), q 66 (.mov (t 0)), q 67 (.bin .rem 2 (t 65) (t 66)), q 68 (.indexAddr 80 (t 63) (t 64)), ⟨none, .store 2 (t 68) (t 67), none, []⟩] false))) (.region 17 [q 69 (.bin .add 3 (t 58) (.const (.int .i64 1))), q 58 (.mov (t 69))] false))))))) (.seq (.region 18 [q 70 (.mov (t 7)), q 71 (.call 0 (.func 180) [(t 70)]), q 6 (.asg 1 (t 71) 80)] false) .ret))))))
def impl_prime_times_L : Live := [(0, [0, 1, 2]), (1, [0, 1, 2]), (2, []), (3, [0, 1, 2]), (4, [0, 1, 2, 7]), (5, [0, 2, 7, 29, 30, 31]), (6, [0, 2, 7, 29, 30, 31]), (7, [0, 2, 7, 8, 9, 29, 30, 31]), (8, [0, 2, 7, 8, 9, 29, 30, 31, 36, 37, 38]), (9, [0, 2, 7, 8, 9, 29, 30, 31, 36, 37, 38]), (10, [0, 2, 7, 8, 9, 10, 11, 29, 30, 31, 36, 37, 38]), (11, [0, 2, 7, 8, 9, 29, 30, 31, 36, 37, 38]), (12, [0, 2, 7, 29, 30, 31]), (13, [0, 7]), (14, [0, 7, 56, 57, 58]), (15, [0, 7, 56, 57, 58]), (16, [0, 7, 12, 13, 56, 57, 58]), (17, [0, 7, 56, 57, 58]), (18, [7]), (100021, [0, 1, 2, 21]), (100032, [0, 2, 7, 29, 30, 31, 32]), (100039, [0, 2, 7, 8, 9, 29, 30, 31, 36, 37, 38, 39]), (100059, [0, 7, 56, 57, 58, 59])]
noncomputable def impl_prime_times_l2 (a2 : (List Int)) (x353 : Int) (a1 : (List Int)) (x492 : Int) (x493 : (List Int)) : Option ((Int × (List Int)) ⊕ (List Int)) :=
  (if (decide (x492 < (a2.length : Int))) then (ifp (0 ≤ x492 ∧ x492 < ((a2.length : Nat) : Int)) ((ifp (0 ≤ IntKind.i64.wrap (x353 + x492) ∧ IntKind.i64.wrap (x353 + x492) < ((x493.length : Nat) : Int)) ((letp (IntKind.i64.wrap (((rd x493 (IntKind.i64.wrap (x353 + x492)).toNat)) + (IntKind.i64.wrap ((rd a1 x353.toNat) * (rd a2 x492.toNat))))) fun x511 => (ifp (0 ≤ IntKind.i64.wrap (x353 + x492) ∧ IntKind.i64.wrap (x353 + x492) < ((x493.length : Nat) : Int)) ((some (.inl ((IntKind.i64.wrap (x492 + 1), (x493.set (IntKind.i64.wrap (x353 + x492)).toNat x511)))))))))))) else (some (.inr x493)))
noncomputable def impl_prime_times_l1 (a1 : (List Int)) (a2 : (List Int)) (x353 : Int) (x354 : (List Int)) : Option ((Int × (List Int)) ⊕ (List Int)) :=
  (if (decide (x353 < (a1.length : Int))) then (Option.bind (α := (List Int)) ((ifp (0 ≤ x353 ∧ x353 < ((a1.length : Nat) : Int)) ((loopM (fun s : (Int × (List Int)) => impl_prime_times_l2 a2 x353 a1 s.1 s.2) (0, x354))))) fun x475 => (some (.inl ((IntKind.i64.wrap (x353 + 1), x475))))) else (some (.inr x354)))
noncomputable def impl_prime_times_l3 (x262 : (List Int)) (a0 : Int) (x551 : Int) (x552 : (List Int)) : Option ((Int × (List Int)) ⊕ (List Int)) :=
  (if (decide (x551 < (x262.length : Int))) then (ifp (0 ≤ x551 ∧ x551 < ((x552.length : Nat) : Int)) ((ifp (a0 ≠ 0) ((ifp (0 ≤ x551 ∧ x551 < ((x552.length : Nat) : Int)) ((some (.inl ((IntKind.i64.wrap (x551 + 1), (x552.set x551.toNat (Int.tmod (rd x552 x551.toNat) a0)))))))))))) else (some (.inr x552)))
noncomputable def impl_prime_times (a0 : Int) (a1 : (List Int)) (a2 : (List Int)) : Option (List Int) :=
  (Option.bind (α := Bool) ((if ((a1.length : Int) == 0) then (some true) else (some (((a2.length : Int) == 0))))) fun x2 => (if x2 then (some ([])) else (letp (IntKind.i64.wrap ((IntKind.i64.wrap ((a1.length : Int) + (a2.length : Int))) - 1)) fun x8 => (ifp (0 ≤ x8 ∧ x8 ≤ 140737488355328 ∧ 8 * x8 ≤ 140737488355328) ((Option.bind (α := (List Int)) ((loopM (fun s : (Int × (List Int)) => impl_prime_times_l1 a1 a2 s.1 s.2) (0, List.replicate x8.toNat (0 : Int)))) fun x262 => (Option.bind (α := (List Int)) ((loopM (fun s : (Int × (List Int)) => impl_prime_times_l3 x262 a0 s.1 s.2) (0, x262))) fun x541 => (Option.bind (impl_row_trimmed x541) fun r569 => (some r569)))))))))
theorem impl_prime_times_ok (a0 : Int) (a1 : (List Int)) (a2 : (List Int)) (r : (List Int)) (h : impl_prime_times a0 a1 a2 = some r) : Den Try.prog 102 [(i6 a0), (eSi64 a1), (eSi64 a2)] { r := (eSi64 r) } := by
  refine den_of (rs := [(eSi64 r)]) (ac := impl_prime_times_c) (L := impl_prime_times_L) (n := 72) (m := [(6, 1), (7, 2)]) (c := Try.f102.body.getD .skip) good Try.func102 (by kernel_rfl) (by kernel_rfl) Try.ntmps102 rfl rfl (by kernel_rfl) rfl rfl ?_
  refine a_st (σ' := ⟨[(0, (i6 a0)), (1, (eSi64 a1)), (2, (eSi64 a2))], []⟩) (by kernel_rfl) ?_
  unfold impl_prime_times_c
  refine sr (vp (eSi64 ([])) rfl (nx ⟨[(0, (i6 a0)), (1, (eSi64 a1)), (2, (eSi64 a2))], []⟩ (by kernel_rfl) (a_seq ?_)))
  obtain ⟨y3, hy4, hk5⟩ := bind_some h
  clear h
  refine a_join (emb := fun (s : Bool) => ⟨[(0, (i6 a0)), (1, (eSi64 a1)), (2, (eSi64 a2)), (21, (.bool s))], []⟩) (pre := fun s => s = y3) ?_ ?_
  · rintro x2 rfl
    have h := hk5
    refine a_st (σ' := ⟨[(0, (i6 a0)), (1, (eSi64 a1)), (2, (eSi64 a2)), (21, (.bool x2))], []⟩) (by kernel_rfl) ?_
    cases hb7 : x2
    · have h := ite_f hb7 h
      refine a_cond_f rfl (a_skip (a_next (σ' := ⟨[(0, (i6 a0)), (1, (eSi64 a1)), (2, (eSi64 a2))], []⟩) (by kernel_rfl) (sr (vp (eSi64 a1) rfl (vq (i6 (a1.length : Int)) (len_run rfl rfl) trivial (vp (eSi64 a2) rfl (vq (i6 (a2.length : Int)) (len_run rfl rfl) trivial (vp (i6 (IntKind.i64.wrap ((a1.length : Int) + (a2.length : Int)))) rfl ?_))))))))
      obtain ⟨x8, hx9, h⟩ := letp_some h
      refine a_val' (v := (i6 (IntKind.i64.wrap ((IntKind.i64.wrap ((a1.length : Int) + (a2.length : Int))) - 1)))) (v' := (i6 x8)) (u := []) (u' := []) rfl (congrArg (fun z => ((i6 z) : AV)) hx9) rfl trivial rfl ?_
      obtain ⟨hc10, h⟩ := ifp_some h
      refine vu (.osl 3800) [(3800, (bk (.row 1 ((List.replicate x8.toNat (0 : Int)).map (AV.int .i64)))))] (mk_run (i := ⟨.int .i64, 1, 8, (.int .i64 0)⟩) (f := (AV.int .i64)) (y := (0 : Int)) rfl rfl rfl rfl rfl rfl) ⟨rfl, hc10.1, hc10.2.1, hc10.2.2, (Nat.le_of_ble_eq_true rfl)⟩ rfl (vp (.osl 3800) rfl (nx ⟨[(0, (i6 a0)), (1, (eSi64 a1)), (2, (eSi64 a2)), (7, (.osl 7))], [(7, (bk (.row 1 ((List.replicate x8.toNat (0 : Int)).map (AV.int .i64)))))]⟩ (by kernel_rfl) ?_))
      obtain ⟨y263, hy264, hk265⟩ := bind_some h
      clear h
      refine a_join (emb := fun (s : (List Int)) => ⟨[(0, (i6 a0)), (7, (.osl 7))], [(7, (bk (.row 1 (s.map (AV.int .i64)))))]⟩) (pre := fun s => s = y263) ?_ ?_
      · rintro x262 rfl
        have h := hk265
        refine a_st (σ' := ⟨[(0, (i6 a0)), (7, (.osl 7))], [(7, (bk (.row 1 (x262.map (AV.int .i64)))))]⟩) (by kernel_rfl) ?_
        obtain ⟨y542, hy543, hk544⟩ := bind_some h
        clear h
        refine a_join (emb := fun (s : (List Int)) => ⟨[(7, (.osl 7))], [(7, (bk (.row 1 (s.map (AV.int .i64)))))]⟩) (pre := fun s => s = y542) ?_ ?_
        · rintro x541 rfl
          have h := hk544
          refine a_st (σ' := ⟨[(7, (.osl 7))], [(7, (bk (.row 1 (x541.map (AV.int .i64)))))]⟩) (by kernel_rfl) (sr (vp (.osl 7) rfl ?_))
          obtain ⟨r569, hr570, h⟩ := bind_some h
          refine a_call (args := [(eSi64 x541)]) (u := [(7, (bf (.row 1 (x541.map (AV.int .i64)))))]) (r := (eSi64 r569)) rfl rfl (impl_row_trimmed_ok x541 r569 hr570) rfl (vp (eSi64 r569) rfl (nx _ rfl (a_ret ?_)))
          refine ⟨.inr rfl, ?_⟩
          rw [Try.results102]
          cases h
          exact ⟨_, _, _, _, _, rfl, trivial, .inl ⟨rfl, .inl rfl⟩, rfl, rfl⟩
        · have h := hy543
          refine sr (vp (.osl 7) rfl (vq (i6 (x262.length : Int)) (leno_run rfl rfl rfl) trivial (vp (i6 0) rfl (nx ⟨[(0, (i6 a0)), (7, (.osl 7)), (56, (.osl 7)), (57, (i6 (x262.length : Int))), (58, (i6 0))], [(7, (bk (.row 1 (x262.map (AV.int .i64)))))]⟩ (by kernel_rfl) (a_block ?_)))))
          refine a_loop (emb := fun (s : (Int × (List Int))) => ⟨[(0, (i6 a0)), (7, (.osl 7)), (56, (.osl 7)), (57, (i6 (x262.length : Int))), (58, (i6 s.1))], [(7, (bk (.row 1 (s.2.map (AV.int .i64)))))]⟩) (body := (fun s : (Int × (List Int)) => impl_prime_times_l3 x262 a0 s.1 s.2)) (G := fun q => some q = some y542) h rfl ?_ (by kernel_rfl)
          rintro X559 ⟨x551, x552⟩ x560 h hX561
          have h : impl_prime_times_l3 x262 a0 x551 x552 = some x560 := h
          refine a_st (σ' := ⟨[(0, (i6 a0)), (7, (.osl 7)), (56, (.osl 7)), (57, (i6 (x262.length : Int))), (58, (i6 x551))], [(7, (bk (.row 1 (x552.map (AV.int .i64)))))]⟩) (by kernel_rfl) (sr (vp (.bool ((decide (x551 < (x262.length : Int))))) rfl (nx ⟨[(0, (i6 a0)), (7, (.osl 7)), (56, (.osl 7)), (57, (i6 (x262.length : Int))), (58, (i6 x551)), (59, (.bool ((decide (x551 < (x262.length : Int))))))], [(7, (bk (.row 1 (x552.map (AV.int .i64)))))]⟩ (by kernel_rfl) (a_seq ?_))))
          cases hb562 : (decide (x551 < (x262.length : Int)))
          · have h := ite_f hb562 h
            refine a_cond_f rfl (a_exit (t_exit ?_))
            cases h
            have h := hX561
            refine t_exit (b_exit ?_)
            exact j_leaf x552 (Option.some.inj h) (by kernel_rfl)
          · have h := ite_t hb562 h
            refine a_cond_t rfl (a_skip (a_next (σ' := ⟨[(0, (i6 a0)), (7, (.osl 7)), (56, (.osl 7)), (57, (i6 (x262.length : Int))), (58, (i6 x551))], [(7, (bk (.row 1 (x552.map (AV.int .i64)))))]⟩) (by kernel_rfl) (a_seq (a_block (sr (vp (i6 x551) rfl ?_))))))
            obtain ⟨hc563, h⟩ := ifp_some h
            refine vq (.own 7 [x551.toNat] [x551.toNat * 1]) rfl (lmap hc563) ?_
            have hl564 : LdOk [x551.toNat] (.row 1 (x552.map (AV.int .i64))) [x551.toNat * 1] 1 false (i6 (rd x552 x551.toNat)) := (.row (llt hc563) rfl (.nil rfl rfl rfl))
            refine vq (i6 (rd x552 x551.toNat)) (ld_own (i := ⟨.int .i64, 1, 8, (.int .i64 0)⟩) rfl rfl rfl hl564) hl564.c (vp (i6 x551) rfl (vp (i6 (rd x552 x551.toNat)) rfl (nx ⟨[(0, (i6 a0)), (7, (.osl 7)), (12, (i6 x551)), (13, (i6 (rd x552 x551.toNat))), (56, (.osl 7)), (57, (i6 (x262.length : Int))), (58, (i6 x551))], [(7, (bk (.row 1 (x552.map (AV.int .i64)))))]⟩ (by kernel_rfl) (a_region (vp (.osl 7) rfl (vp (i6 x551) rfl (vp (i6 (rd x552 x551.toNat)) rfl (vp (i6 a0) rfl ?_))))))))
            obtain ⟨hc565, h⟩ := ifp_some h
            refine vq (i6 (Int.tmod (rd x552 x551.toNat) a0)) rfl hc565 ?_
            obtain ⟨hc566, h⟩ := ifp_some h
            refine vq (.own 7 [x551.toNat] [x551.toNat * 1]) rfl (lmap hc566) ?_
            have hs567 : StOk [x551.toNat] (.row 1 (x552.map (AV.int .i64))) [x551.toNat * 1] 1 (i6 (Int.tmod (rd x552 x551.toNat) a0)) (.row 1 (((x552.set x551.toNat (Int.tmod (rd x552 x551.toNat) a0))).map (AV.int .i64))) := (.row (y := Int.tmod (rd x552 x551.toNat) a0) (llt hc566) rfl (.nil rfl rfl rfl rfl))
            refine vu .top [(7, (bk (.row 1 (((x552.set x551.toNat (Int.tmod (rd x552 x551.toNat) a0))).map (AV.int .i64)))))] (st_own (i := ⟨.int .i64, 1, 8, (.int .i64 0)⟩) rfl rfl (fun _ => rfl) rfl hs567) (hs567.c rfl) rfl (a_nil (b_norm (a_next (σ' := ⟨[(0, (i6 a0)), (7, (.osl 7)), (56, (.osl 7)), (57, (i6 (x262.length : Int))), (58, (i6 x551))], [(7, (bk (.row 1 (((x552.set x551.toNat (Int.tmod (rd x552 x551.toNat) a0))).map (AV.int .i64)))))]⟩) (by kernel_rfl) (a_region (vp (i6 (IntKind.i64.wrap (x551 + 1))) rfl (vp (i6 (IntKind.i64.wrap (x551 + 1))) rfl (a_nil ?_)))))))
            cases h
            exact a_again (by kernel_rfl) hX561
      · have h := hy264
        refine sr (vp (eSi64 a1) rfl (vq (i6 (a1.length : Int)) (len_run rfl rfl) trivial (vp (i6 0) rfl (nx ⟨[(0, (i6 a0)), (2, (eSi64 a2)), (7, (.osl 7)), (29, (eSi64 a1)), (30, (i6 (a1.length : Int))), (31, (i6 0))], [(7, (bk (.row 1 ((List.replicate x8.toNat (0 : Int)).map (AV.int .i64)))))]⟩ (by kernel_rfl) (a_block ?_)))))
        refine a_loop (emb := fun (s : (Int × (List Int))) => ⟨[(0, (i6 a0)), (2, (eSi64 a2)), (7, (.osl 7)), (29, (eSi64 a1)), (30, (i6 (a1.length : Int))), (31, (i6 s.1))], [(7, (bk (.row 1 (s.2.map (AV.int .i64)))))]⟩) (body := (fun s : (Int × (List Int)) => impl_prime_times_l1 a1 a2 s.1 s.2)) (G := fun q => some q = some y263) h rfl ?_ (by kernel_rfl)
        rintro X434 ⟨x353, x354⟩ x435 h hX436
        have h : impl_prime_times_l1 a1 a2 x353 x354 = some x435 := h
        refine a_st (σ' := ⟨[(0, (i6 a0)), (2, (eSi64 a2)), (7, (.osl 7)), (29, (eSi64 a1)), (30, (i6 (a1.length : Int))), (31, (i6 x353))], [(7, (bk (.row 1 (x354.map (AV.int .i64)))))]⟩) (by kernel_rfl) (sr (vp (.bool ((decide (x353 < (a1.length : Int))))) rfl (nx ⟨[(0, (i6 a0)), (2, (eSi64 a2)), (7, (.osl 7)), (29, (eSi64 a1)), (30, (i6 (a1.length : Int))), (31, (i6 x353)), (32, (.bool ((decide (x353 < (a1.length : Int))))))], [(7, (bk (.row 1 (x354.map (AV.int .i64)))))]⟩ (by kernel_rfl) (a_seq ?_))))
        cases hb437 : (decide (x353 < (a1.length : Int)))
        · have h := ite_f hb437 h
          refine a_cond_f rfl (a_exit (t_exit ?_))
          cases h
          have h := hX436
          refine t_exit (b_exit ?_)
          exact j_leaf x354 (Option.some.inj h) (by kernel_rfl)
        · have h := ite_t hb437 h
          refine a_cond_t rfl (a_skip (a_next (σ' := ⟨[(0, (i6 a0)), (2, (eSi64 a2)), (7, (.osl 7)), (29, (eSi64 a1)), (30, (i6 (a1.length : Int))), (31, (i6 x353))], [(7, (bk (.row 1 (x354.map (AV.int .i64)))))]⟩) (by kernel_rfl) ?_))
          obtain ⟨y476, hy477, hk478⟩ := bind_some h
          clear h
          refine a_join (emb := fun (s : (List Int)) => ⟨[(0, (i6 a0)), (2, (eSi64 a2)), (7, (.osl 7)), (29, (eSi64 a1)), (30, (i6 (a1.length : Int))), (31, (i6 x353))], [(7, (bk (.row 1 (s.map (AV.int .i64)))))]⟩) (pre := fun s => s = y476) ?_ ?_
          · rintro x475 rfl
            have h := hk478
            refine a_st (σ' := ⟨[(0, (i6 a0)), (2, (eSi64 a2)), (7, (.osl 7)), (29, (eSi64 a1)), (30, (i6 (a1.length : Int))), (31, (i6 x353))], [(7, (bk (.row 1 (x475.map (AV.int .i64)))))]⟩) (by kernel_rfl) (a_region (vp (i6 (IntKind.i64.wrap (x353 + 1))) rfl (vp (i6 (IntKind.i64.wrap (x353 + 1))) rfl (a_nil ?_))))
            cases h
            exact a_again (by kernel_rfl) hX436
          · have h := hy477
            refine a_block (sr (vp (i6 x353) rfl ?_))
            obtain ⟨hc479, h⟩ := ifp_some h
            refine vq (.ref (.row 1 (a1.map (AV.int .i64))) [x353.toNat] [x353.toNat * 1]) rfl (lmap hc479) ?_
            have hl480 : LdOk [x353.toNat] (.row 1 (a1.map (AV.int .i64))) [x353.toNat * 1] 1 false (i6 (rd a1 x353.toNat)) := (.row (llt hc479) rfl (.nil rfl rfl rfl))
            refine vq (i6 (rd a1 x353.toNat)) (ld_ref (i := ⟨.int .i64, 1, 8, (.int .i64 0)⟩) rfl rfl hl480) hl480.c (vp (i6 x353) rfl (vp (i6 (rd a1 x353.toNat)) rfl (nx ⟨[(0, (i6 a0)), (2, (eSi64 a2)), (7, (.osl 7)), (8, (i6 x353)), (9, (i6 (rd a1 x353.toNat))), (29, (eSi64 a1)), (30, (i6 (a1.length : Int))), (31, (i6 x353))], [(7, (bk (.row 1 (x354.map (AV.int .i64)))))]⟩ (by kernel_rfl) (sr (vp (eSi64 a2) rfl (vq (i6 (a2.length : Int)) (len_run rfl rfl) trivial (vp (i6 0) rfl (nx ⟨[(0, (i6 a0)), (2, (eSi64 a2)), (7, (.osl 7)), (8, (i6 x353)), (9, (i6 (rd a1 x353.toNat))), (29, (eSi64 a1)), (30, (i6 (a1.length : Int))), (31, (i6 x353)), (36, (eSi64 a2)), (37, (i6 (a2.length : Int))), (38, (i6 0))], [(7, (bk (.row 1 (x354.map (AV.int .i64)))))]⟩ (by kernel_rfl) (a_block ?_)))))))))
            refine a_loop (emb := fun (s : (Int × (List Int))) => ⟨[(0, (i6 a0)), (2, (eSi64 a2)), (7, (.osl 7)), (8, (i6 x353)), (9, (i6 (rd a1 x353.toNat))), (29, (eSi64 a1)), (30, (i6 (a1.length : Int))), (31, (i6 x353)), (36, (eSi64 a2)), (37, (i6 (a2.length : Int))), (38, (i6 s.1))], [(7, (bk (.row 1 (s.2.map (AV.int .i64)))))]⟩) (body := (fun s : (Int × (List Int)) => impl_prime_times_l2 a2 x353 a1 s.1 s.2)) (G := fun q => some q = some y476) h rfl ?_ (by kernel_rfl)
            rintro X503 ⟨x492, x493⟩ x504 h hX505
            have h : impl_prime_times_l2 a2 x353 a1 x492 x493 = some x504 := h
            refine a_st (σ' := ⟨[(0, (i6 a0)), (2, (eSi64 a2)), (7, (.osl 7)), (8, (i6 x353)), (9, (i6 (rd a1 x353.toNat))), (29, (eSi64 a1)), (30, (i6 (a1.length : Int))), (31, (i6 x353)), (36, (eSi64 a2)), (37, (i6 (a2.length : Int))), (38, (i6 x492))], [(7, (bk (.row 1 (x493.map (AV.int .i64)))))]⟩) (by kernel_rfl) (sr (vp (.bool ((decide (x492 < (a2.length : Int))))) rfl (nx ⟨[(0, (i6 a0)), (2, (eSi64 a2)), (7, (.osl 7)), (8, (i6 x353)), (9, (i6 (rd a1 x353.toNat))), (29, (eSi64 a1)), (30, (i6 (a1.length : Int))), (31, (i6 x353)), (36, (eSi64 a2)), (37, (i6 (a2.length : Int))), (38, (i6 x492)), (39, (.bool ((decide (x492 < (a2.length : Int))))))], [(7, (bk (.row 1 (x493.map (AV.int .i64)))))]⟩ (by kernel_rfl) (a_seq ?_))))
            cases hb506 : (decide (x492 < (a2.length : Int)))
            · have h := ite_f hb506 h
              refine a_cond_f rfl (a_exit (t_exit ?_))
              cases h
              have h := hX505
              refine t_exit (b_exit (b_norm ?_))
              exact j_leaf x493 (Option.some.inj h) (by kernel_rfl)
            · have h := ite_t hb506 h
              refine a_cond_t rfl (a_skip (a_next (σ' := ⟨[(0, (i6 a0)), (2, (eSi64 a2)), (7, (.osl 7)), (8, (i6 x353)), (9, (i6 (rd a1 x353.toNat))), (29, (eSi64 a1)), (30, (i6 (a1.length : Int))), (31, (i6 x353)), (36, (eSi64 a2)), (37, (i6 (a2.length : Int))), (38, (i6 x492))], [(7, (bk (.row 1 (x493.map (AV.int .i64)))))]⟩) (by kernel_rfl) (a_seq (a_block (sr (vp (i6 x492) rfl ?_))))))
              obtain ⟨hc507, h⟩ := ifp_some h
              refine vq (.ref (.row 1 (a2.map (AV.int .i64))) [x492.toNat] [x492.toNat * 1]) rfl (lmap hc507) ?_
              have hl508 : LdOk [x492.toNat] (.row 1 (a2.map (AV.int .i64))) [x492.toNat * 1] 1 false (i6 (rd a2 x492.toNat)) := (.row (llt hc507) rfl (.nil rfl rfl rfl))
              refine vq (i6 (rd a2 x492.toNat)) (ld_ref (i := ⟨.int .i64, 1, 8, (.int .i64 0)⟩) rfl rfl hl508) hl508.c (vp (i6 x492) rfl (vp (i6 (rd a2 x492.toNat)) rfl (nx ⟨[(0, (i6 a0)), (2, (eSi64 a2)), (7, (.osl 7)), (8, (i6 x353)), (9, (i6 (rd a1 x353.toNat))), (10, (i6 x492)), (11, (i6 (rd a2 x492.toNat))), (29, (eSi64 a1)), (30, (i6 (a1.length : Int))), (31, (i6 x353)), (36, (eSi64 a2)), (37, (i6 (a2.length : Int))), (38, (i6 x492))], [(7, (bk (.row 1 (x493.map (AV.int .i64)))))]⟩ (by kernel_rfl) (a_region (vp (.osl 7) rfl (vp (i6 x353) rfl (vp (i6 x492) rfl (vp (i6 (IntKind.i64.wrap (x353 + x492))) rfl ?_))))))))
              obtain ⟨hc509, h⟩ := ifp_some h
              refine vq (.own 7 [(IntKind.i64.wrap (x353 + x492)).toNat] [(IntKind.i64.wrap (x353 + x492)).toNat * 1]) rfl (lmap hc509) ?_
              have hl510 : LdOk [(IntKind.i64.wrap (x353 + x492)).toNat] (.row 1 (x493.map (AV.int .i64))) [(IntKind.i64.wrap (x353 + x492)).toNat * 1] 1 false (i6 ((rd x493 (IntKind.i64.wrap (x353 + x492)).toNat))) := (.row (llt hc509) rfl (.nil rfl rfl rfl))
              refine vq (i6 ((rd x493 (IntKind.i64.wrap (x353 + x492)).toNat))) (ld_own (i := ⟨.int .i64, 1, 8, (.int .i64 0)⟩) rfl rfl rfl hl510) hl510.c (vp (i6 (rd a1 x353.toNat)) rfl (vp (i6 (rd a2 x492.toNat)) rfl (vp (i6 (IntKind.i64.wrap ((rd a1 x353.toNat) * (rd a2 x492.toNat)))) rfl ?_)))
              obtain ⟨x511, hx512, h⟩ := letp_some h
              refine a_val' (v := (i6 (IntKind.i64.wrap (((rd x493 (IntKind.i64.wrap (x353 + x492)).toNat)) + (IntKind.i64.wrap ((rd a1 x353.toNat) * (rd a2 x492.toNat))))))) (v' := (i6 x511)) (u := []) (u' := []) rfl (congrArg (fun z => ((i6 z) : AV)) hx512) rfl trivial rfl ?_
              obtain ⟨hc513, h⟩ := ifp_some h
              refine vq (.own 7 [(IntKind.i64.wrap (x353 + x492)).toNat] [(IntKind.i64.wrap (x353 + x492)).toNat * 1]) rfl (lmap hc513) ?_
              have hs514 : StOk [(IntKind.i64.wrap (x353 + x492)).toNat] (.row 1 (x493.map (AV.int .i64))) [(IntKind.i64.wrap (x353 + x492)).toNat * 1] 1 (i6 x511) (.row 1 (((x493.set (IntKind.i64.wrap (x353 + x492)).toNat x511)).map (AV.int .i64))) := (.row (y := x511) (llt hc513) rfl (.nil rfl rfl rfl rfl))
              refine vu .top [(7, (bk (.row 1 (((x493.set (IntKind.i64.wrap (x353 + x492)).toNat x511)).map (AV.int .i64)))))] (st_own (i := ⟨.int .i64, 1, 8, (.int .i64 0)⟩) rfl rfl (fun _ => rfl) rfl hs514) (hs514.c rfl) rfl (a_nil (b_norm (a_next (σ' := ⟨[(0, (i6 a0)), (2, (eSi64 a2)), (7, (.osl 7)), (8, (i6 x353)), (9, (i6 (rd a1 x353.toNat))), (29, (eSi64 a1)), (30, (i6 (a1.length : Int))), (31, (i6 x353)), (36, (eSi64 a2)), (37, (i6 (a2.length : Int))), (38, (i6 x492))], [(7, (bk (.row 1 (((x493.set (IntKind.i64.wrap (x353 + x492)).toNat x511)).map (AV.int .i64)))))]⟩) (by kernel_rfl) (a_region (vp (i6 (IntKind.i64.wrap (x492 + 1))) rfl (vp (i6 (IntKind.i64.wrap (x492 + 1))) rfl (a_nil ?_)))))))
              cases h
              exact a_again (by kernel_rfl) hX505
    · have h := ite_t hb7 h
      refine a_cond_t rfl (sr (vp (eSi64 ([])) rfl (nx _ rfl (a_ret (t_ret ?_)))))
      refine ⟨.inr rfl, ?_⟩
      rw [Try.results102]
      cases h
      exact ⟨_, _, _, _, _, rfl, trivial, .inl ⟨rfl, .inl rfl⟩, rfl, rfl⟩
  · have h := hy4
    refine a_region (vp (eSi64 a1) rfl (vq (i6 (a1.length : Int)) (len_run rfl rfl) trivial (vp (.bool (((a1.length : Int) == 0))) rfl (vp (.bool (((a1.length : Int) == 0))) rfl ?_))))
    cases hb6 : ((a1.length : Int) == 0)
    · have h := ite_f hb6 h
      refine gp (eSi64 a2) rfl rfl (gq (i6 (a2.length : Int)) rfl (len_run rfl rfl) trivial (gp (.bool (((a2.length : Int) == 0))) rfl rfl (vp (.bool (((a2.length : Int) == 0))) rfl (a_nil ?_))))
      exact j_leaf (((a2.length : Int) == 0)) (Option.some.inj h) (by kernel_rfl)
    · have h := ite_t hb6 h
      refine a_gskip rfl (a_gskip rfl (a_gskip rfl (vp (.bool true) rfl (a_nil ?_))))
      exact j_leaf true (Option.some.inj h) (by kernel_rfl)
def impl_row_at_c : ACode := (.seq (.region 0 [q 4 (.asg 0 (.const (.int .i64 0)) 2)] false) (.seq (.seq (.region 1 [q 5 (.mov (t 1)), q 6 (.mov (t 0)), q 7 (.blt 0 .len [(t 6)] [80]), q 8 (.bin .lss 3 (t 5) (t 7))] false) (.cond (t 8) (.seq (.region 2 [q 9 (.mov (t 0)), q 10 (.mov (t 1)), q 11 (.indexAddr 80 (t 9) (t 10)), q 12 (.load 2 (t 11)), q 4 (.asg 0 (t 12) 2)] false) .ret) .skip)) (.seq (.region 3 [q 4 (.asg 0 (.const (.int .i64 0)) 2)] false) .ret)))
def impl_row_at_L : Live := [(0, [0, 1]), (1, [0, 1]), (2, [0, 1]), (3, []), (100008, [0, 1, 8])]
noncomputable def impl_row_at (a0 : (List Int)) (a1 : Int) : Option Int :=
  (if (decide (a1 < (a0.length : Int))) then (ifp (0 ≤ a1 ∧ a1 < ((a0.length : Nat) : Int)) ((some (rd a0 a1.toNat)))) else (some 0))
theorem impl_row_at_ok (a0 : (List Int)) (a1 : Int) (r : Int) (h : impl_row_at a0 a1 = some r) : Den Try.prog 164 [(eSi64 a0), (i6 a1)] { r := (i6 r) } := by
  refine den_of (rs := [(i6 r)]) (ac := impl_row_at_c) (L := impl_row_at_L) (n := 13) (m := []) (c := Try.f164.body.getD .skip) good Try.func164 (by kernel_rfl) (by kernel_rfl) Try.ntmps164 rfl rfl (by kernel_rfl) rfl rfl ?_
  refine a_st (σ' := ⟨[(0, (eSi64 a0)), (1, (i6 a1))], []⟩) (by kernel_rfl) ?_
  unfold impl_row_at_c
  refine sr (vp (i6 0) rfl (nx ⟨[(0, (eSi64 a0)), (1, (i6 a1))], []⟩ (by kernel_rfl) (a_seq (sr (vp (i6 a1) rfl (vp (eSi64 a0) rfl (vq (i6 (a0.length : Int)) (len_run rfl rfl) trivial (vp (.bool ((decide (a1 < (a0.length : Int))))) rfl (nx ⟨[(0, (eSi64 a0)), (1, (i6 a1)), (8, (.bool ((decide (a1 < (a0.length : Int))))))], []⟩ (by kernel_rfl) ?_)))))))))
  cases hb1 : (decide (a1 < (a0.length : Int)))
  · have h := ite_f hb1 h
    refine a_cond_f rfl (a_skip (a_next (σ' := ⟨[], []⟩) (by kernel_rfl) (sr (vp (i6 0) rfl (nx _ rfl (a_ret ?_))))))
    refine ⟨.inr rfl, ?_⟩
    rw [Try.results164]
    cases h
    exact ⟨_, _, _, _, _, rfl, trivial, .inl ⟨rfl, .inl rfl⟩, rfl, rfl⟩
  · have h := ite_t hb1 h
    refine a_cond_t rfl (sr (vp (eSi64 a0) rfl (vp (i6 a1) rfl ?_)))
    obtain ⟨hc2, h⟩ := ifp_some h
    refine vq (.ref (.row 1 (a0.map (AV.int .i64))) [a1.toNat] [a1.toNat * 1]) rfl (lmap hc2) ?_
    have hl3 : LdOk [a1.toNat] (.row 1 (a0.map (AV.int .i64))) [a1.toNat * 1] 1 false (i6 (rd a0 a1.toNat)) := (.row (llt hc2) rfl (.nil rfl rfl rfl))
    refine vq (i6 (rd a0 a1.toNat)) (ld_ref (i := ⟨.int .i64, 1, 8, (.int .i64 0)⟩) rfl rfl hl3) hl3.c (vp (i6 (rd a0 a1.toNat)) rfl (nx _ rfl (a_ret (t_ret ?_))))
    refine ⟨.inr rfl, ?_⟩
    rw [Try.results164]
    cases h
    exact ⟨_, _, _, _, _, rfl, trivial, .inl ⟨rfl, .inl rfl⟩, rfl, rfl⟩
def impl_prime_combine_c : ACode := (.seq (.region 0 [q 8 (.asg 1 (.const (.slice none 0 0)) 80)] false) (.seq (.region 1 [q 11 (.mov (t 1)), q 12 (.blt 0 .len [(t 11)] [80]), q 13 (.mov (t 2)), q 14 (.blt 0 .len [(t 13)] [80]), q 15 (.blt 0 .max [(t 12), (t 14)] [3, 3]), q 16 (.mkslice 80 (t 15) (t 15)), q 9 (.asg 2 (t 16) 80)] false) (.seq (.seq (.region 2 [q 17 (.mov (t 9)), q 18 (.blt 0 .len [(t 17)] [80]), q 19 (.mov (.const (.int .i64 0)))] false) (.block 0 (.loop (.seq (.region 3 [q 20 (.bin .lss 3 (t 19) (t 18))] false) (.seq (.cond (t 20) .skip (.exit 0)) (.seq (.block 1 (.seq (.region 4 [q 21 (.mov (t 19)), q 10 (.asg 0 (t 21) 3)] false) (.region 5 [q 22 (.mov (t 9)), q 23 (.mov (t 10)), q 24 (.mov (t 0)), q 25 (.mov (t 1)), q 26 (.mov (t 10)), q 27 (.call 0 (.func 164) [(t 25), (t 26)]), q 28 (.mov (t 3)), q 29 (.mov (t 2)), q 30 (.mov (t 10)), q 31 (.call 0 (.func 164) [(t 29), (t 30)]), q 32 (.bin .mul 2 (t 28) (t 31)), q 33 (.bin .add 2 (t 27) (t 32)), q 34 (.call 0 (.func 183) [(t 24), (t 33)]), q 35 (.indexAddr 80 (t 22) (t 23)), ⟨none, .store 2 (t 35) (t 34), none, []⟩] false))) (.region 6 [q 36 (.bin .add 3 (t 19) (.const (.int .i64 1))), q 19 (.mov (t 36))] false))))))) (.seq (.region 7 [q 37 (.mov (t 9)), q 38 (.call 0 (.func 180) [(t 37)]), q 8 (.asg 1 (t 38) 80)] false) .ret))))
def impl_prime_combine_L : Live := [(0, [0, 1, 2, 3]), (1, [0, 1, 2, 3]), (2, [0, 1, 2, 3, 9]), (3, [0, 1, 2, 3, 9, 18, 19]), (4, [0, 1, 2, 3, 9, 18, 19]), (5, [0, 1, 2, 3, 9, 10, 18, 19]), (6, [0, 1, 2, 3, 9, 18, 19]), (7, [9]), (100020, [0, 1, 2, 3, 9, 18, 19, 20])]
noncomputable def impl_prime_combine_l1 (x1 : Int) (a1 : (List Int)) (a2 : (List Int)) (a0 : Int) (a3 : Int) (x58 : Int) (x59 : (List Int)) : Option ((Int × (List Int)) ⊕ (List Int)) :=
  (letp ((decide (x58 < (((List.replicate x1.toNat (0 : Int)).length : Int))))) fun x74 => (if x74 then (Option.bind (impl_row_at a1 x58) fun r77 => (Option.bind (impl_row_at a2 x58) fun r79 => (Option.bind (impl_prime_reduce a0 (IntKind.i64.wrap (r77 + (IntKind.i64.wrap (a3 * r79))))) fun r81 => (ifp (0 ≤ x58 ∧ x58 < ((x59.length : Nat) : Int)) ((some (.inl ((IntKind.i64.wrap (x58 + 1), (x59.set x58.toNat r81)))))))))) else (some (.inr x59))))
noncomputable def impl_prime_combine (a0 : Int) (a1 : (List Int)) (a2 : (List Int)) (a3 : Int) : Option (List Int) :=
  (letp ((if (a2.length : Int) > (a1.length : Int) then (a2.length : Int) else (a1.length : Int))) fun x1 => (ifp (0 ≤ x1 ∧ x1 ≤ 140737488355328 ∧ 8 * x1 ≤ 140737488355328) ((Option.bind (α := (List Int)) ((loopM (fun s : (Int × (List Int)) => impl_prime_combine_l1 x1 a1 a2 a0 a3 s.1 s.2) (0, List.replicate x1.toNat (0 : Int)))) fun x43 => (Option.bind (impl_row_trimmed x43) fun r86 => (some r86))))))
theorem impl_prime_combine_ok (a0 : Int) (a1 : (List Int)) (a2 : (List Int)) (a3 : Int) (r : (List Int)) (h : impl_prime_combine a0 a1 a2 a3 = some r) : Den Try.prog 109 [(i6 a0), (eSi64 a1), (eSi64 a2), (i6 a3)] { r := (eSi64 r) } := by
  refine den_of (rs := [(eSi64 r)]) (ac := impl_prime_combine_c) (L := impl_prime_combine_L) (n := 39) (m := [(8, 1), (9, 2)]) (c := Try.f109.body.getD .skip) good Try.func109 (by kernel_rfl) (by kernel_rfl) Try.ntmps109 rfl rfl (by kernel_rfl) rfl rfl ?_
  refine a_st (σ' := ⟨[(0, (i6 a0)), (1, (eSi64 a1)), (2, (eSi64 a2)), (3, (i6 a3))], []⟩) (by kernel_rfl) ?_
  unfold impl_prime_combine_c
  refine sr (vp (eSi64 ([])) rfl (nx ⟨[(0, (i6 a0)), (1, (eSi64 a1)), (2, (eSi64 a2)), (3, (i6 a3))], []⟩ (by kernel_rfl) (sr (vp (eSi64 a1) rfl (vq (i6 (a1.length : Int)) (len_run rfl rfl) trivial (vp (eSi64 a2) rfl (vq (i6 (a2.length : Int)) (len_run rfl rfl) trivial ?_)))))))
  obtain ⟨x1, hx2, h⟩ := letp_some h
  refine a_val' (v := (i6 ((if (a2.length : Int) > (a1.length : Int) then (a2.length : Int) else (a1.length : Int))))) (v' := (i6 x1)) (u := []) (u' := []) rfl (congrArg (fun z => ((i6 z) : AV)) hx2) rfl trivial rfl ?_
  obtain ⟨hc3, h⟩ := ifp_some h
  refine vu (.osl 2600) [(2600, (bk (.row 1 ((List.replicate x1.toNat (0 : Int)).map (AV.int .i64)))))] (mk_run (i := ⟨.int .i64, 1, 8, (.int .i64 0)⟩) (f := (AV.int .i64)) (y := (0 : Int)) rfl rfl rfl rfl rfl rfl) ⟨rfl, hc3.1, hc3.2.1, hc3.2.2, (Nat.le_of_ble_eq_true rfl)⟩ rfl (vp (.osl 2600) rfl (nx ⟨[(0, (i6 a0)), (1, (eSi64 a1)), (2, (eSi64 a2)), (3, (i6 a3)), (9, (.osl 9))], [(9, (bk (.row 1 ((List.replicate x1.toNat (0 : Int)).map (AV.int .i64)))))]⟩ (by kernel_rfl) ?_))
  obtain ⟨y44, hy45, hk46⟩ := bind_some h
  clear h
  refine a_join (emb := fun (s : (List Int)) => ⟨[(9, (.osl 9))], [(9, (bk (.row 1 (s.map (AV.int .i64)))))]⟩) (pre := fun s => s = y44) ?_ ?_
  · rintro x43 rfl
    have h := hk46
    refine a_st (σ' := ⟨[(9, (.osl 9))], [(9, (bk (.row 1 (x43.map (AV.int .i64)))))]⟩) (by kernel_rfl) (sr (vp (.osl 9) rfl ?_))
    obtain ⟨r86, hr87, h⟩ := bind_some h
    refine a_call (args := [(eSi64 x43)]) (u := [(9, (bf (.row 1 (x43.map (AV.int .i64)))))]) (r := (eSi64 r86)) rfl rfl (impl_row_trimmed_ok x43 r86 hr87) rfl (vp (eSi64 r86) rfl (nx _ rfl (a_ret ?_)))
    refine ⟨.inr rfl, ?_⟩
    rw [Try.results109]
    cases h
    exact ⟨_, _, _, _, _, rfl, trivial, .inl ⟨rfl, .inl rfl⟩, rfl, rfl⟩
  · have h := hy45
    refine sr (vp (.osl 9) rfl (vq (i6 (((List.replicate x1.toNat (0 : Int)).length : Int))) (leno_run rfl rfl rfl) trivial (vp (i6 0) rfl (nx ⟨[(0, (i6 a0)), (1, (eSi64 a1)), (2, (eSi64 a2)), (3, (i6 a3)), (9, (.osl 9)), (18, (i6 (((List.replicate x1.toNat (0 : Int)).length : Int)))), (19, (i6 0))], [(9, (bk (.row 1 ((List.replicate x1.toNat (0 : Int)).map (AV.int .i64)))))]⟩ (by kernel_rfl) (a_block ?_)))))
    refine a_loop (emb := fun (s : (Int × (List Int))) => ⟨[(0, (i6 a0)), (1, (eSi64 a1)), (2, (eSi64 a2)), (3, (i6 a3)), (9, (.osl 9)), (18, (i6 (((List.replicate x1.toNat (0 : Int)).length : Int)))), (19, (i6 s.1))], [(9, (bk (.row 1 (s.2.map (AV.int .i64)))))]⟩) (body := (fun s : (Int × (List Int)) => impl_prime_combine_l1 x1 a1 a2 a0 a3 s.1 s.2)) (G := fun q => some q = some y44) h rfl ?_ (by kernel_rfl)
    rintro X71 ⟨x58, x59⟩ x72 h hX73
    have h : impl_prime_combine_l1 x1 a1 a2 a0 a3 x58 x59 = some x72 := h
    refine a_st (σ' := ⟨[(0, (i6 a0)), (1, (eSi64 a1)), (2, (eSi64 a2)), (3, (i6 a3)), (9, (.osl 9)), (18, (i6 (((List.replicate x1.toNat (0 : Int)).length : Int)))), (19, (i6 x58))], [(9, (bk (.row 1 (x59.map (AV.int .i64)))))]⟩) (by kernel_rfl) (sr ?_)
    obtain ⟨x74, hx75, h⟩ := letp_some h
    refine a_val' (v := (.bool ((decide (x58 < (((List.replicate x1.toNat (0 : Int)).length : Int))))))) (v' := (.bool x74)) (u := []) (u' := []) rfl (congrArg (fun z => ((.bool z) : AV)) hx75) rfl trivial rfl (nx ⟨[(0, (i6 a0)), (1, (eSi64 a1)), (2, (eSi64 a2)), (3, (i6 a3)), (9, (.osl 9)), (18, (i6 (((List.replicate x1.toNat (0 : Int)).length : Int)))), (19, (i6 x58)), (20, (.bool x74))], [(9, (bk (.row 1 (x59.map (AV.int .i64)))))]⟩ (by kernel_rfl) (a_seq ?_))
    cases hb76 : x74
    · have h := ite_f hb76 h
      refine a_cond_f rfl (a_exit (t_exit ?_))
      cases h
      have h := hX73
      refine t_exit (b_exit ?_)
      exact j_leaf x59 (Option.some.inj h) (by kernel_rfl)
    · have h := ite_t hb76 h
      refine a_cond_t rfl (a_skip (a_next (σ' := ⟨[(0, (i6 a0)), (1, (eSi64 a1)), (2, (eSi64 a2)), (3, (i6 a3)), (9, (.osl 9)), (18, (i6 (((List.replicate x1.toNat (0 : Int)).length : Int)))), (19, (i6 x58))], [(9, (bk (.row 1 (x59.map (AV.int .i64)))))]⟩) (by kernel_rfl) (a_seq (a_block (sr (vp (i6 x58) rfl (vp (i6 x58) rfl (nx ⟨[(0, (i6 a0)), (1, (eSi64 a1)), (2, (eSi64 a2)), (3, (i6 a3)), (9, (.osl 9)), (10, (i6 x58)), (18, (i6 (((List.replicate x1.toNat (0 : Int)).length : Int)))), (19, (i6 x58))], [(9, (bk (.row 1 (x59.map (AV.int .i64)))))]⟩ (by kernel_rfl) (a_region ?_)))))))))
      refine vp (.osl 9) rfl (vp (i6 x58) rfl (vp (i6 a0) rfl (vp (eSi64 a1) rfl (vp (i6 x58) rfl ?_))))
      obtain ⟨r77, hr78, h⟩ := bind_some h
      refine a_call (args := [(eSi64 a1), (i6 x58)]) (u := []) (r := (i6 r77)) rfl rfl (impl_row_at_ok a1 x58 r77 hr78) rfl (vp (i6 a3) rfl (vp (eSi64 a2) rfl (vp (i6 x58) rfl ?_)))
      obtain ⟨r79, hr80, h⟩ := bind_some h
      refine a_call (args := [(eSi64 a2), (i6 x58)]) (u := []) (r := (i6 r79)) rfl rfl (impl_row_at_ok a2 x58 r79 hr80) rfl (vp (i6 (IntKind.i64.wrap (a3 * r79))) rfl (vp (i6 (IntKind.i64.wrap (r77 + (IntKind.i64.wrap (a3 * r79))))) rfl ?_))
      obtain ⟨r81, hr82, h⟩ := bind_some h
      refine a_call (args := [(i6 a0), (i6 (IntKind.i64.wrap (r77 + (IntKind.i64.wrap (a3 * r79)))))]) (u := []) (r := (i6 r81)) rfl rfl (impl_prime_reduce_ok a0 (IntKind.i64.wrap (r77 + (IntKind.i64.wrap (a3 * r79)))) r81 hr82) rfl ?_
      obtain ⟨hc83, h⟩ := ifp_some h
      refine vq (.own 9 [x58.toNat] [x58.toNat * 1]) rfl (lmap hc83) ?_
      have hs84 : StOk [x58.toNat] (.row 1 (x59.map (AV.int .i64))) [x58.toNat * 1] 1 (i6 r81) (.row 1 ((x59.set x58.toNat r81).map (AV.int .i64))) := (.row (y := r81) (llt hc83) rfl (.nil rfl rfl rfl rfl))
      refine vu .top [(9, (bk (.row 1 ((x59.set x58.toNat r81).map (AV.int .i64)))))] (st_own (i := ⟨.int .i64, 1, 8, (.int .i64 0)⟩) rfl rfl (fun _ => rfl) rfl hs84) (hs84.c rfl) rfl (a_nil (b_norm (a_next (σ' := ⟨[(0, (i6 a0)), (1, (eSi64 a1)), (2, (eSi64 a2)), (3, (i6 a3)), (9, (.osl 9)), (18, (i6 (((List.replicate x1.toNat (0 : Int)).length : Int)))), (19, (i6 x58))], [(9, (bk (.row 1 ((x59.set x58.toNat r81).map (AV.int .i64)))))]⟩) (by kernel_rfl) (a_region (vp (i6 (IntKind.i64.wrap (x58 + 1))) rfl (vp (i6 (IntKind.i64.wrap (x58 + 1))) rfl (a_nil ?_)))))))
      cases h
      exact a_again (by kernel_rfl) hX73
def impl_row_fits_c : ACode := (.seq (.region 0 [q 2 (.asg 0 (.const (.bool false)) 4)] false) (.seq (.region 1 [q 3 (.mov (t 0)), q 4 (.call 0 (.func 114) [(t 3)]), q 5 (.bin .leq 2 (t 4) (.const (.int .i64 63))), q 2 (.asg 0 (t 5) 4)] false) .ret))
def impl_row_fits_L : Live := [(0, [0]), (1, [0])]
noncomputable def impl_row_fits (a0 : (List Int)) : Option Bool :=
  (Option.bind (impl_row_degree a0) fun r1 => (some ((decide (r1 ≤ 63)))))
theorem impl_row_fits_ok (a0 : (List Int)) (r : Bool) (h : impl_row_fits a0 = some r) : Den Try.prog 135 [(eSi64 a0)] { r := (.bool r) } := by
  refine den_of (rs := [(.bool r)]) (ac := impl_row_fits_c) (L := impl_row_fits_L) (n := 6) (m := []) (c := Try.f135.body.getD .skip) good Try.func135 (by kernel_rfl) (by kernel_rfl) Try.ntmps135 rfl rfl (by kernel_rfl) rfl rfl ?_
  refine a_st (σ' := ⟨[(0, (eSi64 a0))], []⟩) (by kernel_rfl) ?_
  unfold impl_row_fits_c
  refine sr (vp (.bool false) rfl (nx ⟨[(0, (eSi64 a0))], []⟩ (by kernel_rfl) (sr (vp (eSi64 a0) rfl ?_))))
  obtain ⟨r1, hr2, h⟩ := bind_some h
  refine a_call (args := [(eSi64 a0)]) (u := []) (r := (i6 r1)) rfl rfl (impl_row_degree_ok a0 r1 hr2) rfl (vp (.bool ((decide (r1 ≤ 63)))) rfl (vp (.bool ((decide (r1 ≤ 63)))) rfl (nx _ rfl (a_ret ?_))))
  refine ⟨.inr rfl, ?_⟩
  rw [Try.results135]
  cases h
  exact ⟨_, _, _, _, _, rfl, trivial, .inl ⟨rfl, .inl rfl⟩, rfl, rfl⟩
def impl_prime_convergents_c : ACode := (.seq (.region 0 [q 4 (.asg 1 (.const (.slice none 0 0)) 108), q 5 (.asg 1 (.const (.slice none 0 0)) 108)] false) (.seq (.region 1 [q 14 (.bslice 0 80 1 [(0, (.const (.int .i64 1)))]), q 6 (.asg 1 (t 14) 80), q 7 (.asg 1 (.const (.slice none 0 0)) 80)] false) (.seq (.region 2 [q 15 (.bslice 0 80 1 [(0, (.const (.int .i64 1)))]), q 8 (.asg 1 (.const (.slice none 0 0)) 80), q 9 (.asg 1 (t 15) 80)] false) (.seq (.region 3 [q 10 (.asg 2 (.const (.slice none 0 0)) 108), q 11 (.asg 2 (.const (.slice none 0 0)) 108)] false) (.seq (.seq (.region 4 [q 16 (.mov (t 1)), q 17 (.blt 0 .len [(t 16)] [108]), q 18 (.mov (.const (.int .i64 0)))] false) (.block 0 (.loop (.seq (.region 5 [q 19 (.bin .lss 3 (t 18) (t 17))] false) (.seq (.cond (t 19) .skip (.exit 0)) (.seq (.block 1 (.seq (.region 6 [q 20 (.indexAddr 108 (t 16) (t 18)), q 21 (.load 80 (t 20)), q 13 (.asg 1 (t 21) 80)] false) (.seq (.region 7 [q 22 (.mov (t 0)), q 23 (.mov (t 0)), q 24 (.mov (t 13)), q 25 (.mov (t 6)), q 26 (.call 0 (.func 102) [(t 23), (t 24), (t 25)]), q 27 (.mov (t 8)), q 28 (.call 0 (.func 109) [(t 22), (t 26), (t 27), (.const (.int .i64 1))]), q 29 (.mov (t 6)), q 6 (.asg 1 (t 28) 80), q 8 (.asg 1 (t 29) 80)] false) (.seq (.region 8 [q 30 (.mov (t 0)), q 31 (.mov (t 0)), q 32 (.mov (t 13)), q 33 (.mov (t 7)), q 34 (.call 0 (.func 102) [(t 31), (t 32), (t 33)]), q 35 (.mov (t 9)), q 36 (.call 0 (.func 109) [(t 30), (t 34), (t 35), (.const (.int .i64 1))]), q 37 (.mov (t 7)), q 7 (.asg 1 (t 36) 80), q 9 (.asg 1 (t 37) 80)] false) (.seq (.seq (.region 9 [q 38 (.mov (t 6)), q 39 (.call 0 (.func 135) [(t 38)]), q 40 (.un .not (t 39)), q 41 (.mov (t 40)), ⟨some 42, .mov (t 7), some (41, false), []⟩, ⟨some 43, .call 0 (.func 135) [(t 42)], some (41, false), []⟩, ⟨some 44, .un .not (t 43), some (41, false), []⟩, q 45 (.pick (t 41) (.const (.bool true)) (t 44))] false) (.cond (t 45) (.exit 0) .skip)) (.region 10 [q 46 (.mov (t 10)), q 47 (.mov (t 6)), q 48 (.bslice 0 108 1 [(0, (t 47))]), q 49 (.blt 0 .append [(t 46), (t 48)] [108, 108]), q 50 (.mov (t 11)), q 51 (.mov (t 7)), q 52 (.bslice 0 108 1 [(0, (t 51))]), q 53 (.blt 0 .append [(t 50), (t 52)] [108, 108]), q 10 (.asg 2 (t 49) 108), q 11 (.asg 2 (t 53) 108)] false)))))) (.region 11 [q 54 (.bin .add 3 (t 18) (.const (.int .i64 1))), q 18 (.mov (t 54))] false))))))) (.seq (.region 12 [q 55 (.mov (t 10)), q 56 (.mov (t 11)), q 4 (.asg 1 (t 55) 108), q 5 (.asg 1 (t 56) 108)] false) .ret))))))
def impl_prime_convergents_L : Live := [(0, [0, 1]), (1, [0, 1]), (2, [0, 1, 6, 7]), (3, [0, 1, 6, 7, 8, 9]), (4, [0, 1, 6, 7, 8, 9, 10, 11]), (5, [0, 6, 7, 8, 9, 10, 11, 16, 17, 18]), (6, [0, 6, 7, 8, 9, 10, 11, 16, 17, 18]), (7, [0, 6, 7, 8, 9, 10, 11, 13, 16, 17, 18]), (8, [0, 6, 7, 8, 9, 10, 11, 13, 16, 17, 18]), (9, [0, 6, 7, 8, 9, 10, 11, 16, 17, 18]), (10, [0, 6, 7, 8, 9, 10, 11, 16, 17, 18]), (11, [0, 6, 7, 8, 9, 10, 11, 16, 17, 18]), (12, [10, 11]), (100019, [0, 6, 7, 8, 9, 10, 11, 16, 17, 18, 19]), (100045, [0, 6, 7, 8, 9, 10, 11, 16, 17, 18, 45])]
noncomputable def impl_prime_convergents_l1 (a1 : (List (List Int))) (a0 : Int) (x129 : (List Int)) (x130 : (List Int)) (x131 : (List Int)) (x132 : (List Int)) (x133 : Int) (x134 : (List (List Int))) (x135 : (List (List Int))) : Option (((List Int) × (List Int) × (List Int) × (List Int) × Int × (List (List Int)) × (List (List Int))) ⊕ ((List (List Int)) × (List (List Int)))) :=
  (if (decide (x133 < (a1.length : Int))) then (ifp (0 ≤ x133 ∧ x133 < ((a1.length : Nat) : Int)) ((Option.bind (impl_prime_times a0 (rd a1 x133.toNat) x129) fun r170 => (Option.bind (impl_prime_combine a0 r170 x131 1) fun r172 => (Option.bind (impl_prime_times a0 (rd a1 x133.toNat) x130) fun r174 => (Option.bind (impl_prime_combine a0 r174 x132 1) fun r176 => (Option.bind (α := Bool) ((Option.bind (impl_row_fits r172) fun r187 => (if (!r187) then (some true) else (Option.bind (impl_row_fits r176) fun r190 => (some (!r190)))))) fun x183 => (if x183 then (some (.inr (x134, x135))) else (ifp ((x134.length + ([r172] : List (List Int)).length) * 24 ≤ 140737488355328) ((ifp ((x135.length + ([r176] : List (List Int)).length) * 24 ≤ 140737488355328) ((some (.inl ((r172, r176, x129, x130, IntKind.i64.wrap (x133 + 1), (x134 ++ ([r172])), (x135 ++ ([r176])))))))))))))))))) else (some (.inr (x134, x135))))
noncomputable def impl_prime_convergents (a0 : Int) (a1 : (List (List Int))) : Option ((List (List Int)) × (List (List Int))) :=
  (Option.bind (α := ((List (List Int)) × (List (List Int)))) ((loopM (fun s : ((List Int) × (List Int) × (List Int) × (List Int) × Int × (List (List Int)) × (List (List Int))) => impl_prime_convergents_l1 a1 a0 s.1 s.2.1 s.2.2.1 s.2.2.2.1 s.2.2.2.2.1 s.2.2.2.2.2.1 s.2.2.2.2.2.2) ([1], [], [], [1], 0, [], []))) fun ⟨x96, x97⟩ => (some (x96, x97)))
theorem impl_prime_convergents_ok (a0 : Int) (a1 : (List (List Int))) (r : ((List (List Int)) × (List (List Int)))) (h : impl_prime_convergents a0 a1 = some r) : Den Try.prog 157 [(i6 a0), (eSSi64 a1)] { r := (.tuple [(eSSi64 r.1), (eSSi64 r.2)]) } := by
  refine den_of (rs := [(eSSi64 r.1), (eSSi64 r.2)]) (ac := impl_prime_convergents_c) (L := impl_prime_convergents_L) (n := 57) (m := [(4, 1), (5, 1), (6, 1), (7, 1), (8, 1), (9, 1), (10, 2), (11, 2), (13, 1)]) (c := Try.f157.body.getD .skip) good Try.func157 (by kernel_rfl) (by kernel_rfl) Try.ntmps157 rfl rfl (by kernel_rfl) rfl rfl ?_
  refine a_st (σ' := ⟨[(0, (i6 a0)), (1, (eSSi64 a1))], []⟩) (by kernel_rfl) ?_
  unfold impl_prime_convergents_c
  refine sr (vp (eSSi64 ([])) rfl (vp (eSSi64 ([])) rfl (nx ⟨[(0, (i6 a0)), (1, (eSSi64 a1))], []⟩ (by kernel_rfl) (sr (vq (.sl 1 true (([1]).map (AV.int .i64))) rfl ⟨(Nat.le_of_ble_eq_true rfl), (Nat.le_of_ble_eq_true rfl), (all_cons ⟨(Nat.le_of_ble_eq_true rfl), rfl⟩ all_nil)⟩ (vq (eSi64 ([1])) (asg_tight (i := ⟨.int .i64, 1, 8, (.int .i64 0)⟩) (f := (AV.int .i64)) (l := [1]) rfl rfl rfl) trivial (vp (eSi64 ([])) rfl (nx ⟨[(0, (i6 a0)), (1, (eSSi64 a1)), (6, (eSi64 ([1]))), (7, (eSi64 ([])))], []⟩ (by kernel_rfl) (sr ?_)))))))))
  refine vq (.sl 1 true (([1]).map (AV.int .i64))) rfl ⟨(Nat.le_of_ble_eq_true rfl), (Nat.le_of_ble_eq_true rfl), (all_cons ⟨(Nat.le_of_ble_eq_true rfl), rfl⟩ all_nil)⟩ (vp (eSi64 ([])) rfl (vq (eSi64 ([1])) (asg_tight (i := ⟨.int .i64, 1, 8, (.int .i64 0)⟩) (f := (AV.int .i64)) (l := [1]) rfl rfl rfl) trivial (nx ⟨[(0, (i6 a0)), (1, (eSSi64 a1)), (6, (eSi64 ([1]))), (7, (eSi64 ([]))), (8, (eSi64 ([]))), (9, (eSi64 ([1])))], []⟩ (by kernel_rfl) (sr (vu (.osl 2000) [(2000, (bk (.row 1 (([]).map eSi64))))] rfl trivial rfl (vu (.osl 2100) [(2100, (bk (.row 1 (([]).map eSi64))))] rfl trivial rfl (nx ⟨[(0, (i6 a0)), (1, (eSSi64 a1)), (6, (eSi64 ([1]))), (7, (eSi64 ([]))), (8, (eSi64 ([]))), (9, (eSi64 ([1]))), (10, (.osl 10)), (11, (.osl 11))], [(10, (bk (.row 1 (([]).map eSi64)))), (11, (bk (.row 1 (([]).map eSi64))))]⟩ (by kernel_rfl) ?_)))))))
  obtain ⟨y98, hy99, hk100⟩ := bind_some h
  clear h
  refine a_join (emb := fun (s : ((List (List Int)) × (List (List Int)))) => ⟨[(10, (.osl 10)), (11, (.osl 11))], [(10, (bk (.row 1 (s.1.map eSi64)))), (11, (bk (.row 1 (s.2.map eSi64))))]⟩) (pre := fun s => s = y98) ?_ ?_
  · rintro ⟨x96, x97⟩ rfl
    have h := hk100
    refine a_st (σ' := ⟨[(10, (.osl 10)), (11, (.osl 11))], [(10, (bk (.row 1 (x96.map eSi64)))), (11, (bk (.row 1 (x97.map eSi64))))]⟩) (by kernel_rfl) (sr (vp (.osl 10) rfl (vp (.osl 11) rfl (vu (eSSi64 x96) [(10, (bf (.row 1 (x96.map eSi64))))] rfl trivial rfl (vu (eSSi64 x97) [(11, (bf (.row 1 (x97.map eSi64))))] rfl trivial rfl (nx _ rfl (a_ret ?_)))))))
    refine ⟨.inr rfl, ?_⟩
    rw [Try.results157]
    cases h
    exact ⟨_, _, _, _, _, rfl, trivial, .inl ⟨rfl, .inl rfl⟩, rfl, ⟨_, _, _, _, _, rfl, trivial, .inl ⟨rfl, .inl rfl⟩, rfl, rfl⟩⟩
  · have h := hy99
    refine sr (vp (eSSi64 a1) rfl (vq (i6 (a1.length : Int)) (len_run rfl rfl) trivial (vp (i6 0) rfl (nx ⟨[(0, (i6 a0)), (6, (eSi64 ([1]))), (7, (eSi64 ([]))), (8, (eSi64 ([]))), (9, (eSi64 ([1]))), (10, (.osl 10)), (11, (.osl 11)), (16, (eSSi64 a1)), (17, (i6 (a1.length : Int))), (18, (i6 0))], [(10, (bk (.row 1 (([]).map eSi64)))), (11, (bk (.row 1 (([]).map eSi64))))]⟩ (by kernel_rfl) (a_block ?_)))))
    refine a_loop (emb := fun (s : ((List Int) × (List Int) × (List Int) × (List Int) × Int × (List (List Int)) × (List (List Int)))) => ⟨[(0, (i6 a0)), (6, (eSi64 s.1)), (7, (eSi64 s.2.1)), (8, (eSi64 s.2.2.1)), (9, (eSi64 s.2.2.2.1)), (10, (.osl 10)), (11, (.osl 11)), (16, (eSSi64 a1)), (17, (i6 (a1.length : Int))), (18, (i6 s.2.2.2.2.1))], [(10, (bk (.row 1 (s.2.2.2.2.2.1.map eSi64)))), (11, (bk (.row 1 (s.2.2.2.2.2.2.map eSi64))))]⟩) (body := (fun s : ((List Int) × (List Int) × (List Int) × (List Int) × Int × (List (List Int)) × (List (List Int))) => impl_prime_convergents_l1 a1 a0 s.1 s.2.1 s.2.2.1 s.2.2.2.1 s.2.2.2.2.1 s.2.2.2.2.2.1 s.2.2.2.2.2.2)) (G := fun q => some q = some y98) h rfl ?_ (by kernel_rfl)
    rintro X164 ⟨x129, x130, x131, x132, x133, x134, x135⟩ x165 h hX166
    have h : impl_prime_convergents_l1 a1 a0 x129 x130 x131 x132 x133 x134 x135 = some x165 := h
    refine a_st (σ' := ⟨[(0, (i6 a0)), (6, (eSi64 x129)), (7, (eSi64 x130)), (8, (eSi64 x131)), (9, (eSi64 x132)), (10, (.osl 10)), (11, (.osl 11)), (16, (eSSi64 a1)), (17, (i6 (a1.length : Int))), (18, (i6 x133))], [(10, (bk (.row 1 (x134.map eSi64)))), (11, (bk (.row 1 (x135.map eSi64))))]⟩) (by kernel_rfl) (sr (vp (.bool ((decide (x133 < (a1.length : Int))))) rfl (nx ⟨[(0, (i6 a0)), (6, (eSi64 x129)), (7, (eSi64 x130)), (8, (eSi64 x131)), (9, (eSi64 x132)), (10, (.osl 10)), (11, (.osl 11)), (16, (eSSi64 a1)), (17, (i6 (a1.length : Int))), (18, (i6 x133)), (19, (.bool ((decide (x133 < (a1.length : Int))))))], [(10, (bk (.row 1 (x134.map eSi64)))), (11, (bk (.row 1 (x135.map eSi64))))]⟩ (by kernel_rfl) (a_seq ?_))))
    cases hb167 : (decide (x133 < (a1.length : Int)))
    · have h := ite_f hb167 h
      refine a_cond_f rfl (a_exit (t_exit ?_))
      cases h
      have h := hX166
      refine t_exit (b_exit ?_)
      exact j_leaf (x134, x135) (Option.some.inj h) (by kernel_rfl)
    · have h := ite_t hb167 h
      refine a_cond_t rfl (a_skip (a_next (σ' := ⟨[(0, (i6 a0)), (6, (eSi64 x129)), (7, (eSi64 x130)), (8, (eSi64 x131)), (9, (eSi64 x132)), (10, (.osl 10)), (11, (.osl 11)), (16, (eSSi64 a1)), (17, (i6 (a1.length : Int))), (18, (i6 x133))], [(10, (bk (.row 1 (x134.map eSi64)))), (11, (bk (.row 1 (x135.map eSi64))))]⟩) (by kernel_rfl) (a_seq (a_block (sr ?_)))))
      obtain ⟨hc168, h⟩ := ifp_some h
      refine vq (.ref (.row 1 (a1.map eSi64)) [x133.toNat] [x133.toNat * 1]) rfl (lmap hc168) ?_
      have hl169 : LdOk [x133.toNat] (.row 1 (a1.map eSi64)) [x133.toNat * 1] 1 false (eSi64 (rd a1 x133.toNat)) := (.row (llt hc168) rfl (.nil rfl rfl rfl))
      refine vq (eSi64 (rd a1 x133.toNat)) (ld_ref (i := ⟨.slice 2, 1, 24, (eSi64 [])⟩) rfl rfl hl169) hl169.c (vp (eSi64 (rd a1 x133.toNat)) rfl (nx ⟨[(0, (i6 a0)), (6, (eSi64 x129)), (7, (eSi64 x130)), (8, (eSi64 x131)), (9, (eSi64 x132)), (10, (.osl 10)), (11, (.osl 11)), (13, (eSi64 (rd a1 x133.toNat))), (16, (eSSi64 a1)), (17, (i6 (a1.length : Int))), (18, (i6 x133))], [(10, (bk (.row 1 (x134.map eSi64)))), (11, (bk (.row 1 (x135.map eSi64))))]⟩ (by kernel_rfl) (sr (vp (i6 a0) rfl (vp (i6 a0) rfl (vp (eSi64 (rd a1 x133.toNat)) rfl (vp (eSi64 x129) rfl ?_)))))))
      obtain ⟨r170, hr171, h⟩ := bind_some h
      refine a_call (args := [(i6 a0), (eSi64 (rd a1 x133.toNat)), (eSi64 x129)]) (u := []) (r := (eSi64 r170)) rfl rfl (impl_prime_times_ok a0 (rd a1 x133.toNat) x129 r170 hr171) rfl (vp (eSi64 x131) rfl ?_)
      obtain ⟨r172, hr173, h⟩ := bind_some h
      refine a_call (args := [(i6 a0), (eSi64 r170), (eSi64 x131), (i6 1)]) (u := []) (r := (eSi64 r172)) rfl rfl (impl_prime_combine_ok a0 r170 x131 1 r172 hr173) rfl (vp (eSi64 x129) rfl (vp (eSi64 r172) rfl (vp (eSi64 x129) rfl (nx ⟨[(0, (i6 a0)), (6, (eSi64 r172)), (7, (eSi64 x130)), (8, (eSi64 x129)), (9, (eSi64 x132)), (10, (.osl 10)), (11, (.osl 11)), (13, (eSi64 (rd a1 x133.toNat))), (16, (eSSi64 a1)), (17, (i6 (a1.length : Int))), (18, (i6 x133))], [(10, (bk (.row 1 (x134.map eSi64)))), (11, (bk (.row 1 (x135.map eSi64))))]⟩ (by kernel_rfl) (sr (vp (i6 a0) rfl (vp (i6 a0) rfl (vp (eSi64 (rd a1 x133.toNat)) rfl (vp (eSi64 x130) rfl ?_)))))))))
      obtain ⟨r174, hr175, h⟩ := bind_some h
      refine a_call (args := [(i6 a0), (eSi64 (rd a1 x133.toNat)), (eSi64 x130)]) (u := []) (r := (eSi64 r174)) rfl rfl (impl_prime_times_ok a0 (rd a1 x133.toNat) x130 r174 hr175) rfl (vp (eSi64 x132) rfl ?_)
      obtain ⟨r176, hr177, h⟩ := bind_some h
      refine a_call (args := [(i6 a0), (eSi64 r174), (eSi64 x132), (i6 1)]) (u := []) (r := (eSi64 r176)) rfl rfl (impl_prime_combine_ok a0 r174 x132 1 r176 hr177) rfl (vp (eSi64 x130) rfl (vp (eSi64 r176) rfl (vp (eSi64 x130) rfl (nx ⟨[(0, (i6 a0)), (6, (eSi64 r172)), (7, (eSi64 r176)), (8, (eSi64 x129)), (9, (eSi64 x130)), (10, (.osl 10)), (11, (.osl 11)), (16, (eSSi64 a1)), (17, (i6 (a1.length : Int))), (18, (i6 x133))], [(10, (bk (.row 1 (x134.map eSi64)))), (11, (bk (.row 1 (x135.map eSi64))))]⟩ (by kernel_rfl) (a_seq ?_)))))
      obtain ⟨y184, hy185, hk186⟩ := bind_some h
      clear h
      refine a_join (emb := fun (s : Bool) => ⟨[(0, (i6 a0)), (6, (eSi64 r172)), (7, (eSi64 r176)), (8, (eSi64 x129)), (9, (eSi64 x130)), (10, (.osl 10)), (11, (.osl 11)), (16, (eSSi64 a1)), (17, (i6 (a1.length : Int))), (18, (i6 x133)), (45, (.bool s))], [(10, (bk (.row 1 (x134.map eSi64)))), (11, (bk (.row 1 (x135.map eSi64))))]⟩) (pre := fun s => s = y184) ?_ ?_
      · rintro x183 rfl
        have h := hk186
        refine a_st (σ' := ⟨[(0, (i6 a0)), (6, (eSi64 r172)), (7, (eSi64 r176)), (8, (eSi64 x129)), (9, (eSi64 x130)), (10, (.osl 10)), (11, (.osl 11)), (16, (eSSi64 a1)), (17, (i6 (a1.length : Int))), (18, (i6 x133)), (45, (.bool x183))], [(10, (bk (.row 1 (x134.map eSi64)))), (11, (bk (.row 1 (x135.map eSi64))))]⟩) (by kernel_rfl) ?_
        cases hb192 : x183
        · have h := ite_f hb192 h
          refine a_cond_f rfl (a_skip (a_next (σ' := ⟨[(0, (i6 a0)), (6, (eSi64 r172)), (7, (eSi64 r176)), (8, (eSi64 x129)), (9, (eSi64 x130)), (10, (.osl 10)), (11, (.osl 11)), (16, (eSSi64 a1)), (17, (i6 (a1.length : Int))), (18, (i6 x133))], [(10, (bk (.row 1 (x134.map eSi64)))), (11, (bk (.row 1 (x135.map eSi64))))]⟩) (by kernel_rfl) (a_region (vp (.osl 10) rfl (vp (eSi64 r172) rfl (vq (.sl 1 true (([r172]).map eSi64)) rfl ⟨(Nat.le_of_ble_eq_true rfl), (Nat.le_of_ble_eq_true rfl), (all_cons ⟨(Nat.le_of_ble_eq_true rfl), rfl⟩ all_nil)⟩ ?_))))))
          obtain ⟨hc193, h⟩ := ifp_some h
          refine vu (.osl 5900) [(5900, (bk (.row 1 (((x134 ++ ([r172]))).map eSi64)))), (10, none)] (app_run (i := ⟨.slice 2, 1, 24, (eSi64 [])⟩) (f := eSi64) (l := x134) (l2 := [r172]) rfl rfl rfl rfl (fun _ => rfl) rfl rfl) (app_c (f := eSi64) (s := 1) (sz := 1) (by' := 24) (u := []) (id := 10) hc193 (.inr rfl) rfl rfl rfl) rfl (vp (.osl 11) rfl (vp (eSi64 r176) rfl (vq (.sl 1 true (([r176]).map eSi64)) rfl ⟨(Nat.le_of_ble_eq_true rfl), (Nat.le_of_ble_eq_true rfl), (all_cons ⟨(Nat.le_of_ble_eq_true rfl), rfl⟩ all_nil)⟩ ?_)))
          obtain ⟨hc194, h⟩ := ifp_some h
          refine vu (.osl 6300) [(6300, (bk (.row 1 (((x135 ++ ([r176]))).map eSi64)))), (11, none)] (app_run (i := ⟨.slice 2, 1, 24, (eSi64 [])⟩) (f := eSi64) (l := x135) (l2 := [r176]) rfl rfl rfl rfl (fun _ => rfl) rfl rfl) (app_c (f := eSi64) (s := 1) (sz := 1) (by' := 24) (u := []) (id := 11) hc194 (.inr rfl) rfl rfl rfl) rfl (vp (.osl 5900) rfl (vp (.osl 6300) rfl (a_nil (b_norm (a_next (σ' := ⟨[(0, (i6 a0)), (6, (eSi64 r172)), (7, (eSi64 r176)), (8, (eSi64 x129)), (9, (eSi64 x130)), (10, (.osl 10)), (11, (.osl 11)), (16, (eSSi64 a1)), (17, (i6 (a1.length : Int))), (18, (i6 x133))], [(10, (bk (.row 1 (((x134 ++ ([r172]))).map eSi64)))), (11, (bk (.row 1 (((x135 ++ ([r176]))).map eSi64))))]⟩) (by kernel_rfl) (a_region (vp (i6 (IntKind.i64.wrap (x133 + 1))) rfl (vp (i6 (IntKind.i64.wrap (x133 + 1))) rfl (a_nil ?_)))))))))
          cases h
          exact a_again (by kernel_rfl) hX166
        · have h := ite_t hb192 h
          refine a_cond_t rfl (a_exit (t_exit (b_other rfl (t_exit ?_))))
          cases h
          have h := hX166
          refine t_exit (b_exit ?_)
          exact j_leaf (x134, x135) (Option.some.inj h) (by kernel_rfl)
      · have h := hy185
        refine a_region (vp (eSi64 r172) rfl ?_)
        obtain ⟨r187, hr188, h⟩ := bind_some h
        refine a_call (args := [(eSi64 r172)]) (u := []) (r := (.bool r187)) rfl rfl (impl_row_fits_ok r172 r187 hr188) rfl (vp (.bool (!r187)) rfl (vp (.bool (!r187)) rfl ?_))
        cases hb189 : (!r187)
        · have h := ite_f hb189 h
          refine gp (eSi64 r176) rfl rfl ?_
          obtain ⟨r190, hr191, h⟩ := bind_some h
          refine a_gcall rfl (args := [(eSi64 r176)]) (u := []) (r := (.bool r190)) rfl rfl (impl_row_fits_ok r176 r190 hr191) rfl (gp (.bool (!r190)) rfl rfl (vp (.bool (!r190)) rfl (a_nil ?_)))
          exact j_leaf (!r190) (Option.some.inj h) (by kernel_rfl)
        · have h := ite_t hb189 h
          refine a_gskip rfl (a_gskip rfl (a_gskip rfl (vp (.bool true) rfl (a_nil ?_))))
          exact j_leaf true (Option.some.inj h) (by kernel_rfl)
def impl_ConvergentsOf_c : ACode := (.seq (.region 0 [q 4 (.asg 1 (.const (.slice none 0 0)) 55), q 5 (.asg 1 (.const (.slice none 0 0)) 55), q 6 (.asg 0 (.const (.int .i64 0)) 2)] false) (.seq (.seq (.region 1 [q 10 (.mov (t 0)), q 11 (.mov (t 1)), q 12 (.call 0 (.func 100) [(t 10), (t 11)]), q 7 (.asg 0 (t 12) 2)] false) (.seq (.region 2 [q 13 (.mov (t 7)), q 14 (.bin .neq 2 (t 13) (.const (.int .i64 0)))] false) (.cond (t 14) (.seq (.region 3 [q 15 (.mov (t 7)), q 4 (.asg 1 (.const (.slice none 0 0)) 55), q 5 (.asg 1 (.const (.slice none 0 0)) 55), q 6 (.asg 0 (t 15) 2)] false) .ret) .skip))) (.seq (.seq (.region 4 [q 16 (.mov (t 1)), q 17 (.blt 0 .len [(t 16)] [55]), q 18 (.bin .lss 3 (t 17) (.const (.int .i64 1))), q 19 (.mov (t 18)), ⟨some 20, .mov (t 1), some (19, false), []⟩, ⟨some 21, .blt 0 .len [(t 20)] [55], some (19, false), []⟩, ⟨some 22, .bin .gtr 3 (t 21) (.const (.int .i64 30)), some (19, false), []⟩, q 23 (.pick (t 19) (.const (.bool true)) (t 22))] false) (.cond (t 23) (.seq (.region 5 [q 4 (.asg 1 (.const (.slice none 0 0)) 55), q 5 (.asg 1 (.const (.slice none 0 0)) 55), q 6 (.asg 0 (.const (.int .i64 2)) 2)] false) .ret) .skip)) (.seq (.region 6 [q 25 (.mov (t 0)), q 26 (.mov (t 1)), q 27 (.call 0 (.func 158) [(t 26)]), q 28 (.call 0 (.func 157) [(t 25), (t 27)]), q 24 (.mov (t 28)), q 29 (.extract (t 24) 0), q 30 (.extract (t 24) 1), q 8 (.asg 1 (t 29) 108), q 9 (.asg 1 (t 30) 108)] false) (.seq (.seq (.region 7 [q 31 (.mov (t 8)), q 32 (.blt 0 .len [(t 31)] [108]), q 33 (.mov (t 1)), q 34 (.blt 0 .len [(t 33)] [55]), q 35 (.bin .lss 3 (t 32) (t 34))] false) (.cond (t 35) (.seq (.region 8 [q 4 (.asg 1 (.const (.slice none 0 0)) 55), q 5 (.asg 1 (.const (.slice none 0 0)) 55), q 6 (.asg 0 (.const (.int .i64 3)) 2)] false) .ret) .skip)) (.seq (.region 9 [q 36 (.mov (t 8)), q 37 (.call 0 (.func 151) [(t 36)]), q 38 (.mov (t 9)), q 39 (.call 0 (.func 151) [(t 38)]), q 4 (.asg 1 (t 37) 55), q 5 (.asg 1 (t 39) 55), q 6 (.asg 0 (.const (.int .i64 0)) 2)] false) .ret))))))
def impl_ConvergentsOf_L : Live := [(0, [0, 1]), (1, [0, 1]), (2, [0, 1, 7]), (3, [7]), (4, [0, 1]), (5, []), (6, [0, 1]), (7, [1, 8, 9]), (8, []), (9, [8, 9]), (100014, [0, 1, 7, 14]), (100023, [0, 1, 23]), (100035, [8, 9, 35])]
noncomputable def impl_ConvergentsOf (a0 : Int) (a1 : (List (Vec Int 64))) : Option ((List (Vec Int 64)) × (List (Vec Int 64)) × Int) :=
  (Option.bind (impl_polysCode a0 a1) fun r1 => (if (r1 != 0) then (some ([], [], r1)) else (Option.bind (α := Bool) ((if (decide ((a1.length : Int) < 1)) then (some true) else (some ((decide ((a1.length : Int) > 30)))))) fun x5 => (if x5 then (some ([], [], 2)) else (Option.bind (impl_rows a1) fun r11 => (Option.bind (impl_prime_convergents a0 r11) fun r13 => (if (decide ((r13.1.length : Int) < (a1.length : Int))) then (some ([], [], 3)) else (Option.bind (impl_polys r13.1) fun r16 => (Option.bind (impl_polys r13.2) fun r18 => (some (r16, r18, 0)))))))))))
theorem impl_ConvergentsOf_ok (a0 : Int) (a1 : (List (Vec Int 64))) (r : ((List (Vec Int 64)) × (List (Vec Int 64)) × Int)) (h : impl_ConvergentsOf a0 a1 = some r) : Den Try.prog 70 [(i6 a0), (eSA64u8 a1)] { r := (.tuple [(eSA64u8 r.1), (eSA64u8 r.2.1), (i6 r.2.2)]) } := by
  refine den_of (rs := [(eSA64u8 r.1), (eSA64u8 r.2.1), (i6 r.2.2)]) (ac := impl_ConvergentsOf_c) (L := impl_ConvergentsOf_L) (n := 40) (m := [(4, 1), (5, 1), (8, 1), (9, 1)]) (c := Try.f70.body.getD .skip) good Try.func70 (by kernel_rfl) (by kernel_rfl) Try.ntmps70 rfl rfl (by kernel_rfl) rfl rfl ?_
  refine a_st (σ' := ⟨[(0, (i6 a0)), (1, (eSA64u8 a1))], []⟩) (by kernel_rfl) ?_
  unfold impl_ConvergentsOf_c
  refine sr (vp (eSA64u8 ([])) rfl (vp (eSA64u8 ([])) rfl (vp (i6 0) rfl (nx ⟨[(0, (i6 a0)), (1, (eSA64u8 a1))], []⟩ (by kernel_rfl) (a_seq (sr (vp (i6 a0) rfl (vp (eSA64u8 a1) rfl ?_))))))))
  obtain ⟨r1, hr2, h⟩ := bind_some h
  refine a_call (args := [(i6 a0), (eSA64u8 a1)]) (u := []) (r := (i6 r1)) rfl rfl (impl_polysCode_ok a0 a1 r1 hr2) rfl (vp (i6 r1) rfl (nx ⟨[(0, (i6 a0)), (1, (eSA64u8 a1)), (7, (i6 r1))], []⟩ (by kernel_rfl) (sr (vp (i6 r1) rfl (vp (.bool (r1 != 0)) rfl (nx ⟨[(0, (i6 a0)), (1, (eSA64u8 a1)), (7, (i6 r1)), (14, (.bool (r1 != 0)))], []⟩ (by kernel_rfl) ?_))))))
  cases hb3 : (r1 != 0)
  · have h := ite_f hb3 h
    refine a_cond_f rfl (a_skip (a_next (σ' := ⟨[(0, (i6 a0)), (1, (eSA64u8 a1))], []⟩) (by kernel_rfl) (a_seq ?_)))
    obtain ⟨y6, hy7, hk8⟩ := bind_some h
    clear h
    refine a_join (emb := fun (s : Bool) => ⟨[(0, (i6 a0)), (1, (eSA64u8 a1)), (23, (.bool s))], []⟩) (pre := fun s => s = y6) ?_ ?_
    · rintro x5 rfl
      have h := hk8
      refine a_st (σ' := ⟨[(0, (i6 a0)), (1, (eSA64u8 a1)), (23, (.bool x5))], []⟩) (by kernel_rfl) ?_
      cases hb10 : x5
      · have h := ite_f hb10 h
        refine a_cond_f rfl (a_skip (a_next (σ' := ⟨[(0, (i6 a0)), (1, (eSA64u8 a1))], []⟩) (by kernel_rfl) (sr (vp (i6 a0) rfl (vp (eSA64u8 a1) rfl ?_)))))
        obtain ⟨r11, hr12, h⟩ := bind_some h
        refine a_call (args := [(eSA64u8 a1)]) (u := []) (r := (eSSi64 r11)) rfl rfl (impl_rows_ok a1 r11 hr12) rfl ?_
        obtain ⟨r13, hr14, h⟩ := bind_some h
        refine a_call (args := [(i6 a0), (eSSi64 r11)]) (u := []) (r := (.tuple [(eSSi64 r13.1), (eSSi64 r13.2)])) rfl rfl (impl_prime_convergents_ok a0 r11 r13 hr14) rfl (vp (.tuple [(eSSi64 r13.1), (eSSi64 r13.2)]) rfl (vb (eSSi64 r13.1) rfl rfl (vb (eSSi64 r13.2) rfl rfl (vp (eSSi64 r13.1) rfl (vp (eSSi64 r13.2) rfl (nx ⟨[(1, (eSA64u8 a1)), (8, (eSSi64 r13.1)), (9, (eSSi64 r13.2))], []⟩ (by kernel_rfl) (a_seq (sr (vp (eSSi64 r13.1) rfl ?_)))))))))
        refine vq (i6 (r13.1.length : Int)) (len_run rfl rfl) trivial (vp (eSA64u8 a1) rfl (vq (i6 (a1.length : Int)) (len_run rfl rfl) trivial (vp (.bool ((decide ((r13.1.length : Int) < (a1.length : Int))))) rfl (nx ⟨[(8, (eSSi64 r13.1)), (9, (eSSi64 r13.2)), (35, (.bool ((decide ((r13.1.length : Int) < (a1.length : Int))))))], []⟩ (by kernel_rfl) ?_))))
        cases hb15 : (decide ((r13.1.length : Int) < (a1.length : Int)))
        · have h := ite_f hb15 h
          refine a_cond_f rfl (a_skip (a_next (σ' := ⟨[(8, (eSSi64 r13.1)), (9, (eSSi64 r13.2))], []⟩) (by kernel_rfl) (sr (vp (eSSi64 r13.1) rfl ?_))))
          obtain ⟨r16, hr17, h⟩ := bind_some h
          refine a_call (args := [(eSSi64 r13.1)]) (u := []) (r := (eSA64u8 r16)) rfl rfl (impl_polys_ok r13.1 r16 hr17) rfl (vp (eSSi64 r13.2) rfl ?_)
          obtain ⟨r18, hr19, h⟩ := bind_some h
          refine a_call (args := [(eSSi64 r13.2)]) (u := []) (r := (eSA64u8 r18)) rfl rfl (impl_polys_ok r13.2 r18 hr19) rfl (vp (eSA64u8 r16) rfl (vp (eSA64u8 r18) rfl (vp (i6 0) rfl (nx _ rfl (a_ret ?_)))))
          refine ⟨.inr rfl, ?_⟩
          rw [Try.results70]
          cases h
          exact ⟨_, _, _, _, _, rfl, trivial, .inl ⟨rfl, .inl rfl⟩, rfl, ⟨_, _, _, _, _, rfl, trivial, .inl ⟨rfl, .inl rfl⟩, rfl, ⟨_, _, _, _, _, rfl, trivial, .inl ⟨rfl, .inl rfl⟩, rfl, rfl⟩⟩⟩
        · have h := ite_t hb15 h
          refine a_cond_t rfl (sr (vp (eSA64u8 ([])) rfl (vp (eSA64u8 ([])) rfl (vp (i6 3) rfl (nx _ rfl (a_ret (t_ret ?_)))))))
          refine ⟨.inr rfl, ?_⟩
          rw [Try.results70]
          cases h
          exact ⟨_, _, _, _, _, rfl, trivial, .inl ⟨rfl, .inl rfl⟩, rfl, ⟨_, _, _, _, _, rfl, trivial, .inl ⟨rfl, .inl rfl⟩, rfl, ⟨_, _, _, _, _, rfl, trivial, .inl ⟨rfl, .inl rfl⟩, rfl, rfl⟩⟩⟩
      · have h := ite_t hb10 h
        refine a_cond_t rfl (sr (vp (eSA64u8 ([])) rfl (vp (eSA64u8 ([])) rfl (vp (i6 2) rfl (nx _ rfl (a_ret (t_ret ?_)))))))
        refine ⟨.inr rfl, ?_⟩
        rw [Try.results70]
        cases h
        exact ⟨_, _, _, _, _, rfl, trivial, .inl ⟨rfl, .inl rfl⟩, rfl, ⟨_, _, _, _, _, rfl, trivial, .inl ⟨rfl, .inl rfl⟩, rfl, ⟨_, _, _, _, _, rfl, trivial, .inl ⟨rfl, .inl rfl⟩, rfl, rfl⟩⟩⟩
    · have h := hy7
      refine a_region (vp (eSA64u8 a1) rfl (vq (i6 (a1.length : Int)) (len_run rfl rfl) trivial (vp (.bool ((decide ((a1.length : Int) < 1)))) rfl (vp (.bool ((decide ((a1.length : Int) < 1)))) rfl ?_))))
      cases hb9 : (decide ((a1.length : Int) < 1))
      · have h := ite_f hb9 h
        refine gp (eSA64u8 a1) rfl rfl (gq (i6 (a1.length : Int)) rfl (len_run rfl rfl) trivial (gp (.bool ((decide ((a1.length : Int) > 30)))) rfl rfl (vp (.bool ((decide ((a1.length : Int) > 30)))) rfl (a_nil ?_))))
        exact j_leaf ((decide ((a1.length : Int) > 30))) (Option.some.inj h) (by kernel_rfl)
      · have h := ite_t hb9 h
        refine a_gskip rfl (a_gskip rfl (a_gskip rfl (vp (.bool true) rfl (a_nil ?_))))
        exact j_leaf true (Option.some.inj h) (by kernel_rfl)
  · have h := ite_t hb3 h
    refine a_cond_t rfl (sr (vp (i6 r1) rfl (vp (eSA64u8 ([])) rfl (vp (eSA64u8 ([])) rfl (vp (i6 r1) rfl (nx _ rfl (a_ret (t_ret ?_))))))))
    refine ⟨.inr rfl, ?_⟩
    rw [Try.results70]
    cases h
    exact ⟨_, _, _, _, _, rfl, trivial, .inl ⟨rfl, .inl rfl⟩, rfl, ⟨_, _, _, _, _, rfl, trivial, .inl ⟨rfl, .inl rfl⟩, rfl, ⟨_, _, _, _, _, rfl, trivial, .inl ⟨rfl, .inl rfl⟩, rfl, rfl⟩⟩⟩
def spec_l01One_c : ACode := (.seq (.region 0 [q 0 (.alloc 25)] false) (.seq (.region 1 [q 1 (.build 25 [(0, (.const (.int .u8 1)))]), ⟨none, .store 25 (t 0) (t 1), none, []⟩] false) .ret))
def spec_l01One_L : Live := [(0, []), (1, [0])]
noncomputable def spec_l01One  : Option (Vec Int 64) :=
  (some ((vset (vrep 64 (0 : Int)) 0 1)))
theorem spec_l01One_ok  (r : (Vec Int 64)) (h : spec_l01One = some r) : Den Try.prog 133 [] { r := (eA64u8 r) } := by
  refine den_of (rs := [(eA64u8 r)]) (ac := spec_l01One_c) (L := spec_l01One_L) (n := 2) (m := []) (c := Try.f133.body.getD .skip) good Try.func133 (by kernel_rfl) (by kernel_rfl) Try.ntmps133 rfl rfl (by kernel_rfl) rfl rfl ?_
  refine a_st (σ' := ⟨[], []⟩) (by kernel_rfl) ?_
  unfold spec_l01One_c
  refine sr (vo 1000 (eA64u8 ((vrep 64 (0 : Int)))) rfl rfl (nx ⟨[(0, (ow 0))], [(0, (bk (eA64u8 ((vrep 64 (0 : Int))))))]⟩ (by kernel_rfl) (sr (vq (eA64u8 ((vset (vrep 64 (0 : Int)) 0 1))) rfl ⟨⟨_, rfl, rfl⟩, (all_cons ⟨(Nat.le_of_ble_eq_true rfl), rfl⟩ all_nil)⟩ (vs (eA64u8 ((vset (vrep 64 (0 : Int)) 0 1))) rfl rfl (fun _ => rfl) rfl rfl rfl rfl rfl rfl (nx _ rfl (a_ret ?_)))))))
  have hl2 : LdOk [] (eA64u8 ((vset (vrep 64 (0 : Int)) 0 1))) [] 64 true (eA64u8 ((vset (vrep 64 (0 : Int)) 0 1))) := (.nil rfl rfl rfl)
  refine ⟨.inr rfl, ?_⟩
  rw [Try.results133]
  cases h
  exact ⟨_, _, _, _, _, ld_own (i := ⟨.arr 64 5, 64, 64, (eA64u8 (vrep 64 (0 : Int)))⟩) rfl rfl rfl hl2, hl2.c, .inl ⟨rfl, .inl rfl⟩, rfl, rfl⟩
def spec_l01Times_c : ACode := (.seq (.region 0 [q 4 (.box 25 (t 1)), q 5 (.box 25 (t 2)), q 6 (.alloc 25), q 7 (.asg 0 (.const (.bool false)) 4)] false) (.seq (.region 1 [q 13 (.load 25 (t 4)), ⟨some 14, .call 0 (.func 112) [(t 13)], none, [0]⟩, q 15 (.load 25 (t 5)), ⟨some 16, .call 0 (.func 112) [(t 15)], none, [2, 1]⟩, q 17 (.build 25 []), q 10 (.alloc 25), ⟨some 8, .asg 0 (t 14) 2, none, [1, 3, 0, 1, 5]⟩, ⟨some 9, .asg 0 (t 16) 2, none, [3, 6, 0, 1, 2, 3, 5, 6]⟩, ⟨none, .store 25 (t 10) (t 17), none, [5, 4, 7, 0, 1, 2, 3, 4, 5, 6, 7]⟩] true) (.seq (.seq (.region 2 [q 18 (.mov (t 8)), q 19 (.bin .lss 2 (t 18) (.const (.int .i64 0))), q 20 (.mov (t 19)), ⟨some 21, .mov (t 9), some (20, false), []⟩, ⟨some 22, .bin .lss 2 (t 21) (.const (.int .i64 0)), some (20, false), []⟩, q 23 (.pick (t 20) (.const (.bool true)) (t 22))] false) (.cond (t 23) (.seq (.region 3 [q 24 (.load 25 (t 10)), ⟨none, .store 25 (t 6) (t 24), none, []⟩, q 7 (.asg 0 (.const (.bool true)) 4)] false) .ret) .skip)) (.seq (.seq (.region 4 [q 25 (.mov (t 8)), q 26 (.mov (t 9)), q 27 (.bin .add 2 (t 25) (t 26)), q 28 (.bin .gtr 2 (t 27) (.const (.int .i64 63)))] false) (.cond (t 28) (.seq (.region 5 [q 29 (.load 25 (t 10)), ⟨none, .store 25 (t 6) (t 29), none, []⟩, q 7 (.asg 0 (.const (.bool false)) 4)] false) .ret) .skip)) (.seq (.seq (.region 6 [q 11 (.asg 0 (.const (.int .i64 0)) 2)] false) (.block 0 (.loop (.seq (.seq (.region 7 [q 30 (.mov (t 11)), q 31 (.mov (t 8)), q 32 (.bin .leq 2 (t 30) (t 31))] false) (.cond (t 32) .skip (.exit 0))) (.seq (.block 1 (.seq (.region 9 [q 12 (.asg 0 (.const (.int .i64 0)) 2)] false) (.block 2 (.loop (.seq (.seq (.region 10 [q 35 (.mov (t 12)), q 36 (.mov (t 9)), q 37 (.bin .leq 2 (t 35) (t 36)), q 38 (.mov (t 37)), ⟨some 39, .mov (t 11), some (38, true), []⟩, ⟨some 40, .indexAddr 25 (t 4) (t 39), some (38, true), []⟩, ⟨some 41, .load 5 (t 40), some (38, true), []⟩, ⟨some 42, .bin .neq 5 (t 41) (.const (.int .u8 0)), some (38, true), []⟩, q 43 (.pick (t 38) (t 42) (.const (.bool false)))] false) (.cond (t 43) .skip (.exit 2))) (.seq (.block 3 (.region 12 [q 46 (.mov (t 11)), q 47 (.mov (t 12)), ⟨some 48, .bin .add 2 (t 46) (t 47), none, [0, 1]⟩, q 49 (.mov (t 11)), q 50 (.mov (t 12)), ⟨some 51, .bin .add 2 (t 49) (t 50), none, [3, 4]⟩, ⟨some 52, .indexAddr 25 (t 10) (t 51), none, [5]⟩, ⟨some 53, .load 5 (t 52), none, [6]⟩, ⟨some 54, .conv 5 2 (t 53), none, [7]⟩, q 55 (.mov (t 11)), ⟨some 56, .indexAddr 25 (t 4) (t 55), none, [9]⟩, ⟨some 57, .load 5 (t 56), none, [10]⟩, ⟨some 58, .conv 5 2 (t 57), none, [11]⟩, q 59 (.mov (t 12)), ⟨some 60, .indexAddr 25 (t 5) (t 59), none, [13]⟩, ⟨some 61, .load 5 (t 60), none, [14]⟩, ⟨some 62, .conv 5 2 (t 61), none, [15]⟩, ⟨some 63, .bin .mul 2 (t 58) (t 62), none, [12, 16]⟩, ⟨some 64, .bin .add 2 (t 54) (t 63), none, [8, 17]⟩, q 65 (.mov (t 0)), ⟨some 66, .bin .rem 2 (t 64) (t 65), none, [18, 19]⟩, ⟨some 67, .conv 2 5 (t 66), none, [20]⟩, ⟨some 68, .indexAddr 25 (t 10) (t 48), none, [2, 0, 1, 2, 3, 4, 5, 6, 7, 8, 9, 10, 11, 12, 13, 14, 15, 16, 17, 18, 19, 20, 21]⟩, ⟨none, .store 5 (t 68) (t 67), none, [22, 21, 0, 1, 2, 3, 4, 5, 6, 7, 8, 9, 10, 11, 12, 13, 14, 15, 16, 17, 18, 19, 20, 21]⟩] true)) (.region 11 [q 44 (.mov (t 12)), q 45 (.bin .add 2 (t 44) (.const (.int .i64 1))), q 12 (.asg 0 (t 45) 2)] false))))))) (.region 8 [q 33 (.mov (t 11)), q 34 (.bin .add 2 (t 33) (.const (.int .i64 1))), q 11 (.asg 0 (t 34) 2)] false)))))) (.seq (.region 13 [q 69 (.load 25 (t 10)), ⟨none, .store 25 (t 6) (t 69), none, []⟩, q 7 (.asg 0 (.const (.bool true)) 4)] false) .ret))))))
def spec_l01Times_L : Live := [(0, [0, 1, 2]), (1, [0, 4, 5, 6]), (2, [0, 4, 5, 6, 8, 9, 10]), (3, [6, 10]), (4, [0, 4, 5, 6, 8, 9, 10]), (5, [6, 10]), (6, [0, 4, 5, 6, 8, 9, 10]), (7, [0, 4, 5, 6, 8, 9, 10, 11]), (8, [0, 4, 5, 6, 8, 9, 10, 11]), (9, [0, 4, 5, 6, 8, 9, 10, 11]), (10, [0, 4, 5, 6, 8, 9, 10, 11, 12]), (11, [0, 4, 5, 6, 8, 9, 10, 11, 12]), (12, [0, 4, 5, 6, 8, 9, 10, 11, 12]), (13, [6, 10]), (100023, [0, 4, 5, 6, 8, 9, 10, 23]), (100028, [0, 4, 5, 6, 8, 9, 10, 28]), (100032, [0, 4, 5, 6, 8, 9, 10, 11, 32]), (100043, [0, 4, 5, 6, 8, 9, 10, 11, 12, 43])]
noncomputable def spec_l01Times_l2 (r12 : Int) (x1081 : Int) (a1 : (Vec Int 64)) (a2 : (Vec Int 64)) (a0 : Int) (x1524 : Int) (x1525 : (Vec Int 64)) : Option ((Int × (Vec Int 64)) ⊕ (Vec Int 64)) :=
  (Option.bind (α := Bool) ((if (decide (x1524 ≤ r12)) then (ifp (0 ≤ x1081 ∧ x1081 < ((64 : Nat) : Int)) ((some (((rd a1.1 x1081.toNat) != 0))))) else (some false))) fun x1573 => (if x1573 then (ifp (0 ≤ IntKind.i64.wrap (x1081 + x1524) ∧ IntKind.i64.wrap (x1081 + x1524) < ((64 : Nat) : Int)) ((letp (IntKind.i64.wrap ((rd x1525.1 (IntKind.i64.wrap (x1081 + x1524)).toNat))) fun x1598 => (ifp (0 ≤ x1081 ∧ x1081 < ((64 : Nat) : Int)) ((ifp (0 ≤ x1524 ∧ x1524 < ((64 : Nat) : Int)) ((letp (IntKind.i64.wrap ((IntKind.i64.wrap (rd a1.1 x1081.toNat)) * (IntKind.i64.wrap (rd a2.1 x1524.toNat)))) fun x1604 => (ifp (a0 ≠ 0) ((letp (IntKind.u8.wrap (Int.tmod (IntKind.i64.wrap (x1598 + x1604)) a0)) fun x1607 => (ifp (0 ≤ IntKind.i64.wrap (x1081 + x1524) ∧ IntKind.i64.wrap (x1081 + x1524) < ((64 : Nat) : Int)) ((some (.inl ((IntKind.i64.wrap (x1524 + 1), (vset x1525 (IntKind.i64.wrap (x1081 + x1524)).toNat x1607)))))))))))))))))) else (some (.inr x1525))))
noncomputable def spec_l01Times_l1 (r9 : Int) (r12 : Int) (a1 : (Vec Int 64)) (a2 : (Vec Int 64)) (a0 : Int) (x1081 : Int) (x1082 : (Vec Int 64)) : Option ((Int × (Vec Int 64)) ⊕ (Vec Int 64)) :=
  (if (decide (x1081 ≤ r9)) then (Option.bind (α := (Vec Int 64)) ((loopM (fun s : (Int × (Vec Int 64)) => spec_l01Times_l2 r12 x1081 a1 a2 a0 s.1 s.2) (0, x1082))) fun x1479 => (some (.inl ((IntKind.i64.wrap (x1081 + 1), x1479))))) else (some (.inr x1082)))
noncomputable def spec_l01Times (a0 : Int) (a1 : (Vec Int 64)) (a2 : (Vec Int 64)) : Option ((Vec Int 64) × Bool) :=
  (Option.bind (spec_l01Deg a1) fun r9 => (Option.bind (spec_l01Deg a2) fun r12 => (Option.bind (α := Bool) ((if (decide (r9 < 0)) then (some true) else (some ((decide (r12 < 0)))))) fun x16 => (if x16 then (some (((vrep 64 (0 : Int)), true))) else (if (decide ((IntKind.i64.wrap (r9 + r12)) > 63)) then (some (((vrep 64 (0 : Int)), false))) else (Option.bind (α := (Vec Int 64)) ((loopM (fun s : (Int × (Vec Int 64)) => spec_l01Times_l1 r9 r12 a1 a2 a0 s.1 s.2) (0, (vrep 64 (0 : Int))))) fun x814 => (some (x814, true))))))))
theorem spec_l01Times_ok (a0 : Int) (a1 : (Vec Int 64)) (a2 : (Vec Int 64)) (r : ((Vec Int 64) × Bool)) (h : spec_l01Times a0 a1 a2 = some r) : Den Try.prog 105 [(i6 a0), (eA64u8 a1), (eA64u8 a2)] { r := (.tuple [(eA64u8 r.1), (.bool r.2)]) } := by
  refine den_of (rs := [(eA64u8 r.1), (.bool r.2)]) (ac := spec_l01Times_c) (L := spec_l01Times_L) (n := 70) (m := []) (c := Try.f105.body.getD .skip) good Try.func105 (by kernel_rfl) (by kernel_rfl) Try.ntmps105 rfl rfl (by kernel_rfl) rfl rfl ?_
  refine a_st (σ' := ⟨[(0, (i6 a0)), (1, (eA64u8 a1)), (2, (eA64u8 a2))], []⟩) (by kernel_rfl) ?_
  unfold spec_l01Times_c
  refine sr (vo 1400 (eA64u8 a1) rfl rfl (vo 1500 (eA64u8 a2) rfl rfl (vo 1600 (eA64u8 ((vrep 64 (0 : Int)))) rfl rfl (vp (.bool false) rfl (nx ⟨[(0, (i6 a0)), (4, (ow 4)), (5, (ow 5)), (6, (ow 6))], [(4, (bk (eA64u8 a1))), (5, (bk (eA64u8 a2))), (6, (bk (eA64u8 ((vrep 64 (0 : Int))))))]⟩ (by kernel_rfl) (a_seq (a_draw [⟨[4], [], [], []⟩, ⟨[], [], [], [0]⟩, ⟨[5], [], [], []⟩, ⟨[], [], [], [0, 1, 2]⟩, ⟨[], [], [], []⟩, ⟨[2000], [2000], [2000], []⟩, ⟨[], [], [], [0, 1, 2, 3, 5]⟩, ⟨[], [], [], [0, 1, 2, 3, 5, 6]⟩, ⟨[2000], [2000], [], [0, 1, 2, 3, 4, 5, 6, 7]⟩] (by kernel_rfl) (d_cons (vl (eA64u8 a1) rfl rfl rfl rfl rfl rfl ?_)))))))))
  refine d_next (by kernel_rfl) (d_cons ?_)
  obtain ⟨r9, hr10, h⟩ := bind_some h
  refine a_call (args := [(eA64u8 a1)]) (u := []) (r := (i6 r9)) rfl rfl (spec_l01Deg_ok a1 r9 hr10) rfl (d_next (by kernel_rfl) (d_cons (vl (eA64u8 a2) rfl rfl rfl rfl rfl rfl (d_next (by kernel_rfl) (d_cons ?_)))))
  obtain ⟨r12, hr13, h⟩ := bind_some h
  refine a_call (args := [(eA64u8 a2)]) (u := []) (r := (i6 r12)) rfl rfl (spec_l01Deg_ok a2 r12 hr13) rfl (d_next (by kernel_rfl) (d_cons (vq (eA64u8 ((vrep 64 (0 : Int)))) rfl ⟨⟨_, rfl, rfl⟩, all_nil⟩ (d_next (by kernel_rfl) (d_cons (vo 2000 (eA64u8 ((vrep 64 (0 : Int)))) rfl rfl (d_next (by kernel_rfl) (dp (i6 r9) rfl (by kernel_rfl) (dp (i6 r12) rfl (by kernel_rfl) ?_)))))))))
  refine d_cons (vs (eA64u8 ((vrep 64 (0 : Int)))) rfl rfl (fun _ => rfl) rfl rfl rfl rfl rfl rfl (d_next (by kernel_rfl) (d_nil (a_next (σ' := ⟨[(0, (i6 a0)), (4, (ow 4)), (5, (ow 5)), (6, (ow 6)), (8, (i6 r9)), (9, (i6 r12)), (10, (ow 10))], [(4, (bk (eA64u8 a1))), (5, (bk (eA64u8 a2))), (6, (bk (eA64u8 ((vrep 64 (0 : Int)))))), (10, (bk (eA64u8 ((vrep 64 (0 : Int))))))]⟩) (by kernel_rfl) (a_seq ?_)))))
  obtain ⟨y17, hy18, hk19⟩ := bind_some h
  clear h
  refine a_join (emb := fun (s : Bool) => ⟨[(0, (i6 a0)), (4, (ow 4)), (5, (ow 5)), (6, (ow 6)), (8, (i6 r9)), (9, (i6 r12)), (10, (ow 10)), (23, (.bool s))], [(4, (bk (eA64u8 a1))), (5, (bk (eA64u8 a2))), (6, (bk (eA64u8 ((vrep 64 (0 : Int)))))), (10, (bk (eA64u8 ((vrep 64 (0 : Int))))))]⟩) (pre := fun s => s = y17) ?_ ?_
  · rintro x16 rfl
    have h := hk19
    refine a_st (σ' := ⟨[(0, (i6 a0)), (4, (ow 4)), (5, (ow 5)), (6, (ow 6)), (8, (i6 r9)), (9, (i6 r12)), (10, (ow 10)), (23, (.bool x16))], [(4, (bk (eA64u8 a1))), (5, (bk (eA64u8 a2))), (6, (bk (eA64u8 ((vrep 64 (0 : Int)))))), (10, (bk (eA64u8 ((vrep 64 (0 : Int))))))]⟩) (by kernel_rfl) ?_
    cases hb21 : x16
    · have h := ite_f hb21 h
      refine a_cond_f rfl (a_skip (a_next (σ' := ⟨[(0, (i6 a0)), (4, (ow 4)), (5, (ow 5)), (6, (ow 6)), (8, (i6 r9)), (9, (i6 r12)), (10, (ow 10))], [(4, (bk (eA64u8 a1))), (5, (bk (eA64u8 a2))), (6, (bk (eA64u8 ((vrep 64 (0 : Int)))))), (10, (bk (eA64u8 ((vrep 64 (0 : Int))))))]⟩) (by kernel_rfl) (a_seq (sr (vp (i6 r9) rfl (vp (i6 r12) rfl (vp (i6 (IntKind.i64.wrap (r9 + r12))) rfl (vp (.bool ((decide ((IntKind.i64.wrap (r9 + r12)) > 63)))) rfl (nx ⟨[(0, (i6 a0)), (4, (ow 4)), (5, (ow 5)), (6, (ow 6)), (8, (i6 r9)), (9, (i6 r12)), (10, (ow 10)), (28, (.bool ((decide ((IntKind.i64.wrap (r9 + r12)) > 63)))))], [(4, (bk (eA64u8 a1))), (5, (bk (eA64u8 a2))), (6, (bk (eA64u8 ((vrep 64 (0 : Int)))))), (10, (bk (eA64u8 ((vrep 64 (0 : Int))))))]⟩ (by kernel_rfl) ?_)))))))))
      cases hb22 : (decide ((IntKind.i64.wrap (r9 + r12)) > 63))
      · have h := ite_f hb22 h
        refine a_cond_f rfl (a_skip (a_next (σ' := ⟨[(0, (i6 a0)), (4, (ow 4)), (5, (ow 5)), (6, (ow 6)), (8, (i6 r9)), (9, (i6 r12)), (10, (ow 10))], [(4, (bk (eA64u8 a1))), (5, (bk (eA64u8 a2))), (6, (bk (eA64u8 ((vrep 64 (0 : Int)))))), (10, (bk (eA64u8 ((vrep 64 (0 : Int))))))]⟩) (by kernel_rfl) ?_))
        obtain ⟨y815, hy816, hk817⟩ := bind_some h
        clear h
        refine a_join (emb := fun (s : (Vec Int 64)) => ⟨[(6, (ow 6)), (10, (ow 10))], [(6, (bk (eA64u8 ((vrep 64 (0 : Int)))))), (10, (bk (eA64u8 s)))]⟩) (pre := fun s => s = y815) ?_ ?_
        · rintro x814 rfl
          have h := hk817
          refine a_st (σ' := ⟨[(6, (ow 6)), (10, (ow 10))], [(6, (bk (eA64u8 ((vrep 64 (0 : Int)))))), (10, (bk (eA64u8 x814)))]⟩) (by kernel_rfl) (sr (vl (eA64u8 x814) rfl rfl rfl rfl rfl rfl (vs (eA64u8 x814) rfl rfl (fun _ => rfl) rfl rfl rfl rfl rfl rfl (vp (.bool true) rfl (nx _ rfl (a_ret ?_))))))
          have hl1615 : LdOk [] (eA64u8 x814) [] 64 true (eA64u8 x814) := (.nil rfl rfl rfl)
          refine ⟨.inr rfl, ?_⟩
          rw [Try.results105]
          cases h
          exact ⟨_, _, _, _, _, ld_own (i := ⟨.arr 64 5, 64, 64, (eA64u8 (vrep 64 (0 : Int)))⟩) rfl rfl rfl hl1615, hl1615.c, .inl ⟨rfl, .inl rfl⟩, rfl, ⟨_, _, _, _, _, rfl, trivial, .inl ⟨rfl, .inl rfl⟩, rfl, rfl⟩⟩
        · have h := hy816
          refine sr (vp (i6 0) rfl (nx ⟨[(0, (i6 a0)), (4, (ow 4)), (5, (ow 5)), (6, (ow 6)), (8, (i6 r9)), (9, (i6 r12)), (10, (ow 10)), (11, (i6 0))], [(4, (bk (eA64u8 a1))), (5, (bk (eA64u8 a2))), (6, (bk (eA64u8 ((vrep 64 (0 : Int)))))), (10, (bk (eA64u8 ((vrep 64 (0 : Int))))))]⟩ (by kernel_rfl) (a_block ?_)))
          refine a_loop (emb := fun (s : (Int × (Vec Int 64))) => ⟨[(0, (i6 a0)), (4, (ow 4)), (5, (ow 5)), (6, (ow 6)), (8, (i6 r9)), (9, (i6 r12)), (10, (ow 10)), (11, (i6 s.1))], [(4, (bk (eA64u8 a1))), (5, (bk (eA64u8 a2))), (6, (bk (eA64u8 ((vrep 64 (0 : Int)))))), (10, (bk (eA64u8 s.2)))]⟩) (body := (fun s : (Int × (Vec Int 64)) => spec_l01Times_l1 r9 r12 a1 a2 a0 s.1 s.2)) (G := fun q => some q = some y815) h rfl ?_ (by kernel_rfl)
          rintro X1346 ⟨x1081, x1082⟩ x1347 h hX1348
          have h : spec_l01Times_l1 r9 r12 a1 a2 a0 x1081 x1082 = some x1347 := h
          refine a_st (σ' := ⟨[(0, (i6 a0)), (4, (ow 4)), (5, (ow 5)), (6, (ow 6)), (8, (i6 r9)), (9, (i6 r12)), (10, (ow 10)), (11, (i6 x1081))], [(4, (bk (eA64u8 a1))), (5, (bk (eA64u8 a2))), (6, (bk (eA64u8 ((vrep 64 (0 : Int)))))), (10, (bk (eA64u8 x1082)))]⟩) (by kernel_rfl) (a_seq (sr (vp (i6 x1081) rfl (vp (i6 r9) rfl (vp (.bool ((decide (x1081 ≤ r9)))) rfl (nx ⟨[(0, (i6 a0)), (4, (ow 4)), (5, (ow 5)), (6, (ow 6)), (8, (i6 r9)), (9, (i6 r12)), (10, (ow 10)), (11, (i6 x1081)), (32, (.bool ((decide (x1081 ≤ r9)))))], [(4, (bk (eA64u8 a1))), (5, (bk (eA64u8 a2))), (6, (bk (eA64u8 ((vrep 64 (0 : Int)))))), (10, (bk (eA64u8 x1082)))]⟩ (by kernel_rfl) ?_))))))
          cases hb1349 : (decide (x1081 ≤ r9))
          · have h := ite_f hb1349 h
            refine a_cond_f rfl (a_exit (t_exit ?_))
            cases h
            have h := hX1348
            refine t_exit (b_exit ?_)
            exact j_leaf x1082 (Option.some.inj h) (by kernel_rfl)
          · have h := ite_t hb1349 h
            refine a_cond_t rfl (a_skip (a_next (σ' := ⟨[(0, (i6 a0)), (4, (ow 4)), (5, (ow 5)), (6, (ow 6)), (8, (i6 r9)), (9, (i6 r12)), (10, (ow 10)), (11, (i6 x1081))], [(4, (bk (eA64u8 a1))), (5, (bk (eA64u8 a2))), (6, (bk (eA64u8 ((vrep 64 (0 : Int)))))), (10, (bk (eA64u8 x1082)))]⟩) (by kernel_rfl) ?_))
            obtain ⟨y1480, hy1481, hk1482⟩ := bind_some h
            clear h
            refine a_join (emb := fun (s : (Vec Int 64)) => ⟨[(0, (i6 a0)), (4, (ow 4)), (5, (ow 5)), (6, (ow 6)), (8, (i6 r9)), (9, (i6 r12)), (10, (ow 10)), (11, (i6 x1081))], [(4, (bk (eA64u8 a1))), (5, (bk (eA64u8 a2))), (6, (bk (eA64u8 ((vrep 64 (0 : Int)))))), (10, (bk (eA64u8 s)))]⟩) (pre := fun s => s = y1480) ?_ ?_
            · rintro x1479 rfl
              have h := hk1482
              refine a_st (σ' := ⟨[(0, (i6 a0)), (4, (ow 4)), (5, (ow 5)), (6, (ow 6)), (8, (i6 r9)), (9, (i6 r12)), (10, (ow 10)), (11, (i6 x1081))], [(4, (bk (eA64u8 a1))), (5, (bk (eA64u8 a2))), (6, (bk (eA64u8 ((vrep 64 (0 : Int)))))), (10, (bk (eA64u8 x1479)))]⟩) (by kernel_rfl) (a_region (vp (i6 x1081) rfl (vp (i6 (IntKind.i64.wrap (x1081 + 1))) rfl (vp (i6 (IntKind.i64.wrap (x1081 + 1))) rfl (a_nil ?_)))))
              cases h
              exact a_again (by kernel_rfl) hX1348
            · have h := hy1481
              refine a_block (sr (vp (i6 0) rfl (nx ⟨[(0, (i6 a0)), (4, (ow 4)), (5, (ow 5)), (6, (ow 6)), (8, (i6 r9)), (9, (i6 r12)), (10, (ow 10)), (11, (i6 x1081)), (12, (i6 0))], [(4, (bk (eA64u8 a1))), (5, (bk (eA64u8 a2))), (6, (bk (eA64u8 ((vrep 64 (0 : Int)))))), (10, (bk (eA64u8 x1082)))]⟩ (by kernel_rfl) (a_block ?_))))
              refine a_loop (emb := fun (s : (Int × (Vec Int 64))) => ⟨[(0, (i6 a0)), (4, (ow 4)), (5, (ow 5)), (6, (ow 6)), (8, (i6 r9)), (9, (i6 r12)), (10, (ow 10)), (11, (i6 x1081)), (12, (i6 s.1))], [(4, (bk (eA64u8 a1))), (5, (bk (eA64u8 a2))), (6, (bk (eA64u8 ((vrep 64 (0 : Int)))))), (10, (bk (eA64u8 s.2)))]⟩) (body := (fun s : (Int × (Vec Int 64)) => spec_l01Times_l2 r12 x1081 a1 a2 a0 s.1 s.2)) (G := fun q => some q = some y1480) h rfl ?_ (by kernel_rfl)
              rintro X1567 ⟨x1524, x1525⟩ x1568 h hX1569
              have h : spec_l01Times_l2 r12 x1081 a1 a2 a0 x1524 x1525 = some x1568 := h
              refine a_st (σ' := ⟨[(0, (i6 a0)), (4, (ow 4)), (5, (ow 5)), (6, (ow 6)), (8, (i6 r9)), (9, (i6 r12)), (10, (ow 10)), (11, (i6 x1081)), (12, (i6 x1524))], [(4, (bk (eA64u8 a1))), (5, (bk (eA64u8 a2))), (6, (bk (eA64u8 ((vrep 64 (0 : Int)))))), (10, (bk (eA64u8 x1525)))]⟩) (by kernel_rfl) (a_seq ?_)
              obtain ⟨y1574, hy1575, hk1576⟩ := bind_some h
              clear h
              refine a_join (emb := fun (s : Bool) => ⟨[(0, (i6 a0)), (4, (ow 4)), (5, (ow 5)), (6, (ow 6)), (8, (i6 r9)), (9, (i6 r12)), (10, (ow 10)), (11, (i6 x1081)), (12, (i6 x1524)), (43, (.bool s))], [(4, (bk (eA64u8 a1))), (5, (bk (eA64u8 a2))), (6, (bk (eA64u8 ((vrep 64 (0 : Int)))))), (10, (bk (eA64u8 x1525)))]⟩) (pre := fun s => s = y1574) ?_ ?_
              · rintro x1573 rfl
                have h := hk1576
                refine a_st (σ' := ⟨[(0, (i6 a0)), (4, (ow 4)), (5, (ow 5)), (6, (ow 6)), (8, (i6 r9)), (9, (i6 r12)), (10, (ow 10)), (11, (i6 x1081)), (12, (i6 x1524)), (43, (.bool x1573))], [(4, (bk (eA64u8 a1))), (5, (bk (eA64u8 a2))), (6, (bk (eA64u8 ((vrep 64 (0 : Int)))))), (10, (bk (eA64u8 x1525)))]⟩) (by kernel_rfl) ?_
                cases hb1580 : x1573
                · have h := ite_f hb1580 h
                  refine a_cond_f rfl (a_exit (t_exit ?_))
                  cases h
                  have h := hX1569
                  refine t_exit (b_exit (b_norm ?_))
                  exact j_leaf x1525 (Option.some.inj h) (by kernel_rfl)
                · have h := ite_t hb1580 h
                  refine a_cond_t rfl (a_skip (a_next (σ' := ⟨[(0, (i6 a0)), (4, (ow 4)), (5, (ow 5)), (6, (ow 6)), (8, (i6 r9)), (9, (i6 r12)), (10, (ow 10)), (11, (i6 x1081)), (12, (i6 x1524))], [(4, (bk (eA64u8 a1))), (5, (bk (eA64u8 a2))), (6, (bk (eA64u8 ((vrep 64 (0 : Int)))))), (10, (bk (eA64u8 x1525)))]⟩) (by kernel_rfl) (a_seq (a_block (a_draw [⟨[], [], [], []⟩, ⟨[], [], [], []⟩, ⟨[], [], [], [0, 1]⟩, ⟨[], [], [], []⟩, ⟨[], [], [], []⟩, ⟨[], [], [], [3, 4]⟩, ⟨[10], [], [10], [3, 4, 5]⟩, ⟨[10], [], [], [3, 4, 5, 6]⟩, ⟨[], [], [], [3, 4, 5, 6, 7]⟩, ⟨[], [], [], []⟩, ⟨[4], [], [4], [9]⟩, ⟨[4], [], [], [9, 10]⟩, ⟨[], [], [], [9, 10, 11]⟩, ⟨[], [], [], []⟩, ⟨[5], [], [5], [13]⟩, ⟨[5], [], [], [13, 14]⟩, ⟨[], [], [], [13, 14, 15]⟩, ⟨[], [], [], [9, 10, 11, 12, 13, 14, 15, 16]⟩, ⟨[], [], [], [3, 4, 5, 6, 7, 8, 9, 10, 11, 12, 13, 14, 15, 16, 17]⟩, ⟨[], [], [], []⟩, ⟨[], [], [], [3, 4, 5, 6, 7, 8, 9, 10, 11, 12, 13, 14, 15, 16, 17, 18, 19]⟩, ⟨[], [], [], [3, 4, 5, 6, 7, 8, 9, 10, 11, 12, 13, 14, 15, 16, 17, 18, 19, 20]⟩, ⟨[10], [], [10], [0, 1, 2, 3, 4, 5, 6, 7, 8, 9, 10, 11, 12, 13, 14, 15, 16, 17, 18, 19, 20, 21]⟩, ⟨[10], [10], [], [0, 1, 2, 3, 4, 5, 6, 7, 8, 9, 10, 11, 12, 13, 14, 15, 16, 17, 18, 19, 20, 21, 22]⟩] (by kernel_rfl) (dp (i6 x1081) rfl (by kernel_rfl) (dp (i6 x1524) rfl (by kernel_rfl) (dp (i6 (IntKind.i64.wrap (x1081 + x1524))) rfl (by kernel_rfl) (dp (i6 x1081) rfl (by kernel_rfl) ?_)))))))))
                  refine dp (i6 x1524) rfl (by kernel_rfl) (dp (i6 (IntKind.i64.wrap (x1081 + x1524))) rfl (by kernel_rfl) (d_cons ?_))
                  obtain ⟨hc1596, h⟩ := ifp_some h
                  refine vq (.own 10 [(IntKind.i64.wrap (x1081 + x1524)).toNat] [(IntKind.i64.wrap (x1081 + x1524)).toNat * 1]) rfl hc1596 (d_next (by kernel_rfl) (d_cons ?_))
                  have hl1597 : LdOk [(IntKind.i64.wrap (x1081 + x1524)).toNat] (eA64u8 x1525) [(IntKind.i64.wrap (x1081 + x1524)).toNat * 1] 1 false (b8 ((rd x1525.1 (IntKind.i64.wrap (x1081 + x1524)).toNat))) := (.arr (vlt x1525 hc1596) rfl (.nil rfl rfl rfl))
                  refine vq (b8 ((rd x1525.1 (IntKind.i64.wrap (x1081 + x1524)).toNat))) (ld_own (i := ⟨.int .u8, 1, 1, (.int .u8 0)⟩) rfl rfl rfl hl1597) hl1597.c (d_next (by kernel_rfl) (d_cons ?_))
                  obtain ⟨x1598, hx1599, h⟩ := letp_some h
                  refine a_val' (v := (i6 (IntKind.i64.wrap ((rd x1525.1 (IntKind.i64.wrap (x1081 + x1524)).toNat))))) (v' := (i6 x1598)) (u := []) (u' := []) rfl (congrArg (fun z => ((i6 z) : AV)) hx1599) rfl trivial rfl (d_next (by kernel_rfl) (dp (i6 x1081) rfl (by kernel_rfl) (d_cons ?_)))
                  obtain ⟨hc1600, h⟩ := ifp_some h
                  refine vq (.own 4 [x1081.toNat] [x1081.toNat * 1]) rfl hc1600 (d_next (by kernel_rfl) (d_cons ?_))
                  have hl1601 : LdOk [x1081.toNat] (eA64u8 a1) [x1081.toNat * 1] 1 false (b8 (rd a1.1 x1081.toNat)) := (.arr (vlt a1 hc1600) rfl (.nil rfl rfl rfl))
                  refine vq (b8 (rd a1.1 x1081.toNat)) (ld_own (i := ⟨.int .u8, 1, 1, (.int .u8 0)⟩) rfl rfl rfl hl1601) hl1601.c (d_next (by kernel_rfl) (dp (i6 (IntKind.i64.wrap (rd a1.1 x1081.toNat))) rfl (by kernel_rfl) (dp (i6 x1524) rfl (by kernel_rfl) (d_cons ?_))))
                  obtain ⟨hc1602, h⟩ := ifp_some h
                  refine vq (.own 5 [x1524.toNat] [x1524.toNat * 1]) rfl hc1602 (d_next (by kernel_rfl) (d_cons ?_))
                  have hl1603 : LdOk [x1524.toNat] (eA64u8 a2) [x1524.toNat * 1] 1 false (b8 (rd a2.1 x1524.toNat)) := (.arr (vlt a2 hc1602) rfl (.nil rfl rfl rfl))
                  refine vq (b8 (rd a2.1 x1524.toNat)) (ld_own (i := ⟨.int .u8, 1, 1, (.int .u8 0)⟩) rfl rfl rfl hl1603) hl1603.c (d_next (by kernel_rfl) (dp (i6 (IntKind.i64.wrap (rd a2.1 x1524.toNat))) rfl (by kernel_rfl) (d_cons ?_)))
                  obtain ⟨x1604, hx1605, h⟩ := letp_some h
                  refine a_val' (v := (i6 (IntKind.i64.wrap ((IntKind.i64.wrap (rd a1.1 x1081.toNat)) * (IntKind.i64.wrap (rd a2.1 x1524.toNat)))))) (v' := (i6 x1604)) (u := []) (u' := []) rfl (congrArg (fun z => ((i6 z) : AV)) hx1605) rfl trivial rfl (d_next (by kernel_rfl) (dp (i6 (IntKind.i64.wrap (x1598 + x1604))) rfl (by kernel_rfl) (dp (i6 a0) rfl (by kernel_rfl) (d_cons ?_))))
                  obtain ⟨hc1606, h⟩ := ifp_some h
                  refine vq (i6 (Int.tmod (IntKind.i64.wrap (x1598 + x1604)) a0)) rfl hc1606 (d_next (by kernel_rfl) (d_cons ?_))
                  obtain ⟨x1607, hx1608, h⟩ := letp_some h
                  refine a_val' (v := (b8 (IntKind.u8.wrap (Int.tmod (IntKind.i64.wrap (x1598 + x1604)) a0)))) (v' := (b8 x1607)) (u := []) (u' := []) rfl (congrArg (fun z => ((b8 z) : AV)) hx1608) rfl trivial rfl (d_next (by kernel_rfl) (d_cons ?_))
                  obtain ⟨hc1609, h⟩ := ifp_some h
                  refine vq (.own 10 [(IntKind.i64.wrap (x1081 + x1524)).toNat] [(IntKind.i64.wrap (x1081 + x1524)).toNat * 1]) rfl hc1609 (d_next (by kernel_rfl) (d_cons ?_))
                  have hs1610 : StOk [(IntKind.i64.wrap (x1081 + x1524)).toNat] (eA64u8 x1525) [(IntKind.i64.wrap (x1081 + x1524)).toNat * 1] 1 (b8 x1607) (eA64u8 ((vset x1525 (IntKind.i64.wrap (x1081 + x1524)).toNat x1607))) := (.arr (y := x1607) (vlt x1525 hc1609) rfl (.nil rfl rfl rfl rfl))
                  refine vu .top [(10, (bk (eA64u8 ((vset x1525 (IntKind.i64.wrap (x1081 + x1524)).toNat x1607)))))] (st_own (i := ⟨.int .u8, 1, 1, (.int .u8 0)⟩) rfl rfl (fun _ => rfl) rfl hs1610) (hs1610.c rfl) rfl (d_next (by kernel_rfl) (d_nil (b_norm (a_next (σ' := ⟨[(0, (i6 a0)), (4, (ow 4)), (5, (ow 5)), (6, (ow 6)), (8, (i6 r9)), (9, (i6 r12)), (10, (ow 10)), (11, (i6 x1081)), (12, (i6 x1524))], [(4, (bk (eA64u8 a1))), (5, (bk (eA64u8 a2))), (6, (bk (eA64u8 ((vrep 64 (0 : Int)))))), (10, (bk (eA64u8 ((vset x1525 (IntKind.i64.wrap (x1081 + x1524)).toNat x1607)))))]⟩) (by kernel_rfl) (a_region (vp (i6 x1524) rfl (vp (i6 (IntKind.i64.wrap (x1524 + 1))) rfl (vp (i6 (IntKind.i64.wrap (x1524 + 1))) rfl (a_nil ?_)))))))))
                  cases h
                  exact a_again (by kernel_rfl) hX1569
              · have h := hy1575
                refine a_region (vp (i6 x1524) rfl (vp (i6 r12) rfl (vp (.bool ((decide (x1524 ≤ r12)))) rfl (vp (.bool ((decide (x1524 ≤ r12)))) rfl ?_))))
                cases hb1577 : (decide (x1524 ≤ r12))
                · have h := ite_f hb1577 h
                  refine a_gskip rfl (a_gskip rfl (a_gskip rfl (a_gskip rfl (vp (.bool false) rfl (a_nil ?_)))))
                  exact j_leaf false (Option.some.inj h) (by kernel_rfl)
                · have h := ite_t hb1577 h
                  refine gp (i6 x1081) rfl rfl ?_
                  obtain ⟨hc1578, h⟩ := ifp_some h
                  refine gq (.own 4 [x1081.toNat] [x1081.toNat * 1]) rfl rfl hc1578 ?_
                  have hl1579 : LdOk [x1081.toNat] (eA64u8 a1) [x1081.toNat * 1] 1 false (b8 (rd a1.1 x1081.toNat)) := (.arr (vlt a1 hc1578) rfl (.nil rfl rfl rfl))
                  refine gq (b8 (rd a1.1 x1081.toNat)) rfl (ld_own (i := ⟨.int .u8, 1, 1, (.int .u8 0)⟩) rfl rfl rfl hl1579) hl1579.c (gp (.bool (((rd a1.1 x1081.toNat) != 0))) rfl rfl (vp (.bool (((rd a1.1 x1081.toNat) != 0))) rfl (a_nil ?_)))
                  exact j_leaf (((rd a1.1 x1081.toNat) != 0)) (Option.some.inj h) (by kernel_rfl)
      · have h := ite_t hb22 h
        refine a_cond_t rfl (sr (vl (eA64u8 ((vrep 64 (0 : Int)))) rfl rfl rfl rfl rfl rfl (vs (eA64u8 ((vrep 64 (0 : Int)))) rfl rfl (fun _ => rfl) rfl rfl rfl rfl rfl rfl (vp (.bool false) rfl (nx _ rfl (a_ret (t_ret ?_)))))))
        have hl1618 : LdOk [] (eA64u8 ((vrep 64 (0 : Int)))) [] 64 true (eA64u8 ((vrep 64 (0 : Int)))) := (.nil rfl rfl rfl)
        refine ⟨.inr rfl, ?_⟩
        rw [Try.results105]
        cases h
        exact ⟨_, _, _, _, _, ld_own (i := ⟨.arr 64 5, 64, 64, (eA64u8 (vrep 64 (0 : Int)))⟩) rfl rfl rfl hl1618, hl1618.c, .inl ⟨rfl, .inl rfl⟩, rfl, ⟨_, _, _, _, _, rfl, trivial, .inl ⟨rfl, .inl rfl⟩, rfl, rfl⟩⟩
    · have h := ite_t hb21 h
      refine a_cond_t rfl (sr (vl (eA64u8 ((vrep 64 (0 : Int)))) rfl rfl rfl rfl rfl rfl (vs (eA64u8 ((vrep 64 (0 : Int)))) rfl rfl (fun _ => rfl) rfl rfl rfl rfl rfl rfl (vp (.bool true) rfl (nx _ rfl (a_ret (t_ret ?_)))))))
      have hl1621 : LdOk [] (eA64u8 ((vrep 64 (0 : Int)))) [] 64 true (eA64u8 ((vrep 64 (0 : Int)))) := (.nil rfl rfl rfl)
      refine ⟨.inr rfl, ?_⟩
      rw [Try.results105]
      cases h
      exact ⟨_, _, _, _, _, ld_own (i := ⟨.arr 64 5, 64, 64, (eA64u8 (vrep 64 (0 : Int)))⟩) rfl rfl rfl hl1621, hl1621.c, .inl ⟨rfl, .inl rfl⟩, rfl, ⟨_, _, _, _, _, rfl, trivial, .inl ⟨rfl, .inl rfl⟩, rfl, rfl⟩⟩
  · have h := hy18
    refine a_region (vp (i6 r9) rfl (vp (.bool ((decide (r9 < 0)))) rfl (vp (.bool ((decide (r9 < 0)))) rfl ?_)))
    cases hb20 : (decide (r9 < 0))
    · have h := ite_f hb20 h
      refine gp (i6 r12) rfl rfl (gp (.bool ((decide (r12 < 0)))) rfl rfl (vp (.bool ((decide (r12 < 0)))) rfl (a_nil ?_)))
      exact j_leaf ((decide (r12 < 0))) (Option.some.inj h) (by kernel_rfl)
    · have h := ite_t hb20 h
      refine a_gskip rfl (a_gskip rfl (vp (.bool true) rfl (a_nil ?_)))
      exact j_leaf true (Option.some.inj h) (by kernel_rfl)
end Go.Proofs.Ytkbnegemdlnncaa
