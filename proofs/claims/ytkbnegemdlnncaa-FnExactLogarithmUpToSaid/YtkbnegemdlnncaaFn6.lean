/- Functions of the program: plain Lean functions, and that the program computes them. Printed by gen.py. -/
import Derived.Test.YtkbnegemdlnncaaFnT
import Derived.Test.YtkbnegemdlnncaaFn1
import Derived.Test.YtkbnegemdlnncaaFn2
import Derived.Test.YtkbnegemdlnncaaFn3
import Derived.Test.YtkbnegemdlnncaaFn4
import Derived.Test.YtkbnegemdlnncaaFn5
namespace Go.Proofs.Ytkbnegemdlnncaa
open Go.Abs Go.Proofs
set_option linter.unusedSimpArgs false
set_option linter.unusedVariables false
set_option maxHeartbeats 16000000
attribute [local irreducible] Abs.acode Abs.aops Abs.aopsT Abs.thenK Abs.blockK

def impl_LogarithmUpTo_c : ACode := (.seq (.region 0 [q 5 (.box 25 (t 1)), q 6 (.box 25 (t 2)), q 8 (.alloc 25), q 9 (.alloc 25), q 10 (.asg 0 (.const (.int .i64 0)) 2)] false) (.seq (.seq (.region 1 [q 12 (.mov (t 0)), q 13 (.load 25 (t 5)), q 14 (.load 25 (t 6)), q 15 (.mov (t 3)), ⟨some 16, .call 0 (.func 139) [(t 15), (.const (.int .i64 1)), (.const (.int .i64 4))], none, [3]⟩, ⟨some 17, .call 0 (.func 138) [(t 12), (t 13), (t 14), (t 16)], none, [0, 1, 2, 4, 4]⟩, ⟨some 11, .asg 0 (t 17) 2, none, [5, 5, 0, 1, 2, 3, 4, 5]⟩] true) (.seq (.region 2 [q 18 (.mov (t 11)), q 19 (.bin .neq 2 (t 18) (.const (.int .i64 0)))] false) (.cond (t 19) (.seq (.region 3 [q 20 (.build 25 []), q 21 (.build 25 []), q 22 (.mov (t 11)), ⟨none, .store 25 (t 8) (t 20), none, []⟩, ⟨none, .store 25 (t 9) (t 21), none, []⟩, q 10 (.asg 0 (t 22) 2)] false) .ret) .skip))) (.seq (.region 4 [q 23 (.mov (t 0)), q 24 (.load 25 (t 5)), ⟨some 25, .call 0 (.func 103) [(t 24)], none, [1]⟩, q 26 (.load 25 (t 6)), ⟨some 27, .call 0 (.func 103) [(t 26)], none, [3, 2]⟩, q 28 (.mov (t 3)), q 29 (.mov (t 0)), ⟨some 30, .mkfn 131 [(t 29)] [], none, [6]⟩, ⟨some 31, .build 119 [(0, (t 23)), (1, (t 25)), (2, (t 27)), (3, (t 28)), (4, (t 30))], none, [0, 2, 4, 5, 7]⟩, ⟨some 32, .call 0 (.func 140) [(t 31), (.const (.int .i64 (-1)))], none, [8, 4]⟩, ⟨some 33, .extract (t 32) 0, none, [9]⟩, ⟨some 34, .extract (t 32) 1, none, [9]⟩, ⟨some 35, .extract (t 32) 2, none, [9]⟩, ⟨none, .store 25 (t 8) (t 33), none, [10, 9, 0, 1, 2, 3, 4, 5, 6, 7, 8, 9, 10, 11, 12]⟩, ⟨none, .store 25 (t 9) (t 34), none, [11, 13, 0, 1, 2, 3, 4, 5, 6, 7, 8, 9, 10, 11, 12, 13]⟩, ⟨some 10, .asg 0 (t 35) 2, none, [12, 14, 0, 1, 2, 3, 4, 5, 6, 7, 8, 9, 10, 11, 12, 13, 14]⟩] true) .ret)))
def impl_LogarithmUpTo_L : Live := [(0, [0, 1, 2, 3]), (1, [0, 3, 5, 6, 8, 9]), (2, [0, 3, 5, 6, 8, 9, 11]), (3, [8, 9, 11]), (4, [0, 3, 5, 6, 8, 9]), (100019, [0, 3, 5, 6, 8, 9, 11, 19])]
noncomputable def impl_LogarithmUpTo (a0 : Int) (a1 : (Vec Int 64)) (a2 : (Vec Int 64)) (a3 : Int) : Option ((Vec Int 64) × (Vec Int 64) × Int) :=
  (Option.bind (impl_within a3 1 4) fun r9 => (Option.bind (impl_quotientCode a0 a1 a2 r9) fun r11 => (if (r11 != 0) then (some (((vrep 64 (0 : Int)), (vrep 64 (0 : Int)), r11))) else (Option.bind (impl_rowOf a1) fun r25 => (Option.bind (impl_rowOf a2) fun r28 => (Option.bind (impl_cut_sum_of_s_impl_prime_second a0 r25 r28 a3 a0 (-1)) fun r30 => (some (r30.1, r30.2.1, r30.2.2))))))))
theorem impl_LogarithmUpTo_ok (a0 : Int) (a1 : (Vec Int 64)) (a2 : (Vec Int 64)) (a3 : Int) (r : ((Vec Int 64) × (Vec Int 64) × Int)) (h : impl_LogarithmUpTo a0 a1 a2 a3 = some r) : Den Try.prog 46 [(i6 a0), (eA64u8 a1), (eA64u8 a2), (i6 a3)] { r := (.tuple [(eA64u8 r.1), (eA64u8 r.2.1), (i6 r.2.2)]) } := by
  refine den_of (rs := [(eA64u8 r.1), (eA64u8 r.2.1), (i6 r.2.2)]) (ac := impl_LogarithmUpTo_c) (L := impl_LogarithmUpTo_L) (n := 36) (m := []) (c := Try.f46.body.getD .skip) good Try.func46 (by kernel_rfl) (by kernel_rfl) Try.ntmps46 rfl rfl (by kernel_rfl) rfl rfl ?_
  refine a_st (σ' := ⟨[(0, (i6 a0)), (1, (eA64u8 a1)), (2, (eA64u8 a2)), (3, (i6 a3))], []⟩) (by kernel_rfl) ?_
  unfold impl_LogarithmUpTo_c
  refine sr (vo 1500 (eA64u8 a1) rfl rfl (vo 1600 (eA64u8 a2) rfl rfl (vo 1800 (eA64u8 ((vrep 64 (0 : Int)))) rfl rfl (vo 1900 (eA64u8 ((vrep 64 (0 : Int)))) rfl rfl (vp (i6 0) rfl (nx ⟨[(0, (i6 a0)), (3, (i6 a3)), (5, (ow 5)), (6, (ow 6)), (8, (ow 8)), (9, (ow 9))], [(5, (bk (eA64u8 a1))), (6, (bk (eA64u8 a2))), (8, (bk (eA64u8 ((vrep 64 (0 : Int)))))), (9, (bk (eA64u8 ((vrep 64 (0 : Int))))))]⟩ (by kernel_rfl) (a_seq (a_seq (a_draw [⟨[], [], [], []⟩, ⟨[5], [], [], []⟩, ⟨[6], [], [], []⟩, ⟨[], [], [], []⟩, ⟨[], [], [], [3]⟩, ⟨[], [], [], [0, 1, 2, 3, 4]⟩, ⟨[], [], [], [0, 1, 2, 3, 4, 5]⟩] (by kernel_rfl) ?_)))))))))
  refine dp (i6 a0) rfl (by kernel_rfl) (d_cons (vl (eA64u8 a1) rfl rfl rfl rfl rfl rfl (d_next (by kernel_rfl) (d_cons (vl (eA64u8 a2) rfl rfl rfl rfl rfl rfl (d_next (by kernel_rfl) (dp (i6 a3) rfl (by kernel_rfl) (d_cons ?_))))))))
  obtain ⟨r9, hr10, h⟩ := bind_some h
  refine a_call (args := [(i6 a3), (i6 1), (i6 4)]) (u := []) (r := (.bool r9)) rfl rfl (impl_within_ok a3 1 4 r9 hr10) rfl (d_next (by kernel_rfl) (d_cons ?_))
  obtain ⟨r11, hr12, h⟩ := bind_some h
  refine a_call (args := [(i6 a0), (eA64u8 a1), (eA64u8 a2), (.bool r9)]) (u := []) (r := (i6 r11)) rfl rfl (impl_quotientCode_ok a0 a1 a2 r9 r11 hr12) rfl (d_next (by kernel_rfl) (dp (i6 r11) rfl (by kernel_rfl) (d_nil (a_next (σ' := ⟨[(0, (i6 a0)), (3, (i6 a3)), (5, (ow 5)), (6, (ow 6)), (8, (ow 8)), (9, (ow 9)), (11, (i6 r11))], [(5, (bk (eA64u8 a1))), (6, (bk (eA64u8 a2))), (8, (bk (eA64u8 ((vrep 64 (0 : Int)))))), (9, (bk (eA64u8 ((vrep 64 (0 : Int))))))]⟩) (by kernel_rfl) (sr (vp (i6 r11) rfl (vp (.bool (r11 != 0)) rfl (nx ⟨[(0, (i6 a0)), (3, (i6 a3)), (5, (ow 5)), (6, (ow 6)), (8, (ow 8)), (9, (ow 9)), (11, (i6 r11)), (19, (.bool (r11 != 0)))], [(5, (bk (eA64u8 a1))), (6, (bk (eA64u8 a2))), (8, (bk (eA64u8 ((vrep 64 (0 : Int)))))), (9, (bk (eA64u8 ((vrep 64 (0 : Int))))))]⟩ (by kernel_rfl) ?_))))))))
  cases hb13 : (r11 != 0)
  · have h := ite_f hb13 h
    refine a_cond_f rfl (a_skip (a_next (σ' := ⟨[(0, (i6 a0)), (3, (i6 a3)), (5, (ow 5)), (6, (ow 6)), (8, (ow 8)), (9, (ow 9))], [(5, (bk (eA64u8 a1))), (6, (bk (eA64u8 a2))), (8, (bk (eA64u8 ((vrep 64 (0 : Int)))))), (9, (bk (eA64u8 ((vrep 64 (0 : Int))))))]⟩) (by kernel_rfl) (a_seq (a_draw [⟨[], [], [], []⟩, ⟨[5], [], [], []⟩, ⟨[], [], [], [1]⟩, ⟨[6], [], [], []⟩, ⟨[], [], [], [1, 2, 3]⟩, ⟨[], [], [], []⟩, ⟨[], [], [], []⟩, ⟨[], [], [], [6]⟩, ⟨[], [], [], [0, 1, 2, 3, 4, 5, 6, 7]⟩, ⟨[], [], [], [0, 1, 2, 3, 4, 5, 6, 7, 8]⟩, ⟨[], [], [], [0, 1, 2, 3, 4, 5, 6, 7, 8, 9]⟩, ⟨[], [], [], [0, 1, 2, 3, 4, 5, 6, 7, 8, 9]⟩, ⟨[], [], [], [0, 1, 2, 3, 4, 5, 6, 7, 8, 9]⟩, ⟨[8], [8], [], [0, 1, 2, 3, 4, 5, 6, 7, 8, 9, 10, 11, 12]⟩, ⟨[9], [9], [], [0, 1, 2, 3, 4, 5, 6, 7, 8, 9, 10, 11, 12, 13]⟩, ⟨[], [], [], [0, 1, 2, 3, 4, 5, 6, 7, 8, 9, 10, 11, 12, 13, 14]⟩] (by kernel_rfl) (dp (i6 a0) rfl (by kernel_rfl) (d_cons (vl (eA64u8 a1) rfl rfl rfl rfl rfl rfl (d_next (by kernel_rfl) (d_cons ?_)))))))))
    obtain ⟨r25, hr26, h⟩ := bind_some h
    refine a_call (args := [(eA64u8 a1)]) (u := []) (r := (eSi64 r25)) rfl rfl (impl_rowOf_ok a1 r25 hr26) rfl (d_next (by kernel_rfl) (d_cons (vl (eA64u8 a2) rfl rfl rfl rfl rfl rfl (d_next (by kernel_rfl) (d_cons ?_)))))
    obtain ⟨r28, hr29, h⟩ := bind_some h
    refine a_call (args := [(eA64u8 a2)]) (u := []) (r := (eSi64 r28)) rfl rfl (impl_rowOf_ok a2 r28 hr29) rfl (d_next (by kernel_rfl) (dp (i6 a3) rfl (by kernel_rfl) (dp (i6 a0) rfl (by kernel_rfl) (dp (.clo 131 [(i6 a0)] []) rfl (by kernel_rfl) (d_cons (vq (.struct [1, 1, 1, 1, 1] [(i6 a0), (eSi64 r25), (eSi64 r28), (i6 a3), (.clo 131 [(i6 a0)] [])]) rfl ⟨rfl, (all_cons ⟨(Nat.le_of_ble_eq_true rfl), rfl⟩ (all_cons ⟨(Nat.le_of_ble_eq_true rfl), rfl⟩ (all_cons ⟨(Nat.le_of_ble_eq_true rfl), rfl⟩ (all_cons ⟨(Nat.le_of_ble_eq_true rfl), rfl⟩ (all_cons ⟨(Nat.le_of_ble_eq_true rfl), rfl⟩ all_nil)))))⟩ (d_next (by kernel_rfl) (d_cons ?_))))))))
    obtain ⟨r30, hr31, h⟩ := bind_some h
    refine a_call (args := [(.struct [1, 1, 1, 1, 1] [(i6 a0), (eSi64 r25), (eSi64 r28), (i6 a3), (.clo 131 [(i6 a0)] [])]), (i6 (-1))]) (u := []) (r := (.tuple [(eA64u8 r30.1), (eA64u8 r30.2.1), (i6 r30.2.2)])) rfl rfl (impl_cut_sum_of_s_impl_prime_second_ok a0 r25 r28 a3 a0 (-1) r30 hr31) rfl (d_next (by kernel_rfl) (d_cons (vb (eA64u8 r30.1) rfl rfl (d_next (by kernel_rfl) (d_cons (vb (eA64u8 r30.2.1) rfl rfl (d_next (by kernel_rfl) (d_cons (vb (i6 r30.2.2) rfl rfl ?_)))))))))
    refine d_next (by kernel_rfl) (d_cons (vs (eA64u8 r30.1) rfl rfl (fun _ => rfl) rfl rfl rfl rfl rfl rfl (d_next (by kernel_rfl) (d_cons (vs (eA64u8 r30.2.1) rfl rfl (fun _ => rfl) rfl rfl rfl rfl rfl rfl (d_next (by kernel_rfl) (dp (i6 r30.2.2) rfl (by kernel_rfl) (d_nil (a_next rfl ?_)))))))))
    refine a_ret ?_
    have hl34 : LdOk [] (eA64u8 r30.1) [] 64 true (eA64u8 r30.1) := (.nil rfl rfl rfl)
    have hl35 : LdOk [] (eA64u8 r30.2.1) [] 64 true (eA64u8 r30.2.1) := (.nil rfl rfl rfl)
    refine ⟨.inr rfl, ?_⟩
    rw [Try.results46]
    cases h
    exact ⟨_, _, _, _, _, ld_own (i := ⟨.arr 64 5, 64, 64, (eA64u8 (vrep 64 (0 : Int)))⟩) rfl rfl rfl hl34, hl34.c, .inl ⟨rfl, .inl rfl⟩, rfl, ⟨_, _, _, _, _, ld_own (i := ⟨.arr 64 5, 64, 64, (eA64u8 (vrep 64 (0 : Int)))⟩) rfl rfl rfl hl35, hl35.c, .inl ⟨rfl, .inl rfl⟩, rfl, ⟨_, _, _, _, _, rfl, trivial, .inl ⟨rfl, .inl rfl⟩, rfl, rfl⟩⟩⟩
  · have h := ite_t hb13 h
    refine a_cond_t rfl (sr (vq (eA64u8 ((vrep 64 (0 : Int)))) rfl ⟨⟨_, rfl, rfl⟩, all_nil⟩ (vq (eA64u8 ((vrep 64 (0 : Int)))) rfl ⟨⟨_, rfl, rfl⟩, all_nil⟩ (vp (i6 r11) rfl (vs (eA64u8 ((vrep 64 (0 : Int)))) rfl rfl (fun _ => rfl) rfl rfl rfl rfl rfl rfl (vs (eA64u8 ((vrep 64 (0 : Int)))) rfl rfl (fun _ => rfl) rfl rfl rfl rfl rfl rfl (vp (i6 r11) rfl (nx _ rfl (a_ret ?_)))))))))
    refine t_ret ?_
    have hl38 : LdOk [] (eA64u8 ((vrep 64 (0 : Int)))) [] 64 true (eA64u8 ((vrep 64 (0 : Int)))) := (.nil rfl rfl rfl)
    have hl39 : LdOk [] (eA64u8 ((vrep 64 (0 : Int)))) [] 64 true (eA64u8 ((vrep 64 (0 : Int)))) := (.nil rfl rfl rfl)
    refine ⟨.inr rfl, ?_⟩
    rw [Try.results46]
    cases h
    exact ⟨_, _, _, _, _, ld_own (i := ⟨.arr 64 5, 64, 64, (eA64u8 (vrep 64 (0 : Int)))⟩) rfl rfl rfl hl38, hl38.c, .inl ⟨rfl, .inl rfl⟩, rfl, ⟨_, _, _, _, _, ld_own (i := ⟨.arr 64 5, 64, 64, (eA64u8 (vrep 64 (0 : Int)))⟩) rfl rfl rfl hl39, hl39.c, .inl ⟨rfl, .inl rfl⟩, rfl, ⟨_, _, _, _, _, rfl, trivial, .inl ⟨rfl, .inl rfl⟩, rfl, rfl⟩⟩⟩
def laws_eqPoly_c : ACode := (.seq (.region 0 [q 2 (.box 25 (t 0)), q 3 (.box 25 (t 1)), q 4 (.asg 0 (.const (.bool false)) 4)] false) (.seq (.seq (.region 1 [q 5 (.asg 0 (.const (.int .i64 0)) 3)] false) (.block 0 (.loop (.seq (.seq (.region 2 [q 6 (.mov (t 5)), q 7 (.bin .lss 3 (t 6) (.const (.int .i64 64)))] false) (.cond (t 7) .skip (.exit 0))) (.seq (.block 1 (.seq (.region 4 [q 10 (.mov (t 5)), ⟨some 11, .indexAddr 25 (t 2) (t 10), none, [0]⟩, ⟨some 12, .load 5 (t 11), none, [1]⟩, q 13 (.mov (t 5)), ⟨some 14, .indexAddr 25 (t 3) (t 13), none, [3]⟩, ⟨some 15, .load 5 (t 14), none, [4]⟩, ⟨some 16, .bin .neq 5 (t 12) (t 15), none, [2, 5]⟩] true) (.cond (t 16) (.seq (.region 5 [q 4 (.asg 0 (.const (.bool false)) 4)] false) .ret) .skip))) (.region 3 [q 8 (.mov (t 5)), q 9 (.bin .add 3 (t 8) (.const (.int .i64 1))), q 5 (.asg 0 (t 9) 3)] false)))))) (.seq (.region 6 [q 4 (.asg 0 (.const (.bool true)) 4)] false) .ret)))
def laws_eqPoly_L : Live := [(0, [0, 1]), (1, [2, 3]), (2, [2, 3, 5]), (3, [2, 3, 5]), (4, [2, 3, 5]), (5, []), (6, []), (100007, [2, 3, 5, 7]), (100016, [2, 3, 5, 16])]
noncomputable def laws_eqPoly_l1 (a0 : (Vec Int 64)) (a1 : (Vec Int 64)) (x49 : Int) : Option (Int ⊕ (Unit ⊕ Bool)) :=
  (if (decide (x49 < 64)) then (ifp (0 ≤ x49 ∧ x49 < ((64 : Nat) : Int)) ((ifp (0 ≤ x49 ∧ x49 < ((64 : Nat) : Int)) ((if ((rd a0.1 x49.toNat) != (rd a1.1 x49.toNat)) then (some (.inr (.inr false))) else (some (.inl (IntKind.i64.wrap (x49 + 1))))))))) else (some (.inr (((.inl ()))))))
noncomputable def laws_eqPoly (a0 : (Vec Int 64)) (a1 : (Vec Int 64)) : Option Bool :=
  (Option.bind (α := (Unit ⊕ Bool)) ((loopM (fun s : Int => laws_eqPoly_l1 a0 a1 s) 0)) fun z => match z with | .inl _ => (some true) | .inr r74 => (some r74))
theorem laws_eqPoly_ok (a0 : (Vec Int 64)) (a1 : (Vec Int 64)) (r : Bool) (h : laws_eqPoly a0 a1 = some r) : Den Try.prog 44 [(eA64u8 a0), (eA64u8 a1)] { r := (.bool r) } := by
  refine den_of (rs := [(.bool r)]) (ac := laws_eqPoly_c) (L := laws_eqPoly_L) (n := 17) (m := []) (c := Try.f44.body.getD .skip) good Try.func44 (by kernel_rfl) (by kernel_rfl) Try.ntmps44 rfl rfl (by kernel_rfl) rfl rfl ?_
  refine a_st (σ' := ⟨[(0, (eA64u8 a0)), (1, (eA64u8 a1))], []⟩) (by kernel_rfl) ?_
  unfold laws_eqPoly_c
  refine sr (vo 1200 (eA64u8 a0) rfl rfl (vo 1300 (eA64u8 a1) rfl rfl (vp (.bool false) rfl (nx ⟨[(2, (ow 2)), (3, (ow 3))], [(2, (bk (eA64u8 a0))), (3, (bk (eA64u8 a1)))]⟩ (by kernel_rfl) ?_))))
  obtain ⟨y36, hy37, hk38⟩ := bind_some h
  clear h
  refine a_join (emb := fun (s : Unit) => ⟨[], []⟩) (pre := fun s => (.inl s) = y36) ?_ ?_
  · rintro _ rfl
    have h := hk38
    refine a_st (σ' := ⟨[], []⟩) (by kernel_rfl) (sr (vp (.bool true) rfl (nx _ rfl (a_ret ?_))))
    refine ⟨.inr rfl, ?_⟩
    rw [Try.results44]
    cases h
    exact ⟨_, _, _, _, _, rfl, trivial, .inl ⟨rfl, .inl rfl⟩, rfl, rfl⟩
  · have h := hy37
    refine sr (vp (i6 0) rfl (nx ⟨[(2, (ow 2)), (3, (ow 3)), (5, (i6 0))], [(2, (bk (eA64u8 a0))), (3, (bk (eA64u8 a1)))]⟩ (by kernel_rfl) (a_block ?_)))
    refine a_loop (emb := fun (s : Int) => ⟨[(2, (ow 2)), (3, (ow 3)), (5, (i6 s))], [(2, (bk (eA64u8 a0))), (3, (bk (eA64u8 a1)))]⟩) (body := (fun s : Int => laws_eqPoly_l1 a0 a1 s)) (G := fun q => some q = some y36) h rfl ?_ (by kernel_rfl)
    rintro X60 x49 x61 h hX62
    have h : laws_eqPoly_l1 a0 a1 x49 = some x61 := h
    refine a_st (σ' := ⟨[(2, (ow 2)), (3, (ow 3)), (5, (i6 x49))], [(2, (bk (eA64u8 a0))), (3, (bk (eA64u8 a1)))]⟩) (by kernel_rfl) (a_seq (sr (vp (i6 x49) rfl (vp (.bool ((decide (x49 < 64)))) rfl (nx ⟨[(2, (ow 2)), (3, (ow 3)), (5, (i6 x49)), (7, (.bool ((decide (x49 < 64)))))], [(2, (bk (eA64u8 a0))), (3, (bk (eA64u8 a1)))]⟩ (by kernel_rfl) ?_)))))
    cases hb63 : (decide (x49 < 64))
    · have h := ite_f hb63 h
      refine a_cond_f rfl (a_exit (t_exit ?_))
      cases h
      have h := hX62
      refine t_exit (b_exit ?_)
      exact j_leaf () (Option.some.inj h) (by kernel_rfl)
    · have h := ite_t hb63 h
      refine a_cond_t rfl (a_skip (a_next (σ' := ⟨[(2, (ow 2)), (3, (ow 3)), (5, (i6 x49))], [(2, (bk (eA64u8 a0))), (3, (bk (eA64u8 a1)))]⟩) (by kernel_rfl) (a_seq (a_block (a_seq (a_draw [⟨[], [], [], []⟩, ⟨[2], [], [2], [0]⟩, ⟨[2], [], [], [0, 1]⟩, ⟨[], [], [], []⟩, ⟨[3], [], [3], [3]⟩, ⟨[3], [], [], [3, 4]⟩, ⟨[], [], [], [0, 1, 2, 3, 4, 5]⟩] (by kernel_rfl) (dp (i6 x49) rfl (by kernel_rfl) (d_cons ?_))))))))
      obtain ⟨hc68, h⟩ := ifp_some h
      refine vq (.own 2 [x49.toNat] [x49.toNat * 1]) rfl hc68 (d_next (by kernel_rfl) (d_cons ?_))
      have hl69 : LdOk [x49.toNat] (eA64u8 a0) [x49.toNat * 1] 1 false (b8 (rd a0.1 x49.toNat)) := (.arr (vlt a0 hc68) rfl (.nil rfl rfl rfl))
      refine vq (b8 (rd a0.1 x49.toNat)) (ld_own (i := ⟨.int .u8, 1, 1, (.int .u8 0)⟩) rfl rfl rfl hl69) hl69.c (d_next (by kernel_rfl) (dp (i6 x49) rfl (by kernel_rfl) (d_cons ?_)))
      obtain ⟨hc70, h⟩ := ifp_some h
      refine vq (.own 3 [x49.toNat] [x49.toNat * 1]) rfl hc70 (d_next (by kernel_rfl) (d_cons ?_))
      have hl71 : LdOk [x49.toNat] (eA64u8 a1) [x49.toNat * 1] 1 false (b8 (rd a1.1 x49.toNat)) := (.arr (vlt a1 hc70) rfl (.nil rfl rfl rfl))
      refine vq (b8 (rd a1.1 x49.toNat)) (ld_own (i := ⟨.int .u8, 1, 1, (.int .u8 0)⟩) rfl rfl rfl hl71) hl71.c (d_next (by kernel_rfl) (dp (.bool (((rd a0.1 x49.toNat) != (rd a1.1 x49.toNat)))) rfl (by kernel_rfl) (d_nil (a_next (σ' := ⟨[(2, (ow 2)), (3, (ow 3)), (5, (i6 x49)), (16, (.bool (((rd a0.1 x49.toNat) != (rd a1.1 x49.toNat)))))], [(2, (bk (eA64u8 a0))), (3, (bk (eA64u8 a1)))]⟩) (by kernel_rfl) ?_))))
      cases hb72 : ((rd a0.1 x49.toNat) != (rd a1.1 x49.toNat))
      · have h := ite_f hb72 h
        refine a_cond_f rfl (a_skip (b_norm (a_next (σ' := ⟨[(2, (ow 2)), (3, (ow 3)), (5, (i6 x49))], [(2, (bk (eA64u8 a0))), (3, (bk (eA64u8 a1)))]⟩) (by kernel_rfl) (a_region (vp (i6 x49) rfl (vp (i6 (IntKind.i64.wrap (x49 + 1))) rfl (vp (i6 (IntKind.i64.wrap (x49 + 1))) rfl (a_nil ?_))))))))
        cases h
        exact a_again (by kernel_rfl) hX62
      · have h := ite_t hb72 h
        refine a_cond_t rfl (sr (vp (.bool false) rfl (nx _ rfl (a_ret (b_ret (t_ret ?_))))))
        cases h
        have h := hX62
        refine t_ret (b_ret (t_ret ?_))
        cases h
        have h := hk38
        refine ⟨.inr rfl, ?_⟩
        rw [Try.results44]
        cases h
        exact ⟨_, _, _, _, _, rfl, trivial, .inl ⟨rfl, .inl rfl⟩, rfl, rfl⟩
def laws_FnExactLogarithmUpTo_c : ACode := (.seq (.region 0 [q 5 (.box 24 (t 1)), q 6 (.box 24 (t 2)), q 8 (.asg 0 (.const (.bool false)) 4)] false) (.seq (.region 1 [q 16 (.mov (t 0)), q 17 (.load 24 (t 5)), ⟨some 18, .call 0 (.func 42) [(t 17)], none, [1]⟩, q 19 (.load 24 (t 6)), ⟨some 20, .call 0 (.func 42) [(t 19)], none, [3, 2]⟩, q 21 (.mov (t 3)), ⟨some 22, .call 0 (.func 45) [(t 16), (t 18), (t 20), (t 21)], none, [0, 2, 4, 5, 4]⟩, ⟨some 15, .mov (t 22), none, [6]⟩, ⟨some 23, .extract (t 15) 0, none, [7]⟩, ⟨some 24, .extract (t 15) 1, none, [7]⟩, ⟨some 25, .extract (t 15) 2, none, [7]⟩, q 9 (.alloc 25), q 10 (.alloc 25), ⟨none, .store 25 (t 9) (t 23), none, [11, 8, 6, 0, 1, 2, 3, 4, 5, 6, 7, 8, 11, 12]⟩, ⟨none, .store 25 (t 10) (t 24), none, [12, 9, 13, 0, 1, 2, 3, 4, 5, 6, 7, 8, 9, 11, 12, 13]⟩, ⟨some 11, .asg 0 (t 25) 2, none, [10, 14, 0, 1, 2, 3, 4, 5, 6, 7, 8, 9, 10, 11, 12, 13, 14]⟩] true) (.seq (.region 2 [q 27 (.mov (t 0)), q 28 (.load 24 (t 5)), ⟨some 29, .call 0 (.func 42) [(t 28)], none, [1]⟩, q 30 (.load 24 (t 6)), ⟨some 31, .call 0 (.func 42) [(t 30)], none, [3, 2]⟩, q 32 (.mov (t 3)), ⟨some 33, .call 0 (.func 46) [(t 27), (t 29), (t 31), (t 32)], none, [0, 2, 4, 5, 4]⟩, ⟨some 26, .mov (t 33), none, [6]⟩, ⟨some 34, .extract (t 26) 0, none, [7]⟩, ⟨some 35, .extract (t 26) 1, none, [7]⟩, ⟨some 36, .extract (t 26) 2, none, [7]⟩, q 12 (.alloc 25), q 13 (.alloc 25), ⟨none, .store 25 (t 12) (t 34), none, [11, 8, 6, 0, 1, 2, 3, 4, 5, 6, 7, 8, 11, 12]⟩, ⟨none, .store 25 (t 13) (t 35), none, [12, 9, 13, 0, 1, 2, 3, 4, 5, 6, 7, 8, 9, 11, 12, 13]⟩, ⟨some 14, .asg 0 (t 36) 2, none, [10, 14, 0, 1, 2, 3, 4, 5, 6, 7, 8, 9, 10, 11, 12, 13, 14]⟩] true) (.seq (.seq (.region 3 [q 37 (.load 25 (t 12)), q 38 (.load 25 (t 9)), q 39 (.call 0 (.func 44) [(t 37), (t 38)]), q 40 (.un .not (t 39)), q 41 (.mov (t 40)), ⟨some 42, .load 25 (t 13), some (41, false), []⟩, ⟨some 43, .load 25 (t 10), some (41, false), []⟩, ⟨some 44, .call 0 (.func 44) [(t 42), (t 43)], some (41, false), []⟩, ⟨some 45, .un .not (t 44), some (41, false), []⟩, q 46 (.pick (t 41) (.const (.bool true)) (t 45)), q 47 (.mov (t 46)), ⟨some 48, .mov (t 14), some (47, false), []⟩, ⟨some 49, .mov (t 11), some (47, false), []⟩, ⟨some 50, .bin .neq 2 (t 48) (t 49), some (47, false), []⟩, q 51 (.pick (t 47) (.const (.bool true)) (t 50))] false) (.cond (t 51) (.seq (.region 4 [q 8 (.asg 0 (.const (.bool false)) 4)] false) .ret) .skip)) (.seq (.region 5 [q 8 (.asg 0 (.const (.bool true)) 4)] false) .ret)))))
def laws_FnExactLogarithmUpTo_L : Live := [(0, [0, 1, 2, 3]), (1, [0, 3, 5, 6]), (2, [0, 3, 5, 6, 9, 10, 11]), (3, [9, 10, 11, 12, 13, 14]), (4, []), (5, []), (100051, [51])]
noncomputable def laws_FnExactLogarithmUpTo (a0 : Int) (a1 : (Vec Int 64)) (a2 : (Vec Int 64)) (a3 : Int) : Option Bool :=
  (Option.bind (laws_toPoly a1) fun r12 => (Option.bind (laws_toPoly a2) fun r15 => (Option.bind (spec_LogarithmUpTo a0 r12 r15 a3) fun r17 => (Option.bind (laws_toPoly a1) fun r32 => (Option.bind (laws_toPoly a2) fun r35 => (Option.bind (impl_LogarithmUpTo a0 r32 r35 a3) fun r37 => (Option.bind (α := Bool) ((Option.bind (laws_eqPoly r37.1 r17.1) fun r57 => (if (!r57) then (some true) else (Option.bind (laws_eqPoly r37.2.1 r17.2.1) fun r62 => (if (!r62) then (some true) else (some (r37.2.2 != r17.2.2))))))) fun x51 => (if x51 then (some false) else (some true)))))))))
theorem laws_FnExactLogarithmUpTo_ok (a0 : Int) (a1 : (Vec Int 64)) (a2 : (Vec Int 64)) (a3 : Int) (r : Bool) (h : laws_FnExactLogarithmUpTo a0 a1 a2 a3 = some r) : Den Try.prog 6 [(i6 a0), (eA64u8 a1), (eA64u8 a2), (i6 a3)] { r := (.bool r) } := by
  refine den_of (rs := [(.bool r)]) (ac := laws_FnExactLogarithmUpTo_c) (L := laws_FnExactLogarithmUpTo_L) (n := 52) (m := []) (c := Try.f6.body.getD .skip) good Try.func6 (by kernel_rfl) (by kernel_rfl) Try.ntmps6 rfl rfl (by kernel_rfl) rfl rfl ?_
  refine a_st (σ' := ⟨[(0, (i6 a0)), (1, (eA64u8 a1)), (2, (eA64u8 a2)), (3, (i6 a3))], []⟩) (by kernel_rfl) ?_
  unfold laws_FnExactLogarithmUpTo_c
  refine sr (vo 1500 (eA64u8 a1) rfl rfl (vo 1600 (eA64u8 a2) rfl rfl (vp (.bool false) rfl (nx ⟨[(0, (i6 a0)), (3, (i6 a3)), (5, (ow 5)), (6, (ow 6))], [(5, (bk (eA64u8 a1))), (6, (bk (eA64u8 a2)))]⟩ (by kernel_rfl) (a_seq (a_draw [⟨[], [], [], []⟩, ⟨[5], [], [], []⟩, ⟨[], [], [], [1]⟩, ⟨[6], [], [], []⟩, ⟨[], [], [], [1, 2, 3]⟩, ⟨[], [], [], []⟩, ⟨[], [], [], [0, 1, 2, 3, 4, 5]⟩, ⟨[], [], [], [0, 1, 2, 3, 4, 5, 6]⟩, ⟨[], [], [], [0, 1, 2, 3, 4, 5, 6, 7]⟩, ⟨[], [], [], [0, 1, 2, 3, 4, 5, 6, 7]⟩, ⟨[], [], [], [0, 1, 2, 3, 4, 5, 6, 7]⟩, ⟨[1900], [1900], [1900], []⟩, ⟨[2000], [2000], [2000], []⟩, ⟨[1900], [1900], [], [0, 1, 2, 3, 4, 5, 6, 7, 8, 11, 12]⟩, ⟨[2000], [2000], [], [0, 1, 2, 3, 4, 5, 6, 7, 8, 9, 11, 12, 13]⟩, ⟨[], [], [], [0, 1, 2, 3, 4, 5, 6, 7, 8, 9, 10, 11, 12, 13, 14]⟩] (by kernel_rfl) (dp (i6 a0) rfl (by kernel_rfl) (d_cons (vl (eA64u8 a1) rfl rfl rfl rfl rfl rfl ?_)))))))))
  refine d_next (by kernel_rfl) (d_cons ?_)
  obtain ⟨r12, hr13, h⟩ := bind_some h
  refine a_call (args := [(eA64u8 a1)]) (u := []) (r := (eA64u8 r12)) rfl rfl (laws_toPoly_ok a1 r12 hr13) rfl (d_next (by kernel_rfl) (d_cons (vl (eA64u8 a2) rfl rfl rfl rfl rfl rfl (d_next (by kernel_rfl) (d_cons ?_)))))
  obtain ⟨r15, hr16, h⟩ := bind_some h
  refine a_call (args := [(eA64u8 a2)]) (u := []) (r := (eA64u8 r15)) rfl rfl (laws_toPoly_ok a2 r15 hr16) rfl (d_next (by kernel_rfl) (dp (i6 a3) rfl (by kernel_rfl) (d_cons ?_)))
  obtain ⟨r17, hr18, h⟩ := bind_some h
  refine a_call (args := [(i6 a0), (eA64u8 r12), (eA64u8 r15), (i6 a3)]) (u := []) (r := (.tuple [(eA64u8 r17.1), (eA64u8 r17.2.1), (i6 r17.2.2)])) rfl rfl (spec_LogarithmUpTo_ok a0 r12 r15 a3 r17 hr18) rfl (d_next (by kernel_rfl) (dp (.tuple [(eA64u8 r17.1), (eA64u8 r17.2.1), (i6 r17.2.2)]) rfl (by kernel_rfl) (d_cons (vb (eA64u8 r17.1) rfl rfl (d_next (by kernel_rfl) (d_cons (vb (eA64u8 r17.2.1) rfl rfl (d_next (by kernel_rfl) (d_cons ?_)))))))))
  refine vb (i6 r17.2.2) rfl rfl (d_next (by kernel_rfl) (d_cons (vo 1900 (eA64u8 ((vrep 64 (0 : Int)))) rfl rfl (d_next (by kernel_rfl) (d_cons (vo 2000 (eA64u8 ((vrep 64 (0 : Int)))) rfl rfl (d_next (by kernel_rfl) (d_cons (vs (eA64u8 r17.1) rfl rfl (fun _ => rfl) rfl rfl rfl rfl rfl rfl ?_)))))))))
  refine d_next (by kernel_rfl) (d_cons (vs (eA64u8 r17.2.1) rfl rfl (fun _ => rfl) rfl rfl rfl rfl rfl rfl (d_next (by kernel_rfl) (dp (i6 r17.2.2) rfl (by kernel_rfl) (d_nil (a_next (σ' := ⟨[(0, (i6 a0)), (3, (i6 a3)), (5, (ow 5)), (6, (ow 6)), (9, (ow 9)), (10, (ow 10)), (11, (i6 r17.2.2))], [(5, (bk (eA64u8 a1))), (6, (bk (eA64u8 a2))), (9, (bk (eA64u8 r17.1))), (10, (bk (eA64u8 r17.2.1)))]⟩) (by kernel_rfl) (a_seq (a_draw [⟨[], [], [], []⟩, ⟨[5], [], [], []⟩, ⟨[], [], [], [1]⟩, ⟨[6], [], [], []⟩, ⟨[], [], [], [1, 2, 3]⟩, ⟨[], [], [], []⟩, ⟨[], [], [], [0, 1, 2, 3, 4, 5]⟩, ⟨[], [], [], [0, 1, 2, 3, 4, 5, 6]⟩, ⟨[], [], [], [0, 1, 2, 3, 4, 5, 6, 7]⟩, ⟨[], [], [], [0, 1, 2, 3, 4, 5, 6, 7]⟩, ⟨[], [], [], [0, 1, 2, 3, 4, 5, 6, 7]⟩, ⟨[2200], [2200], [2200], []⟩, ⟨[2300], [2300], [2300], []⟩, ⟨[2200], [2200], [], [0, 1, 2, 3, 4, 5, 6, 7, 8, 11, 12]⟩, ⟨[2300], [2300], [], [0, 1, 2, 3, 4, 5, 6, 7, 8, 9, 11, 12, 13]⟩, ⟨[], [], [], [0, 1, 2, 3, 4, 5, 6, 7, 8, 9, 10, 11, 12, 13, 14]⟩] (by kernel_rfl) (dp (i6 a0) rfl (by kernel_rfl) ?_)))))))))
  refine d_cons (vl (eA64u8 a1) rfl rfl rfl rfl rfl rfl (d_next (by kernel_rfl) (d_cons ?_)))
  obtain ⟨r32, hr33, h⟩ := bind_some h
  refine a_call (args := [(eA64u8 a1)]) (u := []) (r := (eA64u8 r32)) rfl rfl (laws_toPoly_ok a1 r32 hr33) rfl (d_next (by kernel_rfl) (d_cons (vl (eA64u8 a2) rfl rfl rfl rfl rfl rfl (d_next (by kernel_rfl) (d_cons ?_)))))
  obtain ⟨r35, hr36, h⟩ := bind_some h
  refine a_call (args := [(eA64u8 a2)]) (u := []) (r := (eA64u8 r35)) rfl rfl (laws_toPoly_ok a2 r35 hr36) rfl (d_next (by kernel_rfl) (dp (i6 a3) rfl (by kernel_rfl) (d_cons ?_)))
  obtain ⟨r37, hr38, h⟩ := bind_some h
  refine a_call (args := [(i6 a0), (eA64u8 r32), (eA64u8 r35), (i6 a3)]) (u := []) (r := (.tuple [(eA64u8 r37.1), (eA64u8 r37.2.1), (i6 r37.2.2)])) rfl rfl (impl_LogarithmUpTo_ok a0 r32 r35 a3 r37 hr38) rfl (d_next (by kernel_rfl) (dp (.tuple [(eA64u8 r37.1), (eA64u8 r37.2.1), (i6 r37.2.2)]) rfl (by kernel_rfl) (d_cons (vb (eA64u8 r37.1) rfl rfl (d_next (by kernel_rfl) (d_cons (vb (eA64u8 r37.2.1) rfl rfl (d_next (by kernel_rfl) (d_cons ?_)))))))))
  refine vb (i6 r37.2.2) rfl rfl (d_next (by kernel_rfl) (d_cons (vo 2200 (eA64u8 ((vrep 64 (0 : Int)))) rfl rfl (d_next (by kernel_rfl) (d_cons (vo 2300 (eA64u8 ((vrep 64 (0 : Int)))) rfl rfl (d_next (by kernel_rfl) (d_cons (vs (eA64u8 r37.1) rfl rfl (fun _ => rfl) rfl rfl rfl rfl rfl rfl ?_)))))))))
  refine d_next (by kernel_rfl) (d_cons (vs (eA64u8 r37.2.1) rfl rfl (fun _ => rfl) rfl rfl rfl rfl rfl rfl (d_next (by kernel_rfl) (dp (i6 r37.2.2) rfl (by kernel_rfl) (d_nil (a_next (σ' := ⟨[(9, (ow 9)), (10, (ow 10)), (11, (i6 r17.2.2)), (12, (ow 12)), (13, (ow 13)), (14, (i6 r37.2.2))], [(9, (bk (eA64u8 r17.1))), (10, (bk (eA64u8 r17.2.1))), (12, (bk (eA64u8 r37.1))), (13, (bk (eA64u8 r37.2.1)))]⟩) (by kernel_rfl) (a_seq ?_)))))))
  obtain ⟨y52, hy53, hk54⟩ := bind_some h
  clear h
  refine a_join (emb := fun (s : Bool) => ⟨[(51, (.bool s))], []⟩) (pre := fun s => s = y52) ?_ ?_
  · rintro x51 rfl
    have h := hk54
    refine a_st (σ' := ⟨[(51, (.bool x51))], []⟩) (by kernel_rfl) ?_
    cases hb65 : x51
    · have h := ite_f hb65 h
      refine a_cond_f rfl (a_skip (a_next (σ' := ⟨[], []⟩) (by kernel_rfl) (sr (vp (.bool true) rfl (nx _ rfl (a_ret ?_))))))
      refine ⟨.inr rfl, ?_⟩
      rw [Try.results6]
      cases h
      exact ⟨_, _, _, _, _, rfl, trivial, .inl ⟨rfl, .inl rfl⟩, rfl, rfl⟩
    · have h := ite_t hb65 h
      refine a_cond_t rfl (sr (vp (.bool false) rfl (nx _ rfl (a_ret (t_ret ?_)))))
      refine ⟨.inr rfl, ?_⟩
      rw [Try.results6]
      cases h
      exact ⟨_, _, _, _, _, rfl, trivial, .inl ⟨rfl, .inl rfl⟩, rfl, rfl⟩
  · have h := hy53
    refine a_region (vl (eA64u8 r37.1) rfl rfl rfl rfl rfl rfl (vl (eA64u8 r17.1) rfl rfl rfl rfl rfl rfl ?_))
    obtain ⟨r57, hr58, h⟩ := bind_some h
    refine a_call (args := [(eA64u8 r37.1), (eA64u8 r17.1)]) (u := []) (r := (.bool r57)) rfl rfl (laws_eqPoly_ok r37.1 r17.1 r57 hr58) rfl (vp (.bool (!r57)) rfl (vp (.bool (!r57)) rfl ?_))
    cases hb59 : (!r57)
    · have h := ite_f hb59 h
      have hl60 : LdOk [] (eA64u8 r37.2.1) [] 64 true (eA64u8 r37.2.1) := (.nil rfl rfl rfl)
      refine gq (eA64u8 r37.2.1) rfl (ld_own (i := ⟨.arr 64 5, 64, 64, (eA64u8 (vrep 64 (0 : Int)))⟩) rfl rfl rfl hl60) hl60.c ?_
      have hl61 : LdOk [] (eA64u8 r17.2.1) [] 64 true (eA64u8 r17.2.1) := (.nil rfl rfl rfl)
      refine gq (eA64u8 r17.2.1) rfl (ld_own (i := ⟨.arr 64 5, 64, 64, (eA64u8 (vrep 64 (0 : Int)))⟩) rfl rfl rfl hl61) hl61.c ?_
      obtain ⟨r62, hr63, h⟩ := bind_some h
      refine a_gcall rfl (args := [(eA64u8 r37.2.1), (eA64u8 r17.2.1)]) (u := []) (r := (.bool r62)) rfl rfl (laws_eqPoly_ok r37.2.1 r17.2.1 r62 hr63) rfl (gp (.bool (!r62)) rfl rfl (vp (.bool (!r62)) rfl (vp (.bool (!r62)) rfl ?_)))
      cases hb64 : (!r62)
      · have h := ite_f hb64 h
        refine gp (i6 r37.2.2) rfl rfl (gp (i6 r17.2.2) rfl rfl (gp (.bool (r37.2.2 != r17.2.2)) rfl rfl (vp (.bool (r37.2.2 != r17.2.2)) rfl (a_nil ?_))))
        exact j_leaf (r37.2.2 != r17.2.2) (Option.some.inj h) (by kernel_rfl)
      · have h := ite_t hb64 h
        refine a_gskip rfl (a_gskip rfl (a_gskip rfl (vp (.bool true) rfl (a_nil ?_))))
        exact j_leaf true (Option.some.inj h) (by kernel_rfl)
    · have h := ite_t hb59 h
      refine a_gskip rfl (a_gskip rfl (a_gskip rfl (a_gskip rfl (vp (.bool true) rfl (vp (.bool true) rfl (a_gskip rfl (a_gskip rfl (a_gskip rfl (vp (.bool true) rfl ?_)))))))))
      refine a_nil ?_
      exact j_leaf true (Option.some.inj h) (by kernel_rfl)
def impl_row_fits_c : ACode := (.seq (.region 0 [q 2 (.asg 0 (.const (.bool false)) 4)] false) (.seq (.region 1 [q 3 (.mov (t 0)), q 4 (.call 0 (.func 114) [(t 3)]), q 5 (.bin .leq 2 (t 4) (.const (.int .i64 63))), q 2 (.asg 0 (t 5) 4)] false) .ret))
def impl_row_fits_L : Live := [(0, [0]), (1, [0])]
noncomputable def impl_row_fits (a0 : (List Int)) : Option Bool :=
  (Option.bind (impl_row_degree a0) fun r1 => (some ((decide (r1 ≤ 63)))))
theorem impl_row_fits_ok (a0 : (List Int)) (r : Bool) (h : impl_row_fits a0 = some r) : Den Try.prog 135 [(eSi64 a0)] { r := (.bool r) } := by
  refine den_of (rs := [(.bool r)]) (ac := impl_row_fits_c) (L := impl_row_fits_L) (n := 6) (m := []) (c := Try.f135.body.getD .skip) good Try.func135 (by kernel_rfl) (by kernel_rfl) Try.ntmps135 rfl rfl (by kernel_rfl) rfl rfl ?_
  refine a_st (σ' := ⟨[(0, (eSi64 a0))], []⟩) (by kernel_rfl) ?_
  unfold impl_row_fits_c
  refine sr (vp (.bool false) rfl (nx ⟨[(0, (eSi64 a0))], []⟩ (by kernel_rfl) (sr (vp (eSi64 a0) rfl ?_))))
  obtain ⟨r1, hr2, h⟩ := bind_some h
  refine a_call (args := [(eSi64 a0)]) (u := []) (r := (i6 r1)) rfl rfl (impl_row_degree_ok a0 r1 hr2) rfl (vp (.bool ((decide (r1 ≤ 63)))) rfl (vp (.bool ((decide (r1 ≤ 63)))) rfl (nx _ rfl (a_ret ?_))))
  refine ⟨.inr rfl, ?_⟩
  rw [Try.results135]
  cases h
  exact ⟨_, _, _, _, _, rfl, trivial, .inl ⟨rfl, .inl rfl⟩, rfl, rfl⟩
def impl_told_c : ACode := (.seq (.region 0 [q 2 (.alloc 25), q 3 (.asg 0 (.const (.int .i64 0)) 2)] false) (.seq (.seq (.region 1 [q 4 (.mov (t 0)), q 5 (.call 0 (.func 135) [(t 4)]), q 6 (.un .not (t 5))] false) (.cond (t 6) (.seq (.region 2 [q 7 (.build 25 []), ⟨none, .store 25 (t 2) (t 7), none, []⟩, q 3 (.asg 0 (.const (.int .i64 3)) 2)] false) .ret) .skip)) (.seq (.region 3 [q 8 (.mov (t 0)), q 9 (.call 0 (.func 111) [(t 8)]), ⟨none, .store 25 (t 2) (t 9), none, []⟩, q 3 (.asg 0 (.const (.int .i64 0)) 2)] false) .ret)))
def impl_told_L : Live := [(0, [0]), (1, [0, 2]), (2, [2]), (3, [0, 2]), (100006, [0, 2, 6])]
noncomputable def impl_told (a0 : (List Int)) : Option ((Vec Int 64) × Int) :=
  (Option.bind (impl_row_fits a0) fun r1 => (if (!r1) then (some (((vrep 64 (0 : Int)), 3))) else (Option.bind (impl_row_poly a0) fun r4 => (some (r4, 0)))))
theorem impl_told_ok (a0 : (List Int)) (r : ((Vec Int 64) × Int)) (h : impl_told a0 = some r) : Den Try.prog 101 [(eSi64 a0)] { r := (.tuple [(eA64u8 r.1), (i6 r.2)]) } := by
  refine den_of (rs := [(eA64u8 r.1), (i6 r.2)]) (ac := impl_told_c) (L := impl_told_L) (n := 10) (m := []) (c := Try.f101.body.getD .skip) good Try.func101 (by kernel_rfl) (by kernel_rfl) Try.ntmps101 rfl rfl (by kernel_rfl) rfl rfl ?_
  refine a_st (σ' := ⟨[(0, (eSi64 a0))], []⟩) (by kernel_rfl) ?_
  unfold impl_told_c
  refine sr (vo 1200 (eA64u8 ((vrep 64 (0 : Int)))) rfl rfl (vp (i6 0) rfl (nx ⟨[(0, (eSi64 a0)), (2, (ow 2))], [(2, (bk (eA64u8 ((vrep 64 (0 : Int))))))]⟩ (by kernel_rfl) (a_seq (sr (vp (eSi64 a0) rfl ?_))))))
  obtain ⟨r1, hr2, h⟩ := bind_some h
  refine a_call (args := [(eSi64 a0)]) (u := []) (r := (.bool r1)) rfl rfl (impl_row_fits_ok a0 r1 hr2) rfl (vp (.bool (!r1)) rfl (nx ⟨[(0, (eSi64 a0)), (2, (ow 2)), (6, (.bool (!r1)))], [(2, (bk (eA64u8 ((vrep 64 (0 : Int))))))]⟩ (by kernel_rfl) ?_))
  cases hb3 : (!r1)
  · have h := ite_f hb3 h
    refine a_cond_f rfl (a_skip (a_next (σ' := ⟨[(0, (eSi64 a0)), (2, (ow 2))], [(2, (bk (eA64u8 ((vrep 64 (0 : Int))))))]⟩) (by kernel_rfl) (sr (vp (eSi64 a0) rfl ?_))))
    obtain ⟨r4, hr5, h⟩ := bind_some h
    refine a_call (args := [(eSi64 a0)]) (u := []) (r := (eA64u8 r4)) rfl rfl (impl_row_poly_ok a0 r4 hr5) rfl (vs (eA64u8 r4) rfl rfl (fun _ => rfl) rfl rfl rfl rfl rfl rfl (vp (i6 0) rfl (nx _ rfl (a_ret ?_))))
    have hl7 : LdOk [] (eA64u8 r4) [] 64 true (eA64u8 r4) := (.nil rfl rfl rfl)
    refine ⟨.inr rfl, ?_⟩
    rw [Try.results101]
    cases h
    exact ⟨_, _, _, _, _, ld_own (i := ⟨.arr 64 5, 64, 64, (eA64u8 (vrep 64 (0 : Int)))⟩) rfl rfl rfl hl7, hl7.c, .inl ⟨rfl, .inl rfl⟩, rfl, ⟨_, _, _, _, _, rfl, trivial, .inl ⟨rfl, .inl rfl⟩, rfl, rfl⟩⟩
  · have h := ite_t hb3 h
    refine a_cond_t rfl (sr (vq (eA64u8 ((vrep 64 (0 : Int)))) rfl ⟨⟨_, rfl, rfl⟩, all_nil⟩ (vs (eA64u8 ((vrep 64 (0 : Int)))) rfl rfl (fun _ => rfl) rfl rfl rfl rfl rfl rfl (vp (i6 3) rfl (nx _ rfl (a_ret (t_ret ?_)))))))
    have hl9 : LdOk [] (eA64u8 ((vrep 64 (0 : Int)))) [] 64 true (eA64u8 ((vrep 64 (0 : Int)))) := (.nil rfl rfl rfl)
    refine ⟨.inr rfl, ?_⟩
    rw [Try.results101]
    cases h
    exact ⟨_, _, _, _, _, ld_own (i := ⟨.arr 64 5, 64, 64, (eA64u8 (vrep 64 (0 : Int)))⟩) rfl rfl rfl hl9, hl9.c, .inl ⟨rfl, .inl rfl⟩, rfl, ⟨_, _, _, _, _, rfl, trivial, .inl ⟨rfl, .inl rfl⟩, rfl, rfl⟩⟩
def impl_prime_productOf_c : ACode := (.seq (.region 0 [q 4 (.alloc 25), q 5 (.asg 0 (.const (.int .i64 0)) 2)] false) (.seq (.region 1 [q 9 (.bslice 0 80 1 [(0, (.const (.int .i64 1)))]), q 6 (.asg 1 (t 9) 80)] false) (.seq (.seq (.region 2 [q 10 (.mov (t 1)), q 11 (.blt 0 .len [(t 10)] [108]), q 12 (.mov (.const (.int .i64 0)))] false) (.block 0 (.loop (.seq (.region 3 [q 13 (.bin .lss 3 (t 12) (t 11))] false) (.seq (.cond (t 13) .skip (.exit 0)) (.seq (.block 1 (.seq (.region 4 [q 14 (.indexAddr 108 (t 10) (t 12)), q 15 (.load 80 (t 14)), q 8 (.asg 1 (t 15) 80)] false) (.seq (.seq (.region 5 [q 16 (.mov (t 6)), q 17 (.call 0 (.func 114) [(t 16)]), q 18 (.mov (t 8)), q 19 (.call 0 (.func 114) [(t 18)]), q 20 (.bin .add 2 (t 17) (t 19)), q 21 (.bin .gtr 2 (t 20) (.const (.int .i64 63)))] false) (.cond (t 21) (.seq (.region 6 [q 22 (.build 25 []), ⟨none, .store 25 (t 4) (t 22), none, []⟩, q 5 (.asg 0 (.const (.int .i64 3)) 2)] false) .ret) .skip)) (.region 7 [q 23 (.mov (t 0)), q 24 (.mov (t 6)), q 25 (.mov (t 8)), q 26 (.call 0 (.func 102) [(t 23), (t 24), (t 25)]), q 6 (.asg 1 (t 26) 80)] false)))) (.region 8 [q 27 (.bin .add 3 (t 12) (.const (.int .i64 1))), q 12 (.mov (t 27))] false))))))) (.seq (.region 9 [q 28 (.mov (t 6)), q 29 (.call 0 (.func 101) [(t 28)]), q 30 (.extract (t 29) 0), q 31 (.extract (t 29) 1), ⟨none, .store 25 (t 4) (t 30), none, []⟩, q 5 (.asg 0 (t 31) 2)] false) .ret))))
def impl_prime_productOf_L : Live := [(0, [0, 1]), (1, [0, 1, 4]), (2, [0, 1, 4, 6]), (3, [0, 4, 6, 10, 11, 12]), (4, [0, 4, 6, 10, 11, 12]), (5, [0, 4, 6, 8, 10, 11, 12]), (6, [4]), (7, [0, 4, 6, 8, 10, 11, 12]), (8, [0, 4, 6, 10, 11, 12]), (9, [4, 6]), (100013, [0, 4, 6, 10, 11, 12, 13]), (100021, [0, 4, 6, 8, 10, 11, 12, 21])]
noncomputable def impl_prime_productOf_l1 (a1 : (List (List Int))) (a0 : Int) (x55 : (List Int)) (x56 : Int) : Option (((List Int) × Int) ⊕ ((List Int) ⊕ ((Vec Int 64) × Int))) :=
  (if (decide (x56 < (a1.length : Int))) then (ifp (0 ≤ x56 ∧ x56 < ((a1.length : Nat) : Int)) ((Option.bind (impl_row_degree x55) fun r74 => (Option.bind (impl_row_degree (rd a1 x56.toNat)) fun r76 => (if (decide ((IntKind.i64.wrap (r74 + r76)) > 63)) then (some (.inr ((.inr (((vrep 64 (0 : Int)), 3)))))) else (Option.bind (impl_prime_times a0 x55 (rd a1 x56.toNat)) fun r79 => (some (.inl ((r79, IntKind.i64.wrap (x56 + 1))))))))))) else (some (.inr (.inl x55))))
noncomputable def impl_prime_productOf (a0 : Int) (a1 : (List (List Int))) : Option ((Vec Int 64) × Int) :=
  (Option.bind (α := ((List Int) ⊕ ((Vec Int 64) × Int))) ((loopM (fun s : ((List Int) × Int) => impl_prime_productOf_l1 a1 a0 s.1 s.2) ([1], 0))) fun z => match z with | .inl x40 => (Option.bind (impl_told x40) fun r84 => (some (r84.1, r84.2))) | .inr r88 => (some r88))
theorem impl_prime_productOf_ok (a0 : Int) (a1 : (List (List Int))) (r : ((Vec Int 64) × Int)) (h : impl_prime_productOf a0 a1 = some r) : Den Try.prog 128 [(i6 a0), (eSSi64 a1)] { r := (.tuple [(eA64u8 r.1), (i6 r.2)]) } := by
  refine den_of (rs := [(eA64u8 r.1), (i6 r.2)]) (ac := impl_prime_productOf_c) (L := impl_prime_productOf_L) (n := 32) (m := [(6, 1), (8, 1)]) (c := Try.f128.body.getD .skip) good Try.func128 (by kernel_rfl) (by kernel_rfl) Try.ntmps128 rfl rfl (by kernel_rfl) rfl rfl ?_
  refine a_st (σ' := ⟨[(0, (i6 a0)), (1, (eSSi64 a1))], []⟩) (by kernel_rfl) ?_
  unfold impl_prime_productOf_c
  refine sr (vo 1400 (eA64u8 ((vrep 64 (0 : Int)))) rfl rfl (vp (i6 0) rfl (nx ⟨[(0, (i6 a0)), (1, (eSSi64 a1)), (4, (ow 4))], [(4, (bk (eA64u8 ((vrep 64 (0 : Int))))))]⟩ (by kernel_rfl) (sr (vq (.sl 1 true (([1]).map (AV.int .i64))) rfl ⟨(Nat.le_of_ble_eq_true rfl), (Nat.le_of_ble_eq_true rfl), (all_cons ⟨(Nat.le_of_ble_eq_true rfl), rfl⟩ all_nil)⟩ (vq (eSi64 ([1])) (asg_tight (i := ⟨.int .i64, 1, 8, (.int .i64 0)⟩) (f := (AV.int .i64)) (l := [1]) rfl rfl rfl) trivial (nx ⟨[(0, (i6 a0)), (1, (eSSi64 a1)), (4, (ow 4)), (6, (eSi64 ([1])))], [(4, (bk (eA64u8 ((vrep 64 (0 : Int))))))]⟩ (by kernel_rfl) ?_)))))))
  obtain ⟨y41, hy42, hk43⟩ := bind_some h
  clear h
  refine a_join (emb := fun (s : (List Int)) => ⟨[(4, (ow 4)), (6, (eSi64 s))], [(4, (bk (eA64u8 ((vrep 64 (0 : Int))))))]⟩) (pre := fun s => (.inl s) = y41) ?_ ?_
  · rintro x40 rfl
    have h := hk43
    refine a_st (σ' := ⟨[(4, (ow 4)), (6, (eSi64 x40))], [(4, (bk (eA64u8 ((vrep 64 (0 : Int))))))]⟩) (by kernel_rfl) (sr (vp (eSi64 x40) rfl ?_))
    obtain ⟨r84, hr85, h⟩ := bind_some h
    refine a_call (args := [(eSi64 x40)]) (u := []) (r := (.tuple [(eA64u8 r84.1), (i6 r84.2)])) rfl rfl (impl_told_ok x40 r84 hr85) rfl (vb (eA64u8 r84.1) rfl rfl (vb (i6 r84.2) rfl rfl (vs (eA64u8 r84.1) rfl rfl (fun _ => rfl) rfl rfl rfl rfl rfl rfl (vp (i6 r84.2) rfl (nx _ rfl (a_ret ?_))))))
    have hl87 : LdOk [] (eA64u8 r84.1) [] 64 true (eA64u8 r84.1) := (.nil rfl rfl rfl)
    refine ⟨.inr rfl, ?_⟩
    rw [Try.results128]
    cases h
    exact ⟨_, _, _, _, _, ld_own (i := ⟨.arr 64 5, 64, 64, (eA64u8 (vrep 64 (0 : Int)))⟩) rfl rfl rfl hl87, hl87.c, .inl ⟨rfl, .inl rfl⟩, rfl, ⟨_, _, _, _, _, rfl, trivial, .inl ⟨rfl, .inl rfl⟩, rfl, rfl⟩⟩
  · have h := hy42
    refine sr (vp (eSSi64 a1) rfl (vq (i6 (a1.length : Int)) (len_run rfl rfl) trivial (vp (i6 0) rfl (nx ⟨[(0, (i6 a0)), (4, (ow 4)), (6, (eSi64 ([1]))), (10, (eSSi64 a1)), (11, (i6 (a1.length : Int))), (12, (i6 0))], [(4, (bk (eA64u8 ((vrep 64 (0 : Int))))))]⟩ (by kernel_rfl) (a_block ?_)))))
    refine a_loop (emb := fun (s : ((List Int) × Int)) => ⟨[(0, (i6 a0)), (4, (ow 4)), (6, (eSi64 s.1)), (10, (eSSi64 a1)), (11, (i6 (a1.length : Int))), (12, (i6 s.2))], [(4, (bk (eA64u8 ((vrep 64 (0 : Int))))))]⟩) (body := (fun s : ((List Int) × Int) => impl_prime_productOf_l1 a1 a0 s.1 s.2)) (G := fun q => some q = some y41) h rfl ?_ (by kernel_rfl)
    rintro X68 ⟨x55, x56⟩ x69 h hX70
    have h : impl_prime_productOf_l1 a1 a0 x55 x56 = some x69 := h
    refine a_st (σ' := ⟨[(0, (i6 a0)), (4, (ow 4)), (6, (eSi64 x55)), (10, (eSSi64 a1)), (11, (i6 (a1.length : Int))), (12, (i6 x56))], [(4, (bk (eA64u8 ((vrep 64 (0 : Int))))))]⟩) (by kernel_rfl) (sr (vp (.bool ((decide (x56 < (a1.length : Int))))) rfl (nx ⟨[(0, (i6 a0)), (4, (ow 4)), (6, (eSi64 x55)), (10, (eSSi64 a1)), (11, (i6 (a1.length : Int))), (12, (i6 x56)), (13, (.bool ((decide (x56 < (a1.length : Int))))))], [(4, (bk (eA64u8 ((vrep 64 (0 : Int))))))]⟩ (by kernel_rfl) (a_seq ?_))))
    cases hb71 : (decide (x56 < (a1.length : Int)))
    · have h := ite_f hb71 h
      refine a_cond_f rfl (a_exit (t_exit ?_))
      cases h
      have h := hX70
      refine t_exit (b_exit ?_)
      exact j_leaf x55 (Option.some.inj h) (by kernel_rfl)
    · have h := ite_t hb71 h
      refine a_cond_t rfl (a_skip (a_next (σ' := ⟨[(0, (i6 a0)), (4, (ow 4)), (6, (eSi64 x55)), (10, (eSSi64 a1)), (11, (i6 (a1.length : Int))), (12, (i6 x56))], [(4, (bk (eA64u8 ((vrep 64 (0 : Int))))))]⟩) (by kernel_rfl) (a_seq (a_block (sr ?_)))))
      obtain ⟨hc72, h⟩ := ifp_some h
      refine vq (.ref (.row 1 (a1.map eSi64)) [x56.toNat] [x56.toNat * 1]) rfl (lmap hc72) ?_
      have hl73 : LdOk [x56.toNat] (.row 1 (a1.map eSi64)) [x56.toNat * 1] 1 false (eSi64 (rd a1 x56.toNat)) := (.row (llt hc72) rfl (.nil rfl rfl rfl))
      refine vq (eSi64 (rd a1 x56.toNat)) (ld_ref (i := ⟨.slice 2, 1, 24, (eSi64 [])⟩) rfl rfl hl73) hl73.c (vp (eSi64 (rd a1 x56.toNat)) rfl (nx ⟨[(0, (i6 a0)), (4, (ow 4)), (6, (eSi64 x55)), (8, (eSi64 (rd a1 x56.toNat))), (10, (eSSi64 a1)), (11, (i6 (a1.length : Int))), (12, (i6 x56))], [(4, (bk (eA64u8 ((vrep 64 (0 : Int))))))]⟩ (by kernel_rfl) (a_seq (sr (vp (eSi64 x55) rfl ?_)))))
      obtain ⟨r74, hr75, h⟩ := bind_some h
      refine a_call (args := [(eSi64 x55)]) (u := []) (r := (i6 r74)) rfl rfl (impl_row_degree_ok x55 r74 hr75) rfl (vp (eSi64 (rd a1 x56.toNat)) rfl ?_)
      obtain ⟨r76, hr77, h⟩ := bind_some h
      refine a_call (args := [(eSi64 (rd a1 x56.toNat))]) (u := []) (r := (i6 r76)) rfl rfl (impl_row_degree_ok (rd a1 x56.toNat) r76 hr77) rfl (vp (i6 (IntKind.i64.wrap (r74 + r76))) rfl (vp (.bool ((decide ((IntKind.i64.wrap (r74 + r76)) > 63)))) rfl (nx ⟨[(0, (i6 a0)), (4, (ow 4)), (6, (eSi64 x55)), (8, (eSi64 (rd a1 x56.toNat))), (10, (eSSi64 a1)), (11, (i6 (a1.length : Int))), (12, (i6 x56)), (21, (.bool ((decide ((IntKind.i64.wrap (r74 + r76)) > 63)))))], [(4, (bk (eA64u8 ((vrep 64 (0 : Int))))))]⟩ (by kernel_rfl) ?_)))
      cases hb78 : (decide ((IntKind.i64.wrap (r74 + r76)) > 63))
      · have h := ite_f hb78 h
        refine a_cond_f rfl (a_skip (a_next (σ' := ⟨[(0, (i6 a0)), (4, (ow 4)), (6, (eSi64 x55)), (8, (eSi64 (rd a1 x56.toNat))), (10, (eSSi64 a1)), (11, (i6 (a1.length : Int))), (12, (i6 x56))], [(4, (bk (eA64u8 ((vrep 64 (0 : Int))))))]⟩) (by kernel_rfl) (a_region (vp (i6 a0) rfl (vp (eSi64 x55) rfl (vp (eSi64 (rd a1 x56.toNat)) rfl ?_))))))
        obtain ⟨r79, hr80, h⟩ := bind_some h
        refine a_call (args := [(i6 a0), (eSi64 x55), (eSi64 (rd a1 x56.toNat))]) (u := []) (r := (eSi64 r79)) rfl rfl (impl_prime_times_ok a0 x55 (rd a1 x56.toNat) r79 hr80) rfl (vp (eSi64 r79) rfl (a_nil (b_norm (a_next (σ' := ⟨[(0, (i6 a0)), (4, (ow 4)), (6, (eSi64 r79)), (10, (eSSi64 a1)), (11, (i6 (a1.length : Int))), (12, (i6 x56))], [(4, (bk (eA64u8 ((vrep 64 (0 : Int))))))]⟩) (by kernel_rfl) (a_region (vp (i6 (IntKind.i64.wrap (x56 + 1))) rfl (vp (i6 (IntKind.i64.wrap (x56 + 1))) rfl (a_nil ?_))))))))
        cases h
        exact a_again (by kernel_rfl) hX70
      · have h := ite_t hb78 h
        refine a_cond_t rfl (sr (vq (eA64u8 ((vrep 64 (0 : Int)))) rfl ⟨⟨_, rfl, rfl⟩, all_nil⟩ (vs (eA64u8 ((vrep 64 (0 : Int)))) rfl rfl (fun _ => rfl) rfl rfl rfl rfl rfl rfl (vp (i6 3) rfl (nx _ rfl (a_ret (t_ret (b_ret (t_ret ?_)))))))))
        cases h
        have h := hX70
        refine t_ret (b_ret (t_ret ?_))
        cases h
        have h := hk43
        have hl82 : LdOk [] (eA64u8 ((vrep 64 (0 : Int)))) [] 64 true (eA64u8 ((vrep 64 (0 : Int)))) := (.nil rfl rfl rfl)
        refine ⟨.inr rfl, ?_⟩
        rw [Try.results128]
        cases h
        exact ⟨_, _, _, _, _, ld_own (i := ⟨.arr 64 5, 64, 64, (eA64u8 (vrep 64 (0 : Int)))⟩) rfl rfl rfl hl82, hl82.c, .inl ⟨rfl, .inl rfl⟩, rfl, ⟨_, _, _, _, _, rfl, trivial, .inl ⟨rfl, .inl rfl⟩, rfl, rfl⟩⟩
def impl_prime_first_c : ACode := (.seq (.region 0 [q 4 (.asg 1 (.const (.slice none 0 0)) 108)] false) (.seq (.region 1 [q 5 (.asg 2 (.const (.slice none 0 0)) 108)] false) (.seq (.seq (.region 2 [q 7 (.mov (t 1)), q 8 (.mov (.const (.int .i64 0)))] false) (.block 0 (.loop (.seq (.region 3 [q 9 (.bin .lss 2 (t 8) (t 7))] false) (.seq (.cond (t 9) .skip (.exit 0)) (.seq (.block 1 (.seq (.region 4 [q 10 (.mov (t 8)), q 6 (.asg 0 (t 10) 2)] false) (.region 5 [q 11 (.mov (t 5)), q 12 (.mov (t 0)), q 13 (.mov (t 1)), q 14 (.mov (t 6)), q 15 (.call 0 (.func 125) [(t 12), (t 13), (t 14)]), q 16 (.bslice 0 108 1 [(0, (t 15))]), q 17 (.blt 0 .append [(t 11), (t 16)] [108, 108]), q 5 (.asg 2 (t 17) 108)] false))) (.region 6 [q 18 (.bin .add 2 (t 8) (.const (.int .i64 1))), q 8 (.mov (t 18))] false))))))) (.seq (.region 7 [q 19 (.mov (t 5)), q 4 (.asg 1 (t 19) 108)] false) .ret))))
def impl_prime_first_L : Live := [(0, [0, 1]), (1, [0, 1]), (2, [0, 1, 5]), (3, [0, 1, 5, 7, 8]), (4, [0, 1, 5, 7, 8]), (5, [0, 1, 5, 6, 7, 8]), (6, [0, 1, 5, 7, 8]), (7, [5]), (100009, [0, 1, 5, 7, 8, 9])]
noncomputable def impl_prime_first_l1 (a1 : Int) (a0 : Int) (x27 : Int) (x28 : (List (List Int))) : Option ((Int × (List (List Int))) ⊕ (List (List Int))) :=
  (if (decide (x27 < a1)) then (Option.bind (impl_prime_bracket a0 a1 x27) fun r37 => (ifp ((x28.length + ([r37] : List (List Int)).length) * 24 ≤ 140737488355328) ((some (.inl ((IntKind.i64.wrap (x27 + 1), (x28 ++ ([r37]))))))))) else (some (.inr x28)))
noncomputable def impl_prime_first (a0 : Int) (a1 : Int) : Option (List (List Int)) :=
  (Option.bind (α := (List (List Int))) ((loopM (fun s : (Int × (List (List Int))) => impl_prime_first_l1 a1 a0 s.1 s.2) (0, []))) fun x19 => (some x19))
theorem impl_prime_first_ok (a0 : Int) (a1 : Int) (r : (List (List Int))) (h : impl_prime_first a0 a1 = some r) : Den Try.prog 129 [(i6 a0), (i6 a1)] { r := (eSSi64 r) } := by
  refine den_of (rs := [(eSSi64 r)]) (ac := impl_prime_first_c) (L := impl_prime_first_L) (n := 20) (m := [(4, 1), (5, 2)]) (c := Try.f129.body.getD .skip) good Try.func129 (by kernel_rfl) (by kernel_rfl) Try.ntmps129 rfl rfl (by kernel_rfl) rfl rfl ?_
  refine a_st (σ' := ⟨[(0, (i6 a0)), (1, (i6 a1))], []⟩) (by kernel_rfl) ?_
  unfold impl_prime_first_c
  refine sr (vp (eSSi64 ([])) rfl (nx ⟨[(0, (i6 a0)), (1, (i6 a1))], []⟩ (by kernel_rfl) (sr (vu (.osl 1500) [(1500, (bk (.row 1 (([]).map eSi64))))] rfl trivial rfl (nx ⟨[(0, (i6 a0)), (1, (i6 a1)), (5, (.osl 5))], [(5, (bk (.row 1 (([]).map eSi64))))]⟩ (by kernel_rfl) ?_)))))
  obtain ⟨y20, hy21, hk22⟩ := bind_some h
  clear h
  refine a_join (emb := fun (s : (List (List Int))) => ⟨[(5, (.osl 5))], [(5, (bk (.row 1 (s.map eSi64))))]⟩) (pre := fun s => s = y20) ?_ ?_
  · rintro x19 rfl
    have h := hk22
    refine a_st (σ' := ⟨[(5, (.osl 5))], [(5, (bk (.row 1 (x19.map eSi64))))]⟩) (by kernel_rfl) (sr (vp (.osl 5) rfl (vu (eSSi64 x19) [(5, (bf (.row 1 (x19.map eSi64))))] rfl trivial rfl (nx _ rfl (a_ret ?_)))))
    refine ⟨.inr rfl, ?_⟩
    rw [Try.results129]
    cases h
    exact ⟨_, _, _, _, _, rfl, trivial, .inl ⟨rfl, .inl rfl⟩, rfl, rfl⟩
  · have h := hy21
    refine sr (vp (i6 a1) rfl (vp (i6 0) rfl (nx ⟨[(0, (i6 a0)), (1, (i6 a1)), (5, (.osl 5)), (7, (i6 a1)), (8, (i6 0))], [(5, (bk (.row 1 (([]).map eSi64))))]⟩ (by kernel_rfl) (a_block ?_))))
    refine a_loop (emb := fun (s : (Int × (List (List Int)))) => ⟨[(0, (i6 a0)), (1, (i6 a1)), (5, (.osl 5)), (7, (i6 a1)), (8, (i6 s.1))], [(5, (bk (.row 1 (s.2.map eSi64))))]⟩) (body := (fun s : (Int × (List (List Int))) => impl_prime_first_l1 a1 a0 s.1 s.2)) (G := fun q => some q = some y20) h rfl ?_ (by kernel_rfl)
    rintro X33 ⟨x27, x28⟩ x34 h hX35
    have h : impl_prime_first_l1 a1 a0 x27 x28 = some x34 := h
    refine a_st (σ' := ⟨[(0, (i6 a0)), (1, (i6 a1)), (5, (.osl 5)), (7, (i6 a1)), (8, (i6 x27))], [(5, (bk (.row 1 (x28.map eSi64))))]⟩) (by kernel_rfl) (sr (vp (.bool ((decide (x27 < a1)))) rfl (nx ⟨[(0, (i6 a0)), (1, (i6 a1)), (5, (.osl 5)), (7, (i6 a1)), (8, (i6 x27)), (9, (.bool ((decide (x27 < a1)))))], [(5, (bk (.row 1 (x28.map eSi64))))]⟩ (by kernel_rfl) (a_seq ?_))))
    cases hb36 : (decide (x27 < a1))
    · have h := ite_f hb36 h
      refine a_cond_f rfl (a_exit (t_exit ?_))
      cases h
      have h := hX35
      refine t_exit (b_exit ?_)
      exact j_leaf x28 (Option.some.inj h) (by kernel_rfl)
    · have h := ite_t hb36 h
      refine a_cond_t rfl (a_skip (a_next (σ' := ⟨[(0, (i6 a0)), (1, (i6 a1)), (5, (.osl 5)), (7, (i6 a1)), (8, (i6 x27))], [(5, (bk (.row 1 (x28.map eSi64))))]⟩) (by kernel_rfl) (a_seq (a_block (sr (vp (i6 x27) rfl (vp (i6 x27) rfl (nx ⟨[(0, (i6 a0)), (1, (i6 a1)), (5, (.osl 5)), (6, (i6 x27)), (7, (i6 a1)), (8, (i6 x27))], [(5, (bk (.row 1 (x28.map eSi64))))]⟩ (by kernel_rfl) (a_region ?_)))))))))
      refine vp (.osl 5) rfl (vp (i6 a0) rfl (vp (i6 a1) rfl (vp (i6 x27) rfl ?_)))
      obtain ⟨r37, hr38, h⟩ := bind_some h
      refine a_call (args := [(i6 a0), (i6 a1), (i6 x27)]) (u := []) (r := (eSi64 r37)) rfl rfl (impl_prime_bracket_ok a0 a1 x27 r37 hr38) rfl (vq (.sl 1 true (([r37]).map eSi64)) rfl ⟨(Nat.le_of_ble_eq_true rfl), (Nat.le_of_ble_eq_true rfl), (all_cons ⟨(Nat.le_of_ble_eq_true rfl), rfl⟩ all_nil)⟩ ?_)
      obtain ⟨hc39, h⟩ := ifp_some h
      refine vu (.osl 2700) [(2700, (bk (.row 1 (((x28 ++ ([r37]))).map eSi64)))), (5, none)] (app_run (i := ⟨.slice 2, 1, 24, (eSi64 [])⟩) (f := eSi64) (l := x28) (l2 := [r37]) rfl rfl rfl rfl (fun _ => rfl) rfl rfl) (app_c (f := eSi64) (s := 1) (sz := 1) (by' := 24) (u := []) (id := 5) hc39 (.inr rfl) rfl rfl rfl) rfl (vp (.osl 2700) rfl (a_nil (b_norm (a_next (σ' := ⟨[(0, (i6 a0)), (1, (i6 a1)), (5, (.osl 5)), (7, (i6 a1)), (8, (i6 x27))], [(5, (bk (.row 1 (((x28 ++ ([r37]))).map eSi64))))]⟩) (by kernel_rfl) (a_region (vp (i6 (IntKind.i64.wrap (x27 + 1))) rfl (vp (i6 (IntKind.i64.wrap (x27 + 1))) rfl (a_nil ?_))))))))
      cases h
      exact a_again (by kernel_rfl) hX35
def spec_l08Power_c : ACode := (.seq (.region 0 [q 4 (.box 25 (t 1)), q 6 (.alloc 25), q 7 (.asg 0 (.const (.bool false)) 4)] false) (.seq (.region 1 [q 11 (.call 0 (.func 133) []), q 8 (.alloc 25), ⟨none, .store 25 (t 8) (t 11), none, []⟩] false) (.seq (.block 0 (.loop (.seq (.seq (.region 2 [q 12 (.mov (t 2)), q 13 (.bin .gtr 2 (t 12) (.const (.int .i64 0)))] false) (.cond (t 13) .skip (.exit 0))) (.seq (.block 1 (.seq (.region 4 [q 17 (.mov (t 0)), q 18 (.load 25 (t 8)), q 19 (.load 25 (t 4)), q 20 (.call 0 (.func 105) [(t 17), (t 18), (t 19)]), q 16 (.mov (t 20)), q 21 (.extract (t 16) 0), q 22 (.extract (t 16) 1), q 9 (.alloc 25), ⟨none, .store 25 (t 9) (t 21), none, []⟩, q 10 (.asg 0 (t 22) 4)] false) (.seq (.seq (.region 5 [q 23 (.mov (t 10)), q 24 (.un .not (t 23))] false) (.cond (t 24) (.seq (.region 6 [q 25 (.build 25 []), ⟨none, .store 25 (t 6) (t 25), none, []⟩, q 7 (.asg 0 (.const (.bool false)) 4)] false) .ret) .skip)) (.region 7 [q 26 (.load 25 (t 9)), ⟨none, .store 25 (t 8) (t 26), none, []⟩] false)))) (.region 3 [q 14 (.mov (t 2)), q 15 (.bin .sub 2 (t 14) (.const (.int .i64 1))), q 2 (.asg 0 (t 15) 2)] false))))) (.seq (.region 8 [q 27 (.load 25 (t 8)), ⟨none, .store 25 (t 6) (t 27), none, []⟩, q 7 (.asg 0 (.const (.bool true)) 4)] false) .ret))))
def spec_l08Power_L : Live := [(0, [0, 1, 2]), (1, [0, 2, 4, 6]), (2, [0, 2, 4, 6, 8]), (3, [0, 2, 4, 6, 8]), (4, [0, 2, 4, 6, 8]), (5, [0, 2, 4, 6, 8, 9, 10]), (6, [6]), (7, [0, 2, 4, 6, 8, 9]), (8, [6, 8]), (100013, [0, 2, 4, 6, 8, 13]), (100024, [0, 2, 4, 6, 8, 9, 24])]
noncomputable def spec_l08Power_l1 (a0 : Int) (a1 : (Vec Int 64)) (x54 : Int) (x55 : (Vec Int 64)) : Option ((Int × (Vec Int 64)) ⊕ ((Vec Int 64) ⊕ ((Vec Int 64) × Bool))) :=
  (if (decide (x54 > 0)) then (Option.bind (spec_l01Times a0 x55 a1) fun r72 => (if (!r72.2) then (some (.inr ((.inr (((vrep 64 (0 : Int)), false)))))) else (some (.inl ((IntKind.i64.wrap (x54 - 1), r72.1)))))) else (some (.inr (.inl x55))))
noncomputable def spec_l08Power (a0 : Int) (a1 : (Vec Int 64)) (a2 : Int) : Option ((Vec Int 64) × Bool) :=
  (Option.bind (spec_l01One) fun r1 => (Option.bind (α := ((Vec Int 64) ⊕ ((Vec Int 64) × Bool))) ((loopM (fun s : (Int × (Vec Int 64)) => spec_l08Power_l1 a0 a1 s.1 s.2) (a2, r1))) fun z => match z with | .inl x40 => (some (x40, true)) | .inr r84 => (some r84)))
theorem spec_l08Power_ok (a0 : Int) (a1 : (Vec Int 64)) (a2 : Int) (r : ((Vec Int 64) × Bool)) (h : spec_l08Power a0 a1 a2 = some r) : Den Try.prog 198 [(i6 a0), (eA64u8 a1), (i6 a2)] { r := (.tuple [(eA64u8 r.1), (.bool r.2)]) } := by
  refine den_of (rs := [(eA64u8 r.1), (.bool r.2)]) (ac := spec_l08Power_c) (L := spec_l08Power_L) (n := 28) (m := []) (c := Try.f198.body.getD .skip) good Try.func198 (by kernel_rfl) (by kernel_rfl) Try.ntmps198 rfl rfl (by kernel_rfl) rfl rfl ?_
  refine a_st (σ' := ⟨[(0, (i6 a0)), (1, (eA64u8 a1)), (2, (i6 a2))], []⟩) (by kernel_rfl) ?_
  unfold spec_l08Power_c
  refine sr (vo 1400 (eA64u8 a1) rfl rfl (vo 1600 (eA64u8 ((vrep 64 (0 : Int)))) rfl rfl (vp (.bool false) rfl (nx ⟨[(0, (i6 a0)), (2, (i6 a2)), (4, (ow 4)), (6, (ow 6))], [(4, (bk (eA64u8 a1))), (6, (bk (eA64u8 ((vrep 64 (0 : Int))))))]⟩ (by kernel_rfl) (sr ?_)))))
  obtain ⟨r1, hr2, h⟩ := bind_some h
  refine a_call (args := []) (u := []) (r := (eA64u8 r1)) rfl rfl (spec_l01One_ok r1 hr2) rfl (vo 1800 (eA64u8 ((vrep 64 (0 : Int)))) rfl rfl (vs (eA64u8 r1) rfl rfl (fun _ => rfl) rfl rfl rfl rfl rfl rfl (nx ⟨[(0, (i6 a0)), (2, (i6 a2)), (4, (ow 4)), (6, (ow 6)), (8, (ow 8))], [(4, (bk (eA64u8 a1))), (6, (bk (eA64u8 ((vrep 64 (0 : Int)))))), (8, (bk (eA64u8 r1)))]⟩ (by kernel_rfl) ?_)))
  obtain ⟨y41, hy42, hk43⟩ := bind_some h
  clear h
  refine a_join (emb := fun (s : (Vec Int 64)) => ⟨[(6, (ow 6)), (8, (ow 8))], [(6, (bk (eA64u8 ((vrep 64 (0 : Int)))))), (8, (bk (eA64u8 s)))]⟩) (pre := fun s => (.inl s) = y41) ?_ ?_
  · rintro x40 rfl
    have h := hk43
    refine a_st (σ' := ⟨[(6, (ow 6)), (8, (ow 8))], [(6, (bk (eA64u8 ((vrep 64 (0 : Int)))))), (8, (bk (eA64u8 x40)))]⟩) (by kernel_rfl) (sr (vl (eA64u8 x40) rfl rfl rfl rfl rfl rfl (vs (eA64u8 x40) rfl rfl (fun _ => rfl) rfl rfl rfl rfl rfl rfl (vp (.bool true) rfl (nx _ rfl (a_ret ?_))))))
    have hl83 : LdOk [] (eA64u8 x40) [] 64 true (eA64u8 x40) := (.nil rfl rfl rfl)
    refine ⟨.inr rfl, ?_⟩
    rw [Try.results198]
    cases h
    exact ⟨_, _, _, _, _, ld_own (i := ⟨.arr 64 5, 64, 64, (eA64u8 (vrep 64 (0 : Int)))⟩) rfl rfl rfl hl83, hl83.c, .inl ⟨rfl, .inl rfl⟩, rfl, ⟨_, _, _, _, _, rfl, trivial, .inl ⟨rfl, .inl rfl⟩, rfl, rfl⟩⟩
  · have h := hy42
    refine a_block ?_
    refine a_loop (emb := fun (s : (Int × (Vec Int 64))) => ⟨[(0, (i6 a0)), (2, (i6 s.1)), (4, (ow 4)), (6, (ow 6)), (8, (ow 8))], [(4, (bk (eA64u8 a1))), (6, (bk (eA64u8 ((vrep 64 (0 : Int)))))), (8, (bk (eA64u8 s.2)))]⟩) (body := (fun s : (Int × (Vec Int 64)) => spec_l08Power_l1 a0 a1 s.1 s.2)) (G := fun q => some q = some y41) h rfl ?_ (by kernel_rfl)
    rintro X66 ⟨x54, x55⟩ x67 h hX68
    have h : spec_l08Power_l1 a0 a1 x54 x55 = some x67 := h
    refine a_st (σ' := ⟨[(0, (i6 a0)), (2, (i6 x54)), (4, (ow 4)), (6, (ow 6)), (8, (ow 8))], [(4, (bk (eA64u8 a1))), (6, (bk (eA64u8 ((vrep 64 (0 : Int)))))), (8, (bk (eA64u8 x55)))]⟩) (by kernel_rfl) (a_seq (sr (vp (i6 x54) rfl (vp (.bool ((decide (x54 > 0)))) rfl (nx ⟨[(0, (i6 a0)), (2, (i6 x54)), (4, (ow 4)), (6, (ow 6)), (8, (ow 8)), (13, (.bool ((decide (x54 > 0)))))], [(4, (bk (eA64u8 a1))), (6, (bk (eA64u8 ((vrep 64 (0 : Int)))))), (8, (bk (eA64u8 x55)))]⟩ (by kernel_rfl) ?_)))))
    cases hb69 : (decide (x54 > 0))
    · have h := ite_f hb69 h
      refine a_cond_f rfl (a_exit (t_exit ?_))
      cases h
      have h := hX68
      refine t_exit (b_exit ?_)
      exact j_leaf x55 (Option.some.inj h) (by kernel_rfl)
    · have h := ite_t hb69 h
      refine a_cond_t rfl (a_skip (a_next (σ' := ⟨[(0, (i6 a0)), (2, (i6 x54)), (4, (ow 4)), (6, (ow 6)), (8, (ow 8))], [(4, (bk (eA64u8 a1))), (6, (bk (eA64u8 ((vrep 64 (0 : Int)))))), (8, (bk (eA64u8 x55)))]⟩) (by kernel_rfl) (a_seq (a_block (sr (vp (i6 a0) rfl (vl (eA64u8 x55) rfl rfl rfl rfl rfl rfl (vl (eA64u8 a1) rfl rfl rfl rfl rfl rfl ?_))))))))
      obtain ⟨r72, hr73, h⟩ := bind_some h
      refine a_call (args := [(i6 a0), (eA64u8 x55), (eA64u8 a1)]) (u := []) (r := (.tuple [(eA64u8 r72.1), (.bool r72.2)])) rfl rfl (spec_l01Times_ok a0 x55 a1 r72 hr73) rfl (vp (.tuple [(eA64u8 r72.1), (.bool r72.2)]) rfl (vb (eA64u8 r72.1) rfl rfl (vb (.bool r72.2) rfl rfl (vo 1900 (eA64u8 ((vrep 64 (0 : Int)))) rfl rfl (vs (eA64u8 r72.1) rfl rfl (fun _ => rfl) rfl rfl rfl rfl rfl rfl (vp (.bool r72.2) rfl (nx ⟨[(0, (i6 a0)), (2, (i6 x54)), (4, (ow 4)), (6, (ow 6)), (8, (ow 8)), (9, (ow 9)), (10, (.bool r72.2))], [(4, (bk (eA64u8 a1))), (6, (bk (eA64u8 ((vrep 64 (0 : Int)))))), (8, (bk (eA64u8 x55))), (9, (bk (eA64u8 r72.1)))]⟩ (by kernel_rfl) (a_seq (sr ?_)))))))))
      refine vp (.bool r72.2) rfl (vp (.bool (!r72.2)) rfl (nx ⟨[(0, (i6 a0)), (2, (i6 x54)), (4, (ow 4)), (6, (ow 6)), (8, (ow 8)), (9, (ow 9)), (24, (.bool (!r72.2)))], [(4, (bk (eA64u8 a1))), (6, (bk (eA64u8 ((vrep 64 (0 : Int)))))), (8, (bk (eA64u8 x55))), (9, (bk (eA64u8 r72.1)))]⟩ (by kernel_rfl) ?_))
      cases hb75 : (!r72.2)
      · have h := ite_f hb75 h
        refine a_cond_f rfl (a_skip (a_next (σ' := ⟨[(0, (i6 a0)), (2, (i6 x54)), (4, (ow 4)), (6, (ow 6)), (8, (ow 8)), (9, (ow 9))], [(4, (bk (eA64u8 a1))), (6, (bk (eA64u8 ((vrep 64 (0 : Int)))))), (8, (bk (eA64u8 x55))), (9, (bk (eA64u8 r72.1)))]⟩) (by kernel_rfl) (a_region (vl (eA64u8 r72.1) rfl rfl rfl rfl rfl rfl (vs (eA64u8 r72.1) rfl rfl (fun _ => rfl) rfl rfl rfl rfl rfl rfl (a_nil (b_norm (a_next (σ' := ⟨[(0, (i6 a0)), (2, (i6 x54)), (4, (ow 4)), (6, (ow 6)), (8, (ow 8))], [(4, (bk (eA64u8 a1))), (6, (bk (eA64u8 ((vrep 64 (0 : Int)))))), (8, (bk (eA64u8 r72.1)))]⟩) (by kernel_rfl) (a_region ?_)))))))))
        refine vp (i6 x54) rfl (vp (i6 (IntKind.i64.wrap (x54 - 1))) rfl (vp (i6 (IntKind.i64.wrap (x54 - 1))) rfl (a_nil ?_)))
        cases h
        exact a_again (by kernel_rfl) hX68
      · have h := ite_t hb75 h
        refine a_cond_t rfl (sr (vq (eA64u8 ((vrep 64 (0 : Int)))) rfl ⟨⟨_, rfl, rfl⟩, all_nil⟩ (vs (eA64u8 ((vrep 64 (0 : Int)))) rfl rfl (fun _ => rfl) rfl rfl rfl rfl rfl rfl (vp (.bool false) rfl (nx _ rfl (a_ret (t_ret (b_ret (t_ret ?_)))))))))
        cases h
        have h := hX68
        refine t_ret (b_ret (t_ret ?_))
        cases h
        have h := hk43
        have hl79 : LdOk [] (eA64u8 ((vrep 64 (0 : Int)))) [] 64 true (eA64u8 ((vrep 64 (0 : Int)))) := (.nil rfl rfl rfl)
        refine ⟨.inr rfl, ?_⟩
        rw [Try.results198]
        cases h
        exact ⟨_, _, _, _, _, ld_own (i := ⟨.arr 64 5, 64, 64, (eA64u8 (vrep 64 (0 : Int)))⟩) rfl rfl rfl hl79, hl79.c, .inl ⟨rfl, .inl rfl⟩, rfl, ⟨_, _, _, _, _, rfl, trivial, .inl ⟨rfl, .inl rfl⟩, rfl, rfl⟩⟩
def spec_l01Mod_c : ACode := (.seq (.region 0 [q 4 (.box 25 (t 1)), q 5 (.box 25 (t 2)), q 6 (.alloc 25)] false) (.seq (.region 1 [q 10 (.mov (t 0)), q 11 (.load 25 (t 4)), q 12 (.load 25 (t 5)), q 13 (.call 0 (.func 113) [(t 10), (t 11), (t 12)]), q 9 (.mov (t 13)), q 14 (.extract (t 9) 0), q 15 (.extract (t 9) 1), q 7 (.alloc 25), q 8 (.alloc 25), ⟨none, .store 25 (t 7) (t 14), none, []⟩, ⟨none, .store 25 (t 8) (t 15), none, []⟩] false) (.seq (.region 2 [q 16 (.load 25 (t 8)), ⟨none, .store 25 (t 6) (t 16), none, []⟩] false) .ret)))
def spec_l01Mod_L : Live := [(0, [0, 1, 2]), (1, [0, 4, 5, 6]), (2, [6, 8])]
noncomputable def spec_l01Mod (a0 : Int) (a1 : (Vec Int 64)) (a2 : (Vec Int 64)) : Option (Vec Int 64) :=
  (Option.bind (spec_l01Divide a0 a1 a2) fun r3 => (some r3.2))
theorem spec_l01Mod_ok (a0 : Int) (a1 : (Vec Int 64)) (a2 : (Vec Int 64)) (r : (Vec Int 64)) (h : spec_l01Mod a0 a1 a2 = some r) : Den Try.prog 165 [(i6 a0), (eA64u8 a1), (eA64u8 a2)] { r := (eA64u8 r) } := by
  refine den_of (rs := [(eA64u8 r)]) (ac := spec_l01Mod_c) (L := spec_l01Mod_L) (n := 17) (m := []) (c := Try.f165.body.getD .skip) good Try.func165 (by kernel_rfl) (by kernel_rfl) Try.ntmps165 rfl rfl (by kernel_rfl) rfl rfl ?_
  refine a_st (σ' := ⟨[(0, (i6 a0)), (1, (eA64u8 a1)), (2, (eA64u8 a2))], []⟩) (by kernel_rfl) ?_
  unfold spec_l01Mod_c
  refine sr (vo 1400 (eA64u8 a1) rfl rfl (vo 1500 (eA64u8 a2) rfl rfl (vo 1600 (eA64u8 ((vrep 64 (0 : Int)))) rfl rfl (nx ⟨[(0, (i6 a0)), (4, (ow 4)), (5, (ow 5)), (6, (ow 6))], [(4, (bk (eA64u8 a1))), (5, (bk (eA64u8 a2))), (6, (bk (eA64u8 ((vrep 64 (0 : Int))))))]⟩ (by kernel_rfl) (sr (vp (i6 a0) rfl (vl (eA64u8 a1) rfl rfl rfl rfl rfl rfl (vl (eA64u8 a2) rfl rfl rfl rfl rfl rfl ?_))))))))
  obtain ⟨r3, hr4, h⟩ := bind_some h
  refine a_call (args := [(i6 a0), (eA64u8 a1), (eA64u8 a2)]) (u := []) (r := (.tuple [(eA64u8 r3.1), (eA64u8 r3.2)])) rfl rfl (spec_l01Divide_ok a0 a1 a2 r3 hr4) rfl (vp (.tuple [(eA64u8 r3.1), (eA64u8 r3.2)]) rfl (vb (eA64u8 r3.1) rfl rfl (vb (eA64u8 r3.2) rfl rfl (vo 1700 (eA64u8 ((vrep 64 (0 : Int)))) rfl rfl (vo 1800 (eA64u8 ((vrep 64 (0 : Int)))) rfl rfl (vs (eA64u8 r3.1) rfl rfl (fun _ => rfl) rfl rfl rfl rfl rfl rfl (vs (eA64u8 r3.2) rfl rfl (fun _ => rfl) rfl rfl rfl rfl rfl rfl (nx ⟨[(6, (ow 6)), (8, (ow 8))], [(6, (bk (eA64u8 ((vrep 64 (0 : Int)))))), (8, (bk (eA64u8 r3.2)))]⟩ (by kernel_rfl) (sr ?_)))))))))
  refine vl (eA64u8 r3.2) rfl rfl rfl rfl rfl rfl (vs (eA64u8 r3.2) rfl rfl (fun _ => rfl) rfl rfl rfl rfl rfl rfl (nx _ rfl (a_ret ?_)))
  have hl9 : LdOk [] (eA64u8 r3.2) [] 64 true (eA64u8 r3.2) := (.nil rfl rfl rfl)
  refine ⟨.inr rfl, ?_⟩
  rw [Try.results165]
  cases h
  exact ⟨_, _, _, _, _, ld_own (i := ⟨.arr 64 5, 64, 64, (eA64u8 (vrep 64 (0 : Int)))⟩) rfl rfl rfl hl9, hl9.c, .inl ⟨rfl, .inl rfl⟩, rfl, rfl⟩
def spec_l01Up_c : ACode := (.seq (.region 0 [q 4 (.box 25 (t 1)), q 5 (.box 25 (t 2)), q 6 (.alloc 25)] false) (.seq (.region 1 [q 13 (.load 25 (t 5)), q 14 (.call 0 (.func 112) [(t 13)]), q 7 (.asg 0 (t 14) 2)] false) (.seq (.seq (.region 2 [q 15 (.mov (t 7)), q 16 (.bin .eql 2 (t 15) (.const (.int .i64 0)))] false) (.cond (t 16) (.seq (.region 3 [q 17 (.build 25 []), ⟨none, .store 25 (t 6) (t 17), none, []⟩] false) .ret) .skip)) (.seq (.region 4 [q 18 (.mov (t 7)), q 19 (.bin .sub 2 (t 18) (.const (.int .i64 1))), q 20 (.indexAddr 25 (t 4) (t 19)), q 21 (.load 5 (t 20)), q 22 (.conv 5 2 (t 21)), q 23 (.build 25 []), q 9 (.alloc 25), q 8 (.asg 0 (t 22) 2), ⟨none, .store 25 (t 9) (t 23), none, []⟩] false) (.seq (.seq (.region 5 [q 10 (.asg 0 (.const (.int .i64 1)) 2)] false) (.block 0 (.loop (.seq (.seq (.region 6 [q 24 (.mov (t 10)), q 25 (.mov (t 7)), q 26 (.bin .lss 2 (t 24) (t 25))] false) (.cond (t 26) .skip (.exit 0))) (.seq (.block 1 (.region 8 [q 29 (.mov (t 10)), q 30 (.mov (t 10)), q 31 (.bin .sub 2 (t 30) (.const (.int .i64 1))), q 32 (.indexAddr 25 (t 4) (t 31)), q 33 (.load 5 (t 32)), q 34 (.indexAddr 25 (t 9) (t 29)), ⟨none, .store 5 (t 34) (t 33), none, []⟩] false)) (.region 7 [q 27 (.mov (t 10)), q 28 (.bin .add 2 (t 27) (.const (.int .i64 1))), q 10 (.asg 0 (t 28) 2)] false)))))) (.seq (.region 9 [q 35 (.mov (t 8)), q 36 (.mov (t 0)), q 37 (.mov (t 7)), q 38 (.indexAddr 25 (t 5) (t 37)), q 39 (.load 5 (t 38)), q 40 (.call 0 (.func 187) [(t 36), (t 39)]), q 41 (.conv 5 2 (t 40)), q 42 (.bin .mul 2 (t 35) (t 41)), q 43 (.mov (t 0)), q 44 (.bin .rem 2 (t 42) (t 43)), q 11 (.asg 0 (t 44) 2)] false) (.seq (.seq (.region 10 [q 12 (.asg 0 (.const (.int .i64 0)) 2)] false) (.block 2 (.loop (.seq (.seq (.region 11 [q 45 (.mov (t 12)), q 46 (.mov (t 7)), q 47 (.bin .lss 2 (t 45) (t 46))] false) (.cond (t 47) .skip (.exit 2))) (.seq (.block 3 (.region 13 [q 50 (.mov (t 12)), q 51 (.mov (t 12)), ⟨some 52, .indexAddr 25 (t 9) (t 51), none, [1]⟩, ⟨some 53, .load 5 (t 52), none, [2]⟩, ⟨some 54, .conv 5 2 (t 53), none, [3]⟩, q 55 (.mov (t 11)), q 56 (.mov (t 12)), ⟨some 57, .indexAddr 25 (t 5) (t 56), none, [6]⟩, ⟨some 58, .load 5 (t 57), none, [7]⟩, ⟨some 59, .conv 5 2 (t 58), none, [8]⟩, ⟨some 60, .bin .mul 2 (t 55) (t 59), none, [5, 9]⟩, ⟨some 61, .bin .sub 2 (t 54) (t 60), none, [4, 10]⟩, q 62 (.mov (t 0)), ⟨some 63, .bin .rem 2 (t 61) (t 62), none, [11, 12]⟩, q 64 (.mov (t 0)), ⟨some 65, .bin .add 2 (t 63) (t 64), none, [13, 14]⟩, q 66 (.mov (t 0)), ⟨some 67, .bin .rem 2 (t 65) (t 66), none, [15, 16]⟩, ⟨some 68, .conv 2 5 (t 67), none, [17]⟩, ⟨some 69, .indexAddr 25 (t 9) (t 50), none, [0, 0, 1, 2, 3, 4, 5, 6, 7, 8, 9, 10, 11, 12, 13, 14, 15, 16, 17, 18]⟩, ⟨none, .store 5 (t 69) (t 68), none, [19, 18, 0, 1, 2, 3, 4, 5, 6, 7, 8, 9, 10, 11, 12, 13, 14, 15, 16, 17, 18]⟩] true)) (.region 12 [q 48 (.mov (t 12)), q 49 (.bin .add 2 (t 48) (.const (.int .i64 1))), q 12 (.asg 0 (t 49) 2)] false)))))) (.seq (.region 14 [q 70 (.load 25 (t 9)), ⟨none, .store 25 (t 6) (t 70), none, []⟩] false) .ret))))))))
def spec_l01Up_L : Live := [(0, [0, 1, 2]), (1, [0, 4, 5, 6]), (2, [0, 4, 5, 6, 7]), (3, [6]), (4, [0, 4, 5, 6, 7]), (5, [0, 4, 5, 6, 7, 8, 9]), (6, [0, 4, 5, 6, 7, 8, 9, 10]), (7, [0, 4, 5, 6, 7, 8, 9, 10]), (8, [0, 4, 5, 6, 7, 8, 9, 10]), (9, [0, 5, 6, 7, 8, 9]), (10, [0, 5, 6, 7, 9, 11]), (11, [0, 5, 6, 7, 9, 11, 12]), (12, [0, 5, 6, 7, 9, 11, 12]), (13, [0, 5, 6, 7, 9, 11, 12]), (14, [6, 9]), (100016, [0, 4, 5, 6, 7, 16]), (100026, [0, 4, 5, 6, 7, 8, 9, 10, 26]), (100047, [0, 5, 6, 7, 9, 11, 12, 47])]
noncomputable def spec_l01Up_l1 (r2 : Int) (a1 : (Vec Int 64)) (x40 : Int) (x41 : (Vec Int 64)) : Option ((Int × (Vec Int 64)) ⊕ (Vec Int 64)) :=
  (if (decide (x40 < r2)) then (ifp (0 ≤ IntKind.i64.wrap (x40 - 1) ∧ IntKind.i64.wrap (x40 - 1) < ((64 : Nat) : Int)) ((ifp (0 ≤ x40 ∧ x40 < ((64 : Nat) : Int)) ((some (.inl ((IntKind.i64.wrap (x40 + 1), (vset x41 x40.toNat ((rd a1.1 (IntKind.i64.wrap (x40 - 1)).toNat))))))))))) else (some (.inr x41)))
noncomputable def spec_l01Up_l2 (r2 : Int) (x7 : Int) (r58 : Int) (a0 : Int) (a2 : (Vec Int 64)) (x187 : Int) (x188 : (Vec Int 64)) : Option ((Int × (Vec Int 64)) ⊕ (Vec Int 64)) :=
  (if (decide (x187 < r2)) then (ifp (0 ≤ x187 ∧ x187 < ((64 : Nat) : Int)) ((ifp (0 ≤ x187 ∧ x187 < ((64 : Nat) : Int)) ((letp (IntKind.i64.wrap ((Int.tmod (IntKind.i64.wrap (x7 * (IntKind.i64.wrap r58))) a0) * (IntKind.i64.wrap (rd a2.1 x187.toNat)))) fun x240 => (letp (IntKind.i64.wrap ((IntKind.i64.wrap (rd x188.1 x187.toNat)) - x240)) fun x242 => (ifp (a0 ≠ 0) ((ifp (a0 ≠ 0) ((letp (IntKind.u8.wrap (Int.tmod (IntKind.i64.wrap ((Int.tmod x242 a0) + a0)) a0)) fun x246 => (ifp (0 ≤ x187 ∧ x187 < ((64 : Nat) : Int)) ((some (.inl ((IntKind.i64.wrap (x187 + 1), (vset x188 x187.toNat x246)))))))))))))))))) else (some (.inr x188)))
noncomputable def spec_l01Up (a0 : Int) (a1 : (Vec Int 64)) (a2 : (Vec Int 64)) : Option (Vec Int 64) :=
  (Option.bind (spec_l01Deg a2) fun r2 => (if (r2 == 0) then (some ((vrep 64 (0 : Int)))) else (ifp (0 ≤ IntKind.i64.wrap (r2 - 1) ∧ IntKind.i64.wrap (r2 - 1) < ((64 : Nat) : Int)) ((letp (IntKind.i64.wrap ((rd a1.1 (IntKind.i64.wrap (r2 - 1)).toNat))) fun x7 => (Option.bind (α := (Vec Int 64)) ((loopM (fun s : (Int × (Vec Int 64)) => spec_l01Up_l1 r2 a1 s.1 s.2) (1, (vrep 64 (0 : Int))))) fun x31 => (ifp (0 ≤ r2 ∧ r2 < ((64 : Nat) : Int)) ((Option.bind (spec_l01Inverse a0 (rd a2.1 r2.toNat)) fun r58 => (ifp (a0 ≠ 0) ((Option.bind (α := (Vec Int 64)) ((loopM (fun s : (Int × (Vec Int 64)) => spec_l01Up_l2 r2 x7 r58 a0 a2 s.1 s.2) (0, x31))) fun x154 => (some x154)))))))))))))
theorem spec_l01Up_ok (a0 : Int) (a1 : (Vec Int 64)) (a2 : (Vec Int 64)) (r : (Vec Int 64)) (h : spec_l01Up a0 a1 a2 = some r) : Den Try.prog 207 [(i6 a0), (eA64u8 a1), (eA64u8 a2)] { r := (eA64u8 r) } := by
  refine den_of (rs := [(eA64u8 r)]) (ac := spec_l01Up_c) (L := spec_l01Up_L) (n := 71) (m := []) (c := Try.f207.body.getD .skip) good Try.func207 (by kernel_rfl) (by kernel_rfl) Try.ntmps207 rfl rfl (by kernel_rfl) rfl rfl ?_
  refine a_st (σ' := ⟨[(0, (i6 a0)), (1, (eA64u8 a1)), (2, (eA64u8 a2))], []⟩) (by kernel_rfl) ?_
  unfold spec_l01Up_c
  refine sr (vo 1400 (eA64u8 a1) rfl rfl (vo 1500 (eA64u8 a2) rfl rfl (vo 1600 (eA64u8 ((vrep 64 (0 : Int)))) rfl rfl (nx ⟨[(0, (i6 a0)), (4, (ow 4)), (5, (ow 5)), (6, (ow 6))], [(4, (bk (eA64u8 a1))), (5, (bk (eA64u8 a2))), (6, (bk (eA64u8 ((vrep 64 (0 : Int))))))]⟩ (by kernel_rfl) (sr (vl (eA64u8 a2) rfl rfl rfl rfl rfl rfl ?_))))))
  obtain ⟨r2, hr3, h⟩ := bind_some h
  refine a_call (args := [(eA64u8 a2)]) (u := []) (r := (i6 r2)) rfl rfl (spec_l01Deg_ok a2 r2 hr3) rfl (vp (i6 r2) rfl (nx ⟨[(0, (i6 a0)), (4, (ow 4)), (5, (ow 5)), (6, (ow 6)), (7, (i6 r2))], [(4, (bk (eA64u8 a1))), (5, (bk (eA64u8 a2))), (6, (bk (eA64u8 ((vrep 64 (0 : Int))))))]⟩ (by kernel_rfl) (a_seq (sr (vp (i6 r2) rfl (vp (.bool (r2 == 0)) rfl (nx ⟨[(0, (i6 a0)), (4, (ow 4)), (5, (ow 5)), (6, (ow 6)), (7, (i6 r2)), (16, (.bool (r2 == 0)))], [(4, (bk (eA64u8 a1))), (5, (bk (eA64u8 a2))), (6, (bk (eA64u8 ((vrep 64 (0 : Int))))))]⟩ (by kernel_rfl) ?_)))))))
  cases hb4 : (r2 == 0)
  · have h := ite_f hb4 h
    refine a_cond_f rfl (a_skip (a_next (σ' := ⟨[(0, (i6 a0)), (4, (ow 4)), (5, (ow 5)), (6, (ow 6)), (7, (i6 r2))], [(4, (bk (eA64u8 a1))), (5, (bk (eA64u8 a2))), (6, (bk (eA64u8 ((vrep 64 (0 : Int))))))]⟩) (by kernel_rfl) (sr (vp (i6 r2) rfl (vp (i6 (IntKind.i64.wrap (r2 - 1))) rfl ?_)))))
    obtain ⟨hc5, h⟩ := ifp_some h
    refine vq (.own 4 [(IntKind.i64.wrap (r2 - 1)).toNat] [(IntKind.i64.wrap (r2 - 1)).toNat * 1]) rfl hc5 ?_
    have hl6 : LdOk [(IntKind.i64.wrap (r2 - 1)).toNat] (eA64u8 a1) [(IntKind.i64.wrap (r2 - 1)).toNat * 1] 1 false (b8 ((rd a1.1 (IntKind.i64.wrap (r2 - 1)).toNat))) := (.arr (vlt a1 hc5) rfl (.nil rfl rfl rfl))
    refine vq (b8 ((rd a1.1 (IntKind.i64.wrap (r2 - 1)).toNat))) (ld_own (i := ⟨.int .u8, 1, 1, (.int .u8 0)⟩) rfl rfl rfl hl6) hl6.c ?_
    obtain ⟨x7, hx8, h⟩ := letp_some h
    refine a_val' (v := (i6 (IntKind.i64.wrap ((rd a1.1 (IntKind.i64.wrap (r2 - 1)).toNat))))) (v' := (i6 x7)) (u := []) (u' := []) rfl (congrArg (fun z => ((i6 z) : AV)) hx8) rfl trivial rfl (vq (eA64u8 ((vrep 64 (0 : Int)))) rfl ⟨⟨_, rfl, rfl⟩, all_nil⟩ (vo 1900 (eA64u8 ((vrep 64 (0 : Int)))) rfl rfl (vp (i6 x7) rfl (vs (eA64u8 ((vrep 64 (0 : Int)))) rfl rfl (fun _ => rfl) rfl rfl rfl rfl rfl rfl (nx ⟨[(0, (i6 a0)), (4, (ow 4)), (5, (ow 5)), (6, (ow 6)), (7, (i6 r2)), (8, (i6 x7)), (9, (ow 9))], [(4, (bk (eA64u8 a1))), (5, (bk (eA64u8 a2))), (6, (bk (eA64u8 ((vrep 64 (0 : Int)))))), (9, (bk (eA64u8 ((vrep 64 (0 : Int))))))]⟩ (by kernel_rfl) ?_)))))
    obtain ⟨y32, hy33, hk34⟩ := bind_some h
    clear h
    refine a_join (emb := fun (s : (Vec Int 64)) => ⟨[(0, (i6 a0)), (5, (ow 5)), (6, (ow 6)), (7, (i6 r2)), (8, (i6 x7)), (9, (ow 9))], [(5, (bk (eA64u8 a2))), (6, (bk (eA64u8 ((vrep 64 (0 : Int)))))), (9, (bk (eA64u8 s)))]⟩) (pre := fun s => s = y32) ?_ ?_
    · rintro x31 rfl
      have h := hk34
      refine a_st (σ' := ⟨[(0, (i6 a0)), (5, (ow 5)), (6, (ow 6)), (7, (i6 r2)), (8, (i6 x7)), (9, (ow 9))], [(5, (bk (eA64u8 a2))), (6, (bk (eA64u8 ((vrep 64 (0 : Int)))))), (9, (bk (eA64u8 x31)))]⟩) (by kernel_rfl) (sr (vp (i6 x7) rfl (vp (i6 a0) rfl (vp (i6 r2) rfl ?_))))
      obtain ⟨hc56, h⟩ := ifp_some h
      refine vq (.own 5 [r2.toNat] [r2.toNat * 1]) rfl hc56 ?_
      have hl57 : LdOk [r2.toNat] (eA64u8 a2) [r2.toNat * 1] 1 false (b8 (rd a2.1 r2.toNat)) := (.arr (vlt a2 hc56) rfl (.nil rfl rfl rfl))
      refine vq (b8 (rd a2.1 r2.toNat)) (ld_own (i := ⟨.int .u8, 1, 1, (.int .u8 0)⟩) rfl rfl rfl hl57) hl57.c ?_
      obtain ⟨r58, hr59, h⟩ := bind_some h
      refine a_call (args := [(i6 a0), (b8 (rd a2.1 r2.toNat))]) (u := []) (r := (b8 r58)) rfl rfl (spec_l01Inverse_ok a0 (rd a2.1 r2.toNat) r58 hr59) rfl (vp (i6 (IntKind.i64.wrap r58)) rfl (vp (i6 (IntKind.i64.wrap (x7 * (IntKind.i64.wrap r58)))) rfl (vp (i6 a0) rfl ?_)))
      obtain ⟨hc60, h⟩ := ifp_some h
      refine vq (i6 (Int.tmod (IntKind.i64.wrap (x7 * (IntKind.i64.wrap r58))) a0)) rfl hc60 (vp (i6 (Int.tmod (IntKind.i64.wrap (x7 * (IntKind.i64.wrap r58))) a0)) rfl (nx ⟨[(0, (i6 a0)), (5, (ow 5)), (6, (ow 6)), (7, (i6 r2)), (9, (ow 9)), (11, (i6 (Int.tmod (IntKind.i64.wrap (x7 * (IntKind.i64.wrap r58))) a0)))], [(5, (bk (eA64u8 a2))), (6, (bk (eA64u8 ((vrep 64 (0 : Int)))))), (9, (bk (eA64u8 x31)))]⟩ (by kernel_rfl) ?_))
      obtain ⟨y155, hy156, hk157⟩ := bind_some h
      clear h
      refine a_join (emb := fun (s : (Vec Int 64)) => ⟨[(6, (ow 6)), (9, (ow 9))], [(6, (bk (eA64u8 ((vrep 64 (0 : Int)))))), (9, (bk (eA64u8 s)))]⟩) (pre := fun s => s = y155) ?_ ?_
      · rintro x154 rfl
        have h := hk157
        refine a_st (σ' := ⟨[(6, (ow 6)), (9, (ow 9))], [(6, (bk (eA64u8 ((vrep 64 (0 : Int)))))), (9, (bk (eA64u8 x154)))]⟩) (by kernel_rfl) (sr (vl (eA64u8 x154) rfl rfl rfl rfl rfl rfl (vs (eA64u8 x154) rfl rfl (fun _ => rfl) rfl rfl rfl rfl rfl rfl (nx _ rfl (a_ret ?_)))))
        have hl253 : LdOk [] (eA64u8 x154) [] 64 true (eA64u8 x154) := (.nil rfl rfl rfl)
        refine ⟨.inr rfl, ?_⟩
        rw [Try.results207]
        cases h
        exact ⟨_, _, _, _, _, ld_own (i := ⟨.arr 64 5, 64, 64, (eA64u8 (vrep 64 (0 : Int)))⟩) rfl rfl rfl hl253, hl253.c, .inl ⟨rfl, .inl rfl⟩, rfl, rfl⟩
      · have h := hy156
        refine sr (vp (i6 0) rfl (nx ⟨[(0, (i6 a0)), (5, (ow 5)), (6, (ow 6)), (7, (i6 r2)), (9, (ow 9)), (11, (i6 (Int.tmod (IntKind.i64.wrap (x7 * (IntKind.i64.wrap r58))) a0))), (12, (i6 0))], [(5, (bk (eA64u8 a2))), (6, (bk (eA64u8 ((vrep 64 (0 : Int)))))), (9, (bk (eA64u8 x31)))]⟩ (by kernel_rfl) (a_block ?_)))
        refine a_loop (emb := fun (s : (Int × (Vec Int 64))) => ⟨[(0, (i6 a0)), (5, (ow 5)), (6, (ow 6)), (7, (i6 r2)), (9, (ow 9)), (11, (i6 (Int.tmod (IntKind.i64.wrap (x7 * (IntKind.i64.wrap r58))) a0))), (12, (i6 s.1))], [(5, (bk (eA64u8 a2))), (6, (bk (eA64u8 ((vrep 64 (0 : Int)))))), (9, (bk (eA64u8 s.2)))]⟩) (body := (fun s : (Int × (Vec Int 64)) => spec_l01Up_l2 r2 x7 r58 a0 a2 s.1 s.2)) (G := fun q => some q = some y155) h rfl ?_ (by kernel_rfl)
        rintro X218 ⟨x187, x188⟩ x219 h hX220
        have h : spec_l01Up_l2 r2 x7 r58 a0 a2 x187 x188 = some x219 := h
        refine a_st (σ' := ⟨[(0, (i6 a0)), (5, (ow 5)), (6, (ow 6)), (7, (i6 r2)), (9, (ow 9)), (11, (i6 (Int.tmod (IntKind.i64.wrap (x7 * (IntKind.i64.wrap r58))) a0))), (12, (i6 x187))], [(5, (bk (eA64u8 a2))), (6, (bk (eA64u8 ((vrep 64 (0 : Int)))))), (9, (bk (eA64u8 x188)))]⟩) (by kernel_rfl) (a_seq (sr (vp (i6 x187) rfl (vp (i6 r2) rfl (vp (.bool ((decide (x187 < r2)))) rfl (nx ⟨[(0, (i6 a0)), (5, (ow 5)), (6, (ow 6)), (7, (i6 r2)), (9, (ow 9)), (11, (i6 (Int.tmod (IntKind.i64.wrap (x7 * (IntKind.i64.wrap r58))) a0))), (12, (i6 x187)), (47, (.bool ((decide (x187 < r2)))))], [(5, (bk (eA64u8 a2))), (6, (bk (eA64u8 ((vrep 64 (0 : Int)))))), (9, (bk (eA64u8 x188)))]⟩ (by kernel_rfl) ?_))))))
        cases hb221 : (decide (x187 < r2))
        · have h := ite_f hb221 h
          refine a_cond_f rfl (a_exit (t_exit ?_))
          cases h
          have h := hX220
          refine t_exit (b_exit ?_)
          exact j_leaf x188 (Option.some.inj h) (by kernel_rfl)
        · have h := ite_t hb221 h
          refine a_cond_t rfl (a_skip (a_next (σ' := ⟨[(0, (i6 a0)), (5, (ow 5)), (6, (ow 6)), (7, (i6 r2)), (9, (ow 9)), (11, (i6 (Int.tmod (IntKind.i64.wrap (x7 * (IntKind.i64.wrap r58))) a0))), (12, (i6 x187))], [(5, (bk (eA64u8 a2))), (6, (bk (eA64u8 ((vrep 64 (0 : Int)))))), (9, (bk (eA64u8 x188)))]⟩) (by kernel_rfl) (a_seq (a_block (a_draw [⟨[], [], [], []⟩, ⟨[], [], [], []⟩, ⟨[9], [], [9], [1]⟩, ⟨[9], [], [], [1, 2]⟩, ⟨[], [], [], [1, 2, 3]⟩, ⟨[], [], [], []⟩, ⟨[], [], [], []⟩, ⟨[5], [], [5], [6]⟩, ⟨[5], [], [], [6, 7]⟩, ⟨[], [], [], [6, 7, 8]⟩, ⟨[], [], [], [5, 6, 7, 8, 9]⟩, ⟨[], [], [], [1, 2, 3, 4, 5, 6, 7, 8, 9, 10]⟩, ⟨[], [], [], []⟩, ⟨[], [], [], [1, 2, 3, 4, 5, 6, 7, 8, 9, 10, 11, 12]⟩, ⟨[], [], [], []⟩, ⟨[], [], [], [1, 2, 3, 4, 5, 6, 7, 8, 9, 10, 11, 12, 13, 14]⟩, ⟨[], [], [], []⟩, ⟨[], [], [], [1, 2, 3, 4, 5, 6, 7, 8, 9, 10, 11, 12, 13, 14, 15, 16]⟩, ⟨[], [], [], [1, 2, 3, 4, 5, 6, 7, 8, 9, 10, 11, 12, 13, 14, 15, 16, 17]⟩, ⟨[9], [], [9], [0, 1, 2, 3, 4, 5, 6, 7, 8, 9, 10, 11, 12, 13, 14, 15, 16, 17, 18]⟩, ⟨[9], [9], [], [0, 1, 2, 3, 4, 5, 6, 7, 8, 9, 10, 11, 12, 13, 14, 15, 16, 17, 18, 19]⟩] (by kernel_rfl) (dp (i6 x187) rfl (by kernel_rfl) (dp (i6 x187) rfl (by kernel_rfl) (d_cons ?_))))))))
          obtain ⟨hc236, h⟩ := ifp_some h
          refine vq (.own 9 [x187.toNat] [x187.toNat * 1]) rfl hc236 (d_next (by kernel_rfl) (d_cons ?_))
          have hl237 : LdOk [x187.toNat] (eA64u8 x188) [x187.toNat * 1] 1 false (b8 (rd x188.1 x187.toNat)) := (.arr (vlt x188 hc236) rfl (.nil rfl rfl rfl))
          refine vq (b8 (rd x188.1 x187.toNat)) (ld_own (i := ⟨.int .u8, 1, 1, (.int .u8 0)⟩) rfl rfl rfl hl237) hl237.c (d_next (by kernel_rfl) (dp (i6 (IntKind.i64.wrap (rd x188.1 x187.toNat))) rfl (by kernel_rfl) (dp (i6 (Int.tmod (IntKind.i64.wrap (x7 * (IntKind.i64.wrap r58))) a0)) rfl (by kernel_rfl) (dp (i6 x187) rfl (by kernel_rfl) (d_cons ?_)))))
          obtain ⟨hc238, h⟩ := ifp_some h
          refine vq (.own 5 [x187.toNat] [x187.toNat * 1]) rfl hc238 (d_next (by kernel_rfl) (d_cons ?_))
          have hl239 : LdOk [x187.toNat] (eA64u8 a2) [x187.toNat * 1] 1 false (b8 (rd a2.1 x187.toNat)) := (.arr (vlt a2 hc238) rfl (.nil rfl rfl rfl))
          refine vq (b8 (rd a2.1 x187.toNat)) (ld_own (i := ⟨.int .u8, 1, 1, (.int .u8 0)⟩) rfl rfl rfl hl239) hl239.c (d_next (by kernel_rfl) (dp (i6 (IntKind.i64.wrap (rd a2.1 x187.toNat))) rfl (by kernel_rfl) (d_cons ?_)))
          obtain ⟨x240, hx241, h⟩ := letp_some h
          refine a_val' (v := (i6 (IntKind.i64.wrap ((Int.tmod (IntKind.i64.wrap (x7 * (IntKind.i64.wrap r58))) a0) * (IntKind.i64.wrap (rd a2.1 x187.toNat)))))) (v' := (i6 x240)) (u := []) (u' := []) rfl (congrArg (fun z => ((i6 z) : AV)) hx241) rfl trivial rfl (d_next (by kernel_rfl) (d_cons ?_))
          obtain ⟨x242, hx243, h⟩ := letp_some h
          refine a_val' (v := (i6 (IntKind.i64.wrap ((IntKind.i64.wrap (rd x188.1 x187.toNat)) - x240)))) (v' := (i6 x242)) (u := []) (u' := []) rfl (congrArg (fun z => ((i6 z) : AV)) hx243) rfl trivial rfl (d_next (by kernel_rfl) (dp (i6 a0) rfl (by kernel_rfl) (d_cons ?_)))
          obtain ⟨hc244, h⟩ := ifp_some h
          refine vq (i6 (Int.tmod x242 a0)) rfl hc244 (d_next (by kernel_rfl) (dp (i6 a0) rfl (by kernel_rfl) (dp (i6 (IntKind.i64.wrap ((Int.tmod x242 a0) + a0))) rfl (by kernel_rfl) (dp (i6 a0) rfl (by kernel_rfl) (d_cons ?_)))))
          obtain ⟨hc245, h⟩ := ifp_some h
          refine vq (i6 (Int.tmod (IntKind.i64.wrap ((Int.tmod x242 a0) + a0)) a0)) rfl hc245 (d_next (by kernel_rfl) (d_cons ?_))
          obtain ⟨x246, hx247, h⟩ := letp_some h
          refine a_val' (v := (b8 (IntKind.u8.wrap (Int.tmod (IntKind.i64.wrap ((Int.tmod x242 a0) + a0)) a0)))) (v' := (b8 x246)) (u := []) (u' := []) rfl (congrArg (fun z => ((b8 z) : AV)) hx247) rfl trivial rfl (d_next (by kernel_rfl) (d_cons ?_))
          obtain ⟨hc248, h⟩ := ifp_some h
          refine vq (.own 9 [x187.toNat] [x187.toNat * 1]) rfl hc248 (d_next (by kernel_rfl) (d_cons ?_))
          have hs249 : StOk [x187.toNat] (eA64u8 x188) [x187.toNat * 1] 1 (b8 x246) (eA64u8 (vset x188 x187.toNat x246)) := (.arr (y := x246) (vlt x188 hc248) rfl (.nil rfl rfl rfl rfl))
          refine vu .top [(9, (bk (eA64u8 (vset x188 x187.toNat x246))))] (st_own (i := ⟨.int .u8, 1, 1, (.int .u8 0)⟩) rfl rfl (fun _ => rfl) rfl hs249) (hs249.c rfl) rfl (d_next (by kernel_rfl) (d_nil (b_norm (a_next (σ' := ⟨[(0, (i6 a0)), (5, (ow 5)), (6, (ow 6)), (7, (i6 r2)), (9, (ow 9)), (11, (i6 (Int.tmod (IntKind.i64.wrap (x7 * (IntKind.i64.wrap r58))) a0))), (12, (i6 x187))], [(5, (bk (eA64u8 a2))), (6, (bk (eA64u8 ((vrep 64 (0 : Int)))))), (9, (bk (eA64u8 (vset x188 x187.toNat x246))))]⟩) (by kernel_rfl) (a_region (vp (i6 x187) rfl (vp (i6 (IntKind.i64.wrap (x187 + 1))) rfl (vp (i6 (IntKind.i64.wrap (x187 + 1))) rfl (a_nil ?_)))))))))
          cases h
          exact a_again (by kernel_rfl) hX220
    · have h := hy33
      refine sr (vp (i6 1) rfl (nx ⟨[(0, (i6 a0)), (4, (ow 4)), (5, (ow 5)), (6, (ow 6)), (7, (i6 r2)), (8, (i6 x7)), (9, (ow 9)), (10, (i6 1))], [(4, (bk (eA64u8 a1))), (5, (bk (eA64u8 a2))), (6, (bk (eA64u8 ((vrep 64 (0 : Int)))))), (9, (bk (eA64u8 ((vrep 64 (0 : Int))))))]⟩ (by kernel_rfl) (a_block ?_)))
      refine a_loop (emb := fun (s : (Int × (Vec Int 64))) => ⟨[(0, (i6 a0)), (4, (ow 4)), (5, (ow 5)), (6, (ow 6)), (7, (i6 r2)), (8, (i6 x7)), (9, (ow 9)), (10, (i6 s.1))], [(4, (bk (eA64u8 a1))), (5, (bk (eA64u8 a2))), (6, (bk (eA64u8 ((vrep 64 (0 : Int)))))), (9, (bk (eA64u8 s.2)))]⟩) (body := (fun s : (Int × (Vec Int 64)) => spec_l01Up_l1 r2 a1 s.1 s.2)) (G := fun q => some q = some y32) h rfl ?_ (by kernel_rfl)
      rintro X47 ⟨x40, x41⟩ x48 h hX49
      have h : spec_l01Up_l1 r2 a1 x40 x41 = some x48 := h
      refine a_st (σ' := ⟨[(0, (i6 a0)), (4, (ow 4)), (5, (ow 5)), (6, (ow 6)), (7, (i6 r2)), (8, (i6 x7)), (9, (ow 9)), (10, (i6 x40))], [(4, (bk (eA64u8 a1))), (5, (bk (eA64u8 a2))), (6, (bk (eA64u8 ((vrep 64 (0 : Int)))))), (9, (bk (eA64u8 x41)))]⟩) (by kernel_rfl) (a_seq (sr (vp (i6 x40) rfl (vp (i6 r2) rfl (vp (.bool ((decide (x40 < r2)))) rfl (nx ⟨[(0, (i6 a0)), (4, (ow 4)), (5, (ow 5)), (6, (ow 6)), (7, (i6 r2)), (8, (i6 x7)), (9, (ow 9)), (10, (i6 x40)), (26, (.bool ((decide (x40 < r2)))))], [(4, (bk (eA64u8 a1))), (5, (bk (eA64u8 a2))), (6, (bk (eA64u8 ((vrep 64 (0 : Int)))))), (9, (bk (eA64u8 x41)))]⟩ (by kernel_rfl) ?_))))))
      cases hb50 : (decide (x40 < r2))
      · have h := ite_f hb50 h
        refine a_cond_f rfl (a_exit (t_exit ?_))
        cases h
        have h := hX49
        refine t_exit (b_exit ?_)
        exact j_leaf x41 (Option.some.inj h) (by kernel_rfl)
      · have h := ite_t hb50 h
        refine a_cond_t rfl (a_skip (a_next (σ' := ⟨[(0, (i6 a0)), (4, (ow 4)), (5, (ow 5)), (6, (ow 6)), (7, (i6 r2)), (8, (i6 x7)), (9, (ow 9)), (10, (i6 x40))], [(4, (bk (eA64u8 a1))), (5, (bk (eA64u8 a2))), (6, (bk (eA64u8 ((vrep 64 (0 : Int)))))), (9, (bk (eA64u8 x41)))]⟩) (by kernel_rfl) (a_seq (a_block (a_region (vp (i6 x40) rfl (vp (i6 x40) rfl (vp (i6 (IntKind.i64.wrap (x40 - 1))) rfl ?_))))))))
        obtain ⟨hc51, h⟩ := ifp_some h
        refine vq (.own 4 [(IntKind.i64.wrap (x40 - 1)).toNat] [(IntKind.i64.wrap (x40 - 1)).toNat * 1]) rfl hc51 ?_
        have hl52 : LdOk [(IntKind.i64.wrap (x40 - 1)).toNat] (eA64u8 a1) [(IntKind.i64.wrap (x40 - 1)).toNat * 1] 1 false (b8 ((rd a1.1 (IntKind.i64.wrap (x40 - 1)).toNat))) := (.arr (vlt a1 hc51) rfl (.nil rfl rfl rfl))
        refine vq (b8 ((rd a1.1 (IntKind.i64.wrap (x40 - 1)).toNat))) (ld_own (i := ⟨.int .u8, 1, 1, (.int .u8 0)⟩) rfl rfl rfl hl52) hl52.c ?_
        obtain ⟨hc53, h⟩ := ifp_some h
        refine vq (.own 9 [x40.toNat] [x40.toNat * 1]) rfl hc53 ?_
        have hs54 : StOk [x40.toNat] (eA64u8 x41) [x40.toNat * 1] 1 (b8 ((rd a1.1 (IntKind.i64.wrap (x40 - 1)).toNat))) (eA64u8 ((vset x41 x40.toNat ((rd a1.1 (IntKind.i64.wrap (x40 - 1)).toNat))))) := (.arr (y := (rd a1.1 (IntKind.i64.wrap (x40 - 1)).toNat)) (vlt x41 hc53) rfl (.nil rfl rfl rfl rfl))
        refine vu .top [(9, (bk (eA64u8 ((vset x41 x40.toNat ((rd a1.1 (IntKind.i64.wrap (x40 - 1)).toNat)))))))] (st_own (i := ⟨.int .u8, 1, 1, (.int .u8 0)⟩) rfl rfl (fun _ => rfl) rfl hs54) (hs54.c rfl) rfl (a_nil (b_norm (a_next (σ' := ⟨[(0, (i6 a0)), (4, (ow 4)), (5, (ow 5)), (6, (ow 6)), (7, (i6 r2)), (8, (i6 x7)), (9, (ow 9)), (10, (i6 x40))], [(4, (bk (eA64u8 a1))), (5, (bk (eA64u8 a2))), (6, (bk (eA64u8 ((vrep 64 (0 : Int)))))), (9, (bk (eA64u8 ((vset x41 x40.toNat ((rd a1.1 (IntKind.i64.wrap (x40 - 1)).toNat)))))))]⟩) (by kernel_rfl) (a_region (vp (i6 x40) rfl (vp (i6 (IntKind.i64.wrap (x40 + 1))) rfl (vp (i6 (IntKind.i64.wrap (x40 + 1))) rfl (a_nil ?_))))))))
        cases h
        exact a_again (by kernel_rfl) hX49
  · have h := ite_t hb4 h
    refine a_cond_t rfl (sr (vq (eA64u8 ((vrep 64 (0 : Int)))) rfl ⟨⟨_, rfl, rfl⟩, all_nil⟩ (vs (eA64u8 ((vrep 64 (0 : Int)))) rfl rfl (fun _ => rfl) rfl rfl rfl rfl rfl rfl (nx _ rfl (a_ret (t_ret ?_))))))
    have hl255 : LdOk [] (eA64u8 ((vrep 64 (0 : Int)))) [] 64 true (eA64u8 ((vrep 64 (0 : Int)))) := (.nil rfl rfl rfl)
    refine ⟨.inr rfl, ?_⟩
    rw [Try.results207]
    cases h
    exact ⟨_, _, _, _, _, ld_own (i := ⟨.arr 64 5, 64, 64, (eA64u8 (vrep 64 (0 : Int)))⟩) rfl rfl rfl hl255, hl255.c, .inl ⟨rfl, .inl rfl⟩, rfl, rfl⟩
def spec_l01MulMod_c : ACode := (.seq (.region 0 [q 5 (.box 25 (t 1)), q 6 (.box 25 (t 2)), q 7 (.box 25 (t 3)), q 8 (.alloc 25)] false) (.seq (.region 1 [q 11 (.build 25 []), q 9 (.alloc 25), ⟨none, .store 25 (t 9) (t 11), none, []⟩] false) (.seq (.seq (.region 2 [q 12 (.load 25 (t 6)), q 13 (.call 0 (.func 112) [(t 12)]), q 10 (.asg 0 (t 13) 2)] false) (.block 0 (.loop (.seq (.seq (.region 3 [q 14 (.mov (t 10)), q 15 (.bin .geq 2 (t 14) (.const (.int .i64 0)))] false) (.cond (t 15) .skip (.exit 0))) (.seq (.block 1 (.seq (.region 5 [q 18 (.mov (t 0)), q 19 (.load 25 (t 9)), q 20 (.load 25 (t 7)), q 21 (.call 0 (.func 207) [(t 18), (t 19), (t 20)]), ⟨none, .store 25 (t 9) (t 21), none, []⟩] false) (.region 6 [q 22 (.mov (t 0)), q 23 (.mov (t 0)), q 24 (.load 25 (t 9)), q 25 (.load 25 (t 5)), q 26 (.mov (t 10)), ⟨some 27, .indexAddr 25 (t 6) (t 26), none, [4]⟩, ⟨some 28, .load 5 (t 27), none, [5]⟩, ⟨some 29, .conv 5 2 (t 28), none, [6]⟩, ⟨some 30, .call 0 (.func 121) [(t 23), (t 24), (t 25), (t 29)], none, [1, 2, 3, 7]⟩, q 31 (.load 25 (t 7)), ⟨some 32, .call 0 (.func 165) [(t 22), (t 30), (t 31)], none, [0, 8, 9, 8]⟩, ⟨none, .store 25 (t 9) (t 32), none, [10, 10, 0, 1, 2, 3, 4, 5, 6, 7, 8, 9, 10]⟩] true))) (.region 4 [q 16 (.mov (t 10)), q 17 (.bin .sub 2 (t 16) (.const (.int .i64 1))), q 10 (.asg 0 (t 17) 2)] false)))))) (.seq (.region 7 [q 33 (.load 25 (t 9)), ⟨none, .store 25 (t 8) (t 33), none, []⟩] false) .ret))))
def spec_l01MulMod_L : Live := [(0, [0, 1, 2, 3]), (1, [0, 5, 6, 7, 8]), (2, [0, 5, 6, 7, 8, 9]), (3, [0, 5, 6, 7, 8, 9, 10]), (4, [0, 5, 6, 7, 8, 9, 10]), (5, [0, 5, 6, 7, 8, 9, 10]), (6, [0, 5, 6, 7, 8, 9, 10]), (7, [8, 9]), (100015, [0, 5, 6, 7, 8, 9, 10, 15])]
noncomputable def spec_l01MulMod_l1 (a0 : Int) (a3 : (Vec Int 64)) (a1 : (Vec Int 64)) (a2 : (Vec Int 64)) (x122 : Int) (x123 : (Vec Int 64)) : Option ((Int × (Vec Int 64)) ⊕ (Vec Int 64)) :=
  (if (decide (x122 ≥ 0)) then (Option.bind (spec_l01Up a0 x123 a3) fun r156 => (ifp (0 ≤ x122 ∧ x122 < ((64 : Nat) : Int)) ((Option.bind (spec_l01Add a0 r156 a1 (IntKind.i64.wrap (rd a2.1 x122.toNat))) fun r173 => (Option.bind (spec_l01Mod a0 r173 a3) fun r176 => (some (.inl ((IntKind.i64.wrap (x122 - 1), r176))))))))) else (some (.inr x123)))
noncomputable def spec_l01MulMod (a0 : Int) (a1 : (Vec Int 64)) (a2 : (Vec Int 64)) (a3 : (Vec Int 64)) : Option (Vec Int 64) :=
  (Option.bind (α := (Vec Int 64)) ((Option.bind (spec_l01Deg a2) fun r94 => (loopM (fun s : (Int × (Vec Int 64)) => spec_l01MulMod_l1 a0 a3 a1 a2 s.1 s.2) (r94, (vrep 64 (0 : Int)))))) fun x89 => (some x89))
theorem spec_l01MulMod_ok (a0 : Int) (a1 : (Vec Int 64)) (a2 : (Vec Int 64)) (a3 : (Vec Int 64)) (r : (Vec Int 64)) (h : spec_l01MulMod a0 a1 a2 a3 = some r) : Den Try.prog 199 [(i6 a0), (eA64u8 a1), (eA64u8 a2), (eA64u8 a3)] { r := (eA64u8 r) } := by
  refine den_of (rs := [(eA64u8 r)]) (ac := spec_l01MulMod_c) (L := spec_l01MulMod_L) (n := 34) (m := []) (c := Try.f199.body.getD .skip) good Try.func199 (by kernel_rfl) (by kernel_rfl) Try.ntmps199 rfl rfl (by kernel_rfl) rfl rfl ?_
  refine a_st (σ' := ⟨[(0, (i6 a0)), (1, (eA64u8 a1)), (2, (eA64u8 a2)), (3, (eA64u8 a3))], []⟩) (by kernel_rfl) ?_
  unfold spec_l01MulMod_c
  refine sr (vo 1500 (eA64u8 a1) rfl rfl (vo 1600 (eA64u8 a2) rfl rfl (vo 1700 (eA64u8 a3) rfl rfl (vo 1800 (eA64u8 ((vrep 64 (0 : Int)))) rfl rfl (nx ⟨[(0, (i6 a0)), (5, (ow 5)), (6, (ow 6)), (7, (ow 7)), (8, (ow 8))], [(5, (bk (eA64u8 a1))), (6, (bk (eA64u8 a2))), (7, (bk (eA64u8 a3))), (8, (bk (eA64u8 ((vrep 64 (0 : Int))))))]⟩ (by kernel_rfl) (sr (vq (eA64u8 ((vrep 64 (0 : Int)))) rfl ⟨⟨_, rfl, rfl⟩, all_nil⟩ (vo 1900 (eA64u8 ((vrep 64 (0 : Int)))) rfl rfl (vs (eA64u8 ((vrep 64 (0 : Int)))) rfl rfl (fun _ => rfl) rfl rfl rfl rfl rfl rfl ?_)))))))))
  refine nx ⟨[(0, (i6 a0)), (5, (ow 5)), (6, (ow 6)), (7, (ow 7)), (8, (ow 8)), (9, (ow 9))], [(5, (bk (eA64u8 a1))), (6, (bk (eA64u8 a2))), (7, (bk (eA64u8 a3))), (8, (bk (eA64u8 ((vrep 64 (0 : Int)))))), (9, (bk (eA64u8 ((vrep 64 (0 : Int))))))]⟩ (by kernel_rfl) ?_
  obtain ⟨y90, hy91, hk92⟩ := bind_some h
  clear h
  refine a_join (emb := fun (s : (Vec Int 64)) => ⟨[(8, (ow 8)), (9, (ow 9))], [(8, (bk (eA64u8 ((vrep 64 (0 : Int)))))), (9, (bk (eA64u8 s)))]⟩) (pre := fun s => s = y90) ?_ ?_
  · rintro x89 rfl
    have h := hk92
    refine a_st (σ' := ⟨[(8, (ow 8)), (9, (ow 9))], [(8, (bk (eA64u8 ((vrep 64 (0 : Int)))))), (9, (bk (eA64u8 x89)))]⟩) (by kernel_rfl) (sr (vl (eA64u8 x89) rfl rfl rfl rfl rfl rfl (vs (eA64u8 x89) rfl rfl (fun _ => rfl) rfl rfl rfl rfl rfl rfl (nx _ rfl (a_ret ?_)))))
    have hl182 : LdOk [] (eA64u8 x89) [] 64 true (eA64u8 x89) := (.nil rfl rfl rfl)
    refine ⟨.inr rfl, ?_⟩
    rw [Try.results199]
    cases h
    exact ⟨_, _, _, _, _, ld_own (i := ⟨.arr 64 5, 64, 64, (eA64u8 (vrep 64 (0 : Int)))⟩) rfl rfl rfl hl182, hl182.c, .inl ⟨rfl, .inl rfl⟩, rfl, rfl⟩
  · have h := hy91
    refine sr (vl (eA64u8 a2) rfl rfl rfl rfl rfl rfl ?_)
    obtain ⟨r94, hr95, h⟩ := bind_some h
    refine a_call (args := [(eA64u8 a2)]) (u := []) (r := (i6 r94)) rfl rfl (spec_l01Deg_ok a2 r94 hr95) rfl (vp (i6 r94) rfl (nx ⟨[(0, (i6 a0)), (5, (ow 5)), (6, (ow 6)), (7, (ow 7)), (8, (ow 8)), (9, (ow 9)), (10, (i6 r94))], [(5, (bk (eA64u8 a1))), (6, (bk (eA64u8 a2))), (7, (bk (eA64u8 a3))), (8, (bk (eA64u8 ((vrep 64 (0 : Int)))))), (9, (bk (eA64u8 ((vrep 64 (0 : Int))))))]⟩ (by kernel_rfl) (a_block ?_)))
    refine a_loop (emb := fun (s : (Int × (Vec Int 64))) => ⟨[(0, (i6 a0)), (5, (ow 5)), (6, (ow 6)), (7, (ow 7)), (8, (ow 8)), (9, (ow 9)), (10, (i6 s.1))], [(5, (bk (eA64u8 a1))), (6, (bk (eA64u8 a2))), (7, (bk (eA64u8 a3))), (8, (bk (eA64u8 ((vrep 64 (0 : Int)))))), (9, (bk (eA64u8 s.2)))]⟩) (body := (fun s : (Int × (Vec Int 64)) => spec_l01MulMod_l1 a0 a3 a1 a2 s.1 s.2)) (G := fun q => some q = some y90) h rfl ?_ (by kernel_rfl)
    rintro X150 ⟨x122, x123⟩ x151 h hX152
    have h : spec_l01MulMod_l1 a0 a3 a1 a2 x122 x123 = some x151 := h
    refine a_st (σ' := ⟨[(0, (i6 a0)), (5, (ow 5)), (6, (ow 6)), (7, (ow 7)), (8, (ow 8)), (9, (ow 9)), (10, (i6 x122))], [(5, (bk (eA64u8 a1))), (6, (bk (eA64u8 a2))), (7, (bk (eA64u8 a3))), (8, (bk (eA64u8 ((vrep 64 (0 : Int)))))), (9, (bk (eA64u8 x123)))]⟩) (by kernel_rfl) (a_seq (sr (vp (i6 x122) rfl (vp (.bool ((decide (x122 ≥ 0)))) rfl (nx ⟨[(0, (i6 a0)), (5, (ow 5)), (6, (ow 6)), (7, (ow 7)), (8, (ow 8)), (9, (ow 9)), (10, (i6 x122)), (15, (.bool ((decide (x122 ≥ 0)))))], [(5, (bk (eA64u8 a1))), (6, (bk (eA64u8 a2))), (7, (bk (eA64u8 a3))), (8, (bk (eA64u8 ((vrep 64 (0 : Int)))))), (9, (bk (eA64u8 x123)))]⟩ (by kernel_rfl) ?_)))))
    cases hb153 : (decide (x122 ≥ 0))
    · have h := ite_f hb153 h
      refine a_cond_f rfl (a_exit (t_exit ?_))
      cases h
      have h := hX152
      refine t_exit (b_exit ?_)
      exact j_leaf x123 (Option.some.inj h) (by kernel_rfl)
    · have h := ite_t hb153 h
      refine a_cond_t rfl (a_skip (a_next (σ' := ⟨[(0, (i6 a0)), (5, (ow 5)), (6, (ow 6)), (7, (ow 7)), (8, (ow 8)), (9, (ow 9)), (10, (i6 x122))], [(5, (bk (eA64u8 a1))), (6, (bk (eA64u8 a2))), (7, (bk (eA64u8 a3))), (8, (bk (eA64u8 ((vrep 64 (0 : Int)))))), (9, (bk (eA64u8 x123)))]⟩) (by kernel_rfl) (a_seq (a_block (sr (vp (i6 a0) rfl (vl (eA64u8 x123) rfl rfl rfl rfl rfl rfl (vl (eA64u8 a3) rfl rfl rfl rfl rfl rfl ?_))))))))
      obtain ⟨r156, hr157, h⟩ := bind_some h
      refine a_call (args := [(i6 a0), (eA64u8 x123), (eA64u8 a3)]) (u := []) (r := (eA64u8 r156)) rfl rfl (spec_l01Up_ok a0 x123 a3 r156 hr157) rfl (vs (eA64u8 r156) rfl rfl (fun _ => rfl) rfl rfl rfl rfl rfl rfl (nx ⟨[(0, (i6 a0)), (5, (ow 5)), (6, (ow 6)), (7, (ow 7)), (8, (ow 8)), (9, (ow 9)), (10, (i6 x122))], [(5, (bk (eA64u8 a1))), (6, (bk (eA64u8 a2))), (7, (bk (eA64u8 a3))), (8, (bk (eA64u8 ((vrep 64 (0 : Int)))))), (9, (bk (eA64u8 r156)))]⟩ (by kernel_rfl) (a_draw [⟨[], [], [], []⟩, ⟨[], [], [], []⟩, ⟨[9], [], [], []⟩, ⟨[5], [], [], []⟩, ⟨[], [], [], []⟩, ⟨[6], [], [6], [4]⟩, ⟨[6], [], [], [4, 5]⟩, ⟨[], [], [], [4, 5, 6]⟩, ⟨[], [], [], [1, 2, 3, 4, 5, 6, 7]⟩, ⟨[7], [], [], []⟩, ⟨[], [], [], [0, 1, 2, 3, 4, 5, 6, 7, 8, 9]⟩, ⟨[9], [9], [], [0, 1, 2, 3, 4, 5, 6, 7, 8, 9, 10]⟩] (by kernel_rfl) (dp (i6 a0) rfl (by kernel_rfl) (dp (i6 a0) rfl (by kernel_rfl) (d_cons (vl (eA64u8 r156) rfl rfl rfl rfl rfl rfl (d_next (by kernel_rfl) (d_cons ?_)))))))))
      refine vl (eA64u8 a1) rfl rfl rfl rfl rfl rfl (d_next (by kernel_rfl) (dp (i6 x122) rfl (by kernel_rfl) (d_cons ?_)))
      obtain ⟨hc171, h⟩ := ifp_some h
      refine vq (.own 6 [x122.toNat] [x122.toNat * 1]) rfl hc171 (d_next (by kernel_rfl) (d_cons ?_))
      have hl172 : LdOk [x122.toNat] (eA64u8 a2) [x122.toNat * 1] 1 false (b8 (rd a2.1 x122.toNat)) := (.arr (vlt a2 hc171) rfl (.nil rfl rfl rfl))
      refine vq (b8 (rd a2.1 x122.toNat)) (ld_own (i := ⟨.int .u8, 1, 1, (.int .u8 0)⟩) rfl rfl rfl hl172) hl172.c (d_next (by kernel_rfl) (dp (i6 (IntKind.i64.wrap (rd a2.1 x122.toNat))) rfl (by kernel_rfl) (d_cons ?_)))
      obtain ⟨r173, hr174, h⟩ := bind_some h
      refine a_call (args := [(i6 a0), (eA64u8 r156), (eA64u8 a1), (i6 (IntKind.i64.wrap (rd a2.1 x122.toNat)))]) (u := []) (r := (eA64u8 r173)) rfl rfl (spec_l01Add_ok a0 r156 a1 (IntKind.i64.wrap (rd a2.1 x122.toNat)) r173 hr174) rfl (d_next (by kernel_rfl) (d_cons (vl (eA64u8 a3) rfl rfl rfl rfl rfl rfl (d_next (by kernel_rfl) (d_cons ?_)))))
      obtain ⟨r176, hr177, h⟩ := bind_some h
      refine a_call (args := [(i6 a0), (eA64u8 r173), (eA64u8 a3)]) (u := []) (r := (eA64u8 r176)) rfl rfl (spec_l01Mod_ok a0 r173 a3 r176 hr177) rfl (d_next (by kernel_rfl) (d_cons (vs (eA64u8 r176) rfl rfl (fun _ => rfl) rfl rfl rfl rfl rfl rfl (d_next (by kernel_rfl) (d_nil (b_norm (a_next (σ' := ⟨[(0, (i6 a0)), (5, (ow 5)), (6, (ow 6)), (7, (ow 7)), (8, (ow 8)), (9, (ow 9)), (10, (i6 x122))], [(5, (bk (eA64u8 a1))), (6, (bk (eA64u8 a2))), (7, (bk (eA64u8 a3))), (8, (bk (eA64u8 ((vrep 64 (0 : Int)))))), (9, (bk (eA64u8 r176)))]⟩) (by kernel_rfl) (a_region (vp (i6 x122) rfl ?_)))))))))
      refine vp (i6 (IntKind.i64.wrap (x122 - 1))) rfl (vp (i6 (IntKind.i64.wrap (x122 - 1))) rfl (a_nil ?_))
      cases h
      exact a_again (by kernel_rfl) hX152
def spec_l01PowMod_c : ACode := (.seq (.region 0 [q 5 (.box 25 (t 1)), q 7 (.box 25 (t 3)), q 8 (.alloc 25)] false) (.seq (.region 1 [q 11 (.mov (t 0)), q 12 (.call 0 (.func 133) []), q 13 (.load 25 (t 7)), ⟨some 14, .call 0 (.func 165) [(t 11), (t 12), (t 13)], none, [0, 1, 2, 1]⟩, q 15 (.mov (t 0)), q 16 (.load 25 (t 5)), q 17 (.load 25 (t 7)), ⟨some 18, .call 0 (.func 165) [(t 15), (t 16), (t 17)], none, [4, 5, 6, 3]⟩, q 9 (.alloc 25), q 10 (.alloc 25), ⟨none, .store 25 (t 9) (t 14), none, [8, 3, 7, 0, 1, 2, 3, 8, 9]⟩, ⟨none, .store 25 (t 10) (t 18), none, [9, 7, 10, 0, 1, 2, 3, 4, 5, 6, 7, 8, 9, 10]⟩] true) (.seq (.block 0 (.loop (.seq (.seq (.region 2 [q 19 (.mov (t 2)), q 20 (.bin .gtr 2 (t 19) (.const (.int .i64 0)))] false) (.cond (t 20) .skip (.exit 0))) (.seq (.block 1 (.seq (.seq (.region 4 [q 23 (.mov (t 2)), q 24 (.bin .rem 2 (t 23) (.const (.int .i64 2))), q 25 (.bin .eql 2 (t 24) (.const (.int .i64 1)))] false) (.cond (t 25) (.region 5 [q 26 (.mov (t 0)), q 27 (.load 25 (t 9)), q 28 (.load 25 (t 10)), q 29 (.load 25 (t 7)), q 30 (.call 0 (.func 199) [(t 26), (t 27), (t 28), (t 29)]), ⟨none, .store 25 (t 9) (t 30), none, []⟩] false) .skip)) (.region 6 [q 31 (.mov (t 0)), q 32 (.load 25 (t 10)), q 33 (.load 25 (t 10)), q 34 (.load 25 (t 7)), q 35 (.call 0 (.func 199) [(t 31), (t 32), (t 33), (t 34)]), ⟨none, .store 25 (t 10) (t 35), none, []⟩] false))) (.region 3 [q 21 (.mov (t 2)), q 22 (.bin .quo 2 (t 21) (.const (.int .i64 2))), q 2 (.asg 0 (t 22) 2)] false))))) (.seq (.region 7 [q 36 (.load 25 (t 9)), ⟨none, .store 25 (t 8) (t 36), none, []⟩] false) .ret))))
def spec_l01PowMod_L : Live := [(0, [0, 1, 2, 3]), (1, [0, 2, 5, 7, 8]), (2, [0, 2, 7, 8, 9, 10]), (3, [0, 2, 7, 8, 9, 10]), (4, [0, 2, 7, 8, 9, 10]), (5, [0, 2, 7, 8, 9, 10]), (6, [0, 2, 7, 8, 9, 10]), (7, [8, 9]), (100020, [0, 2, 7, 8, 9, 10, 20]), (100025, [0, 2, 7, 8, 9, 10, 25])]
noncomputable def spec_l01PowMod_l1 (a0 : Int) (a3 : (Vec Int 64)) (x134 : Int) (x135 : (Vec Int 64)) (x136 : (Vec Int 64)) : Option ((Int × (Vec Int 64) × (Vec Int 64)) ⊕ (Vec Int 64)) :=
  (if (decide (x134 > 0)) then (Option.bind (α := (Vec Int 64)) ((if ((Int.tmod x134 2) == 1) then (Option.bind (spec_l01MulMod a0 x135 x136 a3) fun r181 => (some r181)) else (some x135))) fun x173 => (Option.bind (spec_l01MulMod a0 x136 x136 a3) fun r187 => (some (.inl ((IntKind.i64.wrap (Int.tdiv x134 2), x173, r187)))))) else (some (.inr x135)))
noncomputable def spec_l01PowMod (a0 : Int) (a1 : (Vec Int 64)) (a2 : Int) (a3 : (Vec Int 64)) : Option (Vec Int 64) :=
  (Option.bind (spec_l01One) fun r12 => (Option.bind (spec_l01Mod a0 r12 a3) fun r15 => (Option.bind (spec_l01Mod a0 a1 a3) fun r19 => (Option.bind (α := (Vec Int 64)) ((loopM (fun s : (Int × (Vec Int 64) × (Vec Int 64)) => spec_l01PowMod_l1 a0 a3 s.1 s.2.1 s.2.2) (a2, r15, r19))) fun x105 => (some x105)))))
theorem spec_l01PowMod_ok (a0 : Int) (a1 : (Vec Int 64)) (a2 : Int) (a3 : (Vec Int 64)) (r : (Vec Int 64)) (h : spec_l01PowMod a0 a1 a2 a3 = some r) : Den Try.prog 167 [(i6 a0), (eA64u8 a1), (i6 a2), (eA64u8 a3)] { r := (eA64u8 r) } := by
  refine den_of (rs := [(eA64u8 r)]) (ac := spec_l01PowMod_c) (L := spec_l01PowMod_L) (n := 37) (m := []) (c := Try.f167.body.getD .skip) good Try.func167 (by kernel_rfl) (by kernel_rfl) Try.ntmps167 rfl rfl (by kernel_rfl) rfl rfl ?_
  refine a_st (σ' := ⟨[(0, (i6 a0)), (1, (eA64u8 a1)), (2, (i6 a2)), (3, (eA64u8 a3))], []⟩) (by kernel_rfl) ?_
  unfold spec_l01PowMod_c
  refine sr (vo 1500 (eA64u8 a1) rfl rfl (vo 1700 (eA64u8 a3) rfl rfl (vo 1800 (eA64u8 ((vrep 64 (0 : Int)))) rfl rfl (nx ⟨[(0, (i6 a0)), (2, (i6 a2)), (5, (ow 5)), (7, (ow 7)), (8, (ow 8))], [(5, (bk (eA64u8 a1))), (7, (bk (eA64u8 a3))), (8, (bk (eA64u8 ((vrep 64 (0 : Int))))))]⟩ (by kernel_rfl) (a_seq (a_draw [⟨[], [], [], []⟩, ⟨[], [], [], []⟩, ⟨[7], [], [], []⟩, ⟨[], [], [], [0, 1, 2]⟩, ⟨[], [], [], []⟩, ⟨[5], [], [], []⟩, ⟨[7], [], [], []⟩, ⟨[], [], [], [0, 1, 2, 3, 4, 5, 6]⟩, ⟨[1900], [1900], [1900], []⟩, ⟨[2000], [2000], [2000], []⟩, ⟨[1900], [1900], [], [0, 1, 2, 3, 4, 5, 6, 7, 8, 9]⟩, ⟨[2000], [2000], [], [0, 1, 2, 3, 4, 5, 6, 7, 8, 9, 10]⟩] (by kernel_rfl) (dp (i6 a0) rfl (by kernel_rfl) (d_cons ?_))))))))
  obtain ⟨r12, hr13, h⟩ := bind_some h
  refine a_call (args := []) (u := []) (r := (eA64u8 r12)) rfl rfl (spec_l01One_ok r12 hr13) rfl (d_next (by kernel_rfl) (d_cons (vl (eA64u8 a3) rfl rfl rfl rfl rfl rfl (d_next (by kernel_rfl) (d_cons ?_)))))
  obtain ⟨r15, hr16, h⟩ := bind_some h
  refine a_call (args := [(i6 a0), (eA64u8 r12), (eA64u8 a3)]) (u := []) (r := (eA64u8 r15)) rfl rfl (spec_l01Mod_ok a0 r12 a3 r15 hr16) rfl (d_next (by kernel_rfl) (dp (i6 a0) rfl (by kernel_rfl) (d_cons (vl (eA64u8 a1) rfl rfl rfl rfl rfl rfl (d_next (by kernel_rfl) (d_cons (vl (eA64u8 a3) rfl rfl rfl rfl rfl rfl (d_next (by kernel_rfl) (d_cons ?_)))))))))
  obtain ⟨r19, hr20, h⟩ := bind_some h
  refine a_call (args := [(i6 a0), (eA64u8 a1), (eA64u8 a3)]) (u := []) (r := (eA64u8 r19)) rfl rfl (spec_l01Mod_ok a0 a1 a3 r19 hr20) rfl (d_next (by kernel_rfl) (d_cons (vo 1900 (eA64u8 ((vrep 64 (0 : Int)))) rfl rfl (d_next (by kernel_rfl) (d_cons (vo 2000 (eA64u8 ((vrep 64 (0 : Int)))) rfl rfl (d_next (by kernel_rfl) (d_cons (vs (eA64u8 r15) rfl rfl (fun _ => rfl) rfl rfl rfl rfl rfl rfl ?_)))))))))
  refine d_next (by kernel_rfl) (d_cons (vs (eA64u8 r19) rfl rfl (fun _ => rfl) rfl rfl rfl rfl rfl rfl (d_next (by kernel_rfl) (d_nil (a_next (σ' := ⟨[(0, (i6 a0)), (2, (i6 a2)), (7, (ow 7)), (8, (ow 8)), (9, (ow 9)), (10, (ow 10))], [(7, (bk (eA64u8 a3))), (8, (bk (eA64u8 ((vrep 64 (0 : Int)))))), (9, (bk (eA64u8 r15))), (10, (bk (eA64u8 r19)))]⟩) (by kernel_rfl) ?_)))))
  obtain ⟨y106, hy107, hk108⟩ := bind_some h
  clear h
  refine a_join (emb := fun (s : (Vec Int 64)) => ⟨[(8, (ow 8)), (9, (ow 9))], [(8, (bk (eA64u8 ((vrep 64 (0 : Int)))))), (9, (bk (eA64u8 s)))]⟩) (pre := fun s => s = y106) ?_ ?_
  · rintro x105 rfl
    have h := hk108
    refine a_st (σ' := ⟨[(8, (ow 8)), (9, (ow 9))], [(8, (bk (eA64u8 ((vrep 64 (0 : Int)))))), (9, (bk (eA64u8 x105)))]⟩) (by kernel_rfl) (sr (vl (eA64u8 x105) rfl rfl rfl rfl rfl rfl (vs (eA64u8 x105) rfl rfl (fun _ => rfl) rfl rfl rfl rfl rfl rfl (nx _ rfl (a_ret ?_)))))
    have hl193 : LdOk [] (eA64u8 x105) [] 64 true (eA64u8 x105) := (.nil rfl rfl rfl)
    refine ⟨.inr rfl, ?_⟩
    rw [Try.results167]
    cases h
    exact ⟨_, _, _, _, _, ld_own (i := ⟨.arr 64 5, 64, 64, (eA64u8 (vrep 64 (0 : Int)))⟩) rfl rfl rfl hl193, hl193.c, .inl ⟨rfl, .inl rfl⟩, rfl, rfl⟩
  · have h := hy107
    refine a_block ?_
    refine a_loop (emb := fun (s : (Int × (Vec Int 64) × (Vec Int 64))) => ⟨[(0, (i6 a0)), (2, (i6 s.1)), (7, (ow 7)), (8, (ow 8)), (9, (ow 9)), (10, (ow 10))], [(7, (bk (eA64u8 a3))), (8, (bk (eA64u8 ((vrep 64 (0 : Int)))))), (9, (bk (eA64u8 s.2.1))), (10, (bk (eA64u8 s.2.2)))]⟩) (body := (fun s : (Int × (Vec Int 64) × (Vec Int 64)) => spec_l01PowMod_l1 a0 a3 s.1 s.2.1 s.2.2)) (G := fun q => some q = some y106) h rfl ?_ (by kernel_rfl)
    rintro X162 ⟨x134, x135, x136⟩ x163 h hX164
    have h : spec_l01PowMod_l1 a0 a3 x134 x135 x136 = some x163 := h
    refine a_st (σ' := ⟨[(0, (i6 a0)), (2, (i6 x134)), (7, (ow 7)), (8, (ow 8)), (9, (ow 9)), (10, (ow 10))], [(7, (bk (eA64u8 a3))), (8, (bk (eA64u8 ((vrep 64 (0 : Int)))))), (9, (bk (eA64u8 x135))), (10, (bk (eA64u8 x136)))]⟩) (by kernel_rfl) (a_seq (sr (vp (i6 x134) rfl (vp (.bool ((decide (x134 > 0)))) rfl (nx ⟨[(0, (i6 a0)), (2, (i6 x134)), (7, (ow 7)), (8, (ow 8)), (9, (ow 9)), (10, (ow 10)), (20, (.bool ((decide (x134 > 0)))))], [(7, (bk (eA64u8 a3))), (8, (bk (eA64u8 ((vrep 64 (0 : Int)))))), (9, (bk (eA64u8 x135))), (10, (bk (eA64u8 x136)))]⟩ (by kernel_rfl) ?_)))))
    cases hb165 : (decide (x134 > 0))
    · have h := ite_f hb165 h
      refine a_cond_f rfl (a_exit (t_exit ?_))
      cases h
      have h := hX164
      refine t_exit (b_exit ?_)
      exact j_leaf x135 (Option.some.inj h) (by kernel_rfl)
    · have h := ite_t hb165 h
      refine a_cond_t rfl (a_skip (a_next (σ' := ⟨[(0, (i6 a0)), (2, (i6 x134)), (7, (ow 7)), (8, (ow 8)), (9, (ow 9)), (10, (ow 10))], [(7, (bk (eA64u8 a3))), (8, (bk (eA64u8 ((vrep 64 (0 : Int)))))), (9, (bk (eA64u8 x135))), (10, (bk (eA64u8 x136)))]⟩) (by kernel_rfl) (a_seq (a_block ?_))))
      obtain ⟨y174, hy175, hk176⟩ := bind_some h
      clear h
      refine a_join (emb := fun (s : (Vec Int 64)) => ⟨[(0, (i6 a0)), (2, (i6 x134)), (7, (ow 7)), (8, (ow 8)), (9, (ow 9)), (10, (ow 10))], [(7, (bk (eA64u8 a3))), (8, (bk (eA64u8 ((vrep 64 (0 : Int)))))), (9, (bk (eA64u8 s))), (10, (bk (eA64u8 x136)))]⟩) (pre := fun s => s = y174) ?_ ?_
      · rintro x173 rfl
        have h := hk176
        refine a_st (σ' := ⟨[(0, (i6 a0)), (2, (i6 x134)), (7, (ow 7)), (8, (ow 8)), (9, (ow 9)), (10, (ow 10))], [(7, (bk (eA64u8 a3))), (8, (bk (eA64u8 ((vrep 64 (0 : Int)))))), (9, (bk (eA64u8 x173))), (10, (bk (eA64u8 x136)))]⟩) (by kernel_rfl) (a_region (vp (i6 a0) rfl (vl (eA64u8 x136) rfl rfl rfl rfl rfl rfl (vl (eA64u8 x136) rfl rfl rfl rfl rfl rfl (vl (eA64u8 a3) rfl rfl rfl rfl rfl rfl ?_)))))
        obtain ⟨r187, hr188, h⟩ := bind_some h
        refine a_call (args := [(i6 a0), (eA64u8 x136), (eA64u8 x136), (eA64u8 a3)]) (u := []) (r := (eA64u8 r187)) rfl rfl (spec_l01MulMod_ok a0 x136 x136 a3 r187 hr188) rfl (vs (eA64u8 r187) rfl rfl (fun _ => rfl) rfl rfl rfl rfl rfl rfl (a_nil (b_norm (a_next (σ' := ⟨[(0, (i6 a0)), (2, (i6 x134)), (7, (ow 7)), (8, (ow 8)), (9, (ow 9)), (10, (ow 10))], [(7, (bk (eA64u8 a3))), (8, (bk (eA64u8 ((vrep 64 (0 : Int)))))), (9, (bk (eA64u8 x173))), (10, (bk (eA64u8 r187)))]⟩) (by kernel_rfl) (a_region (vp (i6 x134) rfl (vq (i6 (IntKind.i64.wrap (Int.tdiv x134 2))) rfl (by decide) (vp (i6 (IntKind.i64.wrap (Int.tdiv x134 2))) rfl (a_nil ?_)))))))))
        cases h
        exact a_again (by kernel_rfl) hX164
      · have h := hy175
        refine sr (vp (i6 x134) rfl (vq (i6 (Int.tmod x134 2)) rfl (by decide) (vp (.bool (((Int.tmod x134 2) == 1))) rfl (nx ⟨[(0, (i6 a0)), (2, (i6 x134)), (7, (ow 7)), (8, (ow 8)), (9, (ow 9)), (10, (ow 10)), (25, (.bool (((Int.tmod x134 2) == 1))))], [(7, (bk (eA64u8 a3))), (8, (bk (eA64u8 ((vrep 64 (0 : Int)))))), (9, (bk (eA64u8 x135))), (10, (bk (eA64u8 x136)))]⟩ (by kernel_rfl) ?_))))
        cases hb177 : ((Int.tmod x134 2) == 1)
        · have h := ite_f hb177 h
          refine a_cond_f rfl (a_skip ?_)
          exact j_leaf x135 (Option.some.inj h) (by kernel_rfl)
        · have h := ite_t hb177 h
          refine a_cond_t rfl (a_region (vp (i6 a0) rfl (vl (eA64u8 x135) rfl rfl rfl rfl rfl rfl (vl (eA64u8 x136) rfl rfl rfl rfl rfl rfl (vl (eA64u8 a3) rfl rfl rfl rfl rfl rfl ?_)))))
          obtain ⟨r181, hr182, h⟩ := bind_some h
          refine a_call (args := [(i6 a0), (eA64u8 x135), (eA64u8 x136), (eA64u8 a3)]) (u := []) (r := (eA64u8 r181)) rfl rfl (spec_l01MulMod_ok a0 x135 x136 a3 r181 hr182) rfl (vs (eA64u8 r181) rfl rfl (fun _ => rfl) rfl rfl rfl rfl rfl rfl (a_nil ?_))
          exact j_leaf r181 (Option.some.inj h) (by kernel_rfl)
def impl_prime_rest_c : ACode := (.seq (.region 0 [q 6 (.asg 1 (.const (.slice none 0 0)) 80)] false) (.seq (.region 1 [q 10 (.mov (t 0)), q 11 (.mov (t 1)), q 12 (.mov (t 2)), q 13 (.call 0 (.func 110) [(t 10), (t 11), (t 12)]), q 9 (.mov (t 13)), q 14 (.extract (t 9) 0), q 15 (.extract (t 9) 1), q 7 (.asg 1 (t 14) 80), q 8 (.asg 1 (t 15) 80)] false) (.seq (.region 2 [q 16 (.mov (t 8)), q 6 (.asg 1 (t 16) 80)] false) .ret)))
def impl_prime_rest_L : Live := [(0, [0, 1, 2]), (1, [0, 1, 2]), (2, [8])]
noncomputable def impl_prime_rest (a0 : Int) (a1 : (List Int)) (a2 : (List Int)) : Option (List Int) :=
  (Option.bind (impl_prime_divide a0 a1 a2) fun r1 => (some r1.2))
theorem impl_prime_rest_ok (a0 : Int) (a1 : (List Int)) (a2 : (List Int)) (r : (List Int)) (h : impl_prime_rest a0 a1 a2 = some r) : Den Try.prog 162 [(i6 a0), (eSi64 a1), (eSi64 a2)] { r := (eSi64 r) } := by
  refine den_of (rs := [(eSi64 r)]) (ac := impl_prime_rest_c) (L := impl_prime_rest_L) (n := 17) (m := [(6, 1), (7, 1), (8, 1)]) (c := Try.f162.body.getD .skip) good Try.func162 (by kernel_rfl) (by kernel_rfl) Try.ntmps162 rfl rfl (by kernel_rfl) rfl rfl ?_
  refine a_st (σ' := ⟨[(0, (i6 a0)), (1, (eSi64 a1)), (2, (eSi64 a2))], []⟩) (by kernel_rfl) ?_
  unfold impl_prime_rest_c
  refine sr (vp (eSi64 ([])) rfl (nx ⟨[(0, (i6 a0)), (1, (eSi64 a1)), (2, (eSi64 a2))], []⟩ (by kernel_rfl) (sr (vp (i6 a0) rfl (vp (eSi64 a1) rfl (vp (eSi64 a2) rfl ?_))))))
  obtain ⟨r1, hr2, h⟩ := bind_some h
  refine a_call (args := [(i6 a0), (eSi64 a1), (eSi64 a2)]) (u := []) (r := (.tuple [(eSi64 r1.1), (eSi64 r1.2)])) rfl rfl (impl_prime_divide_ok a0 a1 a2 r1 hr2) rfl (vp (.tuple [(eSi64 r1.1), (eSi64 r1.2)]) rfl (vb (eSi64 r1.1) rfl rfl (vb (eSi64 r1.2) rfl rfl (vp (eSi64 r1.1) rfl (vp (eSi64 r1.2) rfl (nx ⟨[(8, (eSi64 r1.2))], []⟩ (by kernel_rfl) (sr (vp (eSi64 r1.2) rfl (vp (eSi64 r1.2) rfl ?_)))))))))
  refine nx _ rfl (a_ret ?_)
  refine ⟨.inr rfl, ?_⟩
  rw [Try.results162]
  cases h
  exact ⟨_, _, _, _, _, rfl, trivial, .inl ⟨rfl, .inl rfl⟩, rfl, rfl⟩
end Go.Proofs.Ytkbnegemdlnncaa
