/- Functions of the program: plain Lean functions, and that the program computes them. Printed by gen.py. -/
import Derived.Test.YtkbnegemdlnncaaFnT
import Derived.Test.YtkbnegemdlnncaaFn1
namespace Go.Proofs.Ytkbnegemdlnncaa
open Go.Abs Go.Proofs
set_option linter.unusedSimpArgs false
set_option linter.unusedVariables false
set_option maxHeartbeats 16000000
attribute [local irreducible] Abs.acode Abs.aops Abs.aopsT Abs.thenK Abs.blockK

def spec_l01Both_c : ACode := (.seq (.region 0 [q 2 (.asg 0 (.const (.int .i64 0)) 2), q 3 (.alloc 25), q 4 (.alloc 25)] false) (.seq (.region 1 [q 12 (.mov (t 0)), q 13 (.call 0 (.func 116) [(t 12)]), q 5 (.asg 0 (t 13) 96)] false) (.seq (.region 2 [q 15 (.mov (t 5)), q 16 (.call 1 (.func 115) [(t 15)]), q 14 (.mov (t 16)), q 17 (.extract (t 14) 0), q 18 (.extract (t 14) 1), q 7 (.alloc 25), q 6 (.asg 0 (t 17) 2), ⟨none, .store 25 (t 7) (t 18), none, []⟩] false) (.seq (.region 3 [q 19 (.mov (t 6)), q 8 (.asg 0 (t 19) 2)] false) (.seq (.seq (.region 4 [q 20 (.mov (t 6)), q 21 (.call 0 (.func 168) [(t 20)]), q 22 (.un .not (t 21))] false) (.cond (t 22) (.region 5 [q 8 (.asg 0 (.const (.int .i64 2)) 2)] false) .skip)) (.seq (.region 6 [q 23 (.mov (t 5)), q 24 (.mov (t 8)), q 25 (.mov (t 5)), q 26 (.bslice 0 59 4 [(0, (.const (.int .i64 2))), (1, (.const (.int .i64 4))), (2, (.const (.int .i64 8))), (3, (.const (.int .i64 63)))]), q 27 (.call 1 (.func 122) [(t 25), (t 26)]), q 28 (.call 1 (.func 155) [(t 23), (t 24), (t 27)]), q 9 (.alloc 25), ⟨none, .store 25 (t 9) (t 28), none, []⟩] false) (.seq (.seq (.region 7 [q 29 (.mov (t 5)), q 30 (.call 1 (.func 123) [(t 29), (.const (.int .i64 6))]), q 31 (.bin .eql 2 (t 30) (.const (.int .i64 0)))] false) (.cond (t 31) (.seq (.region 8 [q 33 (.mov (t 8)), q 34 (.load 25 (t 9)), q 35 (.mov (t 5)), q 36 (.mov (t 8)), ⟨some 37, .call 1 (.func 155) [(t 35), (t 36), (.const (.int .i64 4))], none, [2, 3]⟩, ⟨some 38, .call 0 (.func 105) [(t 33), (t 34), (t 37)], none, [0, 1, 4, 4]⟩, ⟨some 32, .mov (t 38), none, [5]⟩, ⟨some 39, .extract (t 32) 0, none, [6]⟩, ⟨some 40, .extract (t 32) 1, none, [6]⟩, q 10 (.alloc 25), ⟨none, .store 25 (t 10) (t 39), none, [9, 7, 5, 0, 1, 2, 3, 4, 5, 6, 7, 9]⟩, ⟨some 11, .asg 0 (t 40) 4, none, [8, 10, 0, 1, 2, 3, 4, 5, 6, 7, 8, 9, 10]⟩] true) (.seq (.region 9 [q 41 (.mov (t 11)), q 42 (.mov (t 41)), ⟨some 43, .mov (t 8), some (42, true), []⟩, ⟨some 44, .load 25 (t 10), some (42, true), []⟩, ⟨some 45, .call 0 (.func 108) [(t 43), (t 44)], some (42, true), []⟩, q 46 (.pick (t 42) (t 45) (.const (.bool false)))] false) (.cond (t 46) (.region 10 [q 47 (.load 25 (t 10)), ⟨none, .store 25 (t 7) (t 47), none, []⟩] false) .skip))) .skip)) (.seq (.region 11 [q 48 (.mov (t 6)), q 49 (.load 25 (t 7)), q 50 (.mov (t 5)), q 51 (.mov (t 8)), q 52 (.load 25 (t 9)), ⟨some 53, .call 1 (.func 177) [(t 50), (t 51), (t 52)], none, [2, 3, 4]⟩, ⟨some 2, .asg 0 (t 48) 2, none, [0, 5, 0]⟩, ⟨none, .store 25 (t 3) (t 49), none, [1, 6, 0, 1, 6]⟩, ⟨none, .store 25 (t 4) (t 53), none, [5, 7, 0, 1, 2, 3, 4, 5, 6, 7]⟩] true) .ret))))))))
def spec_l01Both_L : Live := [(0, [0]), (1, [0, 3, 4]), (2, [3, 4, 5]), (3, [3, 4, 5, 6, 7]), (4, [3, 4, 5, 6, 7, 8]), (5, [3, 4, 5, 6, 7]), (6, [3, 4, 5, 6, 7, 8]), (7, [3, 4, 5, 6, 7, 8, 9]), (8, [3, 4, 5, 6, 7, 8, 9]), (9, [3, 4, 5, 6, 7, 8, 9, 10, 11]), (10, [3, 4, 5, 6, 7, 8, 9, 10]), (11, [3, 4, 5, 6, 7, 8, 9]), (100022, [3, 4, 5, 6, 7, 8, 22]), (100031, [3, 4, 5, 6, 7, 8, 9, 31]), (100046, [3, 4, 5, 6, 7, 8, 9, 10, 46])]
noncomputable def spec_l01Both (a0 : (List Int)) : Option (Int × (Vec Int 64) × (Vec Int 64)) :=
  (Option.bind (spec_l01From a0) fun r1 => (Option.bind (spec_l01Spoil_of_src r1) fun r3 => (Option.bind (α := Int) ((Option.bind (spec_l01Prime r3.1) fun r14 => (if (!r14) then (some 2) else (some r3.1)))) fun x10 => (Option.bind (spec_l01Pick_of_src r3.2.2 ([2, 4, 8, 63])) fun r17 => (Option.bind (spec_l01Draw_of_src r17.2 x10 r17.1) fun r20 => (Option.bind (α := (((List Int) × Int × Int) × (Vec Int 64))) ((Option.bind (spec_l01Next_of_src r20.2 6) fun r62 => (if (r62.1 == 0) then (Option.bind (spec_l01Draw_of_src r62.2 x10 4) fun r74 => (Option.bind (spec_l01Times x10 r20.1 r74.1) fun r77 => (Option.bind (α := Bool) ((if r77.2 then (Option.bind (spec_l01Is x10 r77.1) fun r90 => (some r90)) else (some false))) fun x84 => (if x84 then (some (r74.2, r77.1)) else (some (r74.2, r3.2.1)))))) else (some (r62.2, r3.2.1))))) fun ⟨x57, x58⟩ => (Option.bind (spec_l01Bad_of_src x57 x10 r20.1) fun r104 => (some (r3.1, x58, r104.1)))))))))
theorem spec_l01Both_ok (a0 : (List Int)) (r : (Int × (Vec Int 64) × (Vec Int 64))) (h : spec_l01Both a0 = some r) : Den Try.prog 99 [(eSu8 a0)] { r := (.tuple [(i6 r.1), (eA64u8 r.2.1), (eA64u8 r.2.2)]) } := by
  refine den_of (rs := [(i6 r.1), (eA64u8 r.2.1), (eA64u8 r.2.2)]) (ac := spec_l01Both_c) (L := spec_l01Both_L) (n := 54) (m := [(16, 1), (27, 1), (28, 1), (30, 1), (37, 1), (53, 1)]) (c := Try.f99.body.getD .skip) good Try.func99 (by kernel_rfl) (by kernel_rfl) Try.ntmps99 rfl rfl (by kernel_rfl) rfl rfl ?_
  refine a_st (σ' := ⟨[(0, (eSu8 a0))], []⟩) (by kernel_rfl) ?_
  unfold spec_l01Both_c
  refine sr (vp (i6 0) rfl (vo 1300 (eA64u8 ((vrep 64 (0 : Int)))) rfl rfl (vo 1400 (eA64u8 ((vrep 64 (0 : Int)))) rfl rfl (nx ⟨[(0, (eSu8 a0)), (3, (ow 3)), (4, (ow 4))], [(3, (bk (eA64u8 ((vrep 64 (0 : Int)))))), (4, (bk (eA64u8 ((vrep 64 (0 : Int))))))]⟩ (by kernel_rfl) (sr (vp (eSu8 a0) rfl ?_))))))
  obtain ⟨r1, hr2, h⟩ := bind_some h
  refine a_callF (args := [(eSu8 a0)]) (u := []) (u2 := []) (r := (ow 2000000)) (fs := [(0, [eT_Su8_i64_u64_Z r1])]) rfl rfl (spec_l01From_ok a0 r1 hr2) rfl rfl rfl (.inl rfl) rfl (vp (ow 2300) rfl (nx ⟨[(3, (ow 3)), (4, (ow 4)), (5, (ow 5))], [(3, (bk (eA64u8 ((vrep 64 (0 : Int)))))), (4, (bk (eA64u8 ((vrep 64 (0 : Int)))))), (5, (bk (eT_Su8_i64_u64_Z r1)))]⟩ (by kernel_rfl) (sr (vp (ow 5) rfl ?_))))
  obtain ⟨r3, hr4, h⟩ := bind_some h
  refine a_callM (args := [(.mutp (eT_Su8_i64_u64_Z r1))]) (i := 0) (id := 5) (r := (.tuple [(i6 r3.1), (eA64u8 r3.2.1)])) (c := (eT_Su8_i64_u64_Z r3.2.2)) rfl rfl (spec_l01Spoil_of_src_ok r1 r3 hr4) rfl trivial (vp (.tuple [(i6 r3.1), (eA64u8 r3.2.1)]) rfl (vb (i6 r3.1) rfl rfl (vb (eA64u8 r3.2.1) rfl rfl (vo 1700 (eA64u8 ((vrep 64 (0 : Int)))) rfl rfl (vp (i6 r3.1) rfl (vs (eA64u8 r3.2.1) rfl rfl (fun _ => rfl) rfl rfl rfl rfl rfl rfl (nx ⟨[(3, (ow 3)), (4, (ow 4)), (5, (ow 5)), (6, (i6 r3.1)), (7, (ow 7))], [(3, (bk (eA64u8 ((vrep 64 (0 : Int)))))), (4, (bk (eA64u8 ((vrep 64 (0 : Int)))))), (5, (bk (eT_Su8_i64_u64_Z r3.2.2))), (7, (bk (eA64u8 r3.2.1)))]⟩ (by kernel_rfl) (sr (vp (i6 r3.1) rfl ?_)))))))))
  refine vp (i6 r3.1) rfl (nx ⟨[(3, (ow 3)), (4, (ow 4)), (5, (ow 5)), (6, (i6 r3.1)), (7, (ow 7)), (8, (i6 r3.1))], [(3, (bk (eA64u8 ((vrep 64 (0 : Int)))))), (4, (bk (eA64u8 ((vrep 64 (0 : Int)))))), (5, (bk (eT_Su8_i64_u64_Z r3.2.2))), (7, (bk (eA64u8 r3.2.1)))]⟩ (by kernel_rfl) ?_)
  obtain ⟨y11, hy12, hk13⟩ := bind_some h
  clear h
  refine a_join (emb := fun (s : Int) => ⟨[(3, (ow 3)), (4, (ow 4)), (5, (ow 5)), (6, (i6 r3.1)), (7, (ow 7)), (8, (i6 s))], [(3, (bk (eA64u8 ((vrep 64 (0 : Int)))))), (4, (bk (eA64u8 ((vrep 64 (0 : Int)))))), (5, (bk (eT_Su8_i64_u64_Z r3.2.2))), (7, (bk (eA64u8 r3.2.1)))]⟩) (pre := fun s => s = y11) ?_ ?_
  · rintro x10 rfl
    have h := hk13
    refine a_st (σ' := ⟨[(3, (ow 3)), (4, (ow 4)), (5, (ow 5)), (6, (i6 r3.1)), (7, (ow 7)), (8, (i6 x10))], [(3, (bk (eA64u8 ((vrep 64 (0 : Int)))))), (4, (bk (eA64u8 ((vrep 64 (0 : Int)))))), (5, (bk (eT_Su8_i64_u64_Z r3.2.2))), (7, (bk (eA64u8 r3.2.1)))]⟩) (by kernel_rfl) (sr (vp (ow 5) rfl (vp (i6 x10) rfl (vp (ow 5) rfl (vq (.sl 1 true (([2, 4, 8, 63]).map (AV.int .i64))) rfl ⟨(Nat.le_of_ble_eq_true rfl), (Nat.le_of_ble_eq_true rfl), (all_cons ⟨(Nat.le_of_ble_eq_true rfl), rfl⟩ (all_cons ⟨(Nat.le_of_ble_eq_true rfl), rfl⟩ (all_cons ⟨(Nat.le_of_ble_eq_true rfl), rfl⟩ (all_cons ⟨(Nat.le_of_ble_eq_true rfl), rfl⟩ all_nil))))⟩ ?_)))))
    obtain ⟨r17, hr18, h⟩ := bind_some h
    refine a_callM (args := [(.mutp (eT_Su8_i64_u64_Z r3.2.2)), (.sl 1 true (([2, 4, 8, 63]).map (AV.int .i64)))]) (i := 0) (id := 5) (r := (i6 r17.1)) (c := (eT_Su8_i64_u64_Z r17.2)) rfl rfl (Den.argsM (spec_l01Pick_of_src_ok r3.2.2 ([2, 4, 8, 63]) r17 hr18) rfl rfl (.cons (.loose _) .nil)) rfl trivial ?_
    obtain ⟨r20, hr21, h⟩ := bind_some h
    refine a_callM (args := [(.mutp (eT_Su8_i64_u64_Z r17.2)), (i6 x10), (i6 r17.1)]) (i := 0) (id := 5) (r := (eA64u8 r20.1)) (c := (eT_Su8_i64_u64_Z r20.2)) rfl rfl (spec_l01Draw_of_src_ok r17.2 x10 r17.1 r20 hr21) rfl trivial (vo 1900 (eA64u8 ((vrep 64 (0 : Int)))) rfl rfl (vs (eA64u8 r20.1) rfl rfl (fun _ => rfl) rfl rfl rfl rfl rfl rfl (nx ⟨[(3, (ow 3)), (4, (ow 4)), (5, (ow 5)), (6, (i6 r3.1)), (7, (ow 7)), (8, (i6 x10)), (9, (ow 9))], [(3, (bk (eA64u8 ((vrep 64 (0 : Int)))))), (4, (bk (eA64u8 ((vrep 64 (0 : Int)))))), (5, (bk (eT_Su8_i64_u64_Z r20.2))), (7, (bk (eA64u8 r3.2.1))), (9, (bk (eA64u8 r20.1)))]⟩ (by kernel_rfl) ?_)))
    obtain ⟨y59, hy60, hk61⟩ := bind_some h
    clear h
    refine a_join (emb := fun (s : (((List Int) × Int × Int) × (Vec Int 64))) => ⟨[(3, (ow 3)), (4, (ow 4)), (5, (ow 5)), (6, (i6 r3.1)), (7, (ow 7)), (8, (i6 x10)), (9, (ow 9))], [(3, (bk (eA64u8 ((vrep 64 (0 : Int)))))), (4, (bk (eA64u8 ((vrep 64 (0 : Int)))))), (5, (bk (eT_Su8_i64_u64_Z s.1))), (7, (bk (eA64u8 s.2))), (9, (bk (eA64u8 r20.1)))]⟩) (pre := fun s => s = y59) ?_ ?_
    · rintro ⟨x57, x58⟩ rfl
      have h := hk61
      refine a_st (σ' := ⟨[(3, (ow 3)), (4, (ow 4)), (5, (ow 5)), (6, (i6 r3.1)), (7, (ow 7)), (8, (i6 x10)), (9, (ow 9))], [(3, (bk (eA64u8 ((vrep 64 (0 : Int)))))), (4, (bk (eA64u8 ((vrep 64 (0 : Int)))))), (5, (bk (eT_Su8_i64_u64_Z x57))), (7, (bk (eA64u8 x58))), (9, (bk (eA64u8 r20.1)))]⟩) (by kernel_rfl) (a_seq (a_draw [⟨[], [], [], []⟩, ⟨[7], [], [], []⟩, ⟨[], [], [5], []⟩, ⟨[], [], [], []⟩, ⟨[9], [], [], []⟩, ⟨[5], [5], [], [2, 3, 4]⟩, ⟨[], [], [], [0, 2, 3, 4, 5]⟩, ⟨[3], [3], [], [0, 1, 2, 3, 4, 5, 6]⟩, ⟨[4], [4], [], [0, 1, 2, 3, 4, 5, 6, 7]⟩] (by kernel_rfl) (dp (i6 r3.1) rfl (by kernel_rfl) (d_cons (vl (eA64u8 x58) rfl rfl rfl rfl rfl rfl (d_next (by kernel_rfl) (dp (ow 5) rfl (by kernel_rfl) (dp (i6 x10) rfl (by kernel_rfl) (d_cons ?_)))))))))
      refine vl (eA64u8 r20.1) rfl rfl rfl rfl rfl rfl (d_next (by kernel_rfl) (d_cons ?_))
      obtain ⟨r104, hr105, h⟩ := bind_some h
      refine a_callM (args := [(.mutp (eT_Su8_i64_u64_Z x57)), (i6 x10), (eA64u8 r20.1)]) (i := 0) (id := 5) (r := (eA64u8 r104.1)) (c := (eT_Su8_i64_u64_Z r104.2)) rfl rfl (spec_l01Bad_of_src_ok x57 x10 r20.1 r104 hr105) rfl trivial (d_next (by kernel_rfl) (dp (i6 r3.1) rfl (by kernel_rfl) (d_cons (vs (eA64u8 x58) rfl rfl (fun _ => rfl) rfl rfl rfl rfl rfl rfl (d_next (by kernel_rfl) (d_cons (vs (eA64u8 r104.1) rfl rfl (fun _ => rfl) rfl rfl rfl rfl rfl rfl (d_next (by kernel_rfl) (d_nil ?_)))))))))
      refine a_next rfl (a_ret ?_)
      have hl109 : LdOk [] (eA64u8 x58) [] 64 true (eA64u8 x58) := (.nil rfl rfl rfl)
      have hl110 : LdOk [] (eA64u8 r104.1) [] 64 true (eA64u8 r104.1) := (.nil rfl rfl rfl)
      refine ⟨.inr rfl, ?_⟩
      rw [Try.results99]
      cases h
      exact ⟨_, _, _, _, _, rfl, trivial, .inl ⟨rfl, .inl rfl⟩, rfl, ⟨_, _, _, _, _, ld_own (i := ⟨.arr 64 5, 64, 64, (eA64u8 (vrep 64 (0 : Int)))⟩) rfl rfl rfl hl109, hl109.c, .inl ⟨rfl, .inl rfl⟩, rfl, ⟨_, _, _, _, _, ld_own (i := ⟨.arr 64 5, 64, 64, (eA64u8 (vrep 64 (0 : Int)))⟩) rfl rfl rfl hl110, hl110.c, .inl ⟨rfl, .inl rfl⟩, rfl, rfl⟩⟩⟩
    · have h := hy60
      refine sr (vp (ow 5) rfl ?_)
      obtain ⟨r62, hr63, h⟩ := bind_some h
      refine a_callM (args := [(.mutp (eT_Su8_i64_u64_Z r20.2)), (i6 6)]) (i := 0) (id := 5) (r := (i6 r62.1)) (c := (eT_Su8_i64_u64_Z r62.2)) rfl rfl (spec_l01Next_of_src_ok r20.2 6 r62 hr63) rfl trivial (vp (.bool (r62.1 == 0)) rfl (nx ⟨[(3, (ow 3)), (4, (ow 4)), (5, (ow 5)), (6, (i6 r3.1)), (7, (ow 7)), (8, (i6 x10)), (9, (ow 9)), (31, (.bool (r62.1 == 0)))], [(3, (bk (eA64u8 ((vrep 64 (0 : Int)))))), (4, (bk (eA64u8 ((vrep 64 (0 : Int)))))), (5, (bk (eT_Su8_i64_u64_Z r62.2))), (7, (bk (eA64u8 r3.2.1))), (9, (bk (eA64u8 r20.1)))]⟩ (by kernel_rfl) ?_))
      cases hb65 : (r62.1 == 0)
      · have h := ite_f hb65 h
        refine a_cond_f rfl (a_skip ?_)
        exact j_leaf (r62.2, r3.2.1) (Option.some.inj h) (by kernel_rfl)
      · have h := ite_t hb65 h
        refine a_cond_t rfl (a_seq (a_draw [⟨[], [], [], []⟩, ⟨[9], [], [], []⟩, ⟨[], [], [5], []⟩, ⟨[], [], [], []⟩, ⟨[5], [5], [], [2, 3]⟩, ⟨[], [], [], [0, 1, 2, 3, 4]⟩, ⟨[], [], [], [0, 1, 2, 3, 4, 5]⟩, ⟨[], [], [], [0, 1, 2, 3, 4, 5, 6]⟩, ⟨[], [], [], [0, 1, 2, 3, 4, 5, 6]⟩, ⟨[2000], [2000], [2000], []⟩, ⟨[2000], [2000], [], [0, 1, 2, 3, 4, 5, 6, 7, 9]⟩, ⟨[], [], [], [0, 1, 2, 3, 4, 5, 6, 7, 8, 9, 10]⟩] (by kernel_rfl) (dp (i6 x10) rfl (by kernel_rfl) (d_cons (vl (eA64u8 r20.1) rfl rfl rfl rfl rfl rfl (d_next (by kernel_rfl) (dp (ow 5) rfl (by kernel_rfl) (dp (i6 x10) rfl (by kernel_rfl) (d_cons ?_)))))))))
        obtain ⟨r74, hr75, h⟩ := bind_some h
        refine a_callM (args := [(.mutp (eT_Su8_i64_u64_Z r62.2)), (i6 x10), (i6 4)]) (i := 0) (id := 5) (r := (eA64u8 r74.1)) (c := (eT_Su8_i64_u64_Z r74.2)) rfl rfl (spec_l01Draw_of_src_ok r62.2 x10 4 r74 hr75) rfl trivial (d_next (by kernel_rfl) (d_cons ?_))
        obtain ⟨r77, hr78, h⟩ := bind_some h
        refine a_call (args := [(i6 x10), (eA64u8 r20.1), (eA64u8 r74.1)]) (u := []) (r := (.tuple [(eA64u8 r77.1), (.bool r77.2)])) rfl rfl (spec_l01Times_ok x10 r20.1 r74.1 r77 hr78) rfl (d_next (by kernel_rfl) (dp (.tuple [(eA64u8 r77.1), (.bool r77.2)]) rfl (by kernel_rfl) (d_cons (vb (eA64u8 r77.1) rfl rfl (d_next (by kernel_rfl) (d_cons (vb (.bool r77.2) rfl rfl (d_next (by kernel_rfl) (d_cons ?_)))))))))
        refine vo 2000 (eA64u8 ((vrep 64 (0 : Int)))) rfl rfl (d_next (by kernel_rfl) (d_cons (vs (eA64u8 r77.1) rfl rfl (fun _ => rfl) rfl rfl rfl rfl rfl rfl (d_next (by kernel_rfl) (dp (.bool r77.2) rfl (by kernel_rfl) (d_nil (a_next (σ' := ⟨[(3, (ow 3)), (4, (ow 4)), (5, (ow 5)), (6, (i6 r3.1)), (7, (ow 7)), (8, (i6 x10)), (9, (ow 9)), (10, (ow 10)), (11, (.bool r77.2))], [(3, (bk (eA64u8 ((vrep 64 (0 : Int)))))), (4, (bk (eA64u8 ((vrep 64 (0 : Int)))))), (5, (bk (eT_Su8_i64_u64_Z r74.2))), (7, (bk (eA64u8 r3.2.1))), (9, (bk (eA64u8 r20.1))), (10, (bk (eA64u8 r77.1)))]⟩) (by kernel_rfl) ?_)))))))
        obtain ⟨y85, hy86, hk87⟩ := bind_some h
        clear h
        refine a_join (emb := fun (s : Bool) => ⟨[(3, (ow 3)), (4, (ow 4)), (5, (ow 5)), (6, (i6 r3.1)), (7, (ow 7)), (8, (i6 x10)), (9, (ow 9)), (10, (ow 10)), (46, (.bool s))], [(3, (bk (eA64u8 ((vrep 64 (0 : Int)))))), (4, (bk (eA64u8 ((vrep 64 (0 : Int)))))), (5, (bk (eT_Su8_i64_u64_Z r74.2))), (7, (bk (eA64u8 r3.2.1))), (9, (bk (eA64u8 r20.1))), (10, (bk (eA64u8 r77.1)))]⟩) (pre := fun s => s = y85) ?_ ?_
        · rintro x84 rfl
          have h := hk87
          refine a_st (σ' := ⟨[(3, (ow 3)), (4, (ow 4)), (5, (ow 5)), (6, (i6 r3.1)), (7, (ow 7)), (8, (i6 x10)), (9, (ow 9)), (10, (ow 10)), (46, (.bool x84))], [(3, (bk (eA64u8 ((vrep 64 (0 : Int)))))), (4, (bk (eA64u8 ((vrep 64 (0 : Int)))))), (5, (bk (eT_Su8_i64_u64_Z r74.2))), (7, (bk (eA64u8 r3.2.1))), (9, (bk (eA64u8 r20.1))), (10, (bk (eA64u8 r77.1)))]⟩) (by kernel_rfl) ?_
          cases hb92 : x84
          · have h := ite_f hb92 h
            refine a_cond_f rfl (a_skip ?_)
            exact j_leaf (r74.2, r3.2.1) (Option.some.inj h) (by kernel_rfl)
          · have h := ite_t hb92 h
            refine a_cond_t rfl (a_region (vl (eA64u8 r77.1) rfl rfl rfl rfl rfl rfl (vs (eA64u8 r77.1) rfl rfl (fun _ => rfl) rfl rfl rfl rfl rfl rfl (a_nil ?_))))
            exact j_leaf (r74.2, r77.1) (Option.some.inj h) (by kernel_rfl)
        · have h := hy86
          refine a_region (vp (.bool r77.2) rfl (vp (.bool r77.2) rfl ?_))
          cases hb88 : r77.2
          · have h := ite_f hb88 h
            refine a_gskip rfl (a_gskip rfl (a_gskip rfl (vp (.bool false) rfl (a_nil ?_))))
            exact j_leaf false (Option.some.inj h) (by kernel_rfl)
          · have h := ite_t hb88 h
            refine gp (i6 x10) rfl rfl ?_
            have hl89 : LdOk [] (eA64u8 r77.1) [] 64 true (eA64u8 r77.1) := (.nil rfl rfl rfl)
            refine gq (eA64u8 r77.1) rfl (ld_own (i := ⟨.arr 64 5, 64, 64, (eA64u8 (vrep 64 (0 : Int)))⟩) rfl rfl rfl hl89) hl89.c ?_
            obtain ⟨r90, hr91, h⟩ := bind_some h
            refine a_gcall rfl (args := [(i6 x10), (eA64u8 r77.1)]) (u := []) (r := (.bool r90)) rfl rfl (spec_l01Is_ok x10 r77.1 r90 hr91) rfl (vp (.bool r90) rfl (a_nil ?_))
            exact j_leaf r90 (Option.some.inj h) (by kernel_rfl)
  · have h := hy12
    refine sr (vp (i6 r3.1) rfl ?_)
    obtain ⟨r14, hr15, h⟩ := bind_some h
    refine a_call (args := [(i6 r3.1)]) (u := []) (r := (.bool r14)) rfl rfl (spec_l01Prime_ok r3.1 r14 hr15) rfl (vp (.bool (!r14)) rfl (nx ⟨[(3, (ow 3)), (4, (ow 4)), (5, (ow 5)), (6, (i6 r3.1)), (7, (ow 7)), (8, (i6 r3.1)), (22, (.bool (!r14)))], [(3, (bk (eA64u8 ((vrep 64 (0 : Int)))))), (4, (bk (eA64u8 ((vrep 64 (0 : Int)))))), (5, (bk (eT_Su8_i64_u64_Z r3.2.2))), (7, (bk (eA64u8 r3.2.1)))]⟩ (by kernel_rfl) ?_))
    cases hb16 : (!r14)
    · have h := ite_f hb16 h
      refine a_cond_f rfl (a_skip ?_)
      exact j_leaf r3.1 (Option.some.inj h) (by kernel_rfl)
    · have h := ite_t hb16 h
      refine a_cond_t rfl (a_region (vp (i6 2) rfl (a_nil ?_)))
      exact j_leaf 2 (Option.some.inj h) (by kernel_rfl)
def spec_DrawMultiplyPolys_c : ACode := (.seq (.region 0 [q 2 (.asg 0 (.const (.int .i64 0)) 2), q 3 (.alloc 25), q 4 (.alloc 25)] false) (.seq (.region 1 [q 9 (.mov (t 0)), q 10 (.call 0 (.func 99) [(t 9)]), q 8 (.mov (t 10)), q 11 (.extract (t 8) 0), q 12 (.extract (t 8) 1), q 13 (.extract (t 8) 2), q 6 (.alloc 25), q 7 (.alloc 25), q 5 (.asg 0 (t 11) 2), ⟨none, .store 25 (t 6) (t 12), none, []⟩, ⟨none, .store 25 (t 7) (t 13), none, []⟩] false) (.seq (.region 2 [q 14 (.mov (t 5)), q 15 (.load 25 (t 6)), q 16 (.load 25 (t 7)), ⟨some 2, .asg 0 (t 14) 2, none, [0, 0]⟩, ⟨none, .store 25 (t 3) (t 15), none, [1, 3, 0, 1, 3]⟩, ⟨none, .store 25 (t 4) (t 16), none, [2, 4, 0, 1, 2, 3, 4]⟩] true) .ret)))
def spec_DrawMultiplyPolys_L : Live := [(0, [0]), (1, [0, 3, 4]), (2, [3, 4, 5, 6, 7])]
noncomputable def spec_DrawMultiplyPolys (a0 : (List Int)) : Option (Int × (Vec Int 64) × (Vec Int 64)) :=
  (Option.bind (spec_l01Both a0) fun r1 => (some (r1.1, r1.2.1, r1.2.2)))
theorem spec_DrawMultiplyPolys_ok (a0 : (List Int)) (r : (Int × (Vec Int 64) × (Vec Int 64))) (h : spec_DrawMultiplyPolys a0 = some r) : Den Try.prog 11 [(eSu8 a0)] { r := (.tuple [(i6 r.1), (eA64u8 r.2.1), (eA64u8 r.2.2)]) } := by
  refine den_of (rs := [(i6 r.1), (eA64u8 r.2.1), (eA64u8 r.2.2)]) (ac := spec_DrawMultiplyPolys_c) (L := spec_DrawMultiplyPolys_L) (n := 17) (m := []) (c := Try.f11.body.getD .skip) good Try.func11 (by kernel_rfl) (by kernel_rfl) Try.ntmps11 rfl rfl (by kernel_rfl) rfl rfl ?_
  refine a_st (σ' := ⟨[(0, (eSu8 a0))], []⟩) (by kernel_rfl) ?_
  unfold spec_DrawMultiplyPolys_c
  refine sr (vp (i6 0) rfl (vo 1300 (eA64u8 ((vrep 64 (0 : Int)))) rfl rfl (vo 1400 (eA64u8 ((vrep 64 (0 : Int)))) rfl rfl (nx ⟨[(0, (eSu8 a0)), (3, (ow 3)), (4, (ow 4))], [(3, (bk (eA64u8 ((vrep 64 (0 : Int)))))), (4, (bk (eA64u8 ((vrep 64 (0 : Int))))))]⟩ (by kernel_rfl) (sr (vp (eSu8 a0) rfl ?_))))))
  obtain ⟨r1, hr2, h⟩ := bind_some h
  refine a_call (args := [(eSu8 a0)]) (u := []) (r := (.tuple [(i6 r1.1), (eA64u8 r1.2.1), (eA64u8 r1.2.2)])) rfl rfl (spec_l01Both_ok a0 r1 hr2) rfl (vp (.tuple [(i6 r1.1), (eA64u8 r1.2.1), (eA64u8 r1.2.2)]) rfl (vb (i6 r1.1) rfl rfl (vb (eA64u8 r1.2.1) rfl rfl (vb (eA64u8 r1.2.2) rfl rfl (vo 1600 (eA64u8 ((vrep 64 (0 : Int)))) rfl rfl (vo 1700 (eA64u8 ((vrep 64 (0 : Int)))) rfl rfl (vp (i6 r1.1) rfl (vs (eA64u8 r1.2.1) rfl rfl (fun _ => rfl) rfl rfl rfl rfl rfl rfl (vs (eA64u8 r1.2.2) rfl rfl (fun _ => rfl) rfl rfl rfl rfl rfl rfl ?_)))))))))
  refine nx ⟨[(3, (ow 3)), (4, (ow 4)), (5, (i6 r1.1)), (6, (ow 6)), (7, (ow 7))], [(3, (bk (eA64u8 ((vrep 64 (0 : Int)))))), (4, (bk (eA64u8 ((vrep 64 (0 : Int)))))), (6, (bk (eA64u8 r1.2.1))), (7, (bk (eA64u8 r1.2.2)))]⟩ (by kernel_rfl) (a_seq (a_draw [⟨[], [], [], []⟩, ⟨[6], [], [], []⟩, ⟨[7], [], [], []⟩, ⟨[], [], [], [0]⟩, ⟨[3], [3], [], [0, 1, 3]⟩, ⟨[4], [4], [], [0, 1, 2, 3, 4]⟩] (by kernel_rfl) (dp (i6 r1.1) rfl (by kernel_rfl) (d_cons (vl (eA64u8 r1.2.1) rfl rfl rfl rfl rfl rfl (d_next (by kernel_rfl) (d_cons (vl (eA64u8 r1.2.2) rfl rfl rfl rfl rfl rfl (d_next (by kernel_rfl) ?_)))))))))
  refine dp (i6 r1.1) rfl (by kernel_rfl) (d_cons (vs (eA64u8 r1.2.1) rfl rfl (fun _ => rfl) rfl rfl rfl rfl rfl rfl (d_next (by kernel_rfl) (d_cons (vs (eA64u8 r1.2.2) rfl rfl (fun _ => rfl) rfl rfl rfl rfl rfl rfl (d_next (by kernel_rfl) (d_nil (a_next rfl (a_ret ?_)))))))))
  have hl13 : LdOk [] (eA64u8 r1.2.1) [] 64 true (eA64u8 r1.2.1) := (.nil rfl rfl rfl)
  have hl14 : LdOk [] (eA64u8 r1.2.2) [] 64 true (eA64u8 r1.2.2) := (.nil rfl rfl rfl)
  refine ⟨.inr rfl, ?_⟩
  rw [Try.results11]
  cases h
  exact ⟨_, _, _, _, _, rfl, trivial, .inl ⟨rfl, .inl rfl⟩, rfl, ⟨_, _, _, _, _, ld_own (i := ⟨.arr 64 5, 64, 64, (eA64u8 (vrep 64 (0 : Int)))⟩) rfl rfl rfl hl13, hl13.c, .inl ⟨rfl, .inl rfl⟩, rfl, ⟨_, _, _, _, _, ld_own (i := ⟨.arr 64 5, 64, 64, (eA64u8 (vrep 64 (0 : Int)))⟩) rfl rfl rfl hl14, hl14.c, .inl ⟨rfl, .inl rfl⟩, rfl, rfl⟩⟩⟩
def impl_isPrime_c : ACode := (.seq (.region 0 [q 2 (.asg 0 (.const (.bool false)) 4)] false) (.seq (.region 1 [q 3 (.mov (t 0)), q 4 (.bin .eql 2 (t 3) (.const (.int .i64 2))), q 5 (.mov (t 4)), ⟨some 6, .mov (t 0), some (5, false), []⟩, ⟨some 7, .bin .eql 2 (t 6) (.const (.int .i64 3)), some (5, false), []⟩, q 8 (.pick (t 5) (.const (.bool true)) (t 7)), q 9 (.mov (t 8)), ⟨some 10, .mov (t 0), some (9, false), []⟩, ⟨some 11, .bin .eql 2 (t 10) (.const (.int .i64 5)), some (9, false), []⟩, q 12 (.pick (t 9) (.const (.bool true)) (t 11)), q 13 (.mov (t 12)), ⟨some 14, .mov (t 0), some (13, false), []⟩, ⟨some 15, .bin .eql 2 (t 14) (.const (.int .i64 7)), some (13, false), []⟩, q 16 (.pick (t 13) (.const (.bool true)) (t 15)), q 2 (.asg 0 (t 16) 4)] false) .ret))
def impl_isPrime_L : Live := [(0, [0]), (1, [0])]
noncomputable def impl_isPrime (a0 : Int) : Option Bool :=
  (if (a0 == 2) then (some true) else (if (a0 == 3) then (some true) else (if (a0 == 5) then (some true) else (some (a0 == 7)))))
theorem impl_isPrime_ok (a0 : Int) (r : Bool) (h : impl_isPrime a0 = some r) : Den Try.prog 106 [(i6 a0)] { r := (.bool r) } := by
  refine den_of (rs := [(.bool r)]) (ac := impl_isPrime_c) (L := impl_isPrime_L) (n := 17) (m := []) (c := Try.f106.body.getD .skip) good Try.func106 (by kernel_rfl) (by kernel_rfl) Try.ntmps106 rfl rfl (by kernel_rfl) rfl rfl ?_
  refine a_st (σ' := ⟨[(0, (i6 a0))], []⟩) (by kernel_rfl) ?_
  unfold impl_isPrime_c
  refine sr (vp (.bool false) rfl (nx ⟨[(0, (i6 a0))], []⟩ (by kernel_rfl) (sr (vp (i6 a0) rfl (vp (.bool (a0 == 2)) rfl (vp (.bool (a0 == 2)) rfl ?_))))))
  cases hb1 : (a0 == 2)
  · have h := ite_f hb1 h
    refine gp (i6 a0) rfl rfl (gp (.bool (a0 == 3)) rfl rfl (vp (.bool (a0 == 3)) rfl (vp (.bool (a0 == 3)) rfl ?_)))
    cases hb2 : (a0 == 3)
    · have h := ite_f hb2 h
      refine gp (i6 a0) rfl rfl (gp (.bool (a0 == 5)) rfl rfl (vp (.bool (a0 == 5)) rfl (vp (.bool (a0 == 5)) rfl ?_)))
      cases hb3 : (a0 == 5)
      · have h := ite_f hb3 h
        refine gp (i6 a0) rfl rfl (gp (.bool (a0 == 7)) rfl rfl (vp (.bool (a0 == 7)) rfl (vp (.bool (a0 == 7)) rfl (nx _ rfl (a_ret ?_)))))
        refine ⟨.inr rfl, ?_⟩
        rw [Try.results106]
        cases h
        exact ⟨_, _, _, _, _, rfl, trivial, .inl ⟨rfl, .inl rfl⟩, rfl, rfl⟩
      · have h := ite_t hb3 h
        refine a_gskip rfl (a_gskip rfl (vp (.bool true) rfl (vp (.bool true) rfl (nx _ rfl (a_ret ?_)))))
        refine ⟨.inr rfl, ?_⟩
        rw [Try.results106]
        cases h
        exact ⟨_, _, _, _, _, rfl, trivial, .inl ⟨rfl, .inl rfl⟩, rfl, rfl⟩
    · have h := ite_t hb2 h
      refine a_gskip rfl (a_gskip rfl (vp (.bool true) rfl (vp (.bool true) rfl (a_gskip rfl (a_gskip rfl (vp (.bool true) rfl (vp (.bool true) rfl (nx _ rfl (a_ret ?_)))))))))
      refine ⟨.inr rfl, ?_⟩
      rw [Try.results106]
      cases h
      exact ⟨_, _, _, _, _, rfl, trivial, .inl ⟨rfl, .inl rfl⟩, rfl, rfl⟩
  · have h := ite_t hb1 h
    refine a_gskip rfl (a_gskip rfl (vp (.bool true) rfl (vp (.bool true) rfl (a_gskip rfl (a_gskip rfl (vp (.bool true) rfl (vp (.bool true) rfl (a_gskip rfl (a_gskip rfl ?_)))))))))
    refine vp (.bool true) rfl (vp (.bool true) rfl (nx _ rfl (a_ret ?_)))
    refine ⟨.inr rfl, ?_⟩
    rw [Try.results106]
    cases h
    exact ⟨_, _, _, _, _, rfl, trivial, .inl ⟨rfl, .inl rfl⟩, rfl, rfl⟩
def impl_isPoly_c1_of_p_c : ACode := (.seq (.region 0 [q 3 (.asg 0 (.const (.bool false)) 4)] false) (.seq (.region 1 [q 4 (.mov (t 0)), q 5 (.conv 5 2 (t 4)), q 6 (.load 2 (t 1)), q 7 (.bin .lss 2 (t 5) (t 6)), q 3 (.asg 0 (t 7) 4)] false) .ret))
def impl_isPoly_c1_of_p_L : Live := [(0, [0, 1]), (1, [0, 1])]
noncomputable def impl_isPoly_c1_of_p (a0 : Int) (a1 : Int) : Option Bool :=
  (some ((decide ((IntKind.i64.wrap a0) < a1))))
theorem impl_isPoly_c1_of_p_ok (a0 : Int) (a1 : Int) (r : Bool) (h : impl_isPoly_c1_of_p a0 a1 = some r) : Den Try.prog 182 [(b8 a0), (.ref (i6 a1) [] [])] { r := (.bool r) } := by
  refine den_of (rs := [(.bool r)]) (ac := impl_isPoly_c1_of_p_c) (L := impl_isPoly_c1_of_p_L) (n := 8) (m := []) (c := Try.f182.body.getD .skip) good Try.func182 (by kernel_rfl) (by kernel_rfl) Try.ntmps182 rfl rfl (by kernel_rfl) rfl rfl ?_
  refine a_st (σ' := ⟨[(0, (b8 a0)), (1, (.ref (i6 a1) [] []))], []⟩) (by kernel_rfl) ?_
  unfold impl_isPoly_c1_of_p_c
  refine sr (vp (.bool false) rfl (nx ⟨[(0, (b8 a0)), (1, (.ref (i6 a1) [] []))], []⟩ (by kernel_rfl) (sr (vp (b8 a0) rfl (vp (i6 (IntKind.i64.wrap a0)) rfl ?_)))))
  have hl1 : LdOk [] (i6 a1) [] 1 false (i6 a1) := (.nil rfl rfl rfl)
  refine vq (i6 a1) (ld_ref (i := ⟨.int .i64, 1, 8, (.int .i64 0)⟩) rfl rfl hl1) hl1.c (vp (.bool ((decide ((IntKind.i64.wrap a0) < a1)))) rfl (vp (.bool ((decide ((IntKind.i64.wrap a0) < a1)))) rfl (nx _ rfl (a_ret ?_))))
  refine ⟨.inr rfl, ?_⟩
  rw [Try.results182]
  cases h
  exact ⟨_, _, _, _, _, rfl, trivial, .inl ⟨rfl, .inl rfl⟩, rfl, rfl⟩
def impl_areAll_byte__c1_of_p_c : ACode := (.seq (.region 0 [q 3 (.asg 0 (.const (.bool false)) 4)] false) (.seq (.region 1 [q 4 (.load 149 (t 1)), q 5 (.mov (t 0)), q 6 (.call 0 (t 4) [(t 5)]), q 7 (.un .not (t 6)), q 3 (.asg 0 (t 7) 4)] false) .ret))
def impl_areAll_byte__c1_of_p_L : Live := [(0, [0, 1]), (1, [0, 1])]
noncomputable def impl_areAll_byte__c1_of_p (a0 : Int) (a1c0 : Int) : Option Bool :=
  (Option.bind (impl_isPoly_c1_of_p a0 a1c0) fun r2 => (some (!r2)))
theorem impl_areAll_byte__c1_of_p_ok (a0 : Int) (a1c0 : Int) (r : Bool) (h : impl_areAll_byte__c1_of_p a0 a1c0 = some r) : Den Try.prog 203 [(b8 a0), (.ref (.clo 182 [] [(.ref (i6 a1c0) [] [])]) [] [])] { r := (.bool r) } := by
  refine den_of (rs := [(.bool r)]) (ac := impl_areAll_byte__c1_of_p_c) (L := impl_areAll_byte__c1_of_p_L) (n := 8) (m := []) (c := Try.f203.body.getD .skip) good Try.func203 (by kernel_rfl) (by kernel_rfl) Try.ntmps203 rfl rfl (by kernel_rfl) rfl rfl ?_
  refine a_st (σ' := ⟨[(0, (b8 a0)), (1, (.ref (.clo 182 [] [(.ref (i6 a1c0) [] [])]) [] []))], []⟩) (by kernel_rfl) ?_
  unfold impl_areAll_byte__c1_of_p_c
  refine sr (vp (.bool false) rfl (nx ⟨[(0, (b8 a0)), (1, (.ref (.clo 182 [] [(.ref (i6 a1c0) [] [])]) [] []))], []⟩ (by kernel_rfl) (sr ?_)))
  have hl1 : LdOk [] (.clo 182 [] [(.ref (i6 a1c0) [] [])]) [] 1 false (.clo 182 [] [(.ref (i6 a1c0) [] [])]) := (.nil rfl rfl rfl)
  refine vq (.clo 182 [] [(.ref (i6 a1c0) [] [])]) (ld_ref (i := ⟨.other, 1, 8, (.raw .nilFunc)⟩) rfl rfl hl1) hl1.c (vp (b8 a0) rfl ?_)
  obtain ⟨r2, hr3, h⟩ := bind_some h
  refine a_call (args := [(b8 a0), (.ref (i6 a1c0) [] [])]) (u := []) (r := (.bool r2)) rfl rfl (impl_isPoly_c1_of_p_ok a0 a1c0 r2 hr3) rfl (vp (.bool (!r2)) rfl (vp (.bool (!r2)) rfl (nx _ rfl (a_ret ?_))))
  refine ⟨.inr rfl, ?_⟩
  rw [Try.results203]
  cases h
  exact ⟨_, _, _, _, _, rfl, trivial, .inl ⟨rfl, .inl rfl⟩, rfl, rfl⟩
def slices_IndexFunc_byte_byte_of_impl_areAll_byte__c1_p_c : ACode := (.seq (.region 0 [q 4 (.asg 0 (.const (.int .i64 0)) 3)] false) (.seq (.seq (.region 1 [q 6 (.mov (t 0)), q 7 (.blt 0 .len [(t 6)] [22]), q 8 (.mov (.const (.int .i64 0)))] false) (.block 0 (.loop (.seq (.region 2 [q 9 (.bin .lss 3 (t 8) (t 7))] false) (.seq (.cond (t 9) .skip (.exit 0)) (.seq (.block 1 (.seq (.region 3 [q 10 (.mov (t 8)), q 5 (.asg 0 (t 10) 3)] false) (.seq (.region 4 [q 11 (.mov (t 1)), q 12 (.mov (t 0)), q 13 (.mov (t 5)), q 14 (.indexAddr 22 (t 12) (t 13)), q 15 (.load 5 (t 14)), q 16 (.call 0 (t 11) [(t 15)])] false) (.cond (t 16) (.seq (.region 5 [q 17 (.mov (t 5)), q 4 (.asg 0 (t 17) 3)] false) .ret) .skip)))) (.region 6 [q 18 (.bin .add 3 (t 8) (.const (.int .i64 1))), q 8 (.mov (t 18))] false))))))) (.seq (.region 7 [q 4 (.asg 0 (.const (.int .i64 (-1))) 3)] false) .ret)))
def slices_IndexFunc_byte_byte_of_impl_areAll_byte__c1_p_L : Live := [(0, [0, 1]), (1, [0, 1]), (2, [0, 1, 7, 8]), (3, [0, 1, 7, 8]), (4, [0, 1, 5, 7, 8]), (5, [5]), (6, [0, 1, 7, 8]), (7, []), (100009, [0, 1, 7, 8, 9]), (100016, [0, 1, 5, 7, 8, 16])]
noncomputable def slices_IndexFunc_byte_byte_of_impl_areAll_byte__c1_p_l1 (a0 : (List Int)) (a1c0c0 : Int) (x33 : Int) : Option (Int ⊕ (Unit ⊕ Int)) :=
  (if (decide (x33 < (a0.length : Int))) then (ifp (0 ≤ x33 ∧ x33 < ((a0.length : Nat) : Int)) ((Option.bind (impl_areAll_byte__c1_of_p (rd a0 x33.toNat) a1c0c0) fun r46 => (if r46 then (some (.inr (.inr x33))) else (some (.inl (IntKind.i64.wrap (x33 + 1)))))))) else (some (.inr (((.inl ()))))))
noncomputable def slices_IndexFunc_byte_byte_of_impl_areAll_byte__c1_p (a0 : (List Int)) (a1c0c0 : Int) : Option Int :=
  (Option.bind (α := (Unit ⊕ Int)) ((loopM (fun s : Int => slices_IndexFunc_byte_byte_of_impl_areAll_byte__c1_p_l1 a0 a1c0c0 s) 0)) fun z => match z with | .inl _ => (some (-1)) | .inr r50 => (some r50))
theorem slices_IndexFunc_byte_byte_of_impl_areAll_byte__c1_p_ok (a0 : (List Int)) (a1c0c0 : Int) (r : Int) (h : slices_IndexFunc_byte_byte_of_impl_areAll_byte__c1_p a0 a1c0c0 = some r) : Den Try.prog 209 [(eSu8 a0), (.clo 203 [] [(.ref (.clo 182 [] [(.ref (i6 a1c0c0) [] [])]) [] [])])] { r := (i6 r) } := by
  refine den_of (rs := [(i6 r)]) (ac := slices_IndexFunc_byte_byte_of_impl_areAll_byte__c1_p_c) (L := slices_IndexFunc_byte_byte_of_impl_areAll_byte__c1_p_L) (n := 19) (m := []) (c := Try.f209.body.getD .skip) good Try.func209 (by kernel_rfl) (by kernel_rfl) Try.ntmps209 rfl rfl (by kernel_rfl) rfl rfl ?_
  refine a_st (σ' := ⟨[(0, (eSu8 a0)), (1, (.clo 203 [] [(.ref (.clo 182 [] [(.ref (i6 a1c0c0) [] [])]) [] [])]))], []⟩) (by kernel_rfl) ?_
  unfold slices_IndexFunc_byte_byte_of_impl_areAll_byte__c1_p_c
  refine sr (vp (i6 0) rfl (nx ⟨[(0, (eSu8 a0)), (1, (.clo 203 [] [(.ref (.clo 182 [] [(.ref (i6 a1c0c0) [] [])]) [] [])]))], []⟩ (by kernel_rfl) ?_))
  obtain ⟨y24, hy25, hk26⟩ := bind_some h
  clear h
  refine a_join (emb := fun (s : Unit) => ⟨[], []⟩) (pre := fun s => (.inl s) = y24) ?_ ?_
  · rintro _ rfl
    have h := hk26
    refine a_st (σ' := ⟨[], []⟩) (by kernel_rfl) (sr (vp (i6 (-1)) rfl (nx _ rfl (a_ret ?_))))
    refine ⟨.inr rfl, ?_⟩
    rw [Try.results209]
    cases h
    exact ⟨_, _, _, _, _, rfl, trivial, .inl ⟨rfl, .inl rfl⟩, rfl, rfl⟩
  · have h := hy25
    refine sr (vp (eSu8 a0) rfl (vq (i6 (a0.length : Int)) (len_run rfl rfl) trivial (vp (i6 0) rfl (nx ⟨[(0, (eSu8 a0)), (1, (.clo 203 [] [(.ref (.clo 182 [] [(.ref (i6 a1c0c0) [] [])]) [] [])])), (7, (i6 (a0.length : Int))), (8, (i6 0))], []⟩ (by kernel_rfl) (a_block ?_)))))
    refine a_loop (emb := fun (s : Int) => ⟨[(0, (eSu8 a0)), (1, (.clo 203 [] [(.ref (.clo 182 [] [(.ref (i6 a1c0c0) [] [])]) [] [])])), (7, (i6 (a0.length : Int))), (8, (i6 s))], []⟩) (body := (fun s : Int => slices_IndexFunc_byte_byte_of_impl_areAll_byte__c1_p_l1 a0 a1c0c0 s)) (G := fun q => some q = some y24) h rfl ?_ (by kernel_rfl)
    rintro X40 x33 x41 h hX42
    have h : slices_IndexFunc_byte_byte_of_impl_areAll_byte__c1_p_l1 a0 a1c0c0 x33 = some x41 := h
    refine a_st (σ' := ⟨[(0, (eSu8 a0)), (1, (.clo 203 [] [(.ref (.clo 182 [] [(.ref (i6 a1c0c0) [] [])]) [] [])])), (7, (i6 (a0.length : Int))), (8, (i6 x33))], []⟩) (by kernel_rfl) (sr (vp (.bool ((decide (x33 < (a0.length : Int))))) rfl (nx ⟨[(0, (eSu8 a0)), (1, (.clo 203 [] [(.ref (.clo 182 [] [(.ref (i6 a1c0c0) [] [])]) [] [])])), (7, (i6 (a0.length : Int))), (8, (i6 x33)), (9, (.bool ((decide (x33 < (a0.length : Int))))))], []⟩ (by kernel_rfl) (a_seq ?_))))
    cases hb43 : (decide (x33 < (a0.length : Int)))
    · have h := ite_f hb43 h
      refine a_cond_f rfl (a_exit (t_exit ?_))
      cases h
      have h := hX42
      refine t_exit (b_exit ?_)
      exact j_leaf () (Option.some.inj h) (by kernel_rfl)
    · have h := ite_t hb43 h
      refine a_cond_t rfl (a_skip (a_next (σ' := ⟨[(0, (eSu8 a0)), (1, (.clo 203 [] [(.ref (.clo 182 [] [(.ref (i6 a1c0c0) [] [])]) [] [])])), (7, (i6 (a0.length : Int))), (8, (i6 x33))], []⟩) (by kernel_rfl) (a_seq (a_block (sr (vp (i6 x33) rfl (vp (i6 x33) rfl (nx ⟨[(0, (eSu8 a0)), (1, (.clo 203 [] [(.ref (.clo 182 [] [(.ref (i6 a1c0c0) [] [])]) [] [])])), (5, (i6 x33)), (7, (i6 (a0.length : Int))), (8, (i6 x33))], []⟩ (by kernel_rfl) (sr ?_)))))))))
      refine vp (.clo 203 [] [(.ref (.clo 182 [] [(.ref (i6 a1c0c0) [] [])]) [] [])]) rfl (vp (eSu8 a0) rfl (vp (i6 x33) rfl ?_))
      obtain ⟨hc44, h⟩ := ifp_some h
      refine vq (.ref (.row 1 (a0.map (AV.int .u8))) [x33.toNat] [x33.toNat * 1]) rfl (lmap hc44) ?_
      have hl45 : LdOk [x33.toNat] (.row 1 (a0.map (AV.int .u8))) [x33.toNat * 1] 1 false (b8 (rd a0 x33.toNat)) := (.row (llt hc44) rfl (.nil rfl rfl rfl))
      refine vq (b8 (rd a0 x33.toNat)) (ld_ref (i := ⟨.int .u8, 1, 1, (.int .u8 0)⟩) rfl rfl hl45) hl45.c ?_
      obtain ⟨r46, hr47, h⟩ := bind_some h
      refine a_call (args := [(b8 (rd a0 x33.toNat)), (.ref (.clo 182 [] [(.ref (i6 a1c0c0) [] [])]) [] [])]) (u := []) (r := (.bool r46)) rfl rfl (impl_areAll_byte__c1_of_p_ok (rd a0 x33.toNat) a1c0c0 r46 hr47) rfl (nx ⟨[(0, (eSu8 a0)), (1, (.clo 203 [] [(.ref (.clo 182 [] [(.ref (i6 a1c0c0) [] [])]) [] [])])), (5, (i6 x33)), (7, (i6 (a0.length : Int))), (8, (i6 x33)), (16, (.bool r46))], []⟩ (by kernel_rfl) ?_)
      cases hb48 : r46
      · have h := ite_f hb48 h
        refine a_cond_f rfl (a_skip (b_norm (a_next (σ' := ⟨[(0, (eSu8 a0)), (1, (.clo 203 [] [(.ref (.clo 182 [] [(.ref (i6 a1c0c0) [] [])]) [] [])])), (7, (i6 (a0.length : Int))), (8, (i6 x33))], []⟩) (by kernel_rfl) (a_region (vp (i6 (IntKind.i64.wrap (x33 + 1))) rfl (vp (i6 (IntKind.i64.wrap (x33 + 1))) rfl (a_nil ?_)))))))
        cases h
        exact a_again (by kernel_rfl) hX42
      · have h := ite_t hb48 h
        refine a_cond_t rfl (sr (vp (i6 x33) rfl (vp (i6 x33) rfl (nx _ rfl (a_ret (b_ret (t_ret ?_)))))))
        cases h
        have h := hX42
        refine t_ret (b_ret (t_ret ?_))
        cases h
        have h := hk26
        refine ⟨.inr rfl, ?_⟩
        rw [Try.results209]
        cases h
        exact ⟨_, _, _, _, _, rfl, trivial, .inl ⟨rfl, .inl rfl⟩, rfl, rfl⟩
def slices_ContainsFunc_byte_byte_of_impl_areAll_byte__c1_p_c : ACode := (.seq (.region 0 [q 4 (.asg 0 (.const (.bool false)) 4)] false) (.seq (.region 1 [q 5 (.mov (t 0)), q 6 (.mov (t 1)), q 7 (.call 0 (.func 209) [(t 5), (t 6)]), q 8 (.bin .geq 3 (t 7) (.const (.int .i64 0))), q 4 (.asg 0 (t 8) 4)] false) .ret))
def slices_ContainsFunc_byte_byte_of_impl_areAll_byte__c1_p_L : Live := [(0, [0, 1]), (1, [0, 1])]
noncomputable def slices_ContainsFunc_byte_byte_of_impl_areAll_byte__c1_p (a0 : (List Int)) (a1c0c0 : Int) : Option Bool :=
  (Option.bind (slices_IndexFunc_byte_byte_of_impl_areAll_byte__c1_p a0 a1c0c0) fun r1 => (some ((decide (r1 ≥ 0)))))
theorem slices_ContainsFunc_byte_byte_of_impl_areAll_byte__c1_p_ok (a0 : (List Int)) (a1c0c0 : Int) (r : Bool) (h : slices_ContainsFunc_byte_byte_of_impl_areAll_byte__c1_p a0 a1c0c0 = some r) : Den Try.prog 202 [(eSu8 a0), (.clo 203 [] [(.ref (.clo 182 [] [(.ref (i6 a1c0c0) [] [])]) [] [])])] { r := (.bool r) } := by
  refine den_of (rs := [(.bool r)]) (ac := slices_ContainsFunc_byte_byte_of_impl_areAll_byte__c1_p_c) (L := slices_ContainsFunc_byte_byte_of_impl_areAll_byte__c1_p_L) (n := 9) (m := []) (c := Try.f202.body.getD .skip) good Try.func202 (by kernel_rfl) (by kernel_rfl) Try.ntmps202 rfl rfl (by kernel_rfl) rfl rfl ?_
  refine a_st (σ' := ⟨[(0, (eSu8 a0)), (1, (.clo 203 [] [(.ref (.clo 182 [] [(.ref (i6 a1c0c0) [] [])]) [] [])]))], []⟩) (by kernel_rfl) ?_
  unfold slices_ContainsFunc_byte_byte_of_impl_areAll_byte__c1_p_c
  refine sr (vp (.bool false) rfl (nx ⟨[(0, (eSu8 a0)), (1, (.clo 203 [] [(.ref (.clo 182 [] [(.ref (i6 a1c0c0) [] [])]) [] [])]))], []⟩ (by kernel_rfl) (sr (vp (eSu8 a0) rfl (vp (.clo 203 [] [(.ref (.clo 182 [] [(.ref (i6 a1c0c0) [] [])]) [] [])]) rfl ?_)))))
  obtain ⟨r1, hr2, h⟩ := bind_some h
  refine a_call (args := [(eSu8 a0), (.clo 203 [] [(.ref (.clo 182 [] [(.ref (i6 a1c0c0) [] [])]) [] [])])]) (u := []) (r := (i6 r1)) rfl rfl (slices_IndexFunc_byte_byte_of_impl_areAll_byte__c1_p_ok a0 a1c0c0 r1 hr2) rfl (vp (.bool ((decide (r1 ≥ 0)))) rfl (vp (.bool ((decide (r1 ≥ 0)))) rfl (nx _ rfl (a_ret ?_))))
  refine ⟨.inr rfl, ?_⟩
  rw [Try.results202]
  cases h
  exact ⟨_, _, _, _, _, rfl, trivial, .inl ⟨rfl, .inl rfl⟩, rfl, rfl⟩
def impl_areAll_byte_of_impl_isPoly_c1_p_c : ACode := (.seq (.region 0 [q 3 (.box 149 (t 1)), q 4 (.asg 0 (.const (.bool false)) 4)] false) (.seq (.region 1 [q 5 (.mov (t 0)), q 6 (.mkfn 203 [] [(t 3)]), q 7 (.call 0 (.func 202) [(t 5), (t 6)]), q 8 (.un .not (t 7)), q 4 (.asg 0 (t 8) 4)] false) .ret))
def impl_areAll_byte_of_impl_isPoly_c1_p_L : Live := [(0, [0, 1]), (1, [0, 3])]
noncomputable def impl_areAll_byte_of_impl_isPoly_c1_p (a0 : (List Int)) (a1c0 : Int) : Option Bool :=
  (Option.bind (slices_ContainsFunc_byte_byte_of_impl_areAll_byte__c1_p a0 a1c0) fun r1 => (some (!r1)))
theorem impl_areAll_byte_of_impl_isPoly_c1_p_ok (a0 : (List Int)) (a1c0 : Int) (r : Bool) (h : impl_areAll_byte_of_impl_isPoly_c1_p a0 a1c0 = some r) : Den Try.prog 181 [(eSu8 a0), (.clo 182 [] [(.ref (i6 a1c0) [] [])])] { r := (.bool r) } := by
  refine den_of (rs := [(.bool r)]) (ac := impl_areAll_byte_of_impl_isPoly_c1_p_c) (L := impl_areAll_byte_of_impl_isPoly_c1_p_L) (n := 9) (m := []) (c := Try.f181.body.getD .skip) good Try.func181 (by kernel_rfl) (by kernel_rfl) Try.ntmps181 rfl rfl (by kernel_rfl) rfl rfl ?_
  refine a_st (σ' := ⟨[(0, (eSu8 a0)), (1, (.clo 182 [] [(.ref (i6 a1c0) [] [])]))], []⟩) (by kernel_rfl) ?_
  unfold impl_areAll_byte_of_impl_isPoly_c1_p_c
  refine sr (vo 1300 (.clo 182 [] [(.ref (i6 a1c0) [] [])]) rfl rfl (vp (.bool false) rfl (nx ⟨[(0, (eSu8 a0)), (3, (ow 3))], [(3, (bk (.clo 182 [] [(.ref (i6 a1c0) [] [])])))]⟩ (by kernel_rfl) (sr (vp (eSu8 a0) rfl (vu (.clo 203 [] [(.ref (.clo 182 [] [(.ref (i6 a1c0) [] [])]) [] [])]) [(3, (bf (.clo 182 [] [(.ref (i6 a1c0) [] [])])))] rfl trivial rfl ?_))))))
  obtain ⟨r1, hr2, h⟩ := bind_some h
  refine a_call (args := [(eSu8 a0), (.clo 203 [] [(.ref (.clo 182 [] [(.ref (i6 a1c0) [] [])]) [] [])])]) (u := []) (r := (.bool r1)) rfl rfl (slices_ContainsFunc_byte_byte_of_impl_areAll_byte__c1_p_ok a0 a1c0 r1 hr2) rfl (vp (.bool (!r1)) rfl (vp (.bool (!r1)) rfl (nx _ rfl (a_ret ?_))))
  refine ⟨.inr rfl, ?_⟩
  rw [Try.results181]
  cases h
  exact ⟨_, _, _, _, _, rfl, trivial, .inl ⟨rfl, .inl rfl⟩, rfl, rfl⟩
def impl_isPoly_c : ACode := (.seq (.region 0 [q 2 (.box 2 (t 0)), q 3 (.box 25 (t 1)), q 4 (.asg 0 (.const (.bool false)) 4)] false) (.seq (.region 1 [q 5 (.slice 25 (t 3) none none none), q 6 (.mkfn 182 [] [(t 2)]), q 7 (.call 0 (.func 181) [(t 5), (t 6)]), q 4 (.asg 0 (t 7) 4)] false) .ret))
def impl_isPoly_L : Live := [(0, [0, 1]), (1, [2, 3])]
noncomputable def impl_isPoly (a0 : Int) (a1 : (Vec Int 64)) : Option Bool :=
  (Option.bind (impl_areAll_byte_of_impl_isPoly_c1_p a1.1 a0) fun r1 => (some r1))
theorem impl_isPoly_ok (a0 : Int) (a1 : (Vec Int 64)) (r : Bool) (h : impl_isPoly a0 a1 = some r) : Den Try.prog 107 [(i6 a0), (eA64u8 a1)] { r := (.bool r) } := by
  refine den_of (rs := [(.bool r)]) (ac := impl_isPoly_c) (L := impl_isPoly_L) (n := 8) (m := []) (c := Try.f107.body.getD .skip) good Try.func107 (by kernel_rfl) (by kernel_rfl) Try.ntmps107 rfl rfl (by kernel_rfl) rfl rfl ?_
  refine a_st (σ' := ⟨[(0, (i6 a0)), (1, (eA64u8 a1))], []⟩) (by kernel_rfl) ?_
  unfold impl_isPoly_c
  refine sr (vo 1200 (i6 a0) rfl rfl (vo 1300 (eA64u8 a1) rfl rfl (vp (.bool false) rfl (nx ⟨[(2, (ow 2)), (3, (ow 3))], [(2, (bk (i6 a0))), (3, (bk (eA64u8 a1)))]⟩ (by kernel_rfl) (sr (vu (.sl 1 true (a1.1.map (AV.int .u8))) [(3, (bf (eA64u8 a1)))] rfl ⟨rfl, trivial, rfl, rfl⟩ rfl (vu (.clo 182 [] [(.ref (i6 a0) [] [])]) [(2, (bf (i6 a0)))] rfl trivial rfl ?_)))))))
  obtain ⟨r1, hr2, h⟩ := bind_some h
  refine a_call (args := [(.sl 1 true (a1.1.map (AV.int .u8))), (.clo 182 [] [(.ref (i6 a0) [] [])])]) (u := []) (r := (.bool r1)) rfl rfl (Den.args (impl_areAll_byte_of_impl_isPoly_c1_p_ok a1.1 a0 r1 hr2) rfl rfl (.cons (.loose _) (.cons (.refl _) .nil))) rfl (vp (.bool r1) rfl (nx _ rfl (a_ret ?_)))
  refine ⟨.inr rfl, ?_⟩
  rw [Try.results107]
  cases h
  exact ⟨_, _, _, _, _, rfl, trivial, .inl ⟨rfl, .inl rfl⟩, rfl, rfl⟩
def impl_polysCode_c1_of_p_c : ACode := (.seq (.region 0 [q 2 (.box 25 (t 0)), q 3 (.asg 0 (.const (.bool false)) 4)] false) (.seq (.region 1 [q 4 (.load 2 (t 1)), q 5 (.load 25 (t 2)), q 6 (.call 0 (.func 107) [(t 4), (t 5)]), q 3 (.asg 0 (t 6) 4)] false) .ret))
def impl_polysCode_c1_of_p_L : Live := [(0, [0, 1]), (1, [1, 2])]
noncomputable def impl_polysCode_c1_of_p (a0 : (Vec Int 64)) (a1 : Int) : Option Bool :=
  (Option.bind (impl_isPoly a1 a0) fun r3 => (some r3))
theorem impl_polysCode_c1_of_p_ok (a0 : (Vec Int 64)) (a1 : Int) (r : Bool) (h : impl_polysCode_c1_of_p a0 a1 = some r) : Den Try.prog 179 [(eA64u8 a0), (.ref (i6 a1) [] [])] { r := (.bool r) } := by
  refine den_of (rs := [(.bool r)]) (ac := impl_polysCode_c1_of_p_c) (L := impl_polysCode_c1_of_p_L) (n := 7) (m := []) (c := Try.f179.body.getD .skip) good Try.func179 (by kernel_rfl) (by kernel_rfl) Try.ntmps179 rfl rfl (by kernel_rfl) rfl rfl ?_
  refine a_st (σ' := ⟨[(0, (eA64u8 a0)), (1, (.ref (i6 a1) [] []))], []⟩) (by kernel_rfl) ?_
  unfold impl_polysCode_c1_of_p_c
  refine sr (vo 1200 (eA64u8 a0) rfl rfl (vp (.bool false) rfl (nx ⟨[(1, (.ref (i6 a1) [] [])), (2, (ow 2))], [(2, (bk (eA64u8 a0)))]⟩ (by kernel_rfl) (sr ?_))))
  have hl1 : LdOk [] (i6 a1) [] 1 false (i6 a1) := (.nil rfl rfl rfl)
  refine vq (i6 a1) (ld_ref (i := ⟨.int .i64, 1, 8, (.int .i64 0)⟩) rfl rfl hl1) hl1.c (vl (eA64u8 a0) rfl rfl rfl rfl rfl rfl ?_)
  obtain ⟨r3, hr4, h⟩ := bind_some h
  refine a_call (args := [(i6 a1), (eA64u8 a0)]) (u := []) (r := (.bool r3)) rfl rfl (impl_isPoly_ok a1 a0 r3 hr4) rfl (vp (.bool r3) rfl (nx _ rfl (a_ret ?_)))
  refine ⟨.inr rfl, ?_⟩
  rw [Try.results179]
  cases h
  exact ⟨_, _, _, _, _, rfl, trivial, .inl ⟨rfl, .inl rfl⟩, rfl, rfl⟩
def impl_areAll_impl_Poly__c1_of_p_c : ACode := (.seq (.region 0 [q 2 (.box 25 (t 0)), q 3 (.asg 0 (.const (.bool false)) 4)] false) (.seq (.region 1 [q 4 (.load 147 (t 1)), q 5 (.load 25 (t 2)), q 6 (.call 0 (t 4) [(t 5)]), q 7 (.un .not (t 6)), q 3 (.asg 0 (t 7) 4)] false) .ret))
def impl_areAll_impl_Poly__c1_of_p_L : Live := [(0, [0, 1]), (1, [1, 2])]
noncomputable def impl_areAll_impl_Poly__c1_of_p (a0 : (Vec Int 64)) (a1c0 : Int) : Option Bool :=
  (Option.bind (impl_polysCode_c1_of_p a0 a1c0) fun r3 => (some (!r3)))
theorem impl_areAll_impl_Poly__c1_of_p_ok (a0 : (Vec Int 64)) (a1c0 : Int) (r : Bool) (h : impl_areAll_impl_Poly__c1_of_p a0 a1c0 = some r) : Den Try.prog 201 [(eA64u8 a0), (.ref (.clo 179 [] [(.ref (i6 a1c0) [] [])]) [] [])] { r := (.bool r) } := by
  refine den_of (rs := [(.bool r)]) (ac := impl_areAll_impl_Poly__c1_of_p_c) (L := impl_areAll_impl_Poly__c1_of_p_L) (n := 8) (m := []) (c := Try.f201.body.getD .skip) good Try.func201 (by kernel_rfl) (by kernel_rfl) Try.ntmps201 rfl rfl (by kernel_rfl) rfl rfl ?_
  refine a_st (σ' := ⟨[(0, (eA64u8 a0)), (1, (.ref (.clo 179 [] [(.ref (i6 a1c0) [] [])]) [] []))], []⟩) (by kernel_rfl) ?_
  unfold impl_areAll_impl_Poly__c1_of_p_c
  refine sr (vo 1200 (eA64u8 a0) rfl rfl (vp (.bool false) rfl (nx ⟨[(1, (.ref (.clo 179 [] [(.ref (i6 a1c0) [] [])]) [] [])), (2, (ow 2))], [(2, (bk (eA64u8 a0)))]⟩ (by kernel_rfl) (sr ?_))))
  have hl1 : LdOk [] (.clo 179 [] [(.ref (i6 a1c0) [] [])]) [] 1 false (.clo 179 [] [(.ref (i6 a1c0) [] [])]) := (.nil rfl rfl rfl)
  refine vq (.clo 179 [] [(.ref (i6 a1c0) [] [])]) (ld_ref (i := ⟨.other, 1, 8, (.raw .nilFunc)⟩) rfl rfl hl1) hl1.c (vl (eA64u8 a0) rfl rfl rfl rfl rfl rfl ?_)
  obtain ⟨r3, hr4, h⟩ := bind_some h
  refine a_call (args := [(eA64u8 a0), (.ref (i6 a1c0) [] [])]) (u := []) (r := (.bool r3)) rfl rfl (impl_polysCode_c1_of_p_ok a0 a1c0 r3 hr4) rfl (vp (.bool (!r3)) rfl (vp (.bool (!r3)) rfl (nx _ rfl (a_ret ?_))))
  refine ⟨.inr rfl, ?_⟩
  rw [Try.results201]
  cases h
  exact ⟨_, _, _, _, _, rfl, trivial, .inl ⟨rfl, .inl rfl⟩, rfl, rfl⟩
def slices_IndexFunc_impl_Poly_impl_Poly_of_impl_areAll_impl_Poly__c1_p_c : ACode := (.seq (.region 0 [q 4 (.asg 0 (.const (.int .i64 0)) 3)] false) (.seq (.seq (.region 1 [q 6 (.mov (t 0)), q 7 (.blt 0 .len [(t 6)] [55]), q 8 (.mov (.const (.int .i64 0)))] false) (.block 0 (.loop (.seq (.region 2 [q 9 (.bin .lss 3 (t 8) (t 7))] false) (.seq (.cond (t 9) .skip (.exit 0)) (.seq (.block 1 (.seq (.region 3 [q 10 (.mov (t 8)), q 5 (.asg 0 (t 10) 3)] false) (.seq (.region 4 [q 11 (.mov (t 1)), q 12 (.mov (t 0)), q 13 (.mov (t 5)), q 14 (.indexAddr 55 (t 12) (t 13)), q 15 (.load 25 (t 14)), q 16 (.call 0 (t 11) [(t 15)])] false) (.cond (t 16) (.seq (.region 5 [q 17 (.mov (t 5)), q 4 (.asg 0 (t 17) 3)] false) .ret) .skip)))) (.region 6 [q 18 (.bin .add 3 (t 8) (.const (.int .i64 1))), q 8 (.mov (t 18))] false))))))) (.seq (.region 7 [q 4 (.asg 0 (.const (.int .i64 (-1))) 3)] false) .ret)))
def slices_IndexFunc_impl_Poly_impl_Poly_of_impl_areAll_impl_Poly__c1_p_L : Live := [(0, [0, 1]), (1, [0, 1]), (2, [0, 1, 7, 8]), (3, [0, 1, 7, 8]), (4, [0, 1, 5, 7, 8]), (5, [5]), (6, [0, 1, 7, 8]), (7, []), (100009, [0, 1, 7, 8, 9]), (100016, [0, 1, 5, 7, 8, 16])]
noncomputable def slices_IndexFunc_impl_Poly_impl_Poly_of_impl_areAll_impl_Poly__c1_p_l1 (a0 : (List (Vec Int 64))) (a1c0c0 : Int) (x33 : Int) : Option (Int ⊕ (Unit ⊕ Int)) :=
  (if (decide (x33 < (a0.length : Int))) then (ifp (0 ≤ x33 ∧ x33 < ((a0.length : Nat) : Int)) ((Option.bind (impl_areAll_impl_Poly__c1_of_p (rd a0 x33.toNat) a1c0c0) fun r46 => (if r46 then (some (.inr (.inr x33))) else (some (.inl (IntKind.i64.wrap (x33 + 1)))))))) else (some (.inr (((.inl ()))))))
noncomputable def slices_IndexFunc_impl_Poly_impl_Poly_of_impl_areAll_impl_Poly__c1_p (a0 : (List (Vec Int 64))) (a1c0c0 : Int) : Option Int :=
  (Option.bind (α := (Unit ⊕ Int)) ((loopM (fun s : Int => slices_IndexFunc_impl_Poly_impl_Poly_of_impl_areAll_impl_Poly__c1_p_l1 a0 a1c0c0 s) 0)) fun z => match z with | .inl _ => (some (-1)) | .inr r50 => (some r50))
theorem slices_IndexFunc_impl_Poly_impl_Poly_of_impl_areAll_impl_Poly__c1_p_ok (a0 : (List (Vec Int 64))) (a1c0c0 : Int) (r : Int) (h : slices_IndexFunc_impl_Poly_impl_Poly_of_impl_areAll_impl_Poly__c1_p a0 a1c0c0 = some r) : Den Try.prog 208 [(eSA64u8 a0), (.clo 201 [] [(.ref (.clo 179 [] [(.ref (i6 a1c0c0) [] [])]) [] [])])] { r := (i6 r) } := by
  refine den_of (rs := [(i6 r)]) (ac := slices_IndexFunc_impl_Poly_impl_Poly_of_impl_areAll_impl_Poly__c1_p_c) (L := slices_IndexFunc_impl_Poly_impl_Poly_of_impl_areAll_impl_Poly__c1_p_L) (n := 19) (m := []) (c := Try.f208.body.getD .skip) good Try.func208 (by kernel_rfl) (by kernel_rfl) Try.ntmps208 rfl rfl (by kernel_rfl) rfl rfl ?_
  refine a_st (σ' := ⟨[(0, (eSA64u8 a0)), (1, (.clo 201 [] [(.ref (.clo 179 [] [(.ref (i6 a1c0c0) [] [])]) [] [])]))], []⟩) (by kernel_rfl) ?_
  unfold slices_IndexFunc_impl_Poly_impl_Poly_of_impl_areAll_impl_Poly__c1_p_c
  refine sr (vp (i6 0) rfl (nx ⟨[(0, (eSA64u8 a0)), (1, (.clo 201 [] [(.ref (.clo 179 [] [(.ref (i6 a1c0c0) [] [])]) [] [])]))], []⟩ (by kernel_rfl) ?_))
  obtain ⟨y24, hy25, hk26⟩ := bind_some h
  clear h
  refine a_join (emb := fun (s : Unit) => ⟨[], []⟩) (pre := fun s => (.inl s) = y24) ?_ ?_
  · rintro _ rfl
    have h := hk26
    refine a_st (σ' := ⟨[], []⟩) (by kernel_rfl) (sr (vp (i6 (-1)) rfl (nx _ rfl (a_ret ?_))))
    refine ⟨.inr rfl, ?_⟩
    rw [Try.results208]
    cases h
    exact ⟨_, _, _, _, _, rfl, trivial, .inl ⟨rfl, .inl rfl⟩, rfl, rfl⟩
  · have h := hy25
    refine sr (vp (eSA64u8 a0) rfl (vq (i6 (a0.length : Int)) (len_run rfl rfl) trivial (vp (i6 0) rfl (nx ⟨[(0, (eSA64u8 a0)), (1, (.clo 201 [] [(.ref (.clo 179 [] [(.ref (i6 a1c0c0) [] [])]) [] [])])), (7, (i6 (a0.length : Int))), (8, (i6 0))], []⟩ (by kernel_rfl) (a_block ?_)))))
    refine a_loop (emb := fun (s : Int) => ⟨[(0, (eSA64u8 a0)), (1, (.clo 201 [] [(.ref (.clo 179 [] [(.ref (i6 a1c0c0) [] [])]) [] [])])), (7, (i6 (a0.length : Int))), (8, (i6 s))], []⟩) (body := (fun s : Int => slices_IndexFunc_impl_Poly_impl_Poly_of_impl_areAll_impl_Poly__c1_p_l1 a0 a1c0c0 s)) (G := fun q => some q = some y24) h rfl ?_ (by kernel_rfl)
    rintro X40 x33 x41 h hX42
    have h : slices_IndexFunc_impl_Poly_impl_Poly_of_impl_areAll_impl_Poly__c1_p_l1 a0 a1c0c0 x33 = some x41 := h
    refine a_st (σ' := ⟨[(0, (eSA64u8 a0)), (1, (.clo 201 [] [(.ref (.clo 179 [] [(.ref (i6 a1c0c0) [] [])]) [] [])])), (7, (i6 (a0.length : Int))), (8, (i6 x33))], []⟩) (by kernel_rfl) (sr (vp (.bool ((decide (x33 < (a0.length : Int))))) rfl (nx ⟨[(0, (eSA64u8 a0)), (1, (.clo 201 [] [(.ref (.clo 179 [] [(.ref (i6 a1c0c0) [] [])]) [] [])])), (7, (i6 (a0.length : Int))), (8, (i6 x33)), (9, (.bool ((decide (x33 < (a0.length : Int))))))], []⟩ (by kernel_rfl) (a_seq ?_))))
    cases hb43 : (decide (x33 < (a0.length : Int)))
    · have h := ite_f hb43 h
      refine a_cond_f rfl (a_exit (t_exit ?_))
      cases h
      have h := hX42
      refine t_exit (b_exit ?_)
      exact j_leaf () (Option.some.inj h) (by kernel_rfl)
    · have h := ite_t hb43 h
      refine a_cond_t rfl (a_skip (a_next (σ' := ⟨[(0, (eSA64u8 a0)), (1, (.clo 201 [] [(.ref (.clo 179 [] [(.ref (i6 a1c0c0) [] [])]) [] [])])), (7, (i6 (a0.length : Int))), (8, (i6 x33))], []⟩) (by kernel_rfl) (a_seq (a_block (sr (vp (i6 x33) rfl (vp (i6 x33) rfl (nx ⟨[(0, (eSA64u8 a0)), (1, (.clo 201 [] [(.ref (.clo 179 [] [(.ref (i6 a1c0c0) [] [])]) [] [])])), (5, (i6 x33)), (7, (i6 (a0.length : Int))), (8, (i6 x33))], []⟩ (by kernel_rfl) (sr ?_)))))))))
      refine vp (.clo 201 [] [(.ref (.clo 179 [] [(.ref (i6 a1c0c0) [] [])]) [] [])]) rfl (vp (eSA64u8 a0) rfl (vp (i6 x33) rfl ?_))
      obtain ⟨hc44, h⟩ := ifp_some h
      refine vq (.ref (.row 64 (a0.map eA64u8)) [x33.toNat] [x33.toNat * 64]) rfl (lmap hc44) ?_
      have hl45 : LdOk [x33.toNat] (.row 64 (a0.map eA64u8)) [x33.toNat * 64] 64 true (eA64u8 (rd a0 x33.toNat)) := (.row (llt hc44) rfl (.nil rfl rfl rfl))
      refine vq (eA64u8 (rd a0 x33.toNat)) (ld_ref (i := ⟨.arr 64 5, 64, 64, (eA64u8 (vrep 64 (0 : Int)))⟩) rfl rfl hl45) hl45.c ?_
      obtain ⟨r46, hr47, h⟩ := bind_some h
      refine a_call (args := [(eA64u8 (rd a0 x33.toNat)), (.ref (.clo 179 [] [(.ref (i6 a1c0c0) [] [])]) [] [])]) (u := []) (r := (.bool r46)) rfl rfl (impl_areAll_impl_Poly__c1_of_p_ok (rd a0 x33.toNat) a1c0c0 r46 hr47) rfl (nx ⟨[(0, (eSA64u8 a0)), (1, (.clo 201 [] [(.ref (.clo 179 [] [(.ref (i6 a1c0c0) [] [])]) [] [])])), (5, (i6 x33)), (7, (i6 (a0.length : Int))), (8, (i6 x33)), (16, (.bool r46))], []⟩ (by kernel_rfl) ?_)
      cases hb48 : r46
      · have h := ite_f hb48 h
        refine a_cond_f rfl (a_skip (b_norm (a_next (σ' := ⟨[(0, (eSA64u8 a0)), (1, (.clo 201 [] [(.ref (.clo 179 [] [(.ref (i6 a1c0c0) [] [])]) [] [])])), (7, (i6 (a0.length : Int))), (8, (i6 x33))], []⟩) (by kernel_rfl) (a_region (vp (i6 (IntKind.i64.wrap (x33 + 1))) rfl (vp (i6 (IntKind.i64.wrap (x33 + 1))) rfl (a_nil ?_)))))))
        cases h
        exact a_again (by kernel_rfl) hX42
      · have h := ite_t hb48 h
        refine a_cond_t rfl (sr (vp (i6 x33) rfl (vp (i6 x33) rfl (nx _ rfl (a_ret (b_ret (t_ret ?_)))))))
        cases h
        have h := hX42
        refine t_ret (b_ret (t_ret ?_))
        cases h
        have h := hk26
        refine ⟨.inr rfl, ?_⟩
        rw [Try.results208]
        cases h
        exact ⟨_, _, _, _, _, rfl, trivial, .inl ⟨rfl, .inl rfl⟩, rfl, rfl⟩
def slices_ContainsFunc_impl_Poly_impl_Poly_of_impl_areAll_impl_Poly__c1_p_c : ACode := (.seq (.region 0 [q 4 (.asg 0 (.const (.bool false)) 4)] false) (.seq (.region 1 [q 5 (.mov (t 0)), q 6 (.mov (t 1)), q 7 (.call 0 (.func 208) [(t 5), (t 6)]), q 8 (.bin .geq 3 (t 7) (.const (.int .i64 0))), q 4 (.asg 0 (t 8) 4)] false) .ret))
def slices_ContainsFunc_impl_Poly_impl_Poly_of_impl_areAll_impl_Poly__c1_p_L : Live := [(0, [0, 1]), (1, [0, 1])]
noncomputable def slices_ContainsFunc_impl_Poly_impl_Poly_of_impl_areAll_impl_Poly__c1_p (a0 : (List (Vec Int 64))) (a1c0c0 : Int) : Option Bool :=
  (Option.bind (slices_IndexFunc_impl_Poly_impl_Poly_of_impl_areAll_impl_Poly__c1_p a0 a1c0c0) fun r1 => (some ((decide (r1 ≥ 0)))))
theorem slices_ContainsFunc_impl_Poly_impl_Poly_of_impl_areAll_impl_Poly__c1_p_ok (a0 : (List (Vec Int 64))) (a1c0c0 : Int) (r : Bool) (h : slices_ContainsFunc_impl_Poly_impl_Poly_of_impl_areAll_impl_Poly__c1_p a0 a1c0c0 = some r) : Den Try.prog 200 [(eSA64u8 a0), (.clo 201 [] [(.ref (.clo 179 [] [(.ref (i6 a1c0c0) [] [])]) [] [])])] { r := (.bool r) } := by
  refine den_of (rs := [(.bool r)]) (ac := slices_ContainsFunc_impl_Poly_impl_Poly_of_impl_areAll_impl_Poly__c1_p_c) (L := slices_ContainsFunc_impl_Poly_impl_Poly_of_impl_areAll_impl_Poly__c1_p_L) (n := 9) (m := []) (c := Try.f200.body.getD .skip) good Try.func200 (by kernel_rfl) (by kernel_rfl) Try.ntmps200 rfl rfl (by kernel_rfl) rfl rfl ?_
  refine a_st (σ' := ⟨[(0, (eSA64u8 a0)), (1, (.clo 201 [] [(.ref (.clo 179 [] [(.ref (i6 a1c0c0) [] [])]) [] [])]))], []⟩) (by kernel_rfl) ?_
  unfold slices_ContainsFunc_impl_Poly_impl_Poly_of_impl_areAll_impl_Poly__c1_p_c
  refine sr (vp (.bool false) rfl (nx ⟨[(0, (eSA64u8 a0)), (1, (.clo 201 [] [(.ref (.clo 179 [] [(.ref (i6 a1c0c0) [] [])]) [] [])]))], []⟩ (by kernel_rfl) (sr (vp (eSA64u8 a0) rfl (vp (.clo 201 [] [(.ref (.clo 179 [] [(.ref (i6 a1c0c0) [] [])]) [] [])]) rfl ?_)))))
  obtain ⟨r1, hr2, h⟩ := bind_some h
  refine a_call (args := [(eSA64u8 a0), (.clo 201 [] [(.ref (.clo 179 [] [(.ref (i6 a1c0c0) [] [])]) [] [])])]) (u := []) (r := (i6 r1)) rfl rfl (slices_IndexFunc_impl_Poly_impl_Poly_of_impl_areAll_impl_Poly__c1_p_ok a0 a1c0c0 r1 hr2) rfl (vp (.bool ((decide (r1 ≥ 0)))) rfl (vp (.bool ((decide (r1 ≥ 0)))) rfl (nx _ rfl (a_ret ?_))))
  refine ⟨.inr rfl, ?_⟩
  rw [Try.results200]
  cases h
  exact ⟨_, _, _, _, _, rfl, trivial, .inl ⟨rfl, .inl rfl⟩, rfl, rfl⟩
def impl_areAll_impl_Poly_of_impl_polysCode_c1_p_c : ACode := (.seq (.region 0 [q 3 (.box 147 (t 1)), q 4 (.asg 0 (.const (.bool false)) 4)] false) (.seq (.region 1 [q 5 (.mov (t 0)), q 6 (.mkfn 201 [] [(t 3)]), q 7 (.call 0 (.func 200) [(t 5), (t 6)]), q 8 (.un .not (t 7)), q 4 (.asg 0 (t 8) 4)] false) .ret))
def impl_areAll_impl_Poly_of_impl_polysCode_c1_p_L : Live := [(0, [0, 1]), (1, [0, 3])]
noncomputable def impl_areAll_impl_Poly_of_impl_polysCode_c1_p (a0 : (List (Vec Int 64))) (a1c0 : Int) : Option Bool :=
  (Option.bind (slices_ContainsFunc_impl_Poly_impl_Poly_of_impl_areAll_impl_Poly__c1_p a0 a1c0) fun r1 => (some (!r1)))
theorem impl_areAll_impl_Poly_of_impl_polysCode_c1_p_ok (a0 : (List (Vec Int 64))) (a1c0 : Int) (r : Bool) (h : impl_areAll_impl_Poly_of_impl_polysCode_c1_p a0 a1c0 = some r) : Den Try.prog 178 [(eSA64u8 a0), (.clo 179 [] [(.ref (i6 a1c0) [] [])])] { r := (.bool r) } := by
  refine den_of (rs := [(.bool r)]) (ac := impl_areAll_impl_Poly_of_impl_polysCode_c1_p_c) (L := impl_areAll_impl_Poly_of_impl_polysCode_c1_p_L) (n := 9) (m := []) (c := Try.f178.body.getD .skip) good Try.func178 (by kernel_rfl) (by kernel_rfl) Try.ntmps178 rfl rfl (by kernel_rfl) rfl rfl ?_
  refine a_st (σ' := ⟨[(0, (eSA64u8 a0)), (1, (.clo 179 [] [(.ref (i6 a1c0) [] [])]))], []⟩) (by kernel_rfl) ?_
  unfold impl_areAll_impl_Poly_of_impl_polysCode_c1_p_c
  refine sr (vo 1300 (.clo 179 [] [(.ref (i6 a1c0) [] [])]) rfl rfl (vp (.bool false) rfl (nx ⟨[(0, (eSA64u8 a0)), (3, (ow 3))], [(3, (bk (.clo 179 [] [(.ref (i6 a1c0) [] [])])))]⟩ (by kernel_rfl) (sr (vp (eSA64u8 a0) rfl (vu (.clo 201 [] [(.ref (.clo 179 [] [(.ref (i6 a1c0) [] [])]) [] [])]) [(3, (bf (.clo 179 [] [(.ref (i6 a1c0) [] [])])))] rfl trivial rfl ?_))))))
  obtain ⟨r1, hr2, h⟩ := bind_some h
  refine a_call (args := [(eSA64u8 a0), (.clo 201 [] [(.ref (.clo 179 [] [(.ref (i6 a1c0) [] [])]) [] [])])]) (u := []) (r := (.bool r1)) rfl rfl (slices_ContainsFunc_impl_Poly_impl_Poly_of_impl_areAll_impl_Poly__c1_p_ok a0 a1c0 r1 hr2) rfl (vp (.bool (!r1)) rfl (vp (.bool (!r1)) rfl (nx _ rfl (a_ret ?_))))
  refine ⟨.inr rfl, ?_⟩
  rw [Try.results178]
  cases h
  exact ⟨_, _, _, _, _, rfl, trivial, .inl ⟨rfl, .inl rfl⟩, rfl, rfl⟩
def impl_polysCode_c : ACode := (.seq (.region 0 [q 2 (.box 2 (t 0)), q 4 (.asg 0 (.const (.int .i64 0)) 2)] false) (.seq (.seq (.region 1 [q 5 (.load 2 (t 2)), q 6 (.call 0 (.func 106) [(t 5)]), q 7 (.un .not (t 6)), q 8 (.mov (t 7)), ⟨some 9, .mov (t 1), some (8, false), []⟩, ⟨some 10, .mkfn 179 [] [(t 2)], some (8, false), []⟩, ⟨some 11, .call 0 (.func 178) [(t 9), (t 10)], some (8, false), []⟩, ⟨some 12, .un .not (t 11), some (8, false), []⟩, q 13 (.pick (t 8) (.const (.bool true)) (t 12))] false) (.cond (t 13) (.seq (.region 2 [q 4 (.asg 0 (.const (.int .i64 1)) 2)] false) .ret) .skip)) (.seq (.region 3 [q 4 (.asg 0 (.const (.int .i64 0)) 2)] false) .ret)))
def impl_polysCode_L : Live := [(0, [0, 1]), (1, [1, 2]), (2, []), (3, []), (100013, [13])]
noncomputable def impl_polysCode (a0 : Int) (a1 : (List (Vec Int 64))) : Option Int :=
  (Option.bind (α := Bool) ((Option.bind (impl_isPrime a0) fun r12 => (if (!r12) then (some true) else (Option.bind (impl_areAll_impl_Poly_of_impl_polysCode_c1_p a1 a0) fun r15 => (some (!r15)))))) fun x7 => (if x7 then (some 1) else (some 0)))
theorem impl_polysCode_ok (a0 : Int) (a1 : (List (Vec Int 64))) (r : Int) (h : impl_polysCode a0 a1 = some r) : Den Try.prog 100 [(i6 a0), (eSA64u8 a1)] { r := (i6 r) } := by
  refine den_of (rs := [(i6 r)]) (ac := impl_polysCode_c) (L := impl_polysCode_L) (n := 14) (m := []) (c := Try.f100.body.getD .skip) good Try.func100 (by kernel_rfl) (by kernel_rfl) Try.ntmps100 rfl rfl (by kernel_rfl) rfl rfl ?_
  refine a_st (σ' := ⟨[(0, (i6 a0)), (1, (eSA64u8 a1))], []⟩) (by kernel_rfl) ?_
  unfold impl_polysCode_c
  refine sr (vo 1200 (i6 a0) rfl rfl (vp (i6 0) rfl (nx ⟨[(1, (eSA64u8 a1)), (2, (ow 2))], [(2, (bk (i6 a0)))]⟩ (by kernel_rfl) (a_seq ?_))))
  obtain ⟨y8, hy9, hk10⟩ := bind_some h
  clear h
  refine a_join (emb := fun (s : Bool) => ⟨[(13, (.bool s))], []⟩) (pre := fun s => s = y8) ?_ ?_
  · rintro x7 rfl
    have h := hk10
    refine a_st (σ' := ⟨[(13, (.bool x7))], []⟩) (by kernel_rfl) ?_
    cases hb17 : x7
    · have h := ite_f hb17 h
      refine a_cond_f rfl (a_skip (a_next (σ' := ⟨[], []⟩) (by kernel_rfl) (sr (vp (i6 0) rfl (nx _ rfl (a_ret ?_))))))
      refine ⟨.inr rfl, ?_⟩
      rw [Try.results100]
      cases h
      exact ⟨_, _, _, _, _, rfl, trivial, .inl ⟨rfl, .inl rfl⟩, rfl, rfl⟩
    · have h := ite_t hb17 h
      refine a_cond_t rfl (sr (vp (i6 1) rfl (nx _ rfl (a_ret (t_ret ?_)))))
      refine ⟨.inr rfl, ?_⟩
      rw [Try.results100]
      cases h
      exact ⟨_, _, _, _, _, rfl, trivial, .inl ⟨rfl, .inl rfl⟩, rfl, rfl⟩
  · have h := hy9
    refine a_region (vl (i6 a0) rfl rfl rfl rfl rfl rfl ?_)
    obtain ⟨r12, hr13, h⟩ := bind_some h
    refine a_call (args := [(i6 a0)]) (u := []) (r := (.bool r12)) rfl rfl (impl_isPrime_ok a0 r12 hr13) rfl (vp (.bool (!r12)) rfl (vp (.bool (!r12)) rfl ?_))
    cases hb14 : (!r12)
    · have h := ite_f hb14 h
      refine gp (eSA64u8 a1) rfl rfl (a_gval rfl (v := (.clo 179 [] [(.ref (i6 a0) [] [])])) (u := [(2, (bf (i6 a0)))]) rfl trivial rfl ?_)
      obtain ⟨r15, hr16, h⟩ := bind_some h
      refine a_gcall rfl (args := [(eSA64u8 a1), (.clo 179 [] [(.ref (i6 a0) [] [])])]) (u := []) (r := (.bool r15)) rfl rfl (impl_areAll_impl_Poly_of_impl_polysCode_c1_p_ok a1 a0 r15 hr16) rfl (gp (.bool (!r15)) rfl rfl (vp (.bool (!r15)) rfl (a_nil ?_)))
      exact j_leaf (!r15) (Option.some.inj h) (by kernel_rfl)
    · have h := ite_t hb14 h
      refine a_gskip rfl (a_gskip rfl (a_gskip rfl (a_gskip rfl (vp (.bool true) rfl (a_nil ?_)))))
      exact j_leaf true (Option.some.inj h) (by kernel_rfl)
def impl_row_trimmed_c : ACode := (.seq (.region 0 [q 2 (.asg 1 (.const (.slice none 0 0)) 80)] false) (.seq (.region 1 [q 4 (.mov (t 0)), q 5 (.blt 0 .len [(t 4)] [80]), q 3 (.asg 0 (t 5) 3)] false) (.seq (.block 0 (.loop (.seq (.seq (.region 2 [q 6 (.mov (t 3)), q 7 (.bin .gtr 3 (t 6) (.const (.int .i64 0))), q 8 (.mov (t 7)), ⟨some 9, .mov (t 0), some (8, true), []⟩, ⟨some 10, .mov (t 3), some (8, true), []⟩, ⟨some 11, .bin .sub 3 (t 10) (.const (.int .i64 1)), some (8, true), []⟩, ⟨some 12, .indexAddr 80 (t 9) (t 11), some (8, true), []⟩, ⟨some 13, .load 2 (t 12), some (8, true), []⟩, ⟨some 14, .bin .eql 2 (t 13) (.const (.int .i64 0)), some (8, true), []⟩, q 15 (.pick (t 8) (t 14) (.const (.bool false)))] false) (.cond (t 15) .skip (.exit 0))) (.block 1 (.region 3 [q 16 (.mov (t 3)), q 17 (.bin .sub 3 (t 16) (.const (.int .i64 1))), q 3 (.asg 0 (t 17) 3)] false))))) (.seq (.region 4 [q 18 (.mov (t 0)), q 19 (.mov (t 3)), q 20 (.mov (t 3)), q 21 (.slice 80 (t 18) none (some (t 19)) (some (t 20))), q 2 (.asg 1 (t 21) 80)] false) .ret))))
def impl_row_trimmed_L : Live := [(0, [0]), (1, [0]), (2, [0, 3]), (3, [0, 3]), (4, [0, 3]), (100015, [0, 3, 15])]
noncomputable def impl_row_trimmed_l1 (a0 : (List Int)) (x62 : Int) : Option (Int ⊕ Int) :=
  (Option.bind (α := Bool) ((if (decide (x62 > 0)) then (ifp (0 ≤ IntKind.i64.wrap (x62 - 1) ∧ IntKind.i64.wrap (x62 - 1) < ((a0.length : Nat) : Int)) ((some ((((rd a0 (IntKind.i64.wrap (x62 - 1)).toNat)) == 0))))) else (some false))) fun x80 => (if x80 then (some (.inl (IntKind.i64.wrap (x62 - 1)))) else (some (.inr x62))))
noncomputable def impl_row_trimmed (a0 : (List Int)) : Option (List Int) :=
  (Option.bind (α := Int) ((loopM (fun s : Int => impl_row_trimmed_l1 a0 s) (a0.length : Int))) fun x43 => (ifp (0 ≤ x43 ∧ x43 ≤ (a0.length : Int)) ((some (a0.take x43.toNat)))))
theorem impl_row_trimmed_ok (a0 : (List Int)) (r : (List Int)) (h : impl_row_trimmed a0 = some r) : Den Try.prog 180 [(eSi64 a0)] { r := (eSi64 r) } := by
  refine den_of (rs := [(eSi64 r)]) (ac := impl_row_trimmed_c) (L := impl_row_trimmed_L) (n := 22) (m := [(2, 1)]) (c := Try.f180.body.getD .skip) good Try.func180 (by kernel_rfl) (by kernel_rfl) Try.ntmps180 rfl rfl (by kernel_rfl) rfl rfl ?_
  refine a_st (σ' := ⟨[(0, (eSi64 a0))], []⟩) (by kernel_rfl) ?_
  unfold impl_row_trimmed_c
  refine sr (vp (eSi64 ([])) rfl (nx ⟨[(0, (eSi64 a0))], []⟩ (by kernel_rfl) (sr (vp (eSi64 a0) rfl (vq (i6 (a0.length : Int)) (len_run rfl rfl) trivial (vp (i6 (a0.length : Int)) rfl (nx ⟨[(0, (eSi64 a0)), (3, (i6 (a0.length : Int)))], []⟩ (by kernel_rfl) ?_)))))))
  obtain ⟨y44, hy45, hk46⟩ := bind_some h
  clear h
  refine a_join (emb := fun (s : Int) => ⟨[(0, (eSi64 a0)), (3, (i6 s))], []⟩) (pre := fun s => s = y44) ?_ ?_
  · rintro x43 rfl
    have h := hk46
    refine a_st (σ' := ⟨[(0, (eSi64 a0)), (3, (i6 x43))], []⟩) (by kernel_rfl) (sr (vp (eSi64 a0) rfl (vp (i6 x43) rfl (vp (i6 x43) rfl ?_))))
    obtain ⟨hc89, h⟩ := ifp_some h
    refine vq (.sl 1 true ((a0.take x43.toNat).map (AV.int .i64))) (take3_run (f := (AV.int .i64)) (l := a0) (i := ⟨.int .i64, 1, 8, (.int .i64 0)⟩) rfl rfl rfl rfl (fun _ => rfl)) ⟨hc89.1, lmap_le hc89.2, rfl⟩ (vq (eSi64 (a0.take x43.toNat)) (asg_tight (i := ⟨.int .i64, 1, 8, (.int .i64 0)⟩) (f := (AV.int .i64)) (l := (a0.take x43.toNat)) rfl rfl rfl) trivial (nx _ rfl (a_ret ?_)))
    refine ⟨.inr rfl, ?_⟩
    rw [Try.results180]
    cases h
    exact ⟨_, _, _, _, _, rfl, trivial, .inl ⟨rfl, .inl rfl⟩, rfl, rfl⟩
  · have h := hy45
    refine a_block ?_
    refine a_loop (emb := fun (s : Int) => ⟨[(0, (eSi64 a0)), (3, (i6 s))], []⟩) (body := (fun s : Int => impl_row_trimmed_l1 a0 s)) (G := fun q => some q = some y44) h rfl ?_ (by kernel_rfl)
    rintro X74 x62 x75 h hX76
    have h : impl_row_trimmed_l1 a0 x62 = some x75 := h
    refine a_st (σ' := ⟨[(0, (eSi64 a0)), (3, (i6 x62))], []⟩) (by kernel_rfl) (a_seq ?_)
    obtain ⟨y81, hy82, hk83⟩ := bind_some h
    clear h
    refine a_join (emb := fun (s : Bool) => ⟨[(0, (eSi64 a0)), (3, (i6 x62)), (15, (.bool s))], []⟩) (pre := fun s => s = y81) ?_ ?_
    · rintro x80 rfl
      have h := hk83
      refine a_st (σ' := ⟨[(0, (eSi64 a0)), (3, (i6 x62)), (15, (.bool x80))], []⟩) (by kernel_rfl) ?_
      cases hb87 : x80
      · have h := ite_f hb87 h
        refine a_cond_f rfl (a_exit (t_exit ?_))
        cases h
        have h := hX76
        refine t_exit (b_exit ?_)
        exact j_leaf x62 (Option.some.inj h) (by kernel_rfl)
      · have h := ite_t hb87 h
        refine a_cond_t rfl (a_skip (a_next (σ' := ⟨[(0, (eSi64 a0)), (3, (i6 x62))], []⟩) (by kernel_rfl) (a_block (a_region (vp (i6 x62) rfl (vp (i6 (IntKind.i64.wrap (x62 - 1))) rfl (vp (i6 (IntKind.i64.wrap (x62 - 1))) rfl (a_nil (b_norm ?_)))))))))
        cases h
        exact a_again (by kernel_rfl) hX76
    · have h := hy82
      refine a_region (vp (i6 x62) rfl (vp (.bool ((decide (x62 > 0)))) rfl (vp (.bool ((decide (x62 > 0)))) rfl ?_)))
      cases hb84 : (decide (x62 > 0))
      · have h := ite_f hb84 h
        refine a_gskip rfl (a_gskip rfl (a_gskip rfl (a_gskip rfl (a_gskip rfl (a_gskip rfl (vp (.bool false) rfl (a_nil ?_)))))))
        exact j_leaf false (Option.some.inj h) (by kernel_rfl)
      · have h := ite_t hb84 h
        refine gp (eSi64 a0) rfl rfl (gp (i6 x62) rfl rfl (gp (i6 (IntKind.i64.wrap (x62 - 1))) rfl rfl ?_))
        obtain ⟨hc85, h⟩ := ifp_some h
        refine gq (.ref (.row 1 (a0.map (AV.int .i64))) [(IntKind.i64.wrap (x62 - 1)).toNat] [(IntKind.i64.wrap (x62 - 1)).toNat * 1]) rfl rfl (lmap hc85) ?_
        have hl86 : LdOk [(IntKind.i64.wrap (x62 - 1)).toNat] (.row 1 (a0.map (AV.int .i64))) [(IntKind.i64.wrap (x62 - 1)).toNat * 1] 1 false (i6 ((rd a0 (IntKind.i64.wrap (x62 - 1)).toNat))) := (.row (llt hc85) rfl (.nil rfl rfl rfl))
        refine gq (i6 ((rd a0 (IntKind.i64.wrap (x62 - 1)).toNat))) rfl (ld_ref (i := ⟨.int .i64, 1, 8, (.int .i64 0)⟩) rfl rfl hl86) hl86.c (gp (.bool ((((rd a0 (IntKind.i64.wrap (x62 - 1)).toNat)) == 0))) rfl rfl (vp (.bool ((((rd a0 (IntKind.i64.wrap (x62 - 1)).toNat)) == 0))) rfl (a_nil ?_)))
        exact j_leaf ((((rd a0 (IntKind.i64.wrap (x62 - 1)).toNat)) == 0)) (Option.some.inj h) (by kernel_rfl)
def impl_rowOf_c : ACode := (.seq (.region 0 [q 1 (.box 25 (t 0)), q 2 (.asg 1 (.const (.slice none 0 0)) 80)] false) (.seq (.region 1 [q 3 (.asg 2 (.const (.slice none 0 0)) 80)] false) (.seq (.seq (.region 2 [q 6 (.load 25 (t 1)), q 7 (.mov (.const (.int .i64 0)))] false) (.block 0 (.loop (.seq (.region 3 [q 8 (.bin .lss 3 (t 7) (.const (.int .i64 64)))] false) (.seq (.cond (t 8) .skip (.exit 0)) (.seq (.block 1 (.seq (.region 4 [q 9 (.index 25 (t 6) (t 7)), q 5 (.asg 0 (t 9) 5)] false) (.region 5 [q 10 (.mov (t 3)), q 11 (.mov (t 5)), q 12 (.conv 5 2 (t 11)), q 13 (.bslice 0 80 1 [(0, (t 12))]), q 14 (.blt 0 .append [(t 10), (t 13)] [80, 80]), q 3 (.asg 2 (t 14) 80)] false))) (.region 6 [q 15 (.bin .add 3 (t 7) (.const (.int .i64 1))), q 7 (.mov (t 15))] false))))))) (.seq (.region 7 [q 16 (.mov (t 3)), q 17 (.call 0 (.func 180) [(t 16)]), q 2 (.asg 1 (t 17) 80)] false) .ret))))
def impl_rowOf_L : Live := [(0, [0]), (1, [1]), (2, [1, 3]), (3, [3, 6, 7]), (4, [3, 6, 7]), (5, [3, 5, 6, 7]), (6, [3, 6, 7]), (7, [3]), (100008, [3, 6, 7, 8])]
noncomputable def impl_rowOf_l1 (a0 : (Vec Int 64)) (x25 : Int) (x26 : (List Int)) : Option ((Int × (List Int)) ⊕ (List Int)) :=
  (if (decide (x25 < 64)) then (ifp (0 ≤ x25 ∧ x25 < ((64 : Nat) : Int)) ((ifp ((x26.length + ([IntKind.i64.wrap (rd a0.1 x25.toNat)] : List Int).length) * 8 ≤ 140737488355328) ((some (.inl ((IntKind.i64.wrap (x25 + 1), (x26 ++ ([IntKind.i64.wrap (rd a0.1 x25.toNat)])))))))))) else (some (.inr x26)))
noncomputable def impl_rowOf (a0 : (Vec Int 64)) : Option (List Int) :=
  (Option.bind (α := (List Int)) ((loopM (fun s : (Int × (List Int)) => impl_rowOf_l1 a0 s.1 s.2) (0, []))) fun x17 => (Option.bind (impl_row_trimmed x17) fun r37 => (some r37)))
theorem impl_rowOf_ok (a0 : (Vec Int 64)) (r : (List Int)) (h : impl_rowOf a0 = some r) : Den Try.prog 103 [(eA64u8 a0)] { r := (eSi64 r) } := by
  refine den_of (rs := [(eSi64 r)]) (ac := impl_rowOf_c) (L := impl_rowOf_L) (n := 18) (m := [(2, 1), (3, 2)]) (c := Try.f103.body.getD .skip) good Try.func103 (by kernel_rfl) (by kernel_rfl) Try.ntmps103 rfl rfl (by kernel_rfl) rfl rfl ?_
  refine a_st (σ' := ⟨[(0, (eA64u8 a0))], []⟩) (by kernel_rfl) ?_
  unfold impl_rowOf_c
  refine sr (vo 1100 (eA64u8 a0) rfl rfl (vp (eSi64 ([])) rfl (nx ⟨[(1, (ow 1))], [(1, (bk (eA64u8 a0)))]⟩ (by kernel_rfl) (sr (vu (.osl 1300) [(1300, (bk (.row 1 (([]).map (AV.int .i64)))))] rfl trivial rfl (nx ⟨[(1, (ow 1)), (3, (.osl 3))], [(1, (bk (eA64u8 a0))), (3, (bk (.row 1 (([]).map (AV.int .i64)))))]⟩ (by kernel_rfl) ?_))))))
  obtain ⟨y18, hy19, hk20⟩ := bind_some h
  clear h
  refine a_join (emb := fun (s : (List Int)) => ⟨[(3, (.osl 3))], [(3, (bk (.row 1 (s.map (AV.int .i64)))))]⟩) (pre := fun s => s = y18) ?_ ?_
  · rintro x17 rfl
    have h := hk20
    refine a_st (σ' := ⟨[(3, (.osl 3))], [(3, (bk (.row 1 (x17.map (AV.int .i64)))))]⟩) (by kernel_rfl) (sr (vp (.osl 3) rfl ?_))
    obtain ⟨r37, hr38, h⟩ := bind_some h
    refine a_call (args := [(eSi64 x17)]) (u := [(3, (bf (.row 1 (x17.map (AV.int .i64)))))]) (r := (eSi64 r37)) rfl rfl (impl_row_trimmed_ok x17 r37 hr38) rfl (vp (eSi64 r37) rfl (nx _ rfl (a_ret ?_)))
    refine ⟨.inr rfl, ?_⟩
    rw [Try.results103]
    cases h
    exact ⟨_, _, _, _, _, rfl, trivial, .inl ⟨rfl, .inl rfl⟩, rfl, rfl⟩
  · have h := hy19
    refine sr (vl (eA64u8 a0) rfl rfl rfl rfl rfl rfl (vp (i6 0) rfl (nx ⟨[(3, (.osl 3)), (6, (eA64u8 a0)), (7, (i6 0))], [(3, (bk (.row 1 (([]).map (AV.int .i64)))))]⟩ (by kernel_rfl) (a_block ?_))))
    refine a_loop (emb := fun (s : (Int × (List Int))) => ⟨[(3, (.osl 3)), (6, (eA64u8 a0)), (7, (i6 s.1))], [(3, (bk (.row 1 (s.2.map (AV.int .i64)))))]⟩) (body := (fun s : (Int × (List Int)) => impl_rowOf_l1 a0 s.1 s.2)) (G := fun q => some q = some y18) h rfl ?_ (by kernel_rfl)
    rintro X30 ⟨x25, x26⟩ x31 h hX32
    have h : impl_rowOf_l1 a0 x25 x26 = some x31 := h
    refine a_st (σ' := ⟨[(3, (.osl 3)), (6, (eA64u8 a0)), (7, (i6 x25))], [(3, (bk (.row 1 (x26.map (AV.int .i64)))))]⟩) (by kernel_rfl) (sr (vp (.bool ((decide (x25 < 64)))) rfl (nx ⟨[(3, (.osl 3)), (6, (eA64u8 a0)), (7, (i6 x25)), (8, (.bool ((decide (x25 < 64)))))], [(3, (bk (.row 1 (x26.map (AV.int .i64)))))]⟩ (by kernel_rfl) (a_seq ?_))))
    cases hb33 : (decide (x25 < 64))
    · have h := ite_f hb33 h
      refine a_cond_f rfl (a_exit (t_exit ?_))
      cases h
      have h := hX32
      refine t_exit (b_exit ?_)
      exact j_leaf x26 (Option.some.inj h) (by kernel_rfl)
    · have h := ite_t hb33 h
      refine a_cond_t rfl (a_skip (a_next (σ' := ⟨[(3, (.osl 3)), (6, (eA64u8 a0)), (7, (i6 x25))], [(3, (bk (.row 1 (x26.map (AV.int .i64)))))]⟩) (by kernel_rfl) (a_seq (a_block (sr ?_)))))
      obtain ⟨hc34, h⟩ := ifp_some h
      refine vq (b8 (rd a0.1 x25.toNat)) (ix_run (i := ⟨.int .u8, 1, 1, (.int .u8 0)⟩) (f := (AV.int .u8)) rfl rfl rfl rfl (vlt a0 hc34)) ⟨hc34.1, hc34.2, rfl, rfl, rfl, rfl⟩ (vp (b8 (rd a0.1 x25.toNat)) rfl (nx ⟨[(3, (.osl 3)), (5, (b8 (rd a0.1 x25.toNat))), (6, (eA64u8 a0)), (7, (i6 x25))], [(3, (bk (.row 1 (x26.map (AV.int .i64)))))]⟩ (by kernel_rfl) (a_region (vp (.osl 3) rfl (vp (b8 (rd a0.1 x25.toNat)) rfl (vp (i6 (IntKind.i64.wrap (rd a0.1 x25.toNat))) rfl (vq (.sl 1 true (([IntKind.i64.wrap (rd a0.1 x25.toNat)]).map (AV.int .i64))) rfl ⟨(Nat.le_of_ble_eq_true rfl), (Nat.le_of_ble_eq_true rfl), (all_cons ⟨(Nat.le_of_ble_eq_true rfl), rfl⟩ all_nil)⟩ ?_)))))))
      obtain ⟨hc35, h⟩ := ifp_some h
      refine vu (.osl 2400) [(2400, (bk (.row 1 (((x26 ++ ([IntKind.i64.wrap (rd a0.1 x25.toNat)]))).map (AV.int .i64))))), (3, none)] (app_run (i := ⟨.int .i64, 1, 8, (.int .i64 0)⟩) (f := (AV.int .i64)) (l := x26) (l2 := [IntKind.i64.wrap (rd a0.1 x25.toNat)]) rfl rfl rfl rfl (fun _ => rfl) rfl rfl) (app_c (f := (AV.int .i64)) (s := 1) (sz := 1) (by' := 8) (u := []) (id := 3) hc35 (.inr rfl) rfl rfl rfl) rfl (vp (.osl 2400) rfl (a_nil (b_norm (a_next (σ' := ⟨[(3, (.osl 3)), (6, (eA64u8 a0)), (7, (i6 x25))], [(3, (bk (.row 1 (((x26 ++ ([IntKind.i64.wrap (rd a0.1 x25.toNat)]))).map (AV.int .i64)))))]⟩) (by kernel_rfl) (a_region (vp (i6 (IntKind.i64.wrap (x25 + 1))) rfl (vp (i6 (IntKind.i64.wrap (x25 + 1))) rfl (a_nil ?_))))))))
      cases h
      exact a_again (by kernel_rfl) hX32
def impl_prime_times_c : ACode := (.seq (.region 0 [q 6 (.asg 1 (.const (.slice none 0 0)) 80)] false) (.seq (.seq (.region 1 [q 14 (.mov (t 1)), q 15 (.blt 0 .len [(t 14)] [80]), q 16 (.bin .eql 3 (t 15) (.const (.int .i64 0))), q 17 (.mov (t 16)), ⟨some 18, .mov (t 2), some (17, false), []⟩, ⟨some 19, .blt 0 .len [(t 18)] [80], some (17, false), []⟩, ⟨some 20, .bin .eql 3 (t 19) (.const (.int .i64 0)), some (17, false), []⟩, q 21 (.pick (t 17) (.const (.bool true)) (t 20))] false) (.cond (t 21) (.seq (.region 2 [q 6 (.asg 1 (.const (.slice none 0 0)) 80)] false) .ret) .skip)) (.seq (.region 3 [q 22 (.mov (t 1)), q 23 (.blt 0 .len [(t 22)] [80]), q 24 (.mov (t 2)), q 25 (.blt 0 .len [(t 24)] [80]), q 26 (.bin .add 3 (t 23) (t 25)), q 27 (.bin .sub 3 (t 26) (.const (.int .i64 1))), q 28 (.mkslice 80 (t 27) (t 27)), q 7 (.asg 2 (t 28) 80)] false) (.seq (.seq (.region 4 [q 29 (.mov (t 1)), q 30 (.blt 0 .len [(t 29)] [80]), q 31 (.mov (.const (.int .i64 0)))] false) (.block 0 (.loop (.seq (.region 5 [q 32 (.bin .lss 3 (t 31) (t 30))] false) (.seq (.cond (t 32) .skip (.exit 0)) (.seq (.block 1 (.seq (.region 6 [q 33 (.mov (t 31)), q 34 (.indexAddr 80 (t 29) (t 31)), q 35 (.load 2 (t 34)), q 8 (.asg 0 (t 33) 3), q 9 (.asg 0 (t 35) 2)] false) (.seq (.region 7 [q 36 (.mov (t 2)), q 37 (.blt 0 .len [(t 36)] [80]), q 38 (.mov (.const (.int .i64 0)))] false) (.block 2 (.loop (.seq (.region 8 [q 39 (.bin .lss 3 (t 38) (t 37))] false) (.seq (.cond (t 39) .skip (.exit 2)) (.seq (.block 3 (.seq (.region 9 [q 40 (.mov (t 38)), q 41 (.indexAddr 80 (t 36) (t 38)), q 42 (.load 2 (t 41)), q 10 (.asg 0 (t 40) 3), q 11 (.asg 0 (t 42) 2)] false) (.region 10 [q 43 (.mov (t 7)), q 44 (.mov (t 8)), q 45 (.mov (t 10)), q 46 (.bin .add 3 (t 44) (t 45)), q 47 (.indexAddr 80 (t 43) (t 46)), q 48 (.load 2 (t 47)), q 49 (.mov (t 9)), q 50 (.mov (t 11)), q 51 (.bin .mul 2 (t 49) (t 50)), q 52 (.bin .add 2 (t 48) (t 51)), q 53 (.indexAddr 80 (t 43) (t 46)), ⟨none, .store 2 (t 53) (t 52), none, []⟩] false))) (.region 11 [q 54 (.bin .add 3 (t 38) (.const (.int .i64 1))), q 38 (.mov (t 54))] false))))))))) (.region 12 [q 55 (.bin .add 3 (t 31) (.const (.int .i64 1))), q 31 (.mov (t 55))] false))))))) (.seq (.seq (.region 13 [q 56 (.mov (t 7)), q 57 (.blt 0 .len [(t 56)] [80]), q 58 (.mov (.const (.int .i64 0)))] false) (.block 4 (.loop (.seq (.region 14 [q 59 (.bin .lss 3 (t 58) (t 57))] false) (.seq (.cond (t 59) .skip (.exit 4)) (.seq (.block 5 (.seq (.region 15 [q 60 (.mov (t 58)), q 61 (.indexAddr 80 (t 56) (t 58)), q 62 (.load 2 (t 61)), q 12 (.asg 0 (t 60) 3), q 13 (.asg 0 (t 62) 2)] false) (.region 16 [q 63 (.mov (t 7)), q 64 (.mov (t 12)), q 65 (.mov (t 13)), q 66 (.mov (t 0)), q 67 (.bin .rem 2 (t 65) (t 66)), q 68 (.indexAddr 80 (t 63) (t 64)), ⟨none, .store 2 (t 68) (t 67), none, []⟩] false))) (.region 17 [q 69 (.bin .add 3 (t 58) (.const (.int .i64 1))), q 58 (.mov (t 69))] false))))))) (.seq (.region 18 [q 70 (.mov (t 7)), q 71 (.call 0 (.func 180) [(t 70)]), q 6 (.asg 1 (t 71) 80)] false) .ret))))))
def impl_prime_times_L : Live := [(0, [0, 1, 2]), (1, [0, 1, 2]), (2, []), (3, [0, 1, 2]), (4, [0, 1, 2, 7]), (5, [0, 2, 7, 29, 30, 31]), (6, [0, 2, 7, 29, 30, 31]), (7, [0, 2, 7, 8, 9, 29, 30, 31]), (8, [0, 2, 7, 8, 9, 29, 30, 31, 36, 37, 38]), (9, [0, 2, 7, 8, 9, 29, 30, 31, 36, 37, 38]), (10, [0, 2, 7, 8, 9, 10, 11, 29, 30, 31, 36, 37, 38]), (11, [0, 2, 7, 8, 9, 29, 30, 31, 36, 37, 38]), (12, [0, 2, 7, 29, 30, 31]), (13, [0, 7]), (14, [0, 7, 56, 57, 58]), (15, [0, 7, 56, 57, 58]), (16, [0, 7, 12, 13, 56, 57, 58]), (17, [0, 7, 56, 57, 58]), (18, [7]), (100021, [0, 1, 2, 21]), (100032, [0, 2, 7, 29, 30, 31, 32]), (100039, [0, 2, 7, 8, 9, 29, 30, 31, 36, 37, 38, 39]), (100059, [0, 7, 56, 57, 58, 59])]
noncomputable def impl_prime_times_l2 (a2 : (List Int)) (x353 : Int) (a1 : (List Int)) (x492 : Int) (x493 : (List Int)) : Option ((Int × (List Int)) ⊕ (List Int)) :=
  (if (decide (x492 < (a2.length : Int))) then (ifp (0 ≤ x492 ∧ x492 < ((a2.length : Nat) : Int)) ((ifp (0 ≤ IntKind.i64.wrap (x353 + x492) ∧ IntKind.i64.wrap (x353 + x492) < ((x493.length : Nat) : Int)) ((letp (IntKind.i64.wrap (((rd x493 (IntKind.i64.wrap (x353 + x492)).toNat)) + (IntKind.i64.wrap ((rd a1 x353.toNat) * (rd a2 x492.toNat))))) fun x511 => (ifp (0 ≤ IntKind.i64.wrap (x353 + x492) ∧ IntKind.i64.wrap (x353 + x492) < ((x493.length : Nat) : Int)) ((some (.inl ((IntKind.i64.wrap (x492 + 1), (x493.set (IntKind.i64.wrap (x353 + x492)).toNat x511)))))))))))) else (some (.inr x493)))
noncomputable def impl_prime_times_l1 (a1 : (List Int)) (a2 : (List Int)) (x353 : Int) (x354 : (List Int)) : Option ((Int × (List Int)) ⊕ (List Int)) :=
  (if (decide (x353 < (a1.length : Int))) then (Option.bind (α := (List Int)) ((ifp (0 ≤ x353 ∧ x353 < ((a1.length : Nat) : Int)) ((loopM (fun s : (Int × (List Int)) => impl_prime_times_l2 a2 x353 a1 s.1 s.2) (0, x354))))) fun x475 => (some (.inl ((IntKind.i64.wrap (x353 + 1), x475))))) else (some (.inr x354)))
noncomputable def impl_prime_times_l3 (x262 : (List Int)) (a0 : Int) (x551 : Int) (x552 : (List Int)) : Option ((Int × (List Int)) ⊕ (List Int)) :=
  (if (decide (x551 < (x262.length : Int))) then (ifp (0 ≤ x551 ∧ x551 < ((x552.length : Nat) : Int)) ((ifp (a0 ≠ 0) ((ifp (0 ≤ x551 ∧ x551 < ((x552.length : Nat) : Int)) ((some (.inl ((IntKind.i64.wrap (x551 + 1), (x552.set x551.toNat (Int.tmod (rd x552 x551.toNat) a0)))))))))))) else (some (.inr x552)))
noncomputable def impl_prime_times (a0 : Int) (a1 : (List Int)) (a2 : (List Int)) : Option (List Int) :=
  (Option.bind (α := Bool) ((if ((a1.length : Int) == 0) then (some true) else (some (((a2.length : Int) == 0))))) fun x2 => (if x2 then (some ([])) else (letp (IntKind.i64.wrap ((IntKind.i64.wrap ((a1.length : Int) + (a2.length : Int))) - 1)) fun x8 => (ifp (0 ≤ x8 ∧ x8 ≤ 140737488355328 ∧ 8 * x8 ≤ 140737488355328) ((Option.bind (α := (List Int)) ((loopM (fun s : (Int × (List Int)) => impl_prime_times_l1 a1 a2 s.1 s.2) (0, List.replicate x8.toNat (0 : Int)))) fun x262 => (Option.bind (α := (List Int)) ((loopM (fun s : (Int × (List Int)) => impl_prime_times_l3 x262 a0 s.1 s.2) (0, x262))) fun x541 => (Option.bind (impl_row_trimmed x541) fun r569 => (some r569)))))))))
theorem impl_prime_times_ok (a0 : Int) (a1 : (List Int)) (a2 : (List Int)) (r : (List Int)) (h : impl_prime_times a0 a1 a2 = some r) : Den Try.prog 102 [(i6 a0), (eSi64 a1), (eSi64 a2)] { r := (eSi64 r) } := by
  refine den_of (rs := [(eSi64 r)]) (ac := impl_prime_times_c) (L := impl_prime_times_L) (n := 72) (m := [(6, 1), (7, 2)]) (c := Try.f102.body.getD .skip) good Try.func102 (by kernel_rfl) (by kernel_rfl) Try.ntmps102 rfl rfl (by kernel_rfl) rfl rfl ?_
  refine a_st (σ' := ⟨[(0, (i6 a0)), (1, (eSi64 a1)), (2, (eSi64 a2))], []⟩) (by kernel_rfl) ?_
  unfold impl_prime_times_c
  refine sr (vp (eSi64 ([])) rfl (nx ⟨[(0, (i6 a0)), (1, (eSi64 a1)), (2, (eSi64 a2))], []⟩ (by kernel_rfl) (a_seq ?_)))
  obtain ⟨y3, hy4, hk5⟩ := bind_some h
  clear h
  refine a_join (emb := fun (s : Bool) => ⟨[(0, (i6 a0)), (1, (eSi64 a1)), (2, (eSi64 a2)), (21, (.bool s))], []⟩) (pre := fun s => s = y3) ?_ ?_
  · rintro x2 rfl
    have h := hk5
    refine a_st (σ' := ⟨[(0, (i6 a0)), (1, (eSi64 a1)), (2, (eSi64 a2)), (21, (.bool x2))], []⟩) (by kernel_rfl) ?_
    cases hb7 : x2
    · have h := ite_f hb7 h
      refine a_cond_f rfl (a_skip (a_next (σ' := ⟨[(0, (i6 a0)), (1, (eSi64 a1)), (2, (eSi64 a2))], []⟩) (by kernel_rfl) (sr (vp (eSi64 a1) rfl (vq (i6 (a1.length : Int)) (len_run rfl rfl) trivial (vp (eSi64 a2) rfl (vq (i6 (a2.length : Int)) (len_run rfl rfl) trivial (vp (i6 (IntKind.i64.wrap ((a1.length : Int) + (a2.length : Int)))) rfl ?_))))))))
      obtain ⟨x8, hx9, h⟩ := letp_some h
      refine a_val' (v := (i6 (IntKind.i64.wrap ((IntKind.i64.wrap ((a1.length : Int) + (a2.length : Int))) - 1)))) (v' := (i6 x8)) (u := []) (u' := []) rfl (congrArg (fun z => ((i6 z) : AV)) hx9) rfl trivial rfl ?_
      obtain ⟨hc10, h⟩ := ifp_some h
      refine vu (.osl 3800) [(3800, (bk (.row 1 ((List.replicate x8.toNat (0 : Int)).map (AV.int .i64)))))] (mk_run (i := ⟨.int .i64, 1, 8, (.int .i64 0)⟩) (f := (AV.int .i64)) (y := (0 : Int)) rfl rfl rfl rfl rfl rfl) ⟨rfl, hc10.1, hc10.2.1, hc10.2.2, (Nat.le_of_ble_eq_true rfl)⟩ rfl (vp (.osl 3800) rfl (nx ⟨[(0, (i6 a0)), (1, (eSi64 a1)), (2, (eSi64 a2)), (7, (.osl 7))], [(7, (bk (.row 1 ((List.replicate x8.toNat (0 : Int)).map (AV.int .i64)))))]⟩ (by kernel_rfl) ?_))
      obtain ⟨y263, hy264, hk265⟩ := bind_some h
      clear h
      refine a_join (emb := fun (s : (List Int)) => ⟨[(0, (i6 a0)), (7, (.osl 7))], [(7, (bk (.row 1 (s.map (AV.int .i64)))))]⟩) (pre := fun s => s = y263) ?_ ?_
      · rintro x262 rfl
        have h := hk265
        refine a_st (σ' := ⟨[(0, (i6 a0)), (7, (.osl 7))], [(7, (bk (.row 1 (x262.map (AV.int .i64)))))]⟩) (by kernel_rfl) ?_
        obtain ⟨y542, hy543, hk544⟩ := bind_some h
        clear h
        refine a_join (emb := fun (s : (List Int)) => ⟨[(7, (.osl 7))], [(7, (bk (.row 1 (s.map (AV.int .i64)))))]⟩) (pre := fun s => s = y542) ?_ ?_
        · rintro x541 rfl
          have h := hk544
          refine a_st (σ' := ⟨[(7, (.osl 7))], [(7, (bk (.row 1 (x541.map (AV.int .i64)))))]⟩) (by kernel_rfl) (sr (vp (.osl 7) rfl ?_))
          obtain ⟨r569, hr570, h⟩ := bind_some h
          refine a_call (args := [(eSi64 x541)]) (u := [(7, (bf (.row 1 (x541.map (AV.int .i64)))))]) (r := (eSi64 r569)) rfl rfl (impl_row_trimmed_ok x541 r569 hr570) rfl (vp (eSi64 r569) rfl (nx _ rfl (a_ret ?_)))
          refine ⟨.inr rfl, ?_⟩
          rw [Try.results102]
          cases h
          exact ⟨_, _, _, _, _, rfl, trivial, .inl ⟨rfl, .inl rfl⟩, rfl, rfl⟩
        · have h := hy543
          refine sr (vp (.osl 7) rfl (vq (i6 (x262.length : Int)) (leno_run rfl rfl rfl) trivial (vp (i6 0) rfl (nx ⟨[(0, (i6 a0)), (7, (.osl 7)), (56, (.osl 7)), (57, (i6 (x262.length : Int))), (58, (i6 0))], [(7, (bk (.row 1 (x262.map (AV.int .i64)))))]⟩ (by kernel_rfl) (a_block ?_)))))
          refine a_loop (emb := fun (s : (Int × (List Int))) => ⟨[(0, (i6 a0)), (7, (.osl 7)), (56, (.osl 7)), (57, (i6 (x262.length : Int))), (58, (i6 s.1))], [(7, (bk (.row 1 (s.2.map (AV.int .i64)))))]⟩) (body := (fun s : (Int × (List Int)) => impl_prime_times_l3 x262 a0 s.1 s.2)) (G := fun q => some q = some y542) h rfl ?_ (by kernel_rfl)
          rintro X559 ⟨x551, x552⟩ x560 h hX561
          have h : impl_prime_times_l3 x262 a0 x551 x552 = some x560 := h
          refine a_st (σ' := ⟨[(0, (i6 a0)), (7, (.osl 7)), (56, (.osl 7)), (57, (i6 (x262.length : Int))), (58, (i6 x551))], [(7, (bk (.row 1 (x552.map (AV.int .i64)))))]⟩) (by kernel_rfl) (sr (vp (.bool ((decide (x551 < (x262.length : Int))))) rfl (nx ⟨[(0, (i6 a0)), (7, (.osl 7)), (56, (.osl 7)), (57, (i6 (x262.length : Int))), (58, (i6 x551)), (59, (.bool ((decide (x551 < (x262.length : Int))))))], [(7, (bk (.row 1 (x552.map (AV.int .i64)))))]⟩ (by kernel_rfl) (a_seq ?_))))
          cases hb562 : (decide (x551 < (x262.length : Int)))
          · have h := ite_f hb562 h
            refine a_cond_f rfl (a_exit (t_exit ?_))
            cases h
            have h := hX561
            refine t_exit (b_exit ?_)
            exact j_leaf x552 (Option.some.inj h) (by kernel_rfl)
          · have h := ite_t hb562 h
            refine a_cond_t rfl (a_skip (a_next (σ' := ⟨[(0, (i6 a0)), (7, (.osl 7)), (56, (.osl 7)), (57, (i6 (x262.length : Int))), (58, (i6 x551))], [(7, (bk (.row 1 (x552.map (AV.int .i64)))))]⟩) (by kernel_rfl) (a_seq (a_block (sr (vp (i6 x551) rfl ?_))))))
            obtain ⟨hc563, h⟩ := ifp_some h
            refine vq (.own 7 [x551.toNat] [x551.toNat * 1]) rfl (lmap hc563) ?_
            have hl564 : LdOk [x551.toNat] (.row 1 (x552.map (AV.int .i64))) [x551.toNat * 1] 1 false (i6 (rd x552 x551.toNat)) := (.row (llt hc563) rfl (.nil rfl rfl rfl))
            refine vq (i6 (rd x552 x551.toNat)) (ld_own (i := ⟨.int .i64, 1, 8, (.int .i64 0)⟩) rfl rfl rfl hl564) hl564.c (vp (i6 x551) rfl (vp (i6 (rd x552 x551.toNat)) rfl (nx ⟨[(0, (i6 a0)), (7, (.osl 7)), (12, (i6 x551)), (13, (i6 (rd x552 x551.toNat))), (56, (.osl 7)), (57, (i6 (x262.length : Int))), (58, (i6 x551))], [(7, (bk (.row 1 (x552.map (AV.int .i64)))))]⟩ (by kernel_rfl) (a_region (vp (.osl 7) rfl (vp (i6 x551) rfl (vp (i6 (rd x552 x551.toNat)) rfl (vp (i6 a0) rfl ?_))))))))
            obtain ⟨hc565, h⟩ := ifp_some h
            refine vq (i6 (Int.tmod (rd x552 x551.toNat) a0)) rfl hc565 ?_
            obtain ⟨hc566, h⟩ := ifp_some h
            refine vq (.own 7 [x551.toNat] [x551.toNat * 1]) rfl (lmap hc566) ?_
            have hs567 : StOk [x551.toNat] (.row 1 (x552.map (AV.int .i64))) [x551.toNat * 1] 1 (i6 (Int.tmod (rd x552 x551.toNat) a0)) (.row 1 (((x552.set x551.toNat (Int.tmod (rd x552 x551.toNat) a0))).map (AV.int .i64))) := (.row (y := Int.tmod (rd x552 x551.toNat) a0) (llt hc566) rfl (.nil rfl rfl rfl rfl))
            refine vu .top [(7, (bk (.row 1 (((x552.set x551.toNat (Int.tmod (rd x552 x551.toNat) a0))).map (AV.int .i64)))))] (st_own (i := ⟨.int .i64, 1, 8, (.int .i64 0)⟩) rfl rfl (fun _ => rfl) rfl hs567) (hs567.c rfl) rfl (a_nil (b_norm (a_next (σ' := ⟨[(0, (i6 a0)), (7, (.osl 7)), (56, (.osl 7)), (57, (i6 (x262.length : Int))), (58, (i6 x551))], [(7, (bk (.row 1 (((x552.set x551.toNat (Int.tmod (rd x552 x551.toNat) a0))).map (AV.int .i64)))))]⟩) (by kernel_rfl) (a_region (vp (i6 (IntKind.i64.wrap (x551 + 1))) rfl (vp (i6 (IntKind.i64.wrap (x551 + 1))) rfl (a_nil ?_)))))))
            cases h
            exact a_again (by kernel_rfl) hX561
      · have h := hy264
        refine sr (vp (eSi64 a1) rfl (vq (i6 (a1.length : Int)) (len_run rfl rfl) trivial (vp (i6 0) rfl (nx ⟨[(0, (i6 a0)), (2, (eSi64 a2)), (7, (.osl 7)), (29, (eSi64 a1)), (30, (i6 (a1.length : Int))), (31, (i6 0))], [(7, (bk (.row 1 ((List.replicate x8.toNat (0 : Int)).map (AV.int .i64)))))]⟩ (by kernel_rfl) (a_block ?_)))))
        refine a_loop (emb := fun (s : (Int × (List Int))) => ⟨[(0, (i6 a0)), (2, (eSi64 a2)), (7, (.osl 7)), (29, (eSi64 a1)), (30, (i6 (a1.length : Int))), (31, (i6 s.1))], [(7, (bk (.row 1 (s.2.map (AV.int .i64)))))]⟩) (body := (fun s : (Int × (List Int)) => impl_prime_times_l1 a1 a2 s.1 s.2)) (G := fun q => some q = some y263) h rfl ?_ (by kernel_rfl)
        rintro X434 ⟨x353, x354⟩ x435 h hX436
        have h : impl_prime_times_l1 a1 a2 x353 x354 = some x435 := h
        refine a_st (σ' := ⟨[(0, (i6 a0)), (2, (eSi64 a2)), (7, (.osl 7)), (29, (eSi64 a1)), (30, (i6 (a1.length : Int))), (31, (i6 x353))], [(7, (bk (.row 1 (x354.map (AV.int .i64)))))]⟩) (by kernel_rfl) (sr (vp (.bool ((decide (x353 < (a1.length : Int))))) rfl (nx ⟨[(0, (i6 a0)), (2, (eSi64 a2)), (7, (.osl 7)), (29, (eSi64 a1)), (30, (i6 (a1.length : Int))), (31, (i6 x353)), (32, (.bool ((decide (x353 < (a1.length : Int))))))], [(7, (bk (.row 1 (x354.map (AV.int .i64)))))]⟩ (by kernel_rfl) (a_seq ?_))))
        cases hb437 : (decide (x353 < (a1.length : Int)))
        · have h := ite_f hb437 h
          refine a_cond_f rfl (a_exit (t_exit ?_))
          cases h
          have h := hX436
          refine t_exit (b_exit ?_)
          exact j_leaf x354 (Option.some.inj h) (by kernel_rfl)
        · have h := ite_t hb437 h
          refine a_cond_t rfl (a_skip (a_next (σ' := ⟨[(0, (i6 a0)), (2, (eSi64 a2)), (7, (.osl 7)), (29, (eSi64 a1)), (30, (i6 (a1.length : Int))), (31, (i6 x353))], [(7, (bk (.row 1 (x354.map (AV.int .i64)))))]⟩) (by kernel_rfl) ?_))
          obtain ⟨y476, hy477, hk478⟩ := bind_some h
          clear h
          refine a_join (emb := fun (s : (List Int)) => ⟨[(0, (i6 a0)), (2, (eSi64 a2)), (7, (.osl 7)), (29, (eSi64 a1)), (30, (i6 (a1.length : Int))), (31, (i6 x353))], [(7, (bk (.row 1 (s.map (AV.int .i64)))))]⟩) (pre := fun s => s = y476) ?_ ?_
          · rintro x475 rfl
            have h := hk478
            refine a_st (σ' := ⟨[(0, (i6 a0)), (2, (eSi64 a2)), (7, (.osl 7)), (29, (eSi64 a1)), (30, (i6 (a1.length : Int))), (31, (i6 x353))], [(7, (bk (.row 1 (x475.map (AV.int .i64)))))]⟩) (by kernel_rfl) (a_region (vp (i6 (IntKind.i64.wrap (x353 + 1))) rfl (vp (i6 (IntKind.i64.wrap (x353 + 1))) rfl (a_nil ?_))))
            cases h
            exact a_again (by kernel_rfl) hX436
          · have h := hy477
            refine a_block (sr (vp (i6 x353) rfl ?_))
            obtain ⟨hc479, h⟩ := ifp_some h
            refine vq (.ref (.row 1 (a1.map (AV.int .i64))) [x353.toNat] [x353.toNat * 1]) rfl (lmap hc479) ?_
            have hl480 : LdOk [x353.toNat] (.row 1 (a1.map (AV.int .i64))) [x353.toNat * 1] 1 false (i6 (rd a1 x353.toNat)) := (.row (llt hc479) rfl (.nil rfl rfl rfl))
            refine vq (i6 (rd a1 x353.toNat)) (ld_ref (i := ⟨.int .i64, 1, 8, (.int .i64 0)⟩) rfl rfl hl480) hl480.c (vp (i6 x353) rfl (vp (i6 (rd a1 x353.toNat)) rfl (nx ⟨[(0, (i6 a0)), (2, (eSi64 a2)), (7, (.osl 7)), (8, (i6 x353)), (9, (i6 (rd a1 x353.toNat))), (29, (eSi64 a1)), (30, (i6 (a1.length : Int))), (31, (i6 x353))], [(7, (bk (.row 1 (x354.map (AV.int .i64)))))]⟩ (by kernel_rfl) (sr (vp (eSi64 a2) rfl (vq (i6 (a2.length : Int)) (len_run rfl rfl) trivial (vp (i6 0) rfl (nx ⟨[(0, (i6 a0)), (2, (eSi64 a2)), (7, (.osl 7)), (8, (i6 x353)), (9, (i6 (rd a1 x353.toNat))), (29, (eSi64 a1)), (30, (i6 (a1.length : Int))), (31, (i6 x353)), (36, (eSi64 a2)), (37, (i6 (a2.length : Int))), (38, (i6 0))], [(7, (bk (.row 1 (x354.map (AV.int .i64)))))]⟩ (by kernel_rfl) (a_block ?_)))))))))
            refine a_loop (emb := fun (s : (Int × (List Int))) => ⟨[(0, (i6 a0)), (2, (eSi64 a2)), (7, (.osl 7)), (8, (i6 x353)), (9, (i6 (rd a1 x353.toNat))), (29, (eSi64 a1)), (30, (i6 (a1.length : Int))), (31, (i6 x353)), (36, (eSi64 a2)), (37, (i6 (a2.length : Int))), (38, (i6 s.1))], [(7, (bk (.row 1 (s.2.map (AV.int .i64)))))]⟩) (body := (fun s : (Int × (List Int)) => impl_prime_times_l2 a2 x353 a1 s.1 s.2)) (G := fun q => some q = some y476) h rfl ?_ (by kernel_rfl)
            rintro X503 ⟨x492, x493⟩ x504 h hX505
            have h : impl_prime_times_l2 a2 x353 a1 x492 x493 = some x504 := h
            refine a_st (σ' := ⟨[(0, (i6 a0)), (2, (eSi64 a2)), (7, (.osl 7)), (8, (i6 x353)), (9, (i6 (rd a1 x353.toNat))), (29, (eSi64 a1)), (30, (i6 (a1.length : Int))), (31, (i6 x353)), (36, (eSi64 a2)), (37, (i6 (a2.length : Int))), (38, (i6 x492))], [(7, (bk (.row 1 (x493.map (AV.int .i64)))))]⟩) (by kernel_rfl) (sr (vp (.bool ((decide (x492 < (a2.length : Int))))) rfl (nx ⟨[(0, (i6 a0)), (2, (eSi64 a2)), (7, (.osl 7)), (8, (i6 x353)), (9, (i6 (rd a1 x353.toNat))), (29, (eSi64 a1)), (30, (i6 (a1.length : Int))), (31, (i6 x353)), (36, (eSi64 a2)), (37, (i6 (a2.length : Int))), (38, (i6 x492)), (39, (.bool ((decide (x492 < (a2.length : Int))))))], [(7, (bk (.row 1 (x493.map (AV.int .i64)))))]⟩ (by kernel_rfl) (a_seq ?_))))
            cases hb506 : (decide (x492 < (a2.length : Int)))
            · have h := ite_f hb506 h
              refine a_cond_f rfl (a_exit (t_exit ?_))
              cases h
              have h := hX505
              refine t_exit (b_exit (b_norm ?_))
              exact j_leaf x493 (Option.some.inj h) (by kernel_rfl)
            · have h := ite_t hb506 h
              refine a_cond_t rfl (a_skip (a_next (σ' := ⟨[(0, (i6 a0)), (2, (eSi64 a2)), (7, (.osl 7)), (8, (i6 x353)), (9, (i6 (rd a1 x353.toNat))), (29, (eSi64 a1)), (30, (i6 (a1.length : Int))), (31, (i6 x353)), (36, (eSi64 a2)), (37, (i6 (a2.length : Int))), (38, (i6 x492))], [(7, (bk (.row 1 (x493.map (AV.int .i64)))))]⟩) (by kernel_rfl) (a_seq (a_block (sr (vp (i6 x492) rfl ?_))))))
              obtain ⟨hc507, h⟩ := ifp_some h
              refine vq (.ref (.row 1 (a2.map (AV.int .i64))) [x492.toNat] [x492.toNat * 1]) rfl (lmap hc507) ?_
              have hl508 : LdOk [x492.toNat] (.row 1 (a2.map (AV.int .i64))) [x492.toNat * 1] 1 false (i6 (rd a2 x492.toNat)) := (.row (llt hc507) rfl (.nil rfl rfl rfl))
              refine vq (i6 (rd a2 x492.toNat)) (ld_ref (i := ⟨.int .i64, 1, 8, (.int .i64 0)⟩) rfl rfl hl508) hl508.c (vp (i6 x492) rfl (vp (i6 (rd a2 x492.toNat)) rfl (nx ⟨[(0, (i6 a0)), (2, (eSi64 a2)), (7, (.osl 7)), (8, (i6 x353)), (9, (i6 (rd a1 x353.toNat))), (10, (i6 x492)), (11, (i6 (rd a2 x492.toNat))), (29, (eSi64 a1)), (30, (i6 (a1.length : Int))), (31, (i6 x353)), (36, (eSi64 a2)), (37, (i6 (a2.length : Int))), (38, (i6 x492))], [(7, (bk (.row 1 (x493.map (AV.int .i64)))))]⟩ (by kernel_rfl) (a_region (vp (.osl 7) rfl (vp (i6 x353) rfl (vp (i6 x492) rfl (vp (i6 (IntKind.i64.wrap (x353 + x492))) rfl ?_))))))))
              obtain ⟨hc509, h⟩ := ifp_some h
              refine vq (.own 7 [(IntKind.i64.wrap (x353 + x492)).toNat] [(IntKind.i64.wrap (x353 + x492)).toNat * 1]) rfl (lmap hc509) ?_
              have hl510 : LdOk [(IntKind.i64.wrap (x353 + x492)).toNat] (.row 1 (x493.map (AV.int .i64))) [(IntKind.i64.wrap (x353 + x492)).toNat * 1] 1 false (i6 ((rd x493 (IntKind.i64.wrap (x353 + x492)).toNat))) := (.row (llt hc509) rfl (.nil rfl rfl rfl))
              refine vq (i6 ((rd x493 (IntKind.i64.wrap (x353 + x492)).toNat))) (ld_own (i := ⟨.int .i64, 1, 8, (.int .i64 0)⟩) rfl rfl rfl hl510) hl510.c (vp (i6 (rd a1 x353.toNat)) rfl (vp (i6 (rd a2 x492.toNat)) rfl (vp (i6 (IntKind.i64.wrap ((rd a1 x353.toNat) * (rd a2 x492.toNat)))) rfl ?_)))
              obtain ⟨x511, hx512, h⟩ := letp_some h
              refine a_val' (v := (i6 (IntKind.i64.wrap (((rd x493 (IntKind.i64.wrap (x353 + x492)).toNat)) + (IntKind.i64.wrap ((rd a1 x353.toNat) * (rd a2 x492.toNat))))))) (v' := (i6 x511)) (u := []) (u' := []) rfl (congrArg (fun z => ((i6 z) : AV)) hx512) rfl trivial rfl ?_
              obtain ⟨hc513, h⟩ := ifp_some h
              refine vq (.own 7 [(IntKind.i64.wrap (x353 + x492)).toNat] [(IntKind.i64.wrap (x353 + x492)).toNat * 1]) rfl (lmap hc513) ?_
              have hs514 : StOk [(IntKind.i64.wrap (x353 + x492)).toNat] (.row 1 (x493.map (AV.int .i64))) [(IntKind.i64.wrap (x353 + x492)).toNat * 1] 1 (i6 x511) (.row 1 (((x493.set (IntKind.i64.wrap (x353 + x492)).toNat x511)).map (AV.int .i64))) := (.row (y := x511) (llt hc513) rfl (.nil rfl rfl rfl rfl))
              refine vu .top [(7, (bk (.row 1 (((x493.set (IntKind.i64.wrap (x353 + x492)).toNat x511)).map (AV.int .i64)))))] (st_own (i := ⟨.int .i64, 1, 8, (.int .i64 0)⟩) rfl rfl (fun _ => rfl) rfl hs514) (hs514.c rfl) rfl (a_nil (b_norm (a_next (σ' := ⟨[(0, (i6 a0)), (2, (eSi64 a2)), (7, (.osl 7)), (8, (i6 x353)), (9, (i6 (rd a1 x353.toNat))), (29, (eSi64 a1)), (30, (i6 (a1.length : Int))), (31, (i6 x353)), (36, (eSi64 a2)), (37, (i6 (a2.length : Int))), (38, (i6 x492))], [(7, (bk (.row 1 (((x493.set (IntKind.i64.wrap (x353 + x492)).toNat x511)).map (AV.int .i64)))))]⟩) (by kernel_rfl) (a_region (vp (i6 (IntKind.i64.wrap (x492 + 1))) rfl (vp (i6 (IntKind.i64.wrap (x492 + 1))) rfl (a_nil ?_)))))))
              cases h
              exact a_again (by kernel_rfl) hX505
    · have h := ite_t hb7 h
      refine a_cond_t rfl (sr (vp (eSi64 ([])) rfl (nx _ rfl (a_ret (t_ret ?_)))))
      refine ⟨.inr rfl, ?_⟩
      rw [Try.results102]
      cases h
      exact ⟨_, _, _, _, _, rfl, trivial, .inl ⟨rfl, .inl rfl⟩, rfl, rfl⟩
  · have h := hy4
    refine a_region (vp (eSi64 a1) rfl (vq (i6 (a1.length : Int)) (len_run rfl rfl) trivial (vp (.bool (((a1.length : Int) == 0))) rfl (vp (.bool (((a1.length : Int) == 0))) rfl ?_))))
    cases hb6 : ((a1.length : Int) == 0)
    · have h := ite_f hb6 h
      refine gp (eSi64 a2) rfl rfl (gq (i6 (a2.length : Int)) rfl (len_run rfl rfl) trivial (gp (.bool (((a2.length : Int) == 0))) rfl rfl (vp (.bool (((a2.length : Int) == 0))) rfl (a_nil ?_))))
      exact j_leaf (((a2.length : Int) == 0)) (Option.some.inj h) (by kernel_rfl)
    · have h := ite_t hb6 h
      refine a_gskip rfl (a_gskip rfl (a_gskip rfl (vp (.bool true) rfl (a_nil ?_))))
      exact j_leaf true (Option.some.inj h) (by kernel_rfl)
def impl_row_degree_c : ACode := (.seq (.region 0 [q 2 (.asg 0 (.const (.int .i64 0)) 2)] false) (.seq (.region 1 [q 3 (.mov (t 0)), q 4 (.blt 0 .len [(t 3)] [80]), q 5 (.bin .sub 2 (t 4) (.const (.int .i64 1))), q 2 (.asg 0 (t 5) 2)] false) .ret))
def impl_row_degree_L : Live := [(0, [0]), (1, [0])]
noncomputable def impl_row_degree (a0 : (List Int)) : Option Int :=
  (some (IntKind.i64.wrap ((a0.length : Int) - 1)))
theorem impl_row_degree_ok (a0 : (List Int)) (r : Int) (h : impl_row_degree a0 = some r) : Den Try.prog 114 [(eSi64 a0)] { r := (i6 r) } := by
  refine den_of (rs := [(i6 r)]) (ac := impl_row_degree_c) (L := impl_row_degree_L) (n := 6) (m := []) (c := Try.f114.body.getD .skip) good Try.func114 (by kernel_rfl) (by kernel_rfl) Try.ntmps114 rfl rfl (by kernel_rfl) rfl rfl ?_
  refine a_st (σ' := ⟨[(0, (eSi64 a0))], []⟩) (by kernel_rfl) ?_
  unfold impl_row_degree_c
  refine sr (vp (i6 0) rfl (nx ⟨[(0, (eSi64 a0))], []⟩ (by kernel_rfl) (sr (vp (eSi64 a0) rfl (vq (i6 (a0.length : Int)) (len_run rfl rfl) trivial (vp (i6 (IntKind.i64.wrap ((a0.length : Int) - 1))) rfl (vp (i6 (IntKind.i64.wrap ((a0.length : Int) - 1))) rfl (nx _ rfl (a_ret ?_)))))))))
  refine ⟨.inr rfl, ?_⟩
  rw [Try.results114]
  cases h
  exact ⟨_, _, _, _, _, rfl, trivial, .inl ⟨rfl, .inl rfl⟩, rfl, rfl⟩
def impl_row_fits_c : ACode := (.seq (.region 0 [q 2 (.asg 0 (.const (.bool false)) 4)] false) (.seq (.region 1 [q 3 (.mov (t 0)), q 4 (.call 0 (.func 114) [(t 3)]), q 5 (.bin .leq 2 (t 4) (.const (.int .i64 63))), q 2 (.asg 0 (t 5) 4)] false) .ret))
def impl_row_fits_L : Live := [(0, [0]), (1, [0])]
noncomputable def impl_row_fits (a0 : (List Int)) : Option Bool :=
  (Option.bind (impl_row_degree a0) fun r1 => (some ((decide (r1 ≤ 63)))))
theorem impl_row_fits_ok (a0 : (List Int)) (r : Bool) (h : impl_row_fits a0 = some r) : Den Try.prog 135 [(eSi64 a0)] { r := (.bool r) } := by
  refine den_of (rs := [(.bool r)]) (ac := impl_row_fits_c) (L := impl_row_fits_L) (n := 6) (m := []) (c := Try.f135.body.getD .skip) good Try.func135 (by kernel_rfl) (by kernel_rfl) Try.ntmps135 rfl rfl (by kernel_rfl) rfl rfl ?_
  refine a_st (σ' := ⟨[(0, (eSi64 a0))], []⟩) (by kernel_rfl) ?_
  unfold impl_row_fits_c
  refine sr (vp (.bool false) rfl (nx ⟨[(0, (eSi64 a0))], []⟩ (by kernel_rfl) (sr (vp (eSi64 a0) rfl ?_))))
  obtain ⟨r1, hr2, h⟩ := bind_some h
  refine a_call (args := [(eSi64 a0)]) (u := []) (r := (i6 r1)) rfl rfl (impl_row_degree_ok a0 r1 hr2) rfl (vp (.bool ((decide (r1 ≤ 63)))) rfl (vp (.bool ((decide (r1 ≤ 63)))) rfl (nx _ rfl (a_ret ?_))))
  refine ⟨.inr rfl, ?_⟩
  rw [Try.results135]
  cases h
  exact ⟨_, _, _, _, _, rfl, trivial, .inl ⟨rfl, .inl rfl⟩, rfl, rfl⟩
def impl_row_poly_c : ACode := (.seq (.region 0 [q 2 (.alloc 25)] false) (.seq (.region 1 [q 3 (.alloc 25)] false) (.seq (.seq (.region 2 [q 6 (.mov (t 0)), q 7 (.blt 0 .len [(t 6)] [80]), q 8 (.mov (.const (.int .i64 0)))] false) (.block 0 (.loop (.seq (.region 3 [q 9 (.bin .lss 3 (t 8) (t 7))] false) (.seq (.cond (t 9) .skip (.exit 0)) (.seq (.block 1 (.seq (.region 4 [q 10 (.mov (t 8)), q 11 (.indexAddr 80 (t 6) (t 8)), q 12 (.load 2 (t 11)), q 4 (.asg 0 (t 10) 3), q 5 (.asg 0 (t 12) 2)] false) (.region 5 [q 13 (.mov (t 4)), q 14 (.mov (t 5)), q 15 (.conv 2 5 (t 14)), q 16 (.indexAddr 25 (t 3) (t 13)), ⟨none, .store 5 (t 16) (t 15), none, []⟩] false))) (.region 6 [q 17 (.bin .add 3 (t 8) (.const (.int .i64 1))), q 8 (.mov (t 17))] false))))))) (.seq (.region 7 [q 18 (.load 25 (t 3)), ⟨none, .store 25 (t 2) (t 18), none, []⟩] false) .ret))))
def impl_row_poly_L : Live := [(0, [0]), (1, [0, 2]), (2, [0, 2, 3]), (3, [2, 3, 6, 7, 8]), (4, [2, 3, 6, 7, 8]), (5, [2, 3, 4, 5, 6, 7, 8]), (6, [2, 3, 6, 7, 8]), (7, [2, 3]), (100009, [2, 3, 6, 7, 8, 9])]
noncomputable def impl_row_poly_l1 (a0 : (List Int)) (x31 : Int) (x32 : (Vec Int 64)) : Option ((Int × (Vec Int 64)) ⊕ (Vec Int 64)) :=
  (if (decide (x31 < (a0.length : Int))) then (ifp (0 ≤ x31 ∧ x31 < ((a0.length : Nat) : Int)) ((ifp (0 ≤ x31 ∧ x31 < ((64 : Nat) : Int)) ((some (.inl ((IntKind.i64.wrap (x31 + 1), (vset x32 x31.toNat (IntKind.u8.wrap (rd a0 x31.toNat))))))))))) else (some (.inr x32)))
noncomputable def impl_row_poly (a0 : (List Int)) : Option (Vec Int 64) :=
  (Option.bind (α := (Vec Int 64)) ((loopM (fun s : (Int × (Vec Int 64)) => impl_row_poly_l1 a0 s.1 s.2) (0, (vrep 64 (0 : Int))))) fun x22 => (some x22))
theorem impl_row_poly_ok (a0 : (List Int)) (r : (Vec Int 64)) (h : impl_row_poly a0 = some r) : Den Try.prog 111 [(eSi64 a0)] { r := (eA64u8 r) } := by
  refine den_of (rs := [(eA64u8 r)]) (ac := impl_row_poly_c) (L := impl_row_poly_L) (n := 19) (m := []) (c := Try.f111.body.getD .skip) good Try.func111 (by kernel_rfl) (by kernel_rfl) Try.ntmps111 rfl rfl (by kernel_rfl) rfl rfl ?_
  refine a_st (σ' := ⟨[(0, (eSi64 a0))], []⟩) (by kernel_rfl) ?_
  unfold impl_row_poly_c
  refine sr (vo 1200 (eA64u8 ((vrep 64 (0 : Int)))) rfl rfl (nx ⟨[(0, (eSi64 a0)), (2, (ow 2))], [(2, (bk (eA64u8 ((vrep 64 (0 : Int))))))]⟩ (by kernel_rfl) (sr (vo 1300 (eA64u8 ((vrep 64 (0 : Int)))) rfl rfl (nx ⟨[(0, (eSi64 a0)), (2, (ow 2)), (3, (ow 3))], [(2, (bk (eA64u8 ((vrep 64 (0 : Int)))))), (3, (bk (eA64u8 ((vrep 64 (0 : Int))))))]⟩ (by kernel_rfl) ?_)))))
  obtain ⟨y23, hy24, hk25⟩ := bind_some h
  clear h
  refine a_join (emb := fun (s : (Vec Int 64)) => ⟨[(2, (ow 2)), (3, (ow 3))], [(2, (bk (eA64u8 ((vrep 64 (0 : Int)))))), (3, (bk (eA64u8 s)))]⟩) (pre := fun s => s = y23) ?_ ?_
  · rintro x22 rfl
    have h := hk25
    refine a_st (σ' := ⟨[(2, (ow 2)), (3, (ow 3))], [(2, (bk (eA64u8 ((vrep 64 (0 : Int)))))), (3, (bk (eA64u8 x22)))]⟩) (by kernel_rfl) (sr (vl (eA64u8 x22) rfl rfl rfl rfl rfl rfl (vs (eA64u8 x22) rfl rfl (fun _ => rfl) rfl rfl rfl rfl rfl rfl (nx _ rfl (a_ret ?_)))))
    have hl49 : LdOk [] (eA64u8 x22) [] 64 true (eA64u8 x22) := (.nil rfl rfl rfl)
    refine ⟨.inr rfl, ?_⟩
    rw [Try.results111]
    cases h
    exact ⟨_, _, _, _, _, ld_own (i := ⟨.arr 64 5, 64, 64, (eA64u8 (vrep 64 (0 : Int)))⟩) rfl rfl rfl hl49, hl49.c, .inl ⟨rfl, .inl rfl⟩, rfl, rfl⟩
  · have h := hy24
    refine sr (vp (eSi64 a0) rfl (vq (i6 (a0.length : Int)) (len_run rfl rfl) trivial (vp (i6 0) rfl (nx ⟨[(2, (ow 2)), (3, (ow 3)), (6, (eSi64 a0)), (7, (i6 (a0.length : Int))), (8, (i6 0))], [(2, (bk (eA64u8 ((vrep 64 (0 : Int)))))), (3, (bk (eA64u8 ((vrep 64 (0 : Int))))))]⟩ (by kernel_rfl) (a_block ?_)))))
    refine a_loop (emb := fun (s : (Int × (Vec Int 64))) => ⟨[(2, (ow 2)), (3, (ow 3)), (6, (eSi64 a0)), (7, (i6 (a0.length : Int))), (8, (i6 s.1))], [(2, (bk (eA64u8 ((vrep 64 (0 : Int)))))), (3, (bk (eA64u8 s.2)))]⟩) (body := (fun s : (Int × (Vec Int 64)) => impl_row_poly_l1 a0 s.1 s.2)) (G := fun q => some q = some y23) h rfl ?_ (by kernel_rfl)
    rintro X38 ⟨x31, x32⟩ x39 h hX40
    have h : impl_row_poly_l1 a0 x31 x32 = some x39 := h
    refine a_st (σ' := ⟨[(2, (ow 2)), (3, (ow 3)), (6, (eSi64 a0)), (7, (i6 (a0.length : Int))), (8, (i6 x31))], [(2, (bk (eA64u8 ((vrep 64 (0 : Int)))))), (3, (bk (eA64u8 x32)))]⟩) (by kernel_rfl) (sr (vp (.bool ((decide (x31 < (a0.length : Int))))) rfl (nx ⟨[(2, (ow 2)), (3, (ow 3)), (6, (eSi64 a0)), (7, (i6 (a0.length : Int))), (8, (i6 x31)), (9, (.bool ((decide (x31 < (a0.length : Int))))))], [(2, (bk (eA64u8 ((vrep 64 (0 : Int)))))), (3, (bk (eA64u8 x32)))]⟩ (by kernel_rfl) (a_seq ?_))))
    cases hb41 : (decide (x31 < (a0.length : Int)))
    · have h := ite_f hb41 h
      refine a_cond_f rfl (a_exit (t_exit ?_))
      cases h
      have h := hX40
      refine t_exit (b_exit ?_)
      exact j_leaf x32 (Option.some.inj h) (by kernel_rfl)
    · have h := ite_t hb41 h
      refine a_cond_t rfl (a_skip (a_next (σ' := ⟨[(2, (ow 2)), (3, (ow 3)), (6, (eSi64 a0)), (7, (i6 (a0.length : Int))), (8, (i6 x31))], [(2, (bk (eA64u8 ((vrep 64 (0 : Int)))))), (3, (bk (eA64u8 x32)))]⟩) (by kernel_rfl) (a_seq (a_block (sr (vp (i6 x31) rfl ?_))))))
      obtain ⟨hc42, h⟩ := ifp_some h
      refine vq (.ref (.row 1 (a0.map (AV.int .i64))) [x31.toNat] [x31.toNat * 1]) rfl (lmap hc42) ?_
      have hl43 : LdOk [x31.toNat] (.row 1 (a0.map (AV.int .i64))) [x31.toNat * 1] 1 false (i6 (rd a0 x31.toNat)) := (.row (llt hc42) rfl (.nil rfl rfl rfl))
      refine vq (i6 (rd a0 x31.toNat)) (ld_ref (i := ⟨.int .i64, 1, 8, (.int .i64 0)⟩) rfl rfl hl43) hl43.c (vp (i6 x31) rfl (vp (i6 (rd a0 x31.toNat)) rfl (nx ⟨[(2, (ow 2)), (3, (ow 3)), (4, (i6 x31)), (5, (i6 (rd a0 x31.toNat))), (6, (eSi64 a0)), (7, (i6 (a0.length : Int))), (8, (i6 x31))], [(2, (bk (eA64u8 ((vrep 64 (0 : Int)))))), (3, (bk (eA64u8 x32)))]⟩ (by kernel_rfl) (a_region (vp (i6 x31) rfl (vp (i6 (rd a0 x31.toNat)) rfl (vp (b8 (IntKind.u8.wrap (rd a0 x31.toNat))) rfl ?_)))))))
      obtain ⟨hc44, h⟩ := ifp_some h
      refine vq (.own 3 [x31.toNat] [x31.toNat * 1]) rfl hc44 ?_
      have hs45 : StOk [x31.toNat] (eA64u8 x32) [x31.toNat * 1] 1 (b8 (IntKind.u8.wrap (rd a0 x31.toNat))) (eA64u8 ((vset x32 x31.toNat (IntKind.u8.wrap (rd a0 x31.toNat))))) := (.arr (y := IntKind.u8.wrap (rd a0 x31.toNat)) (vlt x32 hc44) rfl (.nil rfl rfl rfl rfl))
      refine vu .top [(3, (bk (eA64u8 ((vset x32 x31.toNat (IntKind.u8.wrap (rd a0 x31.toNat)))))))] (st_own (i := ⟨.int .u8, 1, 1, (.int .u8 0)⟩) rfl rfl (fun _ => rfl) rfl hs45) (hs45.c rfl) rfl (a_nil (b_norm (a_next (σ' := ⟨[(2, (ow 2)), (3, (ow 3)), (6, (eSi64 a0)), (7, (i6 (a0.length : Int))), (8, (i6 x31))], [(2, (bk (eA64u8 ((vrep 64 (0 : Int)))))), (3, (bk (eA64u8 ((vset x32 x31.toNat (IntKind.u8.wrap (rd a0 x31.toNat)))))))]⟩) (by kernel_rfl) (a_region (vp (i6 (IntKind.i64.wrap (x31 + 1))) rfl (vp (i6 (IntKind.i64.wrap (x31 + 1))) rfl (a_nil ?_)))))))
      cases h
      exact a_again (by kernel_rfl) hX40
end Go.Proofs.Ytkbnegemdlnncaa
