/- Functions of the program: plain Lean functions, and that the program computes them. Printed by gen.py. -/
import Derived.Test.YtkbnegemdlnncaaFnT
import Derived.Test.YtkbnegemdlnncaaFn1
import Derived.Test.YtkbnegemdlnncaaFn2
import Derived.Test.YtkbnegemdlnncaaFn3
import Derived.Test.YtkbnegemdlnncaaFn4
import Derived.Test.YtkbnegemdlnncaaFn5
namespace Go.Proofs.Ytkbnegemdlnncaa
open Go.Abs Go.Proofs
set_option linter.unusedSimpArgs false
set_option linter.unusedVariables false
set_option maxHeartbeats 16000000
attribute [local irreducible] Abs.acode Abs.aops Abs.aopsT Abs.thenK Abs.blockK

def impl_letter_c : ACode := (.seq (.region 0 [q 0 (.asg 1 (.const (.slice none 0 0)) 80)] false) (.seq (.region 1 [q 1 (.bslice 0 80 2 [(0, (.const (.int .i64 0))), (1, (.const (.int .i64 1)))]), q 0 (.asg 1 (t 1) 80)] false) .ret))
def impl_letter_L : Live := [(0, []), (1, [])]
noncomputable def impl_letter  : Option (List Int) :=
  (some ([0, 1]))
theorem impl_letter_ok  (r : (List Int)) (h : impl_letter = some r) : Den Try.prog 163 [] { r := (eSi64 r) } := by
  refine den_of (rs := [(eSi64 r)]) (ac := impl_letter_c) (L := impl_letter_L) (n := 2) (m := [(0, 1)]) (c := Try.f163.body.getD .skip) good Try.func163 (by kernel_rfl) (by kernel_rfl) Try.ntmps163 rfl rfl (by kernel_rfl) rfl rfl ?_
  refine a_st (σ' := ⟨[], []⟩) (by kernel_rfl) ?_
  unfold impl_letter_c
  refine sr (vp (eSi64 ([])) rfl (nx ⟨[], []⟩ (by kernel_rfl) (sr (vq (.sl 1 true (([0, 1]).map (AV.int .i64))) rfl ⟨(Nat.le_of_ble_eq_true rfl), (Nat.le_of_ble_eq_true rfl), (all_cons ⟨(Nat.le_of_ble_eq_true rfl), rfl⟩ (all_cons ⟨(Nat.le_of_ble_eq_true rfl), rfl⟩ all_nil))⟩ (vq (eSi64 ([0, 1])) (asg_tight (i := ⟨.int .i64, 1, 8, (.int .i64 0)⟩) (f := (AV.int .i64)) (l := [0, 1]) rfl rfl rfl) trivial (nx _ rfl (a_ret ?_)))))))
  refine ⟨.inr rfl, ?_⟩
  rw [Try.results163]
  cases h
  exact ⟨_, _, _, _, _, rfl, trivial, .inl ⟨rfl, .inl rfl⟩, rfl, rfl⟩
def impl_DigitsOfQuotient_c : ACode := (.seq (.region 0 [q 5 (.box 25 (t 1)), q 6 (.box 25 (t 2)), q 8 (.asg 1 (.const (.slice none 0 0)) 59), q 9 (.asg 0 (.const (.int .i64 0)) 2)] false) (.seq (.region 1 [q 17 (.load 25 (t 5)), ⟨some 18, .call 0 (.func 103) [(t 17)], none, [0]⟩, q 19 (.load 25 (t 6)), ⟨some 20, .call 0 (.func 103) [(t 19)], none, [2, 1]⟩, ⟨some 10, .asg 1 (t 18) 80, none, [1, 3, 0, 1]⟩, ⟨some 11, .asg 1 (t 20) 80, none, [3, 4, 0, 1, 2, 3, 4]⟩] true) (.seq (.seq (.region 2 [q 21 (.mov (t 0)), q 22 (.load 25 (t 5)), q 23 (.load 25 (t 6)), q 24 (.mov (t 3)), ⟨some 25, .call 0 (.func 161) [(t 24)], none, [3]⟩, ⟨some 26, .mov (t 25), none, [4, 4]⟩, ⟨some 27, .mov (t 10), some (26, true), [5]⟩, ⟨some 28, .call 0 (.func 114) [(t 27)], some (26, true), [6, 5, 5]⟩, ⟨some 29, .bin .leq 2 (t 28) (.const (.int .i64 62)), some (26, true), [7, 5]⟩, ⟨some 30, .pick (t 26) (t 29) (.const (.bool false)), none, [5, 8]⟩, ⟨some 31, .mov (t 30), none, [9, 7]⟩, ⟨some 32, .mov (t 11), some (31, true), [10]⟩, ⟨some 33, .call 0 (.func 114) [(t 32)], some (31, true), [11, 10, 10]⟩, ⟨some 34, .bin .leq 2 (t 33) (.const (.int .i64 62)), some (31, true), [12, 10]⟩, ⟨some 35, .pick (t 31) (t 34) (.const (.bool false)), none, [10, 13]⟩, ⟨some 36, .call 0 (.func 138) [(t 21), (t 22), (t 23), (t 35)], none, [0, 1, 2, 14, 12]⟩, ⟨some 12, .asg 0 (t 36) 2, none, [15, 15, 0, 1, 2, 3, 4, 5, 6, 7, 8, 9, 10, 11, 12, 13, 14, 15]⟩] true) (.seq (.region 3 [q 37 (.mov (t 12)), q 38 (.bin .neq 2 (t 37) (.const (.int .i64 0)))] false) (.cond (t 38) (.seq (.region 4 [q 39 (.mov (t 12)), q 8 (.asg 1 (.const (.slice none 0 0)) 59), q 9 (.asg 0 (t 39) 2)] false) .ret) .skip))) (.seq (.region 5 [q 40 (.mov (t 0)), q 41 (.mov (t 10)), q 42 (.mov (t 11)), q 43 (.call 0 (.func 162) [(t 40), (t 41), (t 42)]), q 13 (.asg 1 (t 43) 80)] false) (.seq (.region 6 [q 14 (.asg 2 (.const (.slice none 0 0)) 59)] false) (.seq (.seq (.region 7 [q 44 (.mov (t 3)), q 45 (.mov (.const (.int .i64 0)))] false) (.block 0 (.loop (.seq (.region 8 [q 46 (.bin .lss 2 (t 45) (t 44))] false) (.seq (.cond (t 46) .skip (.exit 0)) (.seq (.block 1 (.seq (.region 9 [q 48 (.mov (t 0)), q 49 (.mov (t 0)), q 50 (.call 0 (.func 163) []), q 51 (.mov (t 13)), q 52 (.call 0 (.func 102) [(t 49), (t 50), (t 51)]), q 53 (.mov (t 11)), q 54 (.call 0 (.func 110) [(t 48), (t 52), (t 53)]), q 47 (.mov (t 54)), q 55 (.extract (t 47) 0), q 56 (.extract (t 47) 1), q 15 (.asg 1 (t 55) 80), q 16 (.asg 1 (t 56) 80)] false) (.seq (.region 10 [q 57 (.mov (t 14)), q 58 (.mov (t 15)), q 59 (.call 0 (.func 164) [(t 58), (.const (.int .i64 0))]), q 60 (.bslice 0 59 1 [(0, (t 59))]), q 61 (.blt 0 .append [(t 57), (t 60)] [59, 59]), q 14 (.asg 2 (t 61) 59)] false) (.region 11 [q 62 (.mov (t 16)), q 13 (.asg 1 (t 62) 80)] false)))) (.region 12 [q 63 (.bin .add 2 (t 45) (.const (.int .i64 1))), q 45 (.mov (t 63))] false))))))) (.seq (.region 13 [q 64 (.mov (t 14)), q 8 (.asg 1 (t 64) 59), q 9 (.asg 0 (.const (.int .i64 0)) 2)] false) .ret)))))))
def impl_DigitsOfQuotient_L : Live := [(0, [0, 1, 2, 3]), (1, [0, 3, 5, 6]), (2, [0, 3, 5, 6, 10, 11]), (3, [0, 3, 10, 11, 12]), (4, [12]), (5, [0, 3, 10, 11]), (6, [0, 3, 11, 13]), (7, [0, 3, 11, 13, 14]), (8, [0, 11, 13, 14, 44, 45]), (9, [0, 11, 13, 14, 44, 45]), (10, [0, 11, 14, 15, 16, 44, 45]), (11, [0, 11, 14, 16, 44, 45]), (12, [0, 11, 13, 14, 44, 45]), (13, [14]), (100038, [0, 3, 10, 11, 12, 38]), (100046, [0, 11, 13, 14, 44, 45, 46])]
noncomputable def impl_DigitsOfQuotient_l1 (a3 : Int) (a0 : Int) (r11 : (List Int)) (x135 : (List Int)) (x136 : Int) (x137 : (List Int)) : Option (((List Int) × Int × (List Int)) ⊕ (List Int)) :=
  (if (decide (x136 < a3)) then (Option.bind (impl_letter) fun r152 => (Option.bind (impl_prime_times a0 r152 x135) fun r154 => (Option.bind (impl_prime_divide a0 r154 r11) fun r156 => (Option.bind (impl_row_at r156.1 0) fun r158 => (ifp ((x137.length + ([r158] : List Int).length) * 8 ≤ 140737488355328) ((some (.inl ((r156.2, IntKind.i64.wrap (x136 + 1), (x137 ++ ([r158])))))))))))) else (some (.inr x137)))
noncomputable def impl_DigitsOfQuotient (a0 : Int) (a1 : (Vec Int 64)) (a2 : (Vec Int 64)) (a3 : Int) : Option ((List Int) × Int) :=
  (Option.bind (impl_rowOf a1) fun r8 => (Option.bind (impl_rowOf a2) fun r11 => (Option.bind (α := Int) ((Option.bind (impl_isDigits a3) fun r67 => (if r67 then (Option.bind (impl_row_degree r8) fun r72 => (if (decide (r72 ≤ 62)) then (Option.bind (impl_row_degree r11) fun r77 => (Option.bind (impl_quotientCode a0 a1 a2 ((decide (r77 ≤ 62)))) fun r79 => (some r79))) else (Option.bind (impl_quotientCode a0 a1 a2 false) fun r75 => (some r75)))) else (Option.bind (impl_quotientCode a0 a1 a2 false) fun r70 => (some r70))))) fun x45 => (if (x45 != 0) then (some ([], x45)) else (Option.bind (impl_prime_rest a0 r8 r11) fun r82 => (Option.bind (α := (List Int)) ((loopM (fun s : ((List Int) × Int × (List Int)) => impl_DigitsOfQuotient_l1 a3 a0 r11 s.1 s.2.1 s.2.2) (r82, 0, []))) fun x121 => (some (x121, 0))))))))
theorem impl_DigitsOfQuotient_ok (a0 : Int) (a1 : (Vec Int 64)) (a2 : (Vec Int 64)) (a3 : Int) (r : ((List Int) × Int)) (h : impl_DigitsOfQuotient a0 a1 a2 a3 = some r) : Den Try.prog 76 [(i6 a0), (eA64u8 a1), (eA64u8 a2), (i6 a3)] { r := (.tuple [(eSi64 r.1), (i6 r.2)]) } := by
  refine den_of (rs := [(eSi64 r.1), (i6 r.2)]) (ac := impl_DigitsOfQuotient_c) (L := impl_DigitsOfQuotient_L) (n := 65) (m := [(8, 1), (10, 1), (11, 1), (13, 1), (14, 2), (15, 1), (16, 1)]) (c := Try.f76.body.getD .skip) good Try.func76 (by kernel_rfl) (by kernel_rfl) Try.ntmps76 rfl rfl (by kernel_rfl) rfl rfl ?_
  refine a_st (σ' := ⟨[(0, (i6 a0)), (1, (eA64u8 a1)), (2, (eA64u8 a2)), (3, (i6 a3))], []⟩) (by kernel_rfl) ?_
  unfold impl_DigitsOfQuotient_c
  refine sr (vo 1500 (eA64u8 a1) rfl rfl (vo 1600 (eA64u8 a2) rfl rfl (vp (eSi64 ([])) rfl (vp (i6 0) rfl (nx ⟨[(0, (i6 a0)), (3, (i6 a3)), (5, (ow 5)), (6, (ow 6))], [(5, (bk (eA64u8 a1))), (6, (bk (eA64u8 a2)))]⟩ (by kernel_rfl) (a_seq (a_draw [⟨[5], [], [], []⟩, ⟨[], [], [], [0]⟩, ⟨[6], [], [], []⟩, ⟨[], [], [], [0, 1, 2]⟩, ⟨[], [], [], [0, 1, 2, 3]⟩, ⟨[], [], [], [0, 1, 2, 3, 4]⟩] (by kernel_rfl) (d_cons (vl (eA64u8 a1) rfl rfl rfl rfl rfl rfl ?_)))))))))
  refine d_next (by kernel_rfl) (d_cons ?_)
  obtain ⟨r8, hr9, h⟩ := bind_some h
  refine a_call (args := [(eA64u8 a1)]) (u := []) (r := (eSi64 r8)) rfl rfl (impl_rowOf_ok a1 r8 hr9) rfl (d_next (by kernel_rfl) (d_cons (vl (eA64u8 a2) rfl rfl rfl rfl rfl rfl (d_next (by kernel_rfl) (d_cons ?_)))))
  obtain ⟨r11, hr12, h⟩ := bind_some h
  refine a_call (args := [(eA64u8 a2)]) (u := []) (r := (eSi64 r11)) rfl rfl (impl_rowOf_ok a2 r11 hr12) rfl (d_next (by kernel_rfl) (dp (eSi64 r8) rfl (by kernel_rfl) (dp (eSi64 r11) rfl (by kernel_rfl) (d_nil (a_next (σ' := ⟨[(0, (i6 a0)), (3, (i6 a3)), (5, (ow 5)), (6, (ow 6)), (10, (eSi64 r8)), (11, (eSi64 r11))], [(5, (bk (eA64u8 a1))), (6, (bk (eA64u8 a2)))]⟩) (by kernel_rfl) (a_seq ?_))))))
  obtain ⟨y46, hy47, hk48⟩ := bind_some h
  clear h
  refine a_join (emb := fun (s : Int) => ⟨[(0, (i6 a0)), (3, (i6 a3)), (10, (eSi64 r8)), (11, (eSi64 r11)), (12, (i6 s))], []⟩) (pre := fun s => s = y46) ?_ ?_
  · rintro x45 rfl
    have h := hk48
    refine a_st (σ' := ⟨[(0, (i6 a0)), (3, (i6 a3)), (10, (eSi64 r8)), (11, (eSi64 r11)), (12, (i6 x45))], []⟩) (by kernel_rfl) (sr (vp (i6 x45) rfl (vp (.bool (x45 != 0)) rfl (nx ⟨[(0, (i6 a0)), (3, (i6 a3)), (10, (eSi64 r8)), (11, (eSi64 r11)), (12, (i6 x45)), (38, (.bool (x45 != 0)))], []⟩ (by kernel_rfl) ?_))))
    cases hb81 : (x45 != 0)
    · have h := ite_f hb81 h
      refine a_cond_f rfl (a_skip (a_next (σ' := ⟨[(0, (i6 a0)), (3, (i6 a3)), (10, (eSi64 r8)), (11, (eSi64 r11))], []⟩) (by kernel_rfl) (sr (vp (i6 a0) rfl (vp (eSi64 r8) rfl (vp (eSi64 r11) rfl ?_))))))
      obtain ⟨r82, hr83, h⟩ := bind_some h
      refine a_call (args := [(i6 a0), (eSi64 r8), (eSi64 r11)]) (u := []) (r := (eSi64 r82)) rfl rfl (impl_prime_rest_ok a0 r8 r11 r82 hr83) rfl (vp (eSi64 r82) rfl (nx ⟨[(0, (i6 a0)), (3, (i6 a3)), (11, (eSi64 r11)), (13, (eSi64 r82))], []⟩ (by kernel_rfl) (sr (vu (.osl 2400) [(2400, (bk (.row 1 (([]).map (AV.int .i64)))))] rfl trivial rfl (nx ⟨[(0, (i6 a0)), (3, (i6 a3)), (11, (eSi64 r11)), (13, (eSi64 r82)), (14, (.osl 14))], [(14, (bk (.row 1 (([]).map (AV.int .i64)))))]⟩ (by kernel_rfl) ?_)))))
      obtain ⟨y122, hy123, hk124⟩ := bind_some h
      clear h
      refine a_join (emb := fun (s : (List Int)) => ⟨[(14, (.osl 14))], [(14, (bk (.row 1 (s.map (AV.int .i64)))))]⟩) (pre := fun s => s = y122) ?_ ?_
      · rintro x121 rfl
        have h := hk124
        refine a_st (σ' := ⟨[(14, (.osl 14))], [(14, (bk (.row 1 (x121.map (AV.int .i64)))))]⟩) (by kernel_rfl) (sr (vp (.osl 14) rfl (vu (eSi64 x121) [(14, (bf (.row 1 (x121.map (AV.int .i64)))))] rfl trivial rfl (vp (i6 0) rfl (nx _ rfl (a_ret ?_))))))
        refine ⟨.inr rfl, ?_⟩
        rw [Try.results76]
        cases h
        exact ⟨_, _, _, _, _, rfl, trivial, .inl ⟨rfl, .inl rfl⟩, rfl, ⟨_, _, _, _, _, rfl, trivial, .inl ⟨rfl, .inl rfl⟩, rfl, rfl⟩⟩
      · have h := hy123
        refine sr (vp (i6 a3) rfl (vp (i6 0) rfl (nx ⟨[(0, (i6 a0)), (11, (eSi64 r11)), (13, (eSi64 r82)), (14, (.osl 14)), (44, (i6 a3)), (45, (i6 0))], [(14, (bk (.row 1 (([]).map (AV.int .i64)))))]⟩ (by kernel_rfl) (a_block ?_))))
        refine a_loop (emb := fun (s : ((List Int) × Int × (List Int))) => ⟨[(0, (i6 a0)), (11, (eSi64 r11)), (13, (eSi64 s.1)), (14, (.osl 14)), (44, (i6 a3)), (45, (i6 s.2.1))], [(14, (bk (.row 1 (s.2.2.map (AV.int .i64)))))]⟩) (body := (fun s : ((List Int) × Int × (List Int)) => impl_DigitsOfQuotient_l1 a3 a0 r11 s.1 s.2.1 s.2.2)) (G := fun q => some q = some y122) h rfl ?_ (by kernel_rfl)
        rintro X148 ⟨x135, x136, x137⟩ x149 h hX150
        have h : impl_DigitsOfQuotient_l1 a3 a0 r11 x135 x136 x137 = some x149 := h
        refine a_st (σ' := ⟨[(0, (i6 a0)), (11, (eSi64 r11)), (13, (eSi64 x135)), (14, (.osl 14)), (44, (i6 a3)), (45, (i6 x136))], [(14, (bk (.row 1 (x137.map (AV.int .i64)))))]⟩) (by kernel_rfl) (sr (vp (.bool ((decide (x136 < a3)))) rfl (nx ⟨[(0, (i6 a0)), (11, (eSi64 r11)), (13, (eSi64 x135)), (14, (.osl 14)), (44, (i6 a3)), (45, (i6 x136)), (46, (.bool ((decide (x136 < a3)))))], [(14, (bk (.row 1 (x137.map (AV.int .i64)))))]⟩ (by kernel_rfl) (a_seq ?_))))
        cases hb151 : (decide (x136 < a3))
        · have h := ite_f hb151 h
          refine a_cond_f rfl (a_exit (t_exit ?_))
          cases h
          have h := hX150
          refine t_exit (b_exit ?_)
          exact j_leaf x137 (Option.some.inj h) (by kernel_rfl)
        · have h := ite_t hb151 h
          refine a_cond_t rfl (a_skip (a_next (σ' := ⟨[(0, (i6 a0)), (11, (eSi64 r11)), (13, (eSi64 x135)), (14, (.osl 14)), (44, (i6 a3)), (45, (i6 x136))], [(14, (bk (.row 1 (x137.map (AV.int .i64)))))]⟩) (by kernel_rfl) (a_seq (a_block (sr (vp (i6 a0) rfl (vp (i6 a0) rfl ?_)))))))
          obtain ⟨r152, hr153, h⟩ := bind_some h
          refine a_call (args := []) (u := []) (r := (eSi64 r152)) rfl rfl (impl_letter_ok r152 hr153) rfl (vp (eSi64 x135) rfl ?_)
          obtain ⟨r154, hr155, h⟩ := bind_some h
          refine a_call (args := [(i6 a0), (eSi64 r152), (eSi64 x135)]) (u := []) (r := (eSi64 r154)) rfl rfl (impl_prime_times_ok a0 r152 x135 r154 hr155) rfl (vp (eSi64 r11) rfl ?_)
          obtain ⟨r156, hr157, h⟩ := bind_some h
          refine a_call (args := [(i6 a0), (eSi64 r154), (eSi64 r11)]) (u := []) (r := (.tuple [(eSi64 r156.1), (eSi64 r156.2)])) rfl rfl (impl_prime_divide_ok a0 r154 r11 r156 hr157) rfl (vp (.tuple [(eSi64 r156.1), (eSi64 r156.2)]) rfl (vb (eSi64 r156.1) rfl rfl (vb (eSi64 r156.2) rfl rfl (vp (eSi64 r156.1) rfl (vp (eSi64 r156.2) rfl (nx ⟨[(0, (i6 a0)), (11, (eSi64 r11)), (14, (.osl 14)), (15, (eSi64 r156.1)), (16, (eSi64 r156.2)), (44, (i6 a3)), (45, (i6 x136))], [(14, (bk (.row 1 (x137.map (AV.int .i64)))))]⟩ (by kernel_rfl) (sr (vp (.osl 14) rfl (vp (eSi64 r156.1) rfl ?_)))))))))
          obtain ⟨r158, hr159, h⟩ := bind_some h
          refine a_call (args := [(eSi64 r156.1), (i6 0)]) (u := []) (r := (i6 r158)) rfl rfl (impl_row_at_ok r156.1 0 r158 hr159) rfl (vq (.sl 1 true (([r158]).map (AV.int .i64))) rfl ⟨(Nat.le_of_ble_eq_true rfl), (Nat.le_of_ble_eq_true rfl), (all_cons ⟨(Nat.le_of_ble_eq_true rfl), rfl⟩ all_nil)⟩ ?_)
          obtain ⟨hc160, h⟩ := ifp_some h
          refine vu (.osl 7100) [(7100, (bk (.row 1 (((x137 ++ ([r158]))).map (AV.int .i64))))), (14, none)] (app_run (i := ⟨.int .i64, 1, 8, (.int .i64 0)⟩) (f := (AV.int .i64)) (l := x137) (l2 := [r158]) rfl rfl rfl rfl (fun _ => rfl) rfl rfl) (app_c (f := (AV.int .i64)) (s := 1) (sz := 1) (by' := 8) (u := []) (id := 14) hc160 (.inr rfl) rfl rfl rfl) rfl (vp (.osl 7100) rfl (nx ⟨[(0, (i6 a0)), (11, (eSi64 r11)), (14, (.osl 14)), (16, (eSi64 r156.2)), (44, (i6 a3)), (45, (i6 x136))], [(14, (bk (.row 1 (((x137 ++ ([r158]))).map (AV.int .i64)))))]⟩ (by kernel_rfl) (a_region (vp (eSi64 r156.2) rfl (vp (eSi64 r156.2) rfl (a_nil (b_norm (a_next (σ' := ⟨[(0, (i6 a0)), (11, (eSi64 r11)), (13, (eSi64 r156.2)), (14, (.osl 14)), (44, (i6 a3)), (45, (i6 x136))], [(14, (bk (.row 1 (((x137 ++ ([r158]))).map (AV.int .i64)))))]⟩) (by kernel_rfl) (a_region ?_)))))))))
          refine vp (i6 (IntKind.i64.wrap (x136 + 1))) rfl (vp (i6 (IntKind.i64.wrap (x136 + 1))) rfl (a_nil ?_))
          cases h
          exact a_again (by kernel_rfl) hX150
    · have h := ite_t hb81 h
      refine a_cond_t rfl (sr (vp (i6 x45) rfl (vp (eSi64 ([])) rfl (vp (i6 x45) rfl (nx _ rfl (a_ret (t_ret ?_)))))))
      refine ⟨.inr rfl, ?_⟩
      rw [Try.results76]
      cases h
      exact ⟨_, _, _, _, _, rfl, trivial, .inl ⟨rfl, .inl rfl⟩, rfl, ⟨_, _, _, _, _, rfl, trivial, .inl ⟨rfl, .inl rfl⟩, rfl, rfl⟩⟩
  · have h := hy47
    refine a_draw [⟨[], [], [], []⟩, ⟨[5], [], [], []⟩, ⟨[6], [], [], []⟩, ⟨[], [], [], []⟩, ⟨[], [], [], [3]⟩, ⟨[], [], [], [3, 4]⟩, ⟨[], [], [], [3, 4, 5]⟩, ⟨[], [], [], [3, 4, 5, 6]⟩, ⟨[], [], [], [3, 4, 5, 6, 7]⟩, ⟨[], [], [], [3, 4, 5, 6, 7, 8]⟩, ⟨[], [], [], [3, 4, 5, 6, 7, 8, 9]⟩, ⟨[], [], [], [3, 4, 5, 6, 7, 8, 9, 10]⟩, ⟨[], [], [], [3, 4, 5, 6, 7, 8, 9, 10, 11]⟩, ⟨[], [], [], [3, 4, 5, 6, 7, 8, 9, 10, 11, 12]⟩, ⟨[], [], [], [3, 4, 5, 6, 7, 8, 9, 10, 11, 12, 13]⟩, ⟨[], [], [], [0, 1, 2, 3, 4, 5, 6, 7, 8, 9, 10, 11, 12, 13, 14]⟩, ⟨[], [], [], [0, 1, 2, 3, 4, 5, 6, 7, 8, 9, 10, 11, 12, 13, 14, 15]⟩] (by kernel_rfl) (dp (i6 a0) rfl (by kernel_rfl) (d_cons (vl (eA64u8 a1) rfl rfl rfl rfl rfl rfl (d_next (by kernel_rfl) (d_cons (vl (eA64u8 a2) rfl rfl rfl rfl rfl rfl (d_next (by kernel_rfl) (dp (i6 a3) rfl (by kernel_rfl) (d_cons ?_)))))))))
    obtain ⟨r67, hr68, h⟩ := bind_some h
    refine a_call (args := [(i6 a3)]) (u := []) (r := (.bool r67)) rfl rfl (impl_isDigits_ok a3 r67 hr68) rfl (d_next (by kernel_rfl) (dp (.bool r67) rfl (by kernel_rfl) ?_))
    cases hb69 : r67
    · have h := ite_f hb69 h
      refine dk rfl (by kernel_rfl) (dk rfl (by kernel_rfl) (dk rfl (by kernel_rfl) (dp (.bool false) rfl (by kernel_rfl) (dp (.bool false) rfl (by kernel_rfl) (dk rfl (by kernel_rfl) (dk rfl (by kernel_rfl) (dk rfl (by kernel_rfl) (dp (.bool false) rfl (by kernel_rfl) (d_cons ?_)))))))))
      obtain ⟨r70, hr71, h⟩ := bind_some h
      refine a_call (args := [(i6 a0), (eA64u8 a1), (eA64u8 a2), (.bool false)]) (u := []) (r := (i6 r70)) rfl rfl (impl_quotientCode_ok a0 a1 a2 false r70 hr71) rfl (d_next (by kernel_rfl) (dp (i6 r70) rfl (by kernel_rfl) (d_nil ?_)))
      exact j_leaf r70 (Option.some.inj h) (by kernel_rfl)
    · have h := ite_t hb69 h
      refine dg (eSi64 r8) rfl rfl (by kernel_rfl) (d_cons ?_)
      obtain ⟨r72, hr73, h⟩ := bind_some h
      refine a_gcall rfl (args := [(eSi64 r8)]) (u := []) (r := (i6 r72)) rfl rfl (impl_row_degree_ok r8 r72 hr73) rfl (d_next (by kernel_rfl) (dg (.bool ((decide (r72 ≤ 62)))) rfl rfl (by kernel_rfl) (dp (.bool ((decide (r72 ≤ 62)))) rfl (by kernel_rfl) (dp (.bool ((decide (r72 ≤ 62)))) rfl (by kernel_rfl) ?_))))
      cases hb74 : (decide (r72 ≤ 62))
      · have h := ite_f hb74 h
        refine dk rfl (by kernel_rfl) (dk rfl (by kernel_rfl) (dk rfl (by kernel_rfl) (dp (.bool false) rfl (by kernel_rfl) (d_cons ?_))))
        obtain ⟨r75, hr76, h⟩ := bind_some h
        refine a_call (args := [(i6 a0), (eA64u8 a1), (eA64u8 a2), (.bool false)]) (u := []) (r := (i6 r75)) rfl rfl (impl_quotientCode_ok a0 a1 a2 false r75 hr76) rfl (d_next (by kernel_rfl) (dp (i6 r75) rfl (by kernel_rfl) (d_nil ?_)))
        exact j_leaf r75 (Option.some.inj h) (by kernel_rfl)
      · have h := ite_t hb74 h
        refine dg (eSi64 r11) rfl rfl (by kernel_rfl) (d_cons ?_)
        obtain ⟨r77, hr78, h⟩ := bind_some h
        refine a_gcall rfl (args := [(eSi64 r11)]) (u := []) (r := (i6 r77)) rfl rfl (impl_row_degree_ok r11 r77 hr78) rfl (d_next (by kernel_rfl) (dg (.bool ((decide (r77 ≤ 62)))) rfl rfl (by kernel_rfl) (dp (.bool ((decide (r77 ≤ 62)))) rfl (by kernel_rfl) (d_cons ?_))))
        obtain ⟨r79, hr80, h⟩ := bind_some h
        refine a_call (args := [(i6 a0), (eA64u8 a1), (eA64u8 a2), (.bool ((decide (r77 ≤ 62))))]) (u := []) (r := (i6 r79)) rfl rfl (impl_quotientCode_ok a0 a1 a2 ((decide (r77 ≤ 62))) r79 hr80) rfl (d_next (by kernel_rfl) (dp (i6 r79) rfl (by kernel_rfl) (d_nil ?_)))
        exact j_leaf r79 (Option.some.inj h) (by kernel_rfl)
def spec_l01Mod_c : ACode := (.seq (.region 0 [q 4 (.box 25 (t 1)), q 5 (.box 25 (t 2)), q 6 (.alloc 25)] false) (.seq (.region 1 [q 10 (.mov (t 0)), q 11 (.load 25 (t 4)), q 12 (.load 25 (t 5)), q 13 (.call 0 (.func 113) [(t 10), (t 11), (t 12)]), q 9 (.mov (t 13)), q 14 (.extract (t 9) 0), q 15 (.extract (t 9) 1), q 7 (.alloc 25), q 8 (.alloc 25), ⟨none, .store 25 (t 7) (t 14), none, []⟩, ⟨none, .store 25 (t 8) (t 15), none, []⟩] false) (.seq (.region 2 [q 16 (.load 25 (t 8)), ⟨none, .store 25 (t 6) (t 16), none, []⟩] false) .ret)))
def spec_l01Mod_L : Live := [(0, [0, 1, 2]), (1, [0, 4, 5, 6]), (2, [6, 8])]
noncomputable def spec_l01Mod (a0 : Int) (a1 : (Vec Int 64)) (a2 : (Vec Int 64)) : Option (Vec Int 64) :=
  (Option.bind (spec_l01Divide a0 a1 a2) fun r3 => (some r3.2))
theorem spec_l01Mod_ok (a0 : Int) (a1 : (Vec Int 64)) (a2 : (Vec Int 64)) (r : (Vec Int 64)) (h : spec_l01Mod a0 a1 a2 = some r) : Den Try.prog 165 [(i6 a0), (eA64u8 a1), (eA64u8 a2)] { r := (eA64u8 r) } := by
  refine den_of (rs := [(eA64u8 r)]) (ac := spec_l01Mod_c) (L := spec_l01Mod_L) (n := 17) (m := []) (c := Try.f165.body.getD .skip) good Try.func165 (by kernel_rfl) (by kernel_rfl) Try.ntmps165 rfl rfl (by kernel_rfl) rfl rfl ?_
  refine a_st (σ' := ⟨[(0, (i6 a0)), (1, (eA64u8 a1)), (2, (eA64u8 a2))], []⟩) (by kernel_rfl) ?_
  unfold spec_l01Mod_c
  refine sr (vo 1400 (eA64u8 a1) rfl rfl (vo 1500 (eA64u8 a2) rfl rfl (vo 1600 (eA64u8 ((vrep 64 (0 : Int)))) rfl rfl (nx ⟨[(0, (i6 a0)), (4, (ow 4)), (5, (ow 5)), (6, (ow 6))], [(4, (bk (eA64u8 a1))), (5, (bk (eA64u8 a2))), (6, (bk (eA64u8 ((vrep 64 (0 : Int))))))]⟩ (by kernel_rfl) (sr (vp (i6 a0) rfl (vl (eA64u8 a1) rfl rfl rfl rfl rfl rfl (vl (eA64u8 a2) rfl rfl rfl rfl rfl rfl ?_))))))))
  obtain ⟨r3, hr4, h⟩ := bind_some h
  refine a_call (args := [(i6 a0), (eA64u8 a1), (eA64u8 a2)]) (u := []) (r := (.tuple [(eA64u8 r3.1), (eA64u8 r3.2)])) rfl rfl (spec_l01Divide_ok a0 a1 a2 r3 hr4) rfl (vp (.tuple [(eA64u8 r3.1), (eA64u8 r3.2)]) rfl (vb (eA64u8 r3.1) rfl rfl (vb (eA64u8 r3.2) rfl rfl (vo 1700 (eA64u8 ((vrep 64 (0 : Int)))) rfl rfl (vo 1800 (eA64u8 ((vrep 64 (0 : Int)))) rfl rfl (vs (eA64u8 r3.1) rfl rfl (fun _ => rfl) rfl rfl rfl rfl rfl rfl (vs (eA64u8 r3.2) rfl rfl (fun _ => rfl) rfl rfl rfl rfl rfl rfl (nx ⟨[(6, (ow 6)), (8, (ow 8))], [(6, (bk (eA64u8 ((vrep 64 (0 : Int)))))), (8, (bk (eA64u8 r3.2)))]⟩ (by kernel_rfl) (sr ?_)))))))))
  refine vl (eA64u8 r3.2) rfl rfl rfl rfl rfl rfl (vs (eA64u8 r3.2) rfl rfl (fun _ => rfl) rfl rfl rfl rfl rfl rfl (nx _ rfl (a_ret ?_)))
  have hl9 : LdOk [] (eA64u8 r3.2) [] 64 true (eA64u8 r3.2) := (.nil rfl rfl rfl)
  refine ⟨.inr rfl, ?_⟩
  rw [Try.results165]
  cases h
  exact ⟨_, _, _, _, _, ld_own (i := ⟨.arr 64 5, 64, 64, (eA64u8 (vrep 64 (0 : Int)))⟩) rfl rfl rfl hl9, hl9.c, .inl ⟨rfl, .inl rfl⟩, rfl, rfl⟩
def spec_l01T_c : ACode := (.seq (.region 0 [q 0 (.alloc 25)] false) (.seq (.region 1 [q 1 (.build 25 [(0, (.const (.int .u8 0))), (1, (.const (.int .u8 1)))]), ⟨none, .store 25 (t 0) (t 1), none, []⟩] false) .ret))
def spec_l01T_L : Live := [(0, []), (1, [0])]
noncomputable def spec_l01T  : Option (Vec Int 64) :=
  (some ((vset (vset (vrep 64 (0 : Int)) 0 0) 1 1)))
theorem spec_l01T_ok  (r : (Vec Int 64)) (h : spec_l01T = some r) : Den Try.prog 166 [] { r := (eA64u8 r) } := by
  refine den_of (rs := [(eA64u8 r)]) (ac := spec_l01T_c) (L := spec_l01T_L) (n := 2) (m := []) (c := Try.f166.body.getD .skip) good Try.func166 (by kernel_rfl) (by kernel_rfl) Try.ntmps166 rfl rfl (by kernel_rfl) rfl rfl ?_
  refine a_st (σ' := ⟨[], []⟩) (by kernel_rfl) ?_
  unfold spec_l01T_c
  refine sr (vo 1000 (eA64u8 ((vrep 64 (0 : Int)))) rfl rfl (nx ⟨[(0, (ow 0))], [(0, (bk (eA64u8 ((vrep 64 (0 : Int))))))]⟩ (by kernel_rfl) (sr (vq (eA64u8 ((vset (vset (vrep 64 (0 : Int)) 0 0) 1 1))) rfl ⟨⟨_, rfl, rfl⟩, (all_cons ⟨(Nat.le_of_ble_eq_true rfl), rfl⟩ (all_cons ⟨(Nat.le_of_ble_eq_true rfl), rfl⟩ all_nil))⟩ (vs (eA64u8 ((vset (vset (vrep 64 (0 : Int)) 0 0) 1 1))) rfl rfl (fun _ => rfl) rfl rfl rfl rfl rfl rfl (nx _ rfl (a_ret ?_)))))))
  have hl2 : LdOk [] (eA64u8 ((vset (vset (vrep 64 (0 : Int)) 0 0) 1 1))) [] 64 true (eA64u8 ((vset (vset (vrep 64 (0 : Int)) 0 0) 1 1))) := (.nil rfl rfl rfl)
  refine ⟨.inr rfl, ?_⟩
  rw [Try.results166]
  cases h
  exact ⟨_, _, _, _, _, ld_own (i := ⟨.arr 64 5, 64, 64, (eA64u8 (vrep 64 (0 : Int)))⟩) rfl rfl rfl hl2, hl2.c, .inl ⟨rfl, .inl rfl⟩, rfl, rfl⟩
def spec_DigitsOfQuotient_c : ACode := (.seq (.region 0 [q 5 (.box 25 (t 1)), q 6 (.box 25 (t 2)), q 8 (.asg 1 (.const (.slice none 0 0)) 59), q 9 (.asg 0 (.const (.int .i64 0)) 2)] false) (.seq (.region 1 [q 17 (.mov (t 0)), q 18 (.load 25 (t 5)), q 19 (.load 25 (t 6)), q 20 (.call 0 (.func 153) [(t 17), (t 18), (t 19)]), q 10 (.asg 0 (t 20) 2)] false) (.seq (.seq (.region 2 [q 21 (.mov (t 10)), q 22 (.bin .neq 2 (t 21) (.const (.int .i64 1))), q 23 (.mov (t 22)), ⟨some 24, .load 25 (t 5), some (23, true), []⟩, ⟨some 25, .call 0 (.func 112) [(t 24)], some (23, true), []⟩, ⟨some 26, .bin .gtr 2 (t 25) (.const (.int .i64 62)), some (23, true), []⟩, ⟨some 27, .mov (t 26), some (23, true), []⟩, ⟨some 28, .load 25 (t 6), some (27, false), []⟩, ⟨some 29, .call 0 (.func 112) [(t 28)], some (27, false), []⟩, ⟨some 30, .bin .gtr 2 (t 29) (.const (.int .i64 62)), some (27, false), []⟩, ⟨some 31, .pick (t 27) (.const (.bool true)) (t 30), some (23, true), []⟩, ⟨some 32, .mov (t 31), some (23, true), []⟩, ⟨some 33, .mov (t 3), some (32, false), []⟩, ⟨some 34, .call 0 (.func 160) [(t 33), (.const (.int .i64 0)), (.const (.int .i64 40))], some (32, false), []⟩, ⟨some 35, .un .not (t 34), some (32, false), []⟩, ⟨some 36, .pick (t 32) (.const (.bool true)) (t 35), some (23, true), []⟩, q 37 (.pick (t 23) (t 36) (.const (.bool false)))] false) (.cond (t 37) (.region 3 [q 10 (.asg 0 (.const (.int .i64 2)) 2)] false) .skip)) (.seq (.seq (.region 4 [q 38 (.mov (t 10)), q 39 (.bin .neq 2 (t 38) (.const (.int .i64 0)))] false) (.cond (t 39) (.seq (.region 5 [q 40 (.mov (t 10)), q 8 (.asg 1 (.const (.slice none 0 0)) 59), q 9 (.asg 0 (t 40) 2)] false) .ret) .skip)) (.seq (.region 6 [q 41 (.bslice 2 59 0 []), q 42 (.mov (t 0)), q 43 (.load 25 (t 5)), q 44 (.load 25 (t 6)), q 45 (.call 0 (.func 165) [(t 42), (t 43), (t 44)]), q 12 (.alloc 25), q 11 (.asg 2 (t 41) 59), ⟨none, .store 25 (t 12) (t 45), none, []⟩] false) (.seq (.block 0 (.loop (.seq (.seq (.region 7 [q 46 (.mov (t 3)), q 47 (.bin .gtr 2 (t 46) (.const (.int .i64 0)))] false) (.cond (t 47) .skip (.exit 0))) (.seq (.block 1 (.seq (.region 9 [q 51 (.mov (t 0)), q 52 (.load 25 (t 12)), q 53 (.call 0 (.func 166) []), ⟨some 54, .call 0 (.func 105) [(t 51), (t 52), (t 53)], none, [0, 1, 2, 2]⟩, ⟨some 50, .mov (t 54), none, [3]⟩, ⟨some 55, .extract (t 50) 0, none, [4]⟩, ⟨some 56, .extract (t 50) 1, none, [4]⟩, q 13 (.alloc 25), ⟨none, .store 25 (t 13) (t 55), none, [7, 5, 3, 0, 1, 2, 3, 4, 5, 7]⟩, ⟨some 14, .asg 0 (t 56) 4, none, [6, 8, 0, 1, 2, 3, 4, 5, 6, 7, 8]⟩] true) (.seq (.region 10 [q 58 (.mov (t 0)), q 59 (.load 25 (t 13)), q 60 (.load 25 (t 6)), q 61 (.call 0 (.func 113) [(t 58), (t 59), (t 60)]), q 57 (.mov (t 61)), q 62 (.extract (t 57) 0), q 63 (.extract (t 57) 1), q 15 (.alloc 25), q 16 (.alloc 25), ⟨none, .store 25 (t 15) (t 62), none, []⟩, ⟨none, .store 25 (t 16) (t 63), none, []⟩] false) (.seq (.region 11 [q 64 (.mov (t 11)), q 65 (.indexAddr 25 (t 15) (.const (.int .i64 0))), q 66 (.load 5 (t 65)), q 67 (.conv 5 2 (t 66)), q 68 (.bslice 0 59 1 [(0, (t 67))]), q 69 (.blt 0 .append [(t 64), (t 68)] [59, 59]), q 11 (.asg 2 (t 69) 59)] false) (.region 12 [q 70 (.load 25 (t 16)), ⟨none, .store 25 (t 12) (t 70), none, []⟩] false))))) (.region 8 [q 48 (.mov (t 3)), q 49 (.bin .sub 2 (t 48) (.const (.int .i64 1))), q 3 (.asg 0 (t 49) 2)] false))))) (.seq (.region 13 [q 71 (.mov (t 11)), q 8 (.asg 1 (t 71) 59), q 9 (.asg 0 (.const (.int .i64 0)) 2)] false) .ret)))))))
def spec_DigitsOfQuotient_L : Live := [(0, [0, 1, 2, 3]), (1, [0, 3, 5, 6]), (2, [0, 3, 5, 6, 10]), (3, [0, 3, 5, 6]), (4, [0, 3, 5, 6, 10]), (5, [10]), (6, [0, 3, 5, 6]), (7, [0, 3, 6, 11, 12]), (8, [0, 3, 6, 11, 12]), (9, [0, 3, 6, 11, 12]), (10, [0, 3, 6, 11, 12, 13]), (11, [0, 3, 6, 11, 12, 15, 16]), (12, [0, 3, 6, 11, 12, 16]), (13, [11]), (100037, [0, 3, 5, 6, 10, 37]), (100039, [0, 3, 5, 6, 10, 39]), (100047, [0, 3, 6, 11, 12, 47])]
noncomputable def spec_DigitsOfQuotient_l1 (a0 : Int) (a2 : (Vec Int 64)) (x176 : Int) (x177 : (List Int)) (x178 : (Vec Int 64)) : Option ((Int × (List Int) × (Vec Int 64)) ⊕ (List Int)) :=
  (if (decide (x176 > 0)) then (Option.bind (spec_l01T) fun r214 => (Option.bind (spec_l01Times a0 x178 r214) fun r216 => (Option.bind (spec_l01Divide a0 r216.1 a2) fun r221 => (ifp (0 ≤ (0 : Int) ∧ (0 : Int) < ((64 : Nat) : Int)) ((ifp ((x177.length + ([IntKind.i64.wrap ((rd r221.1.1 (0 : Int).toNat))] : List Int).length) * 8 ≤ 140737488355328) ((some (.inl ((IntKind.i64.wrap (x176 - 1), (x177 ++ ([IntKind.i64.wrap ((rd r221.1.1 (0 : Int).toNat))])), r221.2))))))))))) else (some (.inr x177)))
noncomputable def spec_DigitsOfQuotient (a0 : Int) (a1 : (Vec Int 64)) (a2 : (Vec Int 64)) (a3 : Int) : Option ((List Int) × Int) :=
  (Option.bind (spec_l10Code a0 a1 a2) fun r3 => (Option.bind (α := Int) ((Option.bind (α := Bool) ((if (r3 != 1) then (Option.bind (spec_l01Deg a1) fun r53 => (if (decide (r53 > 62)) then (some true) else (Option.bind (spec_l01Deg a2) fun r57 => (if (decide (r57 > 62)) then (some true) else (Option.bind (spec_l01In a3 0 40) fun r60 => (some (!r60))))))) else (some false))) fun x47 => (if x47 then (some 2) else (some r3)))) fun x32 => (if (x32 != 0) then (some ([], x32)) else (Option.bind (spec_l01Mod a0 a1 a2) fun r66 => (Option.bind (α := (List Int)) ((loopM (fun s : (Int × (List Int) × (Vec Int 64)) => spec_DigitsOfQuotient_l1 a0 a2 s.1 s.2.1 s.2.2) (a3, [], r66))) fun x148 => (some (x148, 0)))))))
theorem spec_DigitsOfQuotient_ok (a0 : Int) (a1 : (Vec Int 64)) (a2 : (Vec Int 64)) (a3 : Int) (r : ((List Int) × Int)) (h : spec_DigitsOfQuotient a0 a1 a2 a3 = some r) : Den Try.prog 77 [(i6 a0), (eA64u8 a1), (eA64u8 a2), (i6 a3)] { r := (.tuple [(eSi64 r.1), (i6 r.2)]) } := by
  refine den_of (rs := [(eSi64 r.1), (i6 r.2)]) (ac := spec_DigitsOfQuotient_c) (L := spec_DigitsOfQuotient_L) (n := 72) (m := [(8, 1), (11, 2), (41, 2)]) (c := Try.f77.body.getD .skip) good Try.func77 (by kernel_rfl) (by kernel_rfl) Try.ntmps77 rfl rfl (by kernel_rfl) rfl rfl ?_
  refine a_st (σ' := ⟨[(0, (i6 a0)), (1, (eA64u8 a1)), (2, (eA64u8 a2)), (3, (i6 a3))], []⟩) (by kernel_rfl) ?_
  unfold spec_DigitsOfQuotient_c
  refine sr (vo 1500 (eA64u8 a1) rfl rfl (vo 1600 (eA64u8 a2) rfl rfl (vp (eSi64 ([])) rfl (vp (i6 0) rfl (nx ⟨[(0, (i6 a0)), (3, (i6 a3)), (5, (ow 5)), (6, (ow 6))], [(5, (bk (eA64u8 a1))), (6, (bk (eA64u8 a2)))]⟩ (by kernel_rfl) (sr (vp (i6 a0) rfl (vl (eA64u8 a1) rfl rfl rfl rfl rfl rfl (vl (eA64u8 a2) rfl rfl rfl rfl rfl rfl ?_)))))))))
  obtain ⟨r3, hr4, h⟩ := bind_some h
  refine a_call (args := [(i6 a0), (eA64u8 a1), (eA64u8 a2)]) (u := []) (r := (i6 r3)) rfl rfl (spec_l10Code_ok a0 a1 a2 r3 hr4) rfl (vp (i6 r3) rfl (nx ⟨[(0, (i6 a0)), (3, (i6 a3)), (5, (ow 5)), (6, (ow 6)), (10, (i6 r3))], [(5, (bk (eA64u8 a1))), (6, (bk (eA64u8 a2)))]⟩ (by kernel_rfl) ?_))
  obtain ⟨y33, hy34, hk35⟩ := bind_some h
  clear h
  refine a_join (emb := fun (s : Int) => ⟨[(0, (i6 a0)), (3, (i6 a3)), (5, (ow 5)), (6, (ow 6)), (10, (i6 s))], [(5, (bk (eA64u8 a1))), (6, (bk (eA64u8 a2)))]⟩) (pre := fun s => s = y33) ?_ ?_
  · rintro x32 rfl
    have h := hk35
    refine a_st (σ' := ⟨[(0, (i6 a0)), (3, (i6 a3)), (5, (ow 5)), (6, (ow 6)), (10, (i6 x32))], [(5, (bk (eA64u8 a1))), (6, (bk (eA64u8 a2)))]⟩) (by kernel_rfl) (a_seq (sr (vp (i6 x32) rfl (vp (.bool (x32 != 0)) rfl (nx ⟨[(0, (i6 a0)), (3, (i6 a3)), (5, (ow 5)), (6, (ow 6)), (10, (i6 x32)), (39, (.bool (x32 != 0)))], [(5, (bk (eA64u8 a1))), (6, (bk (eA64u8 a2)))]⟩ (by kernel_rfl) ?_)))))
    cases hb63 : (x32 != 0)
    · have h := ite_f hb63 h
      refine a_cond_f rfl (a_skip (a_next (σ' := ⟨[(0, (i6 a0)), (3, (i6 a3)), (5, (ow 5)), (6, (ow 6))], [(5, (bk (eA64u8 a1))), (6, (bk (eA64u8 a2)))]⟩) (by kernel_rfl) (sr (vu (.osl 5100) [(5100, (bk (.row 1 (([]).map (AV.int .i64)))))] rfl ⟨(Nat.le_of_ble_eq_true rfl), (Nat.le_of_ble_eq_true rfl), all_nil⟩ rfl (vp (i6 a0) rfl (vl (eA64u8 a1) rfl rfl rfl rfl rfl rfl (vl (eA64u8 a2) rfl rfl rfl rfl rfl rfl ?_)))))))
      obtain ⟨r66, hr67, h⟩ := bind_some h
      refine a_call (args := [(i6 a0), (eA64u8 a1), (eA64u8 a2)]) (u := []) (r := (eA64u8 r66)) rfl rfl (spec_l01Mod_ok a0 a1 a2 r66 hr67) rfl (vo 2200 (eA64u8 ((vrep 64 (0 : Int)))) rfl rfl (vp (.osl 5100) rfl (vs (eA64u8 r66) rfl rfl (fun _ => rfl) rfl rfl rfl rfl rfl rfl (nx ⟨[(0, (i6 a0)), (3, (i6 a3)), (6, (ow 6)), (11, (.osl 11)), (12, (ow 12))], [(6, (bk (eA64u8 a2))), (11, (bk (.row 1 (([]).map (AV.int .i64))))), (12, (bk (eA64u8 r66)))]⟩ (by kernel_rfl) ?_))))
      obtain ⟨y149, hy150, hk151⟩ := bind_some h
      clear h
      refine a_join (emb := fun (s : (List Int)) => ⟨[(11, (.osl 11))], [(11, (bk (.row 1 (s.map (AV.int .i64)))))]⟩) (pre := fun s => s = y149) ?_ ?_
      · rintro x148 rfl
        have h := hk151
        refine a_st (σ' := ⟨[(11, (.osl 11))], [(11, (bk (.row 1 (x148.map (AV.int .i64)))))]⟩) (by kernel_rfl) (sr (vp (.osl 11) rfl (vu (eSi64 x148) [(11, (bf (.row 1 (x148.map (AV.int .i64)))))] rfl trivial rfl (vp (i6 0) rfl (nx _ rfl (a_ret ?_))))))
        refine ⟨.inr rfl, ?_⟩
        rw [Try.results77]
        cases h
        exact ⟨_, _, _, _, _, rfl, trivial, .inl ⟨rfl, .inl rfl⟩, rfl, ⟨_, _, _, _, _, rfl, trivial, .inl ⟨rfl, .inl rfl⟩, rfl, rfl⟩⟩
      · have h := hy150
        refine a_block ?_
        refine a_loop (emb := fun (s : (Int × (List Int) × (Vec Int 64))) => ⟨[(0, (i6 a0)), (3, (i6 s.1)), (6, (ow 6)), (11, (.osl 11)), (12, (ow 12))], [(6, (bk (eA64u8 a2))), (11, (bk (.row 1 (s.2.1.map (AV.int .i64))))), (12, (bk (eA64u8 s.2.2)))]⟩) (body := (fun s : (Int × (List Int) × (Vec Int 64)) => spec_DigitsOfQuotient_l1 a0 a2 s.1 s.2.1 s.2.2)) (G := fun q => some q = some y149) h rfl ?_ (by kernel_rfl)
        rintro X203 ⟨x176, x177, x178⟩ x204 h hX205
        have h : spec_DigitsOfQuotient_l1 a0 a2 x176 x177 x178 = some x204 := h
        refine a_st (σ' := ⟨[(0, (i6 a0)), (3, (i6 x176)), (6, (ow 6)), (11, (.osl 11)), (12, (ow 12))], [(6, (bk (eA64u8 a2))), (11, (bk (.row 1 (x177.map (AV.int .i64))))), (12, (bk (eA64u8 x178)))]⟩) (by kernel_rfl) (a_seq (sr (vp (i6 x176) rfl (vp (.bool ((decide (x176 > 0)))) rfl (nx ⟨[(0, (i6 a0)), (3, (i6 x176)), (6, (ow 6)), (11, (.osl 11)), (12, (ow 12)), (47, (.bool ((decide (x176 > 0)))))], [(6, (bk (eA64u8 a2))), (11, (bk (.row 1 (x177.map (AV.int .i64))))), (12, (bk (eA64u8 x178)))]⟩ (by kernel_rfl) ?_)))))
        cases hb206 : (decide (x176 > 0))
        · have h := ite_f hb206 h
          refine a_cond_f rfl (a_exit (t_exit ?_))
          cases h
          have h := hX205
          refine t_exit (b_exit ?_)
          exact j_leaf x177 (Option.some.inj h) (by kernel_rfl)
        · have h := ite_t hb206 h
          refine a_cond_t rfl (a_skip (a_next (σ' := ⟨[(0, (i6 a0)), (3, (i6 x176)), (6, (ow 6)), (11, (.osl 11)), (12, (ow 12))], [(6, (bk (eA64u8 a2))), (11, (bk (.row 1 (x177.map (AV.int .i64))))), (12, (bk (eA64u8 x178)))]⟩) (by kernel_rfl) (a_seq (a_block (a_seq (a_draw [⟨[], [], [], []⟩, ⟨[12], [], [], []⟩, ⟨[], [], [], []⟩, ⟨[], [], [], [0, 1, 2]⟩, ⟨[], [], [], [0, 1, 2, 3]⟩, ⟨[], [], [], [0, 1, 2, 3, 4]⟩, ⟨[], [], [], [0, 1, 2, 3, 4]⟩, ⟨[2300], [2300], [2300], []⟩, ⟨[2300], [2300], [], [0, 1, 2, 3, 4, 5, 7]⟩, ⟨[], [], [], [0, 1, 2, 3, 4, 5, 6, 7, 8]⟩] (by kernel_rfl) (dp (i6 a0) rfl (by kernel_rfl) (d_cons (vl (eA64u8 x178) rfl rfl rfl rfl rfl rfl ?_)))))))))
          refine d_next (by kernel_rfl) (d_cons ?_)
          obtain ⟨r214, hr215, h⟩ := bind_some h
          refine a_call (args := []) (u := []) (r := (eA64u8 r214)) rfl rfl (spec_l01T_ok r214 hr215) rfl (d_next (by kernel_rfl) (d_cons ?_))
          obtain ⟨r216, hr217, h⟩ := bind_some h
          refine a_call (args := [(i6 a0), (eA64u8 x178), (eA64u8 r214)]) (u := []) (r := (.tuple [(eA64u8 r216.1), (.bool r216.2)])) rfl rfl (spec_l01Times_ok a0 x178 r214 r216 hr217) rfl (d_next (by kernel_rfl) (dp (.tuple [(eA64u8 r216.1), (.bool r216.2)]) rfl (by kernel_rfl) (d_cons (vb (eA64u8 r216.1) rfl rfl (d_next (by kernel_rfl) (d_cons (vb (.bool r216.2) rfl rfl (d_next (by kernel_rfl) (d_cons ?_)))))))))
          refine vo 2300 (eA64u8 ((vrep 64 (0 : Int)))) rfl rfl (d_next (by kernel_rfl) (d_cons (vs (eA64u8 r216.1) rfl rfl (fun _ => rfl) rfl rfl rfl rfl rfl rfl (d_next (by kernel_rfl) (dp (.bool r216.2) rfl (by kernel_rfl) (d_nil (a_next (σ' := ⟨[(0, (i6 a0)), (3, (i6 x176)), (6, (ow 6)), (11, (.osl 11)), (12, (ow 12)), (13, (ow 13))], [(6, (bk (eA64u8 a2))), (11, (bk (.row 1 (x177.map (AV.int .i64))))), (12, (bk (eA64u8 x178))), (13, (bk (eA64u8 r216.1)))]⟩) (by kernel_rfl) (sr (vp (i6 a0) rfl ?_)))))))))
          refine vl (eA64u8 r216.1) rfl rfl rfl rfl rfl rfl (vl (eA64u8 a2) rfl rfl rfl rfl rfl rfl ?_)
          obtain ⟨r221, hr222, h⟩ := bind_some h
          refine a_call (args := [(i6 a0), (eA64u8 r216.1), (eA64u8 a2)]) (u := []) (r := (.tuple [(eA64u8 r221.1), (eA64u8 r221.2)])) rfl rfl (spec_l01Divide_ok a0 r216.1 a2 r221 hr222) rfl (vp (.tuple [(eA64u8 r221.1), (eA64u8 r221.2)]) rfl (vb (eA64u8 r221.1) rfl rfl (vb (eA64u8 r221.2) rfl rfl (vo 2500 (eA64u8 ((vrep 64 (0 : Int)))) rfl rfl (vo 2600 (eA64u8 ((vrep 64 (0 : Int)))) rfl rfl (vs (eA64u8 r221.1) rfl rfl (fun _ => rfl) rfl rfl rfl rfl rfl rfl (vs (eA64u8 r221.2) rfl rfl (fun _ => rfl) rfl rfl rfl rfl rfl rfl (nx ⟨[(0, (i6 a0)), (3, (i6 x176)), (6, (ow 6)), (11, (.osl 11)), (12, (ow 12)), (15, (ow 15)), (16, (ow 16))], [(6, (bk (eA64u8 a2))), (11, (bk (.row 1 (x177.map (AV.int .i64))))), (12, (bk (eA64u8 x178))), (15, (bk (eA64u8 r221.1))), (16, (bk (eA64u8 r221.2)))]⟩ (by kernel_rfl) (sr ?_)))))))))
          refine vp (.osl 11) rfl ?_
          obtain ⟨hc225, h⟩ := ifp_some h
          refine vq (.own 15 [(0 : Int).toNat] [(0 : Int).toNat * 1]) rfl hc225 ?_
          have hl226 : LdOk [(0 : Int).toNat] (eA64u8 r221.1) [(0 : Int).toNat * 1] 1 false (b8 ((rd r221.1.1 (0 : Int).toNat))) := (.arr (vlt r221.1 hc225) rfl (.nil rfl rfl rfl))
          refine vq (b8 ((rd r221.1.1 (0 : Int).toNat))) (ld_own (i := ⟨.int .u8, 1, 1, (.int .u8 0)⟩) rfl rfl rfl hl226) hl226.c (vp (i6 (IntKind.i64.wrap ((rd r221.1.1 (0 : Int).toNat)))) rfl (vq (.sl 1 true (([IntKind.i64.wrap ((rd r221.1.1 (0 : Int).toNat))]).map (AV.int .i64))) rfl ⟨(Nat.le_of_ble_eq_true rfl), (Nat.le_of_ble_eq_true rfl), (all_cons ⟨(Nat.le_of_ble_eq_true rfl), rfl⟩ all_nil)⟩ ?_))
          obtain ⟨hc227, h⟩ := ifp_some h
          refine vu (.osl 7900) [(7900, (bk (.row 1 (((x177 ++ ([IntKind.i64.wrap ((rd r221.1.1 (0 : Int).toNat))]))).map (AV.int .i64))))), (11, none)] (app_run (i := ⟨.int .i64, 1, 8, (.int .i64 0)⟩) (f := (AV.int .i64)) (l := x177) (l2 := [IntKind.i64.wrap ((rd r221.1.1 (0 : Int).toNat))]) rfl rfl rfl rfl (fun _ => rfl) rfl rfl) (app_c (f := (AV.int .i64)) (s := 1) (sz := 1) (by' := 8) (u := []) (id := 11) hc227 (.inr rfl) rfl rfl rfl) rfl (vp (.osl 7900) rfl (nx ⟨[(0, (i6 a0)), (3, (i6 x176)), (6, (ow 6)), (11, (.osl 11)), (12, (ow 12)), (16, (ow 16))], [(6, (bk (eA64u8 a2))), (11, (bk (.row 1 (((x177 ++ ([IntKind.i64.wrap ((rd r221.1.1 (0 : Int).toNat))]))).map (AV.int .i64))))), (12, (bk (eA64u8 x178))), (16, (bk (eA64u8 r221.2)))]⟩ (by kernel_rfl) (a_region (vl (eA64u8 r221.2) rfl rfl rfl rfl rfl rfl (vs (eA64u8 r221.2) rfl rfl (fun _ => rfl) rfl rfl rfl rfl rfl rfl (a_nil (b_norm (a_next (σ' := ⟨[(0, (i6 a0)), (3, (i6 x176)), (6, (ow 6)), (11, (.osl 11)), (12, (ow 12))], [(6, (bk (eA64u8 a2))), (11, (bk (.row 1 (((x177 ++ ([IntKind.i64.wrap ((rd r221.1.1 (0 : Int).toNat))]))).map (AV.int .i64))))), (12, (bk (eA64u8 r221.2)))]⟩) (by kernel_rfl) (a_region ?_)))))))))
          refine vp (i6 x176) rfl (vp (i6 (IntKind.i64.wrap (x176 - 1))) rfl (vp (i6 (IntKind.i64.wrap (x176 - 1))) rfl (a_nil ?_)))
          cases h
          exact a_again (by kernel_rfl) hX205
    · have h := ite_t hb63 h
      refine a_cond_t rfl (sr (vp (i6 x32) rfl (vp (eSi64 ([])) rfl (vp (i6 x32) rfl (nx _ rfl (a_ret (t_ret ?_)))))))
      refine ⟨.inr rfl, ?_⟩
      rw [Try.results77]
      cases h
      exact ⟨_, _, _, _, _, rfl, trivial, .inl ⟨rfl, .inl rfl⟩, rfl, ⟨_, _, _, _, _, rfl, trivial, .inl ⟨rfl, .inl rfl⟩, rfl, rfl⟩⟩
  · have h := hy34
    obtain ⟨y48, hy49, hk50⟩ := bind_some h
    clear h
    refine a_join (emb := fun (s : Bool) => ⟨[(0, (i6 a0)), (3, (i6 a3)), (5, (ow 5)), (6, (ow 6)), (10, (i6 r3)), (37, (.bool s))], [(5, (bk (eA64u8 a1))), (6, (bk (eA64u8 a2)))]⟩) (pre := fun s => s = y48) ?_ ?_
    · rintro x47 rfl
      have h := hk50
      refine a_st (σ' := ⟨[(0, (i6 a0)), (3, (i6 a3)), (5, (ow 5)), (6, (ow 6)), (10, (i6 r3)), (37, (.bool x47))], [(5, (bk (eA64u8 a1))), (6, (bk (eA64u8 a2)))]⟩) (by kernel_rfl) ?_
      cases hb62 : x47
      · have h := ite_f hb62 h
        refine a_cond_f rfl (a_skip ?_)
        exact j_leaf r3 (Option.some.inj h) (by kernel_rfl)
      · have h := ite_t hb62 h
        refine a_cond_t rfl (a_region (vp (i6 2) rfl (a_nil ?_)))
        exact j_leaf 2 (Option.some.inj h) (by kernel_rfl)
    · have h := hy49
      refine a_region (vp (i6 r3) rfl (vp (.bool (r3 != 1)) rfl (vp (.bool (r3 != 1)) rfl ?_)))
      cases hb51 : (r3 != 1)
      · have h := ite_f hb51 h
        refine a_gskip rfl (a_gskip rfl (a_gskip rfl (a_gskip rfl (a_gskip0 rfl (a_gskip0 rfl (a_gskip0 rfl (a_gskip rfl (a_gskip rfl (a_gskip0 rfl ?_)))))))))
        refine a_gskip0 rfl (a_gskip0 rfl (a_gskip rfl (vp (.bool false) rfl (a_nil ?_))))
        exact j_leaf false (Option.some.inj h) (by kernel_rfl)
      · have h := ite_t hb51 h
        have hl52 : LdOk [] (eA64u8 a1) [] 64 true (eA64u8 a1) := (.nil rfl rfl rfl)
        refine gq (eA64u8 a1) rfl (ld_own (i := ⟨.arr 64 5, 64, 64, (eA64u8 (vrep 64 (0 : Int)))⟩) rfl rfl rfl hl52) hl52.c ?_
        obtain ⟨r53, hr54, h⟩ := bind_some h
        refine a_gcall rfl (args := [(eA64u8 a1)]) (u := []) (r := (i6 r53)) rfl rfl (spec_l01Deg_ok a1 r53 hr54) rfl (gp (.bool ((decide (r53 > 62)))) rfl rfl (gp (.bool ((decide (r53 > 62)))) rfl rfl ?_))
        cases hb55 : (decide (r53 > 62))
        · have h := ite_f hb55 h
          have hl56 : LdOk [] (eA64u8 a2) [] 64 true (eA64u8 a2) := (.nil rfl rfl rfl)
          refine gq (eA64u8 a2) rfl (ld_own (i := ⟨.arr 64 5, 64, 64, (eA64u8 (vrep 64 (0 : Int)))⟩) rfl rfl rfl hl56) hl56.c ?_
          obtain ⟨r57, hr58, h⟩ := bind_some h
          refine a_gcall rfl (args := [(eA64u8 a2)]) (u := []) (r := (i6 r57)) rfl rfl (spec_l01Deg_ok a2 r57 hr58) rfl (gp (.bool ((decide (r57 > 62)))) rfl rfl (gp (.bool ((decide (r57 > 62)))) rfl rfl (gp (.bool ((decide (r57 > 62)))) rfl rfl ?_)))
          cases hb59 : (decide (r57 > 62))
          · have h := ite_f hb59 h
            refine gp (i6 a3) rfl rfl ?_
            obtain ⟨r60, hr61, h⟩ := bind_some h
            refine a_gcall rfl (args := [(i6 a3), (i6 0), (i6 40)]) (u := []) (r := (.bool r60)) rfl rfl (spec_l01In_ok a3 0 40 r60 hr61) rfl (gp (.bool (!r60)) rfl rfl (gp (.bool (!r60)) rfl rfl (vp (.bool (!r60)) rfl (a_nil ?_))))
            exact j_leaf (!r60) (Option.some.inj h) (by kernel_rfl)
          · have h := ite_t hb59 h
            refine a_gskip rfl (a_gskip rfl (a_gskip rfl (gp (.bool true) rfl rfl (vp (.bool true) rfl (a_nil ?_)))))
            exact j_leaf true (Option.some.inj h) (by kernel_rfl)
        · have h := ite_t hb55 h
          refine a_gskip rfl (a_gskip rfl (a_gskip rfl (gp (.bool true) rfl rfl (gp (.bool true) rfl rfl (a_gskip rfl (a_gskip rfl (a_gskip rfl (gp (.bool true) rfl rfl (vp (.bool true) rfl ?_)))))))))
          refine a_nil ?_
          exact j_leaf true (Option.some.inj h) (by kernel_rfl)
def impl_told_c : ACode := (.seq (.region 0 [q 2 (.alloc 25), q 3 (.asg 0 (.const (.int .i64 0)) 2)] false) (.seq (.seq (.region 1 [q 4 (.mov (t 0)), q 5 (.call 0 (.func 135) [(t 4)]), q 6 (.un .not (t 5))] false) (.cond (t 6) (.seq (.region 2 [q 7 (.build 25 []), ⟨none, .store 25 (t 2) (t 7), none, []⟩, q 3 (.asg 0 (.const (.int .i64 3)) 2)] false) .ret) .skip)) (.seq (.region 3 [q 8 (.mov (t 0)), q 9 (.call 0 (.func 111) [(t 8)]), ⟨none, .store 25 (t 2) (t 9), none, []⟩, q 3 (.asg 0 (.const (.int .i64 0)) 2)] false) .ret)))
def impl_told_L : Live := [(0, [0]), (1, [0, 2]), (2, [2]), (3, [0, 2]), (100006, [0, 2, 6])]
noncomputable def impl_told (a0 : (List Int)) : Option ((Vec Int 64) × Int) :=
  (Option.bind (impl_row_fits a0) fun r1 => (if (!r1) then (some (((vrep 64 (0 : Int)), 3))) else (Option.bind (impl_row_poly a0) fun r4 => (some (r4, 0)))))
theorem impl_told_ok (a0 : (List Int)) (r : ((Vec Int 64) × Int)) (h : impl_told a0 = some r) : Den Try.prog 101 [(eSi64 a0)] { r := (.tuple [(eA64u8 r.1), (i6 r.2)]) } := by
  refine den_of (rs := [(eA64u8 r.1), (i6 r.2)]) (ac := impl_told_c) (L := impl_told_L) (n := 10) (m := []) (c := Try.f101.body.getD .skip) good Try.func101 (by kernel_rfl) (by kernel_rfl) Try.ntmps101 rfl rfl (by kernel_rfl) rfl rfl ?_
  refine a_st (σ' := ⟨[(0, (eSi64 a0))], []⟩) (by kernel_rfl) ?_
  unfold impl_told_c
  refine sr (vo 1200 (eA64u8 ((vrep 64 (0 : Int)))) rfl rfl (vp (i6 0) rfl (nx ⟨[(0, (eSi64 a0)), (2, (ow 2))], [(2, (bk (eA64u8 ((vrep 64 (0 : Int))))))]⟩ (by kernel_rfl) (a_seq (sr (vp (eSi64 a0) rfl ?_))))))
  obtain ⟨r1, hr2, h⟩ := bind_some h
  refine a_call (args := [(eSi64 a0)]) (u := []) (r := (.bool r1)) rfl rfl (impl_row_fits_ok a0 r1 hr2) rfl (vp (.bool (!r1)) rfl (nx ⟨[(0, (eSi64 a0)), (2, (ow 2)), (6, (.bool (!r1)))], [(2, (bk (eA64u8 ((vrep 64 (0 : Int))))))]⟩ (by kernel_rfl) ?_))
  cases hb3 : (!r1)
  · have h := ite_f hb3 h
    refine a_cond_f rfl (a_skip (a_next (σ' := ⟨[(0, (eSi64 a0)), (2, (ow 2))], [(2, (bk (eA64u8 ((vrep 64 (0 : Int))))))]⟩) (by kernel_rfl) (sr (vp (eSi64 a0) rfl ?_))))
    obtain ⟨r4, hr5, h⟩ := bind_some h
    refine a_call (args := [(eSi64 a0)]) (u := []) (r := (eA64u8 r4)) rfl rfl (impl_row_poly_ok a0 r4 hr5) rfl (vs (eA64u8 r4) rfl rfl (fun _ => rfl) rfl rfl rfl rfl rfl rfl (vp (i6 0) rfl (nx _ rfl (a_ret ?_))))
    have hl7 : LdOk [] (eA64u8 r4) [] 64 true (eA64u8 r4) := (.nil rfl rfl rfl)
    refine ⟨.inr rfl, ?_⟩
    rw [Try.results101]
    cases h
    exact ⟨_, _, _, _, _, ld_own (i := ⟨.arr 64 5, 64, 64, (eA64u8 (vrep 64 (0 : Int)))⟩) rfl rfl rfl hl7, hl7.c, .inl ⟨rfl, .inl rfl⟩, rfl, ⟨_, _, _, _, _, rfl, trivial, .inl ⟨rfl, .inl rfl⟩, rfl, rfl⟩⟩
  · have h := ite_t hb3 h
    refine a_cond_t rfl (sr (vq (eA64u8 ((vrep 64 (0 : Int)))) rfl ⟨⟨_, rfl, rfl⟩, all_nil⟩ (vs (eA64u8 ((vrep 64 (0 : Int)))) rfl rfl (fun _ => rfl) rfl rfl rfl rfl rfl rfl (vp (i6 3) rfl (nx _ rfl (a_ret (t_ret ?_)))))))
    have hl9 : LdOk [] (eA64u8 ((vrep 64 (0 : Int)))) [] 64 true (eA64u8 ((vrep 64 (0 : Int)))) := (.nil rfl rfl rfl)
    refine ⟨.inr rfl, ?_⟩
    rw [Try.results101]
    cases h
    exact ⟨_, _, _, _, _, ld_own (i := ⟨.arr 64 5, 64, 64, (eA64u8 (vrep 64 (0 : Int)))⟩) rfl rfl rfl hl9, hl9.c, .inl ⟨rfl, .inl rfl⟩, rfl, ⟨_, _, _, _, _, rfl, trivial, .inl ⟨rfl, .inl rfl⟩, rfl, rfl⟩⟩
def impl_MultiplyPolys_c : ACode := (.seq (.region 0 [q 4 (.box 25 (t 1)), q 5 (.box 25 (t 2)), q 6 (.alloc 25), q 7 (.asg 0 (.const (.int .i64 0)) 2)] false) (.seq (.seq (.region 1 [q 9 (.mov (t 0)), q 10 (.load 25 (t 4)), q 11 (.load 25 (t 5)), q 12 (.bslice 0 55 2 [(0, (t 10)), (1, (t 11))]), q 13 (.call 0 (.func 100) [(t 9), (t 12)]), q 8 (.asg 0 (t 13) 2)] false) (.seq (.region 2 [q 14 (.mov (t 8)), q 15 (.bin .neq 2 (t 14) (.const (.int .i64 0)))] false) (.cond (t 15) (.seq (.region 3 [q 16 (.build 25 []), q 17 (.mov (t 8)), ⟨none, .store 25 (t 6) (t 16), none, []⟩, q 7 (.asg 0 (t 17) 2)] false) .ret) .skip))) (.seq (.region 4 [q 18 (.mov (t 0)), q 19 (.load 25 (t 4)), ⟨some 20, .call 0 (.func 103) [(t 19)], none, [1]⟩, q 21 (.load 25 (t 5)), ⟨some 22, .call 0 (.func 103) [(t 21)], none, [3, 2]⟩, ⟨some 23, .call 0 (.func 102) [(t 18), (t 20), (t 22)], none, [0, 2, 4, 4]⟩, ⟨some 24, .call 0 (.func 101) [(t 23)], none, [5, 5]⟩, ⟨some 25, .extract (t 24) 0, none, [6]⟩, ⟨some 26, .extract (t 24) 1, none, [6]⟩, ⟨none, .store 25 (t 6) (t 25), none, [7, 6, 0, 1, 2, 3, 4, 5, 6, 7, 8]⟩, ⟨some 7, .asg 0 (t 26) 2, none, [8, 9, 0, 1, 2, 3, 4, 5, 6, 7, 8, 9]⟩] true) .ret)))
def impl_MultiplyPolys_L : Live := [(0, [0, 1, 2]), (1, [0, 4, 5, 6]), (2, [0, 4, 5, 6, 8]), (3, [6, 8]), (4, [0, 4, 5, 6]), (100015, [0, 4, 5, 6, 8, 15])]
noncomputable def impl_MultiplyPolys (a0 : Int) (a1 : (Vec Int 64)) (a2 : (Vec Int 64)) : Option ((Vec Int 64) × Int) :=
  (Option.bind (impl_polysCode a0 ([a1, a2])) fun r3 => (if (r3 != 0) then (some (((vrep 64 (0 : Int)), r3))) else (Option.bind (impl_rowOf a1) fun r18 => (Option.bind (impl_rowOf a2) fun r21 => (Option.bind (impl_prime_times a0 r18 r21) fun r23 => (Option.bind (impl_told r23) fun r25 => (some (r25.1, r25.2))))))))
theorem impl_MultiplyPolys_ok (a0 : Int) (a1 : (Vec Int 64)) (a2 : (Vec Int 64)) (r : ((Vec Int 64) × Int)) (h : impl_MultiplyPolys a0 a1 a2 = some r) : Den Try.prog 12 [(i6 a0), (eA64u8 a1), (eA64u8 a2)] { r := (.tuple [(eA64u8 r.1), (i6 r.2)]) } := by
  refine den_of (rs := [(eA64u8 r.1), (i6 r.2)]) (ac := impl_MultiplyPolys_c) (L := impl_MultiplyPolys_L) (n := 27) (m := []) (c := Try.f12.body.getD .skip) good Try.func12 (by kernel_rfl) (by kernel_rfl) Try.ntmps12 rfl rfl (by kernel_rfl) rfl rfl ?_
  refine a_st (σ' := ⟨[(0, (i6 a0)), (1, (eA64u8 a1)), (2, (eA64u8 a2))], []⟩) (by kernel_rfl) ?_
  unfold impl_MultiplyPolys_c
  refine sr (vo 1400 (eA64u8 a1) rfl rfl (vo 1500 (eA64u8 a2) rfl rfl (vo 1600 (eA64u8 ((vrep 64 (0 : Int)))) rfl rfl (vp (i6 0) rfl (nx ⟨[(0, (i6 a0)), (4, (ow 4)), (5, (ow 5)), (6, (ow 6))], [(4, (bk (eA64u8 a1))), (5, (bk (eA64u8 a2))), (6, (bk (eA64u8 ((vrep 64 (0 : Int))))))]⟩ (by kernel_rfl) (a_seq (sr (vp (i6 a0) rfl (vl (eA64u8 a1) rfl rfl rfl rfl rfl rfl ?_)))))))))
  refine vl (eA64u8 a2) rfl rfl rfl rfl rfl rfl (vq (.sl 64 true (([a1, a2]).map eA64u8)) rfl ⟨(Nat.le_of_ble_eq_true rfl), (Nat.le_of_ble_eq_true rfl), (all_cons ⟨(Nat.le_of_ble_eq_true rfl), rfl⟩ (all_cons ⟨(Nat.le_of_ble_eq_true rfl), rfl⟩ all_nil))⟩ ?_)
  obtain ⟨r3, hr4, h⟩ := bind_some h
  refine a_call (args := [(i6 a0), (.sl 64 true (([a1, a2]).map eA64u8))]) (u := []) (r := (i6 r3)) rfl rfl (Den.args (impl_polysCode_ok a0 ([a1, a2]) r3 hr4) rfl rfl (.cons (.refl _) (.cons (.loose _) .nil))) rfl (vp (i6 r3) rfl (nx ⟨[(0, (i6 a0)), (4, (ow 4)), (5, (ow 5)), (6, (ow 6)), (8, (i6 r3))], [(4, (bk (eA64u8 a1))), (5, (bk (eA64u8 a2))), (6, (bk (eA64u8 ((vrep 64 (0 : Int))))))]⟩ (by kernel_rfl) (sr (vp (i6 r3) rfl (vp (.bool (r3 != 0)) rfl (nx ⟨[(0, (i6 a0)), (4, (ow 4)), (5, (ow 5)), (6, (ow 6)), (8, (i6 r3)), (15, (.bool (r3 != 0)))], [(4, (bk (eA64u8 a1))), (5, (bk (eA64u8 a2))), (6, (bk (eA64u8 ((vrep 64 (0 : Int))))))]⟩ (by kernel_rfl) ?_))))))
  cases hb5 : (r3 != 0)
  · have h := ite_f hb5 h
    refine a_cond_f rfl (a_skip (a_next (σ' := ⟨[(0, (i6 a0)), (4, (ow 4)), (5, (ow 5)), (6, (ow 6))], [(4, (bk (eA64u8 a1))), (5, (bk (eA64u8 a2))), (6, (bk (eA64u8 ((vrep 64 (0 : Int))))))]⟩) (by kernel_rfl) (a_seq (a_draw [⟨[], [], [], []⟩, ⟨[4], [], [], []⟩, ⟨[], [], [], [1]⟩, ⟨[5], [], [], []⟩, ⟨[], [], [], [1, 2, 3]⟩, ⟨[], [], [], [0, 1, 2, 3, 4]⟩, ⟨[], [], [], [0, 1, 2, 3, 4, 5]⟩, ⟨[], [], [], [0, 1, 2, 3, 4, 5, 6]⟩, ⟨[], [], [], [0, 1, 2, 3, 4, 5, 6]⟩, ⟨[6], [6], [], [0, 1, 2, 3, 4, 5, 6, 7, 8]⟩, ⟨[], [], [], [0, 1, 2, 3, 4, 5, 6, 7, 8, 9]⟩] (by kernel_rfl) (dp (i6 a0) rfl (by kernel_rfl) (d_cons (vl (eA64u8 a1) rfl rfl rfl rfl rfl rfl (d_next (by kernel_rfl) (d_cons ?_)))))))))
    obtain ⟨r18, hr19, h⟩ := bind_some h
    refine a_call (args := [(eA64u8 a1)]) (u := []) (r := (eSi64 r18)) rfl rfl (impl_rowOf_ok a1 r18 hr19) rfl (d_next (by kernel_rfl) (d_cons (vl (eA64u8 a2) rfl rfl rfl rfl rfl rfl (d_next (by kernel_rfl) (d_cons ?_)))))
    obtain ⟨r21, hr22, h⟩ := bind_some h
    refine a_call (args := [(eA64u8 a2)]) (u := []) (r := (eSi64 r21)) rfl rfl (impl_rowOf_ok a2 r21 hr22) rfl (d_next (by kernel_rfl) (d_cons ?_))
    obtain ⟨r23, hr24, h⟩ := bind_some h
    refine a_call (args := [(i6 a0), (eSi64 r18), (eSi64 r21)]) (u := []) (r := (eSi64 r23)) rfl rfl (impl_prime_times_ok a0 r18 r21 r23 hr24) rfl (d_next (by kernel_rfl) (d_cons ?_))
    obtain ⟨r25, hr26, h⟩ := bind_some h
    refine a_call (args := [(eSi64 r23)]) (u := []) (r := (.tuple [(eA64u8 r25.1), (i6 r25.2)])) rfl rfl (impl_told_ok r23 r25 hr26) rfl (d_next (by kernel_rfl) (d_cons (vb (eA64u8 r25.1) rfl rfl (d_next (by kernel_rfl) (d_cons (vb (i6 r25.2) rfl rfl (d_next (by kernel_rfl) (d_cons (vs (eA64u8 r25.1) rfl rfl (fun _ => rfl) rfl rfl rfl rfl rfl rfl ?_)))))))))
    refine d_next (by kernel_rfl) (dp (i6 r25.2) rfl (by kernel_rfl) (d_nil (a_next rfl (a_ret ?_))))
    have hl28 : LdOk [] (eA64u8 r25.1) [] 64 true (eA64u8 r25.1) := (.nil rfl rfl rfl)
    refine ⟨.inr rfl, ?_⟩
    rw [Try.results12]
    cases h
    exact ⟨_, _, _, _, _, ld_own (i := ⟨.arr 64 5, 64, 64, (eA64u8 (vrep 64 (0 : Int)))⟩) rfl rfl rfl hl28, hl28.c, .inl ⟨rfl, .inl rfl⟩, rfl, ⟨_, _, _, _, _, rfl, trivial, .inl ⟨rfl, .inl rfl⟩, rfl, rfl⟩⟩
  · have h := ite_t hb5 h
    refine a_cond_t rfl (sr (vq (eA64u8 ((vrep 64 (0 : Int)))) rfl ⟨⟨_, rfl, rfl⟩, all_nil⟩ (vp (i6 r3) rfl (vs (eA64u8 ((vrep 64 (0 : Int)))) rfl rfl (fun _ => rfl) rfl rfl rfl rfl rfl rfl (vp (i6 r3) rfl (nx _ rfl (a_ret (t_ret ?_))))))))
    have hl30 : LdOk [] (eA64u8 ((vrep 64 (0 : Int)))) [] 64 true (eA64u8 ((vrep 64 (0 : Int)))) := (.nil rfl rfl rfl)
    refine ⟨.inr rfl, ?_⟩
    rw [Try.results12]
    cases h
    exact ⟨_, _, _, _, _, ld_own (i := ⟨.arr 64 5, 64, 64, (eA64u8 (vrep 64 (0 : Int)))⟩) rfl rfl rfl hl30, hl30.c, .inl ⟨rfl, .inl rfl⟩, rfl, ⟨_, _, _, _, _, rfl, trivial, .inl ⟨rfl, .inl rfl⟩, rfl, rfl⟩⟩
def impl_SubtractPolys_c : ACode := (.seq (.region 0 [q 4 (.box 25 (t 1)), q 5 (.box 25 (t 2)), q 6 (.alloc 25), q 7 (.asg 0 (.const (.int .i64 0)) 2)] false) (.seq (.seq (.region 1 [q 9 (.mov (t 0)), q 10 (.load 25 (t 4)), q 11 (.load 25 (t 5)), q 12 (.bslice 0 55 2 [(0, (t 10)), (1, (t 11))]), q 13 (.call 0 (.func 100) [(t 9), (t 12)]), q 8 (.asg 0 (t 13) 2)] false) (.seq (.region 2 [q 14 (.mov (t 8)), q 15 (.bin .neq 2 (t 14) (.const (.int .i64 0)))] false) (.cond (t 15) (.seq (.region 3 [q 16 (.build 25 []), q 17 (.mov (t 8)), ⟨none, .store 25 (t 6) (t 16), none, []⟩, q 7 (.asg 0 (t 17) 2)] false) .ret) .skip))) (.seq (.region 4 [q 18 (.mov (t 0)), q 19 (.load 25 (t 4)), ⟨some 20, .call 0 (.func 103) [(t 19)], none, [1]⟩, q 21 (.load 25 (t 5)), ⟨some 22, .call 0 (.func 103) [(t 21)], none, [3, 2]⟩, ⟨some 23, .call 0 (.func 109) [(t 18), (t 20), (t 22), (.const (.int .i64 (-1)))], none, [0, 2, 4, 4]⟩, ⟨some 24, .call 0 (.func 101) [(t 23)], none, [5, 5]⟩, ⟨some 25, .extract (t 24) 0, none, [6]⟩, ⟨some 26, .extract (t 24) 1, none, [6]⟩, ⟨none, .store 25 (t 6) (t 25), none, [7, 6, 0, 1, 2, 3, 4, 5, 6, 7, 8]⟩, ⟨some 7, .asg 0 (t 26) 2, none, [8, 9, 0, 1, 2, 3, 4, 5, 6, 7, 8, 9]⟩] true) .ret)))
def impl_SubtractPolys_L : Live := [(0, [0, 1, 2]), (1, [0, 4, 5, 6]), (2, [0, 4, 5, 6, 8]), (3, [6, 8]), (4, [0, 4, 5, 6]), (100015, [0, 4, 5, 6, 8, 15])]
noncomputable def impl_SubtractPolys (a0 : Int) (a1 : (Vec Int 64)) (a2 : (Vec Int 64)) : Option ((Vec Int 64) × Int) :=
  (Option.bind (impl_polysCode a0 ([a1, a2])) fun r3 => (if (r3 != 0) then (some (((vrep 64 (0 : Int)), r3))) else (Option.bind (impl_rowOf a1) fun r18 => (Option.bind (impl_rowOf a2) fun r21 => (Option.bind (impl_prime_combine a0 r18 r21 (-1)) fun r23 => (Option.bind (impl_told r23) fun r25 => (some (r25.1, r25.2))))))))
theorem impl_SubtractPolys_ok (a0 : Int) (a1 : (Vec Int 64)) (a2 : (Vec Int 64)) (r : ((Vec Int 64) × Int)) (h : impl_SubtractPolys a0 a1 a2 = some r) : Den Try.prog 78 [(i6 a0), (eA64u8 a1), (eA64u8 a2)] { r := (.tuple [(eA64u8 r.1), (i6 r.2)]) } := by
  refine den_of (rs := [(eA64u8 r.1), (i6 r.2)]) (ac := impl_SubtractPolys_c) (L := impl_SubtractPolys_L) (n := 27) (m := []) (c := Try.f78.body.getD .skip) good Try.func78 (by kernel_rfl) (by kernel_rfl) Try.ntmps78 rfl rfl (by kernel_rfl) rfl rfl ?_
  refine a_st (σ' := ⟨[(0, (i6 a0)), (1, (eA64u8 a1)), (2, (eA64u8 a2))], []⟩) (by kernel_rfl) ?_
  unfold impl_SubtractPolys_c
  refine sr (vo 1400 (eA64u8 a1) rfl rfl (vo 1500 (eA64u8 a2) rfl rfl (vo 1600 (eA64u8 ((vrep 64 (0 : Int)))) rfl rfl (vp (i6 0) rfl (nx ⟨[(0, (i6 a0)), (4, (ow 4)), (5, (ow 5)), (6, (ow 6))], [(4, (bk (eA64u8 a1))), (5, (bk (eA64u8 a2))), (6, (bk (eA64u8 ((vrep 64 (0 : Int))))))]⟩ (by kernel_rfl) (a_seq (sr (vp (i6 a0) rfl (vl (eA64u8 a1) rfl rfl rfl rfl rfl rfl ?_)))))))))
  refine vl (eA64u8 a2) rfl rfl rfl rfl rfl rfl (vq (.sl 64 true (([a1, a2]).map eA64u8)) rfl ⟨(Nat.le_of_ble_eq_true rfl), (Nat.le_of_ble_eq_true rfl), (all_cons ⟨(Nat.le_of_ble_eq_true rfl), rfl⟩ (all_cons ⟨(Nat.le_of_ble_eq_true rfl), rfl⟩ all_nil))⟩ ?_)
  obtain ⟨r3, hr4, h⟩ := bind_some h
  refine a_call (args := [(i6 a0), (.sl 64 true (([a1, a2]).map eA64u8))]) (u := []) (r := (i6 r3)) rfl rfl (Den.args (impl_polysCode_ok a0 ([a1, a2]) r3 hr4) rfl rfl (.cons (.refl _) (.cons (.loose _) .nil))) rfl (vp (i6 r3) rfl (nx ⟨[(0, (i6 a0)), (4, (ow 4)), (5, (ow 5)), (6, (ow 6)), (8, (i6 r3))], [(4, (bk (eA64u8 a1))), (5, (bk (eA64u8 a2))), (6, (bk (eA64u8 ((vrep 64 (0 : Int))))))]⟩ (by kernel_rfl) (sr (vp (i6 r3) rfl (vp (.bool (r3 != 0)) rfl (nx ⟨[(0, (i6 a0)), (4, (ow 4)), (5, (ow 5)), (6, (ow 6)), (8, (i6 r3)), (15, (.bool (r3 != 0)))], [(4, (bk (eA64u8 a1))), (5, (bk (eA64u8 a2))), (6, (bk (eA64u8 ((vrep 64 (0 : Int))))))]⟩ (by kernel_rfl) ?_))))))
  cases hb5 : (r3 != 0)
  · have h := ite_f hb5 h
    refine a_cond_f rfl (a_skip (a_next (σ' := ⟨[(0, (i6 a0)), (4, (ow 4)), (5, (ow 5)), (6, (ow 6))], [(4, (bk (eA64u8 a1))), (5, (bk (eA64u8 a2))), (6, (bk (eA64u8 ((vrep 64 (0 : Int))))))]⟩) (by kernel_rfl) (a_seq (a_draw [⟨[], [], [], []⟩, ⟨[4], [], [], []⟩, ⟨[], [], [], [1]⟩, ⟨[5], [], [], []⟩, ⟨[], [], [], [1, 2, 3]⟩, ⟨[], [], [], [0, 1, 2, 3, 4]⟩, ⟨[], [], [], [0, 1, 2, 3, 4, 5]⟩, ⟨[], [], [], [0, 1, 2, 3, 4, 5, 6]⟩, ⟨[], [], [], [0, 1, 2, 3, 4, 5, 6]⟩, ⟨[6], [6], [], [0, 1, 2, 3, 4, 5, 6, 7, 8]⟩, ⟨[], [], [], [0, 1, 2, 3, 4, 5, 6, 7, 8, 9]⟩] (by kernel_rfl) (dp (i6 a0) rfl (by kernel_rfl) (d_cons (vl (eA64u8 a1) rfl rfl rfl rfl rfl rfl (d_next (by kernel_rfl) (d_cons ?_)))))))))
    obtain ⟨r18, hr19, h⟩ := bind_some h
    refine a_call (args := [(eA64u8 a1)]) (u := []) (r := (eSi64 r18)) rfl rfl (impl_rowOf_ok a1 r18 hr19) rfl (d_next (by kernel_rfl) (d_cons (vl (eA64u8 a2) rfl rfl rfl rfl rfl rfl (d_next (by kernel_rfl) (d_cons ?_)))))
    obtain ⟨r21, hr22, h⟩ := bind_some h
    refine a_call (args := [(eA64u8 a2)]) (u := []) (r := (eSi64 r21)) rfl rfl (impl_rowOf_ok a2 r21 hr22) rfl (d_next (by kernel_rfl) (d_cons ?_))
    obtain ⟨r23, hr24, h⟩ := bind_some h
    refine a_call (args := [(i6 a0), (eSi64 r18), (eSi64 r21), (i6 (-1))]) (u := []) (r := (eSi64 r23)) rfl rfl (impl_prime_combine_ok a0 r18 r21 (-1) r23 hr24) rfl (d_next (by kernel_rfl) (d_cons ?_))
    obtain ⟨r25, hr26, h⟩ := bind_some h
    refine a_call (args := [(eSi64 r23)]) (u := []) (r := (.tuple [(eA64u8 r25.1), (i6 r25.2)])) rfl rfl (impl_told_ok r23 r25 hr26) rfl (d_next (by kernel_rfl) (d_cons (vb (eA64u8 r25.1) rfl rfl (d_next (by kernel_rfl) (d_cons (vb (i6 r25.2) rfl rfl (d_next (by kernel_rfl) (d_cons (vs (eA64u8 r25.1) rfl rfl (fun _ => rfl) rfl rfl rfl rfl rfl rfl ?_)))))))))
    refine d_next (by kernel_rfl) (dp (i6 r25.2) rfl (by kernel_rfl) (d_nil (a_next rfl (a_ret ?_))))
    have hl28 : LdOk [] (eA64u8 r25.1) [] 64 true (eA64u8 r25.1) := (.nil rfl rfl rfl)
    refine ⟨.inr rfl, ?_⟩
    rw [Try.results78]
    cases h
    exact ⟨_, _, _, _, _, ld_own (i := ⟨.arr 64 5, 64, 64, (eA64u8 (vrep 64 (0 : Int)))⟩) rfl rfl rfl hl28, hl28.c, .inl ⟨rfl, .inl rfl⟩, rfl, ⟨_, _, _, _, _, rfl, trivial, .inl ⟨rfl, .inl rfl⟩, rfl, rfl⟩⟩
  · have h := ite_t hb5 h
    refine a_cond_t rfl (sr (vq (eA64u8 ((vrep 64 (0 : Int)))) rfl ⟨⟨_, rfl, rfl⟩, all_nil⟩ (vp (i6 r3) rfl (vs (eA64u8 ((vrep 64 (0 : Int)))) rfl rfl (fun _ => rfl) rfl rfl rfl rfl rfl rfl (vp (i6 r3) rfl (nx _ rfl (a_ret (t_ret ?_))))))))
    have hl30 : LdOk [] (eA64u8 ((vrep 64 (0 : Int)))) [] 64 true (eA64u8 ((vrep 64 (0 : Int)))) := (.nil rfl rfl rfl)
    refine ⟨.inr rfl, ?_⟩
    rw [Try.results78]
    cases h
    exact ⟨_, _, _, _, _, ld_own (i := ⟨.arr 64 5, 64, 64, (eA64u8 (vrep 64 (0 : Int)))⟩) rfl rfl rfl hl30, hl30.c, .inl ⟨rfl, .inl rfl⟩, rfl, ⟨_, _, _, _, _, rfl, trivial, .inl ⟨rfl, .inl rfl⟩, rfl, rfl⟩⟩
end Go.Proofs.Ytkbnegemdlnncaa
