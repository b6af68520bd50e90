/- Functions of the program: plain Lean functions, and that the program computes them. Printed by gen.py. -/
import Derived.Test.YtgodhgbnjlflmaaFnT
import Derived.Test.YtgodhgbnjlflmaaFn1
namespace Go.Proofs.Ytgodhgbnjlflmaa
open Go.Abs Go.Proofs
set_option linter.unusedSimpArgs false
set_option linter.unusedVariables false
attribute [local irreducible] Abs.acode Abs.aops Abs.aopsT Abs.thenK Abs.blockK

def spec_l10Continued_c : ACode := (.seq (.region 0 [⟨some 4, .box 23 (.tmp 1), none, []⟩, ⟨some 5, .box 23 (.tmp 2), none, []⟩, ⟨some 6, .asg 1 (.const (.slice none 0 0)) 30, none, []⟩] false) (.seq (.region 1 [⟨some 10, .bslice 2 30 0 [], none, []⟩, ⟨some 7, .asg 2 (.tmp 10) 30, none, []⟩] false) (.seq (.block 0 (.loop (.seq (.seq (.region 2 [⟨some 11, .load 23 (.tmp 5), none, []⟩, ⟨some 12, .build 23 [], none, []⟩, ⟨some 13, .bin .neq 23 (.tmp 11) (.tmp 12), none, []⟩] false) (.cond (.tmp 13) .skip (.exit 0))) (.block 1 (.seq (.region 3 [⟨some 15, .mov (.tmp 0), none, []⟩, ⟨some 16, .load 23 (.tmp 4), none, []⟩, ⟨some 17, .load 23 (.tmp 5), none, []⟩, ⟨some 18, .call 0 (.func 87) [(.tmp 15), (.tmp 16), (.tmp 17)], none, []⟩, ⟨some 14, .mov (.tmp 18), none, []⟩, ⟨some 19, .extract (.tmp 14) 0, none, []⟩, ⟨some 20, .extract (.tmp 14) 1, none, []⟩, ⟨some 8, .alloc 23, none, []⟩, ⟨some 9, .alloc 23, none, []⟩, ⟨none, .store 23 (.tmp 8) (.tmp 19), none, []⟩, ⟨none, .store 23 (.tmp 9) (.tmp 20), none, []⟩] false) (.seq (.region 4 [⟨some 21, .mov (.tmp 7), none, []⟩, ⟨some 22, .load 23 (.tmp 8), none, []⟩, ⟨some 23, .bslice 0 30 1 [(0, (.tmp 22))], none, []⟩, ⟨some 24, .blt 0 .append [(.tmp 21), (.tmp 23)] [30, 30], none, []⟩, ⟨some 7, .asg 2 (.tmp 24) 30, none, []⟩] false) (.seq (.region 5 [⟨some 25, .load 23 (.tmp 5), none, []⟩, ⟨none, .store 23 (.tmp 4) (.tmp 25), none, []⟩] false) (.region 6 [⟨some 26, .load 23 (.tmp 9), none, []⟩, ⟨none, .store 23 (.tmp 5) (.tmp 26), none, []⟩] false)))))))) (.seq (.region 7 [⟨some 27, .mov (.tmp 7), none, []⟩, ⟨some 6, .asg 1 (.tmp 27) 30, none, []⟩] false) .ret))))
def spec_l10Continued_L : Live := [(0, [0, 1, 2]), (1, [0, 4, 5]), (2, [0, 4, 5, 7]), (3, [0, 4, 5, 7]), (4, [0, 4, 5, 7, 8, 9]), (5, [0, 4, 5, 7, 9]), (6, [0, 4, 5, 7, 9]), (7, [7]), (100013, [0, 4, 5, 7, 13])]
theorem spec_l10Continued_body : Try.f68.body = some (Try.f68.body.getD .skip) := by kernel_rfl
theorem spec_l10Continued_strip : strip [(6, 1), (7, 2), (10, 2)] (Try.f68.body.getD .skip) = spec_l10Continued_c := by kernel_rfl
noncomputable def spec_l10Continued_l1 (a0 : Int) (x68 : (Vec Int 64)) (x69 : (Vec Int 64)) (x70 : (List (Vec Int 64))) : Option (((Vec Int 64) × (Vec Int 64) × (List (Vec Int 64))) ⊕ (List (Vec Int 64))) :=
  (if (!decide (x69 = ((vrep 64 (0 : Int))))) then (Option.bind (spec_l01Divide a0 x68 x69) fun r92 => (ifp ((x70.length + ([r92.1] : List (Vec Int 64)).length) * 64 ≤ 140737488355328) ((some (.inl ((x69, r92.2, (x70 ++ ([r92.1]))))))))) else (some (.inr x70)))
noncomputable def spec_l10Continued (a0 : Int) (a1 : (Vec Int 64)) (a2 : (Vec Int 64)) : Option (List (Vec Int 64)) :=
  (Option.bind (α := (List (Vec Int 64))) ((loopM (fun s : ((Vec Int 64) × (Vec Int 64) × (List (Vec Int 64))) => spec_l10Continued_l1 a0 s.1 s.2.1 s.2.2) (a1, a2, []))) fun x50 => (some x50))
set_option maxHeartbeats 16000000 in
theorem spec_l10Continued_ok (a0 : Int) (a1 : (Vec Int 64)) (a2 : (Vec Int 64)) (r : (List (Vec Int 64))) (h : spec_l10Continued a0 a1 a2 = some r) : Den Try.prog 68 [(.int .i64 a0), (eA64u8 a1), (eA64u8 a2)] { r := (eSA64u8 r) } := by
  refine den_of (rs := [(eSA64u8 r)]) (ac := spec_l10Continued_c) (L := spec_l10Continued_L) (n := 28) (m := [(6, 1), (7, 2), (10, 2)]) good Try.func68 spec_l10Continued_body (by kernel_rfl) Try.ntmps68 rfl rfl spec_l10Continued_strip rfl rfl ?_
  refine a_st (σ' := ⟨[(0, (.int .i64 a0)), (1, (eA64u8 a1)), (2, (eA64u8 a2))], []⟩) (by kernel_rfl) ?_
  unfold spec_l10Continued_c
  refine a_seq ?_
  refine a_region ?_
  refine a_val (v := (.own 1400 [] [])) (u := [(1400, some ⟨(eA64u8 a1), false⟩)]) rfl trivial rfl ?_
  refine a_val (v := (.own 1500 [] [])) (u := [(1500, some ⟨(eA64u8 a2), false⟩)]) rfl trivial rfl ?_
  refine a_val (v := (eSA64u8 ([]))) (u := []) rfl trivial rfl ?_
  refine a_nil ?_
  refine a_next (σ' := ⟨[(0, (.int .i64 a0)), (4, (.own 4 [] [])), (5, (.own 5 [] []))], [(4, some ⟨(eA64u8 a1), false⟩), (5, some ⟨(eA64u8 a2), false⟩)]⟩) (by kernel_rfl) ?_
  refine a_seq ?_
  refine a_region ?_
  refine a_val (v := (.osl 2000)) (u := [(2000, some ⟨(.row 64 (([]).map eA64u8)), false⟩)]) rfl ⟨(Nat.le_of_ble_eq_true rfl), (Nat.le_of_ble_eq_true rfl), all_nil⟩ rfl ?_
  refine a_val (v := (.osl 2000)) (u := []) rfl trivial rfl ?_
  refine a_nil ?_
  refine a_next (σ' := ⟨[(0, (.int .i64 a0)), (4, (.own 4 [] [])), (5, (.own 5 [] [])), (7, (.osl 7))], [(4, some ⟨(eA64u8 a1), false⟩), (5, some ⟨(eA64u8 a2), false⟩), (7, some ⟨(.row 64 (([]).map eA64u8)), false⟩)]⟩) (by kernel_rfl) ?_
  obtain ⟨y51, hy52, hk53⟩ := bind_some h
  clear h
  refine a_join (emb := fun (s : (List (Vec Int 64))) => ⟨[(7, (.osl 7))], [(7, some ⟨(.row 64 (s.map eA64u8)), false⟩)]⟩) (pre := fun s => s = y51) ?_ ?_
  · rintro x50 rfl
    have h := hk53
    refine a_st (σ' := ⟨[(7, (.osl 7))], [(7, some ⟨(.row 64 (x50.map eA64u8)), false⟩)]⟩) (by kernel_rfl) ?_
    refine a_seq ?_
    refine a_region ?_
    refine a_val (v := (.osl 7)) (u := []) rfl trivial rfl ?_
    refine a_val (v := (eSA64u8 x50)) (u := [(7, some ⟨(.row 64 (x50.map eA64u8)), true⟩)]) rfl trivial rfl ?_
    refine a_nil ?_
    refine a_next rfl ?_
    refine a_ret ?_
    refine ⟨.inr rfl, ?_⟩
    rw [Try.results68]
    cases h
    exact ⟨_, _, _, _, _, rfl, trivial, .inl ⟨rfl, .inl rfl⟩, rfl, rfl⟩
  · have h := hy52
    refine a_block ?_
    refine a_loop (emb := fun (s : ((Vec Int 64) × (Vec Int 64) × (List (Vec Int 64)))) => ⟨[(0, (.int .i64 a0)), (4, (.own 4 [] [])), (5, (.own 5 [] [])), (7, (.osl 7))], [(4, some ⟨(eA64u8 s.1), false⟩), (5, some ⟨(eA64u8 s.2.1), false⟩), (7, some ⟨(.row 64 (s.2.2.map eA64u8)), false⟩)]⟩) (body := (fun s : ((Vec Int 64) × (Vec Int 64) × (List (Vec Int 64))) => spec_l10Continued_l1 a0 s.1 s.2.1 s.2.2)) (G := fun q => some q = some y51) h rfl ?_ (by kernel_rfl)
    rintro X85 ⟨x68, x69, x70⟩ x86 h hX87
    have h : spec_l10Continued_l1 a0 x68 x69 x70 = some x86 := h
    refine a_st (σ' := ⟨[(0, (.int .i64 a0)), (4, (.own 4 [] [])), (5, (.own 5 [] [])), (7, (.osl 7))], [(4, some ⟨(eA64u8 x68), false⟩), (5, some ⟨(eA64u8 x69), false⟩), (7, some ⟨(.row 64 (x70.map eA64u8)), false⟩)]⟩) (by kernel_rfl) ?_
    refine a_seq ?_
    refine a_seq ?_
    refine a_region ?_
    have hl88 : LdOk [] (eA64u8 x69) [] 64 true (eA64u8 x69) := (.nil rfl rfl rfl)
    refine a_val (v := (eA64u8 x69)) (u := []) (ld_own (i := ⟨.arr 64 5, 64, 64, (eA64u8 (vrep 64 (0 : Int)))⟩) rfl rfl rfl hl88) hl88.c rfl ?_
    refine a_val (v := (eA64u8 ((vrep 64 (0 : Int))))) (u := []) rfl ⟨⟨_, rfl, rfl⟩, all_nil⟩ rfl ?_
    refine a_val (v := (.bool ((!decide (x69 = ((vrep 64 (0 : Int)))))))) (u := []) (nea_run (f := (AV.int .u8)) (a := x69.1) (b := ((vrep 64 (0 : Int))).1) rfl rfl (eqb_vec (fun _ _ => eqb_int _ _) x69 ((vrep 64 (0 : Int))))) (cmp_arr (g := 8) (f := (AV.int .u8)) (x := x69) (y := ((vrep 64 (0 : Int)))) rfl rfl rfl (fun _ _ => rfl) (fun _ _ => cmp_int rfl)) rfl ?_
    refine a_nil ?_
    refine a_next (σ' := ⟨[(0, (.int .i64 a0)), (4, (.own 4 [] [])), (5, (.own 5 [] [])), (7, (.osl 7)), (13, (.bool ((!decide (x69 = ((vrep 64 (0 : Int))))))))], [(4, some ⟨(eA64u8 x68), false⟩), (5, some ⟨(eA64u8 x69), false⟩), (7, some ⟨(.row 64 (x70.map eA64u8)), false⟩)]⟩) (by kernel_rfl) ?_
    cases hb89 : (!decide (x69 = ((vrep 64 (0 : Int)))))
    · have h := ite_f hb89 h
      refine a_cond_f rfl ?_
      refine a_exit ?_
      refine t_exit ?_
      cases h
      have h := hX87
      refine t_exit ?_
      refine b_exit ?_
      exact j_leaf x70 (Option.some.inj h) (by kernel_rfl)
    · have h := ite_t hb89 h
      refine a_cond_t rfl ?_
      refine a_skip ?_
      refine a_next (σ' := ⟨[(0, (.int .i64 a0)), (4, (.own 4 [] [])), (5, (.own 5 [] [])), (7, (.osl 7))], [(4, some ⟨(eA64u8 x68), false⟩), (5, some ⟨(eA64u8 x69), false⟩), (7, some ⟨(.row 64 (x70.map eA64u8)), false⟩)]⟩) (by kernel_rfl) ?_
      refine a_block ?_
      refine a_seq ?_
      refine a_region ?_
      refine a_val (v := (.int .i64 a0)) (u := []) rfl trivial rfl ?_
      have hl90 : LdOk [] (eA64u8 x68) [] 64 true (eA64u8 x68) := (.nil rfl rfl rfl)
      refine a_val (v := (eA64u8 x68)) (u := []) (ld_own (i := ⟨.arr 64 5, 64, 64, (eA64u8 (vrep 64 (0 : Int)))⟩) rfl rfl rfl hl90) hl90.c rfl ?_
      have hl91 : LdOk [] (eA64u8 x69) [] 64 true (eA64u8 x69) := (.nil rfl rfl rfl)
      refine a_val (v := (eA64u8 x69)) (u := []) (ld_own (i := ⟨.arr 64 5, 64, 64, (eA64u8 (vrep 64 (0 : Int)))⟩) rfl rfl rfl hl91) hl91.c rfl ?_
      obtain ⟨r92, hr93, h⟩ := bind_some h
      refine a_call (args := [(.int .i64 a0), (eA64u8 x68), (eA64u8 x69)]) (u := []) (r := (.tuple [(eA64u8 r92.1), (eA64u8 r92.2)])) rfl rfl (spec_l01Divide_ok a0 x68 x69 r92 hr93) rfl ?_
      refine a_val (v := (.tuple [(eA64u8 r92.1), (eA64u8 r92.2)])) (u := []) rfl trivial rfl ?_
      refine a_val (v := (eA64u8 r92.1)) (u := []) rfl (Nat.le_of_ble_eq_true rfl) rfl ?_
      refine a_val (v := (eA64u8 r92.2)) (u := []) rfl (Nat.le_of_ble_eq_true rfl) rfl ?_
      refine a_val (v := (.own 1800 [] [])) (u := [(1800, some ⟨(eA64u8 ((vrep 64 (0 : Int)))), false⟩)]) rfl trivial rfl ?_
      refine a_val (v := (.own 1900 [] [])) (u := [(1900, some ⟨(eA64u8 ((vrep 64 (0 : Int)))), false⟩)]) rfl trivial rfl ?_
      have hs94 : StOk [] (eA64u8 ((vrep 64 (0 : Int)))) [] 64 (eA64u8 r92.1) (eA64u8 r92.1) := (.nil rfl rfl rfl rfl)
      refine a_val (v := .top) (u := [(1800, some ⟨(eA64u8 r92.1), false⟩)]) (st_own (i := ⟨.arr 64 5, 64, 64, (eA64u8 (vrep 64 (0 : Int)))⟩) rfl rfl (fun _ => rfl) rfl hs94) (hs94.c rfl) rfl ?_
      have hs95 : StOk [] (eA64u8 ((vrep 64 (0 : Int)))) [] 64 (eA64u8 r92.2) (eA64u8 r92.2) := (.nil rfl rfl rfl rfl)
      refine a_val (v := .top) (u := [(1900, some ⟨(eA64u8 r92.2), false⟩)]) (st_own (i := ⟨.arr 64 5, 64, 64, (eA64u8 (vrep 64 (0 : Int)))⟩) rfl rfl (fun _ => rfl) rfl hs95) (hs95.c rfl) rfl ?_
      refine a_nil ?_
      refine a_next (σ' := ⟨[(0, (.int .i64 a0)), (4, (.own 4 [] [])), (5, (.own 5 [] [])), (7, (.osl 7)), (8, (.own 8 [] [])), (9, (.own 9 [] []))], [(4, some ⟨(eA64u8 x68), false⟩), (5, some ⟨(eA64u8 x69), false⟩), (7, some ⟨(.row 64 (x70.map eA64u8)), false⟩), (8, some ⟨(eA64u8 r92.1), false⟩), (9, some ⟨(eA64u8 r92.2), false⟩)]⟩) (by kernel_rfl) ?_
      refine a_seq ?_
      refine a_region ?_
      refine a_val (v := (.osl 7)) (u := []) rfl trivial rfl ?_
      have hl96 : LdOk [] (eA64u8 r92.1) [] 64 true (eA64u8 r92.1) := (.nil rfl rfl rfl)
      refine a_val (v := (eA64u8 r92.1)) (u := []) (ld_own (i := ⟨.arr 64 5, 64, 64, (eA64u8 (vrep 64 (0 : Int)))⟩) rfl rfl rfl hl96) hl96.c rfl ?_
      refine a_val (v := (.sl 64 true (([r92.1]).map eA64u8))) (u := []) rfl ⟨(Nat.le_of_ble_eq_true rfl), (Nat.le_of_ble_eq_true rfl), (all_cons ⟨(Nat.le_of_ble_eq_true rfl), rfl⟩ all_nil)⟩ rfl ?_
      obtain ⟨hc97, h⟩ := ifp_some h
      refine a_val (v := (.osl 3400)) (u := [(3400, some ⟨(.row 64 (((x70 ++ ([r92.1]))).map eA64u8)), false⟩), (7, none)]) (app_run (i := ⟨.arr 64 5, 64, 64, (eA64u8 (vrep 64 (0 : Int)))⟩) (f := eA64u8) (l := x70) (l2 := [r92.1]) rfl rfl rfl rfl (fun _ => rfl) rfl rfl) (app_c (f := eA64u8) (s := 64) (sz := 64) (by' := 64) (u := []) (id := 7) hc97 (.inr rfl) rfl rfl rfl) rfl ?_
      refine a_val (v := (.osl 3400)) (u := []) rfl trivial rfl ?_
      refine a_nil ?_
      refine a_next (σ' := ⟨[(0, (.int .i64 a0)), (4, (.own 4 [] [])), (5, (.own 5 [] [])), (7, (.osl 7)), (9, (.own 9 [] []))], [(4, some ⟨(eA64u8 x68), false⟩), (5, some ⟨(eA64u8 x69), false⟩), (7, some ⟨(.row 64 (((x70 ++ ([r92.1]))).map eA64u8)), false⟩), (9, some ⟨(eA64u8 r92.2), false⟩)]⟩) (by kernel_rfl) ?_
      refine a_seq ?_
      refine a_region ?_
      have hl98 : LdOk [] (eA64u8 x69) [] 64 true (eA64u8 x69) := (.nil rfl rfl rfl)
      refine a_val (v := (eA64u8 x69)) (u := []) (ld_own (i := ⟨.arr 64 5, 64, 64, (eA64u8 (vrep 64 (0 : Int)))⟩) rfl rfl rfl hl98) hl98.c rfl ?_
      have hs99 : StOk [] (eA64u8 x68) [] 64 (eA64u8 x69) (eA64u8 x69) := (.nil rfl rfl rfl rfl)
      refine a_val (v := .top) (u := [(4, some ⟨(eA64u8 x69), false⟩)]) (st_own (i := ⟨.arr 64 5, 64, 64, (eA64u8 (vrep 64 (0 : Int)))⟩) rfl rfl (fun _ => rfl) rfl hs99) (hs99.c rfl) rfl ?_
      refine a_nil ?_
      refine a_next (σ' := ⟨[(0, (.int .i64 a0)), (4, (.own 4 [] [])), (5, (.own 5 [] [])), (7, (.osl 7)), (9, (.own 9 [] []))], [(4, some ⟨(eA64u8 x69), false⟩), (5, some ⟨(eA64u8 x69), false⟩), (7, some ⟨(.row 64 (((x70 ++ ([r92.1]))).map eA64u8)), false⟩), (9, some ⟨(eA64u8 r92.2), false⟩)]⟩) (by kernel_rfl) ?_
      refine a_region ?_
      have hl100 : LdOk [] (eA64u8 r92.2) [] 64 true (eA64u8 r92.2) := (.nil rfl rfl rfl)
      refine a_val (v := (eA64u8 r92.2)) (u := []) (ld_own (i := ⟨.arr 64 5, 64, 64, (eA64u8 (vrep 64 (0 : Int)))⟩) rfl rfl rfl hl100) hl100.c rfl ?_
      have hs101 : StOk [] (eA64u8 x69) [] 64 (eA64u8 r92.2) (eA64u8 r92.2) := (.nil rfl rfl rfl rfl)
      refine a_val (v := .top) (u := [(5, some ⟨(eA64u8 r92.2), false⟩)]) (st_own (i := ⟨.arr 64 5, 64, 64, (eA64u8 (vrep 64 (0 : Int)))⟩) rfl rfl (fun _ => rfl) rfl hs101) (hs101.c rfl) rfl ?_
      refine a_nil ?_
      refine b_norm ?_
      cases h
      exact a_again (by kernel_rfl) hX87
def spec_l01One_c : ACode := (.seq (.region 0 [⟨some 0, .alloc 23, none, []⟩] false) (.seq (.region 1 [⟨some 1, .build 23 [(0, (.const (.int .u8 1)))], none, []⟩, ⟨none, .store 23 (.tmp 0) (.tmp 1), none, []⟩] false) .ret))
def spec_l01One_L : Live := [(0, []), (1, [0])]
theorem spec_l01One_body : Try.f61.body = some (Try.f61.body.getD .skip) := by kernel_rfl
theorem spec_l01One_strip : strip [] (Try.f61.body.getD .skip) = spec_l01One_c := by kernel_rfl
noncomputable def spec_l01One  : Option (Vec Int 64) :=
  (some ((vset (vrep 64 (0 : Int)) 0 1)))
set_option maxHeartbeats 16000000 in
theorem spec_l01One_ok  (r : (Vec Int 64)) (h : spec_l01One = some r) : Den Try.prog 61 [] { r := (eA64u8 r) } := by
  refine den_of (rs := [(eA64u8 r)]) (ac := spec_l01One_c) (L := spec_l01One_L) (n := 2) (m := []) good Try.func61 spec_l01One_body (by kernel_rfl) Try.ntmps61 rfl rfl spec_l01One_strip rfl rfl ?_
  refine a_st (σ' := ⟨[], []⟩) (by kernel_rfl) ?_
  unfold spec_l01One_c
  refine a_seq ?_
  refine a_region ?_
  refine a_val (v := (.own 1000 [] [])) (u := [(1000, some ⟨(eA64u8 ((vrep 64 (0 : Int)))), false⟩)]) rfl trivial rfl ?_
  refine a_nil ?_
  refine a_next (σ' := ⟨[(0, (.own 0 [] []))], [(0, some ⟨(eA64u8 ((vrep 64 (0 : Int)))), false⟩)]⟩) (by kernel_rfl) ?_
  refine a_seq ?_
  refine a_region ?_
  refine a_val (v := (eA64u8 ((vset (vrep 64 (0 : Int)) 0 1)))) (u := []) rfl ⟨⟨_, rfl, rfl⟩, (all_cons ⟨(Nat.le_of_ble_eq_true rfl), rfl⟩ all_nil)⟩ rfl ?_
  have hs1 : StOk [] (eA64u8 ((vrep 64 (0 : Int)))) [] 64 (eA64u8 ((vset (vrep 64 (0 : Int)) 0 1))) (eA64u8 ((vset (vrep 64 (0 : Int)) 0 1))) := (.nil rfl rfl rfl rfl)
  refine a_val (v := .top) (u := [(0, some ⟨(eA64u8 ((vset (vrep 64 (0 : Int)) 0 1))), false⟩)]) (st_own (i := ⟨.arr 64 5, 64, 64, (eA64u8 (vrep 64 (0 : Int)))⟩) rfl rfl (fun _ => rfl) rfl hs1) (hs1.c rfl) rfl ?_
  refine a_nil ?_
  refine a_next rfl ?_
  refine a_ret ?_
  have hl2 : LdOk [] (eA64u8 ((vset (vrep 64 (0 : Int)) 0 1))) [] 64 true (eA64u8 ((vset (vrep 64 (0 : Int)) 0 1))) := (.nil rfl rfl rfl)
  refine ⟨.inr rfl, ?_⟩
  rw [Try.results61]
  cases h
  exact ⟨_, _, _, _, _, ld_own (i := ⟨.arr 64 5, 64, 64, (eA64u8 (vrep 64 (0 : Int)))⟩) rfl rfl rfl hl2, hl2.c, .inl ⟨rfl, .inl rfl⟩, rfl, rfl⟩
def spec_l01Times_c : ACode := (.seq (.region 0 [⟨some 4, .box 23 (.tmp 1), none, []⟩, ⟨some 5, .box 23 (.tmp 2), none, []⟩, ⟨some 6, .alloc 23, none, []⟩, ⟨some 7, .asg 0 (.const (.bool false)) 4, none, []⟩] false) (.seq (.region 1 [⟨some 13, .load 23 (.tmp 4), none, []⟩, ⟨some 14, .call 0 (.func 83) [(.tmp 13)], none, [0]⟩, ⟨some 15, .load 23 (.tmp 5), none, []⟩, ⟨some 16, .call 0 (.func 83) [(.tmp 15)], none, [2, 1]⟩, ⟨some 17, .build 23 [], none, []⟩, ⟨some 10, .alloc 23, none, []⟩, ⟨some 8, .asg 0 (.tmp 14) 2, none, [1, 3, 0, 1, 5]⟩, ⟨some 9, .asg 0 (.tmp 16) 2, none, [3, 6, 0, 1, 2, 3, 5, 6]⟩, ⟨none, .store 23 (.tmp 10) (.tmp 17), none, [5, 4, 7, 0, 1, 2, 3, 4, 5, 6, 7]⟩] true) (.seq (.seq (.region 2 [⟨some 18, .mov (.tmp 8), none, []⟩, ⟨some 19, .bin .lss 2 (.tmp 18) (.const (.int .i64 0)), none, []⟩, ⟨some 20, .mov (.tmp 19), none, []⟩, ⟨some 21, .mov (.tmp 9), some (20, false), []⟩, ⟨some 22, .bin .lss 2 (.tmp 21) (.const (.int .i64 0)), some (20, false), []⟩, ⟨some 23, .pick (.tmp 20) (.const (.bool true)) (.tmp 22), none, []⟩] false) (.cond (.tmp 23) (.seq (.region 3 [⟨some 24, .load 23 (.tmp 10), none, []⟩, ⟨none, .store 23 (.tmp 6) (.tmp 24), none, []⟩, ⟨some 7, .asg 0 (.const (.bool true)) 4, none, []⟩] false) .ret) .skip)) (.seq (.seq (.region 4 [⟨some 25, .mov (.tmp 8), none, []⟩, ⟨some 26, .mov (.tmp 9), none, []⟩, ⟨some 27, .bin .add 2 (.tmp 25) (.tmp 26), none, []⟩, ⟨some 28, .bin .gtr 2 (.tmp 27) (.const (.int .i64 63)), none, []⟩] false) (.cond (.tmp 28) (.seq (.region 5 [⟨some 29, .load 23 (.tmp 10), none, []⟩, ⟨none, .store 23 (.tmp 6) (.tmp 29), none, []⟩, ⟨some 7, .asg 0 (.const (.bool false)) 4, none, []⟩] false) .ret) .skip)) (.seq (.seq (.region 6 [⟨some 11, .asg 0 (.const (.int .i64 0)) 2, none, []⟩] false) (.block 0 (.loop (.seq (.seq (.region 7 [⟨some 30, .mov (.tmp 11), none, []⟩, ⟨some 31, .mov (.tmp 8), none, []⟩, ⟨some 32, .bin .leq 2 (.tmp 30) (.tmp 31), none, []⟩] false) (.cond (.tmp 32) .skip (.exit 0))) (.seq (.block 1 (.seq (.region 9 [⟨some 12, .asg 0 (.const (.int .i64 0)) 2, none, []⟩] false) (.block 2 (.loop (.seq (.seq (.region 10 [⟨some 35, .mov (.tmp 12), none, []⟩, ⟨some 36, .mov (.tmp 9), none, []⟩, ⟨some 37, .bin .leq 2 (.tmp 35) (.tmp 36), none, []⟩, ⟨some 38, .mov (.tmp 37), none, []⟩, ⟨some 39, .mov (.tmp 11), some (38, true), []⟩, ⟨some 40, .indexAddr 23 (.tmp 4) (.tmp 39), some (38, true), []⟩, ⟨some 41, .load 5 (.tmp 40), some (38, true), []⟩, ⟨some 42, .bin .neq 5 (.tmp 41) (.const (.int .u8 0)), some (38, true), []⟩, ⟨some 43, .pick (.tmp 38) (.tmp 42) (.const (.bool false)), none, []⟩] false) (.cond (.tmp 43) .skip (.exit 2))) (.seq (.block 3 (.region 12 [⟨some 46, .mov (.tmp 11), none, []⟩, ⟨some 47, .mov (.tmp 12), none, []⟩, ⟨some 48, .bin .add 2 (.tmp 46) (.tmp 47), none, [0, 1]⟩, ⟨some 49, .mov (.tmp 11), none, []⟩, ⟨some 50, .mov (.tmp 12), none, []⟩, ⟨some 51, .bin .add 2 (.tmp 49) (.tmp 50), none, [3, 4]⟩, ⟨some 52, .indexAddr 23 (.tmp 10) (.tmp 51), none, [5]⟩, ⟨some 53, .load 5 (.tmp 52), none, [6]⟩, ⟨some 54, .conv 5 2 (.tmp 53), none, [7]⟩, ⟨some 55, .mov (.tmp 11), none, []⟩, ⟨some 56, .indexAddr 23 (.tmp 4) (.tmp 55), none, [9]⟩, ⟨some 57, .load 5 (.tmp 56), none, [10]⟩, ⟨some 58, .conv 5 2 (.tmp 57), none, [11]⟩, ⟨some 59, .mov (.tmp 12), none, []⟩, ⟨some 60, .indexAddr 23 (.tmp 5) (.tmp 59), none, [13]⟩, ⟨some 61, .load 5 (.tmp 60), none, [14]⟩, ⟨some 62, .conv 5 2 (.tmp 61), none, [15]⟩, ⟨some 63, .bin .mul 2 (.tmp 58) (.tmp 62), none, [12, 16]⟩, ⟨some 64, .bin .add 2 (.tmp 54) (.tmp 63), none, [8, 17]⟩, ⟨some 65, .mov (.tmp 0), none, []⟩, ⟨some 66, .bin .rem 2 (.tmp 64) (.tmp 65), none, [18, 19]⟩, ⟨some 67, .conv 2 5 (.tmp 66), none, [20]⟩, ⟨some 68, .indexAddr 23 (.tmp 10) (.tmp 48), none, [2, 0, 1, 2, 3, 4, 5, 6, 7, 8, 9, 10, 11, 12, 13, 14, 15, 16, 17, 18, 19, 20, 21]⟩, ⟨none, .store 5 (.tmp 68) (.tmp 67), none, [22, 21, 0, 1, 2, 3, 4, 5, 6, 7, 8, 9, 10, 11, 12, 13, 14, 15, 16, 17, 18, 19, 20, 21]⟩] true)) (.region 11 [⟨some 44, .mov (.tmp 12), none, []⟩, ⟨some 45, .bin .add 2 (.tmp 44) (.const (.int .i64 1)), none, []⟩, ⟨some 12, .asg 0 (.tmp 45) 2, none, []⟩] false))))))) (.region 8 [⟨some 33, .mov (.tmp 11), none, []⟩, ⟨some 34, .bin .add 2 (.tmp 33) (.const (.int .i64 1)), none, []⟩, ⟨some 11, .asg 0 (.tmp 34) 2, none, []⟩] false)))))) (.seq (.region 13 [⟨some 69, .load 23 (.tmp 10), none, []⟩, ⟨none, .store 23 (.tmp 6) (.tmp 69), none, []⟩, ⟨some 7, .asg 0 (.const (.bool true)) 4, none, []⟩] false) .ret))))))
def spec_l01Times_L : Live := [(0, [0, 1, 2]), (1, [0, 4, 5, 6]), (2, [0, 4, 5, 6, 8, 9, 10]), (3, [6, 10]), (4, [0, 4, 5, 6, 8, 9, 10]), (5, [6, 10]), (6, [0, 4, 5, 6, 8, 9, 10]), (7, [0, 4, 5, 6, 8, 9, 10, 11]), (8, [0, 4, 5, 6, 8, 9, 10, 11]), (9, [0, 4, 5, 6, 8, 9, 10, 11]), (10, [0, 4, 5, 6, 8, 9, 10, 11, 12]), (11, [0, 4, 5, 6, 8, 9, 10, 11, 12]), (12, [0, 4, 5, 6, 8, 9, 10, 11, 12]), (13, [6, 10]), (100023, [0, 4, 5, 6, 8, 9, 10, 23]), (100028, [0, 4, 5, 6, 8, 9, 10, 28]), (100032, [0, 4, 5, 6, 8, 9, 10, 11, 32]), (100043, [0, 4, 5, 6, 8, 9, 10, 11, 12, 43])]
theorem spec_l01Times_body : Try.f52.body = some (Try.f52.body.getD .skip) := by kernel_rfl
theorem spec_l01Times_strip : strip [] (Try.f52.body.getD .skip) = spec_l01Times_c := by kernel_rfl
noncomputable def spec_l01Times_l2 (r12 : Int) (x1081 : Int) (a1 : (Vec Int 64)) (a2 : (Vec Int 64)) (a0 : Int) (x1524 : Int) (x1525 : (Vec Int 64)) : Option ((Int × (Vec Int 64)) ⊕ (Vec Int 64)) :=
  (Option.bind (α := Bool) ((if (decide (x1524 ≤ r12)) then (ifp (0 ≤ x1081 ∧ x1081 < ((64 : Nat) : Int)) ((some (((rd a1.1 x1081.toNat) != 0))))) else (some false))) fun x1573 => (if x1573 then (ifp (0 ≤ IntKind.i64.wrap (x1081 + x1524) ∧ IntKind.i64.wrap (x1081 + x1524) < ((64 : Nat) : Int)) ((letp (IntKind.i64.wrap ((rd x1525.1 (IntKind.i64.wrap (x1081 + x1524)).toNat))) fun x1598 => (ifp (0 ≤ x1081 ∧ x1081 < ((64 : Nat) : Int)) ((ifp (0 ≤ x1524 ∧ x1524 < ((64 : Nat) : Int)) ((letp (IntKind.i64.wrap ((IntKind.i64.wrap (rd a1.1 x1081.toNat)) * (IntKind.i64.wrap (rd a2.1 x1524.toNat)))) fun x1604 => (ifp (a0 ≠ 0) ((letp (IntKind.u8.wrap (Int.tmod (IntKind.i64.wrap (x1598 + x1604)) a0)) fun x1607 => (ifp (0 ≤ IntKind.i64.wrap (x1081 + x1524) ∧ IntKind.i64.wrap (x1081 + x1524) < ((64 : Nat) : Int)) ((some (.inl ((IntKind.i64.wrap (x1524 + 1), (vset x1525 (IntKind.i64.wrap (x1081 + x1524)).toNat x1607)))))))))))))))))) else (some (.inr x1525))))
noncomputable def spec_l01Times_l1 (r9 : Int) (r12 : Int) (a1 : (Vec Int 64)) (a2 : (Vec Int 64)) (a0 : Int) (x1081 : Int) (x1082 : (Vec Int 64)) : Option ((Int × (Vec Int 64)) ⊕ (Vec Int 64)) :=
  (if (decide (x1081 ≤ r9)) then (Option.bind (α := (Vec Int 64)) ((loopM (fun s : (Int × (Vec Int 64)) => spec_l01Times_l2 r12 x1081 a1 a2 a0 s.1 s.2) (0, x1082))) fun x1479 => (some (.inl ((IntKind.i64.wrap (x1081 + 1), x1479))))) else (some (.inr x1082)))
noncomputable def spec_l01Times (a0 : Int) (a1 : (Vec Int 64)) (a2 : (Vec Int 64)) : Option ((Vec Int 64) × Bool) :=
  (Option.bind (spec_l01Deg a1) fun r9 => (Option.bind (spec_l01Deg a2) fun r12 => (Option.bind (α := Bool) ((if (decide (r9 < 0)) then (some true) else (some ((decide (r12 < 0)))))) fun x16 => (if x16 then (some (((vrep 64 (0 : Int)), true))) else (if (decide ((IntKind.i64.wrap (r9 + r12)) > 63)) then (some (((vrep 64 (0 : Int)), false))) else (Option.bind (α := (Vec Int 64)) ((loopM (fun s : (Int × (Vec Int 64)) => spec_l01Times_l1 r9 r12 a1 a2 a0 s.1 s.2) (0, (vrep 64 (0 : Int))))) fun x814 => (some (x814, true))))))))
set_option maxHeartbeats 16000000 in
theorem spec_l01Times_ok (a0 : Int) (a1 : (Vec Int 64)) (a2 : (Vec Int 64)) (r : ((Vec Int 64) × Bool)) (h : spec_l01Times a0 a1 a2 = some r) : Den Try.prog 52 [(.int .i64 a0), (eA64u8 a1), (eA64u8 a2)] { r := (.tuple [(eA64u8 r.1), (.bool r.2)]) } := by
  refine den_of (rs := [(eA64u8 r.1), (.bool r.2)]) (ac := spec_l01Times_c) (L := spec_l01Times_L) (n := 70) (m := []) good Try.func52 spec_l01Times_body (by kernel_rfl) Try.ntmps52 rfl rfl spec_l01Times_strip rfl rfl ?_
  refine a_st (σ' := ⟨[(0, (.int .i64 a0)), (1, (eA64u8 a1)), (2, (eA64u8 a2))], []⟩) (by kernel_rfl) ?_
  unfold spec_l01Times_c
  refine a_seq ?_
  refine a_region ?_
  refine a_val (v := (.own 1400 [] [])) (u := [(1400, some ⟨(eA64u8 a1), false⟩)]) rfl trivial rfl ?_
  refine a_val (v := (.own 1500 [] [])) (u := [(1500, some ⟨(eA64u8 a2), false⟩)]) rfl trivial rfl ?_
  refine a_val (v := (.own 1600 [] [])) (u := [(1600, some ⟨(eA64u8 ((vrep 64 (0 : Int)))), false⟩)]) rfl trivial rfl ?_
  refine a_val (v := (.bool false)) (u := []) rfl trivial rfl ?_
  refine a_nil ?_
  refine a_next (σ' := ⟨[(0, (.int .i64 a0)), (4, (.own 4 [] [])), (5, (.own 5 [] [])), (6, (.own 6 [] []))], [(4, some ⟨(eA64u8 a1), false⟩), (5, some ⟨(eA64u8 a2), false⟩), (6, some ⟨(eA64u8 ((vrep 64 (0 : Int)))), false⟩)]⟩) (by kernel_rfl) ?_
  refine a_seq ?_
  refine a_draw [⟨[4], [], [], []⟩, ⟨[], [], [], [0]⟩, ⟨[5], [], [], []⟩, ⟨[], [], [], [0, 1, 2]⟩, ⟨[], [], [], []⟩, ⟨[2000], [2000], [2000], []⟩, ⟨[], [], [], [0, 1, 2, 3, 5]⟩, ⟨[], [], [], [0, 1, 2, 3, 5, 6]⟩, ⟨[2000], [2000], [], [0, 1, 2, 3, 4, 5, 6, 7]⟩] (by kernel_rfl) ?_
  refine d_cons ?_
  have hl8 : LdOk [] (eA64u8 a1) [] 64 true (eA64u8 a1) := (.nil rfl rfl rfl)
  refine a_val (v := (eA64u8 a1)) (u := []) (ld_own (i := ⟨.arr 64 5, 64, 64, (eA64u8 (vrep 64 (0 : Int)))⟩) rfl rfl rfl hl8) hl8.c rfl ?_
  refine d_next (by kernel_rfl) ?_
  refine d_cons ?_
  obtain ⟨r9, hr10, h⟩ := bind_some h
  refine a_call (args := [(eA64u8 a1)]) (u := []) (r := (.int .i64 r9)) rfl rfl (spec_l01Deg_ok a1 r9 hr10) rfl ?_
  refine d_next (by kernel_rfl) ?_
  refine d_cons ?_
  have hl11 : LdOk [] (eA64u8 a2) [] 64 true (eA64u8 a2) := (.nil rfl rfl rfl)
  refine a_val (v := (eA64u8 a2)) (u := []) (ld_own (i := ⟨.arr 64 5, 64, 64, (eA64u8 (vrep 64 (0 : Int)))⟩) rfl rfl rfl hl11) hl11.c rfl ?_
  refine d_next (by kernel_rfl) ?_
  refine d_cons ?_
  obtain ⟨r12, hr13, h⟩ := bind_some h
  refine a_call (args := [(eA64u8 a2)]) (u := []) (r := (.int .i64 r12)) rfl rfl (spec_l01Deg_ok a2 r12 hr13) rfl ?_
  refine d_next (by kernel_rfl) ?_
  refine d_cons ?_
  refine a_val (v := (eA64u8 ((vrep 64 (0 : Int))))) (u := []) rfl ⟨⟨_, rfl, rfl⟩, all_nil⟩ rfl ?_
  refine d_next (by kernel_rfl) ?_
  refine d_cons ?_
  refine a_val (v := (.own 2000 [] [])) (u := [(2000, some ⟨(eA64u8 ((vrep 64 (0 : Int)))), false⟩)]) rfl trivial rfl ?_
  refine d_next (by kernel_rfl) ?_
  refine d_cons ?_
  refine a_val (v := (.int .i64 r9)) (u := []) rfl trivial rfl ?_
  refine d_next (by kernel_rfl) ?_
  refine d_cons ?_
  refine a_val (v := (.int .i64 r12)) (u := []) rfl trivial rfl ?_
  refine d_next (by kernel_rfl) ?_
  refine d_cons ?_
  have hs14 : StOk [] (eA64u8 ((vrep 64 (0 : Int)))) [] 64 (eA64u8 ((vrep 64 (0 : Int)))) (eA64u8 ((vrep 64 (0 : Int)))) := (.nil rfl rfl rfl rfl)
  refine a_val (v := .top) (u := [(2000, some ⟨(eA64u8 ((vrep 64 (0 : Int)))), false⟩)]) (st_own (i := ⟨.arr 64 5, 64, 64, (eA64u8 (vrep 64 (0 : Int)))⟩) rfl rfl (fun _ => rfl) rfl hs14) (hs14.c rfl) rfl ?_
  refine d_next (by kernel_rfl) ?_
  refine d_nil ?_
  refine a_next (σ' := ⟨[(0, (.int .i64 a0)), (4, (.own 4 [] [])), (5, (.own 5 [] [])), (6, (.own 6 [] [])), (8, (.int .i64 r9)), (9, (.int .i64 r12)), (10, (.own 10 [] []))], [(4, some ⟨(eA64u8 a1), false⟩), (5, some ⟨(eA64u8 a2), false⟩), (6, some ⟨(eA64u8 ((vrep 64 (0 : Int)))), false⟩), (10, some ⟨(eA64u8 ((vrep 64 (0 : Int)))), false⟩)]⟩) (by kernel_rfl) ?_
  refine a_seq ?_
  obtain ⟨y17, hy18, hk19⟩ := bind_some h
  clear h
  refine a_join (emb := fun (s : Bool) => ⟨[(0, (.int .i64 a0)), (4, (.own 4 [] [])), (5, (.own 5 [] [])), (6, (.own 6 [] [])), (8, (.int .i64 r9)), (9, (.int .i64 r12)), (10, (.own 10 [] [])), (23, (.bool s))], [(4, some ⟨(eA64u8 a1), false⟩), (5, some ⟨(eA64u8 a2), false⟩), (6, some ⟨(eA64u8 ((vrep 64 (0 : Int)))), false⟩), (10, some ⟨(eA64u8 ((vrep 64 (0 : Int)))), false⟩)]⟩) (pre := fun s => s = y17) ?_ ?_
  · rintro x16 rfl
    have h := hk19
    refine a_st (σ' := ⟨[(0, (.int .i64 a0)), (4, (.own 4 [] [])), (5, (.own 5 [] [])), (6, (.own 6 [] [])), (8, (.int .i64 r9)), (9, (.int .i64 r12)), (10, (.own 10 [] [])), (23, (.bool x16))], [(4, some ⟨(eA64u8 a1), false⟩), (5, some ⟨(eA64u8 a2), false⟩), (6, some ⟨(eA64u8 ((vrep 64 (0 : Int)))), false⟩), (10, some ⟨(eA64u8 ((vrep 64 (0 : Int)))), false⟩)]⟩) (by kernel_rfl) ?_
    cases hb21 : x16
    · have h := ite_f hb21 h
      refine a_cond_f rfl ?_
      refine a_skip ?_
      refine a_next (σ' := ⟨[(0, (.int .i64 a0)), (4, (.own 4 [] [])), (5, (.own 5 [] [])), (6, (.own 6 [] [])), (8, (.int .i64 r9)), (9, (.int .i64 r12)), (10, (.own 10 [] []))], [(4, some ⟨(eA64u8 a1), false⟩), (5, some ⟨(eA64u8 a2), false⟩), (6, some ⟨(eA64u8 ((vrep 64 (0 : Int)))), false⟩), (10, some ⟨(eA64u8 ((vrep 64 (0 : Int)))), false⟩)]⟩) (by kernel_rfl) ?_
      refine a_seq ?_
      refine a_seq ?_
      refine a_region ?_
      refine a_val (v := (.int .i64 r9)) (u := []) rfl trivial rfl ?_
      refine a_val (v := (.int .i64 r12)) (u := []) rfl trivial rfl ?_
      refine a_val (v := (.int .i64 (IntKind.i64.wrap (r9 + r12)))) (u := []) rfl trivial rfl ?_
      refine a_val (v := (.bool ((decide ((IntKind.i64.wrap (r9 + r12)) > 63))))) (u := []) rfl trivial rfl ?_
      refine a_nil ?_
      refine a_next (σ' := ⟨[(0, (.int .i64 a0)), (4, (.own 4 [] [])), (5, (.own 5 [] [])), (6, (.own 6 [] [])), (8, (.int .i64 r9)), (9, (.int .i64 r12)), (10, (.own 10 [] [])), (28, (.bool ((decide ((IntKind.i64.wrap (r9 + r12)) > 63)))))], [(4, some ⟨(eA64u8 a1), false⟩), (5, some ⟨(eA64u8 a2), false⟩), (6, some ⟨(eA64u8 ((vrep 64 (0 : Int)))), false⟩), (10, some ⟨(eA64u8 ((vrep 64 (0 : Int)))), false⟩)]⟩) (by kernel_rfl) ?_
      cases hb22 : (decide ((IntKind.i64.wrap (r9 + r12)) > 63))
      · have h := ite_f hb22 h
        refine a_cond_f rfl ?_
        refine a_skip ?_
        refine a_next (σ' := ⟨[(0, (.int .i64 a0)), (4, (.own 4 [] [])), (5, (.own 5 [] [])), (6, (.own 6 [] [])), (8, (.int .i64 r9)), (9, (.int .i64 r12)), (10, (.own 10 [] []))], [(4, some ⟨(eA64u8 a1), false⟩), (5, some ⟨(eA64u8 a2), false⟩), (6, some ⟨(eA64u8 ((vrep 64 (0 : Int)))), false⟩), (10, some ⟨(eA64u8 ((vrep 64 (0 : Int)))), false⟩)]⟩) (by kernel_rfl) ?_
        obtain ⟨y815, hy816, hk817⟩ := bind_some h
        clear h
        refine a_join (emb := fun (s : (Vec Int 64)) => ⟨[(6, (.own 6 [] [])), (10, (.own 10 [] []))], [(6, some ⟨(eA64u8 ((vrep 64 (0 : Int)))), false⟩), (10, some ⟨(eA64u8 s), false⟩)]⟩) (pre := fun s => s = y815) ?_ ?_
        · rintro x814 rfl
          have h := hk817
          refine a_st (σ' := ⟨[(6, (.own 6 [] [])), (10, (.own 10 [] []))], [(6, some ⟨(eA64u8 ((vrep 64 (0 : Int)))), false⟩), (10, some ⟨(eA64u8 x814), false⟩)]⟩) (by kernel_rfl) ?_
          refine a_seq ?_
          refine a_region ?_
          have hl1613 : LdOk [] (eA64u8 x814) [] 64 true (eA64u8 x814) := (.nil rfl rfl rfl)
          refine a_val (v := (eA64u8 x814)) (u := []) (ld_own (i := ⟨.arr 64 5, 64, 64, (eA64u8 (vrep 64 (0 : Int)))⟩) rfl rfl rfl hl1613) hl1613.c rfl ?_
          have hs1614 : StOk [] (eA64u8 ((vrep 64 (0 : Int)))) [] 64 (eA64u8 x814) (eA64u8 x814) := (.nil rfl rfl rfl rfl)
          refine a_val (v := .top) (u := [(6, some ⟨(eA64u8 x814), false⟩)]) (st_own (i := ⟨.arr 64 5, 64, 64, (eA64u8 (vrep 64 (0 : Int)))⟩) rfl rfl (fun _ => rfl) rfl hs1614) (hs1614.c rfl) rfl ?_
          refine a_val (v := (.bool true)) (u := []) rfl trivial rfl ?_
          refine a_nil ?_
          refine a_next rfl ?_
          refine a_ret ?_
          have hl1615 : LdOk [] (eA64u8 x814) [] 64 true (eA64u8 x814) := (.nil rfl rfl rfl)
          refine ⟨.inr rfl, ?_⟩
          rw [Try.results52]
          cases h
          exact ⟨_, _, _, _, _, ld_own (i := ⟨.arr 64 5, 64, 64, (eA64u8 (vrep 64 (0 : Int)))⟩) rfl rfl rfl hl1615, hl1615.c, .inl ⟨rfl, .inl rfl⟩, rfl, ⟨_, _, _, _, _, rfl, trivial, .inl ⟨rfl, .inl rfl⟩, rfl, rfl⟩⟩
        · have h := hy816
          refine a_seq ?_
          refine a_region ?_
          refine a_val (v := (.int .i64 0)) (u := []) rfl trivial rfl ?_
          refine a_nil ?_
          refine a_next (σ' := ⟨[(0, (.int .i64 a0)), (4, (.own 4 [] [])), (5, (.own 5 [] [])), (6, (.own 6 [] [])), (8, (.int .i64 r9)), (9, (.int .i64 r12)), (10, (.own 10 [] [])), (11, (.int .i64 0))], [(4, some ⟨(eA64u8 a1), false⟩), (5, some ⟨(eA64u8 a2), false⟩), (6, some ⟨(eA64u8 ((vrep 64 (0 : Int)))), false⟩), (10, some ⟨(eA64u8 ((vrep 64 (0 : Int)))), false⟩)]⟩) (by kernel_rfl) ?_
          refine a_block ?_
          refine a_loop (emb := fun (s : (Int × (Vec Int 64))) => ⟨[(0, (.int .i64 a0)), (4, (.own 4 [] [])), (5, (.own 5 [] [])), (6, (.own 6 [] [])), (8, (.int .i64 r9)), (9, (.int .i64 r12)), (10, (.own 10 [] [])), (11, (.int .i64 s.1))], [(4, some ⟨(eA64u8 a1), false⟩), (5, some ⟨(eA64u8 a2), false⟩), (6, some ⟨(eA64u8 ((vrep 64 (0 : Int)))), false⟩), (10, some ⟨(eA64u8 s.2), false⟩)]⟩) (body := (fun s : (Int × (Vec Int 64)) => spec_l01Times_l1 r9 r12 a1 a2 a0 s.1 s.2)) (G := fun q => some q = some y815) h rfl ?_ (by kernel_rfl)
          rintro X1346 ⟨x1081, x1082⟩ x1347 h hX1348
          have h : spec_l01Times_l1 r9 r12 a1 a2 a0 x1081 x1082 = some x1347 := h
          refine a_st (σ' := ⟨[(0, (.int .i64 a0)), (4, (.own 4 [] [])), (5, (.own 5 [] [])), (6, (.own 6 [] [])), (8, (.int .i64 r9)), (9, (.int .i64 r12)), (10, (.own 10 [] [])), (11, (.int .i64 x1081))], [(4, some ⟨(eA64u8 a1), false⟩), (5, some ⟨(eA64u8 a2), false⟩), (6, some ⟨(eA64u8 ((vrep 64 (0 : Int)))), false⟩), (10, some ⟨(eA64u8 x1082), false⟩)]⟩) (by kernel_rfl) ?_
          refine a_seq ?_
          refine a_seq ?_
          refine a_region ?_
          refine a_val (v := (.int .i64 x1081)) (u := []) rfl trivial rfl ?_
          refine a_val (v := (.int .i64 r9)) (u := []) rfl trivial rfl ?_
          refine a_val (v := (.bool ((decide (x1081 ≤ r9))))) (u := []) rfl trivial rfl ?_
          refine a_nil ?_
          refine a_next (σ' := ⟨[(0, (.int .i64 a0)), (4, (.own 4 [] [])), (5, (.own 5 [] [])), (6, (.own 6 [] [])), (8, (.int .i64 r9)), (9, (.int .i64 r12)), (10, (.own 10 [] [])), (11, (.int .i64 x1081)), (32, (.bool ((decide (x1081 ≤ r9)))))], [(4, some ⟨(eA64u8 a1), false⟩), (5, some ⟨(eA64u8 a2), false⟩), (6, some ⟨(eA64u8 ((vrep 64 (0 : Int)))), false⟩), (10, some ⟨(eA64u8 x1082), false⟩)]⟩) (by kernel_rfl) ?_
          cases hb1349 : (decide (x1081 ≤ r9))
          · have h := ite_f hb1349 h
            refine a_cond_f rfl ?_
            refine a_exit ?_
            refine t_exit ?_
            cases h
            have h := hX1348
            refine t_exit ?_
            refine b_exit ?_
            exact j_leaf x1082 (Option.some.inj h) (by kernel_rfl)
          · have h := ite_t hb1349 h
            refine a_cond_t rfl ?_
            refine a_skip ?_
            refine a_next (σ' := ⟨[(0, (.int .i64 a0)), (4, (.own 4 [] [])), (5, (.own 5 [] [])), (6, (.own 6 [] [])), (8, (.int .i64 r9)), (9, (.int .i64 r12)), (10, (.own 10 [] [])), (11, (.int .i64 x1081))], [(4, some ⟨(eA64u8 a1), false⟩), (5, some ⟨(eA64u8 a2), false⟩), (6, some ⟨(eA64u8 ((vrep 64 (0 : Int)))), false⟩), (10, some ⟨(eA64u8 x1082), false⟩)]⟩) (by kernel_rfl) ?_
            obtain ⟨y1480, hy1481, hk1482⟩ := bind_some h
            clear h
            refine a_join (emb := fun (s : (Vec Int 64)) => ⟨[(0, (.int .i64 a0)), (4, (.own 4 [] [])), (5, (.own 5 [] [])), (6, (.own 6 [] [])), (8, (.int .i64 r9)), (9, (.int .i64 r12)), (10, (.own 10 [] [])), (11, (.int .i64 x1081))], [(4, some ⟨(eA64u8 a1), false⟩), (5, some ⟨(eA64u8 a2), false⟩), (6, some ⟨(eA64u8 ((vrep 64 (0 : Int)))), false⟩), (10, some ⟨(eA64u8 s), false⟩)]⟩) (pre := fun s => s = y1480) ?_ ?_
            · rintro x1479 rfl
              have h := hk1482
              refine a_st (σ' := ⟨[(0, (.int .i64 a0)), (4, (.own 4 [] [])), (5, (.own 5 [] [])), (6, (.own 6 [] [])), (8, (.int .i64 r9)), (9, (.int .i64 r12)), (10, (.own 10 [] [])), (11, (.int .i64 x1081))], [(4, some ⟨(eA64u8 a1), false⟩), (5, some ⟨(eA64u8 a2), false⟩), (6, some ⟨(eA64u8 ((vrep 64 (0 : Int)))), false⟩), (10, some ⟨(eA64u8 x1479), false⟩)]⟩) (by kernel_rfl) ?_
              refine a_region ?_
              refine a_val (v := (.int .i64 x1081)) (u := []) rfl trivial rfl ?_
              refine a_val (v := (.int .i64 (IntKind.i64.wrap (x1081 + 1)))) (u := []) rfl trivial rfl ?_
              refine a_val (v := (.int .i64 (IntKind.i64.wrap (x1081 + 1)))) (u := []) rfl trivial rfl ?_
              refine a_nil ?_
              cases h
              exact a_again (by kernel_rfl) hX1348
            · have h := hy1481
              refine a_block ?_
              refine a_seq ?_
              refine a_region ?_
              refine a_val (v := (.int .i64 0)) (u := []) rfl trivial rfl ?_
              refine a_nil ?_
              refine a_next (σ' := ⟨[(0, (.int .i64 a0)), (4, (.own 4 [] [])), (5, (.own 5 [] [])), (6, (.own 6 [] [])), (8, (.int .i64 r9)), (9, (.int .i64 r12)), (10, (.own 10 [] [])), (11, (.int .i64 x1081)), (12, (.int .i64 0))], [(4, some ⟨(eA64u8 a1), false⟩), (5, some ⟨(eA64u8 a2), false⟩), (6, some ⟨(eA64u8 ((vrep 64 (0 : Int)))), false⟩), (10, some ⟨(eA64u8 x1082), false⟩)]⟩) (by kernel_rfl) ?_
              refine a_block ?_
              refine a_loop (emb := fun (s : (Int × (Vec Int 64))) => ⟨[(0, (.int .i64 a0)), (4, (.own 4 [] [])), (5, (.own 5 [] [])), (6, (.own 6 [] [])), (8, (.int .i64 r9)), (9, (.int .i64 r12)), (10, (.own 10 [] [])), (11, (.int .i64 x1081)), (12, (.int .i64 s.1))], [(4, some ⟨(eA64u8 a1), false⟩), (5, some ⟨(eA64u8 a2), false⟩), (6, some ⟨(eA64u8 ((vrep 64 (0 : Int)))), false⟩), (10, some ⟨(eA64u8 s.2), false⟩)]⟩) (body := (fun s : (Int × (Vec Int 64)) => spec_l01Times_l2 r12 x1081 a1 a2 a0 s.1 s.2)) (G := fun q => some q = some y1480) h rfl ?_ (by kernel_rfl)
              rintro X1567 ⟨x1524, x1525⟩ x1568 h hX1569
              have h : spec_l01Times_l2 r12 x1081 a1 a2 a0 x1524 x1525 = some x1568 := h
              refine a_st (σ' := ⟨[(0, (.int .i64 a0)), (4, (.own 4 [] [])), (5, (.own 5 [] [])), (6, (.own 6 [] [])), (8, (.int .i64 r9)), (9, (.int .i64 r12)), (10, (.own 10 [] [])), (11, (.int .i64 x1081)), (12, (.int .i64 x1524))], [(4, some ⟨(eA64u8 a1), false⟩), (5, some ⟨(eA64u8 a2), false⟩), (6, some ⟨(eA64u8 ((vrep 64 (0 : Int)))), false⟩), (10, some ⟨(eA64u8 x1525), false⟩)]⟩) (by kernel_rfl) ?_
              refine a_seq ?_
              obtain ⟨y1574, hy1575, hk1576⟩ := bind_some h
              clear h
              refine a_join (emb := fun (s : Bool) => ⟨[(0, (.int .i64 a0)), (4, (.own 4 [] [])), (5, (.own 5 [] [])), (6, (.own 6 [] [])), (8, (.int .i64 r9)), (9, (.int .i64 r12)), (10, (.own 10 [] [])), (11, (.int .i64 x1081)), (12, (.int .i64 x1524)), (43, (.bool s))], [(4, some ⟨(eA64u8 a1), false⟩), (5, some ⟨(eA64u8 a2), false⟩), (6, some ⟨(eA64u8 ((vrep 64 (0 : Int)))), false⟩), (10, some ⟨(eA64u8 x1525), false⟩)]⟩) (pre := fun s => s = y1574) ?_ ?_
              · rintro x1573 rfl
                have h := hk1576
                refine a_st (σ' := ⟨[(0, (.int .i64 a0)), (4, (.own 4 [] [])), (5, (.own 5 [] [])), (6, (.own 6 [] [])), (8, (.int .i64 r9)), (9, (.int .i64 r12)), (10, (.own 10 [] [])), (11, (.int .i64 x1081)), (12, (.int .i64 x1524)), (43, (.bool x1573))], [(4, some ⟨(eA64u8 a1), false⟩), (5, some ⟨(eA64u8 a2), false⟩), (6, some ⟨(eA64u8 ((vrep 64 (0 : Int)))), false⟩), (10, some ⟨(eA64u8 x1525), false⟩)]⟩) (by kernel_rfl) ?_
                cases hb1580 : x1573
                · have h := ite_f hb1580 h
                  refine a_cond_f rfl ?_
                  refine a_exit ?_
                  refine t_exit ?_
                  cases h
                  have h := hX1569
                  refine t_exit ?_
                  refine b_exit ?_
                  refine b_norm ?_
                  exact j_leaf x1525 (Option.some.inj h) (by kernel_rfl)
                · have h := ite_t hb1580 h
                  refine a_cond_t rfl ?_
                  refine a_skip ?_
                  refine a_next (σ' := ⟨[(0, (.int .i64 a0)), (4, (.own 4 [] [])), (5, (.own 5 [] [])), (6, (.own 6 [] [])), (8, (.int .i64 r9)), (9, (.int .i64 r12)), (10, (.own 10 [] [])), (11, (.int .i64 x1081)), (12, (.int .i64 x1524))], [(4, some ⟨(eA64u8 a1), false⟩), (5, some ⟨(eA64u8 a2), false⟩), (6, some ⟨(eA64u8 ((vrep 64 (0 : Int)))), false⟩), (10, some ⟨(eA64u8 x1525), false⟩)]⟩) (by kernel_rfl) ?_
                  refine a_seq ?_
                  refine a_block ?_
                  refine a_draw [⟨[], [], [], []⟩, ⟨[], [], [], []⟩, ⟨[], [], [], [0, 1]⟩, ⟨[], [], [], []⟩, ⟨[], [], [], []⟩, ⟨[], [], [], [3, 4]⟩, ⟨[10], [], [10], [3, 4, 5]⟩, ⟨[10], [], [], [3, 4, 5, 6]⟩, ⟨[], [], [], [3, 4, 5, 6, 7]⟩, ⟨[], [], [], []⟩, ⟨[4], [], [4], [9]⟩, ⟨[4], [], [], [9, 10]⟩, ⟨[], [], [], [9, 10, 11]⟩, ⟨[], [], [], []⟩, ⟨[5], [], [5], [13]⟩, ⟨[5], [], [], [13, 14]⟩, ⟨[], [], [], [13, 14, 15]⟩, ⟨[], [], [], [9, 10, 11, 12, 13, 14, 15, 16]⟩, ⟨[], [], [], [3, 4, 5, 6, 7, 8, 9, 10, 11, 12, 13, 14, 15, 16, 17]⟩, ⟨[], [], [], []⟩, ⟨[], [], [], [3, 4, 5, 6, 7, 8, 9, 10, 11, 12, 13, 14, 15, 16, 17, 18, 19]⟩, ⟨[], [], [], [3, 4, 5, 6, 7, 8, 9, 10, 11, 12, 13, 14, 15, 16, 17, 18, 19, 20]⟩, ⟨[10], [], [10], [0, 1, 2, 3, 4, 5, 6, 7, 8, 9, 10, 11, 12, 13, 14, 15, 16, 17, 18, 19, 20, 21]⟩, ⟨[10], [10], [], [0, 1, 2, 3, 4, 5, 6, 7, 8, 9, 10, 11, 12, 13, 14, 15, 16, 17, 18, 19, 20, 21, 22]⟩] (by kernel_rfl) ?_
                  refine d_cons ?_
                  refine a_val (v := (.int .i64 x1081)) (u := []) rfl trivial rfl ?_
                  refine d_next (by kernel_rfl) ?_
                  refine d_cons ?_
                  refine a_val (v := (.int .i64 x1524)) (u := []) rfl trivial rfl ?_
                  refine d_next (by kernel_rfl) ?_
                  refine d_cons ?_
                  refine a_val (v := (.int .i64 (IntKind.i64.wrap (x1081 + x1524)))) (u := []) rfl trivial rfl ?_
                  refine d_next (by kernel_rfl) ?_
                  refine d_cons ?_
                  refine a_val (v := (.int .i64 x1081)) (u := []) rfl trivial rfl ?_
                  refine d_next (by kernel_rfl) ?_
                  refine d_cons ?_
                  refine a_val (v := (.int .i64 x1524)) (u := []) rfl trivial rfl ?_
                  refine d_next (by kernel_rfl) ?_
                  refine d_cons ?_
                  refine a_val (v := (.int .i64 (IntKind.i64.wrap (x1081 + x1524)))) (u := []) rfl trivial rfl ?_
                  refine d_next (by kernel_rfl) ?_
                  refine d_cons ?_
                  obtain ⟨hc1596, h⟩ := ifp_some h
                  refine a_val (v := (.own 10 [(IntKind.i64.wrap (x1081 + x1524)).toNat] [(IntKind.i64.wrap (x1081 + x1524)).toNat * 1])) (u := []) rfl hc1596 rfl ?_
                  refine d_next (by kernel_rfl) ?_
                  refine d_cons ?_
                  have hl1597 : LdOk [(IntKind.i64.wrap (x1081 + x1524)).toNat] (eA64u8 x1525) [(IntKind.i64.wrap (x1081 + x1524)).toNat * 1] 1 false (.int .u8 ((rd x1525.1 (IntKind.i64.wrap (x1081 + x1524)).toNat))) := (.arr (vlt x1525 hc1596) rfl (.nil rfl rfl rfl))
                  refine a_val (v := (.int .u8 ((rd x1525.1 (IntKind.i64.wrap (x1081 + x1524)).toNat)))) (u := []) (ld_own (i := ⟨.int .u8, 1, 1, (.int .u8 0)⟩) rfl rfl rfl hl1597) hl1597.c rfl ?_
                  refine d_next (by kernel_rfl) ?_
                  refine d_cons ?_
                  obtain ⟨x1598, hx1599, h⟩ := letp_some h
                  refine a_val' (v := (.int .i64 (IntKind.i64.wrap ((rd x1525.1 (IntKind.i64.wrap (x1081 + x1524)).toNat))))) (v' := (.int .i64 x1598)) (u := []) (u' := []) rfl (congrArg (fun z => ((.int .i64 z) : AV)) hx1599) rfl trivial rfl ?_
                  refine d_next (by kernel_rfl) ?_
                  refine d_cons ?_
                  refine a_val (v := (.int .i64 x1081)) (u := []) rfl trivial rfl ?_
                  refine d_next (by kernel_rfl) ?_
                  refine d_cons ?_
                  obtain ⟨hc1600, h⟩ := ifp_some h
                  refine a_val (v := (.own 4 [x1081.toNat] [x1081.toNat * 1])) (u := []) rfl hc1600 rfl ?_
                  refine d_next (by kernel_rfl) ?_
                  refine d_cons ?_
                  have hl1601 : LdOk [x1081.toNat] (eA64u8 a1) [x1081.toNat * 1] 1 false (.int .u8 (rd a1.1 x1081.toNat)) := (.arr (vlt a1 hc1600) rfl (.nil rfl rfl rfl))
                  refine a_val (v := (.int .u8 (rd a1.1 x1081.toNat))) (u := []) (ld_own (i := ⟨.int .u8, 1, 1, (.int .u8 0)⟩) rfl rfl rfl hl1601) hl1601.c rfl ?_
                  refine d_next (by kernel_rfl) ?_
                  refine d_cons ?_
                  refine a_val (v := (.int .i64 (IntKind.i64.wrap (rd a1.1 x1081.toNat)))) (u := []) rfl trivial rfl ?_
                  refine d_next (by kernel_rfl) ?_
                  refine d_cons ?_
                  refine a_val (v := (.int .i64 x1524)) (u := []) rfl trivial rfl ?_
                  refine d_next (by kernel_rfl) ?_
                  refine d_cons ?_
                  obtain ⟨hc1602, h⟩ := ifp_some h
                  refine a_val (v := (.own 5 [x1524.toNat] [x1524.toNat * 1])) (u := []) rfl hc1602 rfl ?_
                  refine d_next (by kernel_rfl) ?_
                  refine d_cons ?_
                  have hl1603 : LdOk [x1524.toNat] (eA64u8 a2) [x1524.toNat * 1] 1 false (.int .u8 (rd a2.1 x1524.toNat)) := (.arr (vlt a2 hc1602) rfl (.nil rfl rfl rfl))
                  refine a_val (v := (.int .u8 (rd a2.1 x1524.toNat))) (u := []) (ld_own (i := ⟨.int .u8, 1, 1, (.int .u8 0)⟩) rfl rfl rfl hl1603) hl1603.c rfl ?_
                  refine d_next (by kernel_rfl) ?_
                  refine d_cons ?_
                  refine a_val (v := (.int .i64 (IntKind.i64.wrap (rd a2.1 x1524.toNat)))) (u := []) rfl trivial rfl ?_
                  refine d_next (by kernel_rfl) ?_
                  refine d_cons ?_
                  obtain ⟨x1604, hx1605, h⟩ := letp_some h
                  refine a_val' (v := (.int .i64 (IntKind.i64.wrap ((IntKind.i64.wrap (rd a1.1 x1081.toNat)) * (IntKind.i64.wrap (rd a2.1 x1524.toNat)))))) (v' := (.int .i64 x1604)) (u := []) (u' := []) rfl (congrArg (fun z => ((.int .i64 z) : AV)) hx1605) rfl trivial rfl ?_
                  refine d_next (by kernel_rfl) ?_
                  refine d_cons ?_
                  refine a_val (v := (.int .i64 (IntKind.i64.wrap (x1598 + x1604)))) (u := []) rfl trivial rfl ?_
                  refine d_next (by kernel_rfl) ?_
                  refine d_cons ?_
                  refine a_val (v := (.int .i64 a0)) (u := []) rfl trivial rfl ?_
                  refine d_next (by kernel_rfl) ?_
                  refine d_cons ?_
                  obtain ⟨hc1606, h⟩ := ifp_some h
                  refine a_val (v := (.int .i64 (Int.tmod (IntKind.i64.wrap (x1598 + x1604)) a0))) (u := []) rfl hc1606 rfl ?_
                  refine d_next (by kernel_rfl) ?_
                  refine d_cons ?_
                  obtain ⟨x1607, hx1608, h⟩ := letp_some h
                  refine a_val' (v := (.int .u8 (IntKind.u8.wrap (Int.tmod (IntKind.i64.wrap (x1598 + x1604)) a0)))) (v' := (.int .u8 x1607)) (u := []) (u' := []) rfl (congrArg (fun z => ((.int .u8 z) : AV)) hx1608) rfl trivial rfl ?_
                  refine d_next (by kernel_rfl) ?_
                  refine d_cons ?_
                  obtain ⟨hc1609, h⟩ := ifp_some h
                  refine a_val (v := (.own 10 [(IntKind.i64.wrap (x1081 + x1524)).toNat] [(IntKind.i64.wrap (x1081 + x1524)).toNat * 1])) (u := []) rfl hc1609 rfl ?_
                  refine d_next (by kernel_rfl) ?_
                  refine d_cons ?_
                  have hs1610 : StOk [(IntKind.i64.wrap (x1081 + x1524)).toNat] (eA64u8 x1525) [(IntKind.i64.wrap (x1081 + x1524)).toNat * 1] 1 (.int .u8 x1607) (eA64u8 ((vset x1525 (IntKind.i64.wrap (x1081 + x1524)).toNat x1607))) := (.arr (y := x1607) (vlt x1525 hc1609) rfl (.nil rfl rfl rfl rfl))
                  refine a_val (v := .top) (u := [(10, some ⟨(eA64u8 ((vset x1525 (IntKind.i64.wrap (x1081 + x1524)).toNat x1607))), false⟩)]) (st_own (i := ⟨.int .u8, 1, 1, (.int .u8 0)⟩) rfl rfl (fun _ => rfl) rfl hs1610) (hs1610.c rfl) rfl ?_
                  refine d_next (by kernel_rfl) ?_
                  refine d_nil ?_
                  refine b_norm ?_
                  refine a_next (σ' := ⟨[(0, (.int .i64 a0)), (4, (.own 4 [] [])), (5, (.own 5 [] [])), (6, (.own 6 [] [])), (8, (.int .i64 r9)), (9, (.int .i64 r12)), (10, (.own 10 [] [])), (11, (.int .i64 x1081)), (12, (.int .i64 x1524))], [(4, some ⟨(eA64u8 a1), false⟩), (5, some ⟨(eA64u8 a2), false⟩), (6, some ⟨(eA64u8 ((vrep 64 (0 : Int)))), false⟩), (10, some ⟨(eA64u8 ((vset x1525 (IntKind.i64.wrap (x1081 + x1524)).toNat x1607))), false⟩)]⟩) (by kernel_rfl) ?_
                  refine a_region ?_
                  refine a_val (v := (.int .i64 x1524)) (u := []) rfl trivial rfl ?_
                  refine a_val (v := (.int .i64 (IntKind.i64.wrap (x1524 + 1)))) (u := []) rfl trivial rfl ?_
                  refine a_val (v := (.int .i64 (IntKind.i64.wrap (x1524 + 1)))) (u := []) rfl trivial rfl ?_
                  refine a_nil ?_
                  cases h
                  exact a_again (by kernel_rfl) hX1569
              · have h := hy1575
                refine a_region ?_
                refine a_val (v := (.int .i64 x1524)) (u := []) rfl trivial rfl ?_
                refine a_val (v := (.int .i64 r12)) (u := []) rfl trivial rfl ?_
                refine a_val (v := (.bool ((decide (x1524 ≤ r12))))) (u := []) rfl trivial rfl ?_
                refine a_val (v := (.bool ((decide (x1524 ≤ r12))))) (u := []) rfl trivial rfl ?_
                cases hb1577 : (decide (x1524 ≤ r12))
                · have h := ite_f hb1577 h
                  refine a_gskip rfl ?_
                  refine a_gskip rfl ?_
                  refine a_gskip rfl ?_
                  refine a_gskip rfl ?_
                  refine a_val (v := (.bool false)) (u := []) rfl trivial rfl ?_
                  refine a_nil ?_
                  exact j_leaf false (Option.some.inj h) (by kernel_rfl)
                · have h := ite_t hb1577 h
                  refine a_gval rfl (v := (.int .i64 x1081)) (u := []) rfl trivial rfl ?_
                  obtain ⟨hc1578, h⟩ := ifp_some h
                  refine a_gval rfl (v := (.own 4 [x1081.toNat] [x1081.toNat * 1])) (u := []) rfl hc1578 rfl ?_
                  have hl1579 : LdOk [x1081.toNat] (eA64u8 a1) [x1081.toNat * 1] 1 false (.int .u8 (rd a1.1 x1081.toNat)) := (.arr (vlt a1 hc1578) rfl (.nil rfl rfl rfl))
                  refine a_gval rfl (v := (.int .u8 (rd a1.1 x1081.toNat))) (u := []) (ld_own (i := ⟨.int .u8, 1, 1, (.int .u8 0)⟩) rfl rfl rfl hl1579) hl1579.c rfl ?_
                  refine a_gval rfl (v := (.bool (((rd a1.1 x1081.toNat) != 0)))) (u := []) rfl trivial rfl ?_
                  refine a_val (v := (.bool (((rd a1.1 x1081.toNat) != 0)))) (u := []) rfl trivial rfl ?_
                  refine a_nil ?_
                  exact j_leaf (((rd a1.1 x1081.toNat) != 0)) (Option.some.inj h) (by kernel_rfl)
      · have h := ite_t hb22 h
        refine a_cond_t rfl ?_
        refine a_seq ?_
        refine a_region ?_
        have hl1616 : LdOk [] (eA64u8 ((vrep 64 (0 : Int)))) [] 64 true (eA64u8 ((vrep 64 (0 : Int)))) := (.nil rfl rfl rfl)
        refine a_val (v := (eA64u8 ((vrep 64 (0 : Int))))) (u := []) (ld_own (i := ⟨.arr 64 5, 64, 64, (eA64u8 (vrep 64 (0 : Int)))⟩) rfl rfl rfl hl1616) hl1616.c rfl ?_
        have hs1617 : StOk [] (eA64u8 ((vrep 64 (0 : Int)))) [] 64 (eA64u8 ((vrep 64 (0 : Int)))) (eA64u8 ((vrep 64 (0 : Int)))) := (.nil rfl rfl rfl rfl)
        refine a_val (v := .top) (u := [(6, some ⟨(eA64u8 ((vrep 64 (0 : Int)))), false⟩)]) (st_own (i := ⟨.arr 64 5, 64, 64, (eA64u8 (vrep 64 (0 : Int)))⟩) rfl rfl (fun _ => rfl) rfl hs1617) (hs1617.c rfl) rfl ?_
        refine a_val (v := (.bool false)) (u := []) rfl trivial rfl ?_
        refine a_nil ?_
        refine a_next rfl ?_
        refine a_ret ?_
        refine t_ret ?_
        have hl1618 : LdOk [] (eA64u8 ((vrep 64 (0 : Int)))) [] 64 true (eA64u8 ((vrep 64 (0 : Int)))) := (.nil rfl rfl rfl)
        refine ⟨.inr rfl, ?_⟩
        rw [Try.results52]
        cases h
        exact ⟨_, _, _, _, _, ld_own (i := ⟨.arr 64 5, 64, 64, (eA64u8 (vrep 64 (0 : Int)))⟩) rfl rfl rfl hl1618, hl1618.c, .inl ⟨rfl, .inl rfl⟩, rfl, ⟨_, _, _, _, _, rfl, trivial, .inl ⟨rfl, .inl rfl⟩, rfl, rfl⟩⟩
    · have h := ite_t hb21 h
      refine a_cond_t rfl ?_
      refine a_seq ?_
      refine a_region ?_
      have hl1619 : LdOk [] (eA64u8 ((vrep 64 (0 : Int)))) [] 64 true (eA64u8 ((vrep 64 (0 : Int)))) := (.nil rfl rfl rfl)
      refine a_val (v := (eA64u8 ((vrep 64 (0 : Int))))) (u := []) (ld_own (i := ⟨.arr 64 5, 64, 64, (eA64u8 (vrep 64 (0 : Int)))⟩) rfl rfl rfl hl1619) hl1619.c rfl ?_
      have hs1620 : StOk [] (eA64u8 ((vrep 64 (0 : Int)))) [] 64 (eA64u8 ((vrep 64 (0 : Int)))) (eA64u8 ((vrep 64 (0 : Int)))) := (.nil rfl rfl rfl rfl)
      refine a_val (v := .top) (u := [(6, some ⟨(eA64u8 ((vrep 64 (0 : Int)))), false⟩)]) (st_own (i := ⟨.arr 64 5, 64, 64, (eA64u8 (vrep 64 (0 : Int)))⟩) rfl rfl (fun _ => rfl) rfl hs1620) (hs1620.c rfl) rfl ?_
      refine a_val (v := (.bool true)) (u := []) rfl trivial rfl ?_
      refine a_nil ?_
      refine a_next rfl ?_
      refine a_ret ?_
      refine t_ret ?_
      have hl1621 : LdOk [] (eA64u8 ((vrep 64 (0 : Int)))) [] 64 true (eA64u8 ((vrep 64 (0 : Int)))) := (.nil rfl rfl rfl)
      refine ⟨.inr rfl, ?_⟩
      rw [Try.results52]
      cases h
      exact ⟨_, _, _, _, _, ld_own (i := ⟨.arr 64 5, 64, 64, (eA64u8 (vrep 64 (0 : Int)))⟩) rfl rfl rfl hl1621, hl1621.c, .inl ⟨rfl, .inl rfl⟩, rfl, ⟨_, _, _, _, _, rfl, trivial, .inl ⟨rfl, .inl rfl⟩, rfl, rfl⟩⟩
  · have h := hy18
    refine a_region ?_
    refine a_val (v := (.int .i64 r9)) (u := []) rfl trivial rfl ?_
    refine a_val (v := (.bool ((decide (r9 < 0))))) (u := []) rfl trivial rfl ?_
    refine a_val (v := (.bool ((decide (r9 < 0))))) (u := []) rfl trivial rfl ?_
    cases hb20 : (decide (r9 < 0))
    · have h := ite_f hb20 h
      refine a_gval rfl (v := (.int .i64 r12)) (u := []) rfl trivial rfl ?_
      refine a_gval rfl (v := (.bool ((decide (r12 < 0))))) (u := []) rfl trivial rfl ?_
      refine a_val (v := (.bool ((decide (r12 < 0))))) (u := []) rfl trivial rfl ?_
      refine a_nil ?_
      exact j_leaf ((decide (r12 < 0))) (Option.some.inj h) (by kernel_rfl)
    · have h := ite_t hb20 h
      refine a_gskip rfl ?_
      refine a_gskip rfl ?_
      refine a_val (v := (.bool true)) (u := []) rfl trivial rfl ?_
      refine a_nil ?_
      exact j_leaf true (Option.some.inj h) (by kernel_rfl)
def spec_l01Add_c : ACode := (.seq (.region 0 [⟨some 5, .box 23 (.tmp 1), none, []⟩, ⟨some 6, .box 23 (.tmp 2), none, []⟩, ⟨some 8, .alloc 23, none, []⟩] false) (.seq (.seq (.region 1 [⟨some 9, .asg 0 (.const (.int .i64 0)) 3, none, []⟩] false) (.block 0 (.loop (.seq (.seq (.region 2 [⟨some 10, .mov (.tmp 9), none, []⟩, ⟨some 11, .bin .lss 3 (.tmp 10) (.const (.int .i64 64)), none, []⟩] false) (.cond (.tmp 11) .skip (.exit 0))) (.seq (.block 1 (.region 4 [⟨some 14, .mov (.tmp 9), none, []⟩, ⟨some 15, .mov (.tmp 9), none, []⟩, ⟨some 16, .indexAddr 23 (.tmp 5) (.tmp 15), none, [1]⟩, ⟨some 17, .load 5 (.tmp 16), none, [2]⟩, ⟨some 18, .conv 5 2 (.tmp 17), none, [3]⟩, ⟨some 19, .mov (.tmp 3), none, []⟩, ⟨some 20, .mov (.tmp 9), none, []⟩, ⟨some 21, .indexAddr 23 (.tmp 6) (.tmp 20), none, [6]⟩, ⟨some 22, .load 5 (.tmp 21), none, [7]⟩, ⟨some 23, .conv 5 2 (.tmp 22), none, [8]⟩, ⟨some 24, .bin .mul 2 (.tmp 19) (.tmp 23), none, [5, 9]⟩, ⟨some 25, .bin .add 2 (.tmp 18) (.tmp 24), none, [4, 10]⟩, ⟨some 26, .mov (.tmp 0), none, []⟩, ⟨some 27, .bin .rem 2 (.tmp 25) (.tmp 26), none, [11, 12]⟩, ⟨some 28, .mov (.tmp 0), none, []⟩, ⟨some 29, .bin .add 2 (.tmp 27) (.tmp 28), none, [13, 14]⟩, ⟨some 30, .mov (.tmp 0), none, []⟩, ⟨some 31, .bin .rem 2 (.tmp 29) (.tmp 30), none, [15, 16]⟩, ⟨some 32, .conv 2 5 (.tmp 31), none, [17]⟩, ⟨some 33, .indexAddr 23 (.tmp 5) (.tmp 14), none, [0, 0, 1, 2, 3, 4, 5, 6, 7, 8, 9, 10, 11, 12, 13, 14, 15, 16, 17, 18]⟩, ⟨none, .store 5 (.tmp 33) (.tmp 32), none, [19, 18, 0, 1, 2, 3, 4, 5, 6, 7, 8, 9, 10, 11, 12, 13, 14, 15, 16, 17, 18]⟩] true)) (.region 3 [⟨some 12, .mov (.tmp 9), none, []⟩, ⟨some 13, .bin .add 3 (.tmp 12) (.const (.int .i64 1)), none, []⟩, ⟨some 9, .asg 0 (.tmp 13) 3, none, []⟩] false)))))) (.seq (.region 5 [⟨some 34, .load 23 (.tmp 5), none, []⟩, ⟨none, .store 23 (.tmp 8) (.tmp 34), none, []⟩] false) .ret)))
def spec_l01Add_L : Live := [(0, [0, 1, 2, 3]), (1, [0, 3, 5, 6, 8]), (2, [0, 3, 5, 6, 8, 9]), (3, [0, 3, 5, 6, 8, 9]), (4, [0, 3, 5, 6, 8, 9]), (5, [5, 8]), (100011, [0, 3, 5, 6, 8, 9, 11])]
theorem spec_l01Add_body : Try.f51.body = some (Try.f51.body.getD .skip) := by kernel_rfl
theorem spec_l01Add_strip : strip [] (Try.f51.body.getD .skip) = spec_l01Add_c := by kernel_rfl
noncomputable def spec_l01Add_l1 (a3 : Int) (a2 : (Vec Int 64)) (a0 : Int) (x127 : Int) (x128 : (Vec Int 64)) : Option ((Int × (Vec Int 64)) ⊕ (Vec Int 64)) :=
  (if (decide (x127 < 64)) then (ifp (0 ≤ x127 ∧ x127 < ((64 : Nat) : Int)) ((ifp (0 ≤ x127 ∧ x127 < ((64 : Nat) : Int)) ((letp (IntKind.i64.wrap (a3 * (IntKind.i64.wrap (rd a2.1 x127.toNat)))) fun x180 => (letp (IntKind.i64.wrap ((IntKind.i64.wrap (rd x128.1 x127.toNat)) + x180)) fun x182 => (ifp (a0 ≠ 0) ((ifp (a0 ≠ 0) ((letp (IntKind.u8.wrap (Int.tmod (IntKind.i64.wrap ((Int.tmod x182 a0) + a0)) a0)) fun x186 => (ifp (0 ≤ x127 ∧ x127 < ((64 : Nat) : Int)) ((some (.inl ((IntKind.i64.wrap (x127 + 1), (vset x128 x127.toNat x186)))))))))))))))))) else (some (.inr x128)))
noncomputable def spec_l01Add (a0 : Int) (a1 : (Vec Int 64)) (a2 : (Vec Int 64)) (a3 : Int) : Option (Vec Int 64) :=
  (Option.bind (α := (Vec Int 64)) ((loopM (fun s : (Int × (Vec Int 64)) => spec_l01Add_l1 a3 a2 a0 s.1 s.2) (0, a1))) fun x94 => (some x94))
set_option maxHeartbeats 16000000 in
theorem spec_l01Add_ok (a0 : Int) (a1 : (Vec Int 64)) (a2 : (Vec Int 64)) (a3 : Int) (r : (Vec Int 64)) (h : spec_l01Add a0 a1 a2 a3 = some r) : Den Try.prog 51 [(.int .i64 a0), (eA64u8 a1), (eA64u8 a2), (.int .i64 a3)] { r := (eA64u8 r) } := by
  refine den_of (rs := [(eA64u8 r)]) (ac := spec_l01Add_c) (L := spec_l01Add_L) (n := 35) (m := []) good Try.func51 spec_l01Add_body (by kernel_rfl) Try.ntmps51 rfl rfl spec_l01Add_strip rfl rfl ?_
  refine a_st (σ' := ⟨[(0, (.int .i64 a0)), (1, (eA64u8 a1)), (2, (eA64u8 a2)), (3, (.int .i64 a3))], []⟩) (by kernel_rfl) ?_
  unfold spec_l01Add_c
  refine a_seq ?_
  refine a_region ?_
  refine a_val (v := (.own 1500 [] [])) (u := [(1500, some ⟨(eA64u8 a1), false⟩)]) rfl trivial rfl ?_
  refine a_val (v := (.own 1600 [] [])) (u := [(1600, some ⟨(eA64u8 a2), false⟩)]) rfl trivial rfl ?_
  refine a_val (v := (.own 1800 [] [])) (u := [(1800, some ⟨(eA64u8 ((vrep 64 (0 : Int)))), false⟩)]) rfl trivial rfl ?_
  refine a_nil ?_
  refine a_next (σ' := ⟨[(0, (.int .i64 a0)), (3, (.int .i64 a3)), (5, (.own 5 [] [])), (6, (.own 6 [] [])), (8, (.own 8 [] []))], [(5, some ⟨(eA64u8 a1), false⟩), (6, some ⟨(eA64u8 a2), false⟩), (8, some ⟨(eA64u8 ((vrep 64 (0 : Int)))), false⟩)]⟩) (by kernel_rfl) ?_
  obtain ⟨y95, hy96, hk97⟩ := bind_some h
  clear h
  refine a_join (emb := fun (s : (Vec Int 64)) => ⟨[(5, (.own 5 [] [])), (8, (.own 8 [] []))], [(5, some ⟨(eA64u8 s), false⟩), (8, some ⟨(eA64u8 ((vrep 64 (0 : Int)))), false⟩)]⟩) (pre := fun s => s = y95) ?_ ?_
  · rintro x94 rfl
    have h := hk97
    refine a_st (σ' := ⟨[(5, (.own 5 [] [])), (8, (.own 8 [] []))], [(5, some ⟨(eA64u8 x94), false⟩), (8, some ⟨(eA64u8 ((vrep 64 (0 : Int)))), false⟩)]⟩) (by kernel_rfl) ?_
    refine a_seq ?_
    refine a_region ?_
    have hl191 : LdOk [] (eA64u8 x94) [] 64 true (eA64u8 x94) := (.nil rfl rfl rfl)
    refine a_val (v := (eA64u8 x94)) (u := []) (ld_own (i := ⟨.arr 64 5, 64, 64, (eA64u8 (vrep 64 (0 : Int)))⟩) rfl rfl rfl hl191) hl191.c rfl ?_
    have hs192 : StOk [] (eA64u8 ((vrep 64 (0 : Int)))) [] 64 (eA64u8 x94) (eA64u8 x94) := (.nil rfl rfl rfl rfl)
    refine a_val (v := .top) (u := [(8, some ⟨(eA64u8 x94), false⟩)]) (st_own (i := ⟨.arr 64 5, 64, 64, (eA64u8 (vrep 64 (0 : Int)))⟩) rfl rfl (fun _ => rfl) rfl hs192) (hs192.c rfl) rfl ?_
    refine a_nil ?_
    refine a_next rfl ?_
    refine a_ret ?_
    have hl193 : LdOk [] (eA64u8 x94) [] 64 true (eA64u8 x94) := (.nil rfl rfl rfl)
    refine ⟨.inr rfl, ?_⟩
    rw [Try.results51]
    cases h
    exact ⟨_, _, _, _, _, ld_own (i := ⟨.arr 64 5, 64, 64, (eA64u8 (vrep 64 (0 : Int)))⟩) rfl rfl rfl hl193, hl193.c, .inl ⟨rfl, .inl rfl⟩, rfl, rfl⟩
  · have h := hy96
    refine a_seq ?_
    refine a_region ?_
    refine a_val (v := (.int .i64 0)) (u := []) rfl trivial rfl ?_
    refine a_nil ?_
    refine a_next (σ' := ⟨[(0, (.int .i64 a0)), (3, (.int .i64 a3)), (5, (.own 5 [] [])), (6, (.own 6 [] [])), (8, (.own 8 [] [])), (9, (.int .i64 0))], [(5, some ⟨(eA64u8 a1), false⟩), (6, some ⟨(eA64u8 a2), false⟩), (8, some ⟨(eA64u8 ((vrep 64 (0 : Int)))), false⟩)]⟩) (by kernel_rfl) ?_
    refine a_block ?_
    refine a_loop (emb := fun (s : (Int × (Vec Int 64))) => ⟨[(0, (.int .i64 a0)), (3, (.int .i64 a3)), (5, (.own 5 [] [])), (6, (.own 6 [] [])), (8, (.own 8 [] [])), (9, (.int .i64 s.1))], [(5, some ⟨(eA64u8 s.2), false⟩), (6, some ⟨(eA64u8 a2), false⟩), (8, some ⟨(eA64u8 ((vrep 64 (0 : Int)))), false⟩)]⟩) (body := (fun s : (Int × (Vec Int 64)) => spec_l01Add_l1 a3 a2 a0 s.1 s.2)) (G := fun q => some q = some y95) h rfl ?_ (by kernel_rfl)
    rintro X158 ⟨x127, x128⟩ x159 h hX160
    have h : spec_l01Add_l1 a3 a2 a0 x127 x128 = some x159 := h
    refine a_st (σ' := ⟨[(0, (.int .i64 a0)), (3, (.int .i64 a3)), (5, (.own 5 [] [])), (6, (.own 6 [] [])), (8, (.own 8 [] [])), (9, (.int .i64 x127))], [(5, some ⟨(eA64u8 x128), false⟩), (6, some ⟨(eA64u8 a2), false⟩), (8, some ⟨(eA64u8 ((vrep 64 (0 : Int)))), false⟩)]⟩) (by kernel_rfl) ?_
    refine a_seq ?_
    refine a_seq ?_
    refine a_region ?_
    refine a_val (v := (.int .i64 x127)) (u := []) rfl trivial rfl ?_
    refine a_val (v := (.bool ((decide (x127 < 64))))) (u := []) rfl trivial rfl ?_
    refine a_nil ?_
    refine a_next (σ' := ⟨[(0, (.int .i64 a0)), (3, (.int .i64 a3)), (5, (.own 5 [] [])), (6, (.own 6 [] [])), (8, (.own 8 [] [])), (9, (.int .i64 x127)), (11, (.bool ((decide (x127 < 64)))))], [(5, some ⟨(eA64u8 x128), false⟩), (6, some ⟨(eA64u8 a2), false⟩), (8, some ⟨(eA64u8 ((vrep 64 (0 : Int)))), false⟩)]⟩) (by kernel_rfl) ?_
    cases hb161 : (decide (x127 < 64))
    · have h := ite_f hb161 h
      refine a_cond_f rfl ?_
      refine a_exit ?_
      refine t_exit ?_
      cases h
      have h := hX160
      refine t_exit ?_
      refine b_exit ?_
      exact j_leaf x128 (Option.some.inj h) (by kernel_rfl)
    · have h := ite_t hb161 h
      refine a_cond_t rfl ?_
      refine a_skip ?_
      refine a_next (σ' := ⟨[(0, (.int .i64 a0)), (3, (.int .i64 a3)), (5, (.own 5 [] [])), (6, (.own 6 [] [])), (8, (.own 8 [] [])), (9, (.int .i64 x127))], [(5, some ⟨(eA64u8 x128), false⟩), (6, some ⟨(eA64u8 a2), false⟩), (8, some ⟨(eA64u8 ((vrep 64 (0 : Int)))), false⟩)]⟩) (by kernel_rfl) ?_
      refine a_seq ?_
      refine a_block ?_
      refine a_draw [⟨[], [], [], []⟩, ⟨[], [], [], []⟩, ⟨[5], [], [5], [1]⟩, ⟨[5], [], [], [1, 2]⟩, ⟨[], [], [], [1, 2, 3]⟩, ⟨[], [], [], []⟩, ⟨[], [], [], []⟩, ⟨[6], [], [6], [6]⟩, ⟨[6], [], [], [6, 7]⟩, ⟨[], [], [], [6, 7, 8]⟩, ⟨[], [], [], [5, 6, 7, 8, 9]⟩, ⟨[], [], [], [1, 2, 3, 4, 5, 6, 7, 8, 9, 10]⟩, ⟨[], [], [], []⟩, ⟨[], [], [], [1, 2, 3, 4, 5, 6, 7, 8, 9, 10, 11, 12]⟩, ⟨[], [], [], []⟩, ⟨[], [], [], [1, 2, 3, 4, 5, 6, 7, 8, 9, 10, 11, 12, 13, 14]⟩, ⟨[], [], [], []⟩, ⟨[], [], [], [1, 2, 3, 4, 5, 6, 7, 8, 9, 10, 11, 12, 13, 14, 15, 16]⟩, ⟨[], [], [], [1, 2, 3, 4, 5, 6, 7, 8, 9, 10, 11, 12, 13, 14, 15, 16, 17]⟩, ⟨[5], [], [5], [0, 1, 2, 3, 4, 5, 6, 7, 8, 9, 10, 11, 12, 13, 14, 15, 16, 17, 18]⟩, ⟨[5], [5], [], [0, 1, 2, 3, 4, 5, 6, 7, 8, 9, 10, 11, 12, 13, 14, 15, 16, 17, 18, 19]⟩] (by kernel_rfl) ?_
      refine d_cons ?_
      refine a_val (v := (.int .i64 x127)) (u := []) rfl trivial rfl ?_
      refine d_next (by kernel_rfl) ?_
      refine d_cons ?_
      refine a_val (v := (.int .i64 x127)) (u := []) rfl trivial rfl ?_
      refine d_next (by kernel_rfl) ?_
      refine d_cons ?_
      obtain ⟨hc176, h⟩ := ifp_some h
      refine a_val (v := (.own 5 [x127.toNat] [x127.toNat * 1])) (u := []) rfl hc176 rfl ?_
      refine d_next (by kernel_rfl) ?_
      refine d_cons ?_
      have hl177 : LdOk [x127.toNat] (eA64u8 x128) [x127.toNat * 1] 1 false (.int .u8 (rd x128.1 x127.toNat)) := (.arr (vlt x128 hc176) rfl (.nil rfl rfl rfl))
      refine a_val (v := (.int .u8 (rd x128.1 x127.toNat))) (u := []) (ld_own (i := ⟨.int .u8, 1, 1, (.int .u8 0)⟩) rfl rfl rfl hl177) hl177.c rfl ?_
      refine d_next (by kernel_rfl) ?_
      refine d_cons ?_
      refine a_val (v := (.int .i64 (IntKind.i64.wrap (rd x128.1 x127.toNat)))) (u := []) rfl trivial rfl ?_
      refine d_next (by kernel_rfl) ?_
      refine d_cons ?_
      refine a_val (v := (.int .i64 a3)) (u := []) rfl trivial rfl ?_
      refine d_next (by kernel_rfl) ?_
      refine d_cons ?_
      refine a_val (v := (.int .i64 x127)) (u := []) rfl trivial rfl ?_
      refine d_next (by kernel_rfl) ?_
      refine d_cons ?_
      obtain ⟨hc178, h⟩ := ifp_some h
      refine a_val (v := (.own 6 [x127.toNat] [x127.toNat * 1])) (u := []) rfl hc178 rfl ?_
      refine d_next (by kernel_rfl) ?_
      refine d_cons ?_
      have hl179 : LdOk [x127.toNat] (eA64u8 a2) [x127.toNat * 1] 1 false (.int .u8 (rd a2.1 x127.toNat)) := (.arr (vlt a2 hc178) rfl (.nil rfl rfl rfl))
      refine a_val (v := (.int .u8 (rd a2.1 x127.toNat))) (u := []) (ld_own (i := ⟨.int .u8, 1, 1, (.int .u8 0)⟩) rfl rfl rfl hl179) hl179.c rfl ?_
      refine d_next (by kernel_rfl) ?_
      refine d_cons ?_
      refine a_val (v := (.int .i64 (IntKind.i64.wrap (rd a2.1 x127.toNat)))) (u := []) rfl trivial rfl ?_
      refine d_next (by kernel_rfl) ?_
      refine d_cons ?_
      obtain ⟨x180, hx181, h⟩ := letp_some h
      refine a_val' (v := (.int .i64 (IntKind.i64.wrap (a3 * (IntKind.i64.wrap (rd a2.1 x127.toNat)))))) (v' := (.int .i64 x180)) (u := []) (u' := []) rfl (congrArg (fun z => ((.int .i64 z) : AV)) hx181) rfl trivial rfl ?_
      refine d_next (by kernel_rfl) ?_
      refine d_cons ?_
      obtain ⟨x182, hx183, h⟩ := letp_some h
      refine a_val' (v := (.int .i64 (IntKind.i64.wrap ((IntKind.i64.wrap (rd x128.1 x127.toNat)) + x180)))) (v' := (.int .i64 x182)) (u := []) (u' := []) rfl (congrArg (fun z => ((.int .i64 z) : AV)) hx183) rfl trivial rfl ?_
      refine d_next (by kernel_rfl) ?_
      refine d_cons ?_
      refine a_val (v := (.int .i64 a0)) (u := []) rfl trivial rfl ?_
      refine d_next (by kernel_rfl) ?_
      refine d_cons ?_
      obtain ⟨hc184, h⟩ := ifp_some h
      refine a_val (v := (.int .i64 (Int.tmod x182 a0))) (u := []) rfl hc184 rfl ?_
      refine d_next (by kernel_rfl) ?_
      refine d_cons ?_
      refine a_val (v := (.int .i64 a0)) (u := []) rfl trivial rfl ?_
      refine d_next (by kernel_rfl) ?_
      refine d_cons ?_
      refine a_val (v := (.int .i64 (IntKind.i64.wrap ((Int.tmod x182 a0) + a0)))) (u := []) rfl trivial rfl ?_
      refine d_next (by kernel_rfl) ?_
      refine d_cons ?_
      refine a_val (v := (.int .i64 a0)) (u := []) rfl trivial rfl ?_
      refine d_next (by kernel_rfl) ?_
      refine d_cons ?_
      obtain ⟨hc185, h⟩ := ifp_some h
      refine a_val (v := (.int .i64 (Int.tmod (IntKind.i64.wrap ((Int.tmod x182 a0) + a0)) a0))) (u := []) rfl hc185 rfl ?_
      refine d_next (by kernel_rfl) ?_
      refine d_cons ?_
      obtain ⟨x186, hx187, h⟩ := letp_some h
      refine a_val' (v := (.int .u8 (IntKind.u8.wrap (Int.tmod (IntKind.i64.wrap ((Int.tmod x182 a0) + a0)) a0)))) (v' := (.int .u8 x186)) (u := []) (u' := []) rfl (congrArg (fun z => ((.int .u8 z) : AV)) hx187) rfl trivial rfl ?_
      refine d_next (by kernel_rfl) ?_
      refine d_cons ?_
      obtain ⟨hc188, h⟩ := ifp_some h
      refine a_val (v := (.own 5 [x127.toNat] [x127.toNat * 1])) (u := []) rfl hc188 rfl ?_
      refine d_next (by kernel_rfl) ?_
      refine d_cons ?_
      have hs189 : StOk [x127.toNat] (eA64u8 x128) [x127.toNat * 1] 1 (.int .u8 x186) (eA64u8 (vset x128 x127.toNat x186)) := (.arr (y := x186) (vlt x128 hc188) rfl (.nil rfl rfl rfl rfl))
      refine a_val (v := .top) (u := [(5, some ⟨(eA64u8 (vset x128 x127.toNat x186)), false⟩)]) (st_own (i := ⟨.int .u8, 1, 1, (.int .u8 0)⟩) rfl rfl (fun _ => rfl) rfl hs189) (hs189.c rfl) rfl ?_
      refine d_next (by kernel_rfl) ?_
      refine d_nil ?_
      refine b_norm ?_
      refine a_next (σ' := ⟨[(0, (.int .i64 a0)), (3, (.int .i64 a3)), (5, (.own 5 [] [])), (6, (.own 6 [] [])), (8, (.own 8 [] [])), (9, (.int .i64 x127))], [(5, some ⟨(eA64u8 (vset x128 x127.toNat x186)), false⟩), (6, some ⟨(eA64u8 a2), false⟩), (8, some ⟨(eA64u8 ((vrep 64 (0 : Int)))), false⟩)]⟩) (by kernel_rfl) ?_
      refine a_region ?_
      refine a_val (v := (.int .i64 x127)) (u := []) rfl trivial rfl ?_
      refine a_val (v := (.int .i64 (IntKind.i64.wrap (x127 + 1)))) (u := []) rfl trivial rfl ?_
      refine a_val (v := (.int .i64 (IntKind.i64.wrap (x127 + 1)))) (u := []) rfl trivial rfl ?_
      refine a_nil ?_
      cases h
      exact a_again (by kernel_rfl) hX160
end Go.Proofs.Ytgodhgbnjlflmaa
