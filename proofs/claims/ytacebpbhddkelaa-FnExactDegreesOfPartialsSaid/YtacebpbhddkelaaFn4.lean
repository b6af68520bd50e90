/- Functions of the program: plain Lean functions, and that the program computes them. Printed by gen.py. -/
import Derived.Test.YtacebpbhddkelaaFnT
import Derived.Test.YtacebpbhddkelaaFn1
import Derived.Test.YtacebpbhddkelaaFn2
import Derived.Test.YtacebpbhddkelaaFn3
namespace Go.Proofs.Ytacebpbhddkelaa
open Go.Abs Go.Proofs
set_option linter.unusedSimpArgs false
set_option linter.unusedVariables false

def impl_DegreesOfPartials_c : ACode := (.seq (.region 0 [⟨some 4, .box 23 (.tmp 1), none, []⟩, ⟨some 5, .box 23 (.tmp 2), none, []⟩, ⟨some 6, .asg 1 (.const (.slice none 0 0)) 45, none, []⟩, ⟨some 7, .asg 0 (.const (.int .i64 0)) 2, none, []⟩] false) (.seq (.seq (.region 1 [⟨some 12, .mov (.tmp 0), none, []⟩, ⟨some 13, .load 23 (.tmp 4), none, []⟩, ⟨some 14, .load 23 (.tmp 5), none, []⟩, ⟨some 15, .call 0 (.func 98) [(.tmp 12), (.tmp 13), (.tmp 14), (.const (.bool true))], none, []⟩, ⟨some 8, .asg 0 (.tmp 15) 2, none, []⟩] false) (.seq (.region 2 [⟨some 16, .mov (.tmp 8), none, []⟩, ⟨some 17, .bin .neq 2 (.tmp 16) (.const (.int .i64 0)), none, []⟩] false) (.cond (.tmp 17) (.seq (.region 3 [⟨some 18, .mov (.tmp 8), none, []⟩, ⟨some 6, .asg 1 (.const (.slice none 0 0)) 45, none, []⟩, ⟨some 7, .asg 0 (.tmp 18) 2, none, []⟩] false) .ret) .skip))) (.seq (.region 4 [⟨some 9, .asg 2 (.const (.slice none 0 0)) 45, none, []⟩] false) (.seq (.seq (.region 5 [⟨some 19, .mov (.tmp 0), none, []⟩, ⟨some 20, .load 23 (.tmp 4), none, []⟩, ⟨some 21, .call 0 (.func 76) [(.tmp 20)], none, [1]⟩, ⟨some 22, .load 23 (.tmp 5), none, []⟩, ⟨some 23, .call 0 (.func 76) [(.tmp 22)], none, [3, 2]⟩, ⟨some 24, .call 0 (.func 99) [(.tmp 19), (.tmp 21), (.tmp 23)], none, [0, 2, 4, 4]⟩, ⟨some 25, .blt 0 .len [(.tmp 24)] [79], none, [5]⟩, ⟨some 26, .mov (.const (.int .i64 0)), none, []⟩] true) (.block 0 (.loop (.seq (.region 6 [⟨some 27, .bin .lss 3 (.tmp 26) (.tmp 25), none, []⟩] false) (.seq (.cond (.tmp 27) .skip (.exit 0)) (.seq (.block 1 (.seq (.region 7 [⟨some 28, .indexAddr 79 (.tmp 24) (.tmp 26), none, []⟩, ⟨some 29, .load 66 (.tmp 28), none, []⟩, ⟨some 11, .asg 1 (.tmp 29) 66, none, []⟩] false) (.region 8 [⟨some 30, .mov (.tmp 9), none, []⟩, ⟨some 31, .mov (.tmp 11), none, []⟩, ⟨some 32, .call 0 (.func 100) [(.tmp 31)], none, []⟩, ⟨some 33, .bslice 0 45 1 [(0, (.tmp 32))], none, []⟩, ⟨some 34, .blt 0 .append [(.tmp 30), (.tmp 33)] [45, 45], none, []⟩, ⟨some 9, .asg 2 (.tmp 34) 45, none, []⟩] false))) (.region 9 [⟨some 35, .bin .add 3 (.tmp 26) (.const (.int .i64 1)), none, []⟩, ⟨some 26, .mov (.tmp 35), none, []⟩] false))))))) (.seq (.region 10 [⟨some 36, .mov (.tmp 9), none, []⟩, ⟨some 6, .asg 1 (.tmp 36) 45, none, []⟩, ⟨some 7, .asg 0 (.const (.int .i64 0)) 2, none, []⟩] false) .ret)))))
def impl_DegreesOfPartials_L : Live := [(0, [0, 1, 2]), (1, [0, 4, 5]), (2, [0, 4, 5, 8]), (3, [8]), (4, [0, 4, 5]), (5, [0, 4, 5, 9]), (6, [9, 24, 25, 26]), (7, [9, 24, 25, 26]), (8, [9, 11, 24, 25, 26]), (9, [9, 24, 25, 26]), (10, [9]), (100017, [0, 4, 5, 8, 17]), (100027, [9, 24, 25, 26, 27])]
theorem impl_DegreesOfPartials_body : Try.f49.body = some (Try.f49.body.getD .skip) := by kernel_rfl
theorem impl_DegreesOfPartials_strip : strip [(6, 1), (9, 2), (11, 1)] (Try.f49.body.getD .skip) = impl_DegreesOfPartials_c := by kernel_rfl
noncomputable def impl_DegreesOfPartials_l1 (r64 : (List (List Int))) (x72 : Int) (x73 : (List Int)) : Option ((Int × (List Int)) ⊕ (List Int)) :=
  (if (decide (x72 < (r64.length : Int))) then (ifp (0 ≤ x72 ∧ x72 < ((r64.length : Nat) : Int)) ((Option.bind (impl_row_degree (rd r64 x72.toNat)) fun r86 => (ifp ((x73.length + ([r86] : List Int).length) * 8 ≤ 140737488355328) ((some (.inl ((IntKind.i64.wrap (x72 + 1), (x73 ++ ([r86]))))))))))) else (some (.inr x73)))
noncomputable def impl_DegreesOfPartials (a0 : Int) (a1 : (Vec Int 64)) (a2 : (Vec Int 64)) : Option ((List Int) × Int) :=
  (Option.bind (impl_quotientCode a0 a1 a2 true) fun r3 => (if (r3 != 0) then (some ([], r3)) else (Option.bind (α := (List Int)) ((Option.bind (impl_rowOf a1) fun r59 => (Option.bind (impl_rowOf a2) fun r62 => (Option.bind (impl_prime_partials a0 r59 r62) fun r64 => (loopM (fun s : (Int × (List Int)) => impl_DegreesOfPartials_l1 r64 s.1 s.2) (0, [])))))) fun x46 => (some (x46, 0)))))
set_option maxHeartbeats 16000000 in
theorem impl_DegreesOfPartials_ok (a0 : Int) (a1 : (Vec Int 64)) (a2 : (Vec Int 64)) (r : ((List Int) × Int)) (h : impl_DegreesOfPartials a0 a1 a2 = some r) : Den Try.prog 49 [(.int .i64 a0), (eA64u8 a1), (eA64u8 a2)] { r := (.tuple [(eSi64 r.1), (.int .i64 r.2)]) } := by
  refine den_of (rs := [(eSi64 r.1), (.int .i64 r.2)]) (ac := impl_DegreesOfPartials_c) (L := impl_DegreesOfPartials_L) (n := 37) (m := [(6, 1), (9, 2), (11, 1)]) good Try.func49 impl_DegreesOfPartials_body (by kernel_rfl) Try.ntmps49 rfl rfl impl_DegreesOfPartials_strip rfl rfl ?_
  refine a_st (σ' := ⟨[(0, (.int .i64 a0)), (1, (eA64u8 a1)), (2, (eA64u8 a2))], []⟩) rfl ?_
  unfold impl_DegreesOfPartials_c
  refine a_seq ?_
  refine a_region ?_
  refine a_val (v := (.own 1400 [] [])) (u := [(1400, some ⟨(eA64u8 a1), false⟩)]) rfl trivial rfl ?_
  refine a_val (v := (.own 1500 [] [])) (u := [(1500, some ⟨(eA64u8 a2), false⟩)]) rfl trivial rfl ?_
  refine a_val (v := (eSi64 ([]))) (u := []) rfl trivial rfl ?_
  refine a_val (v := (.int .i64 0)) (u := []) rfl trivial rfl ?_
  refine a_nil ?_
  refine a_next (σ' := ⟨[(0, (.int .i64 a0)), (4, (.own 4 [] [])), (5, (.own 5 [] []))], [(4, some ⟨(eA64u8 a1), false⟩), (5, some ⟨(eA64u8 a2), false⟩)]⟩) rfl ?_
  refine a_seq ?_
  refine a_seq ?_
  refine a_region ?_
  refine a_val (v := (.int .i64 a0)) (u := []) rfl trivial rfl ?_
  have hl1 : LdOk [] (eA64u8 a1) [] 64 true (eA64u8 a1) := (.nil rfl rfl rfl)
  refine a_val (v := (eA64u8 a1)) (u := []) (ld_own (i := ⟨.arr 64 5, 64, 64, (eA64u8 (vrep 64 (0 : Int)))⟩) rfl rfl rfl hl1) hl1.c rfl ?_
  have hl2 : LdOk [] (eA64u8 a2) [] 64 true (eA64u8 a2) := (.nil rfl rfl rfl)
  refine a_val (v := (eA64u8 a2)) (u := []) (ld_own (i := ⟨.arr 64 5, 64, 64, (eA64u8 (vrep 64 (0 : Int)))⟩) rfl rfl rfl hl2) hl2.c rfl ?_
  obtain ⟨r3, hr4, h⟩ := bind_some h
  refine a_call (args := [(.int .i64 a0), (eA64u8 a1), (eA64u8 a2), (.bool true)]) (u := []) (r := (.int .i64 r3)) rfl rfl (impl_quotientCode_ok a0 a1 a2 true r3 hr4) rfl ?_
  refine a_val (v := (.int .i64 r3)) (u := []) rfl trivial rfl ?_
  refine a_nil ?_
  refine a_next (σ' := ⟨[(0, (.int .i64 a0)), (4, (.own 4 [] [])), (5, (.own 5 [] [])), (8, (.int .i64 r3))], [(4, some ⟨(eA64u8 a1), false⟩), (5, some ⟨(eA64u8 a2), false⟩)]⟩) rfl ?_
  refine a_seq ?_
  refine a_region ?_
  refine a_val (v := (.int .i64 r3)) (u := []) rfl trivial rfl ?_
  refine a_val (v := (.bool (r3 != 0))) (u := []) rfl trivial rfl ?_
  refine a_nil ?_
  refine a_next (σ' := ⟨[(0, (.int .i64 a0)), (4, (.own 4 [] [])), (5, (.own 5 [] [])), (8, (.int .i64 r3)), (17, (.bool (r3 != 0)))], [(4, some ⟨(eA64u8 a1), false⟩), (5, some ⟨(eA64u8 a2), false⟩)]⟩) rfl ?_
  cases hb5 : (r3 != 0)
  · have h := ite_f hb5 h
    refine a_cond_f rfl ?_
    refine a_skip ?_
    refine a_next (σ' := ⟨[(0, (.int .i64 a0)), (4, (.own 4 [] [])), (5, (.own 5 [] []))], [(4, some ⟨(eA64u8 a1), false⟩), (5, some ⟨(eA64u8 a2), false⟩)]⟩) rfl ?_
    refine a_seq ?_
    refine a_region ?_
    refine a_val (v := (.osl 1900)) (u := [(1900, some ⟨(.row 1 (([]).map (AV.int .i64))), false⟩)]) rfl trivial rfl ?_
    refine a_nil ?_
    refine a_next (σ' := ⟨[(0, (.int .i64 a0)), (4, (.own 4 [] [])), (5, (.own 5 [] [])), (9, (.osl 9))], [(4, some ⟨(eA64u8 a1), false⟩), (5, some ⟨(eA64u8 a2), false⟩), (9, some ⟨(.row 1 (([]).map (AV.int .i64))), false⟩)]⟩) rfl ?_
    obtain ⟨y47, hy48, hk49⟩ := bind_some h
    clear h
    refine a_join (emb := fun (s : (List Int)) => ⟨[(9, (.osl 9))], [(9, some ⟨(.row 1 (s.map (AV.int .i64))), false⟩)]⟩) (pre := fun s => s = y47) ?_ ?_
    · rintro x46 rfl
      have h := hk49
      refine a_st (σ' := ⟨[(9, (.osl 9))], [(9, some ⟨(.row 1 (x46.map (AV.int .i64))), false⟩)]⟩) rfl ?_
      refine a_seq ?_
      refine a_region ?_
      refine a_val (v := (.osl 9)) (u := []) rfl trivial rfl ?_
      refine a_val (v := (eSi64 x46)) (u := [(9, some ⟨(.row 1 (x46.map (AV.int .i64))), true⟩)]) rfl trivial rfl ?_
      refine a_val (v := (.int .i64 0)) (u := []) rfl trivial rfl ?_
      refine a_nil ?_
      refine a_next rfl ?_
      refine a_ret ?_
      refine ⟨.inr rfl, ?_⟩
      rw [Try.results49]
      cases h
      exact ⟨_, _, _, _, _, rfl, trivial, .inl ⟨rfl, .inl rfl⟩, rfl, ⟨_, _, _, _, _, rfl, trivial, .inl ⟨rfl, .inl rfl⟩, rfl, rfl⟩⟩
    · have h := hy48
      refine a_seq ?_
      refine a_draw [⟨[], [], [], []⟩, ⟨[4], [], [], []⟩, ⟨[], [], [], [1]⟩, ⟨[5], [], [], []⟩, ⟨[], [], [], [1, 2, 3]⟩, ⟨[], [], [], [0, 1, 2, 3, 4]⟩, ⟨[], [], [], [0, 1, 2, 3, 4, 5]⟩, ⟨[], [], [], []⟩] (by kernel_rfl) ?_
      refine d_cons ?_
      refine a_val (v := (.int .i64 a0)) (u := []) rfl trivial rfl ?_
      refine d_next rfl ?_
      refine d_cons ?_
      have hl58 : LdOk [] (eA64u8 a1) [] 64 true (eA64u8 a1) := (.nil rfl rfl rfl)
      refine a_val (v := (eA64u8 a1)) (u := []) (ld_own (i := ⟨.arr 64 5, 64, 64, (eA64u8 (vrep 64 (0 : Int)))⟩) rfl rfl rfl hl58) hl58.c rfl ?_
      refine d_next rfl ?_
      refine d_cons ?_
      obtain ⟨r59, hr60, h⟩ := bind_some h
      refine a_call (args := [(eA64u8 a1)]) (u := []) (r := (eSi64 r59)) rfl rfl (impl_rowOf_ok a1 r59 hr60) rfl ?_
      refine d_next rfl ?_
      refine d_cons ?_
      have hl61 : LdOk [] (eA64u8 a2) [] 64 true (eA64u8 a2) := (.nil rfl rfl rfl)
      refine a_val (v := (eA64u8 a2)) (u := []) (ld_own (i := ⟨.arr 64 5, 64, 64, (eA64u8 (vrep 64 (0 : Int)))⟩) rfl rfl rfl hl61) hl61.c rfl ?_
      refine d_next rfl ?_
      refine d_cons ?_
      obtain ⟨r62, hr63, h⟩ := bind_some h
      refine a_call (args := [(eA64u8 a2)]) (u := []) (r := (eSi64 r62)) rfl rfl (impl_rowOf_ok a2 r62 hr63) rfl ?_
      refine d_next rfl ?_
      refine d_cons ?_
      obtain ⟨r64, hr65, h⟩ := bind_some h
      refine a_call (args := [(.int .i64 a0), (eSi64 r59), (eSi64 r62)]) (u := []) (r := (eSSi64 r64)) rfl rfl (impl_prime_partials_ok a0 r59 r62 r64 hr65) rfl ?_
      refine d_next rfl ?_
      refine d_cons ?_
      refine a_val (v := (.int .i64 (r64.length : Int))) (u := []) (len_run rfl rfl) trivial rfl ?_
      refine d_next rfl ?_
      refine d_cons ?_
      refine a_val (v := (.int .i64 0)) (u := []) rfl trivial rfl ?_
      refine d_next rfl ?_
      refine d_nil ?_
      refine a_next (σ' := ⟨[(9, (.osl 9)), (24, (eSSi64 r64)), (25, (.int .i64 (r64.length : Int))), (26, (.int .i64 0))], [(9, some ⟨(.row 1 (([]).map (AV.int .i64))), false⟩)]⟩) rfl ?_
      refine a_block ?_
      refine a_loop (emb := fun (s : (Int × (List Int))) => ⟨[(9, (.osl 9)), (24, (eSSi64 r64)), (25, (.int .i64 (r64.length : Int))), (26, (.int .i64 s.1))], [(9, some ⟨(.row 1 (s.2.map (AV.int .i64))), false⟩)]⟩) (body := (fun s : (Int × (List Int)) => impl_DegreesOfPartials_l1 r64 s.1 s.2)) (G := fun q => some q = some y47) h rfl ?_ rfl
      rintro X80 ⟨x72, x73⟩ x81 h hX82
      have h : impl_DegreesOfPartials_l1 r64 x72 x73 = some x81 := h
      refine a_st (σ' := ⟨[(9, (.osl 9)), (24, (eSSi64 r64)), (25, (.int .i64 (r64.length : Int))), (26, (.int .i64 x72))], [(9, some ⟨(.row 1 (x73.map (AV.int .i64))), false⟩)]⟩) rfl ?_
      refine a_seq ?_
      refine a_region ?_
      refine a_val (v := (.bool ((decide (x72 < (r64.length : Int)))))) (u := []) rfl trivial rfl ?_
      refine a_nil ?_
      refine a_next (σ' := ⟨[(9, (.osl 9)), (24, (eSSi64 r64)), (25, (.int .i64 (r64.length : Int))), (26, (.int .i64 x72)), (27, (.bool ((decide (x72 < (r64.length : Int))))))], [(9, some ⟨(.row 1 (x73.map (AV.int .i64))), false⟩)]⟩) rfl ?_
      refine a_seq ?_
      cases hb83 : (decide (x72 < (r64.length : Int)))
      · have h := ite_f hb83 h
        refine a_cond_f rfl ?_
        refine a_exit ?_
        refine t_exit ?_
        cases h
        have h := hX82
        refine t_exit ?_
        refine b_exit ?_
        exact j_leaf x73 (Option.some.inj h) rfl
      · have h := ite_t hb83 h
        refine a_cond_t rfl ?_
        refine a_skip ?_
        refine a_next (σ' := ⟨[(9, (.osl 9)), (24, (eSSi64 r64)), (25, (.int .i64 (r64.length : Int))), (26, (.int .i64 x72))], [(9, some ⟨(.row 1 (x73.map (AV.int .i64))), false⟩)]⟩) rfl ?_
        refine a_seq ?_
        refine a_block ?_
        refine a_seq ?_
        refine a_region ?_
        obtain ⟨hc84, h⟩ := ifp_some h
        refine a_val (v := (.ref (.row 1 (r64.map eSi64)) [x72.toNat] [x72.toNat * 1])) (u := []) rfl (lmap hc84) rfl ?_
        have hl85 : LdOk [x72.toNat] (.row 1 (r64.map eSi64)) [x72.toNat * 1] 1 false (eSi64 (rd r64 x72.toNat)) := (.row (llt hc84) rfl (.nil rfl rfl rfl))
        refine a_val (v := (eSi64 (rd r64 x72.toNat))) (u := []) (ld_ref (i := ⟨.slice 2, 1, 24, (eSi64 [])⟩) rfl rfl hl85) hl85.c rfl ?_
        refine a_val (v := (eSi64 (rd r64 x72.toNat))) (u := []) rfl trivial rfl ?_
        refine a_nil ?_
        refine a_next (σ' := ⟨[(9, (.osl 9)), (11, (eSi64 (rd r64 x72.toNat))), (24, (eSSi64 r64)), (25, (.int .i64 (r64.length : Int))), (26, (.int .i64 x72))], [(9, some ⟨(.row 1 (x73.map (AV.int .i64))), false⟩)]⟩) rfl ?_
        refine a_region ?_
        refine a_val (v := (.osl 9)) (u := []) rfl trivial rfl ?_
        refine a_val (v := (eSi64 (rd r64 x72.toNat))) (u := []) rfl trivial rfl ?_
        obtain ⟨r86, hr87, h⟩ := bind_some h
        refine a_call (args := [(eSi64 (rd r64 x72.toNat))]) (u := []) (r := (.int .i64 r86)) rfl rfl (impl_row_degree_ok (rd r64 x72.toNat) r86 hr87) rfl ?_
        refine a_val (v := (.sl 1 true (([r86]).map (AV.int .i64)))) (u := []) rfl ⟨(Nat.le_of_ble_eq_true rfl), (Nat.le_of_ble_eq_true rfl), (all_cons ⟨(Nat.le_of_ble_eq_true rfl), rfl⟩ all_nil)⟩ rfl ?_
        obtain ⟨hc88, h⟩ := ifp_some h
        refine a_val (v := (.osl 4400)) (u := [(4400, some ⟨(.row 1 (((x73 ++ ([r86]))).map (AV.int .i64))), false⟩), (9, none)]) (app_run (i := ⟨.int .i64, 1, 8, (.int .i64 0)⟩) (f := (AV.int .i64)) (l := x73) (l2 := [r86]) rfl rfl rfl rfl (fun _ => rfl) rfl rfl) (app_c (f := (AV.int .i64)) (s := 1) (sz := 1) (by' := 8) (u := []) (id := 9) hc88 (.inr rfl) rfl rfl rfl) rfl ?_
        refine a_val (v := (.osl 4400)) (u := []) rfl trivial rfl ?_
        refine a_nil ?_
        refine b_norm ?_
        refine a_next (σ' := ⟨[(9, (.osl 9)), (24, (eSSi64 r64)), (25, (.int .i64 (r64.length : Int))), (26, (.int .i64 x72))], [(9, some ⟨(.row 1 (((x73 ++ ([r86]))).map (AV.int .i64))), false⟩)]⟩) rfl ?_
        refine a_region ?_
        refine a_val (v := (.int .i64 (IntKind.i64.wrap (x72 + 1)))) (u := []) rfl trivial rfl ?_
        refine a_val (v := (.int .i64 (IntKind.i64.wrap (x72 + 1)))) (u := []) rfl trivial rfl ?_
        refine a_nil ?_
        cases h
        exact a_again rfl hX82
  · have h := ite_t hb5 h
    refine a_cond_t rfl ?_
    refine a_seq ?_
    refine a_region ?_
    refine a_val (v := (.int .i64 r3)) (u := []) rfl trivial rfl ?_
    refine a_val (v := (eSi64 ([]))) (u := []) rfl trivial rfl ?_
    refine a_val (v := (.int .i64 r3)) (u := []) rfl trivial rfl ?_
    refine a_nil ?_
    refine a_next rfl ?_
    refine a_ret ?_
    refine t_ret ?_
    refine ⟨.inr rfl, ?_⟩
    rw [Try.results49]
    cases h
    exact ⟨_, _, _, _, _, rfl, trivial, .inl ⟨rfl, .inl rfl⟩, rfl, ⟨_, _, _, _, _, rfl, trivial, .inl ⟨rfl, .inl rfl⟩, rfl, rfl⟩⟩
def laws_FnExactDegreesOfPartials_c : ACode := (.seq (.region 0 [⟨some 4, .box 22 (.tmp 1), none, []⟩, ⟨some 5, .box 22 (.tmp 2), none, []⟩, ⟨some 6, .asg 0 (.const (.bool false)) 4, none, []⟩] false) (.seq (.region 1 [⟨some 16, .mov (.tmp 0), none, []⟩, ⟨some 17, .load 22 (.tmp 4), none, []⟩, ⟨some 18, .call 0 (.func 32) [(.tmp 17)], none, [1]⟩, ⟨some 19, .load 22 (.tmp 5), none, []⟩, ⟨some 20, .call 0 (.func 32) [(.tmp 19)], none, [3, 2]⟩, ⟨some 21, .call 0 (.func 48) [(.tmp 16), (.tmp 18), (.tmp 20)], none, [0, 2, 4, 4]⟩, ⟨some 15, .mov (.tmp 21), none, [5]⟩, ⟨some 22, .extract (.tmp 15) 0, none, [6]⟩, ⟨some 23, .extract (.tmp 15) 1, none, [6]⟩, ⟨some 7, .asg 1 (.tmp 22) 45, none, [7, 5, 0, 1, 2, 3, 4, 5, 6, 7]⟩, ⟨some 8, .asg 0 (.tmp 23) 2, none, [8, 9, 0, 1, 2, 3, 4, 5, 6, 7, 8, 9]⟩] true) (.seq (.region 2 [⟨some 25, .mov (.tmp 0), none, []⟩, ⟨some 26, .load 22 (.tmp 4), none, []⟩, ⟨some 27, .call 0 (.func 32) [(.tmp 26)], none, [1]⟩, ⟨some 28, .load 22 (.tmp 5), none, []⟩, ⟨some 29, .call 0 (.func 32) [(.tmp 28)], none, [3, 2]⟩, ⟨some 30, .call 0 (.func 49) [(.tmp 25), (.tmp 27), (.tmp 29)], none, [0, 2, 4, 4]⟩, ⟨some 24, .mov (.tmp 30), none, [5]⟩, ⟨some 31, .extract (.tmp 24) 0, none, [6]⟩, ⟨some 32, .extract (.tmp 24) 1, none, [6]⟩, ⟨some 9, .asg 2 (.tmp 31) 45, none, [7, 5, 0, 1, 2, 3, 4, 5, 6, 7]⟩, ⟨some 10, .asg 0 (.tmp 32) 2, none, [8, 9, 0, 1, 2, 3, 4, 5, 6, 7, 8, 9]⟩] true) (.seq (.seq (.region 3 [⟨some 33, .mov (.tmp 9), none, []⟩, ⟨some 34, .mov (.tmp 7), none, []⟩, ⟨some 35, .call 0 (.func 34) [(.tmp 33), (.tmp 34)], none, []⟩, ⟨some 36, .un .not (.tmp 35), none, []⟩, ⟨some 37, .mov (.tmp 36), none, []⟩, ⟨some 38, .mov (.tmp 10), some (37, false), []⟩, ⟨some 39, .mov (.tmp 8), some (37, false), []⟩, ⟨some 40, .bin .neq 2 (.tmp 38) (.tmp 39), some (37, false), []⟩, ⟨some 41, .pick (.tmp 37) (.const (.bool true)) (.tmp 40), none, []⟩] false) (.cond (.tmp 41) (.seq (.region 4 [⟨some 6, .asg 0 (.const (.bool false)) 4, none, []⟩] false) .ret) .skip)) (.seq (.region 5 [⟨some 11, .asg 0 (.const (.int .i64 1)) 3, none, []⟩] false) (.seq (.region 6 [⟨some 42, .mov (.tmp 9), none, []⟩, ⟨some 43, .mov (.tmp 11), none, []⟩, ⟨some 44, .call 1 (.func 35) [(.tmp 42), (.tmp 43)], none, []⟩, ⟨some 11, .asg 0 (.tmp 44) 3, none, []⟩] false) (.seq (.region 7 [⟨some 12, .asg 0 (.const (.int .i64 1)) 3, none, []⟩] false) (.seq (.region 8 [⟨some 45, .mov (.tmp 9), none, []⟩, ⟨some 46, .mov (.tmp 12), none, []⟩, ⟨some 47, .call 0 (.func 36) [(.tmp 45), (.tmp 46)], none, []⟩, ⟨some 12, .asg 0 (.tmp 47) 3, none, []⟩] false) (.seq (.seq (.region 9 [⟨some 48, .mov (.tmp 12), none, []⟩, ⟨some 49, .bin .lss 3 (.tmp 48) (.const (.int .i64 0)), none, []⟩] false) (.cond (.tmp 49) (.seq (.region 10 [⟨some 6, .asg 0 (.const (.bool false)) 4, none, []⟩] false) .ret) .skip)) (.seq (.seq (.region 11 [⟨some 50, .mov (.tmp 12), none, []⟩, ⟨some 51, .mov (.tmp 11), none, []⟩, ⟨some 52, .bin .neq 3 (.tmp 50) (.tmp 51), none, []⟩] false) (.cond (.tmp 52) (.seq (.region 12 [⟨some 6, .asg 0 (.const (.bool false)) 4, none, []⟩] false) .ret) .skip)) (.seq (.region 13 [⟨some 54, .mov (.tmp 0), none, []⟩, ⟨some 55, .load 22 (.tmp 4), none, []⟩, ⟨some 56, .call 0 (.func 32) [(.tmp 55)], none, [1]⟩, ⟨some 57, .load 22 (.tmp 5), none, []⟩, ⟨some 58, .call 0 (.func 32) [(.tmp 57)], none, [3, 2]⟩, ⟨some 59, .call 0 (.func 49) [(.tmp 54), (.tmp 56), (.tmp 58)], none, [0, 2, 4, 4]⟩, ⟨some 53, .mov (.tmp 59), none, [5]⟩, ⟨some 60, .extract (.tmp 53) 0, none, [6]⟩, ⟨some 61, .extract (.tmp 53) 1, none, [6]⟩, ⟨some 13, .asg 1 (.tmp 60) 45, none, [7, 5, 0, 1, 2, 3, 4, 5, 6, 7]⟩, ⟨some 14, .asg 0 (.tmp 61) 2, none, [8, 9, 0, 1, 2, 3, 4, 5, 6, 7, 8, 9]⟩] true) (.seq (.seq (.region 14 [⟨some 62, .mov (.tmp 13), none, []⟩, ⟨some 63, .mov (.tmp 7), none, []⟩, ⟨some 64, .call 0 (.func 34) [(.tmp 62), (.tmp 63)], none, []⟩, ⟨some 65, .un .not (.tmp 64), none, []⟩, ⟨some 66, .mov (.tmp 65), none, []⟩, ⟨some 67, .mov (.tmp 14), some (66, false), []⟩, ⟨some 68, .mov (.tmp 8), some (66, false), []⟩, ⟨some 69, .bin .neq 2 (.tmp 67) (.tmp 68), some (66, false), []⟩, ⟨some 70, .pick (.tmp 66) (.const (.bool true)) (.tmp 69), none, []⟩] false) (.cond (.tmp 70) (.seq (.region 15 [⟨some 6, .asg 0 (.const (.bool false)) 4, none, []⟩] false) .ret) .skip)) (.seq (.region 16 [⟨some 12, .asg 0 (.const (.int .i64 1)) 3, none, []⟩] false) (.seq (.region 17 [⟨some 71, .mov (.tmp 9), none, []⟩, ⟨some 72, .mov (.tmp 12), none, []⟩, ⟨some 73, .call 0 (.func 36) [(.tmp 71), (.tmp 72)], none, []⟩, ⟨some 12, .asg 0 (.tmp 73) 3, none, []⟩] false) (.seq (.seq (.region 18 [⟨some 74, .mov (.tmp 12), none, []⟩, ⟨some 75, .bin .lss 3 (.tmp 74) (.const (.int .i64 0)), none, []⟩] false) (.cond (.tmp 75) (.seq (.region 19 [⟨some 6, .asg 0 (.const (.bool false)) 4, none, []⟩] false) .ret) .skip)) (.seq (.seq (.region 20 [⟨some 76, .mov (.tmp 12), none, []⟩, ⟨some 77, .mov (.tmp 11), none, []⟩, ⟨some 78, .bin .neq 3 (.tmp 76) (.tmp 77), none, []⟩] false) (.cond (.tmp 78) (.seq (.region 21 [⟨some 6, .asg 0 (.const (.bool false)) 4, none, []⟩] false) .ret) .skip)) (.seq (.region 22 [⟨some 6, .asg 0 (.const (.bool true)) 4, none, []⟩] false) .ret)))))))))))))))))
def laws_FnExactDegreesOfPartials_L : Live := [(0, [0, 1, 2]), (1, [0, 4, 5]), (2, [0, 4, 5, 7, 8]), (3, [0, 4, 5, 7, 8, 9, 10]), (4, []), (5, [0, 4, 5, 7, 8, 9]), (6, [0, 4, 5, 7, 8, 9, 11]), (7, [0, 4, 5, 7, 8, 9, 11]), (8, [0, 4, 5, 7, 8, 9, 11, 12]), (9, [0, 4, 5, 7, 8, 9, 11, 12]), (10, []), (11, [0, 4, 5, 7, 8, 9, 11, 12]), (12, []), (13, [0, 4, 5, 7, 8, 9, 11]), (14, [7, 8, 9, 11, 13, 14]), (15, []), (16, [9, 11]), (17, [9, 11, 12]), (18, [11, 12]), (19, []), (20, [11, 12]), (21, []), (22, []), (100041, [0, 4, 5, 7, 8, 9, 41]), (100049, [0, 4, 5, 7, 8, 9, 11, 12, 49]), (100052, [0, 4, 5, 7, 8, 9, 11, 52]), (100070, [9, 11, 70]), (100075, [11, 12, 75]), (100078, [78])]
theorem laws_FnExactDegreesOfPartials_body : Try.f14.body = some (Try.f14.body.getD .skip) := by kernel_rfl
theorem laws_FnExactDegreesOfPartials_strip : strip [(7, 1), (9, 2), (13, 1), (44, 1)] (Try.f14.body.getD .skip) = laws_FnExactDegreesOfPartials_c := by kernel_rfl
noncomputable def laws_FnExactDegreesOfPartials (a0 : Int) (a1 : (Vec Int 64)) (a2 : (Vec Int 64)) : Option Bool :=
  (Option.bind (laws_toPoly a1) fun r10 => (Option.bind (laws_toPoly a2) fun r13 => (Option.bind (spec_DegreesOfPartials a0 r10 r13) fun r15 => (Option.bind (laws_toPoly a1) fun r26 => (Option.bind (laws_toPoly a2) fun r29 => (Option.bind (impl_DegreesOfPartials_fresh a0 r26 r29) fun r31 => (Option.bind (α := Bool) ((Option.bind (laws_eqInt64S r31.1 r15.1) fun r40 => (if (!r40) then (some true) else (some (r31.2 != r15.2))))) fun x36 => (if x36 then (some false) else (Option.bind (laws_markInt64S_of_mut r31.1 1) fun r44 => (ifp (r44.2.length = r31.1.length) ((Option.bind (laws_heldInt64S r44.2 1) fun r47 => (if (decide (r47 < 0)) then (some false) else (if (r47 != r44.1) then (some false) else (Option.bind (laws_toPoly a1) fun r60 => (Option.bind (laws_toPoly a2) fun r63 => (Option.bind (impl_DegreesOfPartials a0 r60 r63) fun r65 => (Option.bind (α := Bool) ((Option.bind (laws_eqInt64S r65.1 r15.1) fun r74 => (if (!r74) then (some true) else (some (r65.2 != r15.2))))) fun x70 => (if x70 then (some false) else (Option.bind (laws_heldInt64S r44.2 1) fun r78 => (if (decide (r78 < 0)) then (some false) else (if (r78 != r44.1) then (some false) else (some true)))))))))))))))))))))))
set_option maxHeartbeats 16000000 in
theorem laws_FnExactDegreesOfPartials_ok (a0 : Int) (a1 : (Vec Int 64)) (a2 : (Vec Int 64)) (r : Bool) (h : laws_FnExactDegreesOfPartials a0 a1 a2 = some r) : Den Try.prog 14 [(.int .i64 a0), (eA64u8 a1), (eA64u8 a2)] { r := (.bool r) } := by
  refine den_of (rs := [(.bool r)]) (ac := laws_FnExactDegreesOfPartials_c) (L := laws_FnExactDegreesOfPartials_L) (n := 79) (m := [(7, 1), (9, 2), (13, 1), (44, 1)]) good Try.func14 laws_FnExactDegreesOfPartials_body (by kernel_rfl) Try.ntmps14 rfl rfl laws_FnExactDegreesOfPartials_strip rfl rfl ?_
  refine a_st (σ' := ⟨[(0, (.int .i64 a0)), (1, (eA64u8 a1)), (2, (eA64u8 a2))], []⟩) rfl ?_
  unfold laws_FnExactDegreesOfPartials_c
  refine a_seq ?_
  refine a_region ?_
  refine a_val (v := (.own 1400 [] [])) (u := [(1400, some ⟨(eA64u8 a1), false⟩)]) rfl trivial rfl ?_
  refine a_val (v := (.own 1500 [] [])) (u := [(1500, some ⟨(eA64u8 a2), false⟩)]) rfl trivial rfl ?_
  refine a_val (v := (.bool false)) (u := []) rfl trivial rfl ?_
  refine a_nil ?_
  refine a_next (σ' := ⟨[(0, (.int .i64 a0)), (4, (.own 4 [] [])), (5, (.own 5 [] []))], [(4, some ⟨(eA64u8 a1), false⟩), (5, some ⟨(eA64u8 a2), false⟩)]⟩) rfl ?_
  refine a_seq ?_
  refine a_draw [⟨[], [], [], []⟩, ⟨[4], [], [], []⟩, ⟨[], [], [], [1]⟩, ⟨[5], [], [], []⟩, ⟨[], [], [], [1, 2, 3]⟩, ⟨[], [], [], [0, 1, 2, 3, 4]⟩, ⟨[], [], [], [0, 1, 2, 3, 4, 5]⟩, ⟨[], [], [], [0, 1, 2, 3, 4, 5, 6]⟩, ⟨[], [], [], [0, 1, 2, 3, 4, 5, 6]⟩, ⟨[], [], [], [0, 1, 2, 3, 4, 5, 6, 7]⟩, ⟨[], [], [], [0, 1, 2, 3, 4, 5, 6, 7, 8, 9]⟩] (by kernel_rfl) ?_
  refine d_cons ?_
  refine a_val (v := (.int .i64 a0)) (u := []) rfl trivial rfl ?_
  refine d_next rfl ?_
  refine d_cons ?_
  have hl9 : LdOk [] (eA64u8 a1) [] 64 true (eA64u8 a1) := (.nil rfl rfl rfl)
  refine a_val (v := (eA64u8 a1)) (u := []) (ld_own (i := ⟨.arr 64 5, 64, 64, (eA64u8 (vrep 64 (0 : Int)))⟩) rfl rfl rfl hl9) hl9.c rfl ?_
  refine d_next rfl ?_
  refine d_cons ?_
  obtain ⟨r10, hr11, h⟩ := bind_some h
  refine a_call (args := [(eA64u8 a1)]) (u := []) (r := (eA64u8 r10)) rfl rfl (laws_toPoly_ok a1 r10 hr11) rfl ?_
  refine d_next rfl ?_
  refine d_cons ?_
  have hl12 : LdOk [] (eA64u8 a2) [] 64 true (eA64u8 a2) := (.nil rfl rfl rfl)
  refine a_val (v := (eA64u8 a2)) (u := []) (ld_own (i := ⟨.arr 64 5, 64, 64, (eA64u8 (vrep 64 (0 : Int)))⟩) rfl rfl rfl hl12) hl12.c rfl ?_
  refine d_next rfl ?_
  refine d_cons ?_
  obtain ⟨r13, hr14, h⟩ := bind_some h
  refine a_call (args := [(eA64u8 a2)]) (u := []) (r := (eA64u8 r13)) rfl rfl (laws_toPoly_ok a2 r13 hr14) rfl ?_
  refine d_next rfl ?_
  refine d_cons ?_
  obtain ⟨r15, hr16, h⟩ := bind_some h
  refine a_call (args := [(.int .i64 a0), (eA64u8 r10), (eA64u8 r13)]) (u := []) (r := (.tuple [(eSi64 r15.1), (.int .i64 r15.2)])) rfl rfl (spec_DegreesOfPartials_ok a0 r10 r13 r15 hr16) rfl ?_
  refine d_next rfl ?_
  refine d_cons ?_
  refine a_val (v := (.tuple [(eSi64 r15.1), (.int .i64 r15.2)])) (u := []) rfl trivial rfl ?_
  refine d_next rfl ?_
  refine d_cons ?_
  refine a_val (v := (eSi64 r15.1)) (u := []) rfl (Nat.le_of_ble_eq_true rfl) rfl ?_
  refine d_next rfl ?_
  refine d_cons ?_
  refine a_val (v := (.int .i64 r15.2)) (u := []) rfl (Nat.le_of_ble_eq_true rfl) rfl ?_
  refine d_next rfl ?_
  refine d_cons ?_
  refine a_val (v := (eSi64 r15.1)) (u := []) rfl trivial rfl ?_
  refine d_next rfl ?_
  refine d_cons ?_
  refine a_val (v := (.int .i64 r15.2)) (u := []) rfl trivial rfl ?_
  refine d_next rfl ?_
  refine d_nil ?_
  refine a_next (σ' := ⟨[(0, (.int .i64 a0)), (4, (.own 4 [] [])), (5, (.own 5 [] [])), (7, (eSi64 r15.1)), (8, (.int .i64 r15.2))], [(4, some ⟨(eA64u8 a1), false⟩), (5, some ⟨(eA64u8 a2), false⟩)]⟩) rfl ?_
  refine a_seq ?_
  refine a_draw [⟨[], [], [], []⟩, ⟨[4], [], [], []⟩, ⟨[], [], [], [1]⟩, ⟨[5], [], [], []⟩, ⟨[], [], [], [1, 2, 3]⟩, ⟨[4000], [4000], [4000], [0, 1, 2, 3, 4]⟩, ⟨[4000], [], [4000], [0, 1, 2, 3, 4, 5]⟩, ⟨[4000], [], [4000], [0, 1, 2, 3, 4, 5, 6]⟩, ⟨[4000], [], [], [0, 1, 2, 3, 4, 5, 6]⟩, ⟨[4000], [], [4000], [0, 1, 2, 3, 4, 5, 6, 7]⟩, ⟨[], [], [], [0, 1, 2, 3, 4, 5, 6, 7, 8, 9]⟩] (by kernel_rfl) ?_
  refine d_cons ?_
  refine a_val (v := (.int .i64 a0)) (u := []) rfl trivial rfl ?_
  refine d_next rfl ?_
  refine d_cons ?_
  have hl25 : LdOk [] (eA64u8 a1) [] 64 true (eA64u8 a1) := (.nil rfl rfl rfl)
  refine a_val (v := (eA64u8 a1)) (u := []) (ld_own (i := ⟨.arr 64 5, 64, 64, (eA64u8 (vrep 64 (0 : Int)))⟩) rfl rfl rfl hl25) hl25.c rfl ?_
  refine d_next rfl ?_
  refine d_cons ?_
  obtain ⟨r26, hr27, h⟩ := bind_some h
  refine a_call (args := [(eA64u8 a1)]) (u := []) (r := (eA64u8 r26)) rfl rfl (laws_toPoly_ok a1 r26 hr27) rfl ?_
  refine d_next rfl ?_
  refine d_cons ?_
  have hl28 : LdOk [] (eA64u8 a2) [] 64 true (eA64u8 a2) := (.nil rfl rfl rfl)
  refine a_val (v := (eA64u8 a2)) (u := []) (ld_own (i := ⟨.arr 64 5, 64, 64, (eA64u8 (vrep 64 (0 : Int)))⟩) rfl rfl rfl hl28) hl28.c rfl ?_
  refine d_next rfl ?_
  refine d_cons ?_
  obtain ⟨r29, hr30, h⟩ := bind_some h
  refine a_call (args := [(eA64u8 a2)]) (u := []) (r := (eA64u8 r29)) rfl rfl (laws_toPoly_ok a2 r29 hr30) rfl ?_
  refine d_next rfl ?_
  refine d_cons ?_
  obtain ⟨r31, hr32, h⟩ := bind_some h
  refine a_callF (args := [(.int .i64 a0), (eA64u8 r26), (eA64u8 r29)]) (u := []) (u2 := []) (r := (.tuple [(.osl 2000000), (.int .i64 r31.2)])) (fs := [(1, r31.1.map (AV.int .i64))]) rfl rfl (impl_DegreesOfPartials_fresh_ok a0 r26 r29 r31 hr32) rfl rfl rfl (.inl rfl) rfl ?_
  refine d_next rfl ?_
  refine d_cons ?_
  refine a_val (v := (.tuple [(.osl 4000), (.int .i64 r31.2)])) (u := []) rfl trivial rfl ?_
  refine d_next rfl ?_
  refine d_cons ?_
  refine a_val (v := (.osl 4000)) (u := []) rfl (Nat.le_of_ble_eq_true rfl) rfl ?_
  refine d_next rfl ?_
  refine d_cons ?_
  refine a_val (v := (.int .i64 r31.2)) (u := []) rfl (Nat.le_of_ble_eq_true rfl) rfl ?_
  refine d_next rfl ?_
  refine d_cons ?_
  refine a_val (v := (.osl 4000)) (u := []) rfl trivial rfl ?_
  refine d_next rfl ?_
  refine d_cons ?_
  refine a_val (v := (.int .i64 r31.2)) (u := []) rfl trivial rfl ?_
  refine d_next rfl ?_
  refine d_nil ?_
  refine a_next (σ' := ⟨[(0, (.int .i64 a0)), (4, (.own 4 [] [])), (5, (.own 5 [] [])), (7, (eSi64 r15.1)), (8, (.int .i64 r15.2)), (9, (.osl 9)), (10, (.int .i64 r31.2))], [(4, some ⟨(eA64u8 a1), false⟩), (5, some ⟨(eA64u8 a2), false⟩), (9, some ⟨(.row 1 (r31.1.map (AV.int .i64))), false⟩)]⟩) rfl ?_
  refine a_seq ?_
  obtain ⟨y37, hy38, hk39⟩ := bind_some h
  clear h
  refine a_join (emb := fun (s : Bool) => ⟨[(0, (.int .i64 a0)), (4, (.own 4 [] [])), (5, (.own 5 [] [])), (7, (eSi64 r15.1)), (8, (.int .i64 r15.2)), (9, (.osl 9)), (41, (.bool s))], [(4, some ⟨(eA64u8 a1), false⟩), (5, some ⟨(eA64u8 a2), false⟩), (9, some ⟨(.row 1 (r31.1.map (AV.int .i64))), false⟩)]⟩) (pre := fun s => s = y37) ?_ ?_
  · rintro x36 rfl
    have h := hk39
    refine a_st (σ' := ⟨[(0, (.int .i64 a0)), (4, (.own 4 [] [])), (5, (.own 5 [] [])), (7, (eSi64 r15.1)), (8, (.int .i64 r15.2)), (9, (.osl 9)), (41, (.bool x36))], [(4, some ⟨(eA64u8 a1), false⟩), (5, some ⟨(eA64u8 a2), false⟩), (9, some ⟨(.row 1 (r31.1.map (AV.int .i64))), false⟩)]⟩) rfl ?_
    cases hb43 : x36
    · have h := ite_f hb43 h
      refine a_cond_f rfl ?_
      refine a_skip ?_
      refine a_next (σ' := ⟨[(0, (.int .i64 a0)), (4, (.own 4 [] [])), (5, (.own 5 [] [])), (7, (eSi64 r15.1)), (8, (.int .i64 r15.2)), (9, (.osl 9))], [(4, some ⟨(eA64u8 a1), false⟩), (5, some ⟨(eA64u8 a2), false⟩), (9, some ⟨(.row 1 (r31.1.map (AV.int .i64))), false⟩)]⟩) rfl ?_
      refine a_seq ?_
      refine a_region ?_
      refine a_val (v := (.int .i64 1)) (u := []) rfl trivial rfl ?_
      refine a_nil ?_
      refine a_next (σ' := ⟨[(0, (.int .i64 a0)), (4, (.own 4 [] [])), (5, (.own 5 [] [])), (7, (eSi64 r15.1)), (8, (.int .i64 r15.2)), (9, (.osl 9)), (11, (.int .i64 1))], [(4, some ⟨(eA64u8 a1), false⟩), (5, some ⟨(eA64u8 a2), false⟩), (9, some ⟨(.row 1 (r31.1.map (AV.int .i64))), false⟩)]⟩) rfl ?_
      refine a_seq ?_
      refine a_region ?_
      refine a_val (v := (.osl 9)) (u := []) rfl trivial rfl ?_
      refine a_val (v := (.int .i64 1)) (u := []) rfl trivial rfl ?_
      obtain ⟨r44, hr45, h⟩ := bind_some h
      obtain ⟨hl46, h⟩ := ifp_some h
      refine a_callM (args := [(.mutsl 1 (r31.1.map (AV.int .i64))), (.int .i64 1)]) (i := 0) (id := 9) (r := (.int .i64 r44.1)) (c := (.row 1 (r44.2.map (AV.int .i64)))) rfl rfl (laws_markInt64S_of_mut_ok r31.1 1 r44 hr45) rfl (shape_map hl46) ?_
      refine a_val (v := (.int .i64 r44.1)) (u := []) rfl trivial rfl ?_
      refine a_nil ?_
      refine a_next (σ' := ⟨[(0, (.int .i64 a0)), (4, (.own 4 [] [])), (5, (.own 5 [] [])), (7, (eSi64 r15.1)), (8, (.int .i64 r15.2)), (9, (.osl 9)), (11, (.int .i64 r44.1))], [(4, some ⟨(eA64u8 a1), false⟩), (5, some ⟨(eA64u8 a2), false⟩), (9, some ⟨(.row 1 (r44.2.map (AV.int .i64))), false⟩)]⟩) rfl ?_
      refine a_seq ?_
      refine a_region ?_
      refine a_val (v := (.int .i64 1)) (u := []) rfl trivial rfl ?_
      refine a_nil ?_
      refine a_next (σ' := ⟨[(0, (.int .i64 a0)), (4, (.own 4 [] [])), (5, (.own 5 [] [])), (7, (eSi64 r15.1)), (8, (.int .i64 r15.2)), (9, (.osl 9)), (11, (.int .i64 r44.1)), (12, (.int .i64 1))], [(4, some ⟨(eA64u8 a1), false⟩), (5, some ⟨(eA64u8 a2), false⟩), (9, some ⟨(.row 1 (r44.2.map (AV.int .i64))), false⟩)]⟩) rfl ?_
      refine a_seq ?_
      refine a_region ?_
      refine a_val (v := (.osl 9)) (u := []) rfl trivial rfl ?_
      refine a_val (v := (.int .i64 1)) (u := []) rfl trivial rfl ?_
      obtain ⟨r47, hr48, h⟩ := bind_some h
      refine a_callB (args := [(eSi64 r44.2), (.int .i64 1)]) (u := [(9, some ⟨(.row 1 (r44.2.map (AV.int .i64))), true⟩)]) (r := (.int .i64 r47)) rfl rfl (laws_heldInt64S_ok r44.2 1 r47 hr48) rfl trivial ?_
      refine a_val (v := (.int .i64 r47)) (u := []) rfl trivial rfl ?_
      refine a_nil ?_
      refine a_next (σ' := ⟨[(0, (.int .i64 a0)), (4, (.own 4 [] [])), (5, (.own 5 [] [])), (7, (eSi64 r15.1)), (8, (.int .i64 r15.2)), (9, (.osl 9)), (11, (.int .i64 r44.1)), (12, (.int .i64 r47))], [(4, some ⟨(eA64u8 a1), false⟩), (5, some ⟨(eA64u8 a2), false⟩), (9, some ⟨(.row 1 (r44.2.map (AV.int .i64))), false⟩)]⟩) rfl ?_
      refine a_seq ?_
      refine a_seq ?_
      refine a_region ?_
      refine a_val (v := (.int .i64 r47)) (u := []) rfl trivial rfl ?_
      refine a_val (v := (.bool ((decide (r47 < 0))))) (u := []) rfl trivial rfl ?_
      refine a_nil ?_
      refine a_next (σ' := ⟨[(0, (.int .i64 a0)), (4, (.own 4 [] [])), (5, (.own 5 [] [])), (7, (eSi64 r15.1)), (8, (.int .i64 r15.2)), (9, (.osl 9)), (11, (.int .i64 r44.1)), (12, (.int .i64 r47)), (49, (.bool ((decide (r47 < 0)))))], [(4, some ⟨(eA64u8 a1), false⟩), (5, some ⟨(eA64u8 a2), false⟩), (9, some ⟨(.row 1 (r44.2.map (AV.int .i64))), false⟩)]⟩) rfl ?_
      cases hb49 : (decide (r47 < 0))
      · have h := ite_f hb49 h
        refine a_cond_f rfl ?_
        refine a_skip ?_
        refine a_next (σ' := ⟨[(0, (.int .i64 a0)), (4, (.own 4 [] [])), (5, (.own 5 [] [])), (7, (eSi64 r15.1)), (8, (.int .i64 r15.2)), (9, (.osl 9)), (11, (.int .i64 r44.1)), (12, (.int .i64 r47))], [(4, some ⟨(eA64u8 a1), false⟩), (5, some ⟨(eA64u8 a2), false⟩), (9, some ⟨(.row 1 (r44.2.map (AV.int .i64))), false⟩)]⟩) rfl ?_
        refine a_seq ?_
        refine a_seq ?_
        refine a_region ?_
        refine a_val (v := (.int .i64 r47)) (u := []) rfl trivial rfl ?_
        refine a_val (v := (.int .i64 r44.1)) (u := []) rfl trivial rfl ?_
        refine a_val (v := (.bool (r47 != r44.1))) (u := []) rfl trivial rfl ?_
        refine a_nil ?_
        refine a_next (σ' := ⟨[(0, (.int .i64 a0)), (4, (.own 4 [] [])), (5, (.own 5 [] [])), (7, (eSi64 r15.1)), (8, (.int .i64 r15.2)), (9, (.osl 9)), (11, (.int .i64 r44.1)), (52, (.bool (r47 != r44.1)))], [(4, some ⟨(eA64u8 a1), false⟩), (5, some ⟨(eA64u8 a2), false⟩), (9, some ⟨(.row 1 (r44.2.map (AV.int .i64))), false⟩)]⟩) rfl ?_
        cases hb50 : (r47 != r44.1)
        · have h := ite_f hb50 h
          refine a_cond_f rfl ?_
          refine a_skip ?_
          refine a_next (σ' := ⟨[(0, (.int .i64 a0)), (4, (.own 4 [] [])), (5, (.own 5 [] [])), (7, (eSi64 r15.1)), (8, (.int .i64 r15.2)), (9, (.osl 9)), (11, (.int .i64 r44.1))], [(4, some ⟨(eA64u8 a1), false⟩), (5, some ⟨(eA64u8 a2), false⟩), (9, some ⟨(.row 1 (r44.2.map (AV.int .i64))), false⟩)]⟩) rfl ?_
          refine a_seq ?_
          refine a_draw [⟨[], [], [], []⟩, ⟨[4], [], [], []⟩, ⟨[], [], [], [1]⟩, ⟨[5], [], [], []⟩, ⟨[], [], [], [1, 2, 3]⟩, ⟨[], [], [], [0, 1, 2, 3, 4]⟩, ⟨[], [], [], [0, 1, 2, 3, 4, 5]⟩, ⟨[], [], [], [0, 1, 2, 3, 4, 5, 6]⟩, ⟨[], [], [], [0, 1, 2, 3, 4, 5, 6]⟩, ⟨[], [], [], [0, 1, 2, 3, 4, 5, 6, 7]⟩, ⟨[], [], [], [0, 1, 2, 3, 4, 5, 6, 7, 8, 9]⟩] (by kernel_rfl) ?_
          refine d_cons ?_
          refine a_val (v := (.int .i64 a0)) (u := []) rfl trivial rfl ?_
          refine d_next rfl ?_
          refine d_cons ?_
          have hl59 : LdOk [] (eA64u8 a1) [] 64 true (eA64u8 a1) := (.nil rfl rfl rfl)
          refine a_val (v := (eA64u8 a1)) (u := []) (ld_own (i := ⟨.arr 64 5, 64, 64, (eA64u8 (vrep 64 (0 : Int)))⟩) rfl rfl rfl hl59) hl59.c rfl ?_
          refine d_next rfl ?_
          refine d_cons ?_
          obtain ⟨r60, hr61, h⟩ := bind_some h
          refine a_call (args := [(eA64u8 a1)]) (u := []) (r := (eA64u8 r60)) rfl rfl (laws_toPoly_ok a1 r60 hr61) rfl ?_
          refine d_next rfl ?_
          refine d_cons ?_
          have hl62 : LdOk [] (eA64u8 a2) [] 64 true (eA64u8 a2) := (.nil rfl rfl rfl)
          refine a_val (v := (eA64u8 a2)) (u := []) (ld_own (i := ⟨.arr 64 5, 64, 64, (eA64u8 (vrep 64 (0 : Int)))⟩) rfl rfl rfl hl62) hl62.c rfl ?_
          refine d_next rfl ?_
          refine d_cons ?_
          obtain ⟨r63, hr64, h⟩ := bind_some h
          refine a_call (args := [(eA64u8 a2)]) (u := []) (r := (eA64u8 r63)) rfl rfl (laws_toPoly_ok a2 r63 hr64) rfl ?_
          refine d_next rfl ?_
          refine d_cons ?_
          obtain ⟨r65, hr66, h⟩ := bind_some h
          refine a_call (args := [(.int .i64 a0), (eA64u8 r60), (eA64u8 r63)]) (u := []) (r := (.tuple [(eSi64 r65.1), (.int .i64 r65.2)])) rfl rfl (impl_DegreesOfPartials_ok a0 r60 r63 r65 hr66) rfl ?_
          refine d_next rfl ?_
          refine d_cons ?_
          refine a_val (v := (.tuple [(eSi64 r65.1), (.int .i64 r65.2)])) (u := []) rfl trivial rfl ?_
          refine d_next rfl ?_
          refine d_cons ?_
          refine a_val (v := (eSi64 r65.1)) (u := []) rfl (Nat.le_of_ble_eq_true rfl) rfl ?_
          refine d_next rfl ?_
          refine d_cons ?_
          refine a_val (v := (.int .i64 r65.2)) (u := []) rfl (Nat.le_of_ble_eq_true rfl) rfl ?_
          refine d_next rfl ?_
          refine d_cons ?_
          refine a_val (v := (eSi64 r65.1)) (u := []) rfl trivial rfl ?_
          refine d_next rfl ?_
          refine d_cons ?_
          refine a_val (v := (.int .i64 r65.2)) (u := []) rfl trivial rfl ?_
          refine d_next rfl ?_
          refine d_nil ?_
          refine a_next (σ' := ⟨[(7, (eSi64 r15.1)), (8, (.int .i64 r15.2)), (9, (.osl 9)), (11, (.int .i64 r44.1)), (13, (eSi64 r65.1)), (14, (.int .i64 r65.2))], [(9, some ⟨(.row 1 (r44.2.map (AV.int .i64))), false⟩)]⟩) rfl ?_
          refine a_seq ?_
          obtain ⟨y71, hy72, hk73⟩ := bind_some h
          clear h
          refine a_join (emb := fun (s : Bool) => ⟨[(9, (.osl 9)), (11, (.int .i64 r44.1)), (70, (.bool s))], [(9, some ⟨(.row 1 (r44.2.map (AV.int .i64))), false⟩)]⟩) (pre := fun s => s = y71) ?_ ?_
          · rintro x70 rfl
            have h := hk73
            refine a_st (σ' := ⟨[(9, (.osl 9)), (11, (.int .i64 r44.1)), (70, (.bool x70))], [(9, some ⟨(.row 1 (r44.2.map (AV.int .i64))), false⟩)]⟩) rfl ?_
            cases hb77 : x70
            · have h := ite_f hb77 h
              refine a_cond_f rfl ?_
              refine a_skip ?_
              refine a_next (σ' := ⟨[(9, (.osl 9)), (11, (.int .i64 r44.1))], [(9, some ⟨(.row 1 (r44.2.map (AV.int .i64))), false⟩)]⟩) rfl ?_
              refine a_seq ?_
              refine a_region ?_
              refine a_val (v := (.int .i64 1)) (u := []) rfl trivial rfl ?_
              refine a_nil ?_
              refine a_next (σ' := ⟨[(9, (.osl 9)), (11, (.int .i64 r44.1)), (12, (.int .i64 1))], [(9, some ⟨(.row 1 (r44.2.map (AV.int .i64))), false⟩)]⟩) rfl ?_
              refine a_seq ?_
              refine a_region ?_
              refine a_val (v := (.osl 9)) (u := []) rfl trivial rfl ?_
              refine a_val (v := (.int .i64 1)) (u := []) rfl trivial rfl ?_
              obtain ⟨r78, hr79, h⟩ := bind_some h
              refine a_callB (args := [(eSi64 r44.2), (.int .i64 1)]) (u := [(9, some ⟨(.row 1 (r44.2.map (AV.int .i64))), true⟩)]) (r := (.int .i64 r78)) rfl rfl (laws_heldInt64S_ok r44.2 1 r78 hr79) rfl trivial ?_
              refine a_val (v := (.int .i64 r78)) (u := []) rfl trivial rfl ?_
              refine a_nil ?_
              refine a_next (σ' := ⟨[(11, (.int .i64 r44.1)), (12, (.int .i64 r78))], []⟩) rfl ?_
              refine a_seq ?_
              refine a_seq ?_
              refine a_region ?_
              refine a_val (v := (.int .i64 r78)) (u := []) rfl trivial rfl ?_
              refine a_val (v := (.bool ((decide (r78 < 0))))) (u := []) rfl trivial rfl ?_
              refine a_nil ?_
              refine a_next (σ' := ⟨[(11, (.int .i64 r44.1)), (12, (.int .i64 r78)), (75, (.bool ((decide (r78 < 0)))))], []⟩) rfl ?_
              cases hb80 : (decide (r78 < 0))
              · have h := ite_f hb80 h
                refine a_cond_f rfl ?_
                refine a_skip ?_
                refine a_next (σ' := ⟨[(11, (.int .i64 r44.1)), (12, (.int .i64 r78))], []⟩) rfl ?_
                refine a_seq ?_
                refine a_seq ?_
                refine a_region ?_
                refine a_val (v := (.int .i64 r78)) (u := []) rfl trivial rfl ?_
                refine a_val (v := (.int .i64 r44.1)) (u := []) rfl trivial rfl ?_
                refine a_val (v := (.bool (r78 != r44.1))) (u := []) rfl trivial rfl ?_
                refine a_nil ?_
                refine a_next (σ' := ⟨[(78, (.bool (r78 != r44.1)))], []⟩) rfl ?_
                cases hb81 : (r78 != r44.1)
                · have h := ite_f hb81 h
                  refine a_cond_f rfl ?_
                  refine a_skip ?_
                  refine a_next (σ' := ⟨[], []⟩) rfl ?_
                  refine a_seq ?_
                  refine a_region ?_
                  refine a_val (v := (.bool true)) (u := []) rfl trivial rfl ?_
                  refine a_nil ?_
                  refine a_next rfl ?_
                  refine a_ret ?_
                  refine ⟨.inr rfl, ?_⟩
                  rw [Try.results14]
                  cases h
                  exact ⟨_, _, _, _, _, rfl, trivial, .inl ⟨rfl, .inl rfl⟩, rfl, rfl⟩
                · have h := ite_t hb81 h
                  refine a_cond_t rfl ?_
                  refine a_seq ?_
                  refine a_region ?_
                  refine a_val (v := (.bool false)) (u := []) rfl trivial rfl ?_
                  refine a_nil ?_
                  refine a_next rfl ?_
                  refine a_ret ?_
                  refine t_ret ?_
                  refine ⟨.inr rfl, ?_⟩
                  rw [Try.results14]
                  cases h
                  exact ⟨_, _, _, _, _, rfl, trivial, .inl ⟨rfl, .inl rfl⟩, rfl, rfl⟩
              · have h := ite_t hb80 h
                refine a_cond_t rfl ?_
                refine a_seq ?_
                refine a_region ?_
                refine a_val (v := (.bool false)) (u := []) rfl trivial rfl ?_
                refine a_nil ?_
                refine a_next rfl ?_
                refine a_ret ?_
                refine t_ret ?_
                refine ⟨.inr rfl, ?_⟩
                rw [Try.results14]
                cases h
                exact ⟨_, _, _, _, _, rfl, trivial, .inl ⟨rfl, .inl rfl⟩, rfl, rfl⟩
            · have h := ite_t hb77 h
              refine a_cond_t rfl ?_
              refine a_seq ?_
              refine a_region ?_
              refine a_val (v := (.bool false)) (u := []) rfl trivial rfl ?_
              refine a_nil ?_
              refine a_next rfl ?_
              refine a_ret ?_
              refine t_ret ?_
              refine ⟨.inr rfl, ?_⟩
              rw [Try.results14]
              cases h
              exact ⟨_, _, _, _, _, rfl, trivial, .inl ⟨rfl, .inl rfl⟩, rfl, rfl⟩
          · have h := hy72
            refine a_region ?_
            refine a_val (v := (eSi64 r65.1)) (u := []) rfl trivial rfl ?_
            refine a_val (v := (eSi64 r15.1)) (u := []) rfl trivial rfl ?_
            obtain ⟨r74, hr75, h⟩ := bind_some h
            refine a_call (args := [(eSi64 r65.1), (eSi64 r15.1)]) (u := []) (r := (.bool r74)) rfl rfl (laws_eqInt64S_ok r65.1 r15.1 r74 hr75) rfl ?_
            refine a_val (v := (.bool (!r74))) (u := []) rfl trivial rfl ?_
            refine a_val (v := (.bool (!r74))) (u := []) rfl trivial rfl ?_
            cases hb76 : (!r74)
            · have h := ite_f hb76 h
              refine a_gval rfl (v := (.int .i64 r65.2)) (u := []) rfl trivial rfl ?_
              refine a_gval rfl (v := (.int .i64 r15.2)) (u := []) rfl trivial rfl ?_
              refine a_gval rfl (v := (.bool (r65.2 != r15.2))) (u := []) rfl trivial rfl ?_
              refine a_val (v := (.bool (r65.2 != r15.2))) (u := []) rfl trivial rfl ?_
              refine a_nil ?_
              exact j_leaf (r65.2 != r15.2) (Option.some.inj h) rfl
            · have h := ite_t hb76 h
              refine a_gskip rfl ?_
              refine a_gskip rfl ?_
              refine a_gskip rfl ?_
              refine a_val (v := (.bool true)) (u := []) rfl trivial rfl ?_
              refine a_nil ?_
              exact j_leaf true (Option.some.inj h) rfl
        · have h := ite_t hb50 h
          refine a_cond_t rfl ?_
          refine a_seq ?_
          refine a_region ?_
          refine a_val (v := (.bool false)) (u := []) rfl trivial rfl ?_
          refine a_nil ?_
          refine a_next rfl ?_
          refine a_ret ?_
          refine t_ret ?_
          refine ⟨.inr rfl, ?_⟩
          rw [Try.results14]
          cases h
          exact ⟨_, _, _, _, _, rfl, trivial, .inl ⟨rfl, .inl rfl⟩, rfl, rfl⟩
      · have h := ite_t hb49 h
        refine a_cond_t rfl ?_
        refine a_seq ?_
        refine a_region ?_
        refine a_val (v := (.bool false)) (u := []) rfl trivial rfl ?_
        refine a_nil ?_
        refine a_next rfl ?_
        refine a_ret ?_
        refine t_ret ?_
        refine ⟨.inr rfl, ?_⟩
        rw [Try.results14]
        cases h
        exact ⟨_, _, _, _, _, rfl, trivial, .inl ⟨rfl, .inl rfl⟩, rfl, rfl⟩
    · have h := ite_t hb43 h
      refine a_cond_t rfl ?_
      refine a_seq ?_
      refine a_region ?_
      refine a_val (v := (.bool false)) (u := []) rfl trivial rfl ?_
      refine a_nil ?_
      refine a_next rfl ?_
      refine a_ret ?_
      refine t_ret ?_
      refine ⟨.inr rfl, ?_⟩
      rw [Try.results14]
      cases h
      exact ⟨_, _, _, _, _, rfl, trivial, .inl ⟨rfl, .inl rfl⟩, rfl, rfl⟩
  · have h := hy38
    refine a_region ?_
    refine a_val (v := (.osl 9)) (u := []) rfl trivial rfl ?_
    refine a_val (v := (eSi64 r15.1)) (u := []) rfl trivial rfl ?_
    obtain ⟨r40, hr41, h⟩ := bind_some h
    refine a_callB (args := [(eSi64 r31.1), (eSi64 r15.1)]) (u := [(9, some ⟨(.row 1 (r31.1.map (AV.int .i64))), true⟩)]) (r := (.bool r40)) rfl rfl (laws_eqInt64S_ok r31.1 r15.1 r40 hr41) rfl trivial ?_
    refine a_val (v := (.bool (!r40))) (u := []) rfl trivial rfl ?_
    refine a_val (v := (.bool (!r40))) (u := []) rfl trivial rfl ?_
    cases hb42 : (!r40)
    · have h := ite_f hb42 h
      refine a_gval rfl (v := (.int .i64 r31.2)) (u := []) rfl trivial rfl ?_
      refine a_gval rfl (v := (.int .i64 r15.2)) (u := []) rfl trivial rfl ?_
      refine a_gval rfl (v := (.bool (r31.2 != r15.2))) (u := []) rfl trivial rfl ?_
      refine a_val (v := (.bool (r31.2 != r15.2))) (u := []) rfl trivial rfl ?_
      refine a_nil ?_
      exact j_leaf (r31.2 != r15.2) (Option.some.inj h) rfl
    · have h := ite_t hb42 h
      refine a_gskip rfl ?_
      refine a_gskip rfl ?_
      refine a_gskip rfl ?_
      refine a_val (v := (.bool true)) (u := []) rfl trivial rfl ?_
      refine a_nil ?_
      exact j_leaf true (Option.some.inj h) rfl
def impl_row_at_c : ACode := (.seq (.region 0 [⟨some 4, .asg 0 (.const (.int .i64 0)) 2, none, []⟩] false) (.seq (.seq (.region 1 [⟨some 5, .mov (.tmp 1), none, []⟩, ⟨some 6, .mov (.tmp 0), none, []⟩, ⟨some 7, .blt 0 .len [(.tmp 6)] [66], none, []⟩, ⟨some 8, .bin .lss 3 (.tmp 5) (.tmp 7), none, []⟩] false) (.cond (.tmp 8) (.seq (.region 2 [⟨some 9, .mov (.tmp 0), none, []⟩, ⟨some 10, .mov (.tmp 1), none, []⟩, ⟨some 11, .indexAddr 66 (.tmp 9) (.tmp 10), none, []⟩, ⟨some 12, .load 2 (.tmp 11), none, []⟩, ⟨some 4, .asg 0 (.tmp 12) 2, none, []⟩] false) .ret) .skip)) (.seq (.region 3 [⟨some 4, .asg 0 (.const (.int .i64 0)) 2, none, []⟩] false) .ret)))
def impl_row_at_L : Live := [(0, [0, 1]), (1, [0, 1]), (2, [0, 1]), (3, []), (100008, [0, 1, 8])]
theorem impl_row_at_body : Try.f121.body = some (Try.f121.body.getD .skip) := by kernel_rfl
theorem impl_row_at_strip : strip [] (Try.f121.body.getD .skip) = impl_row_at_c := by kernel_rfl
noncomputable def impl_row_at (a0 : (List Int)) (a1 : Int) : Option Int :=
  (if (decide (a1 < (a0.length : Int))) then (ifp (0 ≤ a1 ∧ a1 < ((a0.length : Nat) : Int)) ((some (rd a0 a1.toNat)))) else (some 0))
set_option maxHeartbeats 16000000 in
theorem impl_row_at_ok (a0 : (List Int)) (a1 : Int) (r : Int) (h : impl_row_at a0 a1 = some r) : Den Try.prog 121 [(eSi64 a0), (.int .i64 a1)] { r := (.int .i64 r) } := by
  refine den_of (rs := [(.int .i64 r)]) (ac := impl_row_at_c) (L := impl_row_at_L) (n := 13) (m := []) good Try.func121 impl_row_at_body (by kernel_rfl) Try.ntmps121 rfl rfl impl_row_at_strip rfl rfl ?_
  refine a_st (σ' := ⟨[(0, (eSi64 a0)), (1, (.int .i64 a1))], []⟩) rfl ?_
  unfold impl_row_at_c
  refine a_seq ?_
  refine a_region ?_
  refine a_val (v := (.int .i64 0)) (u := []) rfl trivial rfl ?_
  refine a_nil ?_
  refine a_next (σ' := ⟨[(0, (eSi64 a0)), (1, (.int .i64 a1))], []⟩) rfl ?_
  refine a_seq ?_
  refine a_seq ?_
  refine a_region ?_
  refine a_val (v := (.int .i64 a1)) (u := []) rfl trivial rfl ?_
  refine a_val (v := (eSi64 a0)) (u := []) rfl trivial rfl ?_
  refine a_val (v := (.int .i64 (a0.length : Int))) (u := []) (len_run rfl rfl) trivial rfl ?_
  refine a_val (v := (.bool ((decide (a1 < (a0.length : Int)))))) (u := []) rfl trivial rfl ?_
  refine a_nil ?_
  refine a_next (σ' := ⟨[(0, (eSi64 a0)), (1, (.int .i64 a1)), (8, (.bool ((decide (a1 < (a0.length : Int))))))], []⟩) rfl ?_
  cases hb1 : (decide (a1 < (a0.length : Int)))
  · have h := ite_f hb1 h
    refine a_cond_f rfl ?_
    refine a_skip ?_
    refine a_next (σ' := ⟨[], []⟩) rfl ?_
    refine a_seq ?_
    refine a_region ?_
    refine a_val (v := (.int .i64 0)) (u := []) rfl trivial rfl ?_
    refine a_nil ?_
    refine a_next rfl ?_
    refine a_ret ?_
    refine ⟨.inr rfl, ?_⟩
    rw [Try.results121]
    cases h
    exact ⟨_, _, _, _, _, rfl, trivial, .inl ⟨rfl, .inl rfl⟩, rfl, rfl⟩
  · have h := ite_t hb1 h
    refine a_cond_t rfl ?_
    refine a_seq ?_
    refine a_region ?_
    refine a_val (v := (eSi64 a0)) (u := []) rfl trivial rfl ?_
    refine a_val (v := (.int .i64 a1)) (u := []) rfl trivial rfl ?_
    obtain ⟨hc2, h⟩ := ifp_some h
    refine a_val (v := (.ref (.row 1 (a0.map (AV.int .i64))) [a1.toNat] [a1.toNat * 1])) (u := []) rfl (lmap hc2) rfl ?_
    have hl3 : LdOk [a1.toNat] (.row 1 (a0.map (AV.int .i64))) [a1.toNat * 1] 1 false (.int .i64 (rd a0 a1.toNat)) := (.row (llt hc2) rfl (.nil rfl rfl rfl))
    refine a_val (v := (.int .i64 (rd a0 a1.toNat))) (u := []) (ld_ref (i := ⟨.int .i64, 1, 8, (.int .i64 0)⟩) rfl rfl hl3) hl3.c rfl ?_
    refine a_val (v := (.int .i64 (rd a0 a1.toNat))) (u := []) rfl trivial rfl ?_
    refine a_nil ?_
    refine a_next rfl ?_
    refine a_ret ?_
    refine t_ret ?_
    refine ⟨.inr rfl, ?_⟩
    rw [Try.results121]
    cases h
    exact ⟨_, _, _, _, _, rfl, trivial, .inl ⟨rfl, .inl rfl⟩, rfl, rfl⟩
def impl_prime_combine_c : ACode := (.seq (.region 0 [⟨some 8, .asg 1 (.const (.slice none 0 0)) 66, none, []⟩] false) (.seq (.region 1 [⟨some 11, .mov (.tmp 1), none, []⟩, ⟨some 12, .blt 0 .len [(.tmp 11)] [66], none, []⟩, ⟨some 13, .mov (.tmp 2), none, []⟩, ⟨some 14, .blt 0 .len [(.tmp 13)] [66], none, []⟩, ⟨some 15, .blt 0 .max [(.tmp 12), (.tmp 14)] [3, 3], none, []⟩, ⟨some 16, .mkslice 66 (.tmp 15) (.tmp 15), none, []⟩, ⟨some 9, .asg 2 (.tmp 16) 66, none, []⟩] false) (.seq (.seq (.region 2 [⟨some 17, .mov (.tmp 9), none, []⟩, ⟨some 18, .blt 0 .len [(.tmp 17)] [66], none, []⟩, ⟨some 19, .mov (.const (.int .i64 0)), none, []⟩] false) (.block 0 (.loop (.seq (.region 3 [⟨some 20, .bin .lss 3 (.tmp 19) (.tmp 18), none, []⟩] false) (.seq (.cond (.tmp 20) .skip (.exit 0)) (.seq (.block 1 (.seq (.region 4 [⟨some 21, .mov (.tmp 19), none, []⟩, ⟨some 10, .asg 0 (.tmp 21) 3, none, []⟩] false) (.region 5 [⟨some 22, .mov (.tmp 9), none, []⟩, ⟨some 23, .mov (.tmp 10), none, []⟩, ⟨some 24, .mov (.tmp 0), none, []⟩, ⟨some 25, .mov (.tmp 1), none, []⟩, ⟨some 26, .mov (.tmp 10), none, []⟩, ⟨some 27, .call 0 (.func 121) [(.tmp 25), (.tmp 26)], none, []⟩, ⟨some 28, .mov (.tmp 3), none, []⟩, ⟨some 29, .mov (.tmp 2), none, []⟩, ⟨some 30, .mov (.tmp 10), none, []⟩, ⟨some 31, .call 0 (.func 121) [(.tmp 29), (.tmp 30)], none, []⟩, ⟨some 32, .bin .mul 2 (.tmp 28) (.tmp 31), none, []⟩, ⟨some 33, .bin .add 2 (.tmp 27) (.tmp 32), none, []⟩, ⟨some 34, .call 0 (.func 110) [(.tmp 24), (.tmp 33)], none, []⟩, ⟨some 35, .indexAddr 66 (.tmp 22) (.tmp 23), none, []⟩, ⟨none, .store 2 (.tmp 35) (.tmp 34), none, []⟩] false))) (.region 6 [⟨some 36, .bin .add 3 (.tmp 19) (.const (.int .i64 1)), none, []⟩, ⟨some 19, .mov (.tmp 36), none, []⟩] false))))))) (.seq (.region 7 [⟨some 37, .mov (.tmp 9), none, []⟩, ⟨some 38, .call 0 (.func 111) [(.tmp 37)], none, []⟩, ⟨some 8, .asg 1 (.tmp 38) 66, none, []⟩] false) .ret))))
def impl_prime_combine_L : Live := [(0, [0, 1, 2, 3]), (1, [0, 1, 2, 3]), (2, [0, 1, 2, 3, 9]), (3, [0, 1, 2, 3, 9, 18, 19]), (4, [0, 1, 2, 3, 9, 18, 19]), (5, [0, 1, 2, 3, 9, 10, 18, 19]), (6, [0, 1, 2, 3, 9, 18, 19]), (7, [9]), (100020, [0, 1, 2, 3, 9, 18, 19, 20])]
theorem impl_prime_combine_body : Try.f125.body = some (Try.f125.body.getD .skip) := by kernel_rfl
theorem impl_prime_combine_strip : strip [(8, 1), (9, 2)] (Try.f125.body.getD .skip) = impl_prime_combine_c := by kernel_rfl
noncomputable def impl_prime_combine_l1 (x1 : Int) (a1 : (List Int)) (a2 : (List Int)) (a0 : Int) (a3 : Int) (x58 : Int) (x59 : (List Int)) : Option ((Int × (List Int)) ⊕ (List Int)) :=
  (letp ((decide (x58 < (((List.replicate x1.toNat (0 : Int)).length : Int))))) fun x74 => (if x74 then (Option.bind (impl_row_at a1 x58) fun r77 => (Option.bind (impl_row_at a2 x58) fun r79 => (Option.bind (impl_prime_reduce a0 (IntKind.i64.wrap (r77 + (IntKind.i64.wrap (a3 * r79))))) fun r81 => (ifp (0 ≤ x58 ∧ x58 < ((x59.length : Nat) : Int)) ((some (.inl ((IntKind.i64.wrap (x58 + 1), (x59.set x58.toNat r81)))))))))) else (some (.inr x59))))
noncomputable def impl_prime_combine (a0 : Int) (a1 : (List Int)) (a2 : (List Int)) (a3 : Int) : Option (List Int) :=
  (letp ((if (a2.length : Int) > (a1.length : Int) then (a2.length : Int) else (a1.length : Int))) fun x1 => (ifp (0 ≤ x1 ∧ x1 ≤ 140737488355328 ∧ 8 * x1 ≤ 140737488355328) ((Option.bind (α := (List Int)) ((loopM (fun s : (Int × (List Int)) => impl_prime_combine_l1 x1 a1 a2 a0 a3 s.1 s.2) (0, List.replicate x1.toNat (0 : Int)))) fun x43 => (Option.bind (impl_row_trimmed x43) fun r86 => (some r86))))))
set_option maxHeartbeats 16000000 in
theorem impl_prime_combine_ok (a0 : Int) (a1 : (List Int)) (a2 : (List Int)) (a3 : Int) (r : (List Int)) (h : impl_prime_combine a0 a1 a2 a3 = some r) : Den Try.prog 125 [(.int .i64 a0), (eSi64 a1), (eSi64 a2), (.int .i64 a3)] { r := (eSi64 r) } := by
  refine den_of (rs := [(eSi64 r)]) (ac := impl_prime_combine_c) (L := impl_prime_combine_L) (n := 39) (m := [(8, 1), (9, 2)]) good Try.func125 impl_prime_combine_body (by kernel_rfl) Try.ntmps125 rfl rfl impl_prime_combine_strip rfl rfl ?_
  refine a_st (σ' := ⟨[(0, (.int .i64 a0)), (1, (eSi64 a1)), (2, (eSi64 a2)), (3, (.int .i64 a3))], []⟩) rfl ?_
  unfold impl_prime_combine_c
  refine a_seq ?_
  refine a_region ?_
  refine a_val (v := (eSi64 ([]))) (u := []) rfl trivial rfl ?_
  refine a_nil ?_
  refine a_next (σ' := ⟨[(0, (.int .i64 a0)), (1, (eSi64 a1)), (2, (eSi64 a2)), (3, (.int .i64 a3))], []⟩) rfl ?_
  refine a_seq ?_
  refine a_region ?_
  refine a_val (v := (eSi64 a1)) (u := []) rfl trivial rfl ?_
  refine a_val (v := (.int .i64 (a1.length : Int))) (u := []) (len_run rfl rfl) trivial rfl ?_
  refine a_val (v := (eSi64 a2)) (u := []) rfl trivial rfl ?_
  refine a_val (v := (.int .i64 (a2.length : Int))) (u := []) (len_run rfl rfl) trivial rfl ?_
  obtain ⟨x1, hx2, h⟩ := letp_some h
  refine a_val' (v := (.int .i64 ((if (a2.length : Int) > (a1.length : Int) then (a2.length : Int) else (a1.length : Int))))) (v' := (.int .i64 x1)) (u := []) (u' := []) rfl (congrArg (fun z => ((.int .i64 z) : AV)) hx2) rfl trivial rfl ?_
  obtain ⟨hc3, h⟩ := ifp_some h
  refine a_val (v := (.osl 2600)) (u := [(2600, some ⟨(.row 1 ((List.replicate x1.toNat (0 : Int)).map (AV.int .i64))), false⟩)]) (mk_run (i := ⟨.int .i64, 1, 8, (.int .i64 0)⟩) (f := (AV.int .i64)) (y := (0 : Int)) rfl rfl rfl rfl rfl rfl) ⟨rfl, hc3.1, hc3.2.1, hc3.2.2, (Nat.le_of_ble_eq_true rfl)⟩ rfl ?_
  refine a_val (v := (.osl 2600)) (u := []) rfl trivial rfl ?_
  refine a_nil ?_
  refine a_next (σ' := ⟨[(0, (.int .i64 a0)), (1, (eSi64 a1)), (2, (eSi64 a2)), (3, (.int .i64 a3)), (9, (.osl 9))], [(9, some ⟨(.row 1 ((List.replicate x1.toNat (0 : Int)).map (AV.int .i64))), false⟩)]⟩) rfl ?_
  obtain ⟨y44, hy45, hk46⟩ := bind_some h
  clear h
  refine a_join (emb := fun (s : (List Int)) => ⟨[(9, (.osl 9))], [(9, some ⟨(.row 1 (s.map (AV.int .i64))), false⟩)]⟩) (pre := fun s => s = y44) ?_ ?_
  · rintro x43 rfl
    have h := hk46
    refine a_st (σ' := ⟨[(9, (.osl 9))], [(9, some ⟨(.row 1 (x43.map (AV.int .i64))), false⟩)]⟩) rfl ?_
    refine a_seq ?_
    refine a_region ?_
    refine a_val (v := (.osl 9)) (u := []) rfl trivial rfl ?_
    obtain ⟨r86, hr87, h⟩ := bind_some h
    refine a_call (args := [(eSi64 x43)]) (u := [(9, some ⟨(.row 1 (x43.map (AV.int .i64))), true⟩)]) (r := (eSi64 r86)) rfl rfl (impl_row_trimmed_ok x43 r86 hr87) rfl ?_
    refine a_val (v := (eSi64 r86)) (u := []) rfl trivial rfl ?_
    refine a_nil ?_
    refine a_next rfl ?_
    refine a_ret ?_
    refine ⟨.inr rfl, ?_⟩
    rw [Try.results125]
    cases h
    exact ⟨_, _, _, _, _, rfl, trivial, .inl ⟨rfl, .inl rfl⟩, rfl, rfl⟩
  · have h := hy45
    refine a_seq ?_
    refine a_region ?_
    refine a_val (v := (.osl 9)) (u := []) rfl trivial rfl ?_
    refine a_val (v := (.int .i64 (((List.replicate x1.toNat (0 : Int)).length : Int)))) (u := []) (leno_run rfl rfl rfl) trivial rfl ?_
    refine a_val (v := (.int .i64 0)) (u := []) rfl trivial rfl ?_
    refine a_nil ?_
    refine a_next (σ' := ⟨[(0, (.int .i64 a0)), (1, (eSi64 a1)), (2, (eSi64 a2)), (3, (.int .i64 a3)), (9, (.osl 9)), (18, (.int .i64 (((List.replicate x1.toNat (0 : Int)).length : Int)))), (19, (.int .i64 0))], [(9, some ⟨(.row 1 ((List.replicate x1.toNat (0 : Int)).map (AV.int .i64))), false⟩)]⟩) rfl ?_
    refine a_block ?_
    refine a_loop (emb := fun (s : (Int × (List Int))) => ⟨[(0, (.int .i64 a0)), (1, (eSi64 a1)), (2, (eSi64 a2)), (3, (.int .i64 a3)), (9, (.osl 9)), (18, (.int .i64 (((List.replicate x1.toNat (0 : Int)).length : Int)))), (19, (.int .i64 s.1))], [(9, some ⟨(.row 1 (s.2.map (AV.int .i64))), false⟩)]⟩) (body := (fun s : (Int × (List Int)) => impl_prime_combine_l1 x1 a1 a2 a0 a3 s.1 s.2)) (G := fun q => some q = some y44) h rfl ?_ rfl
    rintro X71 ⟨x58, x59⟩ x72 h hX73
    have h : impl_prime_combine_l1 x1 a1 a2 a0 a3 x58 x59 = some x72 := h
    refine a_st (σ' := ⟨[(0, (.int .i64 a0)), (1, (eSi64 a1)), (2, (eSi64 a2)), (3, (.int .i64 a3)), (9, (.osl 9)), (18, (.int .i64 (((List.replicate x1.toNat (0 : Int)).length : Int)))), (19, (.int .i64 x58))], [(9, some ⟨(.row 1 (x59.map (AV.int .i64))), false⟩)]⟩) rfl ?_
    refine a_seq ?_
    refine a_region ?_
    obtain ⟨x74, hx75, h⟩ := letp_some h
    refine a_val' (v := (.bool ((decide (x58 < (((List.replicate x1.toNat (0 : Int)).length : Int))))))) (v' := (.bool x74)) (u := []) (u' := []) rfl (congrArg (fun z => ((.bool z) : AV)) hx75) rfl trivial rfl ?_
    refine a_nil ?_
    refine a_next (σ' := ⟨[(0, (.int .i64 a0)), (1, (eSi64 a1)), (2, (eSi64 a2)), (3, (.int .i64 a3)), (9, (.osl 9)), (18, (.int .i64 (((List.replicate x1.toNat (0 : Int)).length : Int)))), (19, (.int .i64 x58)), (20, (.bool x74))], [(9, some ⟨(.row 1 (x59.map (AV.int .i64))), false⟩)]⟩) rfl ?_
    refine a_seq ?_
    cases hb76 : x74
    · have h := ite_f hb76 h
      refine a_cond_f rfl ?_
      refine a_exit ?_
      refine t_exit ?_
      cases h
      have h := hX73
      refine t_exit ?_
      refine b_exit ?_
      exact j_leaf x59 (Option.some.inj h) rfl
    · have h := ite_t hb76 h
      refine a_cond_t rfl ?_
      refine a_skip ?_
      refine a_next (σ' := ⟨[(0, (.int .i64 a0)), (1, (eSi64 a1)), (2, (eSi64 a2)), (3, (.int .i64 a3)), (9, (.osl 9)), (18, (.int .i64 (((List.replicate x1.toNat (0 : Int)).length : Int)))), (19, (.int .i64 x58))], [(9, some ⟨(.row 1 (x59.map (AV.int .i64))), false⟩)]⟩) rfl ?_
      refine a_seq ?_
      refine a_block ?_
      refine a_seq ?_
      refine a_region ?_
      refine a_val (v := (.int .i64 x58)) (u := []) rfl trivial rfl ?_
      refine a_val (v := (.int .i64 x58)) (u := []) rfl trivial rfl ?_
      refine a_nil ?_
      refine a_next (σ' := ⟨[(0, (.int .i64 a0)), (1, (eSi64 a1)), (2, (eSi64 a2)), (3, (.int .i64 a3)), (9, (.osl 9)), (10, (.int .i64 x58)), (18, (.int .i64 (((List.replicate x1.toNat (0 : Int)).length : Int)))), (19, (.int .i64 x58))], [(9, some ⟨(.row 1 (x59.map (AV.int .i64))), false⟩)]⟩) rfl ?_
      refine a_region ?_
      refine a_val (v := (.osl 9)) (u := []) rfl trivial rfl ?_
      refine a_val (v := (.int .i64 x58)) (u := []) rfl trivial rfl ?_
      refine a_val (v := (.int .i64 a0)) (u := []) rfl trivial rfl ?_
      refine a_val (v := (eSi64 a1)) (u := []) rfl trivial rfl ?_
      refine a_val (v := (.int .i64 x58)) (u := []) rfl trivial rfl ?_
      obtain ⟨r77, hr78, h⟩ := bind_some h
      refine a_call (args := [(eSi64 a1), (.int .i64 x58)]) (u := []) (r := (.int .i64 r77)) rfl rfl (impl_row_at_ok a1 x58 r77 hr78) rfl ?_
      refine a_val (v := (.int .i64 a3)) (u := []) rfl trivial rfl ?_
      refine a_val (v := (eSi64 a2)) (u := []) rfl trivial rfl ?_
      refine a_val (v := (.int .i64 x58)) (u := []) rfl trivial rfl ?_
      obtain ⟨r79, hr80, h⟩ := bind_some h
      refine a_call (args := [(eSi64 a2), (.int .i64 x58)]) (u := []) (r := (.int .i64 r79)) rfl rfl (impl_row_at_ok a2 x58 r79 hr80) rfl ?_
      refine a_val (v := (.int .i64 (IntKind.i64.wrap (a3 * r79)))) (u := []) rfl trivial rfl ?_
      refine a_val (v := (.int .i64 (IntKind.i64.wrap (r77 + (IntKind.i64.wrap (a3 * r79)))))) (u := []) rfl trivial rfl ?_
      obtain ⟨r81, hr82, h⟩ := bind_some h
      refine a_call (args := [(.int .i64 a0), (.int .i64 (IntKind.i64.wrap (r77 + (IntKind.i64.wrap (a3 * r79)))))]) (u := []) (r := (.int .i64 r81)) rfl rfl (impl_prime_reduce_ok a0 (IntKind.i64.wrap (r77 + (IntKind.i64.wrap (a3 * r79)))) r81 hr82) rfl ?_
      obtain ⟨hc83, h⟩ := ifp_some h
      refine a_val (v := (.own 9 [x58.toNat] [x58.toNat * 1])) (u := []) rfl (lmap hc83) rfl ?_
      have hs84 : StOk [x58.toNat] (.row 1 (x59.map (AV.int .i64))) [x58.toNat * 1] 1 (.int .i64 r81) (.row 1 ((x59.set x58.toNat r81).map (AV.int .i64))) := (.row (y := r81) (llt hc83) rfl (.nil rfl rfl rfl rfl))
      refine a_val (v := .top) (u := [(9, some ⟨(.row 1 ((x59.set x58.toNat r81).map (AV.int .i64))), false⟩)]) (st_own (i := ⟨.int .i64, 1, 8, (.int .i64 0)⟩) rfl rfl (fun _ => rfl) rfl hs84) (hs84.c rfl) rfl ?_
      refine a_nil ?_
      refine b_norm ?_
      refine a_next (σ' := ⟨[(0, (.int .i64 a0)), (1, (eSi64 a1)), (2, (eSi64 a2)), (3, (.int .i64 a3)), (9, (.osl 9)), (18, (.int .i64 (((List.replicate x1.toNat (0 : Int)).length : Int)))), (19, (.int .i64 x58))], [(9, some ⟨(.row 1 ((x59.set x58.toNat r81).map (AV.int .i64))), false⟩)]⟩) rfl ?_
      refine a_region ?_
      refine a_val (v := (.int .i64 (IntKind.i64.wrap (x58 + 1)))) (u := []) rfl trivial rfl ?_
      refine a_val (v := (.int .i64 (IntKind.i64.wrap (x58 + 1)))) (u := []) rfl trivial rfl ?_
      refine a_nil ?_
      cases h
      exact a_again rfl hX73
def impl_IsPoly_c : ACode := (.seq (.region 0 [⟨some 3, .box 23 (.tmp 1), none, []⟩, ⟨some 4, .asg 0 (.const (.bool false)) 4, none, []⟩] false) (.seq (.region 1 [⟨some 5, .mov (.tmp 0), none, []⟩, ⟨some 6, .call 0 (.func 59) [(.tmp 5)], none, []⟩, ⟨some 7, .mov (.tmp 6), none, []⟩, ⟨some 8, .mov (.tmp 0), some (7, true), []⟩, ⟨some 9, .load 23 (.tmp 3), some (7, true), []⟩, ⟨some 10, .call 0 (.func 106) [(.tmp 8), (.tmp 9)], some (7, true), []⟩, ⟨some 11, .pick (.tmp 7) (.tmp 10) (.const (.bool false)), none, []⟩, ⟨some 4, .asg 0 (.tmp 11) 4, none, []⟩] false) .ret))
def impl_IsPoly_L : Live := [(0, [0, 1]), (1, [0, 3])]
theorem impl_IsPoly_body : Try.f63.body = some (Try.f63.body.getD .skip) := by kernel_rfl
theorem impl_IsPoly_strip : strip [] (Try.f63.body.getD .skip) = impl_IsPoly_c := by kernel_rfl
noncomputable def impl_IsPoly (a0 : Int) (a1 : (Vec Int 64)) : Option Bool :=
  (Option.bind (impl_isPrime a0) fun r1 => (if r1 then (Option.bind (impl_isPoly a0 a1) fun r5 => (some r5)) else (some false)))
set_option maxHeartbeats 16000000 in
theorem impl_IsPoly_ok (a0 : Int) (a1 : (Vec Int 64)) (r : Bool) (h : impl_IsPoly a0 a1 = some r) : Den Try.prog 63 [(.int .i64 a0), (eA64u8 a1)] { r := (.bool r) } := by
  refine den_of (rs := [(.bool r)]) (ac := impl_IsPoly_c) (L := impl_IsPoly_L) (n := 12) (m := []) good Try.func63 impl_IsPoly_body (by kernel_rfl) Try.ntmps63 rfl rfl impl_IsPoly_strip rfl rfl ?_
  refine a_st (σ' := ⟨[(0, (.int .i64 a0)), (1, (eA64u8 a1))], []⟩) rfl ?_
  unfold impl_IsPoly_c
  refine a_seq ?_
  refine a_region ?_
  refine a_val (v := (.own 1300 [] [])) (u := [(1300, some ⟨(eA64u8 a1), false⟩)]) rfl trivial rfl ?_
  refine a_val (v := (.bool false)) (u := []) rfl trivial rfl ?_
  refine a_nil ?_
  refine a_next (σ' := ⟨[(0, (.int .i64 a0)), (3, (.own 3 [] []))], [(3, some ⟨(eA64u8 a1), false⟩)]⟩) rfl ?_
  refine a_seq ?_
  refine a_region ?_
  refine a_val (v := (.int .i64 a0)) (u := []) rfl trivial rfl ?_
  obtain ⟨r1, hr2, h⟩ := bind_some h
  refine a_call (args := [(.int .i64 a0)]) (u := []) (r := (.bool r1)) rfl rfl (impl_isPrime_ok a0 r1 hr2) rfl ?_
  refine a_val (v := (.bool r1)) (u := []) rfl trivial rfl ?_
  cases hb3 : r1
  · have h := ite_f hb3 h
    refine a_gskip rfl ?_
    refine a_gskip rfl ?_
    refine a_gskip rfl ?_
    refine a_val (v := (.bool false)) (u := []) rfl trivial rfl ?_
    refine a_val (v := (.bool false)) (u := []) rfl trivial rfl ?_
    refine a_nil ?_
    refine a_next rfl ?_
    refine a_ret ?_
    refine ⟨.inr rfl, ?_⟩
    rw [Try.results63]
    cases h
    exact ⟨_, _, _, _, _, rfl, trivial, .inl ⟨rfl, .inl rfl⟩, rfl, rfl⟩
  · have h := ite_t hb3 h
    refine a_gval rfl (v := (.int .i64 a0)) (u := []) rfl trivial rfl ?_
    have hl4 : LdOk [] (eA64u8 a1) [] 64 true (eA64u8 a1) := (.nil rfl rfl rfl)
    refine a_gval rfl (v := (eA64u8 a1)) (u := []) (ld_own (i := ⟨.arr 64 5, 64, 64, (eA64u8 (vrep 64 (0 : Int)))⟩) rfl rfl rfl hl4) hl4.c rfl ?_
    obtain ⟨r5, hr6, h⟩ := bind_some h
    refine a_gcall rfl (args := [(.int .i64 a0), (eA64u8 a1)]) (u := []) (r := (.bool r5)) rfl rfl (impl_isPoly_ok a0 a1 r5 hr6) rfl ?_
    refine a_val (v := (.bool r5)) (u := []) rfl trivial rfl ?_
    refine a_val (v := (.bool r5)) (u := []) rfl trivial rfl ?_
    refine a_nil ?_
    refine a_next rfl ?_
    refine a_ret ?_
    refine ⟨.inr rfl, ?_⟩
    rw [Try.results63]
    cases h
    exact ⟨_, _, _, _, _, rfl, trivial, .inl ⟨rfl, .inl rfl⟩, rfl, rfl⟩
def spec_l01Monic_c : ACode := (.seq (.region 0 [⟨some 1, .box 23 (.tmp 0), none, []⟩, ⟨some 2, .asg 0 (.const (.bool false)) 4, none, []⟩] false) (.seq (.region 1 [⟨some 4, .load 23 (.tmp 1), none, []⟩, ⟨some 5, .call 0 (.func 71) [(.tmp 4)], none, []⟩, ⟨some 3, .asg 0 (.tmp 5) 2, none, []⟩] false) (.seq (.region 2 [⟨some 6, .mov (.tmp 3), none, []⟩, ⟨some 7, .bin .geq 2 (.tmp 6) (.const (.int .i64 0)), none, []⟩, ⟨some 8, .mov (.tmp 7), none, []⟩, ⟨some 9, .mov (.tmp 3), some (8, true), []⟩, ⟨some 10, .indexAddr 23 (.tmp 1) (.tmp 9), some (8, true), []⟩, ⟨some 11, .load 5 (.tmp 10), some (8, true), []⟩, ⟨some 12, .bin .eql 5 (.tmp 11) (.const (.int .u8 1)), some (8, true), []⟩, ⟨some 13, .pick (.tmp 8) (.tmp 12) (.const (.bool false)), none, []⟩, ⟨some 2, .asg 0 (.tmp 13) 4, none, []⟩] false) .ret)))
def spec_l01Monic_L : Live := [(0, [0]), (1, [1]), (2, [1, 3])]
theorem spec_l01Monic_body : Try.f105.body = some (Try.f105.body.getD .skip) := by kernel_rfl
theorem spec_l01Monic_strip : strip [] (Try.f105.body.getD .skip) = spec_l01Monic_c := by kernel_rfl
noncomputable def spec_l01Monic (a0 : (Vec Int 64)) : Option Bool :=
  (Option.bind (spec_l01Deg a0) fun r2 => (if (decide (r2 ≥ 0)) then (ifp (0 ≤ r2 ∧ r2 < ((64 : Nat) : Int)) ((some (((rd a0.1 r2.toNat) == 1))))) else (some false)))
set_option maxHeartbeats 16000000 in
theorem spec_l01Monic_ok (a0 : (Vec Int 64)) (r : Bool) (h : spec_l01Monic a0 = some r) : Den Try.prog 105 [(eA64u8 a0)] { r := (.bool r) } := by
  refine den_of (rs := [(.bool r)]) (ac := spec_l01Monic_c) (L := spec_l01Monic_L) (n := 14) (m := []) good Try.func105 spec_l01Monic_body (by kernel_rfl) Try.ntmps105 rfl rfl spec_l01Monic_strip rfl rfl ?_
  refine a_st (σ' := ⟨[(0, (eA64u8 a0))], []⟩) rfl ?_
  unfold spec_l01Monic_c
  refine a_seq ?_
  refine a_region ?_
  refine a_val (v := (.own 1100 [] [])) (u := [(1100, some ⟨(eA64u8 a0), false⟩)]) rfl trivial rfl ?_
  refine a_val (v := (.bool false)) (u := []) rfl trivial rfl ?_
  refine a_nil ?_
  refine a_next (σ' := ⟨[(1, (.own 1 [] []))], [(1, some ⟨(eA64u8 a0), false⟩)]⟩) rfl ?_
  refine a_seq ?_
  refine a_region ?_
  have hl1 : LdOk [] (eA64u8 a0) [] 64 true (eA64u8 a0) := (.nil rfl rfl rfl)
  refine a_val (v := (eA64u8 a0)) (u := []) (ld_own (i := ⟨.arr 64 5, 64, 64, (eA64u8 (vrep 64 (0 : Int)))⟩) rfl rfl rfl hl1) hl1.c rfl ?_
  obtain ⟨r2, hr3, h⟩ := bind_some h
  refine a_call (args := [(eA64u8 a0)]) (u := []) (r := (.int .i64 r2)) rfl rfl (spec_l01Deg_ok a0 r2 hr3) rfl ?_
  refine a_val (v := (.int .i64 r2)) (u := []) rfl trivial rfl ?_
  refine a_nil ?_
  refine a_next (σ' := ⟨[(1, (.own 1 [] [])), (3, (.int .i64 r2))], [(1, some ⟨(eA64u8 a0), false⟩)]⟩) rfl ?_
  refine a_seq ?_
  refine a_region ?_
  refine a_val (v := (.int .i64 r2)) (u := []) rfl trivial rfl ?_
  refine a_val (v := (.bool ((decide (r2 ≥ 0))))) (u := []) rfl trivial rfl ?_
  refine a_val (v := (.bool ((decide (r2 ≥ 0))))) (u := []) rfl trivial rfl ?_
  cases hb4 : (decide (r2 ≥ 0))
  · have h := ite_f hb4 h
    refine a_gskip rfl ?_
    refine a_gskip rfl ?_
    refine a_gskip rfl ?_
    refine a_gskip rfl ?_
    refine a_val (v := (.bool false)) (u := []) rfl trivial rfl ?_
    refine a_val (v := (.bool false)) (u := []) rfl trivial rfl ?_
    refine a_nil ?_
    refine a_next rfl ?_
    refine a_ret ?_
    refine ⟨.inr rfl, ?_⟩
    rw [Try.results105]
    cases h
    exact ⟨_, _, _, _, _, rfl, trivial, .inl ⟨rfl, .inl rfl⟩, rfl, rfl⟩
  · have h := ite_t hb4 h
    refine a_gval rfl (v := (.int .i64 r2)) (u := []) rfl trivial rfl ?_
    obtain ⟨hc5, h⟩ := ifp_some h
    refine a_gval rfl (v := (.own 1 [r2.toNat] [r2.toNat * 1])) (u := []) rfl hc5 rfl ?_
    have hl6 : LdOk [r2.toNat] (eA64u8 a0) [r2.toNat * 1] 1 false (.int .u8 (rd a0.1 r2.toNat)) := (.arr (vlt a0 hc5) rfl (.nil rfl rfl rfl))
    refine a_gval rfl (v := (.int .u8 (rd a0.1 r2.toNat))) (u := []) (ld_own (i := ⟨.int .u8, 1, 1, (.int .u8 0)⟩) rfl rfl rfl hl6) hl6.c rfl ?_
    refine a_gval rfl (v := (.bool (((rd a0.1 r2.toNat) == 1)))) (u := []) rfl trivial rfl ?_
    refine a_val (v := (.bool (((rd a0.1 r2.toNat) == 1)))) (u := []) rfl trivial rfl ?_
    refine a_val (v := (.bool (((rd a0.1 r2.toNat) == 1)))) (u := []) rfl trivial rfl ?_
    refine a_nil ?_
    refine a_next rfl ?_
    refine a_ret ?_
    refine ⟨.inr rfl, ?_⟩
    rw [Try.results105]
    cases h
    exact ⟨_, _, _, _, _, rfl, trivial, .inl ⟨rfl, .inl rfl⟩, rfl, rfl⟩
def spec_l10Case_c : ACode := (.seq (.region 0 [⟨some 3, .box 23 (.tmp 1), none, []⟩, ⟨some 4, .asg 0 (.const (.int .i64 0)) 2, none, []⟩] false) (.seq (.block 0 (.seq (.region 1 [⟨some 6, .mov (.tmp 0), none, []⟩, ⟨some 7, .load 23 (.tmp 3), none, []⟩, ⟨some 8, .bslice 0 40 1 [(0, (.tmp 7))], none, []⟩, ⟨some 9, .call 0 (.func 104) [(.tmp 6), (.tmp 8)], none, []⟩, ⟨some 10, .bin .neq 2 (.tmp 9) (.const (.int .i64 0)), none, []⟩, ⟨some 5, .asg 0 (.tmp 10) 4, none, []⟩] false) (.cond (.tmp 5) (.seq (.region 2 [⟨some 4, .asg 0 (.const (.int .i64 1)) 2, none, []⟩] false) .ret) (.seq (.region 3 [⟨some 12, .mov (.tmp 0), none, []⟩, ⟨some 13, .bin .eql 2 (.tmp 12) (.const (.int .i64 2)), none, []⟩, ⟨some 14, .mov (.tmp 13), none, []⟩, ⟨some 15, .load 23 (.tmp 3), some (14, false), []⟩, ⟨some 16, .call 0 (.func 105) [(.tmp 15)], some (14, false), []⟩, ⟨some 17, .un .not (.tmp 16), some (14, false), []⟩, ⟨some 18, .pick (.tmp 14) (.const (.bool true)) (.tmp 17), none, []⟩, ⟨some 19, .mov (.tmp 18), none, []⟩, ⟨some 20, .load 23 (.tmp 3), some (19, false), []⟩, ⟨some 21, .call 0 (.func 71) [(.tmp 20)], some (19, false), []⟩, ⟨some 22, .bin .rem 2 (.tmp 21) (.const (.int .i64 2)), some (19, false), []⟩, ⟨some 23, .bin .neq 2 (.tmp 22) (.const (.int .i64 0)), some (19, false), []⟩, ⟨some 24, .pick (.tmp 19) (.const (.bool true)) (.tmp 23), none, []⟩, ⟨some 11, .asg 0 (.tmp 24) 4, none, []⟩] false) (.cond (.tmp 11) (.seq (.region 4 [⟨some 4, .asg 0 (.const (.int .i64 2)) 2, none, []⟩] false) .ret) .skip))))) (.seq (.region 5 [⟨some 4, .asg 0 (.const (.int .i64 0)) 2, none, []⟩] false) .ret)))
def spec_l10Case_L : Live := [(0, [0, 1]), (1, [0, 3]), (2, []), (3, [0, 3]), (4, []), (5, []), (100005, [0, 3, 5]), (100011, [11])]
theorem spec_l10Case_body : Try.f70.body = some (Try.f70.body.getD .skip) := by kernel_rfl
theorem spec_l10Case_strip : strip [] (Try.f70.body.getD .skip) = spec_l10Case_c := by kernel_rfl
noncomputable def spec_l10Case (a0 : Int) (a1 : (Vec Int 64)) : Option Int :=
  (Option.bind (spec_l01Code a0 ([a1])) fun r2 => (if (r2 != 0) then (some 1) else (Option.bind (α := Bool) ((if (a0 == 2) then (some true) else (Option.bind (spec_l01Monic a1) fun r19 => (if (!r19) then (some true) else (Option.bind (spec_l01Deg a1) fun r23 => (some (((Int.tmod r23 2) != 0)))))))) fun x13 => (if x13 then (some 2) else (some 0)))))
set_option maxHeartbeats 16000000 in
theorem spec_l10Case_ok (a0 : Int) (a1 : (Vec Int 64)) (r : Int) (h : spec_l10Case a0 a1 = some r) : Den Try.prog 70 [(.int .i64 a0), (eA64u8 a1)] { r := (.int .i64 r) } := by
  refine den_of (rs := [(.int .i64 r)]) (ac := spec_l10Case_c) (L := spec_l10Case_L) (n := 25) (m := []) good Try.func70 spec_l10Case_body (by kernel_rfl) Try.ntmps70 rfl rfl spec_l10Case_strip rfl rfl ?_
  refine a_st (σ' := ⟨[(0, (.int .i64 a0)), (1, (eA64u8 a1))], []⟩) rfl ?_
  unfold spec_l10Case_c
  refine a_seq ?_
  refine a_region ?_
  refine a_val (v := (.own 1300 [] [])) (u := [(1300, some ⟨(eA64u8 a1), false⟩)]) rfl trivial rfl ?_
  refine a_val (v := (.int .i64 0)) (u := []) rfl trivial rfl ?_
  refine a_nil ?_
  refine a_next (σ' := ⟨[(0, (.int .i64 a0)), (3, (.own 3 [] []))], [(3, some ⟨(eA64u8 a1), false⟩)]⟩) rfl ?_
  refine a_seq ?_
  refine a_block ?_
  refine a_seq ?_
  refine a_region ?_
  refine a_val (v := (.int .i64 a0)) (u := []) rfl trivial rfl ?_
  have hl1 : LdOk [] (eA64u8 a1) [] 64 true (eA64u8 a1) := (.nil rfl rfl rfl)
  refine a_val (v := (eA64u8 a1)) (u := []) (ld_own (i := ⟨.arr 64 5, 64, 64, (eA64u8 (vrep 64 (0 : Int)))⟩) rfl rfl rfl hl1) hl1.c rfl ?_
  refine a_val (v := (.sl 64 true (([a1]).map eA64u8))) (u := []) rfl ⟨(Nat.le_of_ble_eq_true rfl), (Nat.le_of_ble_eq_true rfl), (all_cons ⟨(Nat.le_of_ble_eq_true rfl), rfl⟩ all_nil)⟩ rfl ?_
  obtain ⟨r2, hr3, h⟩ := bind_some h
  refine a_call (args := [(.int .i64 a0), (.sl 64 true (([a1]).map eA64u8))]) (u := []) (r := (.int .i64 r2)) rfl rfl (Den.args (spec_l01Code_ok a0 ([a1]) r2 hr3) rfl rfl (.cons (.refl _) (.cons (.loose _) .nil))) rfl ?_
  refine a_val (v := (.bool (r2 != 0))) (u := []) rfl trivial rfl ?_
  refine a_val (v := (.bool (r2 != 0))) (u := []) rfl trivial rfl ?_
  refine a_nil ?_
  refine a_next (σ' := ⟨[(0, (.int .i64 a0)), (3, (.own 3 [] [])), (5, (.bool (r2 != 0)))], [(3, some ⟨(eA64u8 a1), false⟩)]⟩) rfl ?_
  cases hb4 : (r2 != 0)
  · have h := ite_f hb4 h
    refine a_cond_f rfl ?_
    obtain ⟨y14, hy15, hk16⟩ := bind_some h
    clear h
    refine a_join (emb := fun (s : Bool) => ⟨[(11, (.bool s))], []⟩) (pre := fun s => s = y14) ?_ ?_
    · rintro x13 rfl
      have h := hk16
      refine a_st (σ' := ⟨[(11, (.bool x13))], []⟩) rfl ?_
      cases hb25 : x13
      · have h := ite_f hb25 h
        refine a_cond_f rfl ?_
        refine a_skip ?_
        refine b_norm ?_
        refine a_next (σ' := ⟨[], []⟩) rfl ?_
        refine a_seq ?_
        refine a_region ?_
        refine a_val (v := (.int .i64 0)) (u := []) rfl trivial rfl ?_
        refine a_nil ?_
        refine a_next rfl ?_
        refine a_ret ?_
        refine ⟨.inr rfl, ?_⟩
        rw [Try.results70]
        cases h
        exact ⟨_, _, _, _, _, rfl, trivial, .inl ⟨rfl, .inl rfl⟩, rfl, rfl⟩
      · have h := ite_t hb25 h
        refine a_cond_t rfl ?_
        refine a_seq ?_
        refine a_region ?_
        refine a_val (v := (.int .i64 2)) (u := []) rfl trivial rfl ?_
        refine a_nil ?_
        refine a_next rfl ?_
        refine a_ret ?_
        refine b_ret ?_
        refine t_ret ?_
        refine ⟨.inr rfl, ?_⟩
        rw [Try.results70]
        cases h
        exact ⟨_, _, _, _, _, rfl, trivial, .inl ⟨rfl, .inl rfl⟩, rfl, rfl⟩
    · have h := hy15
      refine a_region ?_
      refine a_val (v := (.int .i64 a0)) (u := []) rfl trivial rfl ?_
      refine a_val (v := (.bool (a0 == 2))) (u := []) rfl trivial rfl ?_
      refine a_val (v := (.bool (a0 == 2))) (u := []) rfl trivial rfl ?_
      cases hb17 : (a0 == 2)
      · have h := ite_f hb17 h
        have hl18 : LdOk [] (eA64u8 a1) [] 64 true (eA64u8 a1) := (.nil rfl rfl rfl)
        refine a_gval rfl (v := (eA64u8 a1)) (u := []) (ld_own (i := ⟨.arr 64 5, 64, 64, (eA64u8 (vrep 64 (0 : Int)))⟩) rfl rfl rfl hl18) hl18.c rfl ?_
        obtain ⟨r19, hr20, h⟩ := bind_some h
        refine a_gcall rfl (args := [(eA64u8 a1)]) (u := []) (r := (.bool r19)) rfl rfl (spec_l01Monic_ok a1 r19 hr20) rfl ?_
        refine a_gval rfl (v := (.bool (!r19))) (u := []) rfl trivial rfl ?_
        refine a_val (v := (.bool (!r19))) (u := []) rfl trivial rfl ?_
        refine a_val (v := (.bool (!r19))) (u := []) rfl trivial rfl ?_
        cases hb21 : (!r19)
        · have h := ite_f hb21 h
          have hl22 : LdOk [] (eA64u8 a1) [] 64 true (eA64u8 a1) := (.nil rfl rfl rfl)
          refine a_gval rfl (v := (eA64u8 a1)) (u := []) (ld_own (i := ⟨.arr 64 5, 64, 64, (eA64u8 (vrep 64 (0 : Int)))⟩) rfl rfl rfl hl22) hl22.c rfl ?_
          obtain ⟨r23, hr24, h⟩ := bind_some h
          refine a_gcall rfl (args := [(eA64u8 a1)]) (u := []) (r := (.int .i64 r23)) rfl rfl (spec_l01Deg_ok a1 r23 hr24) rfl ?_
          refine a_gval rfl (v := (.int .i64 (Int.tmod r23 2))) (u := []) rfl (by decide) rfl ?_
          refine a_gval rfl (v := (.bool (((Int.tmod r23 2) != 0)))) (u := []) rfl trivial rfl ?_
          refine a_val (v := (.bool (((Int.tmod r23 2) != 0)))) (u := []) rfl trivial rfl ?_
          refine a_val (v := (.bool (((Int.tmod r23 2) != 0)))) (u := []) rfl trivial rfl ?_
          refine a_nil ?_
          exact j_leaf (((Int.tmod r23 2) != 0)) (Option.some.inj h) rfl
        · have h := ite_t hb21 h
          refine a_gskip rfl ?_
          refine a_gskip rfl ?_
          refine a_gskip rfl ?_
          refine a_gskip rfl ?_
          refine a_val (v := (.bool true)) (u := []) rfl trivial rfl ?_
          refine a_val (v := (.bool true)) (u := []) rfl trivial rfl ?_
          refine a_nil ?_
          exact j_leaf true (Option.some.inj h) rfl
      · have h := ite_t hb17 h
        refine a_gskip rfl ?_
        refine a_gskip rfl ?_
        refine a_gskip rfl ?_
        refine a_val (v := (.bool true)) (u := []) rfl trivial rfl ?_
        refine a_val (v := (.bool true)) (u := []) rfl trivial rfl ?_
        refine a_gskip rfl ?_
        refine a_gskip rfl ?_
        refine a_gskip rfl ?_
        refine a_gskip rfl ?_
        refine a_val (v := (.bool true)) (u := []) rfl trivial rfl ?_
        refine a_val (v := (.bool true)) (u := []) rfl trivial rfl ?_
        refine a_nil ?_
        exact j_leaf true (Option.some.inj h) rfl
  · have h := ite_t hb4 h
    refine a_cond_t rfl ?_
    refine a_seq ?_
    refine a_region ?_
    refine a_val (v := (.int .i64 1)) (u := []) rfl trivial rfl ?_
    refine a_nil ?_
    refine a_next rfl ?_
    refine a_ret ?_
    refine b_ret ?_
    refine t_ret ?_
    refine ⟨.inr rfl, ?_⟩
    rw [Try.results70]
    cases h
    exact ⟨_, _, _, _, _, rfl, trivial, .inl ⟨rfl, .inl rfl⟩, rfl, rfl⟩
def impl_squareCode_c : ACode := (.seq (.region 0 [⟨some 4, .box 23 (.tmp 1), none, []⟩, ⟨some 6, .asg 0 (.const (.int .i64 0)) 2, none, []⟩] false) (.seq (.seq (.region 1 [⟨some 9, .mov (.tmp 0), none, []⟩, ⟨some 10, .load 23 (.tmp 4), none, []⟩, ⟨some 11, .bslice 0 40 1 [(0, (.tmp 10))], none, []⟩, ⟨some 12, .call 0 (.func 108) [(.tmp 9), (.tmp 11)], none, []⟩, ⟨some 7, .asg 0 (.tmp 12) 2, none, []⟩] false) (.seq (.region 2 [⟨some 13, .mov (.tmp 7), none, []⟩, ⟨some 14, .bin .neq 2 (.tmp 13) (.const (.int .i64 0)), none, []⟩] false) (.cond (.tmp 14) (.seq (.region 3 [⟨some 15, .mov (.tmp 7), none, []⟩, ⟨some 6, .asg 0 (.tmp 15) 2, none, []⟩] false) .ret) .skip))) (.seq (.region 4 [⟨some 16, .load 23 (.tmp 4), none, []⟩, ⟨some 17, .call 0 (.func 76) [(.tmp 16)], none, []⟩, ⟨some 8, .asg 1 (.tmp 17) 66, none, []⟩] false) (.seq (.seq (.region 5 [⟨some 18, .mov (.tmp 0), none, []⟩, ⟨some 19, .bin .eql 2 (.tmp 18) (.const (.int .i64 2)), none, []⟩, ⟨some 20, .mov (.tmp 19), none, []⟩, ⟨some 21, .mov (.tmp 8), some (20, false), []⟩, ⟨some 22, .call 0 (.func 107) [(.tmp 21)], some (20, false), []⟩, ⟨some 23, .bin .neq 2 (.tmp 22) (.const (.int .i64 1)), some (20, false), []⟩, ⟨some 24, .pick (.tmp 20) (.const (.bool true)) (.tmp 23), none, []⟩, ⟨some 25, .mov (.tmp 24), none, []⟩, ⟨some 26, .mov (.tmp 8), some (25, false), []⟩, ⟨some 27, .call 0 (.func 100) [(.tmp 26)], some (25, false), []⟩, ⟨some 28, .bin .rem 2 (.tmp 27) (.const (.int .i64 2)), some (25, false), []⟩, ⟨some 29, .bin .neq 2 (.tmp 28) (.const (.int .i64 0)), some (25, false), []⟩, ⟨some 30, .pick (.tmp 25) (.const (.bool true)) (.tmp 29), none, []⟩, ⟨some 31, .mov (.tmp 30), none, []⟩, ⟨some 32, .mov (.tmp 2), some (31, false), []⟩, ⟨some 33, .un .not (.tmp 32), some (31, false), []⟩, ⟨some 34, .pick (.tmp 31) (.const (.bool true)) (.tmp 33), none, []⟩] false) (.cond (.tmp 34) (.seq (.region 6 [⟨some 6, .asg 0 (.const (.int .i64 2)) 2, none, []⟩] false) .ret) .skip)) (.seq (.region 7 [⟨some 6, .asg 0 (.const (.int .i64 0)) 2, none, []⟩] false) .ret)))))
def impl_squareCode_L : Live := [(0, [0, 1, 2]), (1, [0, 2, 4]), (2, [0, 2, 4, 7]), (3, [7]), (4, [0, 2, 4]), (5, [0, 2, 8]), (6, []), (7, []), (100014, [0, 2, 4, 7, 14]), (100034, [34])]
theorem impl_squareCode_body : Try.f73.body = some (Try.f73.body.getD .skip) := by kernel_rfl
theorem impl_squareCode_strip : strip [(8, 1)] (Try.f73.body.getD .skip) = impl_squareCode_c := by kernel_rfl
noncomputable def impl_squareCode (a0 : Int) (a1 : (Vec Int 64)) (a2 : Bool) : Option Int :=
  (Option.bind (impl_polysCode a0 ([a1])) fun r2 => (if (r2 != 0) then (some r2) else (Option.bind (impl_rowOf a1) fun r6 => (Option.bind (α := Bool) ((if (a0 == 2) then (some true) else (Option.bind (impl_row_lead r6) fun r20 => (if (r20 != 1) then (some true) else (Option.bind (impl_row_degree r6) fun r23 => (if ((Int.tmod r23 2) != 0) then (some true) else (some (!a2)))))))) fun x15 => (if x15 then (some 2) else (some 0))))))
set_option maxHeartbeats 16000000 in
theorem impl_squareCode_ok (a0 : Int) (a1 : (Vec Int 64)) (a2 : Bool) (r : Int) (h : impl_squareCode a0 a1 a2 = some r) : Den Try.prog 73 [(.int .i64 a0), (eA64u8 a1), (.bool a2)] { r := (.int .i64 r) } := by
  refine den_of (rs := [(.int .i64 r)]) (ac := impl_squareCode_c) (L := impl_squareCode_L) (n := 35) (m := [(8, 1)]) good Try.func73 impl_squareCode_body (by kernel_rfl) Try.ntmps73 rfl rfl impl_squareCode_strip rfl rfl ?_
  refine a_st (σ' := ⟨[(0, (.int .i64 a0)), (1, (eA64u8 a1)), (2, (.bool a2))], []⟩) rfl ?_
  unfold impl_squareCode_c
  refine a_seq ?_
  refine a_region ?_
  refine a_val (v := (.own 1400 [] [])) (u := [(1400, some ⟨(eA64u8 a1), false⟩)]) rfl trivial rfl ?_
  refine a_val (v := (.int .i64 0)) (u := []) rfl trivial rfl ?_
  refine a_nil ?_
  refine a_next (σ' := ⟨[(0, (.int .i64 a0)), (2, (.bool a2)), (4, (.own 4 [] []))], [(4, some ⟨(eA64u8 a1), false⟩)]⟩) rfl ?_
  refine a_seq ?_
  refine a_seq ?_
  refine a_region ?_
  refine a_val (v := (.int .i64 a0)) (u := []) rfl trivial rfl ?_
  have hl1 : LdOk [] (eA64u8 a1) [] 64 true (eA64u8 a1) := (.nil rfl rfl rfl)
  refine a_val (v := (eA64u8 a1)) (u := []) (ld_own (i := ⟨.arr 64 5, 64, 64, (eA64u8 (vrep 64 (0 : Int)))⟩) rfl rfl rfl hl1) hl1.c rfl ?_
  refine a_val (v := (.sl 64 true (([a1]).map eA64u8))) (u := []) rfl ⟨(Nat.le_of_ble_eq_true rfl), (Nat.le_of_ble_eq_true rfl), (all_cons ⟨(Nat.le_of_ble_eq_true rfl), rfl⟩ all_nil)⟩ rfl ?_
  obtain ⟨r2, hr3, h⟩ := bind_some h
  refine a_call (args := [(.int .i64 a0), (.sl 64 true (([a1]).map eA64u8))]) (u := []) (r := (.int .i64 r2)) rfl rfl (Den.args (impl_polysCode_ok a0 ([a1]) r2 hr3) rfl rfl (.cons (.refl _) (.cons (.loose _) .nil))) rfl ?_
  refine a_val (v := (.int .i64 r2)) (u := []) rfl trivial rfl ?_
  refine a_nil ?_
  refine a_next (σ' := ⟨[(0, (.int .i64 a0)), (2, (.bool a2)), (4, (.own 4 [] [])), (7, (.int .i64 r2))], [(4, some ⟨(eA64u8 a1), false⟩)]⟩) rfl ?_
  refine a_seq ?_
  refine a_region ?_
  refine a_val (v := (.int .i64 r2)) (u := []) rfl trivial rfl ?_
  refine a_val (v := (.bool (r2 != 0))) (u := []) rfl trivial rfl ?_
  refine a_nil ?_
  refine a_next (σ' := ⟨[(0, (.int .i64 a0)), (2, (.bool a2)), (4, (.own 4 [] [])), (7, (.int .i64 r2)), (14, (.bool (r2 != 0)))], [(4, some ⟨(eA64u8 a1), false⟩)]⟩) rfl ?_
  cases hb4 : (r2 != 0)
  · have h := ite_f hb4 h
    refine a_cond_f rfl ?_
    refine a_skip ?_
    refine a_next (σ' := ⟨[(0, (.int .i64 a0)), (2, (.bool a2)), (4, (.own 4 [] []))], [(4, some ⟨(eA64u8 a1), false⟩)]⟩) rfl ?_
    refine a_seq ?_
    refine a_region ?_
    have hl5 : LdOk [] (eA64u8 a1) [] 64 true (eA64u8 a1) := (.nil rfl rfl rfl)
    refine a_val (v := (eA64u8 a1)) (u := []) (ld_own (i := ⟨.arr 64 5, 64, 64, (eA64u8 (vrep 64 (0 : Int)))⟩) rfl rfl rfl hl5) hl5.c rfl ?_
    obtain ⟨r6, hr7, h⟩ := bind_some h
    refine a_call (args := [(eA64u8 a1)]) (u := []) (r := (eSi64 r6)) rfl rfl (impl_rowOf_ok a1 r6 hr7) rfl ?_
    refine a_val (v := (eSi64 r6)) (u := []) rfl trivial rfl ?_
    refine a_nil ?_
    refine a_next (σ' := ⟨[(0, (.int .i64 a0)), (2, (.bool a2)), (8, (eSi64 r6))], []⟩) rfl ?_
    refine a_seq ?_
    obtain ⟨y16, hy17, hk18⟩ := bind_some h
    clear h
    refine a_join (emb := fun (s : Bool) => ⟨[(34, (.bool s))], []⟩) (pre := fun s => s = y16) ?_ ?_
    · rintro x15 rfl
      have h := hk18
      refine a_st (σ' := ⟨[(34, (.bool x15))], []⟩) rfl ?_
      cases hb26 : x15
      · have h := ite_f hb26 h
        refine a_cond_f rfl ?_
        refine a_skip ?_
        refine a_next (σ' := ⟨[], []⟩) rfl ?_
        refine a_seq ?_
        refine a_region ?_
        refine a_val (v := (.int .i64 0)) (u := []) rfl trivial rfl ?_
        refine a_nil ?_
        refine a_next rfl ?_
        refine a_ret ?_
        refine ⟨.inr rfl, ?_⟩
        rw [Try.results73]
        cases h
        exact ⟨_, _, _, _, _, rfl, trivial, .inl ⟨rfl, .inl rfl⟩, rfl, rfl⟩
      · have h := ite_t hb26 h
        refine a_cond_t rfl ?_
        refine a_seq ?_
        refine a_region ?_
        refine a_val (v := (.int .i64 2)) (u := []) rfl trivial rfl ?_
        refine a_nil ?_
        refine a_next rfl ?_
        refine a_ret ?_
        refine t_ret ?_
        refine ⟨.inr rfl, ?_⟩
        rw [Try.results73]
        cases h
        exact ⟨_, _, _, _, _, rfl, trivial, .inl ⟨rfl, .inl rfl⟩, rfl, rfl⟩
    · have h := hy17
      refine a_region ?_
      refine a_val (v := (.int .i64 a0)) (u := []) rfl trivial rfl ?_
      refine a_val (v := (.bool (a0 == 2))) (u := []) rfl trivial rfl ?_
      refine a_val (v := (.bool (a0 == 2))) (u := []) rfl trivial rfl ?_
      cases hb19 : (a0 == 2)
      · have h := ite_f hb19 h
        refine a_gval rfl (v := (eSi64 r6)) (u := []) rfl trivial rfl ?_
        obtain ⟨r20, hr21, h⟩ := bind_some h
        refine a_gcall rfl (args := [(eSi64 r6)]) (u := []) (r := (.int .i64 r20)) rfl rfl (impl_row_lead_ok r6 r20 hr21) rfl ?_
        refine a_gval rfl (v := (.bool (r20 != 1))) (u := []) rfl trivial rfl ?_
        refine a_val (v := (.bool (r20 != 1))) (u := []) rfl trivial rfl ?_
        refine a_val (v := (.bool (r20 != 1))) (u := []) rfl trivial rfl ?_
        cases hb22 : (r20 != 1)
        · have h := ite_f hb22 h
          refine a_gval rfl (v := (eSi64 r6)) (u := []) rfl trivial rfl ?_
          obtain ⟨r23, hr24, h⟩ := bind_some h
          refine a_gcall rfl (args := [(eSi64 r6)]) (u := []) (r := (.int .i64 r23)) rfl rfl (impl_row_degree_ok r6 r23 hr24) rfl ?_
          refine a_gval rfl (v := (.int .i64 (Int.tmod r23 2))) (u := []) rfl (by decide) rfl ?_
          refine a_gval rfl (v := (.bool (((Int.tmod r23 2) != 0)))) (u := []) rfl trivial rfl ?_
          refine a_val (v := (.bool (((Int.tmod r23 2) != 0)))) (u := []) rfl trivial rfl ?_
          refine a_val (v := (.bool (((Int.tmod r23 2) != 0)))) (u := []) rfl trivial rfl ?_
          cases hb25 : ((Int.tmod r23 2) != 0)
          · have h := ite_f hb25 h
            refine a_gval rfl (v := (.bool a2)) (u := []) rfl trivial rfl ?_
            refine a_gval rfl (v := (.bool (!a2))) (u := []) rfl trivial rfl ?_
            refine a_val (v := (.bool (!a2))) (u := []) rfl trivial rfl ?_
            refine a_nil ?_
            exact j_leaf (!a2) (Option.some.inj h) rfl
          · have h := ite_t hb25 h
            refine a_gskip rfl ?_
            refine a_gskip rfl ?_
            refine a_val (v := (.bool true)) (u := []) rfl trivial rfl ?_
            refine a_nil ?_
            exact j_leaf true (Option.some.inj h) rfl
        · have h := ite_t hb22 h
          refine a_gskip rfl ?_
          refine a_gskip rfl ?_
          refine a_gskip rfl ?_
          refine a_gskip rfl ?_
          refine a_val (v := (.bool true)) (u := []) rfl trivial rfl ?_
          refine a_val (v := (.bool true)) (u := []) rfl trivial rfl ?_
          refine a_gskip rfl ?_
          refine a_gskip rfl ?_
          refine a_val (v := (.bool true)) (u := []) rfl trivial rfl ?_
          refine a_nil ?_
          exact j_leaf true (Option.some.inj h) rfl
      · have h := ite_t hb19 h
        refine a_gskip rfl ?_
        refine a_gskip rfl ?_
        refine a_gskip rfl ?_
        refine a_val (v := (.bool true)) (u := []) rfl trivial rfl ?_
        refine a_val (v := (.bool true)) (u := []) rfl trivial rfl ?_
        refine a_gskip rfl ?_
        refine a_gskip rfl ?_
        refine a_gskip rfl ?_
        refine a_gskip rfl ?_
        refine a_val (v := (.bool true)) (u := []) rfl trivial rfl ?_
        refine a_val (v := (.bool true)) (u := []) rfl trivial rfl ?_
        refine a_gskip rfl ?_
        refine a_gskip rfl ?_
        refine a_val (v := (.bool true)) (u := []) rfl trivial rfl ?_
        refine a_nil ?_
        exact j_leaf true (Option.some.inj h) rfl
  · have h := ite_t hb4 h
    refine a_cond_t rfl ?_
    refine a_seq ?_
    refine a_region ?_
    refine a_val (v := (.int .i64 r2)) (u := []) rfl trivial rfl ?_
    refine a_val (v := (.int .i64 r2)) (u := []) rfl trivial rfl ?_
    refine a_nil ?_
    refine a_next rfl ?_
    refine a_ret ?_
    refine t_ret ?_
    refine ⟨.inr rfl, ?_⟩
    rw [Try.results73]
    cases h
    exact ⟨_, _, _, _, _, rfl, trivial, .inl ⟨rfl, .inl rfl⟩, rfl, rfl⟩
end Go.Proofs.Ytacebpbhddkelaa
