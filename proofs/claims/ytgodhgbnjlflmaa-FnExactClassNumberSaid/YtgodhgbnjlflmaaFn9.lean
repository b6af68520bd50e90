/- Functions of the program: plain Lean functions, and that the program computes them. Printed by gen.py. -/
import Derived.Test.YtgodhgbnjlflmaaFnT
import Derived.Test.YtgodhgbnjlflmaaFn1
import Derived.Test.YtgodhgbnjlflmaaFn4
import Derived.Test.YtgodhgbnjlflmaaFn6
import Derived.Test.YtgodhgbnjlflmaaFn8
namespace Go.Proofs.Ytgodhgbnjlflmaa
open Go.Abs Go.Proofs
set_option linter.unusedSimpArgs false
set_option linter.unusedVariables false
attribute [local irreducible] Abs.acode Abs.aops Abs.aopsT Abs.thenK Abs.blockK

def impl_ReducedForms_c : ACode := (.seq (.region 0 [⟨some 3, .box 23 (.tmp 1), none, []⟩, ⟨some 4, .asg 1 (.const (.slice none 0 0)) 106, none, []⟩, ⟨some 5, .asg 0 (.const (.int .i64 0)) 2, none, []⟩] false) (.seq (.seq (.region 1 [⟨some 10, .mov (.tmp 0), none, []⟩, ⟨some 11, .load 23 (.tmp 3), none, []⟩, ⟨some 12, .call 0 (.func 129) [(.tmp 10), (.tmp 11), (.const (.bool true)), (.const (.bool false)), (.const (.slice none 0 0))], none, []⟩, ⟨some 6, .asg 0 (.tmp 12) 2, none, []⟩] false) (.seq (.region 2 [⟨some 13, .mov (.tmp 6), none, []⟩, ⟨some 14, .bin .neq 2 (.tmp 13) (.const (.int .i64 0)), none, []⟩] false) (.cond (.tmp 14) (.seq (.region 3 [⟨some 15, .mov (.tmp 6), none, []⟩, ⟨some 4, .asg 1 (.const (.slice none 0 0)) 106, none, []⟩, ⟨some 5, .asg 0 (.tmp 15) 2, none, []⟩] false) .ret) .skip))) (.seq (.region 4 [⟨some 7, .asg 2 (.const (.slice none 0 0)) 106, none, []⟩] false) (.seq (.seq (.region 5 [⟨some 16, .mov (.tmp 0), none, []⟩, ⟨some 17, .load 23 (.tmp 3), none, []⟩, ⟨some 18, .call 0 (.func 130) [(.tmp 16), (.tmp 17)], none, []⟩, ⟨some 19, .call 0 (.func 131) [(.tmp 18)], none, []⟩, ⟨some 20, .blt 0 .len [(.tmp 19)] [127], none, []⟩, ⟨some 21, .mov (.const (.int .i64 0)), none, []⟩] false) (.block 0 (.loop (.seq (.region 6 [⟨some 22, .bin .lss 3 (.tmp 21) (.tmp 20), none, []⟩] false) (.seq (.cond (.tmp 22) .skip (.exit 0)) (.seq (.block 1 (.seq (.region 7 [⟨some 23, .indexAddr 127 (.tmp 19) (.tmp 21), none, []⟩, ⟨some 24, .load 133 (.tmp 23), none, []⟩, ⟨some 9, .alloc 133, none, []⟩, ⟨none, .store 133 (.tmp 9) (.tmp 24), none, []⟩] false) (.region 8 [⟨some 25, .mov (.tmp 7), none, []⟩, ⟨some 26, .load 133 (.tmp 9), none, []⟩, ⟨some 27, .call 0 (.func 132) [(.tmp 26)], none, []⟩, ⟨some 28, .bslice 0 106 1 [(0, (.tmp 27))], none, []⟩, ⟨some 29, .blt 0 .append [(.tmp 25), (.tmp 28)] [106, 106], none, []⟩, ⟨some 7, .asg 2 (.tmp 29) 106, none, []⟩] false))) (.region 9 [⟨some 30, .bin .add 3 (.tmp 21) (.const (.int .i64 1)), none, []⟩, ⟨some 21, .mov (.tmp 30), none, []⟩] false))))))) (.seq (.region 10 [⟨some 31, .mov (.tmp 7), none, []⟩, ⟨some 4, .asg 1 (.tmp 31) 106, none, []⟩, ⟨some 5, .asg 0 (.const (.int .i64 0)) 2, none, []⟩] false) .ret)))))
def impl_ReducedForms_L : Live := [(0, [0, 1]), (1, [0, 3]), (2, [0, 3, 6]), (3, [6]), (4, [0, 3]), (5, [0, 3, 7]), (6, [7, 19, 20, 21]), (7, [7, 19, 20, 21]), (8, [7, 9, 19, 20, 21]), (9, [7, 19, 20, 21]), (10, [7]), (100014, [0, 3, 6, 14]), (100022, [7, 19, 20, 21, 22])]
theorem impl_ReducedForms_body : Try.f104.body = some (Try.f104.body.getD .skip) := by kernel_rfl
theorem impl_ReducedForms_strip : strip [(4, 1), (7, 2)] (Try.f104.body.getD .skip) = impl_ReducedForms_c := by kernel_rfl
noncomputable def impl_ReducedForms_l1 (r47 : (List ((List Int) × (List Int)))) (x57 : Int) (x58 : (List ((Vec Int 64) × (Vec Int 64)))) : Option ((Int × (List ((Vec Int 64) × (Vec Int 64)))) ⊕ (List ((Vec Int 64) × (Vec Int 64)))) :=
  (if (decide (x57 < (r47.length : Int))) then (ifp (0 ≤ x57 ∧ x57 < ((r47.length : Nat) : Int)) ((Option.bind (impl_form_told (rd r47 x57.toNat)) fun r75 => (ifp ((x58.length + ([r75] : List ((Vec Int 64) × (Vec Int 64))).length) * 128 ≤ 140737488355328) ((some (.inl ((IntKind.i64.wrap (x57 + 1), (x58 ++ ([r75]))))))))))) else (some (.inr x58)))
noncomputable def impl_ReducedForms (a0 : Int) (a1 : (Vec Int 64)) : Option ((List ((Vec Int 64) × (Vec Int 64))) × Int) :=
  (Option.bind (impl_formCode a0 a1 true false ([])) fun r2 => (if (r2 != 0) then (some ([], r2)) else (Option.bind (α := (List ((Vec Int 64) × (Vec Int 64)))) ((Option.bind (impl_curveOf a0 a1) fun r45 => (Option.bind (impl_curve_forms r45) fun r47 => (loopM (fun s : (Int × (List ((Vec Int 64) × (Vec Int 64)))) => impl_ReducedForms_l1 r47 s.1 s.2) (0, []))))) fun x40 => (some (x40, 0)))))
set_option maxHeartbeats 16000000 in
theorem impl_ReducedForms_ok (a0 : Int) (a1 : (Vec Int 64)) (r : ((List ((Vec Int 64) × (Vec Int 64))) × Int)) (h : impl_ReducedForms a0 a1 = some r) : Den Try.prog 104 [(.int .i64 a0), (eA64u8 a1)] { r := (.tuple [(eST_A64u8_A64u8_Z r.1), (.int .i64 r.2)]) } := by
  refine den_of (rs := [(eST_A64u8_A64u8_Z r.1), (.int .i64 r.2)]) (ac := impl_ReducedForms_c) (L := impl_ReducedForms_L) (n := 32) (m := [(4, 1), (7, 2)]) good Try.func104 impl_ReducedForms_body (by kernel_rfl) Try.ntmps104 rfl rfl impl_ReducedForms_strip rfl rfl ?_
  refine a_st (σ' := ⟨[(0, (.int .i64 a0)), (1, (eA64u8 a1))], []⟩) (by kernel_rfl) ?_
  unfold impl_ReducedForms_c
  refine a_seq ?_
  refine a_region ?_
  refine a_val (v := (.own 1300 [] [])) (u := [(1300, some ⟨(eA64u8 a1), false⟩)]) rfl trivial rfl ?_
  refine a_val (v := (eST_A64u8_A64u8_Z ([]))) (u := []) rfl trivial rfl ?_
  refine a_val (v := (.int .i64 0)) (u := []) rfl trivial rfl ?_
  refine a_nil ?_
  refine a_next (σ' := ⟨[(0, (.int .i64 a0)), (3, (.own 3 [] []))], [(3, some ⟨(eA64u8 a1), false⟩)]⟩) (by kernel_rfl) ?_
  refine a_seq ?_
  refine a_seq ?_
  refine a_region ?_
  refine a_val (v := (.int .i64 a0)) (u := []) rfl trivial rfl ?_
  have hl1 : LdOk [] (eA64u8 a1) [] 64 true (eA64u8 a1) := (.nil rfl rfl rfl)
  refine a_val (v := (eA64u8 a1)) (u := []) (ld_own (i := ⟨.arr 64 5, 64, 64, (eA64u8 (vrep 64 (0 : Int)))⟩) rfl rfl rfl hl1) hl1.c rfl ?_
  obtain ⟨r2, hr3, h⟩ := bind_some h
  refine a_call (args := [(.int .i64 a0), (eA64u8 a1), (.bool true), (.bool false), (.sl 0 true [])]) (u := []) (r := (.int .i64 r2)) rfl rfl (Den.args (impl_formCode_ok a0 a1 true false ([]) r2 hr3) rfl rfl (.cons (.refl _) (.cons (.refl _) (.cons (.refl _) (.cons (.refl _) (.cons (.nil _ _ _ _ (fun _ => rfl)) .nil)))))) rfl ?_
  refine a_val (v := (.int .i64 r2)) (u := []) rfl trivial rfl ?_
  refine a_nil ?_
  refine a_next (σ' := ⟨[(0, (.int .i64 a0)), (3, (.own 3 [] [])), (6, (.int .i64 r2))], [(3, some ⟨(eA64u8 a1), false⟩)]⟩) (by kernel_rfl) ?_
  refine a_seq ?_
  refine a_region ?_
  refine a_val (v := (.int .i64 r2)) (u := []) rfl trivial rfl ?_
  refine a_val (v := (.bool (r2 != 0))) (u := []) rfl trivial rfl ?_
  refine a_nil ?_
  refine a_next (σ' := ⟨[(0, (.int .i64 a0)), (3, (.own 3 [] [])), (6, (.int .i64 r2)), (14, (.bool (r2 != 0)))], [(3, some ⟨(eA64u8 a1), false⟩)]⟩) (by kernel_rfl) ?_
  cases hb4 : (r2 != 0)
  · have h := ite_f hb4 h
    refine a_cond_f rfl ?_
    refine a_skip ?_
    refine a_next (σ' := ⟨[(0, (.int .i64 a0)), (3, (.own 3 [] []))], [(3, some ⟨(eA64u8 a1), false⟩)]⟩) (by kernel_rfl) ?_
    refine a_seq ?_
    refine a_region ?_
    refine a_val (v := (.osl 1700)) (u := [(1700, some ⟨(.row 128 (([]).map eT_A64u8_A64u8_Z)), false⟩)]) rfl trivial rfl ?_
    refine a_nil ?_
    refine a_next (σ' := ⟨[(0, (.int .i64 a0)), (3, (.own 3 [] [])), (7, (.osl 7))], [(3, some ⟨(eA64u8 a1), false⟩), (7, some ⟨(.row 128 (([]).map eT_A64u8_A64u8_Z)), false⟩)]⟩) (by kernel_rfl) ?_
    obtain ⟨y41, hy42, hk43⟩ := bind_some h
    clear h
    refine a_join (emb := fun (s : (List ((Vec Int 64) × (Vec Int 64)))) => ⟨[(7, (.osl 7))], [(7, some ⟨(.row 128 (s.map eT_A64u8_A64u8_Z)), false⟩)]⟩) (pre := fun s => s = y41) ?_ ?_
    · rintro x40 rfl
      have h := hk43
      refine a_st (σ' := ⟨[(7, (.osl 7))], [(7, some ⟨(.row 128 (x40.map eT_A64u8_A64u8_Z)), false⟩)]⟩) (by kernel_rfl) ?_
      refine a_seq ?_
      refine a_region ?_
      refine a_val (v := (.osl 7)) (u := []) rfl trivial rfl ?_
      refine a_val (v := (eST_A64u8_A64u8_Z x40)) (u := [(7, some ⟨(.row 128 (x40.map eT_A64u8_A64u8_Z)), true⟩)]) rfl trivial rfl ?_
      refine a_val (v := (.int .i64 0)) (u := []) rfl trivial rfl ?_
      refine a_nil ?_
      refine a_next rfl ?_
      refine a_ret ?_
      refine ⟨.inr rfl, ?_⟩
      rw [Try.results104]
      cases h
      exact ⟨_, _, _, _, _, rfl, trivial, .inl ⟨rfl, .inl rfl⟩, rfl, ⟨_, _, _, _, _, rfl, trivial, .inl ⟨rfl, .inl rfl⟩, rfl, rfl⟩⟩
    · have h := hy42
      refine a_seq ?_
      refine a_region ?_
      refine a_val (v := (.int .i64 a0)) (u := []) rfl trivial rfl ?_
      have hl44 : LdOk [] (eA64u8 a1) [] 64 true (eA64u8 a1) := (.nil rfl rfl rfl)
      refine a_val (v := (eA64u8 a1)) (u := []) (ld_own (i := ⟨.arr 64 5, 64, 64, (eA64u8 (vrep 64 (0 : Int)))⟩) rfl rfl rfl hl44) hl44.c rfl ?_
      obtain ⟨r45, hr46, h⟩ := bind_some h
      refine a_call (args := [(.int .i64 a0), (eA64u8 a1)]) (u := []) (r := (eT_i64_Si64_Z r45)) rfl rfl (impl_curveOf_ok a0 a1 r45 hr46) rfl ?_
      obtain ⟨r47, hr48, h⟩ := bind_some h
      refine a_call (args := [(eT_i64_Si64_Z r45)]) (u := []) (r := (eST_Si64_Si64_Z r47)) rfl rfl (impl_curve_forms_ok r45 r47 hr48) rfl ?_
      refine a_val (v := (.int .i64 (r47.length : Int))) (u := []) (len_run rfl rfl) trivial rfl ?_
      refine a_val (v := (.int .i64 0)) (u := []) rfl trivial rfl ?_
      refine a_nil ?_
      refine a_next (σ' := ⟨[(7, (.osl 7)), (19, (eST_Si64_Si64_Z r47)), (20, (.int .i64 (r47.length : Int))), (21, (.int .i64 0))], [(7, some ⟨(.row 128 (([]).map eT_A64u8_A64u8_Z)), false⟩)]⟩) (by kernel_rfl) ?_
      refine a_block ?_
      refine a_loop (emb := fun (s : (Int × (List ((Vec Int 64) × (Vec Int 64))))) => ⟨[(7, (.osl 7)), (19, (eST_Si64_Si64_Z r47)), (20, (.int .i64 (r47.length : Int))), (21, (.int .i64 s.1))], [(7, some ⟨(.row 128 (s.2.map eT_A64u8_A64u8_Z)), false⟩)]⟩) (body := (fun s : (Int × (List ((Vec Int 64) × (Vec Int 64)))) => impl_ReducedForms_l1 r47 s.1 s.2)) (G := fun q => some q = some y41) h rfl ?_ (by kernel_rfl)
      rintro X67 ⟨x57, x58⟩ x68 h hX69
      have h : impl_ReducedForms_l1 r47 x57 x58 = some x68 := h
      refine a_st (σ' := ⟨[(7, (.osl 7)), (19, (eST_Si64_Si64_Z r47)), (20, (.int .i64 (r47.length : Int))), (21, (.int .i64 x57))], [(7, some ⟨(.row 128 (x58.map eT_A64u8_A64u8_Z)), false⟩)]⟩) (by kernel_rfl) ?_
      refine a_seq ?_
      refine a_region ?_
      refine a_val (v := (.bool ((decide (x57 < (r47.length : Int)))))) (u := []) rfl trivial rfl ?_
      refine a_nil ?_
      refine a_next (σ' := ⟨[(7, (.osl 7)), (19, (eST_Si64_Si64_Z r47)), (20, (.int .i64 (r47.length : Int))), (21, (.int .i64 x57)), (22, (.bool ((decide (x57 < (r47.length : Int))))))], [(7, some ⟨(.row 128 (x58.map eT_A64u8_A64u8_Z)), false⟩)]⟩) (by kernel_rfl) ?_
      refine a_seq ?_
      cases hb70 : (decide (x57 < (r47.length : Int)))
      · have h := ite_f hb70 h
        refine a_cond_f rfl ?_
        refine a_exit ?_
        refine t_exit ?_
        cases h
        have h := hX69
        refine t_exit ?_
        refine b_exit ?_
        exact j_leaf x58 (Option.some.inj h) (by kernel_rfl)
      · have h := ite_t hb70 h
        refine a_cond_t rfl ?_
        refine a_skip ?_
        refine a_next (σ' := ⟨[(7, (.osl 7)), (19, (eST_Si64_Si64_Z r47)), (20, (.int .i64 (r47.length : Int))), (21, (.int .i64 x57))], [(7, some ⟨(.row 128 (x58.map eT_A64u8_A64u8_Z)), false⟩)]⟩) (by kernel_rfl) ?_
        refine a_seq ?_
        refine a_block ?_
        refine a_seq ?_
        refine a_region ?_
        obtain ⟨hc71, h⟩ := ifp_some h
        refine a_val (v := (.ref (.row 2 (r47.map eT_Si64_Si64_Z)) [x57.toNat] [x57.toNat * 2])) (u := []) rfl (lmap hc71) rfl ?_
        have hl72 : LdOk [x57.toNat] (.row 2 (r47.map eT_Si64_Si64_Z)) [x57.toNat * 2] 2 true (eT_Si64_Si64_Z (rd r47 x57.toNat)) := (.row (llt hc71) rfl (.nil rfl rfl rfl))
        refine a_val (v := (eT_Si64_Si64_Z (rd r47 x57.toNat))) (u := []) (ld_ref (i := ⟨.struct [(0, 64), (1, 64)], 2, 48, (eT_Si64_Si64_Z ([], []))⟩) rfl rfl hl72) hl72.c rfl ?_
        refine a_val (v := (.own 1900 [] [])) (u := [(1900, some ⟨(eT_Si64_Si64_Z ([], [])), false⟩)]) rfl trivial rfl ?_
        have hs73 : StOk [] (eT_Si64_Si64_Z ([], [])) [] 2 (eT_Si64_Si64_Z (rd r47 x57.toNat)) (eT_Si64_Si64_Z (rd r47 x57.toNat)) := (.nil rfl rfl rfl rfl)
        refine a_val (v := .top) (u := [(1900, some ⟨(eT_Si64_Si64_Z (rd r47 x57.toNat)), false⟩)]) (st_own (i := ⟨.struct [(0, 64), (1, 64)], 2, 48, (eT_Si64_Si64_Z ([], []))⟩) rfl rfl (fun _ => rfl) rfl hs73) (hs73.c rfl) rfl ?_
        refine a_nil ?_
        refine a_next (σ' := ⟨[(7, (.osl 7)), (9, (.own 9 [] [])), (19, (eST_Si64_Si64_Z r47)), (20, (.int .i64 (r47.length : Int))), (21, (.int .i64 x57))], [(7, some ⟨(.row 128 (x58.map eT_A64u8_A64u8_Z)), false⟩), (9, some ⟨(eT_Si64_Si64_Z (rd r47 x57.toNat)), false⟩)]⟩) (by kernel_rfl) ?_
        refine a_region ?_
        refine a_val (v := (.osl 7)) (u := []) rfl trivial rfl ?_
        have hl74 : LdOk [] (eT_Si64_Si64_Z (rd r47 x57.toNat)) [] 2 true (eT_Si64_Si64_Z (rd r47 x57.toNat)) := (.nil rfl rfl rfl)
        refine a_val (v := (eT_Si64_Si64_Z (rd r47 x57.toNat))) (u := []) (ld_own (i := ⟨.struct [(0, 64), (1, 64)], 2, 48, (eT_Si64_Si64_Z ([], []))⟩) rfl rfl rfl hl74) hl74.c rfl ?_
        obtain ⟨r75, hr76, h⟩ := bind_some h
        refine a_call (args := [(eT_Si64_Si64_Z (rd r47 x57.toNat))]) (u := []) (r := (eT_A64u8_A64u8_Z r75)) rfl rfl (impl_form_told_ok (rd r47 x57.toNat) r75 hr76) rfl ?_
        refine a_val (v := (.sl 128 true (([r75]).map eT_A64u8_A64u8_Z))) (u := []) rfl ⟨(Nat.le_of_ble_eq_true rfl), (Nat.le_of_ble_eq_true rfl), (all_cons ⟨(Nat.le_of_ble_eq_true rfl), rfl⟩ all_nil)⟩ rfl ?_
        obtain ⟨hc77, h⟩ := ifp_some h
        refine a_val (v := (.osl 3900)) (u := [(3900, some ⟨(.row 128 (((x58 ++ ([r75]))).map eT_A64u8_A64u8_Z)), false⟩), (7, none)]) (app_run (i := ⟨.struct [(0, 23), (64, 23)], 128, 128, (eT_A64u8_A64u8_Z ((vrep 64 (0 : Int)), (vrep 64 (0 : Int))))⟩) (f := eT_A64u8_A64u8_Z) (l := x58) (l2 := [r75]) rfl rfl rfl rfl (fun _ => rfl) rfl rfl) (app_c (f := eT_A64u8_A64u8_Z) (s := 128) (sz := 128) (by' := 128) (u := []) (id := 7) hc77 (.inr rfl) rfl rfl rfl) rfl ?_
        refine a_val (v := (.osl 3900)) (u := []) rfl trivial rfl ?_
        refine a_nil ?_
        refine b_norm ?_
        refine a_next (σ' := ⟨[(7, (.osl 7)), (19, (eST_Si64_Si64_Z r47)), (20, (.int .i64 (r47.length : Int))), (21, (.int .i64 x57))], [(7, some ⟨(.row 128 (((x58 ++ ([r75]))).map eT_A64u8_A64u8_Z)), false⟩)]⟩) (by kernel_rfl) ?_
        refine a_region ?_
        refine a_val (v := (.int .i64 (IntKind.i64.wrap (x57 + 1)))) (u := []) rfl trivial rfl ?_
        refine a_val (v := (.int .i64 (IntKind.i64.wrap (x57 + 1)))) (u := []) rfl trivial rfl ?_
        refine a_nil ?_
        cases h
        exact a_again (by kernel_rfl) hX69
  · have h := ite_t hb4 h
    refine a_cond_t rfl ?_
    refine a_seq ?_
    refine a_region ?_
    refine a_val (v := (.int .i64 r2)) (u := []) rfl trivial rfl ?_
    refine a_val (v := (eST_A64u8_A64u8_Z ([]))) (u := []) rfl trivial rfl ?_
    refine a_val (v := (.int .i64 r2)) (u := []) rfl trivial rfl ?_
    refine a_nil ?_
    refine a_next rfl ?_
    refine a_ret ?_
    refine t_ret ?_
    refine ⟨.inr rfl, ?_⟩
    rw [Try.results104]
    cases h
    exact ⟨_, _, _, _, _, rfl, trivial, .inl ⟨rfl, .inl rfl⟩, rfl, ⟨_, _, _, _, _, rfl, trivial, .inl ⟨rfl, .inl rfl⟩, rfl, rfl⟩⟩
def impl_ClassNumber_c : ACode := (.seq (.region 0 [⟨some 3, .box 23 (.tmp 1), none, []⟩, ⟨some 4, .asg 0 (.const (.int .i64 0)) 2, none, []⟩, ⟨some 5, .asg 0 (.const (.int .i64 0)) 2, none, []⟩] false) (.seq (.region 1 [⟨some 9, .mov (.tmp 0), none, []⟩, ⟨some 10, .load 23 (.tmp 3), none, []⟩, ⟨some 11, .call 0 (.func 104) [(.tmp 9), (.tmp 10)], none, []⟩, ⟨some 8, .mov (.tmp 11), none, []⟩, ⟨some 12, .extract (.tmp 8) 0, none, []⟩, ⟨some 13, .extract (.tmp 8) 1, none, []⟩, ⟨some 6, .asg 1 (.tmp 12) 106, none, []⟩, ⟨some 7, .asg 0 (.tmp 13) 2, none, []⟩] false) (.seq (.region 2 [⟨some 14, .mov (.tmp 6), none, []⟩, ⟨some 15, .blt 0 .len [(.tmp 14)] [106], none, []⟩, ⟨some 16, .mov (.tmp 7), none, []⟩, ⟨some 4, .asg 0 (.tmp 15) 2, none, []⟩, ⟨some 5, .asg 0 (.tmp 16) 2, none, []⟩] false) .ret)))
def impl_ClassNumber_L : Live := [(0, [0, 1]), (1, [0, 3]), (2, [6, 7])]
theorem impl_ClassNumber_body : Try.f44.body = some (Try.f44.body.getD .skip) := by kernel_rfl
theorem impl_ClassNumber_strip : strip [(6, 1)] (Try.f44.body.getD .skip) = impl_ClassNumber_c := by kernel_rfl
noncomputable def impl_ClassNumber (a0 : Int) (a1 : (Vec Int 64)) : Option (Int × Int) :=
  (Option.bind (impl_ReducedForms a0 a1) fun r2 => (some (((r2.1.length : Int), r2.2))))
set_option maxHeartbeats 16000000 in
theorem impl_ClassNumber_ok (a0 : Int) (a1 : (Vec Int 64)) (r : (Int × Int)) (h : impl_ClassNumber a0 a1 = some r) : Den Try.prog 44 [(.int .i64 a0), (eA64u8 a1)] { r := (.tuple [(.int .i64 r.1), (.int .i64 r.2)]) } := by
  refine den_of (rs := [(.int .i64 r.1), (.int .i64 r.2)]) (ac := impl_ClassNumber_c) (L := impl_ClassNumber_L) (n := 17) (m := [(6, 1)]) good Try.func44 impl_ClassNumber_body (by kernel_rfl) Try.ntmps44 rfl rfl impl_ClassNumber_strip rfl rfl ?_
  refine a_st (σ' := ⟨[(0, (.int .i64 a0)), (1, (eA64u8 a1))], []⟩) (by kernel_rfl) ?_
  unfold impl_ClassNumber_c
  refine a_seq ?_
  refine a_region ?_
  refine a_val (v := (.own 1300 [] [])) (u := [(1300, some ⟨(eA64u8 a1), false⟩)]) rfl trivial rfl ?_
  refine a_val (v := (.int .i64 0)) (u := []) rfl trivial rfl ?_
  refine a_val (v := (.int .i64 0)) (u := []) rfl trivial rfl ?_
  refine a_nil ?_
  refine a_next (σ' := ⟨[(0, (.int .i64 a0)), (3, (.own 3 [] []))], [(3, some ⟨(eA64u8 a1), false⟩)]⟩) (by kernel_rfl) ?_
  refine a_seq ?_
  refine a_region ?_
  refine a_val (v := (.int .i64 a0)) (u := []) rfl trivial rfl ?_
  have hl1 : LdOk [] (eA64u8 a1) [] 64 true (eA64u8 a1) := (.nil rfl rfl rfl)
  refine a_val (v := (eA64u8 a1)) (u := []) (ld_own (i := ⟨.arr 64 5, 64, 64, (eA64u8 (vrep 64 (0 : Int)))⟩) rfl rfl rfl hl1) hl1.c rfl ?_
  obtain ⟨r2, hr3, h⟩ := bind_some h
  refine a_call (args := [(.int .i64 a0), (eA64u8 a1)]) (u := []) (r := (.tuple [(eST_A64u8_A64u8_Z r2.1), (.int .i64 r2.2)])) rfl rfl (impl_ReducedForms_ok a0 a1 r2 hr3) rfl ?_
  refine a_val (v := (.tuple [(eST_A64u8_A64u8_Z r2.1), (.int .i64 r2.2)])) (u := []) rfl trivial rfl ?_
  refine a_val (v := (eST_A64u8_A64u8_Z r2.1)) (u := []) rfl (Nat.le_of_ble_eq_true rfl) rfl ?_
  refine a_val (v := (.int .i64 r2.2)) (u := []) rfl (Nat.le_of_ble_eq_true rfl) rfl ?_
  refine a_val (v := (eST_A64u8_A64u8_Z r2.1)) (u := []) rfl trivial rfl ?_
  refine a_val (v := (.int .i64 r2.2)) (u := []) rfl trivial rfl ?_
  refine a_nil ?_
  refine a_next (σ' := ⟨[(6, (eST_A64u8_A64u8_Z r2.1)), (7, (.int .i64 r2.2))], []⟩) (by kernel_rfl) ?_
  refine a_seq ?_
  refine a_region ?_
  refine a_val (v := (eST_A64u8_A64u8_Z r2.1)) (u := []) rfl trivial rfl ?_
  refine a_val (v := (.int .i64 (r2.1.length : Int))) (u := []) (len_run rfl rfl) trivial rfl ?_
  refine a_val (v := (.int .i64 r2.2)) (u := []) rfl trivial rfl ?_
  refine a_val (v := (.int .i64 (r2.1.length : Int))) (u := []) rfl trivial rfl ?_
  refine a_val (v := (.int .i64 r2.2)) (u := []) rfl trivial rfl ?_
  refine a_nil ?_
  refine a_next rfl ?_
  refine a_ret ?_
  refine ⟨.inr rfl, ?_⟩
  rw [Try.results44]
  cases h
  exact ⟨_, _, _, _, _, rfl, trivial, .inl ⟨rfl, .inl rfl⟩, rfl, ⟨_, _, _, _, _, rfl, trivial, .inl ⟨rfl, .inl rfl⟩, rfl, rfl⟩⟩
def laws_FnExactClassNumber_c : ACode := (.seq (.region 0 [⟨some 3, .box 22 (.tmp 1), none, []⟩, ⟨some 4, .asg 0 (.const (.bool false)) 4, none, []⟩] false) (.seq (.region 1 [⟨some 10, .mov (.tmp 0), none, []⟩, ⟨some 11, .load 22 (.tmp 3), none, []⟩, ⟨some 12, .call 0 (.func 21) [(.tmp 11)], none, []⟩, ⟨some 13, .call 0 (.func 43) [(.tmp 10), (.tmp 12)], none, []⟩, ⟨some 9, .mov (.tmp 13), none, []⟩, ⟨some 14, .extract (.tmp 9) 0, none, []⟩, ⟨some 15, .extract (.tmp 9) 1, none, []⟩, ⟨some 5, .asg 0 (.tmp 14) 2, none, []⟩, ⟨some 6, .asg 0 (.tmp 15) 2, none, []⟩] false) (.seq (.region 2 [⟨some 17, .mov (.tmp 0), none, []⟩, ⟨some 18, .load 22 (.tmp 3), none, []⟩, ⟨some 19, .call 0 (.func 21) [(.tmp 18)], none, []⟩, ⟨some 20, .call 0 (.func 44) [(.tmp 17), (.tmp 19)], none, []⟩, ⟨some 16, .mov (.tmp 20), none, []⟩, ⟨some 21, .extract (.tmp 16) 0, none, []⟩, ⟨some 22, .extract (.tmp 16) 1, none, []⟩, ⟨some 7, .asg 0 (.tmp 21) 2, none, []⟩, ⟨some 8, .asg 0 (.tmp 22) 2, none, []⟩] false) (.seq (.seq (.region 3 [⟨some 23, .mov (.tmp 7), none, []⟩, ⟨some 24, .mov (.tmp 5), none, []⟩, ⟨some 25, .bin .neq 2 (.tmp 23) (.tmp 24), none, []⟩, ⟨some 26, .mov (.tmp 25), none, []⟩, ⟨some 27, .mov (.tmp 8), some (26, false), []⟩, ⟨some 28, .mov (.tmp 6), some (26, false), []⟩, ⟨some 29, .bin .neq 2 (.tmp 27) (.tmp 28), some (26, false), []⟩, ⟨some 30, .pick (.tmp 26) (.const (.bool true)) (.tmp 29), none, []⟩] false) (.cond (.tmp 30) (.seq (.region 4 [⟨some 4, .asg 0 (.const (.bool false)) 4, none, []⟩] false) .ret) .skip)) (.seq (.region 5 [⟨some 4, .asg 0 (.const (.bool true)) 4, none, []⟩] false) .ret)))))
def laws_FnExactClassNumber_L : Live := [(0, [0, 1]), (1, [0, 3]), (2, [0, 3, 5, 6]), (3, [5, 6, 7, 8]), (4, []), (5, []), (100030, [30])]
theorem laws_FnExactClassNumber_body : Try.f12.body = some (Try.f12.body.getD .skip) := by kernel_rfl
theorem laws_FnExactClassNumber_strip : strip [] (Try.f12.body.getD .skip) = laws_FnExactClassNumber_c := by kernel_rfl
noncomputable def laws_FnExactClassNumber (a0 : Int) (a1 : (Vec Int 64)) : Option Bool :=
  (Option.bind (laws_toPoly a1) fun r2 => (Option.bind (spec_ClassNumber a0 r2) fun r4 => (Option.bind (laws_toPoly a1) fun r7 => (Option.bind (impl_ClassNumber a0 r7) fun r9 => (Option.bind (α := Bool) ((if (r9.1 != r4.1) then (some true) else (some (r9.2 != r4.2)))) fun x12 => (if x12 then (some false) else (some true)))))))
set_option maxHeartbeats 16000000 in
theorem laws_FnExactClassNumber_ok (a0 : Int) (a1 : (Vec Int 64)) (r : Bool) (h : laws_FnExactClassNumber a0 a1 = some r) : Den Try.prog 12 [(.int .i64 a0), (eA64u8 a1)] { r := (.bool r) } := by
  refine den_of (rs := [(.bool r)]) (ac := laws_FnExactClassNumber_c) (L := laws_FnExactClassNumber_L) (n := 31) (m := []) good Try.func12 laws_FnExactClassNumber_body (by kernel_rfl) Try.ntmps12 rfl rfl laws_FnExactClassNumber_strip rfl rfl ?_
  refine a_st (σ' := ⟨[(0, (.int .i64 a0)), (1, (eA64u8 a1))], []⟩) (by kernel_rfl) ?_
  unfold laws_FnExactClassNumber_c
  refine a_seq ?_
  refine a_region ?_
  refine a_val (v := (.own 1300 [] [])) (u := [(1300, some ⟨(eA64u8 a1), false⟩)]) rfl trivial rfl ?_
  refine a_val (v := (.bool false)) (u := []) rfl trivial rfl ?_
  refine a_nil ?_
  refine a_next (σ' := ⟨[(0, (.int .i64 a0)), (3, (.own 3 [] []))], [(3, some ⟨(eA64u8 a1), false⟩)]⟩) (by kernel_rfl) ?_
  refine a_seq ?_
  refine a_region ?_
  refine a_val (v := (.int .i64 a0)) (u := []) rfl trivial rfl ?_
  have hl1 : LdOk [] (eA64u8 a1) [] 64 true (eA64u8 a1) := (.nil rfl rfl rfl)
  refine a_val (v := (eA64u8 a1)) (u := []) (ld_own (i := ⟨.arr 64 5, 64, 64, (eA64u8 (vrep 64 (0 : Int)))⟩) rfl rfl rfl hl1) hl1.c rfl ?_
  obtain ⟨r2, hr3, h⟩ := bind_some h
  refine a_call (args := [(eA64u8 a1)]) (u := []) (r := (eA64u8 r2)) rfl rfl (laws_toPoly_ok a1 r2 hr3) rfl ?_
  obtain ⟨r4, hr5, h⟩ := bind_some h
  refine a_call (args := [(.int .i64 a0), (eA64u8 r2)]) (u := []) (r := (.tuple [(.int .i64 r4.1), (.int .i64 r4.2)])) rfl rfl (spec_ClassNumber_ok a0 r2 r4 hr5) rfl ?_
  refine a_val (v := (.tuple [(.int .i64 r4.1), (.int .i64 r4.2)])) (u := []) rfl trivial rfl ?_
  refine a_val (v := (.int .i64 r4.1)) (u := []) rfl (Nat.le_of_ble_eq_true rfl) rfl ?_
  refine a_val (v := (.int .i64 r4.2)) (u := []) rfl (Nat.le_of_ble_eq_true rfl) rfl ?_
  refine a_val (v := (.int .i64 r4.1)) (u := []) rfl trivial rfl ?_
  refine a_val (v := (.int .i64 r4.2)) (u := []) rfl trivial rfl ?_
  refine a_nil ?_
  refine a_next (σ' := ⟨[(0, (.int .i64 a0)), (3, (.own 3 [] [])), (5, (.int .i64 r4.1)), (6, (.int .i64 r4.2))], [(3, some ⟨(eA64u8 a1), false⟩)]⟩) (by kernel_rfl) ?_
  refine a_seq ?_
  refine a_region ?_
  refine a_val (v := (.int .i64 a0)) (u := []) rfl trivial rfl ?_
  have hl6 : LdOk [] (eA64u8 a1) [] 64 true (eA64u8 a1) := (.nil rfl rfl rfl)
  refine a_val (v := (eA64u8 a1)) (u := []) (ld_own (i := ⟨.arr 64 5, 64, 64, (eA64u8 (vrep 64 (0 : Int)))⟩) rfl rfl rfl hl6) hl6.c rfl ?_
  obtain ⟨r7, hr8, h⟩ := bind_some h
  refine a_call (args := [(eA64u8 a1)]) (u := []) (r := (eA64u8 r7)) rfl rfl (laws_toPoly_ok a1 r7 hr8) rfl ?_
  obtain ⟨r9, hr10, h⟩ := bind_some h
  refine a_call (args := [(.int .i64 a0), (eA64u8 r7)]) (u := []) (r := (.tuple [(.int .i64 r9.1), (.int .i64 r9.2)])) rfl rfl (impl_ClassNumber_ok a0 r7 r9 hr10) rfl ?_
  refine a_val (v := (.tuple [(.int .i64 r9.1), (.int .i64 r9.2)])) (u := []) rfl trivial rfl ?_
  refine a_val (v := (.int .i64 r9.1)) (u := []) rfl (Nat.le_of_ble_eq_true rfl) rfl ?_
  refine a_val (v := (.int .i64 r9.2)) (u := []) rfl (Nat.le_of_ble_eq_true rfl) rfl ?_
  refine a_val (v := (.int .i64 r9.1)) (u := []) rfl trivial rfl ?_
  refine a_val (v := (.int .i64 r9.2)) (u := []) rfl trivial rfl ?_
  refine a_nil ?_
  refine a_next (σ' := ⟨[(5, (.int .i64 r4.1)), (6, (.int .i64 r4.2)), (7, (.int .i64 r9.1)), (8, (.int .i64 r9.2))], []⟩) (by kernel_rfl) ?_
  refine a_seq ?_
  obtain ⟨y13, hy14, hk15⟩ := bind_some h
  clear h
  refine a_join (emb := fun (s : Bool) => ⟨[(30, (.bool s))], []⟩) (pre := fun s => s = y13) ?_ ?_
  · rintro x12 rfl
    have h := hk15
    refine a_st (σ' := ⟨[(30, (.bool x12))], []⟩) (by kernel_rfl) ?_
    cases hb17 : x12
    · have h := ite_f hb17 h
      refine a_cond_f rfl ?_
      refine a_skip ?_
      refine a_next (σ' := ⟨[], []⟩) (by kernel_rfl) ?_
      refine a_seq ?_
      refine a_region ?_
      refine a_val (v := (.bool true)) (u := []) rfl trivial rfl ?_
      refine a_nil ?_
      refine a_next rfl ?_
      refine a_ret ?_
      refine ⟨.inr rfl, ?_⟩
      rw [Try.results12]
      cases h
      exact ⟨_, _, _, _, _, rfl, trivial, .inl ⟨rfl, .inl rfl⟩, rfl, rfl⟩
    · have h := ite_t hb17 h
      refine a_cond_t rfl ?_
      refine a_seq ?_
      refine a_region ?_
      refine a_val (v := (.bool false)) (u := []) rfl trivial rfl ?_
      refine a_nil ?_
      refine a_next rfl ?_
      refine a_ret ?_
      refine t_ret ?_
      refine ⟨.inr rfl, ?_⟩
      rw [Try.results12]
      cases h
      exact ⟨_, _, _, _, _, rfl, trivial, .inl ⟨rfl, .inl rfl⟩, rfl, rfl⟩
  · have h := hy14
    refine a_region ?_
    refine a_val (v := (.int .i64 r9.1)) (u := []) rfl trivial rfl ?_
    refine a_val (v := (.int .i64 r4.1)) (u := []) rfl trivial rfl ?_
    refine a_val (v := (.bool (r9.1 != r4.1))) (u := []) rfl trivial rfl ?_
    refine a_val (v := (.bool (r9.1 != r4.1))) (u := []) rfl trivial rfl ?_
    cases hb16 : (r9.1 != r4.1)
    · have h := ite_f hb16 h
      refine a_gval rfl (v := (.int .i64 r9.2)) (u := []) rfl trivial rfl ?_
      refine a_gval rfl (v := (.int .i64 r4.2)) (u := []) rfl trivial rfl ?_
      refine a_gval rfl (v := (.bool (r9.2 != r4.2))) (u := []) rfl trivial rfl ?_
      refine a_val (v := (.bool (r9.2 != r4.2))) (u := []) rfl trivial rfl ?_
      refine a_nil ?_
      exact j_leaf (r9.2 != r4.2) (Option.some.inj h) (by kernel_rfl)
    · have h := ite_t hb16 h
      refine a_gskip rfl ?_
      refine a_gskip rfl ?_
      refine a_gskip rfl ?_
      refine a_val (v := (.bool true)) (u := []) rfl trivial rfl ?_
      refine a_nil ?_
      exact j_leaf true (Option.some.inj h) (by kernel_rfl)
def impl_row_fits_c : ACode := (.seq (.region 0 [⟨some 2, .asg 0 (.const (.bool false)) 4, none, []⟩] false) (.seq (.region 1 [⟨some 3, .mov (.tmp 0), none, []⟩, ⟨some 4, .call 0 (.func 89) [(.tmp 3)], none, []⟩, ⟨some 5, .bin .leq 2 (.tmp 4) (.const (.int .i64 63)), none, []⟩, ⟨some 2, .asg 0 (.tmp 5) 4, none, []⟩] false) .ret))
def impl_row_fits_L : Live := [(0, [0]), (1, [0])]
theorem impl_row_fits_body : Try.f112.body = some (Try.f112.body.getD .skip) := by kernel_rfl
theorem impl_row_fits_strip : strip [] (Try.f112.body.getD .skip) = impl_row_fits_c := by kernel_rfl
noncomputable def impl_row_fits (a0 : (List Int)) : Option Bool :=
  (Option.bind (impl_row_degree a0) fun r1 => (some ((decide (r1 ≤ 63)))))
set_option maxHeartbeats 16000000 in
theorem impl_row_fits_ok (a0 : (List Int)) (r : Bool) (h : impl_row_fits a0 = some r) : Den Try.prog 112 [(eSi64 a0)] { r := (.bool r) } := by
  refine den_of (rs := [(.bool r)]) (ac := impl_row_fits_c) (L := impl_row_fits_L) (n := 6) (m := []) good Try.func112 impl_row_fits_body (by kernel_rfl) Try.ntmps112 rfl rfl impl_row_fits_strip rfl rfl ?_
  refine a_st (σ' := ⟨[(0, (eSi64 a0))], []⟩) (by kernel_rfl) ?_
  unfold impl_row_fits_c
  refine a_seq ?_
  refine a_region ?_
  refine a_val (v := (.bool false)) (u := []) rfl trivial rfl ?_
  refine a_nil ?_
  refine a_next (σ' := ⟨[(0, (eSi64 a0))], []⟩) (by kernel_rfl) ?_
  refine a_seq ?_
  refine a_region ?_
  refine a_val (v := (eSi64 a0)) (u := []) rfl trivial rfl ?_
  obtain ⟨r1, hr2, h⟩ := bind_some h
  refine a_call (args := [(eSi64 a0)]) (u := []) (r := (.int .i64 r1)) rfl rfl (impl_row_degree_ok a0 r1 hr2) rfl ?_
  refine a_val (v := (.bool ((decide (r1 ≤ 63))))) (u := []) rfl trivial rfl ?_
  refine a_val (v := (.bool ((decide (r1 ≤ 63))))) (u := []) rfl trivial rfl ?_
  refine a_nil ?_
  refine a_next rfl ?_
  refine a_ret ?_
  refine ⟨.inr rfl, ?_⟩
  rw [Try.results112]
  cases h
  exact ⟨_, _, _, _, _, rfl, trivial, .inl ⟨rfl, .inl rfl⟩, rfl, rfl⟩
def impl_told_c : ACode := (.seq (.region 0 [⟨some 2, .alloc 23, none, []⟩, ⟨some 3, .asg 0 (.const (.int .i64 0)) 2, none, []⟩] false) (.seq (.seq (.region 1 [⟨some 4, .mov (.tmp 0), none, []⟩, ⟨some 5, .call 0 (.func 112) [(.tmp 4)], none, []⟩, ⟨some 6, .un .not (.tmp 5), none, []⟩] false) (.cond (.tmp 6) (.seq (.region 2 [⟨some 7, .build 23 [], none, []⟩, ⟨none, .store 23 (.tmp 2) (.tmp 7), none, []⟩, ⟨some 3, .asg 0 (.const (.int .i64 3)) 2, none, []⟩] false) .ret) .skip)) (.seq (.region 3 [⟨some 8, .mov (.tmp 0), none, []⟩, ⟨some 9, .call 0 (.func 101) [(.tmp 8)], none, []⟩, ⟨none, .store 23 (.tmp 2) (.tmp 9), none, []⟩, ⟨some 3, .asg 0 (.const (.int .i64 0)) 2, none, []⟩] false) .ret)))
def impl_told_L : Live := [(0, [0]), (1, [0, 2]), (2, [2]), (3, [0, 2]), (100006, [0, 2, 6])]
theorem impl_told_body : Try.f58.body = some (Try.f58.body.getD .skip) := by kernel_rfl
theorem impl_told_strip : strip [] (Try.f58.body.getD .skip) = impl_told_c := by kernel_rfl
noncomputable def impl_told (a0 : (List Int)) : Option ((Vec Int 64) × Int) :=
  (Option.bind (impl_row_fits a0) fun r1 => (if (!r1) then (some (((vrep 64 (0 : Int)), 3))) else (Option.bind (impl_row_poly a0) fun r4 => (some (r4, 0)))))
set_option maxHeartbeats 16000000 in
theorem impl_told_ok (a0 : (List Int)) (r : ((Vec Int 64) × Int)) (h : impl_told a0 = some r) : Den Try.prog 58 [(eSi64 a0)] { r := (.tuple [(eA64u8 r.1), (.int .i64 r.2)]) } := by
  refine den_of (rs := [(eA64u8 r.1), (.int .i64 r.2)]) (ac := impl_told_c) (L := impl_told_L) (n := 10) (m := []) good Try.func58 impl_told_body (by kernel_rfl) Try.ntmps58 rfl rfl impl_told_strip rfl rfl ?_
  refine a_st (σ' := ⟨[(0, (eSi64 a0))], []⟩) (by kernel_rfl) ?_
  unfold impl_told_c
  refine a_seq ?_
  refine a_region ?_
  refine a_val (v := (.own 1200 [] [])) (u := [(1200, some ⟨(eA64u8 ((vrep 64 (0 : Int)))), false⟩)]) rfl trivial rfl ?_
  refine a_val (v := (.int .i64 0)) (u := []) rfl trivial rfl ?_
  refine a_nil ?_
  refine a_next (σ' := ⟨[(0, (eSi64 a0)), (2, (.own 2 [] []))], [(2, some ⟨(eA64u8 ((vrep 64 (0 : Int)))), false⟩)]⟩) (by kernel_rfl) ?_
  refine a_seq ?_
  refine a_seq ?_
  refine a_region ?_
  refine a_val (v := (eSi64 a0)) (u := []) rfl trivial rfl ?_
  obtain ⟨r1, hr2, h⟩ := bind_some h
  refine a_call (args := [(eSi64 a0)]) (u := []) (r := (.bool r1)) rfl rfl (impl_row_fits_ok a0 r1 hr2) rfl ?_
  refine a_val (v := (.bool (!r1))) (u := []) rfl trivial rfl ?_
  refine a_nil ?_
  refine a_next (σ' := ⟨[(0, (eSi64 a0)), (2, (.own 2 [] [])), (6, (.bool (!r1)))], [(2, some ⟨(eA64u8 ((vrep 64 (0 : Int)))), false⟩)]⟩) (by kernel_rfl) ?_
  cases hb3 : (!r1)
  · have h := ite_f hb3 h
    refine a_cond_f rfl ?_
    refine a_skip ?_
    refine a_next (σ' := ⟨[(0, (eSi64 a0)), (2, (.own 2 [] []))], [(2, some ⟨(eA64u8 ((vrep 64 (0 : Int)))), false⟩)]⟩) (by kernel_rfl) ?_
    refine a_seq ?_
    refine a_region ?_
    refine a_val (v := (eSi64 a0)) (u := []) rfl trivial rfl ?_
    obtain ⟨r4, hr5, h⟩ := bind_some h
    refine a_call (args := [(eSi64 a0)]) (u := []) (r := (eA64u8 r4)) rfl rfl (impl_row_poly_ok a0 r4 hr5) rfl ?_
    have hs6 : StOk [] (eA64u8 ((vrep 64 (0 : Int)))) [] 64 (eA64u8 r4) (eA64u8 r4) := (.nil rfl rfl rfl rfl)
    refine a_val (v := .top) (u := [(2, some ⟨(eA64u8 r4), false⟩)]) (st_own (i := ⟨.arr 64 5, 64, 64, (eA64u8 (vrep 64 (0 : Int)))⟩) rfl rfl (fun _ => rfl) rfl hs6) (hs6.c rfl) rfl ?_
    refine a_val (v := (.int .i64 0)) (u := []) rfl trivial rfl ?_
    refine a_nil ?_
    refine a_next rfl ?_
    refine a_ret ?_
    have hl7 : LdOk [] (eA64u8 r4) [] 64 true (eA64u8 r4) := (.nil rfl rfl rfl)
    refine ⟨.inr rfl, ?_⟩
    rw [Try.results58]
    cases h
    exact ⟨_, _, _, _, _, ld_own (i := ⟨.arr 64 5, 64, 64, (eA64u8 (vrep 64 (0 : Int)))⟩) rfl rfl rfl hl7, hl7.c, .inl ⟨rfl, .inl rfl⟩, rfl, ⟨_, _, _, _, _, rfl, trivial, .inl ⟨rfl, .inl rfl⟩, rfl, rfl⟩⟩
  · have h := ite_t hb3 h
    refine a_cond_t rfl ?_
    refine a_seq ?_
    refine a_region ?_
    refine a_val (v := (eA64u8 ((vrep 64 (0 : Int))))) (u := []) rfl ⟨⟨_, rfl, rfl⟩, all_nil⟩ rfl ?_
    have hs8 : StOk [] (eA64u8 ((vrep 64 (0 : Int)))) [] 64 (eA64u8 ((vrep 64 (0 : Int)))) (eA64u8 ((vrep 64 (0 : Int)))) := (.nil rfl rfl rfl rfl)
    refine a_val (v := .top) (u := [(2, some ⟨(eA64u8 ((vrep 64 (0 : Int)))), false⟩)]) (st_own (i := ⟨.arr 64 5, 64, 64, (eA64u8 (vrep 64 (0 : Int)))⟩) rfl rfl (fun _ => rfl) rfl hs8) (hs8.c rfl) rfl ?_
    refine a_val (v := (.int .i64 3)) (u := []) rfl trivial rfl ?_
    refine a_nil ?_
    refine a_next rfl ?_
    refine a_ret ?_
    refine t_ret ?_
    have hl9 : LdOk [] (eA64u8 ((vrep 64 (0 : Int)))) [] 64 true (eA64u8 ((vrep 64 (0 : Int)))) := (.nil rfl rfl rfl)
    refine ⟨.inr rfl, ?_⟩
    rw [Try.results58]
    cases h
    exact ⟨_, _, _, _, _, ld_own (i := ⟨.arr 64 5, 64, 64, (eA64u8 (vrep 64 (0 : Int)))⟩) rfl rfl rfl hl9, hl9.c, .inl ⟨rfl, .inl rfl⟩, rfl, ⟨_, _, _, _, _, rfl, trivial, .inl ⟨rfl, .inl rfl⟩, rfl, rfl⟩⟩
end Go.Proofs.Ytgodhgbnjlflmaa
