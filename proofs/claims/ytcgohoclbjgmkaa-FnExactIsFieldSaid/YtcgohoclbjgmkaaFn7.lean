/- Functions of the program: plain Lean functions, and that the program computes them. Printed by gen.py. -/
import Derived.Test.YtcgohoclbjgmkaaFnT
import Derived.Test.YtcgohoclbjgmkaaFn1
import Derived.Test.YtcgohoclbjgmkaaFn4
import Derived.Test.YtcgohoclbjgmkaaFn5
import Derived.Test.YtcgohoclbjgmkaaFn6
namespace Go.Proofs.Ytcgohoclbjgmkaa
open Go.Abs Go.Proofs
set_option linter.unusedSimpArgs false
set_option linter.unusedVariables false
attribute [local irreducible] Abs.acode Abs.aops Abs.aopsT Abs.thenK Abs.blockK

def slices_insertionSortCmpFunc_impl_factor_of_mut_impl_prime_factors_c1_c : ACode := (.seq (.region 0 [⟨some 10, .mov (.tmp 1), none, []⟩, ⟨some 11, .bin .add 3 (.tmp 10) (.const (.int .i64 1)), none, []⟩, ⟨some 8, .asg 0 (.tmp 11) 3, none, []⟩] false) (.block 0 (.loop (.seq (.seq (.region 1 [⟨some 12, .mov (.tmp 8), none, []⟩, ⟨some 13, .mov (.tmp 2), none, []⟩, ⟨some 14, .bin .lss 3 (.tmp 12) (.tmp 13), none, []⟩] false) (.cond (.tmp 14) .skip (.exit 0))) (.seq (.block 1 (.seq (.region 3 [⟨some 17, .mov (.tmp 8), none, []⟩, ⟨some 9, .asg 0 (.tmp 17) 3, none, []⟩] false) (.block 2 (.loop (.seq (.seq (.region 4 [⟨some 18, .mov (.tmp 9), none, []⟩, ⟨some 19, .mov (.tmp 1), none, []⟩, ⟨some 20, .bin .gtr 3 (.tmp 18) (.tmp 19), none, [0, 1]⟩, ⟨some 21, .mov (.tmp 20), none, [2]⟩, ⟨some 22, .mov (.tmp 3), some (21, true), [3]⟩, ⟨some 23, .mov (.tmp 0), some (21, true), [3]⟩, ⟨some 24, .mov (.tmp 9), some (21, true), [3]⟩, ⟨some 25, .indexAddr 68 (.tmp 23) (.tmp 24), some (21, true), [5, 6, 3]⟩, ⟨some 26, .load 71 (.tmp 25), some (21, true), [7, 3]⟩, ⟨some 27, .mov (.tmp 0), some (21, true), [3]⟩, ⟨some 28, .mov (.tmp 9), some (21, true), [3]⟩, ⟨some 29, .bin .sub 3 (.tmp 28) (.const (.int .i64 1)), some (21, true), [10, 3]⟩, ⟨some 30, .indexAddr 68 (.tmp 27) (.tmp 29), some (21, true), [9, 11, 3]⟩, ⟨some 31, .load 71 (.tmp 30), some (21, true), [12, 3]⟩, ⟨some 32, .call 0 (.tmp 22) [(.tmp 26), (.tmp 31)], some (21, true), [4, 8, 13, 3, 3]⟩, ⟨some 33, .bin .lss 3 (.tmp 32) (.const (.int .i64 0)), some (21, true), [14, 3]⟩, ⟨some 34, .pick (.tmp 21) (.tmp 33) (.const (.bool false)), none, [3, 15]⟩] true) (.cond (.tmp 34) .skip (.exit 2))) (.seq (.block 3 (.region 6 [⟨some 37, .mov (.tmp 0), none, []⟩, ⟨some 38, .mov (.tmp 9), none, []⟩, ⟨some 39, .mov (.tmp 0), none, []⟩, ⟨some 40, .mov (.tmp 9), none, []⟩, ⟨some 41, .bin .sub 3 (.tmp 40) (.const (.int .i64 1)), none, [3]⟩, ⟨some 42, .mov (.tmp 0), none, []⟩, ⟨some 43, .mov (.tmp 9), none, []⟩, ⟨some 44, .bin .sub 3 (.tmp 43) (.const (.int .i64 1)), none, [6]⟩, ⟨some 45, .indexAddr 68 (.tmp 42) (.tmp 44), none, [5, 7]⟩, ⟨some 46, .load 71 (.tmp 45), none, [8]⟩, ⟨some 47, .mov (.tmp 0), none, []⟩, ⟨some 48, .mov (.tmp 9), none, []⟩, ⟨some 49, .indexAddr 68 (.tmp 47) (.tmp 48), none, [10, 11]⟩, ⟨some 50, .load 71 (.tmp 49), none, [12]⟩, ⟨some 51, .indexAddr 68 (.tmp 37) (.tmp 38), none, [0, 1, 0, 1, 5, 6, 7, 8, 9, 13]⟩, ⟨none, .store 71 (.tmp 51) (.tmp 46), none, [14, 9, 0, 1, 5, 6, 7, 8, 9, 13]⟩, ⟨some 52, .indexAddr 68 (.tmp 39) (.tmp 41), none, [2, 4, 0, 1, 2, 3, 4, 5, 6, 7, 8, 9, 10, 11, 12, 13, 14, 15]⟩, ⟨none, .store 71 (.tmp 52) (.tmp 50), none, [16, 13, 15, 0, 1, 2, 3, 4, 5, 6, 7, 8, 9, 10, 11, 12, 13, 14, 15]⟩] true)) (.region 5 [⟨some 35, .mov (.tmp 9), none, []⟩, ⟨some 36, .bin .sub 3 (.tmp 35) (.const (.int .i64 1)), none, []⟩, ⟨some 9, .asg 0 (.tmp 36) 3, none, []⟩] false))))))) (.region 2 [⟨some 15, .mov (.tmp 8), none, []⟩, ⟨some 16, .bin .add 3 (.tmp 15) (.const (.int .i64 1)), none, []⟩, ⟨some 8, .asg 0 (.tmp 16) 3, none, []⟩] false))))))
def slices_insertionSortCmpFunc_impl_factor_of_mut_impl_prime_factors_c1_L : Live := [(0, [0, 1, 2, 3]), (1, [0, 1, 2, 3, 8]), (2, [0, 1, 2, 3, 8]), (3, [0, 1, 2, 3, 8]), (4, [0, 1, 2, 3, 8, 9]), (5, [0, 1, 2, 3, 8, 9]), (6, [0, 1, 2, 3, 8, 9]), (100014, [0, 1, 2, 3, 8, 14]), (100034, [0, 1, 2, 3, 8, 9, 34])]
theorem slices_insertionSortCmpFunc_impl_factor_of_mut_impl_prime_factors_c1_body : Try.f153.body = some (Try.f153.body.getD .skip) := by kernel_rfl
theorem slices_insertionSortCmpFunc_impl_factor_of_mut_impl_prime_factors_c1_strip : strip [] (Try.f153.body.getD .skip) = slices_insertionSortCmpFunc_impl_factor_of_mut_impl_prime_factors_c1_c := by kernel_rfl
noncomputable def slices_insertionSortCmpFunc_impl_factor_of_mut_impl_prime_factors_c1_l2 (a1 : Int) (x859 : Int) (x860 : (List ((List Int) × Int))) : Option ((Int × (List ((List Int) × Int))) ⊕ (List ((List Int) × Int))) :=
  (Option.bind (α := Bool) ((if (decide (x859 > a1)) then (ifp (0 ≤ x859 ∧ x859 < ((x860.length : Nat) : Int)) ((ifp (0 ≤ IntKind.i64.wrap (x859 - 1) ∧ IntKind.i64.wrap (x859 - 1) < ((x860.length : Nat) : Int)) ((Option.bind (impl_prime_factors_c1 (rd x860 x859.toNat) ((rd x860 (IntKind.i64.wrap (x859 - 1)).toNat))) fun r943 => (some ((decide (r943 < 0))))))))) else (some false))) fun x927 => (if x927 then (ifp (0 ≤ IntKind.i64.wrap (x859 - 1) ∧ IntKind.i64.wrap (x859 - 1) < ((x860.length : Nat) : Int)) ((ifp (0 ≤ x859 ∧ x859 < ((x860.length : Nat) : Int)) ((ifp (0 ≤ x859 ∧ x859 < ((x860.length : Nat) : Int)) ((ifp (0 ≤ IntKind.i64.wrap (x859 - 1) ∧ IntKind.i64.wrap (x859 - 1) < ((((x860.set x859.toNat ((rd x860 (IntKind.i64.wrap (x859 - 1)).toNat)))).length : Nat) : Int)) ((some (.inl ((IntKind.i64.wrap (x859 - 1), (((x860.set x859.toNat ((rd x860 (IntKind.i64.wrap (x859 - 1)).toNat)))).set (IntKind.i64.wrap (x859 - 1)).toNat (rd x860 x859.toNat)))))))))))))) else (some (.inr x860))))
noncomputable def slices_insertionSortCmpFunc_impl_factor_of_mut_impl_prime_factors_c1_l1 (a2 : Int) (a1 : Int) (x336 : Int) (x337 : (List ((List Int) × Int))) : Option ((Int × (List ((List Int) × Int))) ⊕ (List ((List Int) × Int))) :=
  (if (decide (x336 < a2)) then (Option.bind (α := (List ((List Int) × Int))) ((loopM (fun s : (Int × (List ((List Int) × Int))) => slices_insertionSortCmpFunc_impl_factor_of_mut_impl_prime_factors_c1_l2 a1 s.1 s.2) (x336, x337))) fun x806 => (some (.inl ((IntKind.i64.wrap (x336 + 1), x806))))) else (some (.inr x337)))
noncomputable def slices_insertionSortCmpFunc_impl_factor_of_mut_impl_prime_factors_c1 (a0 : (List ((List Int) × Int))) (a1 : Int) (a2 : Int) : Option (List ((List Int) × Int)) :=
  (loopM (fun s : (Int × (List ((List Int) × Int))) => slices_insertionSortCmpFunc_impl_factor_of_mut_impl_prime_factors_c1_l1 a2 a1 s.1 s.2) (IntKind.i64.wrap (a1 + 1), a0))
set_option maxHeartbeats 16000000 in
theorem slices_insertionSortCmpFunc_impl_factor_of_mut_impl_prime_factors_c1_ok (a0 : (List ((List Int) × Int))) (a1 : Int) (a2 : Int) (r : (List ((List Int) × Int))) (h : slices_insertionSortCmpFunc_impl_factor_of_mut_impl_prime_factors_c1 a0 a1 a2 = some r) : Den Try.prog 153 [(.mutsl 2 (a0.map eT_Si64_i64_Z)), (.int .i64 a1), (.int .i64 a2), (.clo 114 [] [])] { r := (.tuple []), ms := [(.row 2 (r.map eT_Si64_i64_Z))], fs := [] } := by
  refine den_ofX (rs := []) (ac := slices_insertionSortCmpFunc_impl_factor_of_mut_impl_prime_factors_c1_c) (L := slices_insertionSortCmpFunc_impl_factor_of_mut_impl_prime_factors_c1_L) (n := 53) (m := []) good Try.func153 slices_insertionSortCmpFunc_impl_factor_of_mut_impl_prime_factors_c1_body (by kernel_rfl) Try.ntmps153 rfl rfl slices_insertionSortCmpFunc_impl_factor_of_mut_impl_prime_factors_c1_strip rfl ?_
  refine a_st (σ' := ⟨[(0, (.osl 1000000)), (1, (.int .i64 a1)), (2, (.int .i64 a2)), (3, (.clo 114 [] []))], [(1000000, some ⟨(.row 2 (a0.map eT_Si64_i64_Z)), false⟩)]⟩) (by kernel_rfl) ?_
  unfold slices_insertionSortCmpFunc_impl_factor_of_mut_impl_prime_factors_c1_c
  refine a_seq ?_
  refine a_region ?_
  refine a_val (v := (.int .i64 a1)) (u := []) rfl trivial rfl ?_
  refine a_val (v := (.int .i64 (IntKind.i64.wrap (a1 + 1)))) (u := []) rfl trivial rfl ?_
  refine a_val (v := (.int .i64 (IntKind.i64.wrap (a1 + 1)))) (u := []) rfl trivial rfl ?_
  refine a_nil ?_
  refine a_next (σ' := ⟨[(0, (.osl 1000000)), (1, (.int .i64 a1)), (2, (.int .i64 a2)), (3, (.clo 114 [] [])), (8, (.int .i64 (IntKind.i64.wrap (a1 + 1))))], [(1000000, some ⟨(.row 2 (a0.map eT_Si64_i64_Z)), false⟩)]⟩) (by kernel_rfl) ?_
  refine a_block ?_
  refine a_loop (emb := fun (s : (Int × (List ((List Int) × Int)))) => ⟨[(0, (.osl 1000000)), (1, (.int .i64 a1)), (2, (.int .i64 a2)), (3, (.clo 114 [] [])), (8, (.int .i64 s.1))], [(1000000, some ⟨(.row 2 (s.2.map eT_Si64_i64_Z)), false⟩)]⟩) (body := (fun s : (Int × (List ((List Int) × Int))) => slices_insertionSortCmpFunc_impl_factor_of_mut_impl_prime_factors_c1_l1 a2 a1 s.1 s.2)) (G := fun q => some q = some r) h rfl ?_ (by kernel_rfl)
  rintro X649 ⟨x336, x337⟩ x650 h hX651
  have h : slices_insertionSortCmpFunc_impl_factor_of_mut_impl_prime_factors_c1_l1 a2 a1 x336 x337 = some x650 := h
  refine a_st (σ' := ⟨[(0, (.osl 1000000)), (1, (.int .i64 a1)), (2, (.int .i64 a2)), (3, (.clo 114 [] [])), (8, (.int .i64 x336))], [(1000000, some ⟨(.row 2 (x337.map eT_Si64_i64_Z)), false⟩)]⟩) (by kernel_rfl) ?_
  refine a_seq ?_
  refine a_seq ?_
  refine a_region ?_
  refine a_val (v := (.int .i64 x336)) (u := []) rfl trivial rfl ?_
  refine a_val (v := (.int .i64 a2)) (u := []) rfl trivial rfl ?_
  refine a_val (v := (.bool ((decide (x336 < a2))))) (u := []) rfl trivial rfl ?_
  refine a_nil ?_
  refine a_next (σ' := ⟨[(0, (.osl 1000000)), (1, (.int .i64 a1)), (2, (.int .i64 a2)), (3, (.clo 114 [] [])), (8, (.int .i64 x336)), (14, (.bool ((decide (x336 < a2)))))], [(1000000, some ⟨(.row 2 (x337.map eT_Si64_i64_Z)), false⟩)]⟩) (by kernel_rfl) ?_
  cases hb652 : (decide (x336 < a2))
  · have h := ite_f hb652 h
    refine a_cond_f rfl ?_
    refine a_exit ?_
    refine t_exit ?_
    cases h
    have h := hX651
    refine t_exit ?_
    refine b_exit ?_
    refine ⟨.inl rfl, ?_⟩
    rw [Try.results153]
    cases h
    exact ⟨[], ⟨rfl, rfl, rfl⟩, rfl, ⟨_, _, rfl, rfl, rfl⟩⟩
  · have h := ite_t hb652 h
    refine a_cond_t rfl ?_
    refine a_skip ?_
    refine a_next (σ' := ⟨[(0, (.osl 1000000)), (1, (.int .i64 a1)), (2, (.int .i64 a2)), (3, (.clo 114 [] [])), (8, (.int .i64 x336))], [(1000000, some ⟨(.row 2 (x337.map eT_Si64_i64_Z)), false⟩)]⟩) (by kernel_rfl) ?_
    obtain ⟨y807, hy808, hk809⟩ := bind_some h
    clear h
    refine a_join (emb := fun (s : (List ((List Int) × Int))) => ⟨[(0, (.osl 1000000)), (1, (.int .i64 a1)), (2, (.int .i64 a2)), (3, (.clo 114 [] [])), (8, (.int .i64 x336))], [(1000000, some ⟨(.row 2 (s.map eT_Si64_i64_Z)), false⟩)]⟩) (pre := fun s => s = y807) ?_ ?_
    · rintro x806 rfl
      have h := hk809
      refine a_st (σ' := ⟨[(0, (.osl 1000000)), (1, (.int .i64 a1)), (2, (.int .i64 a2)), (3, (.clo 114 [] [])), (8, (.int .i64 x336))], [(1000000, some ⟨(.row 2 (x806.map eT_Si64_i64_Z)), false⟩)]⟩) (by kernel_rfl) ?_
      refine a_region ?_
      refine a_val (v := (.int .i64 x336)) (u := []) rfl trivial rfl ?_
      refine a_val (v := (.int .i64 (IntKind.i64.wrap (x336 + 1)))) (u := []) rfl trivial rfl ?_
      refine a_val (v := (.int .i64 (IntKind.i64.wrap (x336 + 1)))) (u := []) rfl trivial rfl ?_
      refine a_nil ?_
      cases h
      exact a_again (by kernel_rfl) hX651
    · have h := hy808
      refine a_block ?_
      refine a_seq ?_
      refine a_region ?_
      refine a_val (v := (.int .i64 x336)) (u := []) rfl trivial rfl ?_
      refine a_val (v := (.int .i64 x336)) (u := []) rfl trivial rfl ?_
      refine a_nil ?_
      refine a_next (σ' := ⟨[(0, (.osl 1000000)), (1, (.int .i64 a1)), (2, (.int .i64 a2)), (3, (.clo 114 [] [])), (8, (.int .i64 x336)), (9, (.int .i64 x336))], [(1000000, some ⟨(.row 2 (x337.map eT_Si64_i64_Z)), false⟩)]⟩) (by kernel_rfl) ?_
      refine a_block ?_
      refine a_loop (emb := fun (s : (Int × (List ((List Int) × Int)))) => ⟨[(0, (.osl 1000000)), (1, (.int .i64 a1)), (2, (.int .i64 a2)), (3, (.clo 114 [] [])), (8, (.int .i64 x336)), (9, (.int .i64 s.1))], [(1000000, some ⟨(.row 2 (s.2.map eT_Si64_i64_Z)), false⟩)]⟩) (body := (fun s : (Int × (List ((List Int) × Int))) => slices_insertionSortCmpFunc_impl_factor_of_mut_impl_prime_factors_c1_l2 a1 s.1 s.2)) (G := fun q => some q = some y807) h rfl ?_ (by kernel_rfl)
      rintro X910 ⟨x859, x860⟩ x911 h hX912
      have h : slices_insertionSortCmpFunc_impl_factor_of_mut_impl_prime_factors_c1_l2 a1 x859 x860 = some x911 := h
      refine a_st (σ' := ⟨[(0, (.osl 1000000)), (1, (.int .i64 a1)), (2, (.int .i64 a2)), (3, (.clo 114 [] [])), (8, (.int .i64 x336)), (9, (.int .i64 x859))], [(1000000, some ⟨(.row 2 (x860.map eT_Si64_i64_Z)), false⟩)]⟩) (by kernel_rfl) ?_
      refine a_seq ?_
      obtain ⟨y928, hy929, hk930⟩ := bind_some h
      clear h
      refine a_join (emb := fun (s : Bool) => ⟨[(0, (.osl 1000000)), (1, (.int .i64 a1)), (2, (.int .i64 a2)), (3, (.clo 114 [] [])), (8, (.int .i64 x336)), (9, (.int .i64 x859)), (34, (.bool s))], [(1000000, some ⟨(.row 2 (x860.map eT_Si64_i64_Z)), false⟩)]⟩) (pre := fun s => s = y928) ?_ ?_
      · rintro x927 rfl
        have h := hk930
        refine a_st (σ' := ⟨[(0, (.osl 1000000)), (1, (.int .i64 a1)), (2, (.int .i64 a2)), (3, (.clo 114 [] [])), (8, (.int .i64 x336)), (9, (.int .i64 x859)), (34, (.bool x927))], [(1000000, some ⟨(.row 2 (x860.map eT_Si64_i64_Z)), false⟩)]⟩) (by kernel_rfl) ?_
        cases hb945 : x927
        · have h := ite_f hb945 h
          refine a_cond_f rfl ?_
          refine a_exit ?_
          refine t_exit ?_
          cases h
          have h := hX912
          refine t_exit ?_
          refine b_exit ?_
          refine b_norm ?_
          exact j_leaf x860 (Option.some.inj h) (by kernel_rfl)
        · have h := ite_t hb945 h
          refine a_cond_t rfl ?_
          refine a_skip ?_
          refine a_next (σ' := ⟨[(0, (.osl 1000000)), (1, (.int .i64 a1)), (2, (.int .i64 a2)), (3, (.clo 114 [] [])), (8, (.int .i64 x336)), (9, (.int .i64 x859))], [(1000000, some ⟨(.row 2 (x860.map eT_Si64_i64_Z)), false⟩)]⟩) (by kernel_rfl) ?_
          refine a_seq ?_
          refine a_block ?_
          refine a_draw [⟨[], [], [1000000], []⟩, ⟨[], [], [], []⟩, ⟨[], [], [1000000], []⟩, ⟨[], [], [], []⟩, ⟨[], [], [], [3]⟩, ⟨[], [], [1000000], []⟩, ⟨[], [], [], []⟩, ⟨[], [], [], [6]⟩, ⟨[1000000], [], [1000000], [5, 6, 7]⟩, ⟨[1000000], [], [], [5, 6, 7, 8]⟩, ⟨[], [], [1000000], []⟩, ⟨[], [], [], []⟩, ⟨[1000000], [], [1000000], [10, 11]⟩, ⟨[1000000], [], [], [10, 11, 12]⟩, ⟨[1000000], [], [1000000], [0, 1, 5, 6, 7, 8, 9, 10, 11, 12, 13]⟩, ⟨[1000000], [1000000], [], [0, 1, 5, 6, 7, 8, 9, 10, 11, 12, 13, 14]⟩, ⟨[1000000], [], [1000000], [0, 1, 2, 3, 4, 5, 6, 7, 8, 9, 10, 11, 12, 13, 14, 15]⟩, ⟨[1000000], [1000000], [], [0, 1, 2, 3, 4, 5, 6, 7, 8, 9, 10, 11, 12, 13, 14, 15, 16]⟩] (by kernel_rfl) ?_
          refine d_cons ?_
          refine a_val (v := (.osl 1000000)) (u := []) rfl trivial rfl ?_
          refine d_next (by kernel_rfl) ?_
          refine d_cons ?_
          refine a_val (v := (.int .i64 x859)) (u := []) rfl trivial rfl ?_
          refine d_next (by kernel_rfl) ?_
          refine d_cons ?_
          refine a_val (v := (.osl 1000000)) (u := []) rfl trivial rfl ?_
          refine d_next (by kernel_rfl) ?_
          refine d_cons ?_
          refine a_val (v := (.int .i64 x859)) (u := []) rfl trivial rfl ?_
          refine d_next (by kernel_rfl) ?_
          refine d_cons ?_
          refine a_val (v := (.int .i64 (IntKind.i64.wrap (x859 - 1)))) (u := []) rfl trivial rfl ?_
          refine d_next (by kernel_rfl) ?_
          refine d_cons ?_
          refine a_val (v := (.osl 1000000)) (u := []) rfl trivial rfl ?_
          refine d_next (by kernel_rfl) ?_
          refine d_cons ?_
          refine a_val (v := (.int .i64 x859)) (u := []) rfl trivial rfl ?_
          refine d_next (by kernel_rfl) ?_
          refine d_cons ?_
          refine a_val (v := (.int .i64 (IntKind.i64.wrap (x859 - 1)))) (u := []) rfl trivial rfl ?_
          refine d_next (by kernel_rfl) ?_
          refine d_cons ?_
          obtain ⟨hc954, h⟩ := ifp_some h
          refine a_val (v := (.own 1000000 [(IntKind.i64.wrap (x859 - 1)).toNat] [(IntKind.i64.wrap (x859 - 1)).toNat * 2])) (u := []) rfl (lmap hc954) rfl ?_
          refine d_next (by kernel_rfl) ?_
          refine d_cons ?_
          have hl955 : LdOk [(IntKind.i64.wrap (x859 - 1)).toNat] (.row 2 (x860.map eT_Si64_i64_Z)) [(IntKind.i64.wrap (x859 - 1)).toNat * 2] 2 true (eT_Si64_i64_Z ((rd x860 (IntKind.i64.wrap (x859 - 1)).toNat))) := (.row (llt hc954) rfl (.nil rfl rfl rfl))
          refine a_val (v := (eT_Si64_i64_Z ((rd x860 (IntKind.i64.wrap (x859 - 1)).toNat)))) (u := []) (ld_own (i := ⟨.struct [(0, 65), (1, 2)], 2, 32, (eT_Si64_i64_Z ([], (0 : Int)))⟩) rfl rfl rfl hl955) hl955.c rfl ?_
          refine d_next (by kernel_rfl) ?_
          refine d_cons ?_
          refine a_val (v := (.osl 1000000)) (u := []) rfl trivial rfl ?_
          refine d_next (by kernel_rfl) ?_
          refine d_cons ?_
          refine a_val (v := (.int .i64 x859)) (u := []) rfl trivial rfl ?_
          refine d_next (by kernel_rfl) ?_
          refine d_cons ?_
          obtain ⟨hc956, h⟩ := ifp_some h
          refine a_val (v := (.own 1000000 [x859.toNat] [x859.toNat * 2])) (u := []) rfl (lmap hc956) rfl ?_
          refine d_next (by kernel_rfl) ?_
          refine d_cons ?_
          have hl957 : LdOk [x859.toNat] (.row 2 (x860.map eT_Si64_i64_Z)) [x859.toNat * 2] 2 true (eT_Si64_i64_Z (rd x860 x859.toNat)) := (.row (llt hc956) rfl (.nil rfl rfl rfl))
          refine a_val (v := (eT_Si64_i64_Z (rd x860 x859.toNat))) (u := []) (ld_own (i := ⟨.struct [(0, 65), (1, 2)], 2, 32, (eT_Si64_i64_Z ([], (0 : Int)))⟩) rfl rfl rfl hl957) hl957.c rfl ?_
          refine d_next (by kernel_rfl) ?_
          refine d_cons ?_
          obtain ⟨hc958, h⟩ := ifp_some h
          refine a_val (v := (.own 1000000 [x859.toNat] [x859.toNat * 2])) (u := []) rfl (lmap hc958) rfl ?_
          refine d_next (by kernel_rfl) ?_
          refine d_cons ?_
          have hs959 : StOk [x859.toNat] (.row 2 (x860.map eT_Si64_i64_Z)) [x859.toNat * 2] 2 (eT_Si64_i64_Z ((rd x860 (IntKind.i64.wrap (x859 - 1)).toNat))) (.row 2 (((x860.set x859.toNat ((rd x860 (IntKind.i64.wrap (x859 - 1)).toNat)))).map eT_Si64_i64_Z)) := (.row (y := (rd x860 (IntKind.i64.wrap (x859 - 1)).toNat)) (llt hc958) rfl (.nil rfl rfl rfl rfl))
          refine a_val (v := .top) (u := [(1000000, some ⟨(.row 2 (((x860.set x859.toNat ((rd x860 (IntKind.i64.wrap (x859 - 1)).toNat)))).map eT_Si64_i64_Z)), false⟩)]) (st_own (i := ⟨.struct [(0, 65), (1, 2)], 2, 32, (eT_Si64_i64_Z ([], (0 : Int)))⟩) rfl rfl (fun _ => rfl) rfl hs959) (hs959.c rfl) rfl ?_
          refine d_next (by kernel_rfl) ?_
          refine d_cons ?_
          obtain ⟨hc960, h⟩ := ifp_some h
          refine a_val (v := (.own 1000000 [(IntKind.i64.wrap (x859 - 1)).toNat] [(IntKind.i64.wrap (x859 - 1)).toNat * 2])) (u := []) rfl (lmap hc960) rfl ?_
          refine d_next (by kernel_rfl) ?_
          refine d_cons ?_
          have hs961 : StOk [(IntKind.i64.wrap (x859 - 1)).toNat] (.row 2 (((x860.set x859.toNat ((rd x860 (IntKind.i64.wrap (x859 - 1)).toNat)))).map eT_Si64_i64_Z)) [(IntKind.i64.wrap (x859 - 1)).toNat * 2] 2 (eT_Si64_i64_Z (rd x860 x859.toNat)) (.row 2 (((((x860.set x859.toNat ((rd x860 (IntKind.i64.wrap (x859 - 1)).toNat)))).set (IntKind.i64.wrap (x859 - 1)).toNat (rd x860 x859.toNat))).map eT_Si64_i64_Z)) := (.row (y := (rd x860 x859.toNat)) (llt hc960) rfl (.nil rfl rfl rfl rfl))
          refine a_val (v := .top) (u := [(1000000, some ⟨(.row 2 (((((x860.set x859.toNat ((rd x860 (IntKind.i64.wrap (x859 - 1)).toNat)))).set (IntKind.i64.wrap (x859 - 1)).toNat (rd x860 x859.toNat))).map eT_Si64_i64_Z)), false⟩)]) (st_own (i := ⟨.struct [(0, 65), (1, 2)], 2, 32, (eT_Si64_i64_Z ([], (0 : Int)))⟩) rfl rfl (fun _ => rfl) rfl hs961) (hs961.c rfl) rfl ?_
          refine d_next (by kernel_rfl) ?_
          refine d_nil ?_
          refine b_norm ?_
          refine a_next (σ' := ⟨[(0, (.osl 1000000)), (1, (.int .i64 a1)), (2, (.int .i64 a2)), (3, (.clo 114 [] [])), (8, (.int .i64 x336)), (9, (.int .i64 x859))], [(1000000, some ⟨(.row 2 (((((x860.set x859.toNat ((rd x860 (IntKind.i64.wrap (x859 - 1)).toNat)))).set (IntKind.i64.wrap (x859 - 1)).toNat (rd x860 x859.toNat))).map eT_Si64_i64_Z)), false⟩)]⟩) (by kernel_rfl) ?_
          refine a_region ?_
          refine a_val (v := (.int .i64 x859)) (u := []) rfl trivial rfl ?_
          refine a_val (v := (.int .i64 (IntKind.i64.wrap (x859 - 1)))) (u := []) rfl trivial rfl ?_
          refine a_val (v := (.int .i64 (IntKind.i64.wrap (x859 - 1)))) (u := []) rfl trivial rfl ?_
          refine a_nil ?_
          cases h
          exact a_again (by kernel_rfl) hX912
      · have h := hy929
        refine a_draw [⟨[], [], [], []⟩, ⟨[], [], [], []⟩, ⟨[], [], [], [0, 1]⟩, ⟨[], [], [], [0, 1, 2]⟩, ⟨[], [], [], [0, 1, 2, 3]⟩, ⟨[], [], [1000000], [0, 1, 2, 3]⟩, ⟨[], [], [], [0, 1, 2, 3]⟩, ⟨[1000000], [], [1000000], [0, 1, 2, 3, 5, 6]⟩, ⟨[1000000], [], [], [0, 1, 2, 3, 5, 6, 7]⟩, ⟨[], [], [1000000], [0, 1, 2, 3]⟩, ⟨[], [], [], [0, 1, 2, 3]⟩, ⟨[], [], [], [0, 1, 2, 3, 10]⟩, ⟨[1000000], [], [1000000], [0, 1, 2, 3, 9, 10, 11]⟩, ⟨[1000000], [], [], [0, 1, 2, 3, 9, 10, 11, 12]⟩, ⟨[], [], [], [0, 1, 2, 3, 4, 5, 6, 7, 8, 9, 10, 11, 12, 13]⟩, ⟨[], [], [], [0, 1, 2, 3, 4, 5, 6, 7, 8, 9, 10, 11, 12, 13, 14]⟩, ⟨[], [], [], [0, 1, 2, 3, 4, 5, 6, 7, 8, 9, 10, 11, 12, 13, 14, 15]⟩] (by kernel_rfl) ?_
        refine d_cons ?_
        refine a_val (v := (.int .i64 x859)) (u := []) rfl trivial rfl ?_
        refine d_next (by kernel_rfl) ?_
        refine d_cons ?_
        refine a_val (v := (.int .i64 a1)) (u := []) rfl trivial rfl ?_
        refine d_next (by kernel_rfl) ?_
        refine d_cons ?_
        refine a_val (v := (.bool ((decide (x859 > a1))))) (u := []) rfl trivial rfl ?_
        refine d_next (by kernel_rfl) ?_
        refine d_cons ?_
        refine a_val (v := (.bool ((decide (x859 > a1))))) (u := []) rfl trivial rfl ?_
        refine d_next (by kernel_rfl) ?_
        cases hb938 : (decide (x859 > a1))
        · have h := ite_f hb938 h
          refine d_cons ?_
          refine a_gskip rfl ?_
          refine d_next (by kernel_rfl) ?_
          refine d_cons ?_
          refine a_gskip rfl ?_
          refine d_next (by kernel_rfl) ?_
          refine d_cons ?_
          refine a_gskip rfl ?_
          refine d_next (by kernel_rfl) ?_
          refine d_cons ?_
          refine a_gskip rfl ?_
          refine d_next (by kernel_rfl) ?_
          refine d_cons ?_
          refine a_gskip rfl ?_
          refine d_next (by kernel_rfl) ?_
          refine d_cons ?_
          refine a_gskip rfl ?_
          refine d_next (by kernel_rfl) ?_
          refine d_cons ?_
          refine a_gskip rfl ?_
          refine d_next (by kernel_rfl) ?_
          refine d_cons ?_
          refine a_gskip rfl ?_
          refine d_next (by kernel_rfl) ?_
          refine d_cons ?_
          refine a_gskip rfl ?_
          refine d_next (by kernel_rfl) ?_
          refine d_cons ?_
          refine a_gskip rfl ?_
          refine d_next (by kernel_rfl) ?_
          refine d_cons ?_
          refine a_gskip rfl ?_
          refine d_next (by kernel_rfl) ?_
          refine d_cons ?_
          refine a_gskip rfl ?_
          refine d_next (by kernel_rfl) ?_
          refine d_cons ?_
          refine a_val (v := (.bool false)) (u := []) rfl trivial rfl ?_
          refine d_next (by kernel_rfl) ?_
          refine d_nil ?_
          exact j_leaf false (Option.some.inj h) (by kernel_rfl)
        · have h := ite_t hb938 h
          refine d_cons ?_
          refine a_gval rfl (v := (.clo 114 [] [])) (u := []) rfl trivial rfl ?_
          refine d_next (by kernel_rfl) ?_
          refine d_cons ?_
          refine a_gval rfl (v := (.osl 1000000)) (u := []) rfl trivial rfl ?_
          refine d_next (by kernel_rfl) ?_
          refine d_cons ?_
          refine a_gval rfl (v := (.int .i64 x859)) (u := []) rfl trivial rfl ?_
          refine d_next (by kernel_rfl) ?_
          refine d_cons ?_
          obtain ⟨hc939, h⟩ := ifp_some h
          refine a_gval rfl (v := (.own 1000000 [x859.toNat] [x859.toNat * 2])) (u := []) rfl (lmap hc939) rfl ?_
          refine d_next (by kernel_rfl) ?_
          refine d_cons ?_
          have hl940 : LdOk [x859.toNat] (.row 2 (x860.map eT_Si64_i64_Z)) [x859.toNat * 2] 2 true (eT_Si64_i64_Z (rd x860 x859.toNat)) := (.row (llt hc939) rfl (.nil rfl rfl rfl))
          refine a_gval rfl (v := (eT_Si64_i64_Z (rd x860 x859.toNat))) (u := []) (ld_own (i := ⟨.struct [(0, 65), (1, 2)], 2, 32, (eT_Si64_i64_Z ([], (0 : Int)))⟩) rfl rfl rfl hl940) hl940.c rfl ?_
          refine d_next (by kernel_rfl) ?_
          refine d_cons ?_
          refine a_gval rfl (v := (.osl 1000000)) (u := []) rfl trivial rfl ?_
          refine d_next (by kernel_rfl) ?_
          refine d_cons ?_
          refine a_gval rfl (v := (.int .i64 x859)) (u := []) rfl trivial rfl ?_
          refine d_next (by kernel_rfl) ?_
          refine d_cons ?_
          refine a_gval rfl (v := (.int .i64 (IntKind.i64.wrap (x859 - 1)))) (u := []) rfl trivial rfl ?_
          refine d_next (by kernel_rfl) ?_
          refine d_cons ?_
          obtain ⟨hc941, h⟩ := ifp_some h
          refine a_gval rfl (v := (.own 1000000 [(IntKind.i64.wrap (x859 - 1)).toNat] [(IntKind.i64.wrap (x859 - 1)).toNat * 2])) (u := []) rfl (lmap hc941) rfl ?_
          refine d_next (by kernel_rfl) ?_
          refine d_cons ?_
          have hl942 : LdOk [(IntKind.i64.wrap (x859 - 1)).toNat] (.row 2 (x860.map eT_Si64_i64_Z)) [(IntKind.i64.wrap (x859 - 1)).toNat * 2] 2 true (eT_Si64_i64_Z ((rd x860 (IntKind.i64.wrap (x859 - 1)).toNat))) := (.row (llt hc941) rfl (.nil rfl rfl rfl))
          refine a_gval rfl (v := (eT_Si64_i64_Z ((rd x860 (IntKind.i64.wrap (x859 - 1)).toNat)))) (u := []) (ld_own (i := ⟨.struct [(0, 65), (1, 2)], 2, 32, (eT_Si64_i64_Z ([], (0 : Int)))⟩) rfl rfl rfl hl942) hl942.c rfl ?_
          refine d_next (by kernel_rfl) ?_
          refine d_cons ?_
          obtain ⟨r943, hr944, h⟩ := bind_some h
          refine a_gcall rfl (args := [(eT_Si64_i64_Z (rd x860 x859.toNat)), (eT_Si64_i64_Z ((rd x860 (IntKind.i64.wrap (x859 - 1)).toNat)))]) (u := []) (r := (.int .i64 r943)) rfl rfl (impl_prime_factors_c1_ok (rd x860 x859.toNat) ((rd x860 (IntKind.i64.wrap (x859 - 1)).toNat)) r943 hr944) rfl ?_
          refine d_next (by kernel_rfl) ?_
          refine d_cons ?_
          refine a_gval rfl (v := (.bool ((decide (r943 < 0))))) (u := []) rfl trivial rfl ?_
          refine d_next (by kernel_rfl) ?_
          refine d_cons ?_
          refine a_val (v := (.bool ((decide (r943 < 0))))) (u := []) rfl trivial rfl ?_
          refine d_next (by kernel_rfl) ?_
          refine d_nil ?_
          exact j_leaf ((decide (r943 < 0))) (Option.some.inj h) (by kernel_rfl)
def slices_pdqsortCmpFunc_impl_factor_of_mut_impl_prime_factors_c1_c : ACode := (.seq (.region 0 [⟨some 10, .asg 0 (.const (.bool true)) 4, none, []⟩] false) (.seq (.region 1 [⟨some 11, .asg 0 (.const (.bool true)) 4, none, []⟩] false) (.block 0 (.loop (.block 1 (.seq (.region 2 [⟨some 21, .mov (.tmp 2), none, []⟩, ⟨some 22, .mov (.tmp 1), none, []⟩, ⟨some 23, .bin .sub 3 (.tmp 21) (.tmp 22), none, []⟩, ⟨some 12, .asg 0 (.tmp 23) 3, none, []⟩] false) (.seq (.seq (.region 3 [⟨some 24, .mov (.tmp 12), none, []⟩, ⟨some 25, .bin .leq 3 (.tmp 24) (.const (.int .i64 12)), none, []⟩] false) (.cond (.tmp 25) (.seq (.region 4 [⟨some 26, .mov (.tmp 0), none, []⟩, ⟨some 27, .mov (.tmp 1), none, []⟩, ⟨some 28, .mov (.tmp 2), none, []⟩, ⟨some 29, .mov (.tmp 4), none, []⟩, ⟨some 30, .call 1 (.func 153) [(.tmp 26), (.tmp 27), (.tmp 28), (.tmp 29)], none, []⟩] false) .ret) .skip)) (.seq (.seq (.region 5 [⟨some 31, .mov (.tmp 3), none, []⟩, ⟨some 32, .bin .eql 3 (.tmp 31) (.const (.int .i64 0)), none, []⟩] false) (.cond (.tmp 32) (.seq (.region 6 [⟨some 33, .mov (.tmp 0), none, []⟩, ⟨some 34, .mov (.tmp 1), none, []⟩, ⟨some 35, .mov (.tmp 2), none, []⟩, ⟨some 36, .mov (.tmp 4), none, []⟩, ⟨some 37, .call 1 (.func 154) [(.tmp 33), (.tmp 34), (.tmp 35), (.tmp 36)], none, []⟩] false) .ret) .skip)) (.seq (.seq (.region 7 [⟨some 38, .mov (.tmp 10), none, []⟩, ⟨some 39, .un .not (.tmp 38), none, []⟩] false) (.cond (.tmp 39) (.seq (.region 8 [⟨some 40, .mov (.tmp 0), none, []⟩, ⟨some 41, .mov (.tmp 1), none, []⟩, ⟨some 42, .mov (.tmp 2), none, []⟩, ⟨some 43, .mov (.tmp 4), none, []⟩, ⟨some 44, .call 1 (.func 155) [(.tmp 40), (.tmp 41), (.tmp 42), (.tmp 43)], none, []⟩] false) (.region 9 [⟨some 45, .mov (.tmp 3), none, []⟩, ⟨some 46, .bin .sub 3 (.tmp 45) (.const (.int .i64 1)), none, []⟩, ⟨some 3, .asg 0 (.tmp 46) 3, none, []⟩] false)) .skip)) (.seq (.region 10 [⟨some 48, .mov (.tmp 0), none, []⟩, ⟨some 49, .mov (.tmp 1), none, []⟩, ⟨some 50, .mov (.tmp 2), none, []⟩, ⟨some 51, .mov (.tmp 4), none, []⟩, ⟨some 52, .call 0 (.func 156) [(.tmp 48), (.tmp 49), (.tmp 50), (.tmp 51)], none, []⟩, ⟨some 47, .mov (.tmp 52), none, []⟩, ⟨some 53, .extract (.tmp 47) 0, none, []⟩, ⟨some 54, .extract (.tmp 47) 1, none, []⟩, ⟨some 13, .asg 0 (.tmp 53) 3, none, []⟩, ⟨some 14, .asg 0 (.tmp 54) 150, none, []⟩] false) (.seq (.seq (.region 11 [⟨some 55, .mov (.tmp 14), none, []⟩, ⟨some 56, .bin .eql 150 (.tmp 55) (.const (.int .i64 2)), none, []⟩] false) (.cond (.tmp 56) (.seq (.region 12 [⟨some 57, .mov (.tmp 0), none, []⟩, ⟨some 58, .mov (.tmp 1), none, []⟩, ⟨some 59, .mov (.tmp 2), none, []⟩, ⟨some 60, .mov (.tmp 4), none, []⟩, ⟨some 61, .call 1 (.func 157) [(.tmp 57), (.tmp 58), (.tmp 59), (.tmp 60)], none, []⟩] false) (.seq (.region 13 [⟨some 62, .mov (.tmp 2), none, []⟩, ⟨some 63, .bin .sub 3 (.tmp 62) (.const (.int .i64 1)), none, []⟩, ⟨some 64, .mov (.tmp 13), none, []⟩, ⟨some 65, .mov (.tmp 1), none, []⟩, ⟨some 66, .bin .sub 3 (.tmp 64) (.tmp 65), none, []⟩, ⟨some 67, .bin .sub 3 (.tmp 63) (.tmp 66), none, []⟩, ⟨some 13, .asg 0 (.tmp 67) 3, none, []⟩] false) (.region 14 [⟨some 14, .asg 0 (.const (.int .i64 1)) 150, none, []⟩] false))) .skip)) (.seq (.seq (.region 15 [⟨some 68, .mov (.tmp 10), none, []⟩, ⟨some 69, .mov (.tmp 68), none, []⟩, ⟨some 70, .mov (.tmp 11), some (69, true), []⟩, ⟨some 71, .pick (.tmp 69) (.tmp 70) (.const (.bool false)), none, []⟩, ⟨some 72, .mov (.tmp 71), none, []⟩, ⟨some 73, .mov (.tmp 14), some (72, true), []⟩, ⟨some 74, .bin .eql 150 (.tmp 73) (.const (.int .i64 1)), some (72, true), []⟩, ⟨some 75, .pick (.tmp 72) (.tmp 74) (.const (.bool false)), none, []⟩] false) (.cond (.tmp 75) (.seq (.region 16 [⟨some 76, .mov (.tmp 0), none, []⟩, ⟨some 77, .mov (.tmp 1), none, []⟩, ⟨some 78, .mov (.tmp 2), none, []⟩, ⟨some 79, .mov (.tmp 4), none, []⟩, ⟨some 80, .call 1 (.func 158) [(.tmp 76), (.tmp 77), (.tmp 78), (.tmp 79)], none, []⟩] false) (.cond (.tmp 80) .ret .skip)) .skip)) (.seq (.seq (.region 17 [⟨some 81, .mov (.tmp 1), none, []⟩, ⟨some 82, .bin .gtr 3 (.tmp 81) (.const (.int .i64 0)), none, [0]⟩, ⟨some 83, .mov (.tmp 82), none, [1]⟩, ⟨some 84, .mov (.tmp 4), some (83, true), [2]⟩, ⟨some 85, .mov (.tmp 0), some (83, true), [2]⟩, ⟨some 86, .mov (.tmp 1), some (83, true), [2]⟩, ⟨some 87, .bin .sub 3 (.tmp 86) (.const (.int .i64 1)), some (83, true), [5, 2]⟩, ⟨some 88, .indexAddr 68 (.tmp 85) (.tmp 87), some (83, true), [4, 6, 2]⟩, ⟨some 89, .load 71 (.tmp 88), some (83, true), [7, 2]⟩, ⟨some 90, .mov (.tmp 0), some (83, true), [2]⟩, ⟨some 91, .mov (.tmp 13), some (83, true), [2]⟩, ⟨some 92, .indexAddr 68 (.tmp 90) (.tmp 91), some (83, true), [9, 10, 2]⟩, ⟨some 93, .load 71 (.tmp 92), some (83, true), [11, 2]⟩, ⟨some 94, .call 0 (.tmp 84) [(.tmp 89), (.tmp 93)], some (83, true), [3, 8, 12, 2, 2]⟩, ⟨some 95, .bin .lss 3 (.tmp 94) (.const (.int .i64 0)), some (83, true), [13, 2]⟩, ⟨some 96, .un .not (.tmp 95), some (83, true), [14, 2]⟩, ⟨some 97, .pick (.tmp 83) (.tmp 96) (.const (.bool false)), none, [2, 15]⟩] true) (.cond (.tmp 97) (.seq (.region 18 [⟨some 98, .mov (.tmp 0), none, []⟩, ⟨some 99, .mov (.tmp 1), none, []⟩, ⟨some 100, .mov (.tmp 2), none, []⟩, ⟨some 101, .mov (.tmp 13), none, []⟩, ⟨some 102, .mov (.tmp 4), none, []⟩, ⟨some 103, .call 1 (.func 159) [(.tmp 98), (.tmp 99), (.tmp 100), (.tmp 101), (.tmp 102)], none, []⟩, ⟨some 15, .asg 0 (.tmp 103) 3, none, []⟩] false) (.seq (.region 19 [⟨some 104, .mov (.tmp 15), none, []⟩, ⟨some 1, .asg 0 (.tmp 104) 3, none, []⟩] false) (.exit 1))) .skip)) (.seq (.region 20 [⟨some 106, .mov (.tmp 0), none, []⟩, ⟨some 107, .mov (.tmp 1), none, []⟩, ⟨some 108, .mov (.tmp 2), none, []⟩, ⟨some 109, .mov (.tmp 13), none, []⟩, ⟨some 110, .mov (.tmp 4), none, []⟩, ⟨some 111, .call 1 (.func 160) [(.tmp 106), (.tmp 107), (.tmp 108), (.tmp 109), (.tmp 110)], none, []⟩, ⟨some 105, .mov (.tmp 111), none, []⟩, ⟨some 112, .extract (.tmp 105) 0, none, []⟩, ⟨some 113, .extract (.tmp 105) 1, none, []⟩, ⟨some 16, .asg 0 (.tmp 112) 3, none, []⟩, ⟨some 17, .asg 0 (.tmp 113) 4, none, []⟩] false) (.seq (.region 21 [⟨some 114, .mov (.tmp 17), none, []⟩, ⟨some 11, .asg 0 (.tmp 114) 4, none, []⟩] false) (.seq (.region 22 [⟨some 115, .mov (.tmp 16), none, []⟩, ⟨some 116, .mov (.tmp 1), none, []⟩, ⟨some 117, .bin .sub 3 (.tmp 115) (.tmp 116), none, []⟩, ⟨some 118, .mov (.tmp 2), none, []⟩, ⟨some 119, .mov (.tmp 16), none, []⟩, ⟨some 120, .bin .sub 3 (.tmp 118) (.tmp 119), none, []⟩, ⟨some 18, .asg 0 (.tmp 117) 3, none, []⟩, ⟨some 19, .asg 0 (.tmp 120) 3, none, []⟩] false) (.seq (.region 23 [⟨some 121, .mov (.tmp 12), none, []⟩, ⟨some 122, .bin .quo 3 (.tmp 121) (.const (.int .i64 8)), none, []⟩, ⟨some 20, .asg 0 (.tmp 122) 3, none, []⟩] false) (.seq (.region 24 [⟨some 123, .mov (.tmp 18), none, []⟩, ⟨some 124, .mov (.tmp 19), none, []⟩, ⟨some 125, .bin .lss 3 (.tmp 123) (.tmp 124), none, []⟩] false) (.cond (.tmp 125) (.seq (.region 25 [⟨some 126, .mov (.tmp 18), none, []⟩, ⟨some 127, .mov (.tmp 20), none, []⟩, ⟨some 128, .bin .geq 3 (.tmp 126) (.tmp 127), none, []⟩, ⟨some 10, .asg 0 (.tmp 128) 4, none, []⟩] false) (.seq (.region 26 [⟨some 129, .mov (.tmp 0), none, []⟩, ⟨some 130, .mov (.tmp 1), none, []⟩, ⟨some 131, .mov (.tmp 16), none, []⟩, ⟨some 132, .mov (.tmp 3), none, []⟩, ⟨some 133, .mov (.tmp 4), none, []⟩, ⟨some 134, .call 1 (.func 140) [(.tmp 129), (.tmp 130), (.tmp 131), (.tmp 132), (.tmp 133)], none, []⟩] false) (.region 27 [⟨some 135, .mov (.tmp 16), none, []⟩, ⟨some 136, .bin .add 3 (.tmp 135) (.const (.int .i64 1)), none, []⟩, ⟨some 1, .asg 0 (.tmp 136) 3, none, []⟩] false))) (.seq (.region 28 [⟨some 137, .mov (.tmp 19), none, []⟩, ⟨some 138, .mov (.tmp 20), none, []⟩, ⟨some 139, .bin .geq 3 (.tmp 137) (.tmp 138), none, []⟩, ⟨some 10, .asg 0 (.tmp 139) 4, none, []⟩] false) (.seq (.region 29 [⟨some 140, .mov (.tmp 0), none, []⟩, ⟨some 141, .mov (.tmp 16), none, []⟩, ⟨some 142, .bin .add 3 (.tmp 141) (.const (.int .i64 1)), none, []⟩, ⟨some 143, .mov (.tmp 2), none, []⟩, ⟨some 144, .mov (.tmp 3), none, []⟩, ⟨some 145, .mov (.tmp 4), none, []⟩, ⟨some 146, .call 1 (.func 140) [(.tmp 140), (.tmp 142), (.tmp 143), (.tmp 144), (.tmp 145)], none, []⟩] false) (.region 30 [⟨some 147, .mov (.tmp 16), none, []⟩, ⟨some 2, .asg 0 (.tmp 147) 3, none, []⟩] false))))))))))))))))))))))
def slices_pdqsortCmpFunc_impl_factor_of_mut_impl_prime_factors_c1_L : Live := [(0, [0, 1, 2, 3, 4]), (1, [0, 1, 2, 3, 4, 10]), (2, [0, 1, 2, 3, 4, 10, 11]), (3, [0, 1, 2, 3, 4, 10, 11, 12]), (4, [0, 1, 2, 4]), (5, [0, 1, 2, 3, 4, 10, 11, 12]), (6, [0, 1, 2, 4]), (7, [0, 1, 2, 3, 4, 10, 11, 12]), (8, [0, 1, 2, 3, 4, 10, 11, 12]), (9, [0, 1, 2, 3, 4, 10, 11, 12]), (10, [0, 1, 2, 3, 4, 10, 11, 12]), (11, [0, 1, 2, 3, 4, 10, 11, 12, 13, 14]), (12, [0, 1, 2, 3, 4, 10, 11, 12, 13]), (13, [0, 1, 2, 3, 4, 10, 11, 12, 13]), (14, [0, 1, 2, 3, 4, 10, 11, 12, 13]), (15, [0, 1, 2, 3, 4, 10, 11, 12, 13, 14]), (16, [0, 1, 2, 3, 4, 10, 11, 12, 13]), (17, [0, 1, 2, 3, 4, 10, 11, 12, 13]), (18, [0, 1, 2, 3, 4, 10, 11, 13]), (19, [0, 2, 3, 4, 10, 11, 15]), (20, [0, 1, 2, 3, 4, 12, 13]), (21, [0, 1, 2, 3, 4, 12, 16, 17]), (22, [0, 1, 2, 3, 4, 11, 12, 16]), (23, [0, 1, 2, 3, 4, 11, 12, 16, 18, 19]), (24, [0, 1, 2, 3, 4, 11, 16, 18, 19, 20]), (25, [0, 1, 2, 3, 4, 11, 16, 18, 20]), (26, [0, 1, 2, 3, 4, 10, 11, 16]), (27, [0, 2, 3, 4, 10, 11, 16]), (28, [0, 1, 2, 3, 4, 11, 16, 19, 20]), (29, [0, 1, 2, 3, 4, 10, 11, 16]), (30, [0, 1, 3, 4, 10, 11, 16]), (100025, [0, 1, 2, 3, 4, 10, 11, 12, 25]), (100032, [0, 1, 2, 3, 4, 10, 11, 12, 32]), (100039, [0, 1, 2, 3, 4, 10, 11, 12, 39]), (100056, [0, 1, 2, 3, 4, 10, 11, 12, 13, 14, 56]), (100075, [0, 1, 2, 3, 4, 10, 11, 12, 13, 75]), (100080, [0, 1, 2, 3, 4, 10, 11, 12, 13, 80]), (100097, [0, 1, 2, 3, 4, 10, 11, 12, 13, 97]), (100125, [0, 1, 2, 3, 4, 11, 16, 18, 19, 20, 125])]
theorem slices_pdqsortCmpFunc_impl_factor_of_mut_impl_prime_factors_c1_body : Try.f140.body = some (Try.f140.body.getD .skip) := by kernel_rfl
theorem slices_pdqsortCmpFunc_impl_factor_of_mut_impl_prime_factors_c1_strip : strip [(30, 1), (37, 1), (44, 1), (61, 1), (80, 1), (103, 1), (111, 1), (134, 1), (146, 1)] (Try.f140.body.getD .skip) = slices_pdqsortCmpFunc_impl_factor_of_mut_impl_prime_factors_c1_c := by kernel_rfl
noncomputable def slices_pdqsortCmpFunc_impl_factor_of_mut_impl_prime_factors_c1_l1 (a2 : Int) (a1 : Int) (a0 : (List ((List Int) × Int))) (_u : Unit) : Option (Unit ⊕ (List ((List Int) × Int))) :=
  (if (decide ((IntKind.i64.wrap (a2 - a1)) ≤ 12)) then (Option.bind (slices_insertionSortCmpFunc_impl_factor_of_mut_impl_prime_factors_c1 a0 a1 a2) fun r9 => (ifp (r9.length = a0.length) ((some (.inr r9))))) else none)
noncomputable def slices_pdqsortCmpFunc_impl_factor_of_mut_impl_prime_factors_c1 (a0 : (List ((List Int) × Int))) (a1 : Int) (a2 : Int) (a3 : Int) : Option (List ((List Int) × Int)) :=
  (loopM (fun s : Unit => slices_pdqsortCmpFunc_impl_factor_of_mut_impl_prime_factors_c1_l1 a2 a1 a0 ()) ())
set_option maxHeartbeats 16000000 in
theorem slices_pdqsortCmpFunc_impl_factor_of_mut_impl_prime_factors_c1_ok (a0 : (List ((List Int) × Int))) (a1 : Int) (a2 : Int) (a3 : Int) (r : (List ((List Int) × Int))) (h : slices_pdqsortCmpFunc_impl_factor_of_mut_impl_prime_factors_c1 a0 a1 a2 a3 = some r) : Den Try.prog 140 [(.mutsl 2 (a0.map eT_Si64_i64_Z)), (.int .i64 a1), (.int .i64 a2), (.int .i64 a3), (.clo 114 [] [])] { r := (.tuple []), ms := [(.row 2 (r.map eT_Si64_i64_Z))], fs := [] } := by
  refine den_ofX (rs := []) (ac := slices_pdqsortCmpFunc_impl_factor_of_mut_impl_prime_factors_c1_c) (L := slices_pdqsortCmpFunc_impl_factor_of_mut_impl_prime_factors_c1_L) (n := 148) (m := [(30, 1), (37, 1), (44, 1), (61, 1), (80, 1), (103, 1), (111, 1), (134, 1), (146, 1)]) good Try.func140 slices_pdqsortCmpFunc_impl_factor_of_mut_impl_prime_factors_c1_body (by kernel_rfl) Try.ntmps140 rfl rfl slices_pdqsortCmpFunc_impl_factor_of_mut_impl_prime_factors_c1_strip rfl ?_
  refine a_st (σ' := ⟨[(0, (.osl 1000000)), (1, (.int .i64 a1)), (2, (.int .i64 a2)), (3, (.int .i64 a3)), (4, (.clo 114 [] []))], [(1000000, some ⟨(.row 2 (a0.map eT_Si64_i64_Z)), false⟩)]⟩) (by kernel_rfl) ?_
  unfold slices_pdqsortCmpFunc_impl_factor_of_mut_impl_prime_factors_c1_c
  refine a_seq ?_
  refine a_region ?_
  refine a_val (v := (.bool true)) (u := []) rfl trivial rfl ?_
  refine a_nil ?_
  refine a_next (σ' := ⟨[(0, (.osl 1000000)), (1, (.int .i64 a1)), (2, (.int .i64 a2)), (3, (.int .i64 a3)), (4, (.clo 114 [] [])), (10, (.bool true))], [(1000000, some ⟨(.row 2 (a0.map eT_Si64_i64_Z)), false⟩)]⟩) (by kernel_rfl) ?_
  refine a_seq ?_
  refine a_region ?_
  refine a_val (v := (.bool true)) (u := []) rfl trivial rfl ?_
  refine a_nil ?_
  refine a_next (σ' := ⟨[(0, (.osl 1000000)), (1, (.int .i64 a1)), (2, (.int .i64 a2)), (3, (.int .i64 a3)), (4, (.clo 114 [] [])), (10, (.bool true)), (11, (.bool true))], [(1000000, some ⟨(.row 2 (a0.map eT_Si64_i64_Z)), false⟩)]⟩) (by kernel_rfl) ?_
  refine a_block ?_
  refine a_loop (emb := fun (s : Unit) => ⟨[(0, (.osl 1000000)), (1, (.int .i64 a1)), (2, (.int .i64 a2)), (3, (.int .i64 a3)), (4, (.clo 114 [] [])), (10, (.bool true)), (11, (.bool true))], [(1000000, some ⟨(.row 2 (a0.map eT_Si64_i64_Z)), false⟩)]⟩) (body := (fun s : Unit => slices_pdqsortCmpFunc_impl_factor_of_mut_impl_prime_factors_c1_l1 a2 a1 a0 ())) (G := fun q => some q = some r) h rfl ?_ (by kernel_rfl)
  rintro X5 _ x6 h hX7
  have h : slices_pdqsortCmpFunc_impl_factor_of_mut_impl_prime_factors_c1_l1 a2 a1 a0 () = some x6 := h
  refine a_st (σ' := ⟨[(0, (.osl 1000000)), (1, (.int .i64 a1)), (2, (.int .i64 a2)), (3, (.int .i64 a3)), (4, (.clo 114 [] [])), (10, (.bool true)), (11, (.bool true))], [(1000000, some ⟨(.row 2 (a0.map eT_Si64_i64_Z)), false⟩)]⟩) (by kernel_rfl) ?_
  refine a_block ?_
  refine a_seq ?_
  refine a_region ?_
  refine a_val (v := (.int .i64 a2)) (u := []) rfl trivial rfl ?_
  refine a_val (v := (.int .i64 a1)) (u := []) rfl trivial rfl ?_
  refine a_val (v := (.int .i64 (IntKind.i64.wrap (a2 - a1)))) (u := []) rfl trivial rfl ?_
  refine a_val (v := (.int .i64 (IntKind.i64.wrap (a2 - a1)))) (u := []) rfl trivial rfl ?_
  refine a_nil ?_
  refine a_next (σ' := ⟨[(0, (.osl 1000000)), (1, (.int .i64 a1)), (2, (.int .i64 a2)), (3, (.int .i64 a3)), (4, (.clo 114 [] [])), (10, (.bool true)), (11, (.bool true)), (12, (.int .i64 (IntKind.i64.wrap (a2 - a1))))], [(1000000, some ⟨(.row 2 (a0.map eT_Si64_i64_Z)), false⟩)]⟩) (by kernel_rfl) ?_
  refine a_seq ?_
  refine a_seq ?_
  refine a_region ?_
  refine a_val (v := (.int .i64 (IntKind.i64.wrap (a2 - a1)))) (u := []) rfl trivial rfl ?_
  refine a_val (v := (.bool ((decide ((IntKind.i64.wrap (a2 - a1)) ≤ 12))))) (u := []) rfl trivial rfl ?_
  refine a_nil ?_
  refine a_next (σ' := ⟨[(0, (.osl 1000000)), (1, (.int .i64 a1)), (2, (.int .i64 a2)), (3, (.int .i64 a3)), (4, (.clo 114 [] [])), (10, (.bool true)), (11, (.bool true)), (12, (.int .i64 (IntKind.i64.wrap (a2 - a1)))), (25, (.bool ((decide ((IntKind.i64.wrap (a2 - a1)) ≤ 12)))))], [(1000000, some ⟨(.row 2 (a0.map eT_Si64_i64_Z)), false⟩)]⟩) (by kernel_rfl) ?_
  cases hb8 : (decide ((IntKind.i64.wrap (a2 - a1)) ≤ 12))
  · have h := ite_f hb8 h
    cases h
  · have h := ite_t hb8 h
    refine a_cond_t rfl ?_
    refine a_seq ?_
    refine a_region ?_
    refine a_val (v := (.osl 1000000)) (u := []) rfl trivial rfl ?_
    refine a_val (v := (.int .i64 a1)) (u := []) rfl trivial rfl ?_
    refine a_val (v := (.int .i64 a2)) (u := []) rfl trivial rfl ?_
    refine a_val (v := (.clo 114 [] [])) (u := []) rfl trivial rfl ?_
    obtain ⟨r9, hr10, h⟩ := bind_some h
    obtain ⟨hl11, h⟩ := ifp_some h
    refine a_callM (args := [(.mutsl 2 (a0.map eT_Si64_i64_Z)), (.int .i64 a1), (.int .i64 a2), (.clo 114 [] [])]) (i := 0) (id := 1000000) (r := (.tuple [])) (c := (.row 2 (r9.map eT_Si64_i64_Z))) rfl rfl (slices_insertionSortCmpFunc_impl_factor_of_mut_impl_prime_factors_c1_ok a0 a1 a2 r9 hr10) rfl (shape_map hl11) ?_
    refine a_nil ?_
    refine a_next rfl ?_
    refine a_ret ?_
    refine t_ret ?_
    refine b_ret ?_
    cases h
    have h := hX7
    refine t_ret ?_
    refine b_ret ?_
    refine ⟨.inr rfl, ?_⟩
    rw [Try.results140]
    cases h
    exact ⟨[], ⟨rfl, rfl, rfl⟩, rfl, ⟨_, _, rfl, rfl, rfl⟩⟩
def slices_SortFunc_impl_factor_impl_factor_of_mut_impl_prime_factors_c1_c : ACode := (.seq (.region 0 [⟨some 5, .mov (.tmp 0), none, []⟩, ⟨some 6, .blt 0 .len [(.tmp 5)] [68], none, []⟩, ⟨some 4, .asg 0 (.tmp 6) 3, none, []⟩] false) (.region 1 [⟨some 7, .mov (.tmp 0), none, []⟩, ⟨some 8, .mov (.tmp 4), none, []⟩, ⟨some 9, .mov (.tmp 4), none, []⟩, ⟨some 10, .conv 3 135 (.tmp 9), none, []⟩, ⟨some 11, .call 0 (.func 141) [(.tmp 10)], none, []⟩, ⟨some 12, .mov (.tmp 1), none, []⟩, ⟨some 13, .call 1 (.func 140) [(.tmp 7), (.const (.int .i64 0)), (.tmp 8), (.tmp 11), (.tmp 12)], none, []⟩] false))
def slices_SortFunc_impl_factor_impl_factor_of_mut_impl_prime_factors_c1_L : Live := [(0, [0, 1]), (1, [0, 1, 4])]
theorem slices_SortFunc_impl_factor_impl_factor_of_mut_impl_prime_factors_c1_body : Try.f113.body = some (Try.f113.body.getD .skip) := by kernel_rfl
theorem slices_SortFunc_impl_factor_impl_factor_of_mut_impl_prime_factors_c1_strip : strip [(13, 1)] (Try.f113.body.getD .skip) = slices_SortFunc_impl_factor_impl_factor_of_mut_impl_prime_factors_c1_c := by kernel_rfl
noncomputable def slices_SortFunc_impl_factor_impl_factor_of_mut_impl_prime_factors_c1 (a0 : (List ((List Int) × Int))) : Option (List ((List Int) × Int)) :=
  (Option.bind (math_bits_Len (IntKind.u64.wrap (a0.length : Int))) fun r1 => (Option.bind (slices_pdqsortCmpFunc_impl_factor_of_mut_impl_prime_factors_c1 a0 0 (a0.length : Int) r1) fun r3 => (ifp (r3.length = a0.length) (some r3))))
set_option maxHeartbeats 16000000 in
theorem slices_SortFunc_impl_factor_impl_factor_of_mut_impl_prime_factors_c1_ok (a0 : (List ((List Int) × Int))) (r : (List ((List Int) × Int))) (h : slices_SortFunc_impl_factor_impl_factor_of_mut_impl_prime_factors_c1 a0 = some r) : Den Try.prog 113 [(.mutsl 2 (a0.map eT_Si64_i64_Z)), (.clo 114 [] [])] { r := (.tuple []), ms := [(.row 2 (r.map eT_Si64_i64_Z))], fs := [] } := by
  refine den_ofX (rs := []) (ac := slices_SortFunc_impl_factor_impl_factor_of_mut_impl_prime_factors_c1_c) (L := slices_SortFunc_impl_factor_impl_factor_of_mut_impl_prime_factors_c1_L) (n := 14) (m := [(13, 1)]) good Try.func113 slices_SortFunc_impl_factor_impl_factor_of_mut_impl_prime_factors_c1_body (by kernel_rfl) Try.ntmps113 rfl rfl slices_SortFunc_impl_factor_impl_factor_of_mut_impl_prime_factors_c1_strip rfl ?_
  refine a_st (σ' := ⟨[(0, (.osl 1000000)), (1, (.clo 114 [] []))], [(1000000, some ⟨(.row 2 (a0.map eT_Si64_i64_Z)), false⟩)]⟩) (by kernel_rfl) ?_
  unfold slices_SortFunc_impl_factor_impl_factor_of_mut_impl_prime_factors_c1_c
  refine a_seq ?_
  refine a_region ?_
  refine a_val (v := (.osl 1000000)) (u := []) rfl trivial rfl ?_
  refine a_val (v := (.int .i64 (a0.length : Int))) (u := []) (leno_run rfl rfl rfl) trivial rfl ?_
  refine a_val (v := (.int .i64 (a0.length : Int))) (u := []) rfl trivial rfl ?_
  refine a_nil ?_
  refine a_next (σ' := ⟨[(0, (.osl 1000000)), (1, (.clo 114 [] [])), (4, (.int .i64 (a0.length : Int)))], [(1000000, some ⟨(.row 2 (a0.map eT_Si64_i64_Z)), false⟩)]⟩) (by kernel_rfl) ?_
  refine a_region ?_
  refine a_val (v := (.osl 1000000)) (u := []) rfl trivial rfl ?_
  refine a_val (v := (.int .i64 (a0.length : Int))) (u := []) rfl trivial rfl ?_
  refine a_val (v := (.int .i64 (a0.length : Int))) (u := []) rfl trivial rfl ?_
  refine a_val (v := (.int .u64 (IntKind.u64.wrap (a0.length : Int)))) (u := []) rfl trivial rfl ?_
  obtain ⟨r1, hr2, h⟩ := bind_some h
  refine a_call (args := [(.int .u64 (IntKind.u64.wrap (a0.length : Int)))]) (u := []) (r := (.int .i64 r1)) rfl rfl (math_bits_Len_ok (IntKind.u64.wrap (a0.length : Int)) r1 hr2) rfl ?_
  refine a_val (v := (.clo 114 [] [])) (u := []) rfl trivial rfl ?_
  obtain ⟨r3, hr4, h⟩ := bind_some h
  obtain ⟨hl5, h⟩ := ifp_some h
  refine a_callM (args := [(.mutsl 2 (a0.map eT_Si64_i64_Z)), (.int .i64 0), (.int .i64 (a0.length : Int)), (.int .i64 r1), (.clo 114 [] [])]) (i := 0) (id := 1000000) (r := (.tuple [])) (c := (.row 2 (r3.map eT_Si64_i64_Z))) rfl rfl (slices_pdqsortCmpFunc_impl_factor_of_mut_impl_prime_factors_c1_ok a0 0 (a0.length : Int) r1 r3 hr4) rfl (shape_map hl5) ?_
  refine a_nil ?_
  refine ⟨.inl rfl, ?_⟩
  rw [Try.results113]
  cases h
  exact ⟨[], ⟨rfl, rfl, rfl⟩, rfl, ⟨_, _, rfl, rfl, rfl⟩⟩
def impl_prime_factors_c : ACode := (.seq (.region 0 [⟨some 4, .asg 1 (.const (.slice none 0 0)) 68, none, []⟩] false) (.seq (.region 1 [⟨some 5, .asg 2 (.const (.slice none 0 0)) 68, none, []⟩] false) (.seq (.seq (.region 2 [⟨some 6, .asg 0 (.const (.int .i64 1)) 2, none, []⟩] false) (.block 0 (.loop (.seq (.seq (.region 3 [⟨some 12, .mov (.tmp 1), none, []⟩, ⟨some 13, .call 0 (.func 59) [(.tmp 12)], none, []⟩, ⟨some 14, .bin .gtr 2 (.tmp 13) (.const (.int .i64 0)), none, []⟩] false) (.cond (.tmp 14) .skip (.exit 0))) (.seq (.block 1 (.seq (.seq (.region 5 [⟨some 17, .mov (.tmp 6), none, []⟩, ⟨some 18, .bin .mul 2 (.const (.int .i64 2)) (.tmp 17), none, []⟩, ⟨some 19, .mov (.tmp 1), none, []⟩, ⟨some 20, .call 0 (.func 59) [(.tmp 19)], none, []⟩, ⟨some 21, .bin .gtr 2 (.tmp 18) (.tmp 20), none, []⟩] false) (.cond (.tmp 21) (.seq (.region 6 [⟨some 22, .mov (.tmp 5), none, []⟩, ⟨some 23, .mov (.tmp 0), none, []⟩, ⟨some 24, .mov (.tmp 1), none, []⟩, ⟨some 25, .mov (.tmp 0), none, []⟩, ⟨some 26, .mov (.tmp 1), none, []⟩, ⟨some 27, .call 0 (.func 101) [(.tmp 26)], none, []⟩, ⟨some 28, .call 0 (.func 106) [(.tmp 25), (.tmp 27)], none, []⟩, ⟨some 29, .call 0 (.func 105) [(.tmp 23), (.tmp 24), (.tmp 28)], none, []⟩, ⟨some 30, .build 71 [(0, (.tmp 29)), (1, (.const (.int .i64 1)))], none, []⟩, ⟨some 31, .bslice 0 68 1 [(0, (.tmp 30))], none, []⟩, ⟨some 32, .blt 0 .append [(.tmp 22), (.tmp 31)] [68, 68], none, []⟩, ⟨some 5, .asg 2 (.tmp 32) 68, none, []⟩] false) (.exit 0)) .skip)) (.seq (.region 7 [⟨some 33, .call 0 (.func 107) [], none, []⟩, ⟨some 7, .asg 1 (.tmp 33) 65, none, []⟩] false) (.seq (.seq (.region 8 [⟨some 34, .mov (.tmp 6), none, []⟩, ⟨some 35, .mov (.const (.int .i64 0)), none, []⟩] false) (.block 2 (.loop (.seq (.region 9 [⟨some 36, .bin .lss 2 (.tmp 35) (.tmp 34), none, []⟩] false) (.seq (.cond (.tmp 36) .skip (.exit 2)) (.seq (.block 3 (.region 10 [⟨some 37, .mov (.tmp 0), none, []⟩, ⟨some 38, .mov (.tmp 7), none, []⟩, ⟨some 39, .mov (.tmp 0), none, []⟩, ⟨some 40, .mov (.tmp 1), none, []⟩, ⟨some 41, .call 0 (.func 108) [(.tmp 37), (.tmp 38), (.tmp 39), (.tmp 40)], none, []⟩, ⟨some 7, .asg 1 (.tmp 41) 65, none, []⟩] false)) (.region 11 [⟨some 42, .bin .add 2 (.tmp 35) (.const (.int .i64 1)), none, []⟩, ⟨some 35, .mov (.tmp 42), none, []⟩] false))))))) (.seq (.region 12 [⟨some 43, .mov (.tmp 0), none, []⟩, ⟨some 44, .mov (.tmp 0), none, []⟩, ⟨some 45, .mov (.tmp 7), none, []⟩, ⟨some 46, .call 0 (.func 107) [], none, []⟩, ⟨some 47, .call 0 (.func 110) [(.tmp 44), (.tmp 45), (.tmp 46), (.const (.int .i64 (-1)))], none, []⟩, ⟨some 48, .mov (.tmp 1), none, []⟩, ⟨some 49, .call 0 (.func 109) [(.tmp 43), (.tmp 47), (.tmp 48)], none, []⟩, ⟨some 8, .asg 1 (.tmp 49) 65, none, []⟩] false) (.block 4 (.loop (.seq (.seq (.region 13 [⟨some 50, .mov (.tmp 8), none, []⟩, ⟨some 51, .call 0 (.func 59) [(.tmp 50)], none, []⟩, ⟨some 52, .bin .gtr 2 (.tmp 51) (.const (.int .i64 0)), none, []⟩] false) (.cond (.tmp 52) .skip (.exit 4))) (.block 5 (.seq (.region 14 [⟨some 53, .mov (.tmp 0), none, []⟩, ⟨some 54, .mov (.tmp 8), none, []⟩, ⟨some 55, .mov (.tmp 6), none, []⟩, ⟨some 56, .call 0 (.func 111) [(.tmp 53), (.tmp 54), (.tmp 55)], none, []⟩, ⟨some 9, .asg 1 (.tmp 56) 65, none, []⟩] false) (.seq (.region 15 [⟨some 58, .mov (.tmp 0), none, []⟩, ⟨some 59, .mov (.tmp 1), none, []⟩, ⟨some 60, .mov (.tmp 9), none, []⟩, ⟨some 61, .call 0 (.func 112) [(.tmp 58), (.tmp 59), (.tmp 60)], none, []⟩, ⟨some 57, .mov (.tmp 61), none, []⟩, ⟨some 62, .extract (.tmp 57) 0, none, []⟩, ⟨some 63, .extract (.tmp 57) 1, none, []⟩, ⟨some 10, .asg 1 (.tmp 62) 65, none, []⟩, ⟨some 11, .asg 0 (.tmp 63) 2, none, []⟩] false) (.seq (.region 16 [⟨some 64, .mov (.tmp 10), none, []⟩, ⟨some 1, .asg 1 (.tmp 64) 65, none, []⟩] false) (.seq (.region 17 [⟨some 66, .mov (.tmp 0), none, []⟩, ⟨some 67, .mov (.tmp 8), none, []⟩, ⟨some 68, .mov (.tmp 9), none, []⟩, ⟨some 69, .call 0 (.func 112) [(.tmp 66), (.tmp 67), (.tmp 68)], none, []⟩, ⟨some 65, .mov (.tmp 69), none, []⟩, ⟨some 70, .extract (.tmp 65) 0, none, []⟩, ⟨some 71, .extract (.tmp 65) 1, none, []⟩, ⟨some 8, .asg 1 (.tmp 70) 65, none, []⟩] false) (.region 18 [⟨some 72, .mov (.tmp 5), none, []⟩, ⟨some 73, .mov (.tmp 9), none, []⟩, ⟨some 74, .mov (.tmp 11), none, []⟩, ⟨some 75, .build 71 [(0, (.tmp 73)), (1, (.tmp 74))], none, []⟩, ⟨some 76, .bslice 0 68 1 [(0, (.tmp 75))], none, []⟩, ⟨some 77, .blt 0 .append [(.tmp 72), (.tmp 76)] [68, 68], none, []⟩, ⟨some 5, .asg 2 (.tmp 77) 68, none, []⟩] false)))))))))))))) (.region 4 [⟨some 15, .mov (.tmp 6), none, []⟩, ⟨some 16, .bin .add 2 (.tmp 15) (.const (.int .i64 1)), none, []⟩, ⟨some 6, .asg 0 (.tmp 16) 2, none, []⟩] false)))))) (.seq (.region 19 [⟨some 78, .mov (.tmp 5), none, []⟩, ⟨some 79, .call 1 (.func 113) [(.tmp 78), (.func 114)], none, []⟩] false) (.seq (.region 20 [⟨some 80, .mov (.tmp 5), none, []⟩, ⟨some 4, .asg 1 (.tmp 80) 68, none, []⟩] false) .ret)))))
def impl_prime_factors_L : Live := [(0, [0, 1]), (1, [0, 1]), (2, [0, 1, 5]), (3, [0, 1, 5, 6]), (4, [0, 1, 5, 6]), (5, [0, 1, 5, 6]), (6, [0, 1, 5]), (7, [0, 1, 5, 6]), (8, [0, 1, 5, 6, 7]), (9, [0, 1, 5, 6, 7, 34, 35]), (10, [0, 1, 5, 6, 7, 34, 35]), (11, [0, 1, 5, 6, 7, 34, 35]), (12, [0, 1, 5, 6, 7]), (13, [0, 1, 5, 6, 8]), (14, [0, 1, 5, 6, 8]), (15, [0, 1, 5, 6, 8, 9]), (16, [0, 5, 6, 8, 9, 10, 11]), (17, [0, 1, 5, 6, 8, 9, 11]), (18, [0, 1, 5, 6, 8, 9, 11]), (19, [5]), (20, [5]), (100014, [0, 1, 5, 6, 14]), (100021, [0, 1, 5, 6, 21]), (100036, [0, 1, 5, 6, 7, 34, 35, 36]), (100052, [0, 1, 5, 6, 8, 52])]
theorem impl_prime_factors_body : Try.f54.body = some (Try.f54.body.getD .skip) := by kernel_rfl
theorem impl_prime_factors_strip : strip [(1, 1), (4, 1), (5, 2), (7, 1), (8, 1), (9, 1), (10, 1), (79, 1)] (Try.f54.body.getD .skip) = impl_prime_factors_c := by kernel_rfl
noncomputable def impl_prime_factors_l2 (x761 : Int) (a0 : Int) (x760 : (List Int)) (x1077 : (List Int)) (x1078 : Int) : Option (((List Int) × Int) ⊕ (List Int)) :=
  (if (decide (x1078 < x761)) then (Option.bind (impl_prime_power a0 x1077 a0 x760) fun r1086 => (some (.inl ((r1086, IntKind.i64.wrap (x1078 + 1)))))) else (some (.inr x1077)))
noncomputable def impl_prime_factors_l3 (a0 : Int) (x761 : Int) (x1105 : (List Int)) (x1106 : (List Int)) (x1107 : (List ((List Int) × Int))) : Option (((List Int) × (List Int) × (List ((List Int) × Int))) ⊕ (((List Int) × (List ((List Int) × Int))) ⊕ (((List Int) × Int × (List ((List Int) × Int))) ⊕ (List ((List Int) × Int))))) :=
  (Option.bind (impl_row_degree x1106) fun r1121 => (if (decide (r1121 > 0)) then (Option.bind (impl_prime_withDegree a0 x1106 x761) fun r1124 => (Option.bind (impl_prime_strip a0 x1105 r1124) fun r1126 => (Option.bind (impl_prime_strip a0 x1106 r1124) fun r1128 => (ifp ((x1107.length + ([(r1124, r1126.2)] : List ((List Int) × Int)).length) * 32 ≤ 140737488355328) ((some (.inl ((r1126.1, r1128.1, (x1107 ++ ([(r1124, r1126.2)]))))))))))) else (some (.inr (((.inl (x1105, x1107))))))))
noncomputable def impl_prime_factors_l1 (a0 : Int) (x760 : (List Int)) (x761 : Int) (x762 : (List ((List Int) × Int))) : Option (((List Int) × Int × (List ((List Int) × Int))) ⊕ (List ((List Int) × Int))) :=
  (Option.bind (impl_row_degree x760) fun r953 => (if (decide (r953 > 0)) then (Option.bind (α := (((List Int) × (List ((List Int) × Int))) ⊕ (((List Int) × Int × (List ((List Int) × Int))) ⊕ (List ((List Int) × Int))))) ((Option.bind (impl_row_degree x760) fun r1050 => (if (decide ((IntKind.i64.wrap (2 * x761)) > r1050)) then (Option.bind (impl_row_lead x760) fun r1132 => (Option.bind (impl_prime_inverse a0 r1132) fun r1134 => (Option.bind (impl_prime_scale a0 x760 r1134) fun r1136 => (ifp ((x762.length + ([(r1136, 1)] : List ((List Int) × Int)).length) * 32 ≤ 140737488355328) ((some (.inr ((.inr (((x762 ++ ([(r1136, 1)]))))))))))))) else (Option.bind (impl_letter) fun r1053 => (Option.bind (α := (List Int)) ((loopM (fun s : ((List Int) × Int) => impl_prime_factors_l2 x761 a0 x760 s.1 s.2) (r1053, 0))) fun x1070 => (Option.bind (impl_letter) fun r1089 => (Option.bind (impl_prime_combine a0 x1070 r1089 (-1)) fun r1091 => (Option.bind (impl_prime_gcd a0 r1091 x760) fun r1093 => (loopM (fun s : ((List Int) × (List Int) × (List ((List Int) × Int))) => impl_prime_factors_l3 a0 x761 s.1 s.2.1 s.2.2) (x760, r1093, x762)))))))))) fun z => match z with | .inl ⟨x1045, x1046⟩ => (some (.inl ((x1045, IntKind.i64.wrap (x761 + 1), x1046)))) | .inr r1139 => (some r1139)) else (some (.inr x762))))
noncomputable def impl_prime_factors (a0 : Int) (a1 : (List Int)) : Option (List ((List Int) × Int)) :=
  (Option.bind (α := (List ((List Int) × Int))) ((loopM (fun s : ((List Int) × Int × (List ((List Int) × Int))) => impl_prime_factors_l1 a0 s.1 s.2.1 s.2.2) (a1, 1, []))) fun x569 => (Option.bind (slices_SortFunc_impl_factor_impl_factor_of_mut_impl_prime_factors_c1 x569) fun r1141 => (ifp (r1141.length = x569.length) (some r1141))))
set_option maxHeartbeats 16000000 in
theorem impl_prime_factors_ok (a0 : Int) (a1 : (List Int)) (r : (List ((List Int) × Int))) (h : impl_prime_factors a0 a1 = some r) : Den Try.prog 54 [(.int .i64 a0), (eSi64 a1)] { r := (eST_Si64_i64_Z r) } := by
  refine den_of (rs := [(eST_Si64_i64_Z r)]) (ac := impl_prime_factors_c) (L := impl_prime_factors_L) (n := 81) (m := [(1, 1), (4, 1), (5, 2), (7, 1), (8, 1), (9, 1), (10, 1), (79, 1)]) good Try.func54 impl_prime_factors_body (by kernel_rfl) Try.ntmps54 rfl rfl impl_prime_factors_strip rfl rfl ?_
  refine a_st (σ' := ⟨[(0, (.int .i64 a0)), (1, (eSi64 a1))], []⟩) (by kernel_rfl) ?_
  unfold impl_prime_factors_c
  refine a_seq ?_
  refine a_region ?_
  refine a_val (v := (eST_Si64_i64_Z ([]))) (u := []) rfl trivial rfl ?_
  refine a_nil ?_
  refine a_next (σ' := ⟨[(0, (.int .i64 a0)), (1, (eSi64 a1))], []⟩) (by kernel_rfl) ?_
  refine a_seq ?_
  refine a_region ?_
  refine a_val (v := (.osl 1500)) (u := [(1500, some ⟨(.row 2 (([]).map eT_Si64_i64_Z)), false⟩)]) rfl trivial rfl ?_
  refine a_nil ?_
  refine a_next (σ' := ⟨[(0, (.int .i64 a0)), (1, (eSi64 a1)), (5, (.osl 5))], [(5, some ⟨(.row 2 (([]).map eT_Si64_i64_Z)), false⟩)]⟩) (by kernel_rfl) ?_
  obtain ⟨y570, hy571, hk572⟩ := bind_some h
  clear h
  refine a_join (emb := fun (s : (List ((List Int) × Int))) => ⟨[(5, (.osl 5))], [(5, some ⟨(.row 2 (s.map eT_Si64_i64_Z)), false⟩)]⟩) (pre := fun s => s = y570) ?_ ?_
  · rintro x569 rfl
    have h := hk572
    refine a_st (σ' := ⟨[(5, (.osl 5))], [(5, some ⟨(.row 2 (x569.map eT_Si64_i64_Z)), false⟩)]⟩) (by kernel_rfl) ?_
    refine a_seq ?_
    refine a_region ?_
    refine a_val (v := (.osl 5)) (u := []) rfl trivial rfl ?_
    obtain ⟨r1141, hr1142, h⟩ := bind_some h
    obtain ⟨hl1143, h⟩ := ifp_some h
    refine a_callM (args := [(.mutsl 2 (x569.map eT_Si64_i64_Z)), (.clo 114 [] [])]) (i := 0) (id := 5) (r := (.tuple [])) (c := (.row 2 (r1141.map eT_Si64_i64_Z))) rfl rfl (slices_SortFunc_impl_factor_impl_factor_of_mut_impl_prime_factors_c1_ok x569 r1141 hr1142) rfl (shape_map hl1143) ?_
    refine a_nil ?_
    refine a_next (σ' := ⟨[(5, (.osl 5))], [(5, some ⟨(.row 2 (r1141.map eT_Si64_i64_Z)), false⟩)]⟩) (by kernel_rfl) ?_
    refine a_seq ?_
    refine a_region ?_
    refine a_val (v := (.osl 5)) (u := []) rfl trivial rfl ?_
    refine a_val (v := (eST_Si64_i64_Z r1141)) (u := [(5, some ⟨(.row 2 (r1141.map eT_Si64_i64_Z)), true⟩)]) rfl trivial rfl ?_
    refine a_nil ?_
    refine a_next rfl ?_
    refine a_ret ?_
    refine ⟨.inr rfl, ?_⟩
    rw [Try.results54]
    cases h
    exact ⟨_, _, _, _, _, rfl, trivial, .inl ⟨rfl, .inl rfl⟩, rfl, rfl⟩
  · have h := hy571
    refine a_seq ?_
    refine a_region ?_
    refine a_val (v := (.int .i64 1)) (u := []) rfl trivial rfl ?_
    refine a_nil ?_
    refine a_next (σ' := ⟨[(0, (.int .i64 a0)), (1, (eSi64 a1)), (5, (.osl 5)), (6, (.int .i64 1))], [(5, some ⟨(.row 2 (([]).map eT_Si64_i64_Z)), false⟩)]⟩) (by kernel_rfl) ?_
    refine a_block ?_
    refine a_loop (emb := fun (s : ((List Int) × Int × (List ((List Int) × Int)))) => ⟨[(0, (.int .i64 a0)), (1, (eSi64 s.1)), (5, (.osl 5)), (6, (.int .i64 s.2.1))], [(5, some ⟨(.row 2 (s.2.2.map eT_Si64_i64_Z)), false⟩)]⟩) (body := (fun s : ((List Int) × Int × (List ((List Int) × Int))) => impl_prime_factors_l1 a0 s.1 s.2.1 s.2.2)) (G := fun q => some q = some y570) h rfl ?_ (by kernel_rfl)
    rintro X950 ⟨x760, x761, x762⟩ x951 h hX952
    have h : impl_prime_factors_l1 a0 x760 x761 x762 = some x951 := h
    refine a_st (σ' := ⟨[(0, (.int .i64 a0)), (1, (eSi64 x760)), (5, (.osl 5)), (6, (.int .i64 x761))], [(5, some ⟨(.row 2 (x762.map eT_Si64_i64_Z)), false⟩)]⟩) (by kernel_rfl) ?_
    refine a_seq ?_
    refine a_seq ?_
    refine a_region ?_
    refine a_val (v := (eSi64 x760)) (u := []) rfl trivial rfl ?_
    obtain ⟨r953, hr954, h⟩ := bind_some h
    refine a_call (args := [(eSi64 x760)]) (u := []) (r := (.int .i64 r953)) rfl rfl (impl_row_degree_ok x760 r953 hr954) rfl ?_
    refine a_val (v := (.bool ((decide (r953 > 0))))) (u := []) rfl trivial rfl ?_
    refine a_nil ?_
    refine a_next (σ' := ⟨[(0, (.int .i64 a0)), (1, (eSi64 x760)), (5, (.osl 5)), (6, (.int .i64 x761)), (14, (.bool ((decide (r953 > 0)))))], [(5, some ⟨(.row 2 (x762.map eT_Si64_i64_Z)), false⟩)]⟩) (by kernel_rfl) ?_
    cases hb955 : (decide (r953 > 0))
    · have h := ite_f hb955 h
      refine a_cond_f rfl ?_
      refine a_exit ?_
      refine t_exit ?_
      cases h
      have h := hX952
      refine t_exit ?_
      refine b_exit ?_
      exact j_leaf x762 (Option.some.inj h) (by kernel_rfl)
    · have h := ite_t hb955 h
      refine a_cond_t rfl ?_
      refine a_skip ?_
      refine a_next (σ' := ⟨[(0, (.int .i64 a0)), (1, (eSi64 x760)), (5, (.osl 5)), (6, (.int .i64 x761))], [(5, some ⟨(.row 2 (x762.map eT_Si64_i64_Z)), false⟩)]⟩) (by kernel_rfl) ?_
      obtain ⟨y1047, hy1048, hk1049⟩ := bind_some h
      clear h
      refine a_join (emb := fun (s : ((List Int) × (List ((List Int) × Int)))) => ⟨[(0, (.int .i64 a0)), (1, (eSi64 s.1)), (5, (.osl 5)), (6, (.int .i64 x761))], [(5, some ⟨(.row 2 (s.2.map eT_Si64_i64_Z)), false⟩)]⟩) (pre := fun s => (.inl s) = y1047) ?_ ?_
      · rintro ⟨x1045, x1046⟩ rfl
        have h := hk1049
        refine a_st (σ' := ⟨[(0, (.int .i64 a0)), (1, (eSi64 x1045)), (5, (.osl 5)), (6, (.int .i64 x761))], [(5, some ⟨(.row 2 (x1046.map eT_Si64_i64_Z)), false⟩)]⟩) (by kernel_rfl) ?_
        refine a_region ?_
        refine a_val (v := (.int .i64 x761)) (u := []) rfl trivial rfl ?_
        refine a_val (v := (.int .i64 (IntKind.i64.wrap (x761 + 1)))) (u := []) rfl trivial rfl ?_
        refine a_val (v := (.int .i64 (IntKind.i64.wrap (x761 + 1)))) (u := []) rfl trivial rfl ?_
        refine a_nil ?_
        cases h
        exact a_again (by kernel_rfl) hX952
      · have h := hy1048
        refine a_block ?_
        refine a_seq ?_
        refine a_seq ?_
        refine a_region ?_
        refine a_val (v := (.int .i64 x761)) (u := []) rfl trivial rfl ?_
        refine a_val (v := (.int .i64 (IntKind.i64.wrap (2 * x761)))) (u := []) rfl trivial rfl ?_
        refine a_val (v := (eSi64 x760)) (u := []) rfl trivial rfl ?_
        obtain ⟨r1050, hr1051, h⟩ := bind_some h
        refine a_call (args := [(eSi64 x760)]) (u := []) (r := (.int .i64 r1050)) rfl rfl (impl_row_degree_ok x760 r1050 hr1051) rfl ?_
        refine a_val (v := (.bool ((decide ((IntKind.i64.wrap (2 * x761)) > r1050))))) (u := []) rfl trivial rfl ?_
        refine a_nil ?_
        refine a_next (σ' := ⟨[(0, (.int .i64 a0)), (1, (eSi64 x760)), (5, (.osl 5)), (6, (.int .i64 x761)), (21, (.bool ((decide ((IntKind.i64.wrap (2 * x761)) > r1050)))))], [(5, some ⟨(.row 2 (x762.map eT_Si64_i64_Z)), false⟩)]⟩) (by kernel_rfl) ?_
        cases hb1052 : (decide ((IntKind.i64.wrap (2 * x761)) > r1050))
        · have h := ite_f hb1052 h
          refine a_cond_f rfl ?_
          refine a_skip ?_
          refine a_next (σ' := ⟨[(0, (.int .i64 a0)), (1, (eSi64 x760)), (5, (.osl 5)), (6, (.int .i64 x761))], [(5, some ⟨(.row 2 (x762.map eT_Si64_i64_Z)), false⟩)]⟩) (by kernel_rfl) ?_
          refine a_seq ?_
          refine a_region ?_
          obtain ⟨r1053, hr1054, h⟩ := bind_some h
          refine a_call (args := []) (u := []) (r := (eSi64 r1053)) rfl rfl (impl_letter_ok r1053 hr1054) rfl ?_
          refine a_val (v := (eSi64 r1053)) (u := []) rfl trivial rfl ?_
          refine a_nil ?_
          refine a_next (σ' := ⟨[(0, (.int .i64 a0)), (1, (eSi64 x760)), (5, (.osl 5)), (6, (.int .i64 x761)), (7, (eSi64 r1053))], [(5, some ⟨(.row 2 (x762.map eT_Si64_i64_Z)), false⟩)]⟩) (by kernel_rfl) ?_
          obtain ⟨y1071, hy1072, hk1073⟩ := bind_some h
          clear h
          refine a_join (emb := fun (s : (List Int)) => ⟨[(0, (.int .i64 a0)), (1, (eSi64 x760)), (5, (.osl 5)), (6, (.int .i64 x761)), (7, (eSi64 s))], [(5, some ⟨(.row 2 (x762.map eT_Si64_i64_Z)), false⟩)]⟩) (pre := fun s => s = y1071) ?_ ?_
          · rintro x1070 rfl
            have h := hk1073
            refine a_st (σ' := ⟨[(0, (.int .i64 a0)), (1, (eSi64 x760)), (5, (.osl 5)), (6, (.int .i64 x761)), (7, (eSi64 x1070))], [(5, some ⟨(.row 2 (x762.map eT_Si64_i64_Z)), false⟩)]⟩) (by kernel_rfl) ?_
            refine a_seq ?_
            refine a_region ?_
            refine a_val (v := (.int .i64 a0)) (u := []) rfl trivial rfl ?_
            refine a_val (v := (.int .i64 a0)) (u := []) rfl trivial rfl ?_
            refine a_val (v := (eSi64 x1070)) (u := []) rfl trivial rfl ?_
            obtain ⟨r1089, hr1090, h⟩ := bind_some h
            refine a_call (args := []) (u := []) (r := (eSi64 r1089)) rfl rfl (impl_letter_ok r1089 hr1090) rfl ?_
            obtain ⟨r1091, hr1092, h⟩ := bind_some h
            refine a_call (args := [(.int .i64 a0), (eSi64 x1070), (eSi64 r1089), (.int .i64 (-1))]) (u := []) (r := (eSi64 r1091)) rfl rfl (impl_prime_combine_ok a0 x1070 r1089 (-1) r1091 hr1092) rfl ?_
            refine a_val (v := (eSi64 x760)) (u := []) rfl trivial rfl ?_
            obtain ⟨r1093, hr1094, h⟩ := bind_some h
            refine a_call (args := [(.int .i64 a0), (eSi64 r1091), (eSi64 x760)]) (u := []) (r := (eSi64 r1093)) rfl rfl (impl_prime_gcd_ok a0 r1091 x760 r1093 hr1094) rfl ?_
            refine a_val (v := (eSi64 r1093)) (u := []) rfl trivial rfl ?_
            refine a_nil ?_
            refine a_next (σ' := ⟨[(0, (.int .i64 a0)), (1, (eSi64 x760)), (5, (.osl 5)), (6, (.int .i64 x761)), (8, (eSi64 r1093))], [(5, some ⟨(.row 2 (x762.map eT_Si64_i64_Z)), false⟩)]⟩) (by kernel_rfl) ?_
            refine a_block ?_
            refine a_loop (emb := fun (s : ((List Int) × (List Int) × (List ((List Int) × Int)))) => ⟨[(0, (.int .i64 a0)), (1, (eSi64 s.1)), (5, (.osl 5)), (6, (.int .i64 x761)), (8, (eSi64 s.2.1))], [(5, some ⟨(.row 2 (s.2.2.map eT_Si64_i64_Z)), false⟩)]⟩) (body := (fun s : ((List Int) × (List Int) × (List ((List Int) × Int))) => impl_prime_factors_l3 a0 x761 s.1 s.2.1 s.2.2)) (G := fun q => some q = some y1047) h rfl ?_ (by kernel_rfl)
            rintro X1118 ⟨x1105, x1106, x1107⟩ x1119 h hX1120
            have h : impl_prime_factors_l3 a0 x761 x1105 x1106 x1107 = some x1119 := h
            refine a_st (σ' := ⟨[(0, (.int .i64 a0)), (1, (eSi64 x1105)), (5, (.osl 5)), (6, (.int .i64 x761)), (8, (eSi64 x1106))], [(5, some ⟨(.row 2 (x1107.map eT_Si64_i64_Z)), false⟩)]⟩) (by kernel_rfl) ?_
            refine a_seq ?_
            refine a_seq ?_
            refine a_region ?_
            refine a_val (v := (eSi64 x1106)) (u := []) rfl trivial rfl ?_
            obtain ⟨r1121, hr1122, h⟩ := bind_some h
            refine a_call (args := [(eSi64 x1106)]) (u := []) (r := (.int .i64 r1121)) rfl rfl (impl_row_degree_ok x1106 r1121 hr1122) rfl ?_
            refine a_val (v := (.bool ((decide (r1121 > 0))))) (u := []) rfl trivial rfl ?_
            refine a_nil ?_
            refine a_next (σ' := ⟨[(0, (.int .i64 a0)), (1, (eSi64 x1105)), (5, (.osl 5)), (6, (.int .i64 x761)), (8, (eSi64 x1106)), (52, (.bool ((decide (r1121 > 0)))))], [(5, some ⟨(.row 2 (x1107.map eT_Si64_i64_Z)), false⟩)]⟩) (by kernel_rfl) ?_
            cases hb1123 : (decide (r1121 > 0))
            · have h := ite_f hb1123 h
              refine a_cond_f rfl ?_
              refine a_exit ?_
              refine t_exit ?_
              cases h
              have h := hX1120
              refine t_exit ?_
              refine b_exit ?_
              refine b_norm ?_
              exact j_leaf (x1105, x1107) (Option.some.inj h) (by kernel_rfl)
            · have h := ite_t hb1123 h
              refine a_cond_t rfl ?_
              refine a_skip ?_
              refine a_next (σ' := ⟨[(0, (.int .i64 a0)), (1, (eSi64 x1105)), (5, (.osl 5)), (6, (.int .i64 x761)), (8, (eSi64 x1106))], [(5, some ⟨(.row 2 (x1107.map eT_Si64_i64_Z)), false⟩)]⟩) (by kernel_rfl) ?_
              refine a_block ?_
              refine a_seq ?_
              refine a_region ?_
              refine a_val (v := (.int .i64 a0)) (u := []) rfl trivial rfl ?_
              refine a_val (v := (eSi64 x1106)) (u := []) rfl trivial rfl ?_
              refine a_val (v := (.int .i64 x761)) (u := []) rfl trivial rfl ?_
              obtain ⟨r1124, hr1125, h⟩ := bind_some h
              refine a_call (args := [(.int .i64 a0), (eSi64 x1106), (.int .i64 x761)]) (u := []) (r := (eSi64 r1124)) rfl rfl (impl_prime_withDegree_ok a0 x1106 x761 r1124 hr1125) rfl ?_
              refine a_val (v := (eSi64 r1124)) (u := []) rfl trivial rfl ?_
              refine a_nil ?_
              refine a_next (σ' := ⟨[(0, (.int .i64 a0)), (1, (eSi64 x1105)), (5, (.osl 5)), (6, (.int .i64 x761)), (8, (eSi64 x1106)), (9, (eSi64 r1124))], [(5, some ⟨(.row 2 (x1107.map eT_Si64_i64_Z)), false⟩)]⟩) (by kernel_rfl) ?_
              refine a_seq ?_
              refine a_region ?_
              refine a_val (v := (.int .i64 a0)) (u := []) rfl trivial rfl ?_
              refine a_val (v := (eSi64 x1105)) (u := []) rfl trivial rfl ?_
              refine a_val (v := (eSi64 r1124)) (u := []) rfl trivial rfl ?_
              obtain ⟨r1126, hr1127, h⟩ := bind_some h
              refine a_call (args := [(.int .i64 a0), (eSi64 x1105), (eSi64 r1124)]) (u := []) (r := (.tuple [(eSi64 r1126.1), (.int .i64 r1126.2)])) rfl rfl (impl_prime_strip_ok a0 x1105 r1124 r1126 hr1127) rfl ?_
              refine a_val (v := (.tuple [(eSi64 r1126.1), (.int .i64 r1126.2)])) (u := []) rfl trivial rfl ?_
              refine a_val (v := (eSi64 r1126.1)) (u := []) rfl (Nat.le_of_ble_eq_true rfl) rfl ?_
              refine a_val (v := (.int .i64 r1126.2)) (u := []) rfl (Nat.le_of_ble_eq_true rfl) rfl ?_
              refine a_val (v := (eSi64 r1126.1)) (u := []) rfl trivial rfl ?_
              refine a_val (v := (.int .i64 r1126.2)) (u := []) rfl trivial rfl ?_
              refine a_nil ?_
              refine a_next (σ' := ⟨[(0, (.int .i64 a0)), (5, (.osl 5)), (6, (.int .i64 x761)), (8, (eSi64 x1106)), (9, (eSi64 r1124)), (10, (eSi64 r1126.1)), (11, (.int .i64 r1126.2))], [(5, some ⟨(.row 2 (x1107.map eT_Si64_i64_Z)), false⟩)]⟩) (by kernel_rfl) ?_
              refine a_seq ?_
              refine a_region ?_
              refine a_val (v := (eSi64 r1126.1)) (u := []) rfl trivial rfl ?_
              refine a_val (v := (eSi64 r1126.1)) (u := []) rfl trivial rfl ?_
              refine a_nil ?_
              refine a_next (σ' := ⟨[(0, (.int .i64 a0)), (1, (eSi64 r1126.1)), (5, (.osl 5)), (6, (.int .i64 x761)), (8, (eSi64 x1106)), (9, (eSi64 r1124)), (11, (.int .i64 r1126.2))], [(5, some ⟨(.row 2 (x1107.map eT_Si64_i64_Z)), false⟩)]⟩) (by kernel_rfl) ?_
              refine a_seq ?_
              refine a_region ?_
              refine a_val (v := (.int .i64 a0)) (u := []) rfl trivial rfl ?_
              refine a_val (v := (eSi64 x1106)) (u := []) rfl trivial rfl ?_
              refine a_val (v := (eSi64 r1124)) (u := []) rfl trivial rfl ?_
              obtain ⟨r1128, hr1129, h⟩ := bind_some h
              refine a_call (args := [(.int .i64 a0), (eSi64 x1106), (eSi64 r1124)]) (u := []) (r := (.tuple [(eSi64 r1128.1), (.int .i64 r1128.2)])) rfl rfl (impl_prime_strip_ok a0 x1106 r1124 r1128 hr1129) rfl ?_
              refine a_val (v := (.tuple [(eSi64 r1128.1), (.int .i64 r1128.2)])) (u := []) rfl trivial rfl ?_
              refine a_val (v := (eSi64 r1128.1)) (u := []) rfl (Nat.le_of_ble_eq_true rfl) rfl ?_
              refine a_val (v := (.int .i64 r1128.2)) (u := []) rfl (Nat.le_of_ble_eq_true rfl) rfl ?_
              refine a_val (v := (eSi64 r1128.1)) (u := []) rfl trivial rfl ?_
              refine a_nil ?_
              refine a_next (σ' := ⟨[(0, (.int .i64 a0)), (1, (eSi64 r1126.1)), (5, (.osl 5)), (6, (.int .i64 x761)), (8, (eSi64 r1128.1)), (9, (eSi64 r1124)), (11, (.int .i64 r1126.2))], [(5, some ⟨(.row 2 (x1107.map eT_Si64_i64_Z)), false⟩)]⟩) (by kernel_rfl) ?_
              refine a_region ?_
              refine a_val (v := (.osl 5)) (u := []) rfl trivial rfl ?_
              refine a_val (v := (eSi64 r1124)) (u := []) rfl trivial rfl ?_
              refine a_val (v := (.int .i64 r1126.2)) (u := []) rfl trivial rfl ?_
              refine a_val (v := (eT_Si64_i64_Z (r1124, r1126.2))) (u := []) rfl ⟨rfl, (all_cons ⟨(Nat.le_of_ble_eq_true rfl), rfl⟩ (all_cons ⟨(Nat.le_of_ble_eq_true rfl), rfl⟩ all_nil))⟩ rfl ?_
              refine a_val (v := (.sl 2 true (([(r1124, r1126.2)]).map eT_Si64_i64_Z))) (u := []) rfl ⟨(Nat.le_of_ble_eq_true rfl), (Nat.le_of_ble_eq_true rfl), (all_cons ⟨(Nat.le_of_ble_eq_true rfl), rfl⟩ all_nil)⟩ rfl ?_
              obtain ⟨hc1130, h⟩ := ifp_some h
              refine a_val (v := (.osl 8700)) (u := [(8700, some ⟨(.row 2 (((x1107 ++ ([(r1124, r1126.2)]))).map eT_Si64_i64_Z)), false⟩), (5, none)]) (app_run (i := ⟨.struct [(0, 65), (1, 2)], 2, 32, (eT_Si64_i64_Z ([], (0 : Int)))⟩) (f := eT_Si64_i64_Z) (l := x1107) (l2 := [(r1124, r1126.2)]) rfl rfl rfl rfl (fun _ => rfl) rfl rfl) (app_c (f := eT_Si64_i64_Z) (s := 2) (sz := 2) (by' := 32) (u := []) (id := 5) hc1130 (.inr rfl) rfl rfl rfl) rfl ?_
              refine a_val (v := (.osl 8700)) (u := []) rfl trivial rfl ?_
              refine a_nil ?_
              refine b_norm ?_
              cases h
              exact a_again (by kernel_rfl) hX1120
          · have h := hy1072
            refine a_seq ?_
            refine a_region ?_
            refine a_val (v := (.int .i64 x761)) (u := []) rfl trivial rfl ?_
            refine a_val (v := (.int .i64 0)) (u := []) rfl trivial rfl ?_
            refine a_nil ?_
            refine a_next (σ' := ⟨[(0, (.int .i64 a0)), (1, (eSi64 x760)), (5, (.osl 5)), (6, (.int .i64 x761)), (7, (eSi64 r1053)), (34, (.int .i64 x761)), (35, (.int .i64 0))], [(5, some ⟨(.row 2 (x762.map eT_Si64_i64_Z)), false⟩)]⟩) (by kernel_rfl) ?_
            refine a_block ?_
            refine a_loop (emb := fun (s : ((List Int) × Int)) => ⟨[(0, (.int .i64 a0)), (1, (eSi64 x760)), (5, (.osl 5)), (6, (.int .i64 x761)), (7, (eSi64 s.1)), (34, (.int .i64 x761)), (35, (.int .i64 s.2))], [(5, some ⟨(.row 2 (x762.map eT_Si64_i64_Z)), false⟩)]⟩) (body := (fun s : ((List Int) × Int) => impl_prime_factors_l2 x761 a0 x760 s.1 s.2)) (G := fun q => some q = some y1071) h rfl ?_ (by kernel_rfl)
            rintro X1082 ⟨x1077, x1078⟩ x1083 h hX1084
            have h : impl_prime_factors_l2 x761 a0 x760 x1077 x1078 = some x1083 := h
            refine a_st (σ' := ⟨[(0, (.int .i64 a0)), (1, (eSi64 x760)), (5, (.osl 5)), (6, (.int .i64 x761)), (7, (eSi64 x1077)), (34, (.int .i64 x761)), (35, (.int .i64 x1078))], [(5, some ⟨(.row 2 (x762.map eT_Si64_i64_Z)), false⟩)]⟩) (by kernel_rfl) ?_
            refine a_seq ?_
            refine a_region ?_
            refine a_val (v := (.bool ((decide (x1078 < x761))))) (u := []) rfl trivial rfl ?_
            refine a_nil ?_
            refine a_next (σ' := ⟨[(0, (.int .i64 a0)), (1, (eSi64 x760)), (5, (.osl 5)), (6, (.int .i64 x761)), (7, (eSi64 x1077)), (34, (.int .i64 x761)), (35, (.int .i64 x1078)), (36, (.bool ((decide (x1078 < x761)))))], [(5, some ⟨(.row 2 (x762.map eT_Si64_i64_Z)), false⟩)]⟩) (by kernel_rfl) ?_
            refine a_seq ?_
            cases hb1085 : (decide (x1078 < x761))
            · have h := ite_f hb1085 h
              refine a_cond_f rfl ?_
              refine a_exit ?_
              refine t_exit ?_
              cases h
              have h := hX1084
              refine t_exit ?_
              refine b_exit ?_
              exact j_leaf x1077 (Option.some.inj h) (by kernel_rfl)
            · have h := ite_t hb1085 h
              refine a_cond_t rfl ?_
              refine a_skip ?_
              refine a_next (σ' := ⟨[(0, (.int .i64 a0)), (1, (eSi64 x760)), (5, (.osl 5)), (6, (.int .i64 x761)), (7, (eSi64 x1077)), (34, (.int .i64 x761)), (35, (.int .i64 x1078))], [(5, some ⟨(.row 2 (x762.map eT_Si64_i64_Z)), false⟩)]⟩) (by kernel_rfl) ?_
              refine a_seq ?_
              refine a_block ?_
              refine a_region ?_
              refine a_val (v := (.int .i64 a0)) (u := []) rfl trivial rfl ?_
              refine a_val (v := (eSi64 x1077)) (u := []) rfl trivial rfl ?_
              refine a_val (v := (.int .i64 a0)) (u := []) rfl trivial rfl ?_
              refine a_val (v := (eSi64 x760)) (u := []) rfl trivial rfl ?_
              obtain ⟨r1086, hr1087, h⟩ := bind_some h
              refine a_call (args := [(.int .i64 a0), (eSi64 x1077), (.int .i64 a0), (eSi64 x760)]) (u := []) (r := (eSi64 r1086)) rfl rfl (impl_prime_power_ok a0 x1077 a0 x760 r1086 hr1087) rfl ?_
              refine a_val (v := (eSi64 r1086)) (u := []) rfl trivial rfl ?_
              refine a_nil ?_
              refine b_norm ?_
              refine a_next (σ' := ⟨[(0, (.int .i64 a0)), (1, (eSi64 x760)), (5, (.osl 5)), (6, (.int .i64 x761)), (7, (eSi64 r1086)), (34, (.int .i64 x761)), (35, (.int .i64 x1078))], [(5, some ⟨(.row 2 (x762.map eT_Si64_i64_Z)), false⟩)]⟩) (by kernel_rfl) ?_
              refine a_region ?_
              refine a_val (v := (.int .i64 (IntKind.i64.wrap (x1078 + 1)))) (u := []) rfl trivial rfl ?_
              refine a_val (v := (.int .i64 (IntKind.i64.wrap (x1078 + 1)))) (u := []) rfl trivial rfl ?_
              refine a_nil ?_
              cases h
              exact a_again (by kernel_rfl) hX1084
        · have h := ite_t hb1052 h
          refine a_cond_t rfl ?_
          refine a_seq ?_
          refine a_region ?_
          refine a_val (v := (.osl 5)) (u := []) rfl trivial rfl ?_
          refine a_val (v := (.int .i64 a0)) (u := []) rfl trivial rfl ?_
          refine a_val (v := (eSi64 x760)) (u := []) rfl trivial rfl ?_
          refine a_val (v := (.int .i64 a0)) (u := []) rfl trivial rfl ?_
          refine a_val (v := (eSi64 x760)) (u := []) rfl trivial rfl ?_
          obtain ⟨r1132, hr1133, h⟩ := bind_some h
          refine a_call (args := [(eSi64 x760)]) (u := []) (r := (.int .i64 r1132)) rfl rfl (impl_row_lead_ok x760 r1132 hr1133) rfl ?_
          obtain ⟨r1134, hr1135, h⟩ := bind_some h
          refine a_call (args := [(.int .i64 a0), (.int .i64 r1132)]) (u := []) (r := (.int .i64 r1134)) rfl rfl (impl_prime_inverse_ok a0 r1132 r1134 hr1135) rfl ?_
          obtain ⟨r1136, hr1137, h⟩ := bind_some h
          refine a_call (args := [(.int .i64 a0), (eSi64 x760), (.int .i64 r1134)]) (u := []) (r := (eSi64 r1136)) rfl rfl (impl_prime_scale_ok a0 x760 r1134 r1136 hr1137) rfl ?_
          refine a_val (v := (eT_Si64_i64_Z (r1136, 1))) (u := []) rfl ⟨rfl, (all_cons ⟨(Nat.le_of_ble_eq_true rfl), rfl⟩ (all_cons ⟨(Nat.le_of_ble_eq_true rfl), rfl⟩ all_nil))⟩ rfl ?_
          refine a_val (v := (.sl 2 true (([(r1136, 1)]).map eT_Si64_i64_Z))) (u := []) rfl ⟨(Nat.le_of_ble_eq_true rfl), (Nat.le_of_ble_eq_true rfl), (all_cons ⟨(Nat.le_of_ble_eq_true rfl), rfl⟩ all_nil)⟩ rfl ?_
          obtain ⟨hc1138, h⟩ := ifp_some h
          refine a_val (v := (.osl 4200)) (u := [(4200, some ⟨(.row 2 (((x762 ++ ([(r1136, 1)]))).map eT_Si64_i64_Z)), false⟩), (5, none)]) (app_run (i := ⟨.struct [(0, 65), (1, 2)], 2, 32, (eT_Si64_i64_Z ([], (0 : Int)))⟩) (f := eT_Si64_i64_Z) (l := x762) (l2 := [(r1136, 1)]) rfl rfl rfl rfl (fun _ => rfl) rfl rfl) (app_c (f := eT_Si64_i64_Z) (s := 2) (sz := 2) (by' := 32) (u := []) (id := 5) hc1138 (.inr rfl) rfl rfl rfl) rfl ?_
          refine a_val (v := (.osl 4200)) (u := []) rfl trivial rfl ?_
          refine a_nil ?_
          refine a_next rfl ?_
          refine a_exit ?_
          refine t_exit ?_
          refine b_other rfl ?_
          refine t_exit ?_
          cases h
          have h := hk1049
          cases h
          have h := hX952
          refine t_exit ?_
          refine b_exit ?_
          exact j_leaf ((x762 ++ ([(r1136, 1)]))) (Option.some.inj h) (by kernel_rfl)
def impl_prime_isIrreducible_c : ACode := (.seq (.region 0 [⟨some 4, .asg 0 (.const (.bool false)) 4, none, []⟩] false) (.seq (.seq (.region 1 [⟨some 6, .mov (.tmp 1), none, []⟩, ⟨some 7, .call 0 (.func 101) [(.tmp 6)], none, []⟩, ⟨some 8, .bin .neq 2 (.tmp 7) (.const (.int .i64 1)), none, []⟩, ⟨some 9, .mov (.tmp 8), none, []⟩, ⟨some 10, .mov (.tmp 1), some (9, false), []⟩, ⟨some 11, .call 0 (.func 59) [(.tmp 10)], some (9, false), []⟩, ⟨some 12, .bin .lss 2 (.tmp 11) (.const (.int .i64 1)), some (9, false), []⟩, ⟨some 13, .pick (.tmp 9) (.const (.bool true)) (.tmp 12), none, []⟩] false) (.cond (.tmp 13) (.seq (.region 2 [⟨some 4, .asg 0 (.const (.bool false)) 4, none, []⟩] false) .ret) .skip)) (.seq (.region 3 [⟨some 14, .mov (.tmp 0), none, []⟩, ⟨some 15, .mov (.tmp 1), none, []⟩, ⟨some 16, .call 0 (.func 54) [(.tmp 14), (.tmp 15)], none, []⟩, ⟨some 5, .asg 1 (.tmp 16) 68, none, []⟩] false) (.seq (.region 4 [⟨some 17, .mov (.tmp 5), none, []⟩, ⟨some 18, .blt 0 .len [(.tmp 17)] [68], none, []⟩, ⟨some 19, .bin .eql 3 (.tmp 18) (.const (.int .i64 1)), none, []⟩, ⟨some 20, .mov (.tmp 19), none, []⟩, ⟨some 21, .mov (.tmp 5), some (20, true), []⟩, ⟨some 22, .indexAddr 68 (.tmp 21) (.const (.int .i64 0)), some (20, true), []⟩, ⟨some 23, .fieldAddr 71 (.tmp 22) 1, some (20, true), []⟩, ⟨some 24, .load 2 (.tmp 23), some (20, true), []⟩, ⟨some 25, .bin .eql 2 (.tmp 24) (.const (.int .i64 1)), some (20, true), []⟩, ⟨some 26, .pick (.tmp 20) (.tmp 25) (.const (.bool false)), none, []⟩, ⟨some 4, .asg 0 (.tmp 26) 4, none, []⟩] false) .ret))))
def impl_prime_isIrreducible_L : Live := [(0, [0, 1]), (1, [0, 1]), (2, []), (3, [0, 1]), (4, [5]), (100013, [0, 1, 13])]
theorem impl_prime_isIrreducible_body : Try.f51.body = some (Try.f51.body.getD .skip) := by kernel_rfl
theorem impl_prime_isIrreducible_strip : strip [(5, 1)] (Try.f51.body.getD .skip) = impl_prime_isIrreducible_c := by kernel_rfl
noncomputable def impl_prime_isIrreducible (a0 : Int) (a1 : (List Int)) : Option Bool :=
  (Option.bind (α := Bool) ((Option.bind (impl_row_lead a1) fun r10 => (if (r10 != 1) then (some true) else (Option.bind (impl_row_degree a1) fun r13 => (some ((decide (r13 < 1)))))))) fun x6 => (if x6 then (some false) else (Option.bind (impl_prime_factors a0 a1) fun r16 => (if ((r16.length : Int) == 1) then (ifp (0 ≤ (0 : Int) ∧ (0 : Int) < ((r16.length : Nat) : Int)) ((some (((((rd r16 (0 : Int).toNat)).2) == 1))))) else (some false)))))
set_option maxHeartbeats 16000000 in
theorem impl_prime_isIrreducible_ok (a0 : Int) (a1 : (List Int)) (r : Bool) (h : impl_prime_isIrreducible a0 a1 = some r) : Den Try.prog 51 [(.int .i64 a0), (eSi64 a1)] { r := (.bool r) } := by
  refine den_of (rs := [(.bool r)]) (ac := impl_prime_isIrreducible_c) (L := impl_prime_isIrreducible_L) (n := 27) (m := [(5, 1)]) good Try.func51 impl_prime_isIrreducible_body (by kernel_rfl) Try.ntmps51 rfl rfl impl_prime_isIrreducible_strip rfl rfl ?_
  refine a_st (σ' := ⟨[(0, (.int .i64 a0)), (1, (eSi64 a1))], []⟩) (by kernel_rfl) ?_
  unfold impl_prime_isIrreducible_c
  refine a_seq ?_
  refine a_region ?_
  refine a_val (v := (.bool false)) (u := []) rfl trivial rfl ?_
  refine a_nil ?_
  refine a_next (σ' := ⟨[(0, (.int .i64 a0)), (1, (eSi64 a1))], []⟩) (by kernel_rfl) ?_
  refine a_seq ?_
  obtain ⟨y7, hy8, hk9⟩ := bind_some h
  clear h
  refine a_join (emb := fun (s : Bool) => ⟨[(0, (.int .i64 a0)), (1, (eSi64 a1)), (13, (.bool s))], []⟩) (pre := fun s => s = y7) ?_ ?_
  · rintro x6 rfl
    have h := hk9
    refine a_st (σ' := ⟨[(0, (.int .i64 a0)), (1, (eSi64 a1)), (13, (.bool x6))], []⟩) (by kernel_rfl) ?_
    cases hb15 : x6
    · have h := ite_f hb15 h
      refine a_cond_f rfl ?_
      refine a_skip ?_
      refine a_next (σ' := ⟨[(0, (.int .i64 a0)), (1, (eSi64 a1))], []⟩) (by kernel_rfl) ?_
      refine a_seq ?_
      refine a_region ?_
      refine a_val (v := (.int .i64 a0)) (u := []) rfl trivial rfl ?_
      refine a_val (v := (eSi64 a1)) (u := []) rfl trivial rfl ?_
      obtain ⟨r16, hr17, h⟩ := bind_some h
      refine a_call (args := [(.int .i64 a0), (eSi64 a1)]) (u := []) (r := (eST_Si64_i64_Z r16)) rfl rfl (impl_prime_factors_ok a0 a1 r16 hr17) rfl ?_
      refine a_val (v := (eST_Si64_i64_Z r16)) (u := []) rfl trivial rfl ?_
      refine a_nil ?_
      refine a_next (σ' := ⟨[(5, (eST_Si64_i64_Z r16))], []⟩) (by kernel_rfl) ?_
      refine a_seq ?_
      refine a_region ?_
      refine a_val (v := (eST_Si64_i64_Z r16)) (u := []) rfl trivial rfl ?_
      refine a_val (v := (.int .i64 (r16.length : Int))) (u := []) (len_run rfl rfl) trivial rfl ?_
      refine a_val (v := (.bool (((r16.length : Int) == 1)))) (u := []) rfl trivial rfl ?_
      refine a_val (v := (.bool (((r16.length : Int) == 1)))) (u := []) rfl trivial rfl ?_
      cases hb18 : ((r16.length : Int) == 1)
      · have h := ite_f hb18 h
        refine a_gskip rfl ?_
        refine a_gskip rfl ?_
        refine a_gskip rfl ?_
        refine a_gskip rfl ?_
        refine a_gskip rfl ?_
        refine a_val (v := (.bool false)) (u := []) rfl trivial rfl ?_
        refine a_val (v := (.bool false)) (u := []) rfl trivial rfl ?_
        refine a_nil ?_
        refine a_next rfl ?_
        refine a_ret ?_
        refine ⟨.inr rfl, ?_⟩
        rw [Try.results51]
        cases h
        exact ⟨_, _, _, _, _, rfl, trivial, .inl ⟨rfl, .inl rfl⟩, rfl, rfl⟩
      · have h := ite_t hb18 h
        refine a_gval rfl (v := (eST_Si64_i64_Z r16)) (u := []) rfl trivial rfl ?_
        obtain ⟨hc19, h⟩ := ifp_some h
        refine a_gval rfl (v := (.ref (.row 2 (r16.map eT_Si64_i64_Z)) [(0 : Int).toNat] [(0 : Int).toNat * 2])) (u := []) rfl (lmap hc19) rfl ?_
        refine a_gval rfl (v := (.ref (.row 2 (r16.map eT_Si64_i64_Z)) [(0 : Int).toNat, 1] [(0 : Int).toNat * 2, 1])) (u := []) rfl (Nat.le_of_ble_eq_true rfl) rfl ?_
        have hl20 : LdOk [(0 : Int).toNat, 1] (.row 2 (r16.map eT_Si64_i64_Z)) [(0 : Int).toNat * 2, 1] 1 false (.int .i64 (((rd r16 (0 : Int).toNat)).2)) := (.row (llt hc19) rfl (.fld rfl rfl rfl rfl (.nil rfl rfl rfl)))
        refine a_gval rfl (v := (.int .i64 (((rd r16 (0 : Int).toNat)).2))) (u := []) (ld_ref (i := ⟨.int .i64, 1, 8, (.int .i64 0)⟩) rfl rfl hl20) hl20.c rfl ?_
        refine a_gval rfl (v := (.bool (((((rd r16 (0 : Int).toNat)).2) == 1)))) (u := []) rfl trivial rfl ?_
        refine a_val (v := (.bool (((((rd r16 (0 : Int).toNat)).2) == 1)))) (u := []) rfl trivial rfl ?_
        refine a_val (v := (.bool (((((rd r16 (0 : Int).toNat)).2) == 1)))) (u := []) rfl trivial rfl ?_
        refine a_nil ?_
        refine a_next rfl ?_
        refine a_ret ?_
        refine ⟨.inr rfl, ?_⟩
        rw [Try.results51]
        cases h
        exact ⟨_, _, _, _, _, rfl, trivial, .inl ⟨rfl, .inl rfl⟩, rfl, rfl⟩
    · have h := ite_t hb15 h
      refine a_cond_t rfl ?_
      refine a_seq ?_
      refine a_region ?_
      refine a_val (v := (.bool false)) (u := []) rfl trivial rfl ?_
      refine a_nil ?_
      refine a_next rfl ?_
      refine a_ret ?_
      refine t_ret ?_
      refine ⟨.inr rfl, ?_⟩
      rw [Try.results51]
      cases h
      exact ⟨_, _, _, _, _, rfl, trivial, .inl ⟨rfl, .inl rfl⟩, rfl, rfl⟩
  · have h := hy8
    refine a_region ?_
    refine a_val (v := (eSi64 a1)) (u := []) rfl trivial rfl ?_
    obtain ⟨r10, hr11, h⟩ := bind_some h
    refine a_call (args := [(eSi64 a1)]) (u := []) (r := (.int .i64 r10)) rfl rfl (impl_row_lead_ok a1 r10 hr11) rfl ?_
    refine a_val (v := (.bool (r10 != 1))) (u := []) rfl trivial rfl ?_
    refine a_val (v := (.bool (r10 != 1))) (u := []) rfl trivial rfl ?_
    cases hb12 : (r10 != 1)
    · have h := ite_f hb12 h
      refine a_gval rfl (v := (eSi64 a1)) (u := []) rfl trivial rfl ?_
      obtain ⟨r13, hr14, h⟩ := bind_some h
      refine a_gcall rfl (args := [(eSi64 a1)]) (u := []) (r := (.int .i64 r13)) rfl rfl (impl_row_degree_ok a1 r13 hr14) rfl ?_
      refine a_gval rfl (v := (.bool ((decide (r13 < 1))))) (u := []) rfl trivial rfl ?_
      refine a_val (v := (.bool ((decide (r13 < 1))))) (u := []) rfl trivial rfl ?_
      refine a_nil ?_
      exact j_leaf ((decide (r13 < 1))) (Option.some.inj h) (by kernel_rfl)
    · have h := ite_t hb12 h
      refine a_gskip rfl ?_
      refine a_gskip rfl ?_
      refine a_gskip rfl ?_
      refine a_val (v := (.bool true)) (u := []) rfl trivial rfl ?_
      refine a_nil ?_
      exact j_leaf true (Option.some.inj h) (by kernel_rfl)
def impl_isField_c : ACode := (.seq (.region 0 [⟨some 3, .box 24 (.tmp 1), none, []⟩, ⟨some 4, .asg 0 (.const (.bool false)) 4, none, []⟩] false) (.seq (.region 1 [⟨some 6, .load 24 (.tmp 3), none, []⟩, ⟨some 7, .call 0 (.func 52) [(.tmp 6)], none, []⟩, ⟨some 5, .asg 1 (.tmp 7) 65, none, []⟩] false) (.seq (.region 2 [⟨some 8, .mov (.tmp 0), none, []⟩, ⟨some 9, .load 24 (.tmp 3), none, []⟩, ⟨some 10, .call 0 (.func 92) [(.tmp 8), (.tmp 9)], none, []⟩, ⟨some 11, .mov (.tmp 10), none, []⟩, ⟨some 12, .mov (.tmp 5), some (11, true), []⟩, ⟨some 13, .call 0 (.func 59) [(.tmp 12)], some (11, true), []⟩, ⟨some 14, .call 0 (.func 93) [(.tmp 13), (.const (.int .i64 1)), (.const (.int .i64 4))], some (11, true), []⟩, ⟨some 15, .pick (.tmp 11) (.tmp 14) (.const (.bool false)), none, []⟩, ⟨some 16, .mov (.tmp 15), none, []⟩, ⟨some 17, .mov (.tmp 0), some (16, true), []⟩, ⟨some 18, .mov (.tmp 5), some (16, true), []⟩, ⟨some 19, .call 0 (.func 51) [(.tmp 17), (.tmp 18)], some (16, true), []⟩, ⟨some 20, .pick (.tmp 16) (.tmp 19) (.const (.bool false)), none, []⟩, ⟨some 4, .asg 0 (.tmp 20) 4, none, []⟩] false) .ret)))
def impl_isField_L : Live := [(0, [0, 1]), (1, [0, 3]), (2, [0, 3, 5])]
theorem impl_isField_body : Try.f46.body = some (Try.f46.body.getD .skip) := by kernel_rfl
theorem impl_isField_strip : strip [(5, 1)] (Try.f46.body.getD .skip) = impl_isField_c := by kernel_rfl
noncomputable def impl_isField (a0 : Int) (a1 : (Vec Int 64)) : Option Bool :=
  (Option.bind (impl_rowOf a1) fun r2 => (Option.bind (impl_IsPoly a0 a1) fun r5 => (if r5 then (Option.bind (impl_row_degree r2) fun r8 => (Option.bind (impl_within r8 1 4) fun r10 => (if r10 then (Option.bind (impl_prime_isIrreducible a0 r2) fun r13 => (some r13)) else (some false)))) else (some false))))
set_option maxHeartbeats 16000000 in
theorem impl_isField_ok (a0 : Int) (a1 : (Vec Int 64)) (r : Bool) (h : impl_isField a0 a1 = some r) : Den Try.prog 46 [(.int .i64 a0), (eA64u8 a1)] { r := (.bool r) } := by
  refine den_of (rs := [(.bool r)]) (ac := impl_isField_c) (L := impl_isField_L) (n := 21) (m := [(5, 1)]) good Try.func46 impl_isField_body (by kernel_rfl) Try.ntmps46 rfl rfl impl_isField_strip rfl rfl ?_
  refine a_st (σ' := ⟨[(0, (.int .i64 a0)), (1, (eA64u8 a1))], []⟩) (by kernel_rfl) ?_
  unfold impl_isField_c
  refine a_seq ?_
  refine a_region ?_
  refine a_val (v := (.own 1300 [] [])) (u := [(1300, some ⟨(eA64u8 a1), false⟩)]) rfl trivial rfl ?_
  refine a_val (v := (.bool false)) (u := []) rfl trivial rfl ?_
  refine a_nil ?_
  refine a_next (σ' := ⟨[(0, (.int .i64 a0)), (3, (.own 3 [] []))], [(3, some ⟨(eA64u8 a1), false⟩)]⟩) (by kernel_rfl) ?_
  refine a_seq ?_
  refine a_region ?_
  have hl1 : LdOk [] (eA64u8 a1) [] 64 true (eA64u8 a1) := (.nil rfl rfl rfl)
  refine a_val (v := (eA64u8 a1)) (u := []) (ld_own (i := ⟨.arr 64 5, 64, 64, (eA64u8 (vrep 64 (0 : Int)))⟩) rfl rfl rfl hl1) hl1.c rfl ?_
  obtain ⟨r2, hr3, h⟩ := bind_some h
  refine a_call (args := [(eA64u8 a1)]) (u := []) (r := (eSi64 r2)) rfl rfl (impl_rowOf_ok a1 r2 hr3) rfl ?_
  refine a_val (v := (eSi64 r2)) (u := []) rfl trivial rfl ?_
  refine a_nil ?_
  refine a_next (σ' := ⟨[(0, (.int .i64 a0)), (3, (.own 3 [] [])), (5, (eSi64 r2))], [(3, some ⟨(eA64u8 a1), false⟩)]⟩) (by kernel_rfl) ?_
  refine a_seq ?_
  refine a_region ?_
  refine a_val (v := (.int .i64 a0)) (u := []) rfl trivial rfl ?_
  have hl4 : LdOk [] (eA64u8 a1) [] 64 true (eA64u8 a1) := (.nil rfl rfl rfl)
  refine a_val (v := (eA64u8 a1)) (u := []) (ld_own (i := ⟨.arr 64 5, 64, 64, (eA64u8 (vrep 64 (0 : Int)))⟩) rfl rfl rfl hl4) hl4.c rfl ?_
  obtain ⟨r5, hr6, h⟩ := bind_some h
  refine a_call (args := [(.int .i64 a0), (eA64u8 a1)]) (u := []) (r := (.bool r5)) rfl rfl (impl_IsPoly_ok a0 a1 r5 hr6) rfl ?_
  refine a_val (v := (.bool r5)) (u := []) rfl trivial rfl ?_
  cases hb7 : r5
  · have h := ite_f hb7 h
    refine a_gskip rfl ?_
    refine a_gskip rfl ?_
    refine a_gskip rfl ?_
    refine a_val (v := (.bool false)) (u := []) rfl trivial rfl ?_
    refine a_val (v := (.bool false)) (u := []) rfl trivial rfl ?_
    refine a_gskip rfl ?_
    refine a_gskip rfl ?_
    refine a_gskip rfl ?_
    refine a_val (v := (.bool false)) (u := []) rfl trivial rfl ?_
    refine a_val (v := (.bool false)) (u := []) rfl trivial rfl ?_
    refine a_nil ?_
    refine a_next rfl ?_
    refine a_ret ?_
    refine ⟨.inr rfl, ?_⟩
    rw [Try.results46]
    cases h
    exact ⟨_, _, _, _, _, rfl, trivial, .inl ⟨rfl, .inl rfl⟩, rfl, rfl⟩
  · have h := ite_t hb7 h
    refine a_gval rfl (v := (eSi64 r2)) (u := []) rfl trivial rfl ?_
    obtain ⟨r8, hr9, h⟩ := bind_some h
    refine a_gcall rfl (args := [(eSi64 r2)]) (u := []) (r := (.int .i64 r8)) rfl rfl (impl_row_degree_ok r2 r8 hr9) rfl ?_
    obtain ⟨r10, hr11, h⟩ := bind_some h
    refine a_gcall rfl (args := [(.int .i64 r8), (.int .i64 1), (.int .i64 4)]) (u := []) (r := (.bool r10)) rfl rfl (impl_within_ok r8 1 4 r10 hr11) rfl ?_
    refine a_val (v := (.bool r10)) (u := []) rfl trivial rfl ?_
    refine a_val (v := (.bool r10)) (u := []) rfl trivial rfl ?_
    cases hb12 : r10
    · have h := ite_f hb12 h
      refine a_gskip rfl ?_
      refine a_gskip rfl ?_
      refine a_gskip rfl ?_
      refine a_val (v := (.bool false)) (u := []) rfl trivial rfl ?_
      refine a_val (v := (.bool false)) (u := []) rfl trivial rfl ?_
      refine a_nil ?_
      refine a_next rfl ?_
      refine a_ret ?_
      refine ⟨.inr rfl, ?_⟩
      rw [Try.results46]
      cases h
      exact ⟨_, _, _, _, _, rfl, trivial, .inl ⟨rfl, .inl rfl⟩, rfl, rfl⟩
    · have h := ite_t hb12 h
      refine a_gval rfl (v := (.int .i64 a0)) (u := []) rfl trivial rfl ?_
      refine a_gval rfl (v := (eSi64 r2)) (u := []) rfl trivial rfl ?_
      obtain ⟨r13, hr14, h⟩ := bind_some h
      refine a_gcall rfl (args := [(.int .i64 a0), (eSi64 r2)]) (u := []) (r := (.bool r13)) rfl rfl (impl_prime_isIrreducible_ok a0 r2 r13 hr14) rfl ?_
      refine a_val (v := (.bool r13)) (u := []) rfl trivial rfl ?_
      refine a_val (v := (.bool r13)) (u := []) rfl trivial rfl ?_
      refine a_nil ?_
      refine a_next rfl ?_
      refine a_ret ?_
      refine ⟨.inr rfl, ?_⟩
      rw [Try.results46]
      cases h
      exact ⟨_, _, _, _, _, rfl, trivial, .inl ⟨rfl, .inl rfl⟩, rfl, rfl⟩
def impl_IsField_c : ACode := (.seq (.region 0 [⟨some 3, .box 24 (.tmp 1), none, []⟩, ⟨some 4, .asg 0 (.const (.bool false)) 4, none, []⟩] false) (.seq (.region 1 [⟨some 5, .mov (.tmp 0), none, []⟩, ⟨some 6, .load 24 (.tmp 3), none, []⟩, ⟨some 7, .call 0 (.func 46) [(.tmp 5), (.tmp 6)], none, []⟩, ⟨some 4, .asg 0 (.tmp 7) 4, none, []⟩] false) .ret))
def impl_IsField_L : Live := [(0, [0, 1]), (1, [0, 3])]
theorem impl_IsField_body : Try.f16.body = some (Try.f16.body.getD .skip) := by kernel_rfl
theorem impl_IsField_strip : strip [] (Try.f16.body.getD .skip) = impl_IsField_c := by kernel_rfl
noncomputable def impl_IsField (a0 : Int) (a1 : (Vec Int 64)) : Option Bool :=
  (Option.bind (impl_isField a0 a1) fun r2 => (some r2))
set_option maxHeartbeats 16000000 in
theorem impl_IsField_ok (a0 : Int) (a1 : (Vec Int 64)) (r : Bool) (h : impl_IsField a0 a1 = some r) : Den Try.prog 16 [(.int .i64 a0), (eA64u8 a1)] { r := (.bool r) } := by
  refine den_of (rs := [(.bool r)]) (ac := impl_IsField_c) (L := impl_IsField_L) (n := 8) (m := []) good Try.func16 impl_IsField_body (by kernel_rfl) Try.ntmps16 rfl rfl impl_IsField_strip rfl rfl ?_
  refine a_st (σ' := ⟨[(0, (.int .i64 a0)), (1, (eA64u8 a1))], []⟩) (by kernel_rfl) ?_
  unfold impl_IsField_c
  refine a_seq ?_
  refine a_region ?_
  refine a_val (v := (.own 1300 [] [])) (u := [(1300, some ⟨(eA64u8 a1), false⟩)]) rfl trivial rfl ?_
  refine a_val (v := (.bool false)) (u := []) rfl trivial rfl ?_
  refine a_nil ?_
  refine a_next (σ' := ⟨[(0, (.int .i64 a0)), (3, (.own 3 [] []))], [(3, some ⟨(eA64u8 a1), false⟩)]⟩) (by kernel_rfl) ?_
  refine a_seq ?_
  refine a_region ?_
  refine a_val (v := (.int .i64 a0)) (u := []) rfl trivial rfl ?_
  have hl1 : LdOk [] (eA64u8 a1) [] 64 true (eA64u8 a1) := (.nil rfl rfl rfl)
  refine a_val (v := (eA64u8 a1)) (u := []) (ld_own (i := ⟨.arr 64 5, 64, 64, (eA64u8 (vrep 64 (0 : Int)))⟩) rfl rfl rfl hl1) hl1.c rfl ?_
  obtain ⟨r2, hr3, h⟩ := bind_some h
  refine a_call (args := [(.int .i64 a0), (eA64u8 a1)]) (u := []) (r := (.bool r2)) rfl rfl (impl_isField_ok a0 a1 r2 hr3) rfl ?_
  refine a_val (v := (.bool r2)) (u := []) rfl trivial rfl ?_
  refine a_nil ?_
  refine a_next rfl ?_
  refine a_ret ?_
  refine ⟨.inr rfl, ?_⟩
  rw [Try.results16]
  cases h
  exact ⟨_, _, _, _, _, rfl, trivial, .inl ⟨rfl, .inl rfl⟩, rfl, rfl⟩
def laws_FnExactIsField_c : ACode := (.seq (.region 0 [⟨some 3, .box 22 (.tmp 1), none, []⟩, ⟨some 4, .asg 0 (.const (.bool false)) 4, none, []⟩] false) (.seq (.region 1 [⟨some 7, .mov (.tmp 0), none, []⟩, ⟨some 8, .load 22 (.tmp 3), none, []⟩, ⟨some 9, .call 0 (.func 15) [(.tmp 8)], none, []⟩, ⟨some 10, .call 0 (.func 14) [(.tmp 7), (.tmp 9)], none, []⟩, ⟨some 5, .asg 0 (.tmp 10) 4, none, []⟩] false) (.seq (.region 2 [⟨some 11, .mov (.tmp 0), none, []⟩, ⟨some 12, .load 22 (.tmp 3), none, []⟩, ⟨some 13, .call 0 (.func 15) [(.tmp 12)], none, []⟩, ⟨some 14, .call 0 (.func 16) [(.tmp 11), (.tmp 13)], none, []⟩, ⟨some 6, .asg 0 (.tmp 14) 4, none, []⟩] false) (.seq (.seq (.region 3 [⟨some 15, .mov (.tmp 6), none, []⟩, ⟨some 16, .mov (.tmp 5), none, []⟩, ⟨some 17, .bin .neq 4 (.tmp 15) (.tmp 16), none, []⟩] false) (.cond (.tmp 17) (.seq (.region 4 [⟨some 4, .asg 0 (.const (.bool false)) 4, none, []⟩] false) .ret) .skip)) (.seq (.region 5 [⟨some 4, .asg 0 (.const (.bool true)) 4, none, []⟩] false) .ret)))))
def laws_FnExactIsField_L : Live := [(0, [0, 1]), (1, [0, 3]), (2, [0, 3, 5]), (3, [5, 6]), (4, []), (5, []), (100017, [17])]
theorem laws_FnExactIsField_body : Try.f3.body = some (Try.f3.body.getD .skip) := by kernel_rfl
theorem laws_FnExactIsField_strip : strip [] (Try.f3.body.getD .skip) = laws_FnExactIsField_c := by kernel_rfl
noncomputable def laws_FnExactIsField (a0 : Int) (a1 : (Vec Int 64)) : Option Bool :=
  (Option.bind (laws_toPoly a1) fun r2 => (Option.bind (spec_IsField a0 r2) fun r4 => (Option.bind (laws_toPoly a1) fun r7 => (Option.bind (impl_IsField a0 r7) fun r9 => (if (!(r9 == r4)) then (some false) else (some true))))))
set_option maxHeartbeats 16000000 in
theorem laws_FnExactIsField_ok (a0 : Int) (a1 : (Vec Int 64)) (r : Bool) (h : laws_FnExactIsField a0 a1 = some r) : Den Try.prog 3 [(.int .i64 a0), (eA64u8 a1)] { r := (.bool r) } := by
  refine den_of (rs := [(.bool r)]) (ac := laws_FnExactIsField_c) (L := laws_FnExactIsField_L) (n := 18) (m := []) good Try.func3 laws_FnExactIsField_body (by kernel_rfl) Try.ntmps3 rfl rfl laws_FnExactIsField_strip rfl rfl ?_
  refine a_st (σ' := ⟨[(0, (.int .i64 a0)), (1, (eA64u8 a1))], []⟩) (by kernel_rfl) ?_
  unfold laws_FnExactIsField_c
  refine a_seq ?_
  refine a_region ?_
  refine a_val (v := (.own 1300 [] [])) (u := [(1300, some ⟨(eA64u8 a1), false⟩)]) rfl trivial rfl ?_
  refine a_val (v := (.bool false)) (u := []) rfl trivial rfl ?_
  refine a_nil ?_
  refine a_next (σ' := ⟨[(0, (.int .i64 a0)), (3, (.own 3 [] []))], [(3, some ⟨(eA64u8 a1), false⟩)]⟩) (by kernel_rfl) ?_
  refine a_seq ?_
  refine a_region ?_
  refine a_val (v := (.int .i64 a0)) (u := []) rfl trivial rfl ?_
  have hl1 : LdOk [] (eA64u8 a1) [] 64 true (eA64u8 a1) := (.nil rfl rfl rfl)
  refine a_val (v := (eA64u8 a1)) (u := []) (ld_own (i := ⟨.arr 64 5, 64, 64, (eA64u8 (vrep 64 (0 : Int)))⟩) rfl rfl rfl hl1) hl1.c rfl ?_
  obtain ⟨r2, hr3, h⟩ := bind_some h
  refine a_call (args := [(eA64u8 a1)]) (u := []) (r := (eA64u8 r2)) rfl rfl (laws_toPoly_ok a1 r2 hr3) rfl ?_
  obtain ⟨r4, hr5, h⟩ := bind_some h
  refine a_call (args := [(.int .i64 a0), (eA64u8 r2)]) (u := []) (r := (.bool r4)) rfl rfl (spec_IsField_ok a0 r2 r4 hr5) rfl ?_
  refine a_val (v := (.bool r4)) (u := []) rfl trivial rfl ?_
  refine a_nil ?_
  refine a_next (σ' := ⟨[(0, (.int .i64 a0)), (3, (.own 3 [] [])), (5, (.bool r4))], [(3, some ⟨(eA64u8 a1), false⟩)]⟩) (by kernel_rfl) ?_
  refine a_seq ?_
  refine a_region ?_
  refine a_val (v := (.int .i64 a0)) (u := []) rfl trivial rfl ?_
  have hl6 : LdOk [] (eA64u8 a1) [] 64 true (eA64u8 a1) := (.nil rfl rfl rfl)
  refine a_val (v := (eA64u8 a1)) (u := []) (ld_own (i := ⟨.arr 64 5, 64, 64, (eA64u8 (vrep 64 (0 : Int)))⟩) rfl rfl rfl hl6) hl6.c rfl ?_
  obtain ⟨r7, hr8, h⟩ := bind_some h
  refine a_call (args := [(eA64u8 a1)]) (u := []) (r := (eA64u8 r7)) rfl rfl (laws_toPoly_ok a1 r7 hr8) rfl ?_
  obtain ⟨r9, hr10, h⟩ := bind_some h
  refine a_call (args := [(.int .i64 a0), (eA64u8 r7)]) (u := []) (r := (.bool r9)) rfl rfl (impl_IsField_ok a0 r7 r9 hr10) rfl ?_
  refine a_val (v := (.bool r9)) (u := []) rfl trivial rfl ?_
  refine a_nil ?_
  refine a_next (σ' := ⟨[(5, (.bool r4)), (6, (.bool r9))], []⟩) (by kernel_rfl) ?_
  refine a_seq ?_
  refine a_seq ?_
  refine a_region ?_
  refine a_val (v := (.bool r9)) (u := []) rfl trivial rfl ?_
  refine a_val (v := (.bool r4)) (u := []) rfl trivial rfl ?_
  refine a_val (v := (.bool ((!(r9 == r4))))) (u := []) rfl trivial rfl ?_
  refine a_nil ?_
  refine a_next (σ' := ⟨[(17, (.bool ((!(r9 == r4)))))], []⟩) (by kernel_rfl) ?_
  cases hb11 : (!(r9 == r4))
  · have h := ite_f hb11 h
    refine a_cond_f rfl ?_
    refine a_skip ?_
    refine a_next (σ' := ⟨[], []⟩) (by kernel_rfl) ?_
    refine a_seq ?_
    refine a_region ?_
    refine a_val (v := (.bool true)) (u := []) rfl trivial rfl ?_
    refine a_nil ?_
    refine a_next rfl ?_
    refine a_ret ?_
    refine ⟨.inr rfl, ?_⟩
    rw [Try.results3]
    cases h
    exact ⟨_, _, _, _, _, rfl, trivial, .inl ⟨rfl, .inl rfl⟩, rfl, rfl⟩
  · have h := ite_t hb11 h
    refine a_cond_t rfl ?_
    refine a_seq ?_
    refine a_region ?_
    refine a_val (v := (.bool false)) (u := []) rfl trivial rfl ?_
    refine a_nil ?_
    refine a_next rfl ?_
    refine a_ret ?_
    refine t_ret ?_
    refine ⟨.inr rfl, ?_⟩
    rw [Try.results3]
    cases h
    exact ⟨_, _, _, _, _, rfl, trivial, .inl ⟨rfl, .inl rfl⟩, rfl, rfl⟩
end Go.Proofs.Ytcgohoclbjgmkaa
