/- Functions of the program: plain Lean functions, and that the program computes them. Printed by gen.py. -/
import Derived.Test.YtgodhgbnjlflmaaFnT
import Derived.Test.YtgodhgbnjlflmaaFn1
import Derived.Test.YtgodhgbnjlflmaaFn2
import Derived.Test.YtgodhgbnjlflmaaFn3
import Derived.Test.YtgodhgbnjlflmaaFn4
namespace Go.Proofs.Ytgodhgbnjlflmaa
open Go.Abs Go.Proofs
set_option linter.unusedSimpArgs false
set_option linter.unusedVariables false

def laws_eqInt64S_c : ACode := (.seq (.region 0 [⟨some 4, .asg 0 (.const (.bool false)) 4, none, []⟩] false) (.seq (.seq (.region 1 [⟨some 6, .mov (.tmp 0), none, []⟩, ⟨some 7, .blt 0 .len [(.tmp 6)] [45], none, []⟩, ⟨some 8, .mov (.tmp 1), none, []⟩, ⟨some 9, .blt 0 .len [(.tmp 8)] [45], none, []⟩, ⟨some 10, .bin .neq 3 (.tmp 7) (.tmp 9), none, []⟩] false) (.cond (.tmp 10) (.seq (.region 2 [⟨some 4, .asg 0 (.const (.bool false)) 4, none, []⟩] false) .ret) .skip)) (.seq (.seq (.region 3 [⟨some 5, .asg 0 (.const (.int .i64 0)) 3, none, []⟩] false) (.block 0 (.loop (.seq (.seq (.region 4 [⟨some 11, .mov (.tmp 5), none, []⟩, ⟨some 12, .mov (.tmp 0), none, []⟩, ⟨some 13, .blt 0 .len [(.tmp 12)] [45], none, []⟩, ⟨some 14, .bin .lss 3 (.tmp 11) (.tmp 13), none, []⟩] false) (.cond (.tmp 14) .skip (.exit 0))) (.seq (.block 1 (.seq (.region 6 [⟨some 17, .mov (.tmp 0), none, []⟩, ⟨some 18, .mov (.tmp 5), none, []⟩, ⟨some 19, .indexAddr 45 (.tmp 17) (.tmp 18), none, [0, 1]⟩, ⟨some 20, .load 2 (.tmp 19), none, [2]⟩, ⟨some 21, .mov (.tmp 1), none, []⟩, ⟨some 22, .mov (.tmp 5), none, []⟩, ⟨some 23, .indexAddr 45 (.tmp 21) (.tmp 22), none, [4, 5]⟩, ⟨some 24, .load 2 (.tmp 23), none, [6]⟩, ⟨some 25, .bin .neq 2 (.tmp 20) (.tmp 24), none, [3, 7]⟩] true) (.cond (.tmp 25) (.seq (.region 7 [⟨some 4, .asg 0 (.const (.bool false)) 4, none, []⟩] false) .ret) .skip))) (.region 5 [⟨some 15, .mov (.tmp 5), none, []⟩, ⟨some 16, .bin .add 3 (.tmp 15) (.const (.int .i64 1)), none, []⟩, ⟨some 5, .asg 0 (.tmp 16) 3, none, []⟩] false)))))) (.seq (.region 8 [⟨some 4, .asg 0 (.const (.bool true)) 4, none, []⟩] false) .ret))))
def laws_eqInt64S_L : Live := [(0, [0, 1]), (1, [0, 1]), (2, []), (3, [0, 1]), (4, [0, 1, 5]), (5, [0, 1, 5]), (6, [0, 1, 5]), (7, []), (8, []), (100010, [0, 1, 10]), (100014, [0, 1, 5, 14]), (100025, [0, 1, 5, 25])]
theorem laws_eqInt64S_body : Try.f36.body = some (Try.f36.body.getD .skip) := by kernel_rfl
theorem laws_eqInt64S_strip : strip [] (Try.f36.body.getD .skip) = laws_eqInt64S_c := by kernel_rfl
noncomputable def laws_eqInt64S_l1 (a0 : (List Int)) (a1 : (List Int)) (x50 : Int) : Option (Int ⊕ (Unit ⊕ Bool)) :=
  (if (decide (x50 < (a0.length : Int))) then (ifp (0 ≤ x50 ∧ x50 < ((a0.length : Nat) : Int)) ((ifp (0 ≤ x50 ∧ x50 < ((a1.length : Nat) : Int)) ((if ((rd a0 x50.toNat) != (rd a1 x50.toNat)) then (some (.inr (.inr false))) else (some (.inl (IntKind.i64.wrap (x50 + 1))))))))) else (some (.inr (((.inl ()))))))
noncomputable def laws_eqInt64S (a0 : (List Int)) (a1 : (List Int)) : Option Bool :=
  (if ((a0.length : Int) != (a1.length : Int)) then (some false) else (Option.bind (α := (Unit ⊕ Bool)) ((loopM (fun s : Int => laws_eqInt64S_l1 a0 a1 s) 0)) fun z => match z with | .inl _ => (some true) | .inr r75 => (some r75)))
set_option maxHeartbeats 16000000 in
theorem laws_eqInt64S_ok (a0 : (List Int)) (a1 : (List Int)) (r : Bool) (h : laws_eqInt64S a0 a1 = some r) : Den Try.prog 36 [(eSi64 a0), (eSi64 a1)] { r := (.bool r) } := by
  refine den_of (rs := [(.bool r)]) (ac := laws_eqInt64S_c) (L := laws_eqInt64S_L) (n := 26) (m := []) good Try.func36 laws_eqInt64S_body (by kernel_rfl) Try.ntmps36 rfl rfl laws_eqInt64S_strip rfl rfl ?_
  refine a_st (σ' := ⟨[(0, (eSi64 a0)), (1, (eSi64 a1))], []⟩) (by kernel_rfl) ?_
  unfold laws_eqInt64S_c
  refine a_seq ?_
  refine a_region ?_
  refine a_val (v := (.bool false)) (u := []) rfl trivial rfl ?_
  refine a_nil ?_
  refine a_next (σ' := ⟨[(0, (eSi64 a0)), (1, (eSi64 a1))], []⟩) (by kernel_rfl) ?_
  refine a_seq ?_
  refine a_seq ?_
  refine a_region ?_
  refine a_val (v := (eSi64 a0)) (u := []) rfl trivial rfl ?_
  refine a_val (v := (.int .i64 (a0.length : Int))) (u := []) (len_run rfl rfl) trivial rfl ?_
  refine a_val (v := (eSi64 a1)) (u := []) rfl trivial rfl ?_
  refine a_val (v := (.int .i64 (a1.length : Int))) (u := []) (len_run rfl rfl) trivial rfl ?_
  refine a_val (v := (.bool (((a0.length : Int) != (a1.length : Int))))) (u := []) rfl trivial rfl ?_
  refine a_nil ?_
  refine a_next (σ' := ⟨[(0, (eSi64 a0)), (1, (eSi64 a1)), (10, (.bool (((a0.length : Int) != (a1.length : Int)))))], []⟩) (by kernel_rfl) ?_
  cases hb1 : ((a0.length : Int) != (a1.length : Int))
  · have h := ite_f hb1 h
    refine a_cond_f rfl ?_
    refine a_skip ?_
    refine a_next (σ' := ⟨[(0, (eSi64 a0)), (1, (eSi64 a1))], []⟩) (by kernel_rfl) ?_
    obtain ⟨y37, hy38, hk39⟩ := bind_some h
    clear h
    refine a_join (emb := fun (s : Unit) => ⟨[], []⟩) (pre := fun s => (.inl s) = y37) ?_ ?_
    · rintro _ rfl
      have h := hk39
      refine a_st (σ' := ⟨[], []⟩) (by kernel_rfl) ?_
      refine a_seq ?_
      refine a_region ?_
      refine a_val (v := (.bool true)) (u := []) rfl trivial rfl ?_
      refine a_nil ?_
      refine a_next rfl ?_
      refine a_ret ?_
      refine ⟨.inr rfl, ?_⟩
      rw [Try.results36]
      cases h
      exact ⟨_, _, _, _, _, rfl, trivial, .inl ⟨rfl, .inl rfl⟩, rfl, rfl⟩
    · have h := hy38
      refine a_seq ?_
      refine a_region ?_
      refine a_val (v := (.int .i64 0)) (u := []) rfl trivial rfl ?_
      refine a_nil ?_
      refine a_next (σ' := ⟨[(0, (eSi64 a0)), (1, (eSi64 a1)), (5, (.int .i64 0))], []⟩) (by kernel_rfl) ?_
      refine a_block ?_
      refine a_loop (emb := fun (s : Int) => ⟨[(0, (eSi64 a0)), (1, (eSi64 a1)), (5, (.int .i64 s))], []⟩) (body := (fun s : Int => laws_eqInt64S_l1 a0 a1 s)) (G := fun q => some q = some y37) h rfl ?_ (by kernel_rfl)
      rintro X61 x50 x62 h hX63
      have h : laws_eqInt64S_l1 a0 a1 x50 = some x62 := h
      refine a_st (σ' := ⟨[(0, (eSi64 a0)), (1, (eSi64 a1)), (5, (.int .i64 x50))], []⟩) (by kernel_rfl) ?_
      refine a_seq ?_
      refine a_seq ?_
      refine a_region ?_
      refine a_val (v := (.int .i64 x50)) (u := []) rfl trivial rfl ?_
      refine a_val (v := (eSi64 a0)) (u := []) rfl trivial rfl ?_
      refine a_val (v := (.int .i64 (a0.length : Int))) (u := []) (len_run rfl rfl) trivial rfl ?_
      refine a_val (v := (.bool ((decide (x50 < (a0.length : Int)))))) (u := []) rfl trivial rfl ?_
      refine a_nil ?_
      refine a_next (σ' := ⟨[(0, (eSi64 a0)), (1, (eSi64 a1)), (5, (.int .i64 x50)), (14, (.bool ((decide (x50 < (a0.length : Int))))))], []⟩) (by kernel_rfl) ?_
      cases hb64 : (decide (x50 < (a0.length : Int)))
      · have h := ite_f hb64 h
        refine a_cond_f rfl ?_
        refine a_exit ?_
        refine t_exit ?_
        cases h
        have h := hX63
        refine t_exit ?_
        refine b_exit ?_
        exact j_leaf () (Option.some.inj h) (by kernel_rfl)
      · have h := ite_t hb64 h
        refine a_cond_t rfl ?_
        refine a_skip ?_
        refine a_next (σ' := ⟨[(0, (eSi64 a0)), (1, (eSi64 a1)), (5, (.int .i64 x50))], []⟩) (by kernel_rfl) ?_
        refine a_seq ?_
        refine a_block ?_
        refine a_seq ?_
        refine a_draw [⟨[], [], [], []⟩, ⟨[], [], [], []⟩, ⟨[], [], [], [0, 1]⟩, ⟨[], [], [], [0, 1, 2]⟩, ⟨[], [], [], []⟩, ⟨[], [], [], []⟩, ⟨[], [], [], [4, 5]⟩, ⟨[], [], [], [4, 5, 6]⟩, ⟨[], [], [], [0, 1, 2, 3, 4, 5, 6, 7]⟩] (by kernel_rfl) ?_
        refine d_cons ?_
        refine a_val (v := (eSi64 a0)) (u := []) rfl trivial rfl ?_
        refine d_next (by kernel_rfl) ?_
        refine d_cons ?_
        refine a_val (v := (.int .i64 x50)) (u := []) rfl trivial rfl ?_
        refine d_next (by kernel_rfl) ?_
        refine d_cons ?_
        obtain ⟨hc69, h⟩ := ifp_some h
        refine a_val (v := (.ref (.row 1 (a0.map (AV.int .i64))) [x50.toNat] [x50.toNat * 1])) (u := []) rfl (lmap hc69) rfl ?_
        refine d_next (by kernel_rfl) ?_
        refine d_cons ?_
        have hl70 : LdOk [x50.toNat] (.row 1 (a0.map (AV.int .i64))) [x50.toNat * 1] 1 false (.int .i64 (rd a0 x50.toNat)) := (.row (llt hc69) rfl (.nil rfl rfl rfl))
        refine a_val (v := (.int .i64 (rd a0 x50.toNat))) (u := []) (ld_ref (i := ⟨.int .i64, 1, 8, (.int .i64 0)⟩) rfl rfl hl70) hl70.c rfl ?_
        refine d_next (by kernel_rfl) ?_
        refine d_cons ?_
        refine a_val (v := (eSi64 a1)) (u := []) rfl trivial rfl ?_
        refine d_next (by kernel_rfl) ?_
        refine d_cons ?_
        refine a_val (v := (.int .i64 x50)) (u := []) rfl trivial rfl ?_
        refine d_next (by kernel_rfl) ?_
        refine d_cons ?_
        obtain ⟨hc71, h⟩ := ifp_some h
        refine a_val (v := (.ref (.row 1 (a1.map (AV.int .i64))) [x50.toNat] [x50.toNat * 1])) (u := []) rfl (lmap hc71) rfl ?_
        refine d_next (by kernel_rfl) ?_
        refine d_cons ?_
        have hl72 : LdOk [x50.toNat] (.row 1 (a1.map (AV.int .i64))) [x50.toNat * 1] 1 false (.int .i64 (rd a1 x50.toNat)) := (.row (llt hc71) rfl (.nil rfl rfl rfl))
        refine a_val (v := (.int .i64 (rd a1 x50.toNat))) (u := []) (ld_ref (i := ⟨.int .i64, 1, 8, (.int .i64 0)⟩) rfl rfl hl72) hl72.c rfl ?_
        refine d_next (by kernel_rfl) ?_
        refine d_cons ?_
        refine a_val (v := (.bool (((rd a0 x50.toNat) != (rd a1 x50.toNat))))) (u := []) rfl trivial rfl ?_
        refine d_next (by kernel_rfl) ?_
        refine d_nil ?_
        refine a_next (σ' := ⟨[(0, (eSi64 a0)), (1, (eSi64 a1)), (5, (.int .i64 x50)), (25, (.bool (((rd a0 x50.toNat) != (rd a1 x50.toNat)))))], []⟩) (by kernel_rfl) ?_
        cases hb73 : ((rd a0 x50.toNat) != (rd a1 x50.toNat))
        · have h := ite_f hb73 h
          refine a_cond_f rfl ?_
          refine a_skip ?_
          refine b_norm ?_
          refine a_next (σ' := ⟨[(0, (eSi64 a0)), (1, (eSi64 a1)), (5, (.int .i64 x50))], []⟩) (by kernel_rfl) ?_
          refine a_region ?_
          refine a_val (v := (.int .i64 x50)) (u := []) rfl trivial rfl ?_
          refine a_val (v := (.int .i64 (IntKind.i64.wrap (x50 + 1)))) (u := []) rfl trivial rfl ?_
          refine a_val (v := (.int .i64 (IntKind.i64.wrap (x50 + 1)))) (u := []) rfl trivial rfl ?_
          refine a_nil ?_
          cases h
          exact a_again (by kernel_rfl) hX63
        · have h := ite_t hb73 h
          refine a_cond_t rfl ?_
          refine a_seq ?_
          refine a_region ?_
          refine a_val (v := (.bool false)) (u := []) rfl trivial rfl ?_
          refine a_nil ?_
          refine a_next rfl ?_
          refine a_ret ?_
          refine b_ret ?_
          refine t_ret ?_
          cases h
          have h := hX63
          refine t_ret ?_
          refine b_ret ?_
          refine t_ret ?_
          cases h
          have h := hk39
          refine ⟨.inr rfl, ?_⟩
          rw [Try.results36]
          cases h
          exact ⟨_, _, _, _, _, rfl, trivial, .inl ⟨rfl, .inl rfl⟩, rfl, rfl⟩
  · have h := ite_t hb1 h
    refine a_cond_t rfl ?_
    refine a_seq ?_
    refine a_region ?_
    refine a_val (v := (.bool false)) (u := []) rfl trivial rfl ?_
    refine a_nil ?_
    refine a_next rfl ?_
    refine a_ret ?_
    refine t_ret ?_
    refine ⟨.inr rfl, ?_⟩
    rw [Try.results36]
    cases h
    exact ⟨_, _, _, _, _, rfl, trivial, .inl ⟨rfl, .inl rfl⟩, rfl, rfl⟩
def laws_markInt64S_of_mut_c : ACode := (.seq (.region 0 [⟨some 4, .asg 0 (.const (.int .i64 0)) 3, none, []⟩] false) (.seq (.seq (.region 1 [⟨some 5, .asg 0 (.const (.int .i64 0)) 3, none, []⟩] false) (.block 0 (.loop (.seq (.seq (.region 2 [⟨some 6, .mov (.tmp 5), none, []⟩, ⟨some 7, .mov (.tmp 0), none, []⟩, ⟨some 8, .blt 0 .len [(.tmp 7)] [45], none, []⟩, ⟨some 9, .bin .lss 3 (.tmp 6) (.tmp 8), none, []⟩] false) (.cond (.tmp 9) .skip (.exit 0))) (.seq (.block 1 (.seq (.region 4 [⟨some 12, .mov (.tmp 0), none, []⟩, ⟨some 13, .mov (.tmp 5), none, []⟩, ⟨some 14, .mov (.tmp 1), none, []⟩, ⟨some 15, .indexAddr 45 (.tmp 12) (.tmp 13), none, []⟩, ⟨none, .store 2 (.tmp 15) (.tmp 14), none, []⟩] false) (.region 5 [⟨some 16, .mov (.tmp 1), none, []⟩, ⟨some 17, .bin .add 3 (.tmp 16) (.const (.int .i64 1)), none, []⟩, ⟨some 1, .asg 0 (.tmp 17) 3, none, []⟩] false))) (.region 3 [⟨some 10, .mov (.tmp 5), none, []⟩, ⟨some 11, .bin .add 3 (.tmp 10) (.const (.int .i64 1)), none, []⟩, ⟨some 5, .asg 0 (.tmp 11) 3, none, []⟩] false)))))) (.seq (.region 6 [⟨some 18, .mov (.tmp 1), none, []⟩, ⟨some 4, .asg 0 (.tmp 18) 3, none, []⟩] false) .ret)))
def laws_markInt64S_of_mut_L : Live := [(0, [0, 1]), (1, [0, 1]), (2, [0, 1, 5]), (3, [0, 1, 5]), (4, [0, 1, 5]), (5, [0, 1, 5]), (6, [1]), (100009, [0, 1, 5, 9])]
theorem laws_markInt64S_of_mut_body : Try.f37.body = some (Try.f37.body.getD .skip) := by kernel_rfl
theorem laws_markInt64S_of_mut_strip : strip [] (Try.f37.body.getD .skip) = laws_markInt64S_of_mut_c := by kernel_rfl
noncomputable def laws_markInt64S_of_mut_l1  (x25 : Int) (x26 : Int) (x27 : (List Int)) : Option ((Int × Int × (List Int)) ⊕ (Int × (List Int))) :=
  (if (decide (x26 < (x27.length : Int))) then (ifp (0 ≤ x26 ∧ x26 < ((x27.length : Nat) : Int)) ((some (.inl ((IntKind.i64.wrap (x25 + 1), IntKind.i64.wrap (x26 + 1), (x27.set x26.toNat x25))))))) else (some (.inr (x25, x27))))
noncomputable def laws_markInt64S_of_mut (a0 : (List Int)) (a1 : Int) : Option (Int × (List Int)) :=
  (Option.bind (α := (Int × (List Int))) ((loopM (fun s : (Int × Int × (List Int)) => laws_markInt64S_of_mut_l1 s.1 s.2.1 s.2.2) (a1, 0, a0))) fun ⟨x17, x18⟩ => (some (x17, x18)))
set_option maxHeartbeats 16000000 in
theorem laws_markInt64S_of_mut_ok (a0 : (List Int)) (a1 : Int) (r : (Int × (List Int))) (h : laws_markInt64S_of_mut a0 a1 = some r) : Den Try.prog 37 [(.mutsl 1 (a0.map (AV.int .i64))), (.int .i64 a1)] { r := (.int .i64 r.1), ms := [(.row 1 (r.2.map (AV.int .i64)))], fs := [] } := by
  refine den_ofX (rs := [(.int .i64 r.1)]) (ac := laws_markInt64S_of_mut_c) (L := laws_markInt64S_of_mut_L) (n := 19) (m := []) good Try.func37 laws_markInt64S_of_mut_body (by kernel_rfl) Try.ntmps37 rfl rfl laws_markInt64S_of_mut_strip rfl ?_
  refine a_st (σ' := ⟨[(0, (.osl 1000000)), (1, (.int .i64 a1))], [(1000000, some ⟨(.row 1 (a0.map (AV.int .i64))), false⟩)]⟩) (by kernel_rfl) ?_
  unfold laws_markInt64S_of_mut_c
  refine a_seq ?_
  refine a_region ?_
  refine a_val (v := (.int .i64 0)) (u := []) rfl trivial rfl ?_
  refine a_nil ?_
  refine a_next (σ' := ⟨[(0, (.osl 1000000)), (1, (.int .i64 a1))], [(1000000, some ⟨(.row 1 (a0.map (AV.int .i64))), false⟩)]⟩) (by kernel_rfl) ?_
  obtain ⟨y19, hy20, hk21⟩ := bind_some h
  clear h
  refine a_join (emb := fun (s : (Int × (List Int))) => ⟨[(1, (.int .i64 s.1))], [(1000000, some ⟨(.row 1 (s.2.map (AV.int .i64))), false⟩)]⟩) (pre := fun s => s = y19) ?_ ?_
  · rintro ⟨x17, x18⟩ rfl
    have h := hk21
    refine a_st (σ' := ⟨[(1, (.int .i64 x17))], [(1000000, some ⟨(.row 1 (x18.map (AV.int .i64))), false⟩)]⟩) (by kernel_rfl) ?_
    refine a_seq ?_
    refine a_region ?_
    refine a_val (v := (.int .i64 x17)) (u := []) rfl trivial rfl ?_
    refine a_val (v := (.int .i64 x17)) (u := []) rfl trivial rfl ?_
    refine a_nil ?_
    refine a_next rfl ?_
    refine a_ret ?_
    refine ⟨.inr rfl, ?_⟩
    rw [Try.results37]
    cases h
    exact ⟨[], ⟨_, _, _, _, _, rfl, trivial, rfl, .inl ⟨rfl, .inl rfl, ⟨rfl, rfl, rfl⟩⟩⟩, rfl, ⟨_, _, rfl, rfl, rfl⟩⟩
  · have h := hy20
    refine a_seq ?_
    refine a_region ?_
    refine a_val (v := (.int .i64 0)) (u := []) rfl trivial rfl ?_
    refine a_nil ?_
    refine a_next (σ' := ⟨[(0, (.osl 1000000)), (1, (.int .i64 a1)), (5, (.int .i64 0))], [(1000000, some ⟨(.row 1 (a0.map (AV.int .i64))), false⟩)]⟩) (by kernel_rfl) ?_
    refine a_block ?_
    refine a_loop (emb := fun (s : (Int × Int × (List Int))) => ⟨[(0, (.osl 1000000)), (1, (.int .i64 s.1)), (5, (.int .i64 s.2.1))], [(1000000, some ⟨(.row 1 (s.2.2.map (AV.int .i64))), false⟩)]⟩) (body := (fun s : (Int × Int × (List Int)) => laws_markInt64S_of_mut_l1 s.1 s.2.1 s.2.2)) (G := fun q => some q = some y19) h rfl ?_ (by kernel_rfl)
    rintro X31 ⟨x25, x26, x27⟩ x32 h hX33
    have h : laws_markInt64S_of_mut_l1 x25 x26 x27 = some x32 := h
    refine a_st (σ' := ⟨[(0, (.osl 1000000)), (1, (.int .i64 x25)), (5, (.int .i64 x26))], [(1000000, some ⟨(.row 1 (x27.map (AV.int .i64))), false⟩)]⟩) (by kernel_rfl) ?_
    refine a_seq ?_
    refine a_seq ?_
    refine a_region ?_
    refine a_val (v := (.int .i64 x26)) (u := []) rfl trivial rfl ?_
    refine a_val (v := (.osl 1000000)) (u := []) rfl trivial rfl ?_
    refine a_val (v := (.int .i64 (x27.length : Int))) (u := []) (leno_run rfl rfl rfl) trivial rfl ?_
    refine a_val (v := (.bool ((decide (x26 < (x27.length : Int)))))) (u := []) rfl trivial rfl ?_
    refine a_nil ?_
    refine a_next (σ' := ⟨[(0, (.osl 1000000)), (1, (.int .i64 x25)), (5, (.int .i64 x26)), (9, (.bool ((decide (x26 < (x27.length : Int))))))], [(1000000, some ⟨(.row 1 (x27.map (AV.int .i64))), false⟩)]⟩) (by kernel_rfl) ?_
    cases hb34 : (decide (x26 < (x27.length : Int)))
    · have h := ite_f hb34 h
      refine a_cond_f rfl ?_
      refine a_exit ?_
      refine t_exit ?_
      cases h
      have h := hX33
      refine t_exit ?_
      refine b_exit ?_
      exact j_leaf (x25, x27) (Option.some.inj h) (by kernel_rfl)
    · have h := ite_t hb34 h
      refine a_cond_t rfl ?_
      refine a_skip ?_
      refine a_next (σ' := ⟨[(0, (.osl 1000000)), (1, (.int .i64 x25)), (5, (.int .i64 x26))], [(1000000, some ⟨(.row 1 (x27.map (AV.int .i64))), false⟩)]⟩) (by kernel_rfl) ?_
      refine a_seq ?_
      refine a_block ?_
      refine a_seq ?_
      refine a_region ?_
      refine a_val (v := (.osl 1000000)) (u := []) rfl trivial rfl ?_
      refine a_val (v := (.int .i64 x26)) (u := []) rfl trivial rfl ?_
      refine a_val (v := (.int .i64 x25)) (u := []) rfl trivial rfl ?_
      obtain ⟨hc35, h⟩ := ifp_some h
      refine a_val (v := (.own 1000000 [x26.toNat] [x26.toNat * 1])) (u := []) rfl (lmap hc35) rfl ?_
      have hs36 : StOk [x26.toNat] (.row 1 (x27.map (AV.int .i64))) [x26.toNat * 1] 1 (.int .i64 x25) (.row 1 ((x27.set x26.toNat x25).map (AV.int .i64))) := (.row (y := x25) (llt hc35) rfl (.nil rfl rfl rfl rfl))
      refine a_val (v := .top) (u := [(1000000, some ⟨(.row 1 ((x27.set x26.toNat x25).map (AV.int .i64))), false⟩)]) (st_own (i := ⟨.int .i64, 1, 8, (.int .i64 0)⟩) rfl rfl (fun _ => rfl) rfl hs36) (hs36.c rfl) rfl ?_
      refine a_nil ?_
      refine a_next (σ' := ⟨[(0, (.osl 1000000)), (1, (.int .i64 x25)), (5, (.int .i64 x26))], [(1000000, some ⟨(.row 1 ((x27.set x26.toNat x25).map (AV.int .i64))), false⟩)]⟩) (by kernel_rfl) ?_
      refine a_region ?_
      refine a_val (v := (.int .i64 x25)) (u := []) rfl trivial rfl ?_
      refine a_val (v := (.int .i64 (IntKind.i64.wrap (x25 + 1)))) (u := []) rfl trivial rfl ?_
      refine a_val (v := (.int .i64 (IntKind.i64.wrap (x25 + 1)))) (u := []) rfl trivial rfl ?_
      refine a_nil ?_
      refine b_norm ?_
      refine a_next (σ' := ⟨[(0, (.osl 1000000)), (1, (.int .i64 (IntKind.i64.wrap (x25 + 1)))), (5, (.int .i64 x26))], [(1000000, some ⟨(.row 1 ((x27.set x26.toNat x25).map (AV.int .i64))), false⟩)]⟩) (by kernel_rfl) ?_
      refine a_region ?_
      refine a_val (v := (.int .i64 x26)) (u := []) rfl trivial rfl ?_
      refine a_val (v := (.int .i64 (IntKind.i64.wrap (x26 + 1)))) (u := []) rfl trivial rfl ?_
      refine a_val (v := (.int .i64 (IntKind.i64.wrap (x26 + 1)))) (u := []) rfl trivial rfl ?_
      refine a_nil ?_
      cases h
      exact a_again (by kernel_rfl) hX33
def laws_heldInt64S_c : ACode := (.seq (.region 0 [⟨some 4, .asg 0 (.const (.int .i64 0)) 3, none, []⟩] false) (.seq (.seq (.region 1 [⟨some 5, .asg 0 (.const (.int .i64 0)) 3, none, []⟩] false) (.block 0 (.loop (.seq (.seq (.region 2 [⟨some 6, .mov (.tmp 5), none, []⟩, ⟨some 7, .mov (.tmp 0), none, []⟩, ⟨some 8, .blt 0 .len [(.tmp 7)] [45], none, []⟩, ⟨some 9, .bin .lss 3 (.tmp 6) (.tmp 8), none, []⟩] false) (.cond (.tmp 9) .skip (.exit 0))) (.seq (.block 1 (.seq (.seq (.region 4 [⟨some 12, .mov (.tmp 0), none, []⟩, ⟨some 13, .mov (.tmp 5), none, []⟩, ⟨some 14, .indexAddr 45 (.tmp 12) (.tmp 13), none, []⟩, ⟨some 15, .load 2 (.tmp 14), none, []⟩, ⟨some 16, .mov (.tmp 1), none, []⟩, ⟨some 17, .bin .neq 2 (.tmp 15) (.tmp 16), none, []⟩] false) (.cond (.tmp 17) (.seq (.region 5 [⟨some 4, .asg 0 (.const (.int .i64 (-1))) 3, none, []⟩] false) .ret) .skip)) (.region 6 [⟨some 18, .mov (.tmp 1), none, []⟩, ⟨some 19, .bin .add 3 (.tmp 18) (.const (.int .i64 1)), none, []⟩, ⟨some 1, .asg 0 (.tmp 19) 3, none, []⟩] false))) (.region 3 [⟨some 10, .mov (.tmp 5), none, []⟩, ⟨some 11, .bin .add 3 (.tmp 10) (.const (.int .i64 1)), none, []⟩, ⟨some 5, .asg 0 (.tmp 11) 3, none, []⟩] false)))))) (.seq (.region 7 [⟨some 20, .mov (.tmp 1), none, []⟩, ⟨some 4, .asg 0 (.tmp 20) 3, none, []⟩] false) .ret)))
def laws_heldInt64S_L : Live := [(0, [0, 1]), (1, [0, 1]), (2, [0, 1, 5]), (3, [0, 1, 5]), (4, [0, 1, 5]), (5, []), (6, [0, 1, 5]), (7, [1]), (100009, [0, 1, 5, 9]), (100017, [0, 1, 5, 17])]
theorem laws_heldInt64S_body : Try.f38.body = some (Try.f38.body.getD .skip) := by kernel_rfl
theorem laws_heldInt64S_strip : strip [] (Try.f38.body.getD .skip) = laws_heldInt64S_c := by kernel_rfl
noncomputable def laws_heldInt64S_l1 (a0 : (List Int)) (x27 : Int) (x28 : Int) : Option ((Int × Int) ⊕ (Int ⊕ Int)) :=
  (if (decide (x28 < (a0.length : Int))) then (ifp (0 ≤ x28 ∧ x28 < ((a0.length : Nat) : Int)) ((if ((rd a0 x28.toNat) != x27) then (some (.inr ((.inr (-1))))) else (some (.inl ((IntKind.i64.wrap (x27 + 1), IntKind.i64.wrap (x28 + 1)))))))) else (some (.inr (.inl x27))))
noncomputable def laws_heldInt64S (a0 : (List Int)) (a1 : Int) : Option Int :=
  (Option.bind (α := (Int ⊕ Int)) ((loopM (fun s : (Int × Int) => laws_heldInt64S_l1 a0 s.1 s.2) (a1, 0))) fun z => match z with | .inl x19 => (some x19) | .inr r41 => (some r41))
set_option maxHeartbeats 16000000 in
theorem laws_heldInt64S_ok (a0 : (List Int)) (a1 : Int) (r : Int) (h : laws_heldInt64S a0 a1 = some r) : Den Try.prog 38 [(eSi64 a0), (.int .i64 a1)] { r := (.int .i64 r) } := by
  refine den_of (rs := [(.int .i64 r)]) (ac := laws_heldInt64S_c) (L := laws_heldInt64S_L) (n := 21) (m := []) good Try.func38 laws_heldInt64S_body (by kernel_rfl) Try.ntmps38 rfl rfl laws_heldInt64S_strip rfl rfl ?_
  refine a_st (σ' := ⟨[(0, (eSi64 a0)), (1, (.int .i64 a1))], []⟩) (by kernel_rfl) ?_
  unfold laws_heldInt64S_c
  refine a_seq ?_
  refine a_region ?_
  refine a_val (v := (.int .i64 0)) (u := []) rfl trivial rfl ?_
  refine a_nil ?_
  refine a_next (σ' := ⟨[(0, (eSi64 a0)), (1, (.int .i64 a1))], []⟩) (by kernel_rfl) ?_
  obtain ⟨y20, hy21, hk22⟩ := bind_some h
  clear h
  refine a_join (emb := fun (s : Int) => ⟨[(1, (.int .i64 s))], []⟩) (pre := fun s => (.inl s) = y20) ?_ ?_
  · rintro x19 rfl
    have h := hk22
    refine a_st (σ' := ⟨[(1, (.int .i64 x19))], []⟩) (by kernel_rfl) ?_
    refine a_seq ?_
    refine a_region ?_
    refine a_val (v := (.int .i64 x19)) (u := []) rfl trivial rfl ?_
    refine a_val (v := (.int .i64 x19)) (u := []) rfl trivial rfl ?_
    refine a_nil ?_
    refine a_next rfl ?_
    refine a_ret ?_
    refine ⟨.inr rfl, ?_⟩
    rw [Try.results38]
    cases h
    exact ⟨_, _, _, _, _, rfl, trivial, .inl ⟨rfl, .inl rfl⟩, rfl, rfl⟩
  · have h := hy21
    refine a_seq ?_
    refine a_region ?_
    refine a_val (v := (.int .i64 0)) (u := []) rfl trivial rfl ?_
    refine a_nil ?_
    refine a_next (σ' := ⟨[(0, (eSi64 a0)), (1, (.int .i64 a1)), (5, (.int .i64 0))], []⟩) (by kernel_rfl) ?_
    refine a_block ?_
    refine a_loop (emb := fun (s : (Int × Int)) => ⟨[(0, (eSi64 a0)), (1, (.int .i64 s.1)), (5, (.int .i64 s.2))], []⟩) (body := (fun s : (Int × Int) => laws_heldInt64S_l1 a0 s.1 s.2)) (G := fun q => some q = some y20) h rfl ?_ (by kernel_rfl)
    rintro X33 ⟨x27, x28⟩ x34 h hX35
    have h : laws_heldInt64S_l1 a0 x27 x28 = some x34 := h
    refine a_st (σ' := ⟨[(0, (eSi64 a0)), (1, (.int .i64 x27)), (5, (.int .i64 x28))], []⟩) (by kernel_rfl) ?_
    refine a_seq ?_
    refine a_seq ?_
    refine a_region ?_
    refine a_val (v := (.int .i64 x28)) (u := []) rfl trivial rfl ?_
    refine a_val (v := (eSi64 a0)) (u := []) rfl trivial rfl ?_
    refine a_val (v := (.int .i64 (a0.length : Int))) (u := []) (len_run rfl rfl) trivial rfl ?_
    refine a_val (v := (.bool ((decide (x28 < (a0.length : Int)))))) (u := []) rfl trivial rfl ?_
    refine a_nil ?_
    refine a_next (σ' := ⟨[(0, (eSi64 a0)), (1, (.int .i64 x27)), (5, (.int .i64 x28)), (9, (.bool ((decide (x28 < (a0.length : Int))))))], []⟩) (by kernel_rfl) ?_
    cases hb36 : (decide (x28 < (a0.length : Int)))
    · have h := ite_f hb36 h
      refine a_cond_f rfl ?_
      refine a_exit ?_
      refine t_exit ?_
      cases h
      have h := hX35
      refine t_exit ?_
      refine b_exit ?_
      exact j_leaf x27 (Option.some.inj h) (by kernel_rfl)
    · have h := ite_t hb36 h
      refine a_cond_t rfl ?_
      refine a_skip ?_
      refine a_next (σ' := ⟨[(0, (eSi64 a0)), (1, (.int .i64 x27)), (5, (.int .i64 x28))], []⟩) (by kernel_rfl) ?_
      refine a_seq ?_
      refine a_block ?_
      refine a_seq ?_
      refine a_seq ?_
      refine a_region ?_
      refine a_val (v := (eSi64 a0)) (u := []) rfl trivial rfl ?_
      refine a_val (v := (.int .i64 x28)) (u := []) rfl trivial rfl ?_
      obtain ⟨hc37, h⟩ := ifp_some h
      refine a_val (v := (.ref (.row 1 (a0.map (AV.int .i64))) [x28.toNat] [x28.toNat * 1])) (u := []) rfl (lmap hc37) rfl ?_
      have hl38 : LdOk [x28.toNat] (.row 1 (a0.map (AV.int .i64))) [x28.toNat * 1] 1 false (.int .i64 (rd a0 x28.toNat)) := (.row (llt hc37) rfl (.nil rfl rfl rfl))
      refine a_val (v := (.int .i64 (rd a0 x28.toNat))) (u := []) (ld_ref (i := ⟨.int .i64, 1, 8, (.int .i64 0)⟩) rfl rfl hl38) hl38.c rfl ?_
      refine a_val (v := (.int .i64 x27)) (u := []) rfl trivial rfl ?_
      refine a_val (v := (.bool (((rd a0 x28.toNat) != x27)))) (u := []) rfl trivial rfl ?_
      refine a_nil ?_
      refine a_next (σ' := ⟨[(0, (eSi64 a0)), (1, (.int .i64 x27)), (5, (.int .i64 x28)), (17, (.bool (((rd a0 x28.toNat) != x27))))], []⟩) (by kernel_rfl) ?_
      cases hb39 : ((rd a0 x28.toNat) != x27)
      · have h := ite_f hb39 h
        refine a_cond_f rfl ?_
        refine a_skip ?_
        refine a_next (σ' := ⟨[(0, (eSi64 a0)), (1, (.int .i64 x27)), (5, (.int .i64 x28))], []⟩) (by kernel_rfl) ?_
        refine a_region ?_
        refine a_val (v := (.int .i64 x27)) (u := []) rfl trivial rfl ?_
        refine a_val (v := (.int .i64 (IntKind.i64.wrap (x27 + 1)))) (u := []) rfl trivial rfl ?_
        refine a_val (v := (.int .i64 (IntKind.i64.wrap (x27 + 1)))) (u := []) rfl trivial rfl ?_
        refine a_nil ?_
        refine b_norm ?_
        refine a_next (σ' := ⟨[(0, (eSi64 a0)), (1, (.int .i64 (IntKind.i64.wrap (x27 + 1)))), (5, (.int .i64 x28))], []⟩) (by kernel_rfl) ?_
        refine a_region ?_
        refine a_val (v := (.int .i64 x28)) (u := []) rfl trivial rfl ?_
        refine a_val (v := (.int .i64 (IntKind.i64.wrap (x28 + 1)))) (u := []) rfl trivial rfl ?_
        refine a_val (v := (.int .i64 (IntKind.i64.wrap (x28 + 1)))) (u := []) rfl trivial rfl ?_
        refine a_nil ?_
        cases h
        exact a_again (by kernel_rfl) hX35
      · have h := ite_t hb39 h
        refine a_cond_t rfl ?_
        refine a_seq ?_
        refine a_region ?_
        refine a_val (v := (.int .i64 (-1))) (u := []) rfl trivial rfl ?_
        refine a_nil ?_
        refine a_next rfl ?_
        refine a_ret ?_
        refine t_ret ?_
        refine b_ret ?_
        refine t_ret ?_
        cases h
        have h := hX35
        refine t_ret ?_
        refine b_ret ?_
        refine t_ret ?_
        cases h
        have h := hk22
        refine ⟨.inr rfl, ?_⟩
        rw [Try.results38]
        cases h
        exact ⟨_, _, _, _, _, rfl, trivial, .inl ⟨rfl, .inl rfl⟩, rfl, rfl⟩
def impl_DigitsOfQuotient_c : ACode := (.seq (.region 0 [⟨some 5, .box 23 (.tmp 1), none, []⟩, ⟨some 6, .box 23 (.tmp 2), none, []⟩, ⟨some 8, .asg 1 (.const (.slice none 0 0)) 45, none, []⟩, ⟨some 9, .asg 0 (.const (.int .i64 0)) 2, none, []⟩] false) (.seq (.region 1 [⟨some 17, .load 23 (.tmp 5), none, []⟩, ⟨some 18, .call 0 (.func 72) [(.tmp 17)], none, [0]⟩, ⟨some 19, .load 23 (.tmp 6), none, []⟩, ⟨some 20, .call 0 (.func 72) [(.tmp 19)], none, [2, 1]⟩, ⟨some 10, .asg 1 (.tmp 18) 64, none, [1, 3, 0, 1]⟩, ⟨some 11, .asg 1 (.tmp 20) 64, none, [3, 4, 0, 1, 2, 3, 4]⟩] true) (.seq (.seq (.region 2 [⟨some 21, .mov (.tmp 0), none, []⟩, ⟨some 22, .load 23 (.tmp 5), none, []⟩, ⟨some 23, .load 23 (.tmp 6), none, []⟩, ⟨some 24, .mov (.tmp 3), none, []⟩, ⟨some 25, .call 0 (.func 88) [(.tmp 24)], none, [3]⟩, ⟨some 26, .mov (.tmp 25), none, [4, 4]⟩, ⟨some 27, .mov (.tmp 10), some (26, true), [5]⟩, ⟨some 28, .call 0 (.func 89) [(.tmp 27)], some (26, true), [6, 5, 5]⟩, ⟨some 29, .bin .leq 2 (.tmp 28) (.const (.int .i64 62)), some (26, true), [7, 5]⟩, ⟨some 30, .pick (.tmp 26) (.tmp 29) (.const (.bool false)), none, [5, 8]⟩, ⟨some 31, .mov (.tmp 30), none, [9, 7]⟩, ⟨some 32, .mov (.tmp 11), some (31, true), [10]⟩, ⟨some 33, .call 0 (.func 89) [(.tmp 32)], some (31, true), [11, 10, 10]⟩, ⟨some 34, .bin .leq 2 (.tmp 33) (.const (.int .i64 62)), some (31, true), [12, 10]⟩, ⟨some 35, .pick (.tmp 31) (.tmp 34) (.const (.bool false)), none, [10, 13]⟩, ⟨some 36, .call 0 (.func 69) [(.tmp 21), (.tmp 22), (.tmp 23), (.tmp 35)], none, [0, 1, 2, 14, 12]⟩, ⟨some 12, .asg 0 (.tmp 36) 2, none, [15, 15, 0, 1, 2, 3, 4, 5, 6, 7, 8, 9, 10, 11, 12, 13, 14, 15]⟩] true) (.seq (.region 3 [⟨some 37, .mov (.tmp 12), none, []⟩, ⟨some 38, .bin .neq 2 (.tmp 37) (.const (.int .i64 0)), none, []⟩] false) (.cond (.tmp 38) (.seq (.region 4 [⟨some 39, .mov (.tmp 12), none, []⟩, ⟨some 8, .asg 1 (.const (.slice none 0 0)) 45, none, []⟩, ⟨some 9, .asg 0 (.tmp 39) 2, none, []⟩] false) .ret) .skip))) (.seq (.region 5 [⟨some 40, .mov (.tmp 0), none, []⟩, ⟨some 41, .mov (.tmp 10), none, []⟩, ⟨some 42, .mov (.tmp 11), none, []⟩, ⟨some 43, .call 0 (.func 90) [(.tmp 40), (.tmp 41), (.tmp 42)], none, []⟩, ⟨some 13, .asg 1 (.tmp 43) 64, none, []⟩] false) (.seq (.region 6 [⟨some 14, .asg 2 (.const (.slice none 0 0)) 45, none, []⟩] false) (.seq (.seq (.region 7 [⟨some 44, .mov (.tmp 3), none, []⟩, ⟨some 45, .mov (.const (.int .i64 0)), none, []⟩] false) (.block 0 (.loop (.seq (.region 8 [⟨some 46, .bin .lss 2 (.tmp 45) (.tmp 44), none, []⟩] false) (.seq (.cond (.tmp 46) .skip (.exit 0)) (.seq (.block 1 (.seq (.region 9 [⟨some 48, .mov (.tmp 0), none, []⟩, ⟨some 49, .mov (.tmp 0), none, []⟩, ⟨some 50, .call 0 (.func 92) [], none, []⟩, ⟨some 51, .mov (.tmp 13), none, []⟩, ⟨some 52, .call 0 (.func 59) [(.tmp 49), (.tmp 50), (.tmp 51)], none, []⟩, ⟨some 53, .mov (.tmp 11), none, []⟩, ⟨some 54, .call 0 (.func 91) [(.tmp 48), (.tmp 52), (.tmp 53)], none, []⟩, ⟨some 47, .mov (.tmp 54), none, []⟩, ⟨some 55, .extract (.tmp 47) 0, none, []⟩, ⟨some 56, .extract (.tmp 47) 1, none, []⟩, ⟨some 15, .asg 1 (.tmp 55) 64, none, []⟩, ⟨some 16, .asg 1 (.tmp 56) 64, none, []⟩] false) (.seq (.region 10 [⟨some 57, .mov (.tmp 14), none, []⟩, ⟨some 58, .mov (.tmp 15), none, []⟩, ⟨some 59, .call 0 (.func 93) [(.tmp 58), (.const (.int .i64 0))], none, []⟩, ⟨some 60, .bslice 0 45 1 [(0, (.tmp 59))], none, []⟩, ⟨some 61, .blt 0 .append [(.tmp 57), (.tmp 60)] [45, 45], none, []⟩, ⟨some 14, .asg 2 (.tmp 61) 45, none, []⟩] false) (.region 11 [⟨some 62, .mov (.tmp 16), none, []⟩, ⟨some 13, .asg 1 (.tmp 62) 64, none, []⟩] false)))) (.region 12 [⟨some 63, .bin .add 2 (.tmp 45) (.const (.int .i64 1)), none, []⟩, ⟨some 45, .mov (.tmp 63), none, []⟩] false))))))) (.seq (.region 13 [⟨some 64, .mov (.tmp 14), none, []⟩, ⟨some 8, .asg 1 (.tmp 64) 45, none, []⟩, ⟨some 9, .asg 0 (.const (.int .i64 0)) 2, none, []⟩] false) .ret)))))))
def impl_DigitsOfQuotient_L : Live := [(0, [0, 1, 2, 3]), (1, [0, 3, 5, 6]), (2, [0, 3, 5, 6, 10, 11]), (3, [0, 3, 10, 11, 12]), (4, [12]), (5, [0, 3, 10, 11]), (6, [0, 3, 11, 13]), (7, [0, 3, 11, 13, 14]), (8, [0, 11, 13, 14, 44, 45]), (9, [0, 11, 13, 14, 44, 45]), (10, [0, 11, 14, 15, 16, 44, 45]), (11, [0, 11, 14, 16, 44, 45]), (12, [0, 11, 13, 14, 44, 45]), (13, [14]), (100038, [0, 3, 10, 11, 12, 38]), (100046, [0, 11, 13, 14, 44, 45, 46])]
theorem impl_DigitsOfQuotient_body : Try.f35.body = some (Try.f35.body.getD .skip) := by kernel_rfl
theorem impl_DigitsOfQuotient_strip : strip [(8, 1), (10, 1), (11, 1), (13, 1), (14, 2), (15, 1), (16, 1)] (Try.f35.body.getD .skip) = impl_DigitsOfQuotient_c := by kernel_rfl
noncomputable def impl_DigitsOfQuotient_l1 (a3 : Int) (a0 : Int) (r11 : (List Int)) (x135 : (List Int)) (x136 : Int) (x137 : (List Int)) : Option (((List Int) × Int × (List Int)) ⊕ (List Int)) :=
  (if (decide (x136 < a3)) then (Option.bind (impl_letter) fun r152 => (Option.bind (impl_prime_times a0 r152 x135) fun r154 => (Option.bind (impl_prime_divide a0 r154 r11) fun r156 => (Option.bind (impl_row_at r156.1 0) fun r158 => (ifp ((x137.length + ([r158] : List Int).length) * 8 ≤ 140737488355328) ((some (.inl ((r156.2, IntKind.i64.wrap (x136 + 1), (x137 ++ ([r158])))))))))))) else (some (.inr x137)))
noncomputable def impl_DigitsOfQuotient (a0 : Int) (a1 : (Vec Int 64)) (a2 : (Vec Int 64)) (a3 : Int) : Option ((List Int) × Int) :=
  (Option.bind (impl_rowOf a1) fun r8 => (Option.bind (impl_rowOf a2) fun r11 => (Option.bind (α := Int) ((Option.bind (impl_isDigits a3) fun r67 => (if r67 then (Option.bind (impl_row_degree r8) fun r72 => (if (decide (r72 ≤ 62)) then (Option.bind (impl_row_degree r11) fun r77 => (Option.bind (impl_quotientCode a0 a1 a2 ((decide (r77 ≤ 62)))) fun r79 => (some r79))) else (Option.bind (impl_quotientCode a0 a1 a2 false) fun r75 => (some r75)))) else (Option.bind (impl_quotientCode a0 a1 a2 false) fun r70 => (some r70))))) fun x45 => (if (x45 != 0) then (some ([], x45)) else (Option.bind (impl_prime_rest a0 r8 r11) fun r82 => (Option.bind (α := (List Int)) ((loopM (fun s : ((List Int) × Int × (List Int)) => impl_DigitsOfQuotient_l1 a3 a0 r11 s.1 s.2.1 s.2.2) (r82, 0, []))) fun x121 => (some (x121, 0))))))))
set_option maxHeartbeats 16000000 in
theorem impl_DigitsOfQuotient_ok (a0 : Int) (a1 : (Vec Int 64)) (a2 : (Vec Int 64)) (a3 : Int) (r : ((List Int) × Int)) (h : impl_DigitsOfQuotient a0 a1 a2 a3 = some r) : Den Try.prog 35 [(.int .i64 a0), (eA64u8 a1), (eA64u8 a2), (.int .i64 a3)] { r := (.tuple [(eSi64 r.1), (.int .i64 r.2)]) } := by
  refine den_of (rs := [(eSi64 r.1), (.int .i64 r.2)]) (ac := impl_DigitsOfQuotient_c) (L := impl_DigitsOfQuotient_L) (n := 65) (m := [(8, 1), (10, 1), (11, 1), (13, 1), (14, 2), (15, 1), (16, 1)]) good Try.func35 impl_DigitsOfQuotient_body (by kernel_rfl) Try.ntmps35 rfl rfl impl_DigitsOfQuotient_strip rfl rfl ?_
  refine a_st (σ' := ⟨[(0, (.int .i64 a0)), (1, (eA64u8 a1)), (2, (eA64u8 a2)), (3, (.int .i64 a3))], []⟩) (by kernel_rfl) ?_
  unfold impl_DigitsOfQuotient_c
  refine a_seq ?_
  refine a_region ?_
  refine a_val (v := (.own 1500 [] [])) (u := [(1500, some ⟨(eA64u8 a1), false⟩)]) rfl trivial rfl ?_
  refine a_val (v := (.own 1600 [] [])) (u := [(1600, some ⟨(eA64u8 a2), false⟩)]) rfl trivial rfl ?_
  refine a_val (v := (eSi64 ([]))) (u := []) rfl trivial rfl ?_
  refine a_val (v := (.int .i64 0)) (u := []) rfl trivial rfl ?_
  refine a_nil ?_
  refine a_next (σ' := ⟨[(0, (.int .i64 a0)), (3, (.int .i64 a3)), (5, (.own 5 [] [])), (6, (.own 6 [] []))], [(5, some ⟨(eA64u8 a1), false⟩), (6, some ⟨(eA64u8 a2), false⟩)]⟩) (by kernel_rfl) ?_
  refine a_seq ?_
  refine a_draw [⟨[5], [], [], []⟩, ⟨[], [], [], [0]⟩, ⟨[6], [], [], []⟩, ⟨[], [], [], [0, 1, 2]⟩, ⟨[], [], [], [0, 1, 2, 3]⟩, ⟨[], [], [], [0, 1, 2, 3, 4]⟩] (by kernel_rfl) ?_
  refine d_cons ?_
  have hl7 : LdOk [] (eA64u8 a1) [] 64 true (eA64u8 a1) := (.nil rfl rfl rfl)
  refine a_val (v := (eA64u8 a1)) (u := []) (ld_own (i := ⟨.arr 64 5, 64, 64, (eA64u8 (vrep 64 (0 : Int)))⟩) rfl rfl rfl hl7) hl7.c rfl ?_
  refine d_next (by kernel_rfl) ?_
  refine d_cons ?_
  obtain ⟨r8, hr9, h⟩ := bind_some h
  refine a_call (args := [(eA64u8 a1)]) (u := []) (r := (eSi64 r8)) rfl rfl (impl_rowOf_ok a1 r8 hr9) rfl ?_
  refine d_next (by kernel_rfl) ?_
  refine d_cons ?_
  have hl10 : LdOk [] (eA64u8 a2) [] 64 true (eA64u8 a2) := (.nil rfl rfl rfl)
  refine a_val (v := (eA64u8 a2)) (u := []) (ld_own (i := ⟨.arr 64 5, 64, 64, (eA64u8 (vrep 64 (0 : Int)))⟩) rfl rfl rfl hl10) hl10.c rfl ?_
  refine d_next (by kernel_rfl) ?_
  refine d_cons ?_
  obtain ⟨r11, hr12, h⟩ := bind_some h
  refine a_call (args := [(eA64u8 a2)]) (u := []) (r := (eSi64 r11)) rfl rfl (impl_rowOf_ok a2 r11 hr12) rfl ?_
  refine d_next (by kernel_rfl) ?_
  refine d_cons ?_
  refine a_val (v := (eSi64 r8)) (u := []) rfl trivial rfl ?_
  refine d_next (by kernel_rfl) ?_
  refine d_cons ?_
  refine a_val (v := (eSi64 r11)) (u := []) rfl trivial rfl ?_
  refine d_next (by kernel_rfl) ?_
  refine d_nil ?_
  refine a_next (σ' := ⟨[(0, (.int .i64 a0)), (3, (.int .i64 a3)), (5, (.own 5 [] [])), (6, (.own 6 [] [])), (10, (eSi64 r8)), (11, (eSi64 r11))], [(5, some ⟨(eA64u8 a1), false⟩), (6, some ⟨(eA64u8 a2), false⟩)]⟩) (by kernel_rfl) ?_
  refine a_seq ?_
  obtain ⟨y46, hy47, hk48⟩ := bind_some h
  clear h
  refine a_join (emb := fun (s : Int) => ⟨[(0, (.int .i64 a0)), (3, (.int .i64 a3)), (10, (eSi64 r8)), (11, (eSi64 r11)), (12, (.int .i64 s))], []⟩) (pre := fun s => s = y46) ?_ ?_
  · rintro x45 rfl
    have h := hk48
    refine a_st (σ' := ⟨[(0, (.int .i64 a0)), (3, (.int .i64 a3)), (10, (eSi64 r8)), (11, (eSi64 r11)), (12, (.int .i64 x45))], []⟩) (by kernel_rfl) ?_
    refine a_seq ?_
    refine a_region ?_
    refine a_val (v := (.int .i64 x45)) (u := []) rfl trivial rfl ?_
    refine a_val (v := (.bool (x45 != 0))) (u := []) rfl trivial rfl ?_
    refine a_nil ?_
    refine a_next (σ' := ⟨[(0, (.int .i64 a0)), (3, (.int .i64 a3)), (10, (eSi64 r8)), (11, (eSi64 r11)), (12, (.int .i64 x45)), (38, (.bool (x45 != 0)))], []⟩) (by kernel_rfl) ?_
    cases hb81 : (x45 != 0)
    · have h := ite_f hb81 h
      refine a_cond_f rfl ?_
      refine a_skip ?_
      refine a_next (σ' := ⟨[(0, (.int .i64 a0)), (3, (.int .i64 a3)), (10, (eSi64 r8)), (11, (eSi64 r11))], []⟩) (by kernel_rfl) ?_
      refine a_seq ?_
      refine a_region ?_
      refine a_val (v := (.int .i64 a0)) (u := []) rfl trivial rfl ?_
      refine a_val (v := (eSi64 r8)) (u := []) rfl trivial rfl ?_
      refine a_val (v := (eSi64 r11)) (u := []) rfl trivial rfl ?_
      obtain ⟨r82, hr83, h⟩ := bind_some h
      refine a_call (args := [(.int .i64 a0), (eSi64 r8), (eSi64 r11)]) (u := []) (r := (eSi64 r82)) rfl rfl (impl_prime_rest_ok a0 r8 r11 r82 hr83) rfl ?_
      refine a_val (v := (eSi64 r82)) (u := []) rfl trivial rfl ?_
      refine a_nil ?_
      refine a_next (σ' := ⟨[(0, (.int .i64 a0)), (3, (.int .i64 a3)), (11, (eSi64 r11)), (13, (eSi64 r82))], []⟩) (by kernel_rfl) ?_
      refine a_seq ?_
      refine a_region ?_
      refine a_val (v := (.osl 2400)) (u := [(2400, some ⟨(.row 1 (([]).map (AV.int .i64))), false⟩)]) rfl trivial rfl ?_
      refine a_nil ?_
      refine a_next (σ' := ⟨[(0, (.int .i64 a0)), (3, (.int .i64 a3)), (11, (eSi64 r11)), (13, (eSi64 r82)), (14, (.osl 14))], [(14, some ⟨(.row 1 (([]).map (AV.int .i64))), false⟩)]⟩) (by kernel_rfl) ?_
      obtain ⟨y122, hy123, hk124⟩ := bind_some h
      clear h
      refine a_join (emb := fun (s : (List Int)) => ⟨[(14, (.osl 14))], [(14, some ⟨(.row 1 (s.map (AV.int .i64))), false⟩)]⟩) (pre := fun s => s = y122) ?_ ?_
      · rintro x121 rfl
        have h := hk124
        refine a_st (σ' := ⟨[(14, (.osl 14))], [(14, some ⟨(.row 1 (x121.map (AV.int .i64))), false⟩)]⟩) (by kernel_rfl) ?_
        refine a_seq ?_
        refine a_region ?_
        refine a_val (v := (.osl 14)) (u := []) rfl trivial rfl ?_
        refine a_val (v := (eSi64 x121)) (u := [(14, some ⟨(.row 1 (x121.map (AV.int .i64))), true⟩)]) rfl trivial rfl ?_
        refine a_val (v := (.int .i64 0)) (u := []) rfl trivial rfl ?_
        refine a_nil ?_
        refine a_next rfl ?_
        refine a_ret ?_
        refine ⟨.inr rfl, ?_⟩
        rw [Try.results35]
        cases h
        exact ⟨_, _, _, _, _, rfl, trivial, .inl ⟨rfl, .inl rfl⟩, rfl, ⟨_, _, _, _, _, rfl, trivial, .inl ⟨rfl, .inl rfl⟩, rfl, rfl⟩⟩
      · have h := hy123
        refine a_seq ?_
        refine a_region ?_
        refine a_val (v := (.int .i64 a3)) (u := []) rfl trivial rfl ?_
        refine a_val (v := (.int .i64 0)) (u := []) rfl trivial rfl ?_
        refine a_nil ?_
        refine a_next (σ' := ⟨[(0, (.int .i64 a0)), (11, (eSi64 r11)), (13, (eSi64 r82)), (14, (.osl 14)), (44, (.int .i64 a3)), (45, (.int .i64 0))], [(14, some ⟨(.row 1 (([]).map (AV.int .i64))), false⟩)]⟩) (by kernel_rfl) ?_
        refine a_block ?_
        refine a_loop (emb := fun (s : ((List Int) × Int × (List Int))) => ⟨[(0, (.int .i64 a0)), (11, (eSi64 r11)), (13, (eSi64 s.1)), (14, (.osl 14)), (44, (.int .i64 a3)), (45, (.int .i64 s.2.1))], [(14, some ⟨(.row 1 (s.2.2.map (AV.int .i64))), false⟩)]⟩) (body := (fun s : ((List Int) × Int × (List Int)) => impl_DigitsOfQuotient_l1 a3 a0 r11 s.1 s.2.1 s.2.2)) (G := fun q => some q = some y122) h rfl ?_ (by kernel_rfl)
        rintro X148 ⟨x135, x136, x137⟩ x149 h hX150
        have h : impl_DigitsOfQuotient_l1 a3 a0 r11 x135 x136 x137 = some x149 := h
        refine a_st (σ' := ⟨[(0, (.int .i64 a0)), (11, (eSi64 r11)), (13, (eSi64 x135)), (14, (.osl 14)), (44, (.int .i64 a3)), (45, (.int .i64 x136))], [(14, some ⟨(.row 1 (x137.map (AV.int .i64))), false⟩)]⟩) (by kernel_rfl) ?_
        refine a_seq ?_
        refine a_region ?_
        refine a_val (v := (.bool ((decide (x136 < a3))))) (u := []) rfl trivial rfl ?_
        refine a_nil ?_
        refine a_next (σ' := ⟨[(0, (.int .i64 a0)), (11, (eSi64 r11)), (13, (eSi64 x135)), (14, (.osl 14)), (44, (.int .i64 a3)), (45, (.int .i64 x136)), (46, (.bool ((decide (x136 < a3)))))], [(14, some ⟨(.row 1 (x137.map (AV.int .i64))), false⟩)]⟩) (by kernel_rfl) ?_
        refine a_seq ?_
        cases hb151 : (decide (x136 < a3))
        · have h := ite_f hb151 h
          refine a_cond_f rfl ?_
          refine a_exit ?_
          refine t_exit ?_
          cases h
          have h := hX150
          refine t_exit ?_
          refine b_exit ?_
          exact j_leaf x137 (Option.some.inj h) (by kernel_rfl)
        · have h := ite_t hb151 h
          refine a_cond_t rfl ?_
          refine a_skip ?_
          refine a_next (σ' := ⟨[(0, (.int .i64 a0)), (11, (eSi64 r11)), (13, (eSi64 x135)), (14, (.osl 14)), (44, (.int .i64 a3)), (45, (.int .i64 x136))], [(14, some ⟨(.row 1 (x137.map (AV.int .i64))), false⟩)]⟩) (by kernel_rfl) ?_
          refine a_seq ?_
          refine a_block ?_
          refine a_seq ?_
          refine a_region ?_
          refine a_val (v := (.int .i64 a0)) (u := []) rfl trivial rfl ?_
          refine a_val (v := (.int .i64 a0)) (u := []) rfl trivial rfl ?_
          obtain ⟨r152, hr153, h⟩ := bind_some h
          refine a_call (args := []) (u := []) (r := (eSi64 r152)) rfl rfl (impl_letter_ok r152 hr153) rfl ?_
          refine a_val (v := (eSi64 x135)) (u := []) rfl trivial rfl ?_
          obtain ⟨r154, hr155, h⟩ := bind_some h
          refine a_call (args := [(.int .i64 a0), (eSi64 r152), (eSi64 x135)]) (u := []) (r := (eSi64 r154)) rfl rfl (impl_prime_times_ok a0 r152 x135 r154 hr155) rfl ?_
          refine a_val (v := (eSi64 r11)) (u := []) rfl trivial rfl ?_
          obtain ⟨r156, hr157, h⟩ := bind_some h
          refine a_call (args := [(.int .i64 a0), (eSi64 r154), (eSi64 r11)]) (u := []) (r := (.tuple [(eSi64 r156.1), (eSi64 r156.2)])) rfl rfl (impl_prime_divide_ok a0 r154 r11 r156 hr157) rfl ?_
          refine a_val (v := (.tuple [(eSi64 r156.1), (eSi64 r156.2)])) (u := []) rfl trivial rfl ?_
          refine a_val (v := (eSi64 r156.1)) (u := []) rfl (Nat.le_of_ble_eq_true rfl) rfl ?_
          refine a_val (v := (eSi64 r156.2)) (u := []) rfl (Nat.le_of_ble_eq_true rfl) rfl ?_
          refine a_val (v := (eSi64 r156.1)) (u := []) rfl trivial rfl ?_
          refine a_val (v := (eSi64 r156.2)) (u := []) rfl trivial rfl ?_
          refine a_nil ?_
          refine a_next (σ' := ⟨[(0, (.int .i64 a0)), (11, (eSi64 r11)), (14, (.osl 14)), (15, (eSi64 r156.1)), (16, (eSi64 r156.2)), (44, (.int .i64 a3)), (45, (.int .i64 x136))], [(14, some ⟨(.row 1 (x137.map (AV.int .i64))), false⟩)]⟩) (by kernel_rfl) ?_
          refine a_seq ?_
          refine a_region ?_
          refine a_val (v := (.osl 14)) (u := []) rfl trivial rfl ?_
          refine a_val (v := (eSi64 r156.1)) (u := []) rfl trivial rfl ?_
          obtain ⟨r158, hr159, h⟩ := bind_some h
          refine a_call (args := [(eSi64 r156.1), (.int .i64 0)]) (u := []) (r := (.int .i64 r158)) rfl rfl (impl_row_at_ok r156.1 0 r158 hr159) rfl ?_
          refine a_val (v := (.sl 1 true (([r158]).map (AV.int .i64)))) (u := []) rfl ⟨(Nat.le_of_ble_eq_true rfl), (Nat.le_of_ble_eq_true rfl), (all_cons ⟨(Nat.le_of_ble_eq_true rfl), rfl⟩ all_nil)⟩ rfl ?_
          obtain ⟨hc160, h⟩ := ifp_some h
          refine a_val (v := (.osl 7100)) (u := [(7100, some ⟨(.row 1 (((x137 ++ ([r158]))).map (AV.int .i64))), false⟩), (14, none)]) (app_run (i := ⟨.int .i64, 1, 8, (.int .i64 0)⟩) (f := (AV.int .i64)) (l := x137) (l2 := [r158]) rfl rfl rfl rfl (fun _ => rfl) rfl rfl) (app_c (f := (AV.int .i64)) (s := 1) (sz := 1) (by' := 8) (u := []) (id := 14) hc160 (.inr rfl) rfl rfl rfl) rfl ?_
          refine a_val (v := (.osl 7100)) (u := []) rfl trivial rfl ?_
          refine a_nil ?_
          refine a_next (σ' := ⟨[(0, (.int .i64 a0)), (11, (eSi64 r11)), (14, (.osl 14)), (16, (eSi64 r156.2)), (44, (.int .i64 a3)), (45, (.int .i64 x136))], [(14, some ⟨(.row 1 (((x137 ++ ([r158]))).map (AV.int .i64))), false⟩)]⟩) (by kernel_rfl) ?_
          refine a_region ?_
          refine a_val (v := (eSi64 r156.2)) (u := []) rfl trivial rfl ?_
          refine a_val (v := (eSi64 r156.2)) (u := []) rfl trivial rfl ?_
          refine a_nil ?_
          refine b_norm ?_
          refine a_next (σ' := ⟨[(0, (.int .i64 a0)), (11, (eSi64 r11)), (13, (eSi64 r156.2)), (14, (.osl 14)), (44, (.int .i64 a3)), (45, (.int .i64 x136))], [(14, some ⟨(.row 1 (((x137 ++ ([r158]))).map (AV.int .i64))), false⟩)]⟩) (by kernel_rfl) ?_
          refine a_region ?_
          refine a_val (v := (.int .i64 (IntKind.i64.wrap (x136 + 1)))) (u := []) rfl trivial rfl ?_
          refine a_val (v := (.int .i64 (IntKind.i64.wrap (x136 + 1)))) (u := []) rfl trivial rfl ?_
          refine a_nil ?_
          cases h
          exact a_again (by kernel_rfl) hX150
    · have h := ite_t hb81 h
      refine a_cond_t rfl ?_
      refine a_seq ?_
      refine a_region ?_
      refine a_val (v := (.int .i64 x45)) (u := []) rfl trivial rfl ?_
      refine a_val (v := (eSi64 ([]))) (u := []) rfl trivial rfl ?_
      refine a_val (v := (.int .i64 x45)) (u := []) rfl trivial rfl ?_
      refine a_nil ?_
      refine a_next rfl ?_
      refine a_ret ?_
      refine t_ret ?_
      refine ⟨.inr rfl, ?_⟩
      rw [Try.results35]
      cases h
      exact ⟨_, _, _, _, _, rfl, trivial, .inl ⟨rfl, .inl rfl⟩, rfl, ⟨_, _, _, _, _, rfl, trivial, .inl ⟨rfl, .inl rfl⟩, rfl, rfl⟩⟩
  · have h := hy47
    refine a_draw [⟨[], [], [], []⟩, ⟨[5], [], [], []⟩, ⟨[6], [], [], []⟩, ⟨[], [], [], []⟩, ⟨[], [], [], [3]⟩, ⟨[], [], [], [3, 4]⟩, ⟨[], [], [], [3, 4, 5]⟩, ⟨[], [], [], [3, 4, 5, 6]⟩, ⟨[], [], [], [3, 4, 5, 6, 7]⟩, ⟨[], [], [], [3, 4, 5, 6, 7, 8]⟩, ⟨[], [], [], [3, 4, 5, 6, 7, 8, 9]⟩, ⟨[], [], [], [3, 4, 5, 6, 7, 8, 9, 10]⟩, ⟨[], [], [], [3, 4, 5, 6, 7, 8, 9, 10, 11]⟩, ⟨[], [], [], [3, 4, 5, 6, 7, 8, 9, 10, 11, 12]⟩, ⟨[], [], [], [3, 4, 5, 6, 7, 8, 9, 10, 11, 12, 13]⟩, ⟨[], [], [], [0, 1, 2, 3, 4, 5, 6, 7, 8, 9, 10, 11, 12, 13, 14]⟩, ⟨[], [], [], [0, 1, 2, 3, 4, 5, 6, 7, 8, 9, 10, 11, 12, 13, 14, 15]⟩] (by kernel_rfl) ?_
    refine d_cons ?_
    refine a_val (v := (.int .i64 a0)) (u := []) rfl trivial rfl ?_
    refine d_next (by kernel_rfl) ?_
    refine d_cons ?_
    have hl65 : LdOk [] (eA64u8 a1) [] 64 true (eA64u8 a1) := (.nil rfl rfl rfl)
    refine a_val (v := (eA64u8 a1)) (u := []) (ld_own (i := ⟨.arr 64 5, 64, 64, (eA64u8 (vrep 64 (0 : Int)))⟩) rfl rfl rfl hl65) hl65.c rfl ?_
    refine d_next (by kernel_rfl) ?_
    refine d_cons ?_
    have hl66 : LdOk [] (eA64u8 a2) [] 64 true (eA64u8 a2) := (.nil rfl rfl rfl)
    refine a_val (v := (eA64u8 a2)) (u := []) (ld_own (i := ⟨.arr 64 5, 64, 64, (eA64u8 (vrep 64 (0 : Int)))⟩) rfl rfl rfl hl66) hl66.c rfl ?_
    refine d_next (by kernel_rfl) ?_
    refine d_cons ?_
    refine a_val (v := (.int .i64 a3)) (u := []) rfl trivial rfl ?_
    refine d_next (by kernel_rfl) ?_
    refine d_cons ?_
    obtain ⟨r67, hr68, h⟩ := bind_some h
    refine a_call (args := [(.int .i64 a3)]) (u := []) (r := (.bool r67)) rfl rfl (impl_isDigits_ok a3 r67 hr68) rfl ?_
    refine d_next (by kernel_rfl) ?_
    refine d_cons ?_
    refine a_val (v := (.bool r67)) (u := []) rfl trivial rfl ?_
    refine d_next (by kernel_rfl) ?_
    cases hb69 : r67
    · have h := ite_f hb69 h
      refine d_cons ?_
      refine a_gskip rfl ?_
      refine d_next (by kernel_rfl) ?_
      refine d_cons ?_
      refine a_gskip rfl ?_
      refine d_next (by kernel_rfl) ?_
      refine d_cons ?_
      refine a_gskip rfl ?_
      refine d_next (by kernel_rfl) ?_
      refine d_cons ?_
      refine a_val (v := (.bool false)) (u := []) rfl trivial rfl ?_
      refine d_next (by kernel_rfl) ?_
      refine d_cons ?_
      refine a_val (v := (.bool false)) (u := []) rfl trivial rfl ?_
      refine d_next (by kernel_rfl) ?_
      refine d_cons ?_
      refine a_gskip rfl ?_
      refine d_next (by kernel_rfl) ?_
      refine d_cons ?_
      refine a_gskip rfl ?_
      refine d_next (by kernel_rfl) ?_
      refine d_cons ?_
      refine a_gskip rfl ?_
      refine d_next (by kernel_rfl) ?_
      refine d_cons ?_
      refine a_val (v := (.bool false)) (u := []) rfl trivial rfl ?_
      refine d_next (by kernel_rfl) ?_
      refine d_cons ?_
      obtain ⟨r70, hr71, h⟩ := bind_some h
      refine a_call (args := [(.int .i64 a0), (eA64u8 a1), (eA64u8 a2), (.bool false)]) (u := []) (r := (.int .i64 r70)) rfl rfl (impl_quotientCode_ok a0 a1 a2 false r70 hr71) rfl ?_
      refine d_next (by kernel_rfl) ?_
      refine d_cons ?_
      refine a_val (v := (.int .i64 r70)) (u := []) rfl trivial rfl ?_
      refine d_next (by kernel_rfl) ?_
      refine d_nil ?_
      exact j_leaf r70 (Option.some.inj h) (by kernel_rfl)
    · have h := ite_t hb69 h
      refine d_cons ?_
      refine a_gval rfl (v := (eSi64 r8)) (u := []) rfl trivial rfl ?_
      refine d_next (by kernel_rfl) ?_
      refine d_cons ?_
      obtain ⟨r72, hr73, h⟩ := bind_some h
      refine a_gcall rfl (args := [(eSi64 r8)]) (u := []) (r := (.int .i64 r72)) rfl rfl (impl_row_degree_ok r8 r72 hr73) rfl ?_
      refine d_next (by kernel_rfl) ?_
      refine d_cons ?_
      refine a_gval rfl (v := (.bool ((decide (r72 ≤ 62))))) (u := []) rfl trivial rfl ?_
      refine d_next (by kernel_rfl) ?_
      refine d_cons ?_
      refine a_val (v := (.bool ((decide (r72 ≤ 62))))) (u := []) rfl trivial rfl ?_
      refine d_next (by kernel_rfl) ?_
      refine d_cons ?_
      refine a_val (v := (.bool ((decide (r72 ≤ 62))))) (u := []) rfl trivial rfl ?_
      refine d_next (by kernel_rfl) ?_
      cases hb74 : (decide (r72 ≤ 62))
      · have h := ite_f hb74 h
        refine d_cons ?_
        refine a_gskip rfl ?_
        refine d_next (by kernel_rfl) ?_
        refine d_cons ?_
        refine a_gskip rfl ?_
        refine d_next (by kernel_rfl) ?_
        refine d_cons ?_
        refine a_gskip rfl ?_
        refine d_next (by kernel_rfl) ?_
        refine d_cons ?_
        refine a_val (v := (.bool false)) (u := []) rfl trivial rfl ?_
        refine d_next (by kernel_rfl) ?_
        refine d_cons ?_
        obtain ⟨r75, hr76, h⟩ := bind_some h
        refine a_call (args := [(.int .i64 a0), (eA64u8 a1), (eA64u8 a2), (.bool false)]) (u := []) (r := (.int .i64 r75)) rfl rfl (impl_quotientCode_ok a0 a1 a2 false r75 hr76) rfl ?_
        refine d_next (by kernel_rfl) ?_
        refine d_cons ?_
        refine a_val (v := (.int .i64 r75)) (u := []) rfl trivial rfl ?_
        refine d_next (by kernel_rfl) ?_
        refine d_nil ?_
        exact j_leaf r75 (Option.some.inj h) (by kernel_rfl)
      · have h := ite_t hb74 h
        refine d_cons ?_
        refine a_gval rfl (v := (eSi64 r11)) (u := []) rfl trivial rfl ?_
        refine d_next (by kernel_rfl) ?_
        refine d_cons ?_
        obtain ⟨r77, hr78, h⟩ := bind_some h
        refine a_gcall rfl (args := [(eSi64 r11)]) (u := []) (r := (.int .i64 r77)) rfl rfl (impl_row_degree_ok r11 r77 hr78) rfl ?_
        refine d_next (by kernel_rfl) ?_
        refine d_cons ?_
        refine a_gval rfl (v := (.bool ((decide (r77 ≤ 62))))) (u := []) rfl trivial rfl ?_
        refine d_next (by kernel_rfl) ?_
        refine d_cons ?_
        refine a_val (v := (.bool ((decide (r77 ≤ 62))))) (u := []) rfl trivial rfl ?_
        refine d_next (by kernel_rfl) ?_
        refine d_cons ?_
        obtain ⟨r79, hr80, h⟩ := bind_some h
        refine a_call (args := [(.int .i64 a0), (eA64u8 a1), (eA64u8 a2), (.bool ((decide (r77 ≤ 62))))]) (u := []) (r := (.int .i64 r79)) rfl rfl (impl_quotientCode_ok a0 a1 a2 ((decide (r77 ≤ 62))) r79 hr80) rfl ?_
        refine d_next (by kernel_rfl) ?_
        refine d_cons ?_
        refine a_val (v := (.int .i64 r79)) (u := []) rfl trivial rfl ?_
        refine d_next (by kernel_rfl) ?_
        refine d_nil ?_
        exact j_leaf r79 (Option.some.inj h) (by kernel_rfl)
def laws_FnExactDigitsOfQuotient_c : ACode := (.seq (.region 0 [⟨some 5, .box 22 (.tmp 1), none, []⟩, ⟨some 6, .box 22 (.tmp 2), none, []⟩, ⟨some 8, .asg 0 (.const (.bool false)) 4, none, []⟩] false) (.seq (.region 1 [⟨some 18, .mov (.tmp 0), none, []⟩, ⟨some 19, .load 22 (.tmp 5), none, []⟩, ⟨some 20, .call 0 (.func 21) [(.tmp 19)], none, [1]⟩, ⟨some 21, .load 22 (.tmp 6), none, []⟩, ⟨some 22, .call 0 (.func 21) [(.tmp 21)], none, [3, 2]⟩, ⟨some 23, .mov (.tmp 3), none, []⟩, ⟨some 24, .call 0 (.func 34) [(.tmp 18), (.tmp 20), (.tmp 22), (.tmp 23)], none, [0, 2, 4, 5, 4]⟩, ⟨some 17, .mov (.tmp 24), none, [6]⟩, ⟨some 25, .extract (.tmp 17) 0, none, [7]⟩, ⟨some 26, .extract (.tmp 17) 1, none, [7]⟩, ⟨some 9, .asg 1 (.tmp 25) 45, none, [8, 6, 0, 1, 2, 3, 4, 5, 6, 7, 8]⟩, ⟨some 10, .asg 0 (.tmp 26) 2, none, [9, 10, 0, 1, 2, 3, 4, 5, 6, 7, 8, 9, 10]⟩] true) (.seq (.region 2 [⟨some 28, .mov (.tmp 0), none, []⟩, ⟨some 29, .load 22 (.tmp 5), none, []⟩, ⟨some 30, .call 0 (.func 21) [(.tmp 29)], none, [1]⟩, ⟨some 31, .load 22 (.tmp 6), none, []⟩, ⟨some 32, .call 0 (.func 21) [(.tmp 31)], none, [3, 2]⟩, ⟨some 33, .mov (.tmp 3), none, []⟩, ⟨some 34, .call 0 (.func 35) [(.tmp 28), (.tmp 30), (.tmp 32), (.tmp 33)], none, [0, 2, 4, 5, 4]⟩, ⟨some 27, .mov (.tmp 34), none, [6]⟩, ⟨some 35, .extract (.tmp 27) 0, none, [7]⟩, ⟨some 36, .extract (.tmp 27) 1, none, [7]⟩, ⟨some 11, .asg 2 (.tmp 35) 45, none, [8, 6, 0, 1, 2, 3, 4, 5, 6, 7, 8]⟩, ⟨some 12, .asg 0 (.tmp 36) 2, none, [9, 10, 0, 1, 2, 3, 4, 5, 6, 7, 8, 9, 10]⟩] true) (.seq (.seq (.region 3 [⟨some 37, .mov (.tmp 11), none, []⟩, ⟨some 38, .mov (.tmp 9), none, []⟩, ⟨some 39, .call 0 (.func 36) [(.tmp 37), (.tmp 38)], none, []⟩, ⟨some 40, .un .not (.tmp 39), none, []⟩, ⟨some 41, .mov (.tmp 40), none, []⟩, ⟨some 42, .mov (.tmp 12), some (41, false), []⟩, ⟨some 43, .mov (.tmp 10), some (41, false), []⟩, ⟨some 44, .bin .neq 2 (.tmp 42) (.tmp 43), some (41, false), []⟩, ⟨some 45, .pick (.tmp 41) (.const (.bool true)) (.tmp 44), none, []⟩] false) (.cond (.tmp 45) (.seq (.region 4 [⟨some 8, .asg 0 (.const (.bool false)) 4, none, []⟩] false) .ret) .skip)) (.seq (.region 5 [⟨some 13, .asg 0 (.const (.int .i64 1)) 3, none, []⟩] false) (.seq (.region 6 [⟨some 46, .mov (.tmp 11), none, []⟩, ⟨some 47, .mov (.tmp 13), none, []⟩, ⟨some 48, .call 1 (.func 37) [(.tmp 46), (.tmp 47)], none, []⟩, ⟨some 13, .asg 0 (.tmp 48) 3, none, []⟩] false) (.seq (.region 7 [⟨some 14, .asg 0 (.const (.int .i64 1)) 3, none, []⟩] false) (.seq (.region 8 [⟨some 49, .mov (.tmp 11), none, []⟩, ⟨some 50, .mov (.tmp 14), none, []⟩, ⟨some 51, .call 0 (.func 38) [(.tmp 49), (.tmp 50)], none, []⟩, ⟨some 14, .asg 0 (.tmp 51) 3, none, []⟩] false) (.seq (.seq (.region 9 [⟨some 52, .mov (.tmp 14), none, []⟩, ⟨some 53, .bin .lss 3 (.tmp 52) (.const (.int .i64 0)), none, []⟩] false) (.cond (.tmp 53) (.seq (.region 10 [⟨some 8, .asg 0 (.const (.bool false)) 4, none, []⟩] false) .ret) .skip)) (.seq (.seq (.region 11 [⟨some 54, .mov (.tmp 14), none, []⟩, ⟨some 55, .mov (.tmp 13), none, []⟩, ⟨some 56, .bin .neq 3 (.tmp 54) (.tmp 55), none, []⟩] false) (.cond (.tmp 56) (.seq (.region 12 [⟨some 8, .asg 0 (.const (.bool false)) 4, none, []⟩] false) .ret) .skip)) (.seq (.region 13 [⟨some 58, .mov (.tmp 0), none, []⟩, ⟨some 59, .load 22 (.tmp 5), none, []⟩, ⟨some 60, .call 0 (.func 21) [(.tmp 59)], none, [1]⟩, ⟨some 61, .load 22 (.tmp 6), none, []⟩, ⟨some 62, .call 0 (.func 21) [(.tmp 61)], none, [3, 2]⟩, ⟨some 63, .mov (.tmp 3), none, []⟩, ⟨some 64, .call 0 (.func 35) [(.tmp 58), (.tmp 60), (.tmp 62), (.tmp 63)], none, [0, 2, 4, 5, 4]⟩, ⟨some 57, .mov (.tmp 64), none, [6]⟩, ⟨some 65, .extract (.tmp 57) 0, none, [7]⟩, ⟨some 66, .extract (.tmp 57) 1, none, [7]⟩, ⟨some 15, .asg 1 (.tmp 65) 45, none, [8, 6, 0, 1, 2, 3, 4, 5, 6, 7, 8]⟩, ⟨some 16, .asg 0 (.tmp 66) 2, none, [9, 10, 0, 1, 2, 3, 4, 5, 6, 7, 8, 9, 10]⟩] true) (.seq (.seq (.region 14 [⟨some 67, .mov (.tmp 15), none, []⟩, ⟨some 68, .mov (.tmp 9), none, []⟩, ⟨some 69, .call 0 (.func 36) [(.tmp 67), (.tmp 68)], none, []⟩, ⟨some 70, .un .not (.tmp 69), none, []⟩, ⟨some 71, .mov (.tmp 70), none, []⟩, ⟨some 72, .mov (.tmp 16), some (71, false), []⟩, ⟨some 73, .mov (.tmp 10), some (71, false), []⟩, ⟨some 74, .bin .neq 2 (.tmp 72) (.tmp 73), some (71, false), []⟩, ⟨some 75, .pick (.tmp 71) (.const (.bool true)) (.tmp 74), none, []⟩] false) (.cond (.tmp 75) (.seq (.region 15 [⟨some 8, .asg 0 (.const (.bool false)) 4, none, []⟩] false) .ret) .skip)) (.seq (.region 16 [⟨some 14, .asg 0 (.const (.int .i64 1)) 3, none, []⟩] false) (.seq (.region 17 [⟨some 76, .mov (.tmp 11), none, []⟩, ⟨some 77, .mov (.tmp 14), none, []⟩, ⟨some 78, .call 0 (.func 38) [(.tmp 76), (.tmp 77)], none, []⟩, ⟨some 14, .asg 0 (.tmp 78) 3, none, []⟩] false) (.seq (.seq (.region 18 [⟨some 79, .mov (.tmp 14), none, []⟩, ⟨some 80, .bin .lss 3 (.tmp 79) (.const (.int .i64 0)), none, []⟩] false) (.cond (.tmp 80) (.seq (.region 19 [⟨some 8, .asg 0 (.const (.bool false)) 4, none, []⟩] false) .ret) .skip)) (.seq (.seq (.region 20 [⟨some 81, .mov (.tmp 14), none, []⟩, ⟨some 82, .mov (.tmp 13), none, []⟩, ⟨some 83, .bin .neq 3 (.tmp 81) (.tmp 82), none, []⟩] false) (.cond (.tmp 83) (.seq (.region 21 [⟨some 8, .asg 0 (.const (.bool false)) 4, none, []⟩] false) .ret) .skip)) (.seq (.region 22 [⟨some 8, .asg 0 (.const (.bool true)) 4, none, []⟩] false) .ret)))))))))))))))))
def laws_FnExactDigitsOfQuotient_L : Live := [(0, [0, 1, 2, 3]), (1, [0, 3, 5, 6]), (2, [0, 3, 5, 6, 9, 10]), (3, [0, 3, 5, 6, 9, 10, 11, 12]), (4, []), (5, [0, 3, 5, 6, 9, 10, 11]), (6, [0, 3, 5, 6, 9, 10, 11, 13]), (7, [0, 3, 5, 6, 9, 10, 11, 13]), (8, [0, 3, 5, 6, 9, 10, 11, 13, 14]), (9, [0, 3, 5, 6, 9, 10, 11, 13, 14]), (10, []), (11, [0, 3, 5, 6, 9, 10, 11, 13, 14]), (12, []), (13, [0, 3, 5, 6, 9, 10, 11, 13]), (14, [9, 10, 11, 13, 15, 16]), (15, []), (16, [11, 13]), (17, [11, 13, 14]), (18, [13, 14]), (19, []), (20, [13, 14]), (21, []), (22, []), (100045, [0, 3, 5, 6, 9, 10, 11, 45]), (100053, [0, 3, 5, 6, 9, 10, 11, 13, 14, 53]), (100056, [0, 3, 5, 6, 9, 10, 11, 13, 56]), (100075, [11, 13, 75]), (100080, [13, 14, 80]), (100083, [83])]
theorem laws_FnExactDigitsOfQuotient_body : Try.f9.body = some (Try.f9.body.getD .skip) := by kernel_rfl
theorem laws_FnExactDigitsOfQuotient_strip : strip [(9, 1), (11, 2), (15, 1), (48, 1)] (Try.f9.body.getD .skip) = laws_FnExactDigitsOfQuotient_c := by kernel_rfl
noncomputable def laws_FnExactDigitsOfQuotient (a0 : Int) (a1 : (Vec Int 64)) (a2 : (Vec Int 64)) (a3 : Int) : Option Bool :=
  (Option.bind (laws_toPoly a1) fun r10 => (Option.bind (laws_toPoly a2) fun r13 => (Option.bind (spec_DigitsOfQuotient a0 r10 r13 a3) fun r15 => (Option.bind (laws_toPoly a1) fun r26 => (Option.bind (laws_toPoly a2) fun r29 => (Option.bind (impl_DigitsOfQuotient_fresh a0 r26 r29 a3) fun r31 => (Option.bind (α := Bool) ((Option.bind (laws_eqInt64S r31.1 r15.1) fun r40 => (if (!r40) then (some true) else (some (r31.2 != r15.2))))) fun x36 => (if x36 then (some false) else (Option.bind (laws_markInt64S_of_mut r31.1 1) fun r44 => (ifp (r44.2.length = r31.1.length) ((Option.bind (laws_heldInt64S r44.2 1) fun r47 => (if (decide (r47 < 0)) then (some false) else (if (r47 != r44.1) then (some false) else (Option.bind (laws_toPoly a1) fun r60 => (Option.bind (laws_toPoly a2) fun r63 => (Option.bind (impl_DigitsOfQuotient a0 r60 r63 a3) fun r65 => (Option.bind (α := Bool) ((Option.bind (laws_eqInt64S r65.1 r15.1) fun r74 => (if (!r74) then (some true) else (some (r65.2 != r15.2))))) fun x70 => (if x70 then (some false) else (Option.bind (laws_heldInt64S r44.2 1) fun r78 => (if (decide (r78 < 0)) then (some false) else (if (r78 != r44.1) then (some false) else (some true)))))))))))))))))))))))
set_option maxHeartbeats 16000000 in
theorem laws_FnExactDigitsOfQuotient_ok (a0 : Int) (a1 : (Vec Int 64)) (a2 : (Vec Int 64)) (a3 : Int) (r : Bool) (h : laws_FnExactDigitsOfQuotient a0 a1 a2 a3 = some r) : Den Try.prog 9 [(.int .i64 a0), (eA64u8 a1), (eA64u8 a2), (.int .i64 a3)] { r := (.bool r) } := by
  refine den_of (rs := [(.bool r)]) (ac := laws_FnExactDigitsOfQuotient_c) (L := laws_FnExactDigitsOfQuotient_L) (n := 84) (m := [(9, 1), (11, 2), (15, 1), (48, 1)]) good Try.func9 laws_FnExactDigitsOfQuotient_body (by kernel_rfl) Try.ntmps9 rfl rfl laws_FnExactDigitsOfQuotient_strip rfl rfl ?_
  refine a_st (σ' := ⟨[(0, (.int .i64 a0)), (1, (eA64u8 a1)), (2, (eA64u8 a2)), (3, (.int .i64 a3))], []⟩) (by kernel_rfl) ?_
  unfold laws_FnExactDigitsOfQuotient_c
  refine a_seq ?_
  refine a_region ?_
  refine a_val (v := (.own 1500 [] [])) (u := [(1500, some ⟨(eA64u8 a1), false⟩)]) rfl trivial rfl ?_
  refine a_val (v := (.own 1600 [] [])) (u := [(1600, some ⟨(eA64u8 a2), false⟩)]) rfl trivial rfl ?_
  refine a_val (v := (.bool false)) (u := []) rfl trivial rfl ?_
  refine a_nil ?_
  refine a_next (σ' := ⟨[(0, (.int .i64 a0)), (3, (.int .i64 a3)), (5, (.own 5 [] [])), (6, (.own 6 [] []))], [(5, some ⟨(eA64u8 a1), false⟩), (6, some ⟨(eA64u8 a2), false⟩)]⟩) (by kernel_rfl) ?_
  refine a_seq ?_
  refine a_draw [⟨[], [], [], []⟩, ⟨[5], [], [], []⟩, ⟨[], [], [], [1]⟩, ⟨[6], [], [], []⟩, ⟨[], [], [], [1, 2, 3]⟩, ⟨[], [], [], []⟩, ⟨[], [], [], [0, 1, 2, 3, 4, 5]⟩, ⟨[], [], [], [0, 1, 2, 3, 4, 5, 6]⟩, ⟨[], [], [], [0, 1, 2, 3, 4, 5, 6, 7]⟩, ⟨[], [], [], [0, 1, 2, 3, 4, 5, 6, 7]⟩, ⟨[], [], [], [0, 1, 2, 3, 4, 5, 6, 7, 8]⟩, ⟨[], [], [], [0, 1, 2, 3, 4, 5, 6, 7, 8, 9, 10]⟩] (by kernel_rfl) ?_
  refine d_cons ?_
  refine a_val (v := (.int .i64 a0)) (u := []) rfl trivial rfl ?_
  refine d_next (by kernel_rfl) ?_
  refine d_cons ?_
  have hl9 : LdOk [] (eA64u8 a1) [] 64 true (eA64u8 a1) := (.nil rfl rfl rfl)
  refine a_val (v := (eA64u8 a1)) (u := []) (ld_own (i := ⟨.arr 64 5, 64, 64, (eA64u8 (vrep 64 (0 : Int)))⟩) rfl rfl rfl hl9) hl9.c rfl ?_
  refine d_next (by kernel_rfl) ?_
  refine d_cons ?_
  obtain ⟨r10, hr11, h⟩ := bind_some h
  refine a_call (args := [(eA64u8 a1)]) (u := []) (r := (eA64u8 r10)) rfl rfl (laws_toPoly_ok a1 r10 hr11) rfl ?_
  refine d_next (by kernel_rfl) ?_
  refine d_cons ?_
  have hl12 : LdOk [] (eA64u8 a2) [] 64 true (eA64u8 a2) := (.nil rfl rfl rfl)
  refine a_val (v := (eA64u8 a2)) (u := []) (ld_own (i := ⟨.arr 64 5, 64, 64, (eA64u8 (vrep 64 (0 : Int)))⟩) rfl rfl rfl hl12) hl12.c rfl ?_
  refine d_next (by kernel_rfl) ?_
  refine d_cons ?_
  obtain ⟨r13, hr14, h⟩ := bind_some h
  refine a_call (args := [(eA64u8 a2)]) (u := []) (r := (eA64u8 r13)) rfl rfl (laws_toPoly_ok a2 r13 hr14) rfl ?_
  refine d_next (by kernel_rfl) ?_
  refine d_cons ?_
  refine a_val (v := (.int .i64 a3)) (u := []) rfl trivial rfl ?_
  refine d_next (by kernel_rfl) ?_
  refine d_cons ?_
  obtain ⟨r15, hr16, h⟩ := bind_some h
  refine a_call (args := [(.int .i64 a0), (eA64u8 r10), (eA64u8 r13), (.int .i64 a3)]) (u := []) (r := (.tuple [(eSi64 r15.1), (.int .i64 r15.2)])) rfl rfl (spec_DigitsOfQuotient_ok a0 r10 r13 a3 r15 hr16) rfl ?_
  refine d_next (by kernel_rfl) ?_
  refine d_cons ?_
  refine a_val (v := (.tuple [(eSi64 r15.1), (.int .i64 r15.2)])) (u := []) rfl trivial rfl ?_
  refine d_next (by kernel_rfl) ?_
  refine d_cons ?_
  refine a_val (v := (eSi64 r15.1)) (u := []) rfl (Nat.le_of_ble_eq_true rfl) rfl ?_
  refine d_next (by kernel_rfl) ?_
  refine d_cons ?_
  refine a_val (v := (.int .i64 r15.2)) (u := []) rfl (Nat.le_of_ble_eq_true rfl) rfl ?_
  refine d_next (by kernel_rfl) ?_
  refine d_cons ?_
  refine a_val (v := (eSi64 r15.1)) (u := []) rfl trivial rfl ?_
  refine d_next (by kernel_rfl) ?_
  refine d_cons ?_
  refine a_val (v := (.int .i64 r15.2)) (u := []) rfl trivial rfl ?_
  refine d_next (by kernel_rfl) ?_
  refine d_nil ?_
  refine a_next (σ' := ⟨[(0, (.int .i64 a0)), (3, (.int .i64 a3)), (5, (.own 5 [] [])), (6, (.own 6 [] [])), (9, (eSi64 r15.1)), (10, (.int .i64 r15.2))], [(5, some ⟨(eA64u8 a1), false⟩), (6, some ⟨(eA64u8 a2), false⟩)]⟩) (by kernel_rfl) ?_
  refine a_seq ?_
  refine a_draw [⟨[], [], [], []⟩, ⟨[5], [], [], []⟩, ⟨[], [], [], [1]⟩, ⟨[6], [], [], []⟩, ⟨[], [], [], [1, 2, 3]⟩, ⟨[], [], [], []⟩, ⟨[4400], [4400], [4400], [0, 1, 2, 3, 4, 5]⟩, ⟨[4400], [], [4400], [0, 1, 2, 3, 4, 5, 6]⟩, ⟨[4400], [], [4400], [0, 1, 2, 3, 4, 5, 6, 7]⟩, ⟨[4400], [], [], [0, 1, 2, 3, 4, 5, 6, 7]⟩, ⟨[4400], [], [4400], [0, 1, 2, 3, 4, 5, 6, 7, 8]⟩, ⟨[], [], [], [0, 1, 2, 3, 4, 5, 6, 7, 8, 9, 10]⟩] (by kernel_rfl) ?_
  refine d_cons ?_
  refine a_val (v := (.int .i64 a0)) (u := []) rfl trivial rfl ?_
  refine d_next (by kernel_rfl) ?_
  refine d_cons ?_
  have hl25 : LdOk [] (eA64u8 a1) [] 64 true (eA64u8 a1) := (.nil rfl rfl rfl)
  refine a_val (v := (eA64u8 a1)) (u := []) (ld_own (i := ⟨.arr 64 5, 64, 64, (eA64u8 (vrep 64 (0 : Int)))⟩) rfl rfl rfl hl25) hl25.c rfl ?_
  refine d_next (by kernel_rfl) ?_
  refine d_cons ?_
  obtain ⟨r26, hr27, h⟩ := bind_some h
  refine a_call (args := [(eA64u8 a1)]) (u := []) (r := (eA64u8 r26)) rfl rfl (laws_toPoly_ok a1 r26 hr27) rfl ?_
  refine d_next (by kernel_rfl) ?_
  refine d_cons ?_
  have hl28 : LdOk [] (eA64u8 a2) [] 64 true (eA64u8 a2) := (.nil rfl rfl rfl)
  refine a_val (v := (eA64u8 a2)) (u := []) (ld_own (i := ⟨.arr 64 5, 64, 64, (eA64u8 (vrep 64 (0 : Int)))⟩) rfl rfl rfl hl28) hl28.c rfl ?_
  refine d_next (by kernel_rfl) ?_
  refine d_cons ?_
  obtain ⟨r29, hr30, h⟩ := bind_some h
  refine a_call (args := [(eA64u8 a2)]) (u := []) (r := (eA64u8 r29)) rfl rfl (laws_toPoly_ok a2 r29 hr30) rfl ?_
  refine d_next (by kernel_rfl) ?_
  refine d_cons ?_
  refine a_val (v := (.int .i64 a3)) (u := []) rfl trivial rfl ?_
  refine d_next (by kernel_rfl) ?_
  refine d_cons ?_
  obtain ⟨r31, hr32, h⟩ := bind_some h
  refine a_callF (args := [(.int .i64 a0), (eA64u8 r26), (eA64u8 r29), (.int .i64 a3)]) (u := []) (u2 := []) (r := (.tuple [(.osl 2000000), (.int .i64 r31.2)])) (fs := [(1, r31.1.map (AV.int .i64))]) rfl rfl (impl_DigitsOfQuotient_fresh_ok a0 r26 r29 a3 r31 hr32) rfl rfl rfl (.inl rfl) rfl ?_
  refine d_next (by kernel_rfl) ?_
  refine d_cons ?_
  refine a_val (v := (.tuple [(.osl 4400), (.int .i64 r31.2)])) (u := []) rfl trivial rfl ?_
  refine d_next (by kernel_rfl) ?_
  refine d_cons ?_
  refine a_val (v := (.osl 4400)) (u := []) rfl (Nat.le_of_ble_eq_true rfl) rfl ?_
  refine d_next (by kernel_rfl) ?_
  refine d_cons ?_
  refine a_val (v := (.int .i64 r31.2)) (u := []) rfl (Nat.le_of_ble_eq_true rfl) rfl ?_
  refine d_next (by kernel_rfl) ?_
  refine d_cons ?_
  refine a_val (v := (.osl 4400)) (u := []) rfl trivial rfl ?_
  refine d_next (by kernel_rfl) ?_
  refine d_cons ?_
  refine a_val (v := (.int .i64 r31.2)) (u := []) rfl trivial rfl ?_
  refine d_next (by kernel_rfl) ?_
  refine d_nil ?_
  refine a_next (σ' := ⟨[(0, (.int .i64 a0)), (3, (.int .i64 a3)), (5, (.own 5 [] [])), (6, (.own 6 [] [])), (9, (eSi64 r15.1)), (10, (.int .i64 r15.2)), (11, (.osl 11)), (12, (.int .i64 r31.2))], [(5, some ⟨(eA64u8 a1), false⟩), (6, some ⟨(eA64u8 a2), false⟩), (11, some ⟨(.row 1 (r31.1.map (AV.int .i64))), false⟩)]⟩) (by kernel_rfl) ?_
  refine a_seq ?_
  obtain ⟨y37, hy38, hk39⟩ := bind_some h
  clear h
  refine a_join (emb := fun (s : Bool) => ⟨[(0, (.int .i64 a0)), (3, (.int .i64 a3)), (5, (.own 5 [] [])), (6, (.own 6 [] [])), (9, (eSi64 r15.1)), (10, (.int .i64 r15.2)), (11, (.osl 11)), (45, (.bool s))], [(5, some ⟨(eA64u8 a1), false⟩), (6, some ⟨(eA64u8 a2), false⟩), (11, some ⟨(.row 1 (r31.1.map (AV.int .i64))), false⟩)]⟩) (pre := fun s => s = y37) ?_ ?_
  · rintro x36 rfl
    have h := hk39
    refine a_st (σ' := ⟨[(0, (.int .i64 a0)), (3, (.int .i64 a3)), (5, (.own 5 [] [])), (6, (.own 6 [] [])), (9, (eSi64 r15.1)), (10, (.int .i64 r15.2)), (11, (.osl 11)), (45, (.bool x36))], [(5, some ⟨(eA64u8 a1), false⟩), (6, some ⟨(eA64u8 a2), false⟩), (11, some ⟨(.row 1 (r31.1.map (AV.int .i64))), false⟩)]⟩) (by kernel_rfl) ?_
    cases hb43 : x36
    · have h := ite_f hb43 h
      refine a_cond_f rfl ?_
      refine a_skip ?_
      refine a_next (σ' := ⟨[(0, (.int .i64 a0)), (3, (.int .i64 a3)), (5, (.own 5 [] [])), (6, (.own 6 [] [])), (9, (eSi64 r15.1)), (10, (.int .i64 r15.2)), (11, (.osl 11))], [(5, some ⟨(eA64u8 a1), false⟩), (6, some ⟨(eA64u8 a2), false⟩), (11, some ⟨(.row 1 (r31.1.map (AV.int .i64))), false⟩)]⟩) (by kernel_rfl) ?_
      refine a_seq ?_
      refine a_region ?_
      refine a_val (v := (.int .i64 1)) (u := []) rfl trivial rfl ?_
      refine a_nil ?_
      refine a_next (σ' := ⟨[(0, (.int .i64 a0)), (3, (.int .i64 a3)), (5, (.own 5 [] [])), (6, (.own 6 [] [])), (9, (eSi64 r15.1)), (10, (.int .i64 r15.2)), (11, (.osl 11)), (13, (.int .i64 1))], [(5, some ⟨(eA64u8 a1), false⟩), (6, some ⟨(eA64u8 a2), false⟩), (11, some ⟨(.row 1 (r31.1.map (AV.int .i64))), false⟩)]⟩) (by kernel_rfl) ?_
      refine a_seq ?_
      refine a_region ?_
      refine a_val (v := (.osl 11)) (u := []) rfl trivial rfl ?_
      refine a_val (v := (.int .i64 1)) (u := []) rfl trivial rfl ?_
      obtain ⟨r44, hr45, h⟩ := bind_some h
      obtain ⟨hl46, h⟩ := ifp_some h
      refine a_callM (args := [(.mutsl 1 (r31.1.map (AV.int .i64))), (.int .i64 1)]) (i := 0) (id := 11) (r := (.int .i64 r44.1)) (c := (.row 1 (r44.2.map (AV.int .i64)))) rfl rfl (laws_markInt64S_of_mut_ok r31.1 1 r44 hr45) rfl (shape_map hl46) ?_
      refine a_val (v := (.int .i64 r44.1)) (u := []) rfl trivial rfl ?_
      refine a_nil ?_
      refine a_next (σ' := ⟨[(0, (.int .i64 a0)), (3, (.int .i64 a3)), (5, (.own 5 [] [])), (6, (.own 6 [] [])), (9, (eSi64 r15.1)), (10, (.int .i64 r15.2)), (11, (.osl 11)), (13, (.int .i64 r44.1))], [(5, some ⟨(eA64u8 a1), false⟩), (6, some ⟨(eA64u8 a2), false⟩), (11, some ⟨(.row 1 (r44.2.map (AV.int .i64))), false⟩)]⟩) (by kernel_rfl) ?_
      refine a_seq ?_
      refine a_region ?_
      refine a_val (v := (.int .i64 1)) (u := []) rfl trivial rfl ?_
      refine a_nil ?_
      refine a_next (σ' := ⟨[(0, (.int .i64 a0)), (3, (.int .i64 a3)), (5, (.own 5 [] [])), (6, (.own 6 [] [])), (9, (eSi64 r15.1)), (10, (.int .i64 r15.2)), (11, (.osl 11)), (13, (.int .i64 r44.1)), (14, (.int .i64 1))], [(5, some ⟨(eA64u8 a1), false⟩), (6, some ⟨(eA64u8 a2), false⟩), (11, some ⟨(.row 1 (r44.2.map (AV.int .i64))), false⟩)]⟩) (by kernel_rfl) ?_
      refine a_seq ?_
      refine a_region ?_
      refine a_val (v := (.osl 11)) (u := []) rfl trivial rfl ?_
      refine a_val (v := (.int .i64 1)) (u := []) rfl trivial rfl ?_
      obtain ⟨r47, hr48, h⟩ := bind_some h
      refine a_callB (args := [(eSi64 r44.2), (.int .i64 1)]) (u := [(11, some ⟨(.row 1 (r44.2.map (AV.int .i64))), true⟩)]) (r := (.int .i64 r47)) rfl rfl (laws_heldInt64S_ok r44.2 1 r47 hr48) rfl trivial ?_
      refine a_val (v := (.int .i64 r47)) (u := []) rfl trivial rfl ?_
      refine a_nil ?_
      refine a_next (σ' := ⟨[(0, (.int .i64 a0)), (3, (.int .i64 a3)), (5, (.own 5 [] [])), (6, (.own 6 [] [])), (9, (eSi64 r15.1)), (10, (.int .i64 r15.2)), (11, (.osl 11)), (13, (.int .i64 r44.1)), (14, (.int .i64 r47))], [(5, some ⟨(eA64u8 a1), false⟩), (6, some ⟨(eA64u8 a2), false⟩), (11, some ⟨(.row 1 (r44.2.map (AV.int .i64))), false⟩)]⟩) (by kernel_rfl) ?_
      refine a_seq ?_
      refine a_seq ?_
      refine a_region ?_
      refine a_val (v := (.int .i64 r47)) (u := []) rfl trivial rfl ?_
      refine a_val (v := (.bool ((decide (r47 < 0))))) (u := []) rfl trivial rfl ?_
      refine a_nil ?_
      refine a_next (σ' := ⟨[(0, (.int .i64 a0)), (3, (.int .i64 a3)), (5, (.own 5 [] [])), (6, (.own 6 [] [])), (9, (eSi64 r15.1)), (10, (.int .i64 r15.2)), (11, (.osl 11)), (13, (.int .i64 r44.1)), (14, (.int .i64 r47)), (53, (.bool ((decide (r47 < 0)))))], [(5, some ⟨(eA64u8 a1), false⟩), (6, some ⟨(eA64u8 a2), false⟩), (11, some ⟨(.row 1 (r44.2.map (AV.int .i64))), false⟩)]⟩) (by kernel_rfl) ?_
      cases hb49 : (decide (r47 < 0))
      · have h := ite_f hb49 h
        refine a_cond_f rfl ?_
        refine a_skip ?_
        refine a_next (σ' := ⟨[(0, (.int .i64 a0)), (3, (.int .i64 a3)), (5, (.own 5 [] [])), (6, (.own 6 [] [])), (9, (eSi64 r15.1)), (10, (.int .i64 r15.2)), (11, (.osl 11)), (13, (.int .i64 r44.1)), (14, (.int .i64 r47))], [(5, some ⟨(eA64u8 a1), false⟩), (6, some ⟨(eA64u8 a2), false⟩), (11, some ⟨(.row 1 (r44.2.map (AV.int .i64))), false⟩)]⟩) (by kernel_rfl) ?_
        refine a_seq ?_
        refine a_seq ?_
        refine a_region ?_
        refine a_val (v := (.int .i64 r47)) (u := []) rfl trivial rfl ?_
        refine a_val (v := (.int .i64 r44.1)) (u := []) rfl trivial rfl ?_
        refine a_val (v := (.bool (r47 != r44.1))) (u := []) rfl trivial rfl ?_
        refine a_nil ?_
        refine a_next (σ' := ⟨[(0, (.int .i64 a0)), (3, (.int .i64 a3)), (5, (.own 5 [] [])), (6, (.own 6 [] [])), (9, (eSi64 r15.1)), (10, (.int .i64 r15.2)), (11, (.osl 11)), (13, (.int .i64 r44.1)), (56, (.bool (r47 != r44.1)))], [(5, some ⟨(eA64u8 a1), false⟩), (6, some ⟨(eA64u8 a2), false⟩), (11, some ⟨(.row 1 (r44.2.map (AV.int .i64))), false⟩)]⟩) (by kernel_rfl) ?_
        cases hb50 : (r47 != r44.1)
        · have h := ite_f hb50 h
          refine a_cond_f rfl ?_
          refine a_skip ?_
          refine a_next (σ' := ⟨[(0, (.int .i64 a0)), (3, (.int .i64 a3)), (5, (.own 5 [] [])), (6, (.own 6 [] [])), (9, (eSi64 r15.1)), (10, (.int .i64 r15.2)), (11, (.osl 11)), (13, (.int .i64 r44.1))], [(5, some ⟨(eA64u8 a1), false⟩), (6, some ⟨(eA64u8 a2), false⟩), (11, some ⟨(.row 1 (r44.2.map (AV.int .i64))), false⟩)]⟩) (by kernel_rfl) ?_
          refine a_seq ?_
          refine a_draw [⟨[], [], [], []⟩, ⟨[5], [], [], []⟩, ⟨[], [], [], [1]⟩, ⟨[6], [], [], []⟩, ⟨[], [], [], [1, 2, 3]⟩, ⟨[], [], [], []⟩, ⟨[], [], [], [0, 1, 2, 3, 4, 5]⟩, ⟨[], [], [], [0, 1, 2, 3, 4, 5, 6]⟩, ⟨[], [], [], [0, 1, 2, 3, 4, 5, 6, 7]⟩, ⟨[], [], [], [0, 1, 2, 3, 4, 5, 6, 7]⟩, ⟨[], [], [], [0, 1, 2, 3, 4, 5, 6, 7, 8]⟩, ⟨[], [], [], [0, 1, 2, 3, 4, 5, 6, 7, 8, 9, 10]⟩] (by kernel_rfl) ?_
          refine d_cons ?_
          refine a_val (v := (.int .i64 a0)) (u := []) rfl trivial rfl ?_
          refine d_next (by kernel_rfl) ?_
          refine d_cons ?_
          have hl59 : LdOk [] (eA64u8 a1) [] 64 true (eA64u8 a1) := (.nil rfl rfl rfl)
          refine a_val (v := (eA64u8 a1)) (u := []) (ld_own (i := ⟨.arr 64 5, 64, 64, (eA64u8 (vrep 64 (0 : Int)))⟩) rfl rfl rfl hl59) hl59.c rfl ?_
          refine d_next (by kernel_rfl) ?_
          refine d_cons ?_
          obtain ⟨r60, hr61, h⟩ := bind_some h
          refine a_call (args := [(eA64u8 a1)]) (u := []) (r := (eA64u8 r60)) rfl rfl (laws_toPoly_ok a1 r60 hr61) rfl ?_
          refine d_next (by kernel_rfl) ?_
          refine d_cons ?_
          have hl62 : LdOk [] (eA64u8 a2) [] 64 true (eA64u8 a2) := (.nil rfl rfl rfl)
          refine a_val (v := (eA64u8 a2)) (u := []) (ld_own (i := ⟨.arr 64 5, 64, 64, (eA64u8 (vrep 64 (0 : Int)))⟩) rfl rfl rfl hl62) hl62.c rfl ?_
          refine d_next (by kernel_rfl) ?_
          refine d_cons ?_
          obtain ⟨r63, hr64, h⟩ := bind_some h
          refine a_call (args := [(eA64u8 a2)]) (u := []) (r := (eA64u8 r63)) rfl rfl (laws_toPoly_ok a2 r63 hr64) rfl ?_
          refine d_next (by kernel_rfl) ?_
          refine d_cons ?_
          refine a_val (v := (.int .i64 a3)) (u := []) rfl trivial rfl ?_
          refine d_next (by kernel_rfl) ?_
          refine d_cons ?_
          obtain ⟨r65, hr66, h⟩ := bind_some h
          refine a_call (args := [(.int .i64 a0), (eA64u8 r60), (eA64u8 r63), (.int .i64 a3)]) (u := []) (r := (.tuple [(eSi64 r65.1), (.int .i64 r65.2)])) rfl rfl (impl_DigitsOfQuotient_ok a0 r60 r63 a3 r65 hr66) rfl ?_
          refine d_next (by kernel_rfl) ?_
          refine d_cons ?_
          refine a_val (v := (.tuple [(eSi64 r65.1), (.int .i64 r65.2)])) (u := []) rfl trivial rfl ?_
          refine d_next (by kernel_rfl) ?_
          refine d_cons ?_
          refine a_val (v := (eSi64 r65.1)) (u := []) rfl (Nat.le_of_ble_eq_true rfl) rfl ?_
          refine d_next (by kernel_rfl) ?_
          refine d_cons ?_
          refine a_val (v := (.int .i64 r65.2)) (u := []) rfl (Nat.le_of_ble_eq_true rfl) rfl ?_
          refine d_next (by kernel_rfl) ?_
          refine d_cons ?_
          refine a_val (v := (eSi64 r65.1)) (u := []) rfl trivial rfl ?_
          refine d_next (by kernel_rfl) ?_
          refine d_cons ?_
          refine a_val (v := (.int .i64 r65.2)) (u := []) rfl trivial rfl ?_
          refine d_next (by kernel_rfl) ?_
          refine d_nil ?_
          refine a_next (σ' := ⟨[(9, (eSi64 r15.1)), (10, (.int .i64 r15.2)), (11, (.osl 11)), (13, (.int .i64 r44.1)), (15, (eSi64 r65.1)), (16, (.int .i64 r65.2))], [(11, some ⟨(.row 1 (r44.2.map (AV.int .i64))), false⟩)]⟩) (by kernel_rfl) ?_
          refine a_seq ?_
          obtain ⟨y71, hy72, hk73⟩ := bind_some h
          clear h
          refine a_join (emb := fun (s : Bool) => ⟨[(11, (.osl 11)), (13, (.int .i64 r44.1)), (75, (.bool s))], [(11, some ⟨(.row 1 (r44.2.map (AV.int .i64))), false⟩)]⟩) (pre := fun s => s = y71) ?_ ?_
          · rintro x70 rfl
            have h := hk73
            refine a_st (σ' := ⟨[(11, (.osl 11)), (13, (.int .i64 r44.1)), (75, (.bool x70))], [(11, some ⟨(.row 1 (r44.2.map (AV.int .i64))), false⟩)]⟩) (by kernel_rfl) ?_
            cases hb77 : x70
            · have h := ite_f hb77 h
              refine a_cond_f rfl ?_
              refine a_skip ?_
              refine a_next (σ' := ⟨[(11, (.osl 11)), (13, (.int .i64 r44.1))], [(11, some ⟨(.row 1 (r44.2.map (AV.int .i64))), false⟩)]⟩) (by kernel_rfl) ?_
              refine a_seq ?_
              refine a_region ?_
              refine a_val (v := (.int .i64 1)) (u := []) rfl trivial rfl ?_
              refine a_nil ?_
              refine a_next (σ' := ⟨[(11, (.osl 11)), (13, (.int .i64 r44.1)), (14, (.int .i64 1))], [(11, some ⟨(.row 1 (r44.2.map (AV.int .i64))), false⟩)]⟩) (by kernel_rfl) ?_
              refine a_seq ?_
              refine a_region ?_
              refine a_val (v := (.osl 11)) (u := []) rfl trivial rfl ?_
              refine a_val (v := (.int .i64 1)) (u := []) rfl trivial rfl ?_
              obtain ⟨r78, hr79, h⟩ := bind_some h
              refine a_callB (args := [(eSi64 r44.2), (.int .i64 1)]) (u := [(11, some ⟨(.row 1 (r44.2.map (AV.int .i64))), true⟩)]) (r := (.int .i64 r78)) rfl rfl (laws_heldInt64S_ok r44.2 1 r78 hr79) rfl trivial ?_
              refine a_val (v := (.int .i64 r78)) (u := []) rfl trivial rfl ?_
              refine a_nil ?_
              refine a_next (σ' := ⟨[(13, (.int .i64 r44.1)), (14, (.int .i64 r78))], []⟩) (by kernel_rfl) ?_
              refine a_seq ?_
              refine a_seq ?_
              refine a_region ?_
              refine a_val (v := (.int .i64 r78)) (u := []) rfl trivial rfl ?_
              refine a_val (v := (.bool ((decide (r78 < 0))))) (u := []) rfl trivial rfl ?_
              refine a_nil ?_
              refine a_next (σ' := ⟨[(13, (.int .i64 r44.1)), (14, (.int .i64 r78)), (80, (.bool ((decide (r78 < 0)))))], []⟩) (by kernel_rfl) ?_
              cases hb80 : (decide (r78 < 0))
              · have h := ite_f hb80 h
                refine a_cond_f rfl ?_
                refine a_skip ?_
                refine a_next (σ' := ⟨[(13, (.int .i64 r44.1)), (14, (.int .i64 r78))], []⟩) (by kernel_rfl) ?_
                refine a_seq ?_
                refine a_seq ?_
                refine a_region ?_
                refine a_val (v := (.int .i64 r78)) (u := []) rfl trivial rfl ?_
                refine a_val (v := (.int .i64 r44.1)) (u := []) rfl trivial rfl ?_
                refine a_val (v := (.bool (r78 != r44.1))) (u := []) rfl trivial rfl ?_
                refine a_nil ?_
                refine a_next (σ' := ⟨[(83, (.bool (r78 != r44.1)))], []⟩) (by kernel_rfl) ?_
                cases hb81 : (r78 != r44.1)
                · have h := ite_f hb81 h
                  refine a_cond_f rfl ?_
                  refine a_skip ?_
                  refine a_next (σ' := ⟨[], []⟩) (by kernel_rfl) ?_
                  refine a_seq ?_
                  refine a_region ?_
                  refine a_val (v := (.bool true)) (u := []) rfl trivial rfl ?_
                  refine a_nil ?_
                  refine a_next rfl ?_
                  refine a_ret ?_
                  refine ⟨.inr rfl, ?_⟩
                  rw [Try.results9]
                  cases h
                  exact ⟨_, _, _, _, _, rfl, trivial, .inl ⟨rfl, .inl rfl⟩, rfl, rfl⟩
                · have h := ite_t hb81 h
                  refine a_cond_t rfl ?_
                  refine a_seq ?_
                  refine a_region ?_
                  refine a_val (v := (.bool false)) (u := []) rfl trivial rfl ?_
                  refine a_nil ?_
                  refine a_next rfl ?_
                  refine a_ret ?_
                  refine t_ret ?_
                  refine ⟨.inr rfl, ?_⟩
                  rw [Try.results9]
                  cases h
                  exact ⟨_, _, _, _, _, rfl, trivial, .inl ⟨rfl, .inl rfl⟩, rfl, rfl⟩
              · have h := ite_t hb80 h
                refine a_cond_t rfl ?_
                refine a_seq ?_
                refine a_region ?_
                refine a_val (v := (.bool false)) (u := []) rfl trivial rfl ?_
                refine a_nil ?_
                refine a_next rfl ?_
                refine a_ret ?_
                refine t_ret ?_
                refine ⟨.inr rfl, ?_⟩
                rw [Try.results9]
                cases h
                exact ⟨_, _, _, _, _, rfl, trivial, .inl ⟨rfl, .inl rfl⟩, rfl, rfl⟩
            · have h := ite_t hb77 h
              refine a_cond_t rfl ?_
              refine a_seq ?_
              refine a_region ?_
              refine a_val (v := (.bool false)) (u := []) rfl trivial rfl ?_
              refine a_nil ?_
              refine a_next rfl ?_
              refine a_ret ?_
              refine t_ret ?_
              refine ⟨.inr rfl, ?_⟩
              rw [Try.results9]
              cases h
              exact ⟨_, _, _, _, _, rfl, trivial, .inl ⟨rfl, .inl rfl⟩, rfl, rfl⟩
          · have h := hy72
            refine a_region ?_
            refine a_val (v := (eSi64 r65.1)) (u := []) rfl trivial rfl ?_
            refine a_val (v := (eSi64 r15.1)) (u := []) rfl trivial rfl ?_
            obtain ⟨r74, hr75, h⟩ := bind_some h
            refine a_call (args := [(eSi64 r65.1), (eSi64 r15.1)]) (u := []) (r := (.bool r74)) rfl rfl (laws_eqInt64S_ok r65.1 r15.1 r74 hr75) rfl ?_
            refine a_val (v := (.bool (!r74))) (u := []) rfl trivial rfl ?_
            refine a_val (v := (.bool (!r74))) (u := []) rfl trivial rfl ?_
            cases hb76 : (!r74)
            · have h := ite_f hb76 h
              refine a_gval rfl (v := (.int .i64 r65.2)) (u := []) rfl trivial rfl ?_
              refine a_gval rfl (v := (.int .i64 r15.2)) (u := []) rfl trivial rfl ?_
              refine a_gval rfl (v := (.bool (r65.2 != r15.2))) (u := []) rfl trivial rfl ?_
              refine a_val (v := (.bool (r65.2 != r15.2))) (u := []) rfl trivial rfl ?_
              refine a_nil ?_
              exact j_leaf (r65.2 != r15.2) (Option.some.inj h) (by kernel_rfl)
            · have h := ite_t hb76 h
              refine a_gskip rfl ?_
              refine a_gskip rfl ?_
              refine a_gskip rfl ?_
              refine a_val (v := (.bool true)) (u := []) rfl trivial rfl ?_
              refine a_nil ?_
              exact j_leaf true (Option.some.inj h) (by kernel_rfl)
        · have h := ite_t hb50 h
          refine a_cond_t rfl ?_
          refine a_seq ?_
          refine a_region ?_
          refine a_val (v := (.bool false)) (u := []) rfl trivial rfl ?_
          refine a_nil ?_
          refine a_next rfl ?_
          refine a_ret ?_
          refine t_ret ?_
          refine ⟨.inr rfl, ?_⟩
          rw [Try.results9]
          cases h
          exact ⟨_, _, _, _, _, rfl, trivial, .inl ⟨rfl, .inl rfl⟩, rfl, rfl⟩
      · have h := ite_t hb49 h
        refine a_cond_t rfl ?_
        refine a_seq ?_
        refine a_region ?_
        refine a_val (v := (.bool false)) (u := []) rfl trivial rfl ?_
        refine a_nil ?_
        refine a_next rfl ?_
        refine a_ret ?_
        refine t_ret ?_
        refine ⟨.inr rfl, ?_⟩
        rw [Try.results9]
        cases h
        exact ⟨_, _, _, _, _, rfl, trivial, .inl ⟨rfl, .inl rfl⟩, rfl, rfl⟩
    · have h := ite_t hb43 h
      refine a_cond_t rfl ?_
      refine a_seq ?_
      refine a_region ?_
      refine a_val (v := (.bool false)) (u := []) rfl trivial rfl ?_
      refine a_nil ?_
      refine a_next rfl ?_
      refine a_ret ?_
      refine t_ret ?_
      refine ⟨.inr rfl, ?_⟩
      rw [Try.results9]
      cases h
      exact ⟨_, _, _, _, _, rfl, trivial, .inl ⟨rfl, .inl rfl⟩, rfl, rfl⟩
  · have h := hy38
    refine a_region ?_
    refine a_val (v := (.osl 11)) (u := []) rfl trivial rfl ?_
    refine a_val (v := (eSi64 r15.1)) (u := []) rfl trivial rfl ?_
    obtain ⟨r40, hr41, h⟩ := bind_some h
    refine a_callB (args := [(eSi64 r31.1), (eSi64 r15.1)]) (u := [(11, some ⟨(.row 1 (r31.1.map (AV.int .i64))), true⟩)]) (r := (.bool r40)) rfl rfl (laws_eqInt64S_ok r31.1 r15.1 r40 hr41) rfl trivial ?_
    refine a_val (v := (.bool (!r40))) (u := []) rfl trivial rfl ?_
    refine a_val (v := (.bool (!r40))) (u := []) rfl trivial rfl ?_
    cases hb42 : (!r40)
    · have h := ite_f hb42 h
      refine a_gval rfl (v := (.int .i64 r31.2)) (u := []) rfl trivial rfl ?_
      refine a_gval rfl (v := (.int .i64 r15.2)) (u := []) rfl trivial rfl ?_
      refine a_gval rfl (v := (.bool (r31.2 != r15.2))) (u := []) rfl trivial rfl ?_
      refine a_val (v := (.bool (r31.2 != r15.2))) (u := []) rfl trivial rfl ?_
      refine a_nil ?_
      exact j_leaf (r31.2 != r15.2) (Option.some.inj h) (by kernel_rfl)
    · have h := ite_t hb42 h
      refine a_gskip rfl ?_
      refine a_gskip rfl ?_
      refine a_gskip rfl ?_
      refine a_val (v := (.bool true)) (u := []) rfl trivial rfl ?_
      refine a_nil ?_
      exact j_leaf true (Option.some.inj h) (by kernel_rfl)
def impl_prime_partials_c : ACode := (.seq (.region 0 [⟨some 6, .asg 1 (.const (.slice none 0 0)) 72, none, []⟩] false) (.seq (.region 1 [⟨some 7, .asg 2 (.const (.slice none 0 0)) 72, none, []⟩] false) (.seq (.block 0 (.loop (.seq (.seq (.region 2 [⟨some 10, .mov (.tmp 2), none, []⟩, ⟨some 11, .blt 0 .len [(.tmp 10)] [64], none, []⟩, ⟨some 12, .bin .gtr 3 (.tmp 11) (.const (.int .i64 0)), none, []⟩] false) (.cond (.tmp 12) .skip (.exit 0))) (.block 1 (.seq (.region 3 [⟨some 14, .mov (.tmp 0), none, []⟩, ⟨some 15, .mov (.tmp 1), none, []⟩, ⟨some 16, .mov (.tmp 2), none, []⟩, ⟨some 17, .call 0 (.func 91) [(.tmp 14), (.tmp 15), (.tmp 16)], none, []⟩, ⟨some 13, .mov (.tmp 17), none, []⟩, ⟨some 18, .extract (.tmp 13) 0, none, []⟩, ⟨some 19, .extract (.tmp 13) 1, none, []⟩, ⟨some 8, .asg 1 (.tmp 18) 64, none, []⟩, ⟨some 9, .asg 1 (.tmp 19) 64, none, []⟩] false) (.seq (.region 4 [⟨some 20, .mov (.tmp 7), none, []⟩, ⟨some 21, .mov (.tmp 8), none, []⟩, ⟨some 22, .bslice 0 72 1 [(0, (.tmp 21))], none, []⟩, ⟨some 23, .blt 0 .append [(.tmp 20), (.tmp 22)] [72, 72], none, []⟩, ⟨some 7, .asg 2 (.tmp 23) 72, none, []⟩] false) (.region 5 [⟨some 24, .mov (.tmp 2), none, []⟩, ⟨some 25, .mov (.tmp 9), none, []⟩, ⟨some 1, .asg 1 (.tmp 24) 64, none, []⟩, ⟨some 2, .asg 1 (.tmp 25) 64, none, []⟩] false))))))) (.seq (.region 6 [⟨some 26, .mov (.tmp 7), none, []⟩, ⟨some 6, .asg 1 (.tmp 26) 72, none, []⟩] false) .ret))))
def impl_prime_partials_L : Live := [(0, [0, 1, 2]), (1, [0, 1, 2]), (2, [0, 1, 2, 7]), (3, [0, 1, 2, 7]), (4, [0, 2, 7, 8, 9]), (5, [0, 2, 7, 9]), (6, [7]), (100012, [0, 1, 2, 7, 12])]
theorem impl_prime_partials_body : Try.f71.body = some (Try.f71.body.getD .skip) := by kernel_rfl
theorem impl_prime_partials_strip : strip [(1, 1), (2, 1), (6, 1), (7, 2), (8, 1), (9, 1)] (Try.f71.body.getD .skip) = impl_prime_partials_c := by kernel_rfl
noncomputable def impl_prime_partials_l1 (a0 : Int) (x28 : (List Int)) (x29 : (List Int)) (x30 : (List (List Int))) : Option (((List Int) × (List Int) × (List (List Int))) ⊕ (List (List Int))) :=
  (if (decide ((x29.length : Int) > 0)) then (Option.bind (impl_prime_divide a0 x28 x29) fun r39 => (ifp ((x30.length + ([r39.1] : List (List Int)).length) * 24 ≤ 140737488355328) ((some (.inl ((x29, r39.2, (x30 ++ ([r39.1]))))))))) else (some (.inr x30)))
noncomputable def impl_prime_partials (a0 : Int) (a1 : (List Int)) (a2 : (List Int)) : Option (List (List Int)) :=
  (Option.bind (α := (List (List Int))) ((loopM (fun s : ((List Int) × (List Int) × (List (List Int))) => impl_prime_partials_l1 a0 s.1 s.2.1 s.2.2) (a1, a2, []))) fun x20 => (some x20))
set_option maxHeartbeats 16000000 in
theorem impl_prime_partials_ok (a0 : Int) (a1 : (List Int)) (a2 : (List Int)) (r : (List (List Int))) (h : impl_prime_partials a0 a1 a2 = some r) : Den Try.prog 71 [(.int .i64 a0), (eSi64 a1), (eSi64 a2)] { r := (eSSi64 r) } := by
  refine den_of (rs := [(eSSi64 r)]) (ac := impl_prime_partials_c) (L := impl_prime_partials_L) (n := 27) (m := [(1, 1), (2, 1), (6, 1), (7, 2), (8, 1), (9, 1)]) good Try.func71 impl_prime_partials_body (by kernel_rfl) Try.ntmps71 rfl rfl impl_prime_partials_strip rfl rfl ?_
  refine a_st (σ' := ⟨[(0, (.int .i64 a0)), (1, (eSi64 a1)), (2, (eSi64 a2))], []⟩) (by kernel_rfl) ?_
  unfold impl_prime_partials_c
  refine a_seq ?_
  refine a_region ?_
  refine a_val (v := (eSSi64 ([]))) (u := []) rfl trivial rfl ?_
  refine a_nil ?_
  refine a_next (σ' := ⟨[(0, (.int .i64 a0)), (1, (eSi64 a1)), (2, (eSi64 a2))], []⟩) (by kernel_rfl) ?_
  refine a_seq ?_
  refine a_region ?_
  refine a_val (v := (.osl 1700)) (u := [(1700, some ⟨(.row 1 (([]).map eSi64)), false⟩)]) rfl trivial rfl ?_
  refine a_nil ?_
  refine a_next (σ' := ⟨[(0, (.int .i64 a0)), (1, (eSi64 a1)), (2, (eSi64 a2)), (7, (.osl 7))], [(7, some ⟨(.row 1 (([]).map eSi64)), false⟩)]⟩) (by kernel_rfl) ?_
  obtain ⟨y21, hy22, hk23⟩ := bind_some h
  clear h
  refine a_join (emb := fun (s : (List (List Int))) => ⟨[(7, (.osl 7))], [(7, some ⟨(.row 1 (s.map eSi64)), false⟩)]⟩) (pre := fun s => s = y21) ?_ ?_
  · rintro x20 rfl
    have h := hk23
    refine a_st (σ' := ⟨[(7, (.osl 7))], [(7, some ⟨(.row 1 (x20.map eSi64)), false⟩)]⟩) (by kernel_rfl) ?_
    refine a_seq ?_
    refine a_region ?_
    refine a_val (v := (.osl 7)) (u := []) rfl trivial rfl ?_
    refine a_val (v := (eSSi64 x20)) (u := [(7, some ⟨(.row 1 (x20.map eSi64)), true⟩)]) rfl trivial rfl ?_
    refine a_nil ?_
    refine a_next rfl ?_
    refine a_ret ?_
    refine ⟨.inr rfl, ?_⟩
    rw [Try.results71]
    cases h
    exact ⟨_, _, _, _, _, rfl, trivial, .inl ⟨rfl, .inl rfl⟩, rfl, rfl⟩
  · have h := hy22
    refine a_block ?_
    refine a_loop (emb := fun (s : ((List Int) × (List Int) × (List (List Int)))) => ⟨[(0, (.int .i64 a0)), (1, (eSi64 s.1)), (2, (eSi64 s.2.1)), (7, (.osl 7))], [(7, some ⟨(.row 1 (s.2.2.map eSi64)), false⟩)]⟩) (body := (fun s : ((List Int) × (List Int) × (List (List Int))) => impl_prime_partials_l1 a0 s.1 s.2.1 s.2.2)) (G := fun q => some q = some y21) h rfl ?_ (by kernel_rfl)
    rintro X35 ⟨x28, x29, x30⟩ x36 h hX37
    have h : impl_prime_partials_l1 a0 x28 x29 x30 = some x36 := h
    refine a_st (σ' := ⟨[(0, (.int .i64 a0)), (1, (eSi64 x28)), (2, (eSi64 x29)), (7, (.osl 7))], [(7, some ⟨(.row 1 (x30.map eSi64)), false⟩)]⟩) (by kernel_rfl) ?_
    refine a_seq ?_
    refine a_seq ?_
    refine a_region ?_
    refine a_val (v := (eSi64 x29)) (u := []) rfl trivial rfl ?_
    refine a_val (v := (.int .i64 (x29.length : Int))) (u := []) (len_run rfl rfl) trivial rfl ?_
    refine a_val (v := (.bool ((decide ((x29.length : Int) > 0))))) (u := []) rfl trivial rfl ?_
    refine a_nil ?_
    refine a_next (σ' := ⟨[(0, (.int .i64 a0)), (1, (eSi64 x28)), (2, (eSi64 x29)), (7, (.osl 7)), (12, (.bool ((decide ((x29.length : Int) > 0)))))], [(7, some ⟨(.row 1 (x30.map eSi64)), false⟩)]⟩) (by kernel_rfl) ?_
    cases hb38 : (decide ((x29.length : Int) > 0))
    · have h := ite_f hb38 h
      refine a_cond_f rfl ?_
      refine a_exit ?_
      refine t_exit ?_
      cases h
      have h := hX37
      refine t_exit ?_
      refine b_exit ?_
      exact j_leaf x30 (Option.some.inj h) (by kernel_rfl)
    · have h := ite_t hb38 h
      refine a_cond_t rfl ?_
      refine a_skip ?_
      refine a_next (σ' := ⟨[(0, (.int .i64 a0)), (1, (eSi64 x28)), (2, (eSi64 x29)), (7, (.osl 7))], [(7, some ⟨(.row 1 (x30.map eSi64)), false⟩)]⟩) (by kernel_rfl) ?_
      refine a_block ?_
      refine a_seq ?_
      refine a_region ?_
      refine a_val (v := (.int .i64 a0)) (u := []) rfl trivial rfl ?_
      refine a_val (v := (eSi64 x28)) (u := []) rfl trivial rfl ?_
      refine a_val (v := (eSi64 x29)) (u := []) rfl trivial rfl ?_
      obtain ⟨r39, hr40, h⟩ := bind_some h
      refine a_call (args := [(.int .i64 a0), (eSi64 x28), (eSi64 x29)]) (u := []) (r := (.tuple [(eSi64 r39.1), (eSi64 r39.2)])) rfl rfl (impl_prime_divide_ok a0 x28 x29 r39 hr40) rfl ?_
      refine a_val (v := (.tuple [(eSi64 r39.1), (eSi64 r39.2)])) (u := []) rfl trivial rfl ?_
      refine a_val (v := (eSi64 r39.1)) (u := []) rfl (Nat.le_of_ble_eq_true rfl) rfl ?_
      refine a_val (v := (eSi64 r39.2)) (u := []) rfl (Nat.le_of_ble_eq_true rfl) rfl ?_
      refine a_val (v := (eSi64 r39.1)) (u := []) rfl trivial rfl ?_
      refine a_val (v := (eSi64 r39.2)) (u := []) rfl trivial rfl ?_
      refine a_nil ?_
      refine a_next (σ' := ⟨[(0, (.int .i64 a0)), (2, (eSi64 x29)), (7, (.osl 7)), (8, (eSi64 r39.1)), (9, (eSi64 r39.2))], [(7, some ⟨(.row 1 (x30.map eSi64)), false⟩)]⟩) (by kernel_rfl) ?_
      refine a_seq ?_
      refine a_region ?_
      refine a_val (v := (.osl 7)) (u := []) rfl trivial rfl ?_
      refine a_val (v := (eSi64 r39.1)) (u := []) rfl trivial rfl ?_
      refine a_val (v := (.sl 1 true (([r39.1]).map eSi64))) (u := []) rfl ⟨(Nat.le_of_ble_eq_true rfl), (Nat.le_of_ble_eq_true rfl), (all_cons ⟨(Nat.le_of_ble_eq_true rfl), rfl⟩ all_nil)⟩ rfl ?_
      obtain ⟨hc41, h⟩ := ifp_some h
      refine a_val (v := (.osl 3300)) (u := [(3300, some ⟨(.row 1 (((x30 ++ ([r39.1]))).map eSi64)), false⟩), (7, none)]) (app_run (i := ⟨.slice 2, 1, 24, (eSi64 [])⟩) (f := eSi64) (l := x30) (l2 := [r39.1]) rfl rfl rfl rfl (fun _ => rfl) rfl rfl) (app_c (f := eSi64) (s := 1) (sz := 1) (by' := 24) (u := []) (id := 7) hc41 (.inr rfl) rfl rfl rfl) rfl ?_
      refine a_val (v := (.osl 3300)) (u := []) rfl trivial rfl ?_
      refine a_nil ?_
      refine a_next (σ' := ⟨[(0, (.int .i64 a0)), (2, (eSi64 x29)), (7, (.osl 7)), (9, (eSi64 r39.2))], [(7, some ⟨(.row 1 (((x30 ++ ([r39.1]))).map eSi64)), false⟩)]⟩) (by kernel_rfl) ?_
      refine a_region ?_
      refine a_val (v := (eSi64 x29)) (u := []) rfl trivial rfl ?_
      refine a_val (v := (eSi64 r39.2)) (u := []) rfl trivial rfl ?_
      refine a_val (v := (eSi64 x29)) (u := []) rfl trivial rfl ?_
      refine a_val (v := (eSi64 r39.2)) (u := []) rfl trivial rfl ?_
      refine a_nil ?_
      refine b_norm ?_
      cases h
      exact a_again (by kernel_rfl) hX37
end Go.Proofs.Ytgodhgbnjlflmaa
