/- Functions of the program: plain Lean functions, and that the program computes them. Printed by gen.py. -/
import Derived.Test.YtacebpbhddkelaaFnT
import Derived.Test.YtacebpbhddkelaaFn1
namespace Go.Proofs.Ytacebpbhddkelaa
open Go.Abs Go.Proofs
set_option linter.unusedSimpArgs false
set_option linter.unusedVariables false

def laws_eqPoly_c : ACode := (.seq (.region 0 [⟨some 2, .box 23 (.tmp 0), none, []⟩, ⟨some 3, .box 23 (.tmp 1), none, []⟩, ⟨some 4, .asg 0 (.const (.bool false)) 4, none, []⟩] false) (.seq (.seq (.region 1 [⟨some 5, .asg 0 (.const (.int .i64 0)) 3, none, []⟩] false) (.block 0 (.loop (.seq (.seq (.region 2 [⟨some 6, .mov (.tmp 5), none, []⟩, ⟨some 7, .bin .lss 3 (.tmp 6) (.const (.int .i64 64)), none, []⟩] false) (.cond (.tmp 7) .skip (.exit 0))) (.seq (.block 1 (.seq (.region 4 [⟨some 10, .mov (.tmp 5), none, []⟩, ⟨some 11, .indexAddr 23 (.tmp 2) (.tmp 10), none, [0]⟩, ⟨some 12, .load 5 (.tmp 11), none, [1]⟩, ⟨some 13, .mov (.tmp 5), none, []⟩, ⟨some 14, .indexAddr 23 (.tmp 3) (.tmp 13), none, [3]⟩, ⟨some 15, .load 5 (.tmp 14), none, [4]⟩, ⟨some 16, .bin .neq 5 (.tmp 12) (.tmp 15), none, [2, 5]⟩] true) (.cond (.tmp 16) (.seq (.region 5 [⟨some 4, .asg 0 (.const (.bool false)) 4, none, []⟩] false) .ret) .skip))) (.region 3 [⟨some 8, .mov (.tmp 5), none, []⟩, ⟨some 9, .bin .add 3 (.tmp 8) (.const (.int .i64 1)), none, []⟩, ⟨some 5, .asg 0 (.tmp 9) 3, none, []⟩] false)))))) (.seq (.region 6 [⟨some 4, .asg 0 (.const (.bool true)) 4, none, []⟩] false) .ret)))
def laws_eqPoly_L : Live := [(0, [0, 1]), (1, [2, 3]), (2, [2, 3, 5]), (3, [2, 3, 5]), (4, [2, 3, 5]), (5, []), (6, []), (100007, [2, 3, 5, 7]), (100016, [2, 3, 5, 16])]
theorem laws_eqPoly_body : Try.f22.body = some (Try.f22.body.getD .skip) := by kernel_rfl
theorem laws_eqPoly_strip : strip [] (Try.f22.body.getD .skip) = laws_eqPoly_c := by kernel_rfl
noncomputable def laws_eqPoly_l1 (a0 : (Vec Int 64)) (a1 : (Vec Int 64)) (x49 : Int) : Option (Int ⊕ (Unit ⊕ Bool)) :=
  (if (decide (x49 < 64)) then (ifp (0 ≤ x49 ∧ x49 < ((64 : Nat) : Int)) ((ifp (0 ≤ x49 ∧ x49 < ((64 : Nat) : Int)) ((if ((rd a0.1 x49.toNat) != (rd a1.1 x49.toNat)) then (some (.inr (.inr false))) else (some (.inl (IntKind.i64.wrap (x49 + 1))))))))) else (some (.inr (((.inl ()))))))
noncomputable def laws_eqPoly (a0 : (Vec Int 64)) (a1 : (Vec Int 64)) : Option Bool :=
  (Option.bind (α := (Unit ⊕ Bool)) ((loopM (fun s : Int => laws_eqPoly_l1 a0 a1 s) 0)) fun z => match z with | .inl _ => (some true) | .inr r74 => (some r74))
set_option maxHeartbeats 16000000 in
theorem laws_eqPoly_ok (a0 : (Vec Int 64)) (a1 : (Vec Int 64)) (r : Bool) (h : laws_eqPoly a0 a1 = some r) : Den Try.prog 22 [(eA64u8 a0), (eA64u8 a1)] { r := (.bool r) } := by
  refine den_of (rs := [(.bool r)]) (ac := laws_eqPoly_c) (L := laws_eqPoly_L) (n := 17) (m := []) good Try.func22 laws_eqPoly_body (by kernel_rfl) Try.ntmps22 rfl rfl laws_eqPoly_strip rfl rfl ?_
  refine a_st (σ' := ⟨[(0, (eA64u8 a0)), (1, (eA64u8 a1))], []⟩) rfl ?_
  unfold laws_eqPoly_c
  refine a_seq ?_
  refine a_region ?_
  refine a_val (v := (.own 1200 [] [])) (u := [(1200, some ⟨(eA64u8 a0), false⟩)]) rfl trivial rfl ?_
  refine a_val (v := (.own 1300 [] [])) (u := [(1300, some ⟨(eA64u8 a1), false⟩)]) rfl trivial rfl ?_
  refine a_val (v := (.bool false)) (u := []) rfl trivial rfl ?_
  refine a_nil ?_
  refine a_next (σ' := ⟨[(2, (.own 2 [] [])), (3, (.own 3 [] []))], [(2, some ⟨(eA64u8 a0), false⟩), (3, some ⟨(eA64u8 a1), false⟩)]⟩) rfl ?_
  obtain ⟨y36, hy37, hk38⟩ := bind_some h
  clear h
  refine a_join (emb := fun (s : Unit) => ⟨[], []⟩) (pre := fun s => (.inl s) = y36) ?_ ?_
  · rintro _ rfl
    have h := hk38
    refine a_st (σ' := ⟨[], []⟩) rfl ?_
    refine a_seq ?_
    refine a_region ?_
    refine a_val (v := (.bool true)) (u := []) rfl trivial rfl ?_
    refine a_nil ?_
    refine a_next rfl ?_
    refine a_ret ?_
    refine ⟨.inr rfl, ?_⟩
    rw [Try.results22]
    cases h
    exact ⟨_, _, _, _, _, rfl, trivial, .inl ⟨rfl, .inl rfl⟩, rfl, rfl⟩
  · have h := hy37
    refine a_seq ?_
    refine a_region ?_
    refine a_val (v := (.int .i64 0)) (u := []) rfl trivial rfl ?_
    refine a_nil ?_
    refine a_next (σ' := ⟨[(2, (.own 2 [] [])), (3, (.own 3 [] [])), (5, (.int .i64 0))], [(2, some ⟨(eA64u8 a0), false⟩), (3, some ⟨(eA64u8 a1), false⟩)]⟩) rfl ?_
    refine a_block ?_
    refine a_loop (emb := fun (s : Int) => ⟨[(2, (.own 2 [] [])), (3, (.own 3 [] [])), (5, (.int .i64 s))], [(2, some ⟨(eA64u8 a0), false⟩), (3, some ⟨(eA64u8 a1), false⟩)]⟩) (body := (fun s : Int => laws_eqPoly_l1 a0 a1 s)) (G := fun q => some q = some y36) h rfl ?_ rfl
    rintro X60 x49 x61 h hX62
    have h : laws_eqPoly_l1 a0 a1 x49 = some x61 := h
    refine a_st (σ' := ⟨[(2, (.own 2 [] [])), (3, (.own 3 [] [])), (5, (.int .i64 x49))], [(2, some ⟨(eA64u8 a0), false⟩), (3, some ⟨(eA64u8 a1), false⟩)]⟩) rfl ?_
    refine a_seq ?_
    refine a_seq ?_
    refine a_region ?_
    refine a_val (v := (.int .i64 x49)) (u := []) rfl trivial rfl ?_
    refine a_val (v := (.bool ((decide (x49 < 64))))) (u := []) rfl trivial rfl ?_
    refine a_nil ?_
    refine a_next (σ' := ⟨[(2, (.own 2 [] [])), (3, (.own 3 [] [])), (5, (.int .i64 x49)), (7, (.bool ((decide (x49 < 64)))))], [(2, some ⟨(eA64u8 a0), false⟩), (3, some ⟨(eA64u8 a1), false⟩)]⟩) rfl ?_
    cases hb63 : (decide (x49 < 64))
    · have h := ite_f hb63 h
      refine a_cond_f rfl ?_
      refine a_exit ?_
      refine t_exit ?_
      cases h
      have h := hX62
      refine t_exit ?_
      refine b_exit ?_
      exact j_leaf () (Option.some.inj h) rfl
    · have h := ite_t hb63 h
      refine a_cond_t rfl ?_
      refine a_skip ?_
      refine a_next (σ' := ⟨[(2, (.own 2 [] [])), (3, (.own 3 [] [])), (5, (.int .i64 x49))], [(2, some ⟨(eA64u8 a0), false⟩), (3, some ⟨(eA64u8 a1), false⟩)]⟩) rfl ?_
      refine a_seq ?_
      refine a_block ?_
      refine a_seq ?_
      refine a_draw [⟨[], [], [], []⟩, ⟨[2], [], [2], [0]⟩, ⟨[2], [], [], [0, 1]⟩, ⟨[], [], [], []⟩, ⟨[3], [], [3], [3]⟩, ⟨[3], [], [], [3, 4]⟩, ⟨[], [], [], [0, 1, 2, 3, 4, 5]⟩] (by kernel_rfl) ?_
      refine d_cons ?_
      refine a_val (v := (.int .i64 x49)) (u := []) rfl trivial rfl ?_
      refine d_next rfl ?_
      refine d_cons ?_
      obtain ⟨hc68, h⟩ := ifp_some h
      refine a_val (v := (.own 2 [x49.toNat] [x49.toNat * 1])) (u := []) rfl hc68 rfl ?_
      refine d_next rfl ?_
      refine d_cons ?_
      have hl69 : LdOk [x49.toNat] (eA64u8 a0) [x49.toNat * 1] 1 false (.int .u8 (rd a0.1 x49.toNat)) := (.arr (vlt a0 hc68) rfl (.nil rfl rfl rfl))
      refine a_val (v := (.int .u8 (rd a0.1 x49.toNat))) (u := []) (ld_own (i := ⟨.int .u8, 1, 1, (.int .u8 0)⟩) rfl rfl rfl hl69) hl69.c rfl ?_
      refine d_next rfl ?_
      refine d_cons ?_
      refine a_val (v := (.int .i64 x49)) (u := []) rfl trivial rfl ?_
      refine d_next rfl ?_
      refine d_cons ?_
      obtain ⟨hc70, h⟩ := ifp_some h
      refine a_val (v := (.own 3 [x49.toNat] [x49.toNat * 1])) (u := []) rfl hc70 rfl ?_
      refine d_next rfl ?_
      refine d_cons ?_
      have hl71 : LdOk [x49.toNat] (eA64u8 a1) [x49.toNat * 1] 1 false (.int .u8 (rd a1.1 x49.toNat)) := (.arr (vlt a1 hc70) rfl (.nil rfl rfl rfl))
      refine a_val (v := (.int .u8 (rd a1.1 x49.toNat))) (u := []) (ld_own (i := ⟨.int .u8, 1, 1, (.int .u8 0)⟩) rfl rfl rfl hl71) hl71.c rfl ?_
      refine d_next rfl ?_
      refine d_cons ?_
      refine a_val (v := (.bool (((rd a0.1 x49.toNat) != (rd a1.1 x49.toNat))))) (u := []) rfl trivial rfl ?_
      refine d_next rfl ?_
      refine d_nil ?_
      refine a_next (σ' := ⟨[(2, (.own 2 [] [])), (3, (.own 3 [] [])), (5, (.int .i64 x49)), (16, (.bool (((rd a0.1 x49.toNat) != (rd a1.1 x49.toNat)))))], [(2, some ⟨(eA64u8 a0), false⟩), (3, some ⟨(eA64u8 a1), false⟩)]⟩) rfl ?_
      cases hb72 : ((rd a0.1 x49.toNat) != (rd a1.1 x49.toNat))
      · have h := ite_f hb72 h
        refine a_cond_f rfl ?_
        refine a_skip ?_
        refine b_norm ?_
        refine a_next (σ' := ⟨[(2, (.own 2 [] [])), (3, (.own 3 [] [])), (5, (.int .i64 x49))], [(2, some ⟨(eA64u8 a0), false⟩), (3, some ⟨(eA64u8 a1), false⟩)]⟩) rfl ?_
        refine a_region ?_
        refine a_val (v := (.int .i64 x49)) (u := []) rfl trivial rfl ?_
        refine a_val (v := (.int .i64 (IntKind.i64.wrap (x49 + 1)))) (u := []) rfl trivial rfl ?_
        refine a_val (v := (.int .i64 (IntKind.i64.wrap (x49 + 1)))) (u := []) rfl trivial rfl ?_
        refine a_nil ?_
        cases h
        exact a_again rfl hX62
      · have h := ite_t hb72 h
        refine a_cond_t rfl ?_
        refine a_seq ?_
        refine a_region ?_
        refine a_val (v := (.bool false)) (u := []) rfl trivial rfl ?_
        refine a_nil ?_
        refine a_next rfl ?_
        refine a_ret ?_
        refine b_ret ?_
        refine t_ret ?_
        cases h
        have h := hX62
        refine t_ret ?_
        refine b_ret ?_
        refine t_ret ?_
        cases h
        have h := hk38
        refine ⟨.inr rfl, ?_⟩
        rw [Try.results22]
        cases h
        exact ⟨_, _, _, _, _, rfl, trivial, .inl ⟨rfl, .inl rfl⟩, rfl, rfl⟩
def laws_eqPolyS_c : ACode := (.seq (.region 0 [⟨some 4, .asg 0 (.const (.bool false)) 4, none, []⟩] false) (.seq (.seq (.region 1 [⟨some 6, .mov (.tmp 0), none, []⟩, ⟨some 7, .blt 0 .len [(.tmp 6)] [40], none, []⟩, ⟨some 8, .mov (.tmp 1), none, []⟩, ⟨some 9, .blt 0 .len [(.tmp 8)] [40], none, []⟩, ⟨some 10, .bin .neq 3 (.tmp 7) (.tmp 9), none, []⟩] false) (.cond (.tmp 10) (.seq (.region 2 [⟨some 4, .asg 0 (.const (.bool false)) 4, none, []⟩] false) .ret) .skip)) (.seq (.seq (.region 3 [⟨some 5, .asg 0 (.const (.int .i64 0)) 3, none, []⟩] false) (.block 0 (.loop (.seq (.seq (.region 4 [⟨some 11, .mov (.tmp 5), none, []⟩, ⟨some 12, .mov (.tmp 0), none, []⟩, ⟨some 13, .blt 0 .len [(.tmp 12)] [40], none, []⟩, ⟨some 14, .bin .lss 3 (.tmp 11) (.tmp 13), none, []⟩] false) (.cond (.tmp 14) .skip (.exit 0))) (.seq (.block 1 (.seq (.region 6 [⟨some 17, .mov (.tmp 0), none, []⟩, ⟨some 18, .mov (.tmp 5), none, []⟩, ⟨some 19, .indexAddr 40 (.tmp 17) (.tmp 18), none, [0, 1]⟩, ⟨some 20, .load 23 (.tmp 19), none, [2]⟩, ⟨some 21, .mov (.tmp 1), none, []⟩, ⟨some 22, .mov (.tmp 5), none, []⟩, ⟨some 23, .indexAddr 40 (.tmp 21) (.tmp 22), none, [4, 5]⟩, ⟨some 24, .load 23 (.tmp 23), none, [6]⟩, ⟨some 25, .call 0 (.func 22) [(.tmp 20), (.tmp 24)], none, [3, 7]⟩, ⟨some 26, .un .not (.tmp 25), none, [8]⟩] true) (.cond (.tmp 26) (.seq (.region 7 [⟨some 4, .asg 0 (.const (.bool false)) 4, none, []⟩] false) .ret) .skip))) (.region 5 [⟨some 15, .mov (.tmp 5), none, []⟩, ⟨some 16, .bin .add 3 (.tmp 15) (.const (.int .i64 1)), none, []⟩, ⟨some 5, .asg 0 (.tmp 16) 3, none, []⟩] false)))))) (.seq (.region 8 [⟨some 4, .asg 0 (.const (.bool true)) 4, none, []⟩] false) .ret))))
def laws_eqPolyS_L : Live := [(0, [0, 1]), (1, [0, 1]), (2, []), (3, [0, 1]), (4, [0, 1, 5]), (5, [0, 1, 5]), (6, [0, 1, 5]), (7, []), (8, []), (100010, [0, 1, 10]), (100014, [0, 1, 5, 14]), (100026, [0, 1, 5, 26])]
theorem laws_eqPolyS_body : Try.f28.body = some (Try.f28.body.getD .skip) := by kernel_rfl
theorem laws_eqPolyS_strip : strip [] (Try.f28.body.getD .skip) = laws_eqPolyS_c := by kernel_rfl
noncomputable def laws_eqPolyS_l1 (a0 : (List (Vec Int 64))) (a1 : (List (Vec Int 64))) (x66 : Int) : Option (Int ⊕ (Unit ⊕ Bool)) :=
  (if (decide (x66 < (a0.length : Int))) then (ifp (0 ≤ x66 ∧ x66 < ((a0.length : Nat) : Int)) ((ifp (0 ≤ x66 ∧ x66 < ((a1.length : Nat) : Int)) ((Option.bind (laws_eqPoly (rd a0 x66.toNat) (rd a1 x66.toNat)) fun r95 => (if (!r95) then (some (.inr (.inr false))) else (some (.inl (IntKind.i64.wrap (x66 + 1)))))))))) else (some (.inr (((.inl ()))))))
noncomputable def laws_eqPolyS (a0 : (List (Vec Int 64))) (a1 : (List (Vec Int 64))) : Option Bool :=
  (if ((a0.length : Int) != (a1.length : Int)) then (some false) else (Option.bind (α := (Unit ⊕ Bool)) ((loopM (fun s : Int => laws_eqPolyS_l1 a0 a1 s) 0)) fun z => match z with | .inl _ => (some true) | .inr r99 => (some r99)))
set_option maxHeartbeats 16000000 in
theorem laws_eqPolyS_ok (a0 : (List (Vec Int 64))) (a1 : (List (Vec Int 64))) (r : Bool) (h : laws_eqPolyS a0 a1 = some r) : Den Try.prog 28 [(eSA64u8 a0), (eSA64u8 a1)] { r := (.bool r) } := by
  refine den_of (rs := [(.bool r)]) (ac := laws_eqPolyS_c) (L := laws_eqPolyS_L) (n := 27) (m := []) good Try.func28 laws_eqPolyS_body (by kernel_rfl) Try.ntmps28 rfl rfl laws_eqPolyS_strip rfl rfl ?_
  refine a_st (σ' := ⟨[(0, (eSA64u8 a0)), (1, (eSA64u8 a1))], []⟩) rfl ?_
  unfold laws_eqPolyS_c
  refine a_seq ?_
  refine a_region ?_
  refine a_val (v := (.bool false)) (u := []) rfl trivial rfl ?_
  refine a_nil ?_
  refine a_next (σ' := ⟨[(0, (eSA64u8 a0)), (1, (eSA64u8 a1))], []⟩) rfl ?_
  refine a_seq ?_
  refine a_seq ?_
  refine a_region ?_
  refine a_val (v := (eSA64u8 a0)) (u := []) rfl trivial rfl ?_
  refine a_val (v := (.int .i64 (a0.length : Int))) (u := []) (len_run rfl rfl) trivial rfl ?_
  refine a_val (v := (eSA64u8 a1)) (u := []) rfl trivial rfl ?_
  refine a_val (v := (.int .i64 (a1.length : Int))) (u := []) (len_run rfl rfl) trivial rfl ?_
  refine a_val (v := (.bool (((a0.length : Int) != (a1.length : Int))))) (u := []) rfl trivial rfl ?_
  refine a_nil ?_
  refine a_next (σ' := ⟨[(0, (eSA64u8 a0)), (1, (eSA64u8 a1)), (10, (.bool (((a0.length : Int) != (a1.length : Int)))))], []⟩) rfl ?_
  cases hb1 : ((a0.length : Int) != (a1.length : Int))
  · have h := ite_f hb1 h
    refine a_cond_f rfl ?_
    refine a_skip ?_
    refine a_next (σ' := ⟨[(0, (eSA64u8 a0)), (1, (eSA64u8 a1))], []⟩) rfl ?_
    obtain ⟨y49, hy50, hk51⟩ := bind_some h
    clear h
    refine a_join (emb := fun (s : Unit) => ⟨[], []⟩) (pre := fun s => (.inl s) = y49) ?_ ?_
    · rintro _ rfl
      have h := hk51
      refine a_st (σ' := ⟨[], []⟩) rfl ?_
      refine a_seq ?_
      refine a_region ?_
      refine a_val (v := (.bool true)) (u := []) rfl trivial rfl ?_
      refine a_nil ?_
      refine a_next rfl ?_
      refine a_ret ?_
      refine ⟨.inr rfl, ?_⟩
      rw [Try.results28]
      cases h
      exact ⟨_, _, _, _, _, rfl, trivial, .inl ⟨rfl, .inl rfl⟩, rfl, rfl⟩
    · have h := hy50
      refine a_seq ?_
      refine a_region ?_
      refine a_val (v := (.int .i64 0)) (u := []) rfl trivial rfl ?_
      refine a_nil ?_
      refine a_next (σ' := ⟨[(0, (eSA64u8 a0)), (1, (eSA64u8 a1)), (5, (.int .i64 0))], []⟩) rfl ?_
      refine a_block ?_
      refine a_loop (emb := fun (s : Int) => ⟨[(0, (eSA64u8 a0)), (1, (eSA64u8 a1)), (5, (.int .i64 s))], []⟩) (body := (fun s : Int => laws_eqPolyS_l1 a0 a1 s)) (G := fun q => some q = some y49) h rfl ?_ rfl
      rintro X81 x66 x82 h hX83
      have h : laws_eqPolyS_l1 a0 a1 x66 = some x82 := h
      refine a_st (σ' := ⟨[(0, (eSA64u8 a0)), (1, (eSA64u8 a1)), (5, (.int .i64 x66))], []⟩) rfl ?_
      refine a_seq ?_
      refine a_seq ?_
      refine a_region ?_
      refine a_val (v := (.int .i64 x66)) (u := []) rfl trivial rfl ?_
      refine a_val (v := (eSA64u8 a0)) (u := []) rfl trivial rfl ?_
      refine a_val (v := (.int .i64 (a0.length : Int))) (u := []) (len_run rfl rfl) trivial rfl ?_
      refine a_val (v := (.bool ((decide (x66 < (a0.length : Int)))))) (u := []) rfl trivial rfl ?_
      refine a_nil ?_
      refine a_next (σ' := ⟨[(0, (eSA64u8 a0)), (1, (eSA64u8 a1)), (5, (.int .i64 x66)), (14, (.bool ((decide (x66 < (a0.length : Int))))))], []⟩) rfl ?_
      cases hb84 : (decide (x66 < (a0.length : Int)))
      · have h := ite_f hb84 h
        refine a_cond_f rfl ?_
        refine a_exit ?_
        refine t_exit ?_
        cases h
        have h := hX83
        refine t_exit ?_
        refine b_exit ?_
        exact j_leaf () (Option.some.inj h) rfl
      · have h := ite_t hb84 h
        refine a_cond_t rfl ?_
        refine a_skip ?_
        refine a_next (σ' := ⟨[(0, (eSA64u8 a0)), (1, (eSA64u8 a1)), (5, (.int .i64 x66))], []⟩) rfl ?_
        refine a_seq ?_
        refine a_block ?_
        refine a_seq ?_
        refine a_draw [⟨[], [], [], []⟩, ⟨[], [], [], []⟩, ⟨[], [], [], [0, 1]⟩, ⟨[], [], [], [0, 1, 2]⟩, ⟨[], [], [], []⟩, ⟨[], [], [], []⟩, ⟨[], [], [], [4, 5]⟩, ⟨[], [], [], [4, 5, 6]⟩, ⟨[], [], [], [0, 1, 2, 3, 4, 5, 6, 7]⟩, ⟨[], [], [], [0, 1, 2, 3, 4, 5, 6, 7, 8]⟩] (by kernel_rfl) ?_
        refine d_cons ?_
        refine a_val (v := (eSA64u8 a0)) (u := []) rfl trivial rfl ?_
        refine d_next rfl ?_
        refine d_cons ?_
        refine a_val (v := (.int .i64 x66)) (u := []) rfl trivial rfl ?_
        refine d_next rfl ?_
        refine d_cons ?_
        obtain ⟨hc91, h⟩ := ifp_some h
        refine a_val (v := (.ref (.row 64 (a0.map eA64u8)) [x66.toNat] [x66.toNat * 64])) (u := []) rfl (lmap hc91) rfl ?_
        refine d_next rfl ?_
        refine d_cons ?_
        have hl92 : LdOk [x66.toNat] (.row 64 (a0.map eA64u8)) [x66.toNat * 64] 64 true (eA64u8 (rd a0 x66.toNat)) := (.row (llt hc91) rfl (.nil rfl rfl rfl))
        refine a_val (v := (eA64u8 (rd a0 x66.toNat))) (u := []) (ld_ref (i := ⟨.arr 64 5, 64, 64, (eA64u8 (vrep 64 (0 : Int)))⟩) rfl rfl hl92) hl92.c rfl ?_
        refine d_next rfl ?_
        refine d_cons ?_
        refine a_val (v := (eSA64u8 a1)) (u := []) rfl trivial rfl ?_
        refine d_next rfl ?_
        refine d_cons ?_
        refine a_val (v := (.int .i64 x66)) (u := []) rfl trivial rfl ?_
        refine d_next rfl ?_
        refine d_cons ?_
        obtain ⟨hc93, h⟩ := ifp_some h
        refine a_val (v := (.ref (.row 64 (a1.map eA64u8)) [x66.toNat] [x66.toNat * 64])) (u := []) rfl (lmap hc93) rfl ?_
        refine d_next rfl ?_
        refine d_cons ?_
        have hl94 : LdOk [x66.toNat] (.row 64 (a1.map eA64u8)) [x66.toNat * 64] 64 true (eA64u8 (rd a1 x66.toNat)) := (.row (llt hc93) rfl (.nil rfl rfl rfl))
        refine a_val (v := (eA64u8 (rd a1 x66.toNat))) (u := []) (ld_ref (i := ⟨.arr 64 5, 64, 64, (eA64u8 (vrep 64 (0 : Int)))⟩) rfl rfl hl94) hl94.c rfl ?_
        refine d_next rfl ?_
        refine d_cons ?_
        obtain ⟨r95, hr96, h⟩ := bind_some h
        refine a_call (args := [(eA64u8 (rd a0 x66.toNat)), (eA64u8 (rd a1 x66.toNat))]) (u := []) (r := (.bool r95)) rfl rfl (laws_eqPoly_ok (rd a0 x66.toNat) (rd a1 x66.toNat) r95 hr96) rfl ?_
        refine d_next rfl ?_
        refine d_cons ?_
        refine a_val (v := (.bool (!r95))) (u := []) rfl trivial rfl ?_
        refine d_next rfl ?_
        refine d_nil ?_
        refine a_next (σ' := ⟨[(0, (eSA64u8 a0)), (1, (eSA64u8 a1)), (5, (.int .i64 x66)), (26, (.bool (!r95)))], []⟩) rfl ?_
        cases hb97 : (!r95)
        · have h := ite_f hb97 h
          refine a_cond_f rfl ?_
          refine a_skip ?_
          refine b_norm ?_
          refine a_next (σ' := ⟨[(0, (eSA64u8 a0)), (1, (eSA64u8 a1)), (5, (.int .i64 x66))], []⟩) rfl ?_
          refine a_region ?_
          refine a_val (v := (.int .i64 x66)) (u := []) rfl trivial rfl ?_
          refine a_val (v := (.int .i64 (IntKind.i64.wrap (x66 + 1)))) (u := []) rfl trivial rfl ?_
          refine a_val (v := (.int .i64 (IntKind.i64.wrap (x66 + 1)))) (u := []) rfl trivial rfl ?_
          refine a_nil ?_
          cases h
          exact a_again rfl hX83
        · have h := ite_t hb97 h
          refine a_cond_t rfl ?_
          refine a_seq ?_
          refine a_region ?_
          refine a_val (v := (.bool false)) (u := []) rfl trivial rfl ?_
          refine a_nil ?_
          refine a_next rfl ?_
          refine a_ret ?_
          refine b_ret ?_
          refine t_ret ?_
          cases h
          have h := hX83
          refine t_ret ?_
          refine b_ret ?_
          refine t_ret ?_
          cases h
          have h := hk51
          refine ⟨.inr rfl, ?_⟩
          rw [Try.results28]
          cases h
          exact ⟨_, _, _, _, _, rfl, trivial, .inl ⟨rfl, .inl rfl⟩, rfl, rfl⟩
  · have h := ite_t hb1 h
    refine a_cond_t rfl ?_
    refine a_seq ?_
    refine a_region ?_
    refine a_val (v := (.bool false)) (u := []) rfl trivial rfl ?_
    refine a_nil ?_
    refine a_next rfl ?_
    refine a_ret ?_
    refine t_ret ?_
    refine ⟨.inr rfl, ?_⟩
    rw [Try.results28]
    cases h
    exact ⟨_, _, _, _, _, rfl, trivial, .inl ⟨rfl, .inl rfl⟩, rfl, rfl⟩
def laws_markPolyS_of_mut_c : ACode := (.seq (.region 0 [⟨some 4, .asg 0 (.const (.int .i64 0)) 3, none, []⟩] false) (.seq (.seq (.region 1 [⟨some 5, .asg 0 (.const (.int .i64 0)) 3, none, []⟩] false) (.block 0 (.loop (.seq (.seq (.region 2 [⟨some 7, .mov (.tmp 5), none, []⟩, ⟨some 8, .mov (.tmp 0), none, []⟩, ⟨some 9, .blt 0 .len [(.tmp 8)] [40], none, []⟩, ⟨some 10, .bin .lss 3 (.tmp 7) (.tmp 9), none, []⟩] false) (.cond (.tmp 10) .skip (.exit 0))) (.seq (.block 1 (.seq (.region 4 [⟨some 6, .asg 0 (.const (.int .i64 0)) 3, none, []⟩] false) (.block 2 (.loop (.seq (.seq (.region 5 [⟨some 13, .mov (.tmp 6), none, []⟩, ⟨some 14, .bin .lss 3 (.tmp 13) (.const (.int .i64 64)), none, []⟩] false) (.cond (.tmp 14) .skip (.exit 2))) (.seq (.block 3 (.seq (.region 7 [⟨some 17, .mov (.tmp 0), none, []⟩, ⟨some 18, .mov (.tmp 5), none, []⟩, ⟨some 19, .mov (.tmp 6), none, []⟩, ⟨some 20, .mov (.tmp 1), none, []⟩, ⟨some 21, .conv 3 5 (.tmp 20), none, []⟩, ⟨some 22, .indexAddr 40 (.tmp 17) (.tmp 18), none, []⟩, ⟨some 23, .indexAddr 23 (.tmp 22) (.tmp 19), none, []⟩, ⟨none, .store 5 (.tmp 23) (.tmp 21), none, []⟩] false) (.region 8 [⟨some 24, .mov (.tmp 1), none, []⟩, ⟨some 25, .bin .add 3 (.tmp 24) (.const (.int .i64 1)), none, []⟩, ⟨some 1, .asg 0 (.tmp 25) 3, none, []⟩] false))) (.region 6 [⟨some 15, .mov (.tmp 6), none, []⟩, ⟨some 16, .bin .add 3 (.tmp 15) (.const (.int .i64 1)), none, []⟩, ⟨some 6, .asg 0 (.tmp 16) 3, none, []⟩] false))))))) (.region 3 [⟨some 11, .mov (.tmp 5), none, []⟩, ⟨some 12, .bin .add 3 (.tmp 11) (.const (.int .i64 1)), none, []⟩, ⟨some 5, .asg 0 (.tmp 12) 3, none, []⟩] false)))))) (.seq (.region 9 [⟨some 26, .mov (.tmp 1), none, []⟩, ⟨some 4, .asg 0 (.tmp 26) 3, none, []⟩] false) .ret)))
def laws_markPolyS_of_mut_L : Live := [(0, [0, 1]), (1, [0, 1]), (2, [0, 1, 5]), (3, [0, 1, 5]), (4, [0, 1, 5]), (5, [0, 1, 5, 6]), (6, [0, 1, 5, 6]), (7, [0, 1, 5, 6]), (8, [0, 1, 5, 6]), (9, [1]), (100010, [0, 1, 5, 10]), (100014, [0, 1, 5, 6, 14])]
theorem laws_markPolyS_of_mut_body : Try.f29.body = some (Try.f29.body.getD .skip) := by kernel_rfl
theorem laws_markPolyS_of_mut_strip : strip [] (Try.f29.body.getD .skip) = laws_markPolyS_of_mut_c := by kernel_rfl
noncomputable def laws_markPolyS_of_mut_l2 (x190 : Int) (x268 : Int) (x269 : Int) (x270 : (List (Vec Int 64))) : Option ((Int × Int × (List (Vec Int 64))) ⊕ (Int × (List (Vec Int 64)))) :=
  (if (decide (x269 < 64)) then (ifp (0 ≤ x190 ∧ x190 < ((x270.length : Nat) : Int)) ((ifp (0 ≤ x269 ∧ x269 < ((64 : Nat) : Int)) ((some (.inl ((IntKind.i64.wrap (x268 + 1), IntKind.i64.wrap (x269 + 1), (x270.set x190.toNat ((vset (rd x270 x190.toNat) x269.toNat (IntKind.u8.wrap x268)))))))))))) else (some (.inr (x268, x270))))
noncomputable def laws_markPolyS_of_mut_l1  (x189 : Int) (x190 : Int) (x191 : (List (Vec Int 64))) : Option ((Int × Int × (List (Vec Int 64))) ⊕ (Int × (List (Vec Int 64)))) :=
  (if (decide (x190 < (x191.length : Int))) then (Option.bind (α := (Int × (List (Vec Int 64)))) ((loopM (fun s : (Int × Int × (List (Vec Int 64))) => laws_markPolyS_of_mut_l2 x190 s.1 s.2.1 s.2.2) (x189, 0, x191))) fun ⟨x259, x260⟩ => (some (.inl ((x259, IntKind.i64.wrap (x190 + 1), x260))))) else (some (.inr (x189, x191))))
noncomputable def laws_markPolyS_of_mut (a0 : (List (Vec Int 64))) (a1 : Int) : Option (Int × (List (Vec Int 64))) :=
  (Option.bind (α := (Int × (List (Vec Int 64)))) ((loopM (fun s : (Int × Int × (List (Vec Int 64))) => laws_markPolyS_of_mut_l1 s.1 s.2.1 s.2.2) (a1, 0, a0))) fun ⟨x140, x141⟩ => (some (x140, x141)))
set_option maxHeartbeats 16000000 in
theorem laws_markPolyS_of_mut_ok (a0 : (List (Vec Int 64))) (a1 : Int) (r : (Int × (List (Vec Int 64)))) (h : laws_markPolyS_of_mut a0 a1 = some r) : Den Try.prog 29 [(.mutsl 64 (a0.map eA64u8)), (.int .i64 a1)] { r := (.int .i64 r.1), ms := [(.row 64 (r.2.map eA64u8))], fs := [] } := by
  refine den_ofX (rs := [(.int .i64 r.1)]) (ac := laws_markPolyS_of_mut_c) (L := laws_markPolyS_of_mut_L) (n := 27) (m := []) good Try.func29 laws_markPolyS_of_mut_body (by kernel_rfl) Try.ntmps29 rfl rfl laws_markPolyS_of_mut_strip rfl ?_
  refine a_st (σ' := ⟨[(0, (.osl 1000000)), (1, (.int .i64 a1))], [(1000000, some ⟨(.row 64 (a0.map eA64u8)), false⟩)]⟩) rfl ?_
  unfold laws_markPolyS_of_mut_c
  refine a_seq ?_
  refine a_region ?_
  refine a_val (v := (.int .i64 0)) (u := []) rfl trivial rfl ?_
  refine a_nil ?_
  refine a_next (σ' := ⟨[(0, (.osl 1000000)), (1, (.int .i64 a1))], [(1000000, some ⟨(.row 64 (a0.map eA64u8)), false⟩)]⟩) rfl ?_
  obtain ⟨y142, hy143, hk144⟩ := bind_some h
  clear h
  refine a_join (emb := fun (s : (Int × (List (Vec Int 64)))) => ⟨[(1, (.int .i64 s.1))], [(1000000, some ⟨(.row 64 (s.2.map eA64u8)), false⟩)]⟩) (pre := fun s => s = y142) ?_ ?_
  · rintro ⟨x140, x141⟩ rfl
    have h := hk144
    refine a_st (σ' := ⟨[(1, (.int .i64 x140))], [(1000000, some ⟨(.row 64 (x141.map eA64u8)), false⟩)]⟩) rfl ?_
    refine a_seq ?_
    refine a_region ?_
    refine a_val (v := (.int .i64 x140)) (u := []) rfl trivial rfl ?_
    refine a_val (v := (.int .i64 x140)) (u := []) rfl trivial rfl ?_
    refine a_nil ?_
    refine a_next rfl ?_
    refine a_ret ?_
    refine ⟨.inr rfl, ?_⟩
    rw [Try.results29]
    cases h
    exact ⟨[], ⟨_, _, _, _, _, rfl, trivial, rfl, .inl ⟨rfl, .inl rfl, ⟨rfl, rfl, rfl⟩⟩⟩, rfl, ⟨_, _, rfl, rfl, rfl⟩⟩
  · have h := hy143
    refine a_seq ?_
    refine a_region ?_
    refine a_val (v := (.int .i64 0)) (u := []) rfl trivial rfl ?_
    refine a_nil ?_
    refine a_next (σ' := ⟨[(0, (.osl 1000000)), (1, (.int .i64 a1)), (5, (.int .i64 0))], [(1000000, some ⟨(.row 64 (a0.map eA64u8)), false⟩)]⟩) rfl ?_
    refine a_block ?_
    refine a_loop (emb := fun (s : (Int × Int × (List (Vec Int 64)))) => ⟨[(0, (.osl 1000000)), (1, (.int .i64 s.1)), (5, (.int .i64 s.2.1))], [(1000000, some ⟨(.row 64 (s.2.2.map eA64u8)), false⟩)]⟩) (body := (fun s : (Int × Int × (List (Vec Int 64))) => laws_markPolyS_of_mut_l1 s.1 s.2.1 s.2.2)) (G := fun q => some q = some y142) h rfl ?_ rfl
    rintro X236 ⟨x189, x190, x191⟩ x237 h hX238
    have h : laws_markPolyS_of_mut_l1 x189 x190 x191 = some x237 := h
    refine a_st (σ' := ⟨[(0, (.osl 1000000)), (1, (.int .i64 x189)), (5, (.int .i64 x190))], [(1000000, some ⟨(.row 64 (x191.map eA64u8)), false⟩)]⟩) rfl ?_
    refine a_seq ?_
    refine a_seq ?_
    refine a_region ?_
    refine a_val (v := (.int .i64 x190)) (u := []) rfl trivial rfl ?_
    refine a_val (v := (.osl 1000000)) (u := []) rfl trivial rfl ?_
    refine a_val (v := (.int .i64 (x191.length : Int))) (u := []) (leno_run rfl rfl rfl) trivial rfl ?_
    refine a_val (v := (.bool ((decide (x190 < (x191.length : Int)))))) (u := []) rfl trivial rfl ?_
    refine a_nil ?_
    refine a_next (σ' := ⟨[(0, (.osl 1000000)), (1, (.int .i64 x189)), (5, (.int .i64 x190)), (10, (.bool ((decide (x190 < (x191.length : Int))))))], [(1000000, some ⟨(.row 64 (x191.map eA64u8)), false⟩)]⟩) rfl ?_
    cases hb239 : (decide (x190 < (x191.length : Int)))
    · have h := ite_f hb239 h
      refine a_cond_f rfl ?_
      refine a_exit ?_
      refine t_exit ?_
      cases h
      have h := hX238
      refine t_exit ?_
      refine b_exit ?_
      exact j_leaf (x189, x191) (Option.some.inj h) rfl
    · have h := ite_t hb239 h
      refine a_cond_t rfl ?_
      refine a_skip ?_
      refine a_next (σ' := ⟨[(0, (.osl 1000000)), (1, (.int .i64 x189)), (5, (.int .i64 x190))], [(1000000, some ⟨(.row 64 (x191.map eA64u8)), false⟩)]⟩) rfl ?_
      obtain ⟨y261, hy262, hk263⟩ := bind_some h
      clear h
      refine a_join (emb := fun (s : (Int × (List (Vec Int 64)))) => ⟨[(0, (.osl 1000000)), (1, (.int .i64 s.1)), (5, (.int .i64 x190))], [(1000000, some ⟨(.row 64 (s.2.map eA64u8)), false⟩)]⟩) (pre := fun s => s = y261) ?_ ?_
      · rintro ⟨x259, x260⟩ rfl
        have h := hk263
        refine a_st (σ' := ⟨[(0, (.osl 1000000)), (1, (.int .i64 x259)), (5, (.int .i64 x190))], [(1000000, some ⟨(.row 64 (x260.map eA64u8)), false⟩)]⟩) rfl ?_
        refine a_region ?_
        refine a_val (v := (.int .i64 x190)) (u := []) rfl trivial rfl ?_
        refine a_val (v := (.int .i64 (IntKind.i64.wrap (x190 + 1)))) (u := []) rfl trivial rfl ?_
        refine a_val (v := (.int .i64 (IntKind.i64.wrap (x190 + 1)))) (u := []) rfl trivial rfl ?_
        refine a_nil ?_
        cases h
        exact a_again rfl hX238
      · have h := hy262
        refine a_block ?_
        refine a_seq ?_
        refine a_region ?_
        refine a_val (v := (.int .i64 0)) (u := []) rfl trivial rfl ?_
        refine a_nil ?_
        refine a_next (σ' := ⟨[(0, (.osl 1000000)), (1, (.int .i64 x189)), (5, (.int .i64 x190)), (6, (.int .i64 0))], [(1000000, some ⟨(.row 64 (x191.map eA64u8)), false⟩)]⟩) rfl ?_
        refine a_block ?_
        refine a_loop (emb := fun (s : (Int × Int × (List (Vec Int 64)))) => ⟨[(0, (.osl 1000000)), (1, (.int .i64 s.1)), (5, (.int .i64 x190)), (6, (.int .i64 s.2.1))], [(1000000, some ⟨(.row 64 (s.2.2.map eA64u8)), false⟩)]⟩) (body := (fun s : (Int × Int × (List (Vec Int 64))) => laws_markPolyS_of_mut_l2 x190 s.1 s.2.1 s.2.2)) (G := fun q => some q = some y261) h rfl ?_ rfl
        rintro X275 ⟨x268, x269, x270⟩ x276 h hX277
        have h : laws_markPolyS_of_mut_l2 x190 x268 x269 x270 = some x276 := h
        refine a_st (σ' := ⟨[(0, (.osl 1000000)), (1, (.int .i64 x268)), (5, (.int .i64 x190)), (6, (.int .i64 x269))], [(1000000, some ⟨(.row 64 (x270.map eA64u8)), false⟩)]⟩) rfl ?_
        refine a_seq ?_
        refine a_seq ?_
        refine a_region ?_
        refine a_val (v := (.int .i64 x269)) (u := []) rfl trivial rfl ?_
        refine a_val (v := (.bool ((decide (x269 < 64))))) (u := []) rfl trivial rfl ?_
        refine a_nil ?_
        refine a_next (σ' := ⟨[(0, (.osl 1000000)), (1, (.int .i64 x268)), (5, (.int .i64 x190)), (6, (.int .i64 x269)), (14, (.bool ((decide (x269 < 64)))))], [(1000000, some ⟨(.row 64 (x270.map eA64u8)), false⟩)]⟩) rfl ?_
        cases hb278 : (decide (x269 < 64))
        · have h := ite_f hb278 h
          refine a_cond_f rfl ?_
          refine a_exit ?_
          refine t_exit ?_
          cases h
          have h := hX277
          refine t_exit ?_
          refine b_exit ?_
          refine b_norm ?_
          exact j_leaf (x268, x270) (Option.some.inj h) rfl
        · have h := ite_t hb278 h
          refine a_cond_t rfl ?_
          refine a_skip ?_
          refine a_next (σ' := ⟨[(0, (.osl 1000000)), (1, (.int .i64 x268)), (5, (.int .i64 x190)), (6, (.int .i64 x269))], [(1000000, some ⟨(.row 64 (x270.map eA64u8)), false⟩)]⟩) rfl ?_
          refine a_seq ?_
          refine a_block ?_
          refine a_seq ?_
          refine a_region ?_
          refine a_val (v := (.osl 1000000)) (u := []) rfl trivial rfl ?_
          refine a_val (v := (.int .i64 x190)) (u := []) rfl trivial rfl ?_
          refine a_val (v := (.int .i64 x269)) (u := []) rfl trivial rfl ?_
          refine a_val (v := (.int .i64 x268)) (u := []) rfl trivial rfl ?_
          refine a_val (v := (.int .u8 (IntKind.u8.wrap x268))) (u := []) rfl trivial rfl ?_
          obtain ⟨hc279, h⟩ := ifp_some h
          refine a_val (v := (.own 1000000 [x190.toNat] [x190.toNat * 64])) (u := []) rfl (lmap hc279) rfl ?_
          obtain ⟨hc280, h⟩ := ifp_some h
          refine a_val (v := (.own 1000000 [x190.toNat, x269.toNat] [x190.toNat * 64, x269.toNat * 1])) (u := []) rfl hc280 rfl ?_
          have hs281 : StOk [x190.toNat, x269.toNat] (.row 64 (x270.map eA64u8)) [x190.toNat * 64, x269.toNat * 1] 1 (.int .u8 (IntKind.u8.wrap x268)) (.row 64 (((x270.set x190.toNat ((vset (rd x270 x190.toNat) x269.toNat (IntKind.u8.wrap x268))))).map eA64u8)) := (.row (y := (vset (rd x270 x190.toNat) x269.toNat (IntKind.u8.wrap x268))) (llt hc279) rfl (.arr (y := IntKind.u8.wrap x268) (vlt (rd x270 x190.toNat) hc280) rfl (.nil rfl rfl rfl rfl)))
          refine a_val (v := .top) (u := [(1000000, some ⟨(.row 64 (((x270.set x190.toNat ((vset (rd x270 x190.toNat) x269.toNat (IntKind.u8.wrap x268))))).map eA64u8)), false⟩)]) (st_own (i := ⟨.int .u8, 1, 1, (.int .u8 0)⟩) rfl rfl (fun _ => rfl) rfl hs281) (hs281.c rfl) rfl ?_
          refine a_nil ?_
          refine a_next (σ' := ⟨[(0, (.osl 1000000)), (1, (.int .i64 x268)), (5, (.int .i64 x190)), (6, (.int .i64 x269))], [(1000000, some ⟨(.row 64 (((x270.set x190.toNat ((vset (rd x270 x190.toNat) x269.toNat (IntKind.u8.wrap x268))))).map eA64u8)), false⟩)]⟩) rfl ?_
          refine a_region ?_
          refine a_val (v := (.int .i64 x268)) (u := []) rfl trivial rfl ?_
          refine a_val (v := (.int .i64 (IntKind.i64.wrap (x268 + 1)))) (u := []) rfl trivial rfl ?_
          refine a_val (v := (.int .i64 (IntKind.i64.wrap (x268 + 1)))) (u := []) rfl trivial rfl ?_
          refine a_nil ?_
          refine b_norm ?_
          refine a_next (σ' := ⟨[(0, (.osl 1000000)), (1, (.int .i64 (IntKind.i64.wrap (x268 + 1)))), (5, (.int .i64 x190)), (6, (.int .i64 x269))], [(1000000, some ⟨(.row 64 (((x270.set x190.toNat ((vset (rd x270 x190.toNat) x269.toNat (IntKind.u8.wrap x268))))).map eA64u8)), false⟩)]⟩) rfl ?_
          refine a_region ?_
          refine a_val (v := (.int .i64 x269)) (u := []) rfl trivial rfl ?_
          refine a_val (v := (.int .i64 (IntKind.i64.wrap (x269 + 1)))) (u := []) rfl trivial rfl ?_
          refine a_val (v := (.int .i64 (IntKind.i64.wrap (x269 + 1)))) (u := []) rfl trivial rfl ?_
          refine a_nil ?_
          cases h
          exact a_again rfl hX277
def laws_heldPolyS_c : ACode := (.seq (.region 0 [⟨some 4, .asg 0 (.const (.int .i64 0)) 3, none, []⟩] false) (.seq (.seq (.region 1 [⟨some 5, .asg 0 (.const (.int .i64 0)) 3, none, []⟩] false) (.block 0 (.loop (.seq (.seq (.region 2 [⟨some 7, .mov (.tmp 5), none, []⟩, ⟨some 8, .mov (.tmp 0), none, []⟩, ⟨some 9, .blt 0 .len [(.tmp 8)] [40], none, []⟩, ⟨some 10, .bin .lss 3 (.tmp 7) (.tmp 9), none, []⟩] false) (.cond (.tmp 10) .skip (.exit 0))) (.seq (.block 1 (.seq (.region 4 [⟨some 6, .asg 0 (.const (.int .i64 0)) 3, none, []⟩] false) (.block 2 (.loop (.seq (.seq (.region 5 [⟨some 13, .mov (.tmp 6), none, []⟩, ⟨some 14, .bin .lss 3 (.tmp 13) (.const (.int .i64 64)), none, []⟩] false) (.cond (.tmp 14) .skip (.exit 2))) (.seq (.block 3 (.seq (.seq (.region 7 [⟨some 17, .mov (.tmp 0), none, []⟩, ⟨some 18, .mov (.tmp 5), none, []⟩, ⟨some 19, .mov (.tmp 6), none, []⟩, ⟨some 20, .indexAddr 40 (.tmp 17) (.tmp 18), none, []⟩, ⟨some 21, .indexAddr 23 (.tmp 20) (.tmp 19), none, []⟩, ⟨some 22, .load 5 (.tmp 21), none, []⟩, ⟨some 23, .mov (.tmp 1), none, []⟩, ⟨some 24, .conv 3 5 (.tmp 23), none, []⟩, ⟨some 25, .bin .neq 5 (.tmp 22) (.tmp 24), none, []⟩] false) (.cond (.tmp 25) (.seq (.region 8 [⟨some 4, .asg 0 (.const (.int .i64 (-1))) 3, none, []⟩] false) .ret) .skip)) (.region 9 [⟨some 26, .mov (.tmp 1), none, []⟩, ⟨some 27, .bin .add 3 (.tmp 26) (.const (.int .i64 1)), none, []⟩, ⟨some 1, .asg 0 (.tmp 27) 3, none, []⟩] false))) (.region 6 [⟨some 15, .mov (.tmp 6), none, []⟩, ⟨some 16, .bin .add 3 (.tmp 15) (.const (.int .i64 1)), none, []⟩, ⟨some 6, .asg 0 (.tmp 16) 3, none, []⟩] false))))))) (.region 3 [⟨some 11, .mov (.tmp 5), none, []⟩, ⟨some 12, .bin .add 3 (.tmp 11) (.const (.int .i64 1)), none, []⟩, ⟨some 5, .asg 0 (.tmp 12) 3, none, []⟩] false)))))) (.seq (.region 10 [⟨some 28, .mov (.tmp 1), none, []⟩, ⟨some 4, .asg 0 (.tmp 28) 3, none, []⟩] false) .ret)))
def laws_heldPolyS_L : Live := [(0, [0, 1]), (1, [0, 1]), (2, [0, 1, 5]), (3, [0, 1, 5]), (4, [0, 1, 5]), (5, [0, 1, 5, 6]), (6, [0, 1, 5, 6]), (7, [0, 1, 5, 6]), (8, []), (9, [0, 1, 5, 6]), (10, [1]), (100010, [0, 1, 5, 10]), (100014, [0, 1, 5, 6, 14]), (100025, [0, 1, 5, 6, 25])]
theorem laws_heldPolyS_body : Try.f30.body = some (Try.f30.body.getD .skip) := by kernel_rfl
theorem laws_heldPolyS_strip : strip [] (Try.f30.body.getD .skip) = laws_heldPolyS_c := by kernel_rfl
noncomputable def laws_heldPolyS_l2 (x240 : Int) (a0 : (List (Vec Int 64))) (x343 : Int) (x344 : Int) : Option ((Int × Int) ⊕ (Int ⊕ Int)) :=
  (if (decide (x344 < 64)) then (ifp (0 ≤ x240 ∧ x240 < ((a0.length : Nat) : Int)) ((ifp (0 ≤ x344 ∧ x344 < ((64 : Nat) : Int)) ((letp ((((rd (rd a0 x240.toNat).1 x344.toNat)) != (IntKind.u8.wrap x343))) fun x359 => (if x359 then (some (.inr ((.inr (-1))))) else (some (.inl ((IntKind.i64.wrap (x343 + 1), IntKind.i64.wrap (x344 + 1))))))))))) else (some (.inr (.inl x343))))
noncomputable def laws_heldPolyS_l1 (a0 : (List (Vec Int 64))) (x239 : Int) (x240 : Int) : Option ((Int × Int) ⊕ (Int ⊕ Int)) :=
  (if (decide (x240 < (a0.length : Int))) then (Option.bind (α := (Int ⊕ Int)) ((loopM (fun s : (Int × Int) => laws_heldPolyS_l2 x240 a0 s.1 s.2) (x239, 0))) fun z => match z with | .inl x332 => (some (.inl ((x332, IntKind.i64.wrap (x240 + 1))))) | .inr r363 => (some (.inr (.inr r363)))) else (some (.inr (.inl x239))))
noncomputable def laws_heldPolyS (a0 : (List (Vec Int 64))) (a1 : Int) : Option Int :=
  (Option.bind (α := (Int ⊕ Int)) ((loopM (fun s : (Int × Int) => laws_heldPolyS_l1 a0 s.1 s.2) (a1, 0))) fun z => match z with | .inl x179 => (some x179) | .inr r365 => (some r365))
set_option maxHeartbeats 16000000 in
theorem laws_heldPolyS_ok (a0 : (List (Vec Int 64))) (a1 : Int) (r : Int) (h : laws_heldPolyS a0 a1 = some r) : Den Try.prog 30 [(eSA64u8 a0), (.int .i64 a1)] { r := (.int .i64 r) } := by
  refine den_of (rs := [(.int .i64 r)]) (ac := laws_heldPolyS_c) (L := laws_heldPolyS_L) (n := 29) (m := []) good Try.func30 laws_heldPolyS_body (by kernel_rfl) Try.ntmps30 rfl rfl laws_heldPolyS_strip rfl rfl ?_
  refine a_st (σ' := ⟨[(0, (eSA64u8 a0)), (1, (.int .i64 a1))], []⟩) rfl ?_
  unfold laws_heldPolyS_c
  refine a_seq ?_
  refine a_region ?_
  refine a_val (v := (.int .i64 0)) (u := []) rfl trivial rfl ?_
  refine a_nil ?_
  refine a_next (σ' := ⟨[(0, (eSA64u8 a0)), (1, (.int .i64 a1))], []⟩) rfl ?_
  obtain ⟨y180, hy181, hk182⟩ := bind_some h
  clear h
  refine a_join (emb := fun (s : Int) => ⟨[(1, (.int .i64 s))], []⟩) (pre := fun s => (.inl s) = y180) ?_ ?_
  · rintro x179 rfl
    have h := hk182
    refine a_st (σ' := ⟨[(1, (.int .i64 x179))], []⟩) rfl ?_
    refine a_seq ?_
    refine a_region ?_
    refine a_val (v := (.int .i64 x179)) (u := []) rfl trivial rfl ?_
    refine a_val (v := (.int .i64 x179)) (u := []) rfl trivial rfl ?_
    refine a_nil ?_
    refine a_next rfl ?_
    refine a_ret ?_
    refine ⟨.inr rfl, ?_⟩
    rw [Try.results30]
    cases h
    exact ⟨_, _, _, _, _, rfl, trivial, .inl ⟨rfl, .inl rfl⟩, rfl, rfl⟩
  · have h := hy181
    refine a_seq ?_
    refine a_region ?_
    refine a_val (v := (.int .i64 0)) (u := []) rfl trivial rfl ?_
    refine a_nil ?_
    refine a_next (σ' := ⟨[(0, (eSA64u8 a0)), (1, (.int .i64 a1)), (5, (.int .i64 0))], []⟩) rfl ?_
    refine a_block ?_
    refine a_loop (emb := fun (s : (Int × Int)) => ⟨[(0, (eSA64u8 a0)), (1, (.int .i64 s.1)), (5, (.int .i64 s.2))], []⟩) (body := (fun s : (Int × Int) => laws_heldPolyS_l1 a0 s.1 s.2)) (G := fun q => some q = some y180) h rfl ?_ rfl
    rintro X301 ⟨x239, x240⟩ x302 h hX303
    have h : laws_heldPolyS_l1 a0 x239 x240 = some x302 := h
    refine a_st (σ' := ⟨[(0, (eSA64u8 a0)), (1, (.int .i64 x239)), (5, (.int .i64 x240))], []⟩) rfl ?_
    refine a_seq ?_
    refine a_seq ?_
    refine a_region ?_
    refine a_val (v := (.int .i64 x240)) (u := []) rfl trivial rfl ?_
    refine a_val (v := (eSA64u8 a0)) (u := []) rfl trivial rfl ?_
    refine a_val (v := (.int .i64 (a0.length : Int))) (u := []) (len_run rfl rfl) trivial rfl ?_
    refine a_val (v := (.bool ((decide (x240 < (a0.length : Int)))))) (u := []) rfl trivial rfl ?_
    refine a_nil ?_
    refine a_next (σ' := ⟨[(0, (eSA64u8 a0)), (1, (.int .i64 x239)), (5, (.int .i64 x240)), (10, (.bool ((decide (x240 < (a0.length : Int))))))], []⟩) rfl ?_
    cases hb304 : (decide (x240 < (a0.length : Int)))
    · have h := ite_f hb304 h
      refine a_cond_f rfl ?_
      refine a_exit ?_
      refine t_exit ?_
      cases h
      have h := hX303
      refine t_exit ?_
      refine b_exit ?_
      exact j_leaf x239 (Option.some.inj h) rfl
    · have h := ite_t hb304 h
      refine a_cond_t rfl ?_
      refine a_skip ?_
      refine a_next (σ' := ⟨[(0, (eSA64u8 a0)), (1, (.int .i64 x239)), (5, (.int .i64 x240))], []⟩) rfl ?_
      obtain ⟨y333, hy334, hk335⟩ := bind_some h
      clear h
      refine a_join (emb := fun (s : Int) => ⟨[(0, (eSA64u8 a0)), (1, (.int .i64 s)), (5, (.int .i64 x240))], []⟩) (pre := fun s => (.inl s) = y333) ?_ ?_
      · rintro x332 rfl
        have h := hk335
        refine a_st (σ' := ⟨[(0, (eSA64u8 a0)), (1, (.int .i64 x332)), (5, (.int .i64 x240))], []⟩) rfl ?_
        refine a_region ?_
        refine a_val (v := (.int .i64 x240)) (u := []) rfl trivial rfl ?_
        refine a_val (v := (.int .i64 (IntKind.i64.wrap (x240 + 1)))) (u := []) rfl trivial rfl ?_
        refine a_val (v := (.int .i64 (IntKind.i64.wrap (x240 + 1)))) (u := []) rfl trivial rfl ?_
        refine a_nil ?_
        cases h
        exact a_again rfl hX303
      · have h := hy334
        refine a_block ?_
        refine a_seq ?_
        refine a_region ?_
        refine a_val (v := (.int .i64 0)) (u := []) rfl trivial rfl ?_
        refine a_nil ?_
        refine a_next (σ' := ⟨[(0, (eSA64u8 a0)), (1, (.int .i64 x239)), (5, (.int .i64 x240)), (6, (.int .i64 0))], []⟩) rfl ?_
        refine a_block ?_
        refine a_loop (emb := fun (s : (Int × Int)) => ⟨[(0, (eSA64u8 a0)), (1, (.int .i64 s.1)), (5, (.int .i64 x240)), (6, (.int .i64 s.2))], []⟩) (body := (fun s : (Int × Int) => laws_heldPolyS_l2 x240 a0 s.1 s.2)) (G := fun q => some q = some y333) h rfl ?_ rfl
        rintro X352 ⟨x343, x344⟩ x353 h hX354
        have h : laws_heldPolyS_l2 x240 a0 x343 x344 = some x353 := h
        refine a_st (σ' := ⟨[(0, (eSA64u8 a0)), (1, (.int .i64 x343)), (5, (.int .i64 x240)), (6, (.int .i64 x344))], []⟩) rfl ?_
        refine a_seq ?_
        refine a_seq ?_
        refine a_region ?_
        refine a_val (v := (.int .i64 x344)) (u := []) rfl trivial rfl ?_
        refine a_val (v := (.bool ((decide (x344 < 64))))) (u := []) rfl trivial rfl ?_
        refine a_nil ?_
        refine a_next (σ' := ⟨[(0, (eSA64u8 a0)), (1, (.int .i64 x343)), (5, (.int .i64 x240)), (6, (.int .i64 x344)), (14, (.bool ((decide (x344 < 64)))))], []⟩) rfl ?_
        cases hb355 : (decide (x344 < 64))
        · have h := ite_f hb355 h
          refine a_cond_f rfl ?_
          refine a_exit ?_
          refine t_exit ?_
          cases h
          have h := hX354
          refine t_exit ?_
          refine b_exit ?_
          refine b_norm ?_
          exact j_leaf x343 (Option.some.inj h) rfl
        · have h := ite_t hb355 h
          refine a_cond_t rfl ?_
          refine a_skip ?_
          refine a_next (σ' := ⟨[(0, (eSA64u8 a0)), (1, (.int .i64 x343)), (5, (.int .i64 x240)), (6, (.int .i64 x344))], []⟩) rfl ?_
          refine a_seq ?_
          refine a_block ?_
          refine a_seq ?_
          refine a_seq ?_
          refine a_region ?_
          refine a_val (v := (eSA64u8 a0)) (u := []) rfl trivial rfl ?_
          refine a_val (v := (.int .i64 x240)) (u := []) rfl trivial rfl ?_
          refine a_val (v := (.int .i64 x344)) (u := []) rfl trivial rfl ?_
          obtain ⟨hc356, h⟩ := ifp_some h
          refine a_val (v := (.ref (.row 64 (a0.map eA64u8)) [x240.toNat] [x240.toNat * 64])) (u := []) rfl (lmap hc356) rfl ?_
          obtain ⟨hc357, h⟩ := ifp_some h
          refine a_val (v := (.ref (.row 64 (a0.map eA64u8)) [x240.toNat, x344.toNat] [x240.toNat * 64, x344.toNat * 1])) (u := []) rfl hc357 rfl ?_
          have hl358 : LdOk [x240.toNat, x344.toNat] (.row 64 (a0.map eA64u8)) [x240.toNat * 64, x344.toNat * 1] 1 false (.int .u8 ((rd (rd a0 x240.toNat).1 x344.toNat))) := (.row (llt hc356) rfl (.arr (vlt (rd a0 x240.toNat) hc357) rfl (.nil rfl rfl rfl)))
          refine a_val (v := (.int .u8 ((rd (rd a0 x240.toNat).1 x344.toNat)))) (u := []) (ld_ref (i := ⟨.int .u8, 1, 1, (.int .u8 0)⟩) rfl rfl hl358) hl358.c rfl ?_
          refine a_val (v := (.int .i64 x343)) (u := []) rfl trivial rfl ?_
          refine a_val (v := (.int .u8 (IntKind.u8.wrap x343))) (u := []) rfl trivial rfl ?_
          obtain ⟨x359, hx360, h⟩ := letp_some h
          refine a_val' (v := (.bool ((((rd (rd a0 x240.toNat).1 x344.toNat)) != (IntKind.u8.wrap x343))))) (v' := (.bool x359)) (u := []) (u' := []) rfl (congrArg (fun z => ((.bool z) : AV)) hx360) rfl trivial rfl ?_
          refine a_nil ?_
          refine a_next (σ' := ⟨[(0, (eSA64u8 a0)), (1, (.int .i64 x343)), (5, (.int .i64 x240)), (6, (.int .i64 x344)), (25, (.bool x359))], []⟩) rfl ?_
          cases hb361 : x359
          · have h := ite_f hb361 h
            refine a_cond_f rfl ?_
            refine a_skip ?_
            refine a_next (σ' := ⟨[(0, (eSA64u8 a0)), (1, (.int .i64 x343)), (5, (.int .i64 x240)), (6, (.int .i64 x344))], []⟩) rfl ?_
            refine a_region ?_
            refine a_val (v := (.int .i64 x343)) (u := []) rfl trivial rfl ?_
            refine a_val (v := (.int .i64 (IntKind.i64.wrap (x343 + 1)))) (u := []) rfl trivial rfl ?_
            refine a_val (v := (.int .i64 (IntKind.i64.wrap (x343 + 1)))) (u := []) rfl trivial rfl ?_
            refine a_nil ?_
            refine b_norm ?_
            refine a_next (σ' := ⟨[(0, (eSA64u8 a0)), (1, (.int .i64 (IntKind.i64.wrap (x343 + 1)))), (5, (.int .i64 x240)), (6, (.int .i64 x344))], []⟩) rfl ?_
            refine a_region ?_
            refine a_val (v := (.int .i64 x344)) (u := []) rfl trivial rfl ?_
            refine a_val (v := (.int .i64 (IntKind.i64.wrap (x344 + 1)))) (u := []) rfl trivial rfl ?_
            refine a_val (v := (.int .i64 (IntKind.i64.wrap (x344 + 1)))) (u := []) rfl trivial rfl ?_
            refine a_nil ?_
            cases h
            exact a_again rfl hX354
          · have h := ite_t hb361 h
            refine a_cond_t rfl ?_
            refine a_seq ?_
            refine a_region ?_
            refine a_val (v := (.int .i64 (-1))) (u := []) rfl trivial rfl ?_
            refine a_nil ?_
            refine a_next rfl ?_
            refine a_ret ?_
            refine t_ret ?_
            refine b_ret ?_
            refine t_ret ?_
            cases h
            have h := hX354
            refine t_ret ?_
            refine b_ret ?_
            refine b_ret ?_
            refine t_ret ?_
            cases h
            have h := hk335
            cases h
            have h := hX303
            refine t_ret ?_
            refine b_ret ?_
            refine t_ret ?_
            cases h
            have h := hk182
            refine ⟨.inr rfl, ?_⟩
            rw [Try.results30]
            cases h
            exact ⟨_, _, _, _, _, rfl, trivial, .inl ⟨rfl, .inl rfl⟩, rfl, rfl⟩
def impl_polys_c : ACode := (.seq (.region 0 [⟨some 2, .asg 1 (.const (.slice none 0 0)) 40, none, []⟩] false) (.seq (.region 1 [⟨some 3, .asg 2 (.const (.slice none 0 0)) 40, none, []⟩] false) (.seq (.seq (.region 2 [⟨some 6, .mov (.tmp 0), none, []⟩, ⟨some 7, .blt 0 .len [(.tmp 6)] [79], none, []⟩, ⟨some 8, .mov (.const (.int .i64 0)), none, []⟩] false) (.block 0 (.loop (.seq (.region 3 [⟨some 9, .bin .lss 3 (.tmp 8) (.tmp 7), none, []⟩] false) (.seq (.cond (.tmp 9) .skip (.exit 0)) (.seq (.block 1 (.seq (.region 4 [⟨some 10, .indexAddr 79 (.tmp 6) (.tmp 8), none, []⟩, ⟨some 11, .load 66 (.tmp 10), none, []⟩, ⟨some 5, .asg 1 (.tmp 11) 66, none, []⟩] false) (.region 5 [⟨some 12, .mov (.tmp 3), none, []⟩, ⟨some 13, .mov (.tmp 5), none, []⟩, ⟨some 14, .call 0 (.func 51) [(.tmp 13)], none, []⟩, ⟨some 15, .bslice 0 40 1 [(0, (.tmp 14))], none, []⟩, ⟨some 16, .blt 0 .append [(.tmp 12), (.tmp 15)] [40, 40], none, []⟩, ⟨some 3, .asg 2 (.tmp 16) 40, none, []⟩] false))) (.region 6 [⟨some 17, .bin .add 3 (.tmp 8) (.const (.int .i64 1)), none, []⟩, ⟨some 8, .mov (.tmp 17), none, []⟩] false))))))) (.seq (.region 7 [⟨some 18, .mov (.tmp 3), none, []⟩, ⟨some 2, .asg 1 (.tmp 18) 40, none, []⟩] false) .ret))))
def impl_polys_L : Live := [(0, [0]), (1, [0]), (2, [0, 3]), (3, [3, 6, 7, 8]), (4, [3, 6, 7, 8]), (5, [3, 5, 6, 7, 8]), (6, [3, 6, 7, 8]), (7, [3]), (100009, [3, 6, 7, 8, 9])]
theorem impl_polys_body : Try.f68.body = some (Try.f68.body.getD .skip) := by kernel_rfl
theorem impl_polys_strip : strip [(2, 1), (3, 2), (5, 1)] (Try.f68.body.getD .skip) = impl_polys_c := by kernel_rfl
noncomputable def impl_polys_l1 (a0 : (List (List Int))) (x35 : Int) (x36 : (List (Vec Int 64))) : Option ((Int × (List (Vec Int 64))) ⊕ (List (Vec Int 64))) :=
  (if (decide (x35 < (a0.length : Int))) then (ifp (0 ≤ x35 ∧ x35 < ((a0.length : Nat) : Int)) ((Option.bind (impl_row_poly (rd a0 x35.toNat)) fun r49 => (ifp ((x36.length + ([r49] : List (Vec Int 64)).length) * 64 ≤ 140737488355328) ((some (.inl ((IntKind.i64.wrap (x35 + 1), (x36 ++ ([r49]))))))))))) else (some (.inr x36)))
noncomputable def impl_polys (a0 : (List (List Int))) : Option (List (Vec Int 64)) :=
  (Option.bind (α := (List (Vec Int 64))) ((loopM (fun s : (Int × (List (Vec Int 64))) => impl_polys_l1 a0 s.1 s.2) (0, []))) fun x25 => (some x25))
set_option maxHeartbeats 16000000 in
theorem impl_polys_ok (a0 : (List (List Int))) (r : (List (Vec Int 64))) (h : impl_polys a0 = some r) : Den Try.prog 68 [(eSSi64 a0)] { r := (eSA64u8 r) } := by
  refine den_of (rs := [(eSA64u8 r)]) (ac := impl_polys_c) (L := impl_polys_L) (n := 19) (m := [(2, 1), (3, 2), (5, 1)]) good Try.func68 impl_polys_body (by kernel_rfl) Try.ntmps68 rfl rfl impl_polys_strip rfl rfl ?_
  refine a_st (σ' := ⟨[(0, (eSSi64 a0))], []⟩) rfl ?_
  unfold impl_polys_c
  refine a_seq ?_
  refine a_region ?_
  refine a_val (v := (eSA64u8 ([]))) (u := []) rfl trivial rfl ?_
  refine a_nil ?_
  refine a_next (σ' := ⟨[(0, (eSSi64 a0))], []⟩) rfl ?_
  refine a_seq ?_
  refine a_region ?_
  refine a_val (v := (.osl 1300)) (u := [(1300, some ⟨(.row 64 (([]).map eA64u8)), false⟩)]) rfl trivial rfl ?_
  refine a_nil ?_
  refine a_next (σ' := ⟨[(0, (eSSi64 a0)), (3, (.osl 3))], [(3, some ⟨(.row 64 (([]).map eA64u8)), false⟩)]⟩) rfl ?_
  obtain ⟨y26, hy27, hk28⟩ := bind_some h
  clear h
  refine a_join (emb := fun (s : (List (Vec Int 64))) => ⟨[(3, (.osl 3))], [(3, some ⟨(.row 64 (s.map eA64u8)), false⟩)]⟩) (pre := fun s => s = y26) ?_ ?_
  · rintro x25 rfl
    have h := hk28
    refine a_st (σ' := ⟨[(3, (.osl 3))], [(3, some ⟨(.row 64 (x25.map eA64u8)), false⟩)]⟩) rfl ?_
    refine a_seq ?_
    refine a_region ?_
    refine a_val (v := (.osl 3)) (u := []) rfl trivial rfl ?_
    refine a_val (v := (eSA64u8 x25)) (u := [(3, some ⟨(.row 64 (x25.map eA64u8)), true⟩)]) rfl trivial rfl ?_
    refine a_nil ?_
    refine a_next rfl ?_
    refine a_ret ?_
    refine ⟨.inr rfl, ?_⟩
    rw [Try.results68]
    cases h
    exact ⟨_, _, _, _, _, rfl, trivial, .inl ⟨rfl, .inl rfl⟩, rfl, rfl⟩
  · have h := hy27
    refine a_seq ?_
    refine a_region ?_
    refine a_val (v := (eSSi64 a0)) (u := []) rfl trivial rfl ?_
    refine a_val (v := (.int .i64 (a0.length : Int))) (u := []) (len_run rfl rfl) trivial rfl ?_
    refine a_val (v := (.int .i64 0)) (u := []) rfl trivial rfl ?_
    refine a_nil ?_
    refine a_next (σ' := ⟨[(3, (.osl 3)), (6, (eSSi64 a0)), (7, (.int .i64 (a0.length : Int))), (8, (.int .i64 0))], [(3, some ⟨(.row 64 (([]).map eA64u8)), false⟩)]⟩) rfl ?_
    refine a_block ?_
    refine a_loop (emb := fun (s : (Int × (List (Vec Int 64)))) => ⟨[(3, (.osl 3)), (6, (eSSi64 a0)), (7, (.int .i64 (a0.length : Int))), (8, (.int .i64 s.1))], [(3, some ⟨(.row 64 (s.2.map eA64u8)), false⟩)]⟩) (body := (fun s : (Int × (List (Vec Int 64))) => impl_polys_l1 a0 s.1 s.2)) (G := fun q => some q = some y26) h rfl ?_ rfl
    rintro X43 ⟨x35, x36⟩ x44 h hX45
    have h : impl_polys_l1 a0 x35 x36 = some x44 := h
    refine a_st (σ' := ⟨[(3, (.osl 3)), (6, (eSSi64 a0)), (7, (.int .i64 (a0.length : Int))), (8, (.int .i64 x35))], [(3, some ⟨(.row 64 (x36.map eA64u8)), false⟩)]⟩) rfl ?_
    refine a_seq ?_
    refine a_region ?_
    refine a_val (v := (.bool ((decide (x35 < (a0.length : Int)))))) (u := []) rfl trivial rfl ?_
    refine a_nil ?_
    refine a_next (σ' := ⟨[(3, (.osl 3)), (6, (eSSi64 a0)), (7, (.int .i64 (a0.length : Int))), (8, (.int .i64 x35)), (9, (.bool ((decide (x35 < (a0.length : Int))))))], [(3, some ⟨(.row 64 (x36.map eA64u8)), false⟩)]⟩) rfl ?_
    refine a_seq ?_
    cases hb46 : (decide (x35 < (a0.length : Int)))
    · have h := ite_f hb46 h
      refine a_cond_f rfl ?_
      refine a_exit ?_
      refine t_exit ?_
      cases h
      have h := hX45
      refine t_exit ?_
      refine b_exit ?_
      exact j_leaf x36 (Option.some.inj h) rfl
    · have h := ite_t hb46 h
      refine a_cond_t rfl ?_
      refine a_skip ?_
      refine a_next (σ' := ⟨[(3, (.osl 3)), (6, (eSSi64 a0)), (7, (.int .i64 (a0.length : Int))), (8, (.int .i64 x35))], [(3, some ⟨(.row 64 (x36.map eA64u8)), false⟩)]⟩) rfl ?_
      refine a_seq ?_
      refine a_block ?_
      refine a_seq ?_
      refine a_region ?_
      obtain ⟨hc47, h⟩ := ifp_some h
      refine a_val (v := (.ref (.row 1 (a0.map eSi64)) [x35.toNat] [x35.toNat * 1])) (u := []) rfl (lmap hc47) rfl ?_
      have hl48 : LdOk [x35.toNat] (.row 1 (a0.map eSi64)) [x35.toNat * 1] 1 false (eSi64 (rd a0 x35.toNat)) := (.row (llt hc47) rfl (.nil rfl rfl rfl))
      refine a_val (v := (eSi64 (rd a0 x35.toNat))) (u := []) (ld_ref (i := ⟨.slice 2, 1, 24, (eSi64 [])⟩) rfl rfl hl48) hl48.c rfl ?_
      refine a_val (v := (eSi64 (rd a0 x35.toNat))) (u := []) rfl trivial rfl ?_
      refine a_nil ?_
      refine a_next (σ' := ⟨[(3, (.osl 3)), (5, (eSi64 (rd a0 x35.toNat))), (6, (eSSi64 a0)), (7, (.int .i64 (a0.length : Int))), (8, (.int .i64 x35))], [(3, some ⟨(.row 64 (x36.map eA64u8)), false⟩)]⟩) rfl ?_
      refine a_region ?_
      refine a_val (v := (.osl 3)) (u := []) rfl trivial rfl ?_
      refine a_val (v := (eSi64 (rd a0 x35.toNat))) (u := []) rfl trivial rfl ?_
      obtain ⟨r49, hr50, h⟩ := bind_some h
      refine a_call (args := [(eSi64 (rd a0 x35.toNat))]) (u := []) (r := (eA64u8 r49)) rfl rfl (impl_row_poly_ok (rd a0 x35.toNat) r49 hr50) rfl ?_
      refine a_val (v := (.sl 64 true (([r49]).map eA64u8))) (u := []) rfl ⟨(Nat.le_of_ble_eq_true rfl), (Nat.le_of_ble_eq_true rfl), (all_cons ⟨(Nat.le_of_ble_eq_true rfl), rfl⟩ all_nil)⟩ rfl ?_
      obtain ⟨hc51, h⟩ := ifp_some h
      refine a_val (v := (.osl 2600)) (u := [(2600, some ⟨(.row 64 (((x36 ++ ([r49]))).map eA64u8)), false⟩), (3, none)]) (app_run (i := ⟨.arr 64 5, 64, 64, (eA64u8 (vrep 64 (0 : Int)))⟩) (f := eA64u8) (l := x36) (l2 := [r49]) rfl rfl rfl rfl (fun _ => rfl) rfl rfl) (app_c (f := eA64u8) (s := 64) (sz := 64) (by' := 64) (u := []) (id := 3) hc51 (.inr rfl) rfl rfl rfl) rfl ?_
      refine a_val (v := (.osl 2600)) (u := []) rfl trivial rfl ?_
      refine a_nil ?_
      refine b_norm ?_
      refine a_next (σ' := ⟨[(3, (.osl 3)), (6, (eSSi64 a0)), (7, (.int .i64 (a0.length : Int))), (8, (.int .i64 x35))], [(3, some ⟨(.row 64 (((x36 ++ ([r49]))).map eA64u8)), false⟩)]⟩) rfl ?_
      refine a_region ?_
      refine a_val (v := (.int .i64 (IntKind.i64.wrap (x35 + 1)))) (u := []) rfl trivial rfl ?_
      refine a_val (v := (.int .i64 (IntKind.i64.wrap (x35 + 1)))) (u := []) rfl trivial rfl ?_
      refine a_nil ?_
      cases h
      exact a_again rfl hX45
def impl_MonicPolys_c : ACode := (.seq (.region 0 [⟨some 4, .asg 1 (.const (.slice none 0 0)) 40, none, []⟩, ⟨some 5, .asg 0 (.const (.int .i64 0)) 2, none, []⟩] false) (.seq (.block 0 (.seq (.region 1 [⟨some 7, .mov (.tmp 0), none, []⟩, ⟨some 8, .call 0 (.func 59) [(.tmp 7)], none, []⟩, ⟨some 9, .un .not (.tmp 8), none, []⟩, ⟨some 6, .asg 0 (.tmp 9) 4, none, []⟩] false) (.cond (.tmp 6) (.seq (.region 2 [⟨some 4, .asg 1 (.const (.slice none 0 0)) 40, none, []⟩, ⟨some 5, .asg 0 (.const (.int .i64 1)) 2, none, []⟩] false) .ret) (.seq (.region 3 [⟨some 11, .mov (.tmp 1), none, []⟩, ⟨some 12, .call 0 (.func 66) [(.tmp 11), (.const (.int .i64 0)), (.const (.int .i64 63))], none, []⟩, ⟨some 13, .un .not (.tmp 12), none, []⟩, ⟨some 10, .asg 0 (.tmp 13) 4, none, []⟩] false) (.cond (.tmp 10) (.seq (.region 4 [⟨some 4, .asg 1 (.const (.slice none 0 0)) 40, none, []⟩, ⟨some 5, .asg 0 (.const (.int .i64 2)) 2, none, []⟩] false) .ret) (.seq (.region 5 [⟨some 15, .mov (.tmp 0), none, []⟩, ⟨some 16, .mov (.tmp 1), none, []⟩, ⟨some 17, .call 0 (.func 67) [(.tmp 15), (.tmp 16), (.const (.int .i64 343))], none, []⟩, ⟨some 18, .bin .gtr 2 (.tmp 17) (.const (.int .i64 343)), none, []⟩, ⟨some 14, .asg 0 (.tmp 18) 4, none, []⟩] false) (.cond (.tmp 14) (.seq (.region 6 [⟨some 4, .asg 1 (.const (.slice none 0 0)) 40, none, []⟩, ⟨some 5, .asg 0 (.const (.int .i64 3)) 2, none, []⟩] false) .ret) .skip))))))) (.seq (.region 7 [⟨some 19, .mov (.tmp 0), none, []⟩, ⟨some 20, .mov (.tmp 1), none, []⟩, ⟨some 21, .call 0 (.func 69) [(.tmp 19), (.tmp 20)], none, []⟩, ⟨some 22, .call 0 (.func 68) [(.tmp 21)], none, []⟩, ⟨some 4, .asg 1 (.tmp 22) 40, none, []⟩, ⟨some 5, .asg 0 (.const (.int .i64 0)) 2, none, []⟩] false) .ret)))
def impl_MonicPolys_L : Live := [(0, [0, 1]), (1, [0, 1]), (2, []), (3, [0, 1]), (4, []), (5, [0, 1]), (6, []), (7, [0, 1]), (100006, [0, 1, 6]), (100010, [0, 1, 10]), (100014, [0, 1, 14])]
theorem impl_MonicPolys_body : Try.f27.body = some (Try.f27.body.getD .skip) := by kernel_rfl
theorem impl_MonicPolys_strip : strip [(4, 1)] (Try.f27.body.getD .skip) = impl_MonicPolys_c := by kernel_rfl
noncomputable def impl_MonicPolys (a0 : Int) (a1 : Int) : Option ((List (Vec Int 64)) × Int) :=
  (Option.bind (impl_isPrime a0) fun r1 => (if (!r1) then (some ([], 1)) else (Option.bind (impl_within a1 0 63) fun r4 => (if (!r4) then (some ([], 2)) else (Option.bind (impl_prime_norm a0 a1 343) fun r7 => (if (decide (r7 > 343)) then (some ([], 3)) else (Option.bind (impl_prime_monics a0 a1) fun r10 => (Option.bind (impl_polys r10) fun r12 => (some (r12, 0))))))))))
set_option maxHeartbeats 16000000 in
theorem impl_MonicPolys_ok (a0 : Int) (a1 : Int) (r : ((List (Vec Int 64)) × Int)) (h : impl_MonicPolys a0 a1 = some r) : Den Try.prog 27 [(.int .i64 a0), (.int .i64 a1)] { r := (.tuple [(eSA64u8 r.1), (.int .i64 r.2)]) } := by
  refine den_of (rs := [(eSA64u8 r.1), (.int .i64 r.2)]) (ac := impl_MonicPolys_c) (L := impl_MonicPolys_L) (n := 23) (m := [(4, 1)]) good Try.func27 impl_MonicPolys_body (by kernel_rfl) Try.ntmps27 rfl rfl impl_MonicPolys_strip rfl rfl ?_
  refine a_st (σ' := ⟨[(0, (.int .i64 a0)), (1, (.int .i64 a1))], []⟩) rfl ?_
  unfold impl_MonicPolys_c
  refine a_seq ?_
  refine a_region ?_
  refine a_val (v := (eSA64u8 ([]))) (u := []) rfl trivial rfl ?_
  refine a_val (v := (.int .i64 0)) (u := []) rfl trivial rfl ?_
  refine a_nil ?_
  refine a_next (σ' := ⟨[(0, (.int .i64 a0)), (1, (.int .i64 a1))], []⟩) rfl ?_
  refine a_seq ?_
  refine a_block ?_
  refine a_seq ?_
  refine a_region ?_
  refine a_val (v := (.int .i64 a0)) (u := []) rfl trivial rfl ?_
  obtain ⟨r1, hr2, h⟩ := bind_some h
  refine a_call (args := [(.int .i64 a0)]) (u := []) (r := (.bool r1)) rfl rfl (impl_isPrime_ok a0 r1 hr2) rfl ?_
  refine a_val (v := (.bool (!r1))) (u := []) rfl trivial rfl ?_
  refine a_val (v := (.bool (!r1))) (u := []) rfl trivial rfl ?_
  refine a_nil ?_
  refine a_next (σ' := ⟨[(0, (.int .i64 a0)), (1, (.int .i64 a1)), (6, (.bool (!r1)))], []⟩) rfl ?_
  cases hb3 : (!r1)
  · have h := ite_f hb3 h
    refine a_cond_f rfl ?_
    refine a_seq ?_
    refine a_region ?_
    refine a_val (v := (.int .i64 a1)) (u := []) rfl trivial rfl ?_
    obtain ⟨r4, hr5, h⟩ := bind_some h
    refine a_call (args := [(.int .i64 a1), (.int .i64 0), (.int .i64 63)]) (u := []) (r := (.bool r4)) rfl rfl (impl_within_ok a1 0 63 r4 hr5) rfl ?_
    refine a_val (v := (.bool (!r4))) (u := []) rfl trivial rfl ?_
    refine a_val (v := (.bool (!r4))) (u := []) rfl trivial rfl ?_
    refine a_nil ?_
    refine a_next (σ' := ⟨[(0, (.int .i64 a0)), (1, (.int .i64 a1)), (10, (.bool (!r4)))], []⟩) rfl ?_
    cases hb6 : (!r4)
    · have h := ite_f hb6 h
      refine a_cond_f rfl ?_
      refine a_seq ?_
      refine a_region ?_
      refine a_val (v := (.int .i64 a0)) (u := []) rfl trivial rfl ?_
      refine a_val (v := (.int .i64 a1)) (u := []) rfl trivial rfl ?_
      obtain ⟨r7, hr8, h⟩ := bind_some h
      refine a_call (args := [(.int .i64 a0), (.int .i64 a1), (.int .i64 343)]) (u := []) (r := (.int .i64 r7)) rfl rfl (impl_prime_norm_ok a0 a1 343 r7 hr8) rfl ?_
      refine a_val (v := (.bool ((decide (r7 > 343))))) (u := []) rfl trivial rfl ?_
      refine a_val (v := (.bool ((decide (r7 > 343))))) (u := []) rfl trivial rfl ?_
      refine a_nil ?_
      refine a_next (σ' := ⟨[(0, (.int .i64 a0)), (1, (.int .i64 a1)), (14, (.bool ((decide (r7 > 343)))))], []⟩) rfl ?_
      cases hb9 : (decide (r7 > 343))
      · have h := ite_f hb9 h
        refine a_cond_f rfl ?_
        refine a_skip ?_
        refine b_norm ?_
        refine a_next (σ' := ⟨[(0, (.int .i64 a0)), (1, (.int .i64 a1))], []⟩) rfl ?_
        refine a_seq ?_
        refine a_region ?_
        refine a_val (v := (.int .i64 a0)) (u := []) rfl trivial rfl ?_
        refine a_val (v := (.int .i64 a1)) (u := []) rfl trivial rfl ?_
        obtain ⟨r10, hr11, h⟩ := bind_some h
        refine a_call (args := [(.int .i64 a0), (.int .i64 a1)]) (u := []) (r := (eSSi64 r10)) rfl rfl (impl_prime_monics_ok a0 a1 r10 hr11) rfl ?_
        obtain ⟨r12, hr13, h⟩ := bind_some h
        refine a_call (args := [(eSSi64 r10)]) (u := []) (r := (eSA64u8 r12)) rfl rfl (impl_polys_ok r10 r12 hr13) rfl ?_
        refine a_val (v := (eSA64u8 r12)) (u := []) rfl trivial rfl ?_
        refine a_val (v := (.int .i64 0)) (u := []) rfl trivial rfl ?_
        refine a_nil ?_
        refine a_next rfl ?_
        refine a_ret ?_
        refine ⟨.inr rfl, ?_⟩
        rw [Try.results27]
        cases h
        exact ⟨_, _, _, _, _, rfl, trivial, .inl ⟨rfl, .inl rfl⟩, rfl, ⟨_, _, _, _, _, rfl, trivial, .inl ⟨rfl, .inl rfl⟩, rfl, rfl⟩⟩
      · have h := ite_t hb9 h
        refine a_cond_t rfl ?_
        refine a_seq ?_
        refine a_region ?_
        refine a_val (v := (eSA64u8 ([]))) (u := []) rfl trivial rfl ?_
        refine a_val (v := (.int .i64 3)) (u := []) rfl trivial rfl ?_
        refine a_nil ?_
        refine a_next rfl ?_
        refine a_ret ?_
        refine b_ret ?_
        refine t_ret ?_
        refine ⟨.inr rfl, ?_⟩
        rw [Try.results27]
        cases h
        exact ⟨_, _, _, _, _, rfl, trivial, .inl ⟨rfl, .inl rfl⟩, rfl, ⟨_, _, _, _, _, rfl, trivial, .inl ⟨rfl, .inl rfl⟩, rfl, rfl⟩⟩
    · have h := ite_t hb6 h
      refine a_cond_t rfl ?_
      refine a_seq ?_
      refine a_region ?_
      refine a_val (v := (eSA64u8 ([]))) (u := []) rfl trivial rfl ?_
      refine a_val (v := (.int .i64 2)) (u := []) rfl trivial rfl ?_
      refine a_nil ?_
      refine a_next rfl ?_
      refine a_ret ?_
      refine b_ret ?_
      refine t_ret ?_
      refine ⟨.inr rfl, ?_⟩
      rw [Try.results27]
      cases h
      exact ⟨_, _, _, _, _, rfl, trivial, .inl ⟨rfl, .inl rfl⟩, rfl, ⟨_, _, _, _, _, rfl, trivial, .inl ⟨rfl, .inl rfl⟩, rfl, rfl⟩⟩
  · have h := ite_t hb3 h
    refine a_cond_t rfl ?_
    refine a_seq ?_
    refine a_region ?_
    refine a_val (v := (eSA64u8 ([]))) (u := []) rfl trivial rfl ?_
    refine a_val (v := (.int .i64 1)) (u := []) rfl trivial rfl ?_
    refine a_nil ?_
    refine a_next rfl ?_
    refine a_ret ?_
    refine b_ret ?_
    refine t_ret ?_
    refine ⟨.inr rfl, ?_⟩
    rw [Try.results27]
    cases h
    exact ⟨_, _, _, _, _, rfl, trivial, .inl ⟨rfl, .inl rfl⟩, rfl, ⟨_, _, _, _, _, rfl, trivial, .inl ⟨rfl, .inl rfl⟩, rfl, rfl⟩⟩
def laws_FnExactMonicPolys_c : ACode := (.seq (.region 0 [⟨some 4, .asg 0 (.const (.bool false)) 4, none, []⟩] false) (.seq (.region 1 [⟨some 14, .mov (.tmp 0), none, []⟩, ⟨some 15, .mov (.tmp 1), none, []⟩, ⟨some 16, .call 0 (.func 26) [(.tmp 14), (.tmp 15)], none, []⟩, ⟨some 13, .mov (.tmp 16), none, []⟩, ⟨some 17, .extract (.tmp 13) 0, none, []⟩, ⟨some 18, .extract (.tmp 13) 1, none, []⟩, ⟨some 5, .asg 1 (.tmp 17) 40, none, []⟩, ⟨some 6, .asg 0 (.tmp 18) 2, none, []⟩] false) (.seq (.region 2 [⟨some 20, .mov (.tmp 0), none, []⟩, ⟨some 21, .mov (.tmp 1), none, []⟩, ⟨some 22, .call 0 (.func 27) [(.tmp 20), (.tmp 21)], none, []⟩, ⟨some 19, .mov (.tmp 22), none, []⟩, ⟨some 23, .extract (.tmp 19) 0, none, []⟩, ⟨some 24, .extract (.tmp 19) 1, none, []⟩, ⟨some 7, .asg 2 (.tmp 23) 40, none, []⟩, ⟨some 8, .asg 0 (.tmp 24) 2, none, []⟩] false) (.seq (.seq (.region 3 [⟨some 25, .mov (.tmp 7), none, []⟩, ⟨some 26, .mov (.tmp 5), none, []⟩, ⟨some 27, .call 0 (.func 28) [(.tmp 25), (.tmp 26)], none, []⟩, ⟨some 28, .un .not (.tmp 27), none, []⟩, ⟨some 29, .mov (.tmp 28), none, []⟩, ⟨some 30, .mov (.tmp 8), some (29, false), []⟩, ⟨some 31, .mov (.tmp 6), some (29, false), []⟩, ⟨some 32, .bin .neq 2 (.tmp 30) (.tmp 31), some (29, false), []⟩, ⟨some 33, .pick (.tmp 29) (.const (.bool true)) (.tmp 32), none, []⟩] false) (.cond (.tmp 33) (.seq (.region 4 [⟨some 4, .asg 0 (.const (.bool false)) 4, none, []⟩] false) .ret) .skip)) (.seq (.region 5 [⟨some 9, .asg 0 (.const (.int .i64 1)) 3, none, []⟩] false) (.seq (.region 6 [⟨some 34, .mov (.tmp 7), none, []⟩, ⟨some 35, .mov (.tmp 9), none, []⟩, ⟨some 36, .call 1 (.func 29) [(.tmp 34), (.tmp 35)], none, []⟩, ⟨some 9, .asg 0 (.tmp 36) 3, none, []⟩] false) (.seq (.region 7 [⟨some 10, .asg 0 (.const (.int .i64 1)) 3, none, []⟩] false) (.seq (.region 8 [⟨some 37, .mov (.tmp 7), none, []⟩, ⟨some 38, .mov (.tmp 10), none, []⟩, ⟨some 39, .call 0 (.func 30) [(.tmp 37), (.tmp 38)], none, []⟩, ⟨some 10, .asg 0 (.tmp 39) 3, none, []⟩] false) (.seq (.seq (.region 9 [⟨some 40, .mov (.tmp 10), none, []⟩, ⟨some 41, .bin .lss 3 (.tmp 40) (.const (.int .i64 0)), none, []⟩] false) (.cond (.tmp 41) (.seq (.region 10 [⟨some 4, .asg 0 (.const (.bool false)) 4, none, []⟩] false) .ret) .skip)) (.seq (.seq (.region 11 [⟨some 42, .mov (.tmp 10), none, []⟩, ⟨some 43, .mov (.tmp 9), none, []⟩, ⟨some 44, .bin .neq 3 (.tmp 42) (.tmp 43), none, []⟩] false) (.cond (.tmp 44) (.seq (.region 12 [⟨some 4, .asg 0 (.const (.bool false)) 4, none, []⟩] false) .ret) .skip)) (.seq (.region 13 [⟨some 46, .mov (.tmp 0), none, []⟩, ⟨some 47, .mov (.tmp 1), none, []⟩, ⟨some 48, .call 0 (.func 27) [(.tmp 46), (.tmp 47)], none, []⟩, ⟨some 45, .mov (.tmp 48), none, []⟩, ⟨some 49, .extract (.tmp 45) 0, none, []⟩, ⟨some 50, .extract (.tmp 45) 1, none, []⟩, ⟨some 11, .asg 1 (.tmp 49) 40, none, []⟩, ⟨some 12, .asg 0 (.tmp 50) 2, none, []⟩] false) (.seq (.seq (.region 14 [⟨some 51, .mov (.tmp 11), none, []⟩, ⟨some 52, .mov (.tmp 5), none, []⟩, ⟨some 53, .call 0 (.func 28) [(.tmp 51), (.tmp 52)], none, []⟩, ⟨some 54, .un .not (.tmp 53), none, []⟩, ⟨some 55, .mov (.tmp 54), none, []⟩, ⟨some 56, .mov (.tmp 12), some (55, false), []⟩, ⟨some 57, .mov (.tmp 6), some (55, false), []⟩, ⟨some 58, .bin .neq 2 (.tmp 56) (.tmp 57), some (55, false), []⟩, ⟨some 59, .pick (.tmp 55) (.const (.bool true)) (.tmp 58), none, []⟩] false) (.cond (.tmp 59) (.seq (.region 15 [⟨some 4, .asg 0 (.const (.bool false)) 4, none, []⟩] false) .ret) .skip)) (.seq (.region 16 [⟨some 10, .asg 0 (.const (.int .i64 1)) 3, none, []⟩] false) (.seq (.region 17 [⟨some 60, .mov (.tmp 7), none, []⟩, ⟨some 61, .mov (.tmp 10), none, []⟩, ⟨some 62, .call 0 (.func 30) [(.tmp 60), (.tmp 61)], none, []⟩, ⟨some 10, .asg 0 (.tmp 62) 3, none, []⟩] false) (.seq (.seq (.region 18 [⟨some 63, .mov (.tmp 10), none, []⟩, ⟨some 64, .bin .lss 3 (.tmp 63) (.const (.int .i64 0)), none, []⟩] false) (.cond (.tmp 64) (.seq (.region 19 [⟨some 4, .asg 0 (.const (.bool false)) 4, none, []⟩] false) .ret) .skip)) (.seq (.seq (.region 20 [⟨some 65, .mov (.tmp 10), none, []⟩, ⟨some 66, .mov (.tmp 9), none, []⟩, ⟨some 67, .bin .neq 3 (.tmp 65) (.tmp 66), none, []⟩] false) (.cond (.tmp 67) (.seq (.region 21 [⟨some 4, .asg 0 (.const (.bool false)) 4, none, []⟩] false) .ret) .skip)) (.seq (.region 22 [⟨some 4, .asg 0 (.const (.bool true)) 4, none, []⟩] false) .ret)))))))))))))))))
def laws_FnExactMonicPolys_L : Live := [(0, [0, 1]), (1, [0, 1]), (2, [0, 1, 5, 6]), (3, [0, 1, 5, 6, 7, 8]), (4, []), (5, [0, 1, 5, 6, 7]), (6, [0, 1, 5, 6, 7, 9]), (7, [0, 1, 5, 6, 7, 9]), (8, [0, 1, 5, 6, 7, 9, 10]), (9, [0, 1, 5, 6, 7, 9, 10]), (10, []), (11, [0, 1, 5, 6, 7, 9, 10]), (12, []), (13, [0, 1, 5, 6, 7, 9]), (14, [5, 6, 7, 9, 11, 12]), (15, []), (16, [7, 9]), (17, [7, 9, 10]), (18, [9, 10]), (19, []), (20, [9, 10]), (21, []), (22, []), (100033, [0, 1, 5, 6, 7, 33]), (100041, [0, 1, 5, 6, 7, 9, 10, 41]), (100044, [0, 1, 5, 6, 7, 9, 44]), (100059, [7, 9, 59]), (100064, [9, 10, 64]), (100067, [67])]
theorem laws_FnExactMonicPolys_body : Try.f7.body = some (Try.f7.body.getD .skip) := by kernel_rfl
theorem laws_FnExactMonicPolys_strip : strip [(5, 1), (7, 2), (11, 1), (36, 1)] (Try.f7.body.getD .skip) = laws_FnExactMonicPolys_c := by kernel_rfl
noncomputable def laws_FnExactMonicPolys (a0 : Int) (a1 : Int) : Option Bool :=
  (Option.bind (spec_MonicPolys a0 a1) fun r1 => (Option.bind (impl_MonicPolys_fresh a0 a1) fun r3 => (Option.bind (α := Bool) ((Option.bind (laws_eqPolyS r3.1 r1.1) fun r12 => (if (!r12) then (some true) else (some (r3.2 != r1.2))))) fun x8 => (if x8 then (some false) else (Option.bind (laws_markPolyS_of_mut r3.1 1) fun r16 => (ifp (r16.2.length = r3.1.length) ((Option.bind (laws_heldPolyS r16.2 1) fun r19 => (if (decide (r19 < 0)) then (some false) else (if (r19 != r16.1) then (some false) else (Option.bind (impl_MonicPolys a0 a1) fun r23 => (Option.bind (α := Bool) ((Option.bind (laws_eqPolyS r23.1 r1.1) fun r32 => (if (!r32) then (some true) else (some (r23.2 != r1.2))))) fun x28 => (if x28 then (some false) else (Option.bind (laws_heldPolyS r16.2 1) fun r36 => (if (decide (r36 < 0)) then (some false) else (if (r36 != r16.1) then (some false) else (some true)))))))))))))))))
set_option maxHeartbeats 16000000 in
theorem laws_FnExactMonicPolys_ok (a0 : Int) (a1 : Int) (r : Bool) (h : laws_FnExactMonicPolys a0 a1 = some r) : Den Try.prog 7 [(.int .i64 a0), (.int .i64 a1)] { r := (.bool r) } := by
  refine den_of (rs := [(.bool r)]) (ac := laws_FnExactMonicPolys_c) (L := laws_FnExactMonicPolys_L) (n := 68) (m := [(5, 1), (7, 2), (11, 1), (36, 1)]) good Try.func7 laws_FnExactMonicPolys_body (by kernel_rfl) Try.ntmps7 rfl rfl laws_FnExactMonicPolys_strip rfl rfl ?_
  refine a_st (σ' := ⟨[(0, (.int .i64 a0)), (1, (.int .i64 a1))], []⟩) rfl ?_
  unfold laws_FnExactMonicPolys_c
  refine a_seq ?_
  refine a_region ?_
  refine a_val (v := (.bool false)) (u := []) rfl trivial rfl ?_
  refine a_nil ?_
  refine a_next (σ' := ⟨[(0, (.int .i64 a0)), (1, (.int .i64 a1))], []⟩) rfl ?_
  refine a_seq ?_
  refine a_region ?_
  refine a_val (v := (.int .i64 a0)) (u := []) rfl trivial rfl ?_
  refine a_val (v := (.int .i64 a1)) (u := []) rfl trivial rfl ?_
  obtain ⟨r1, hr2, h⟩ := bind_some h
  refine a_call (args := [(.int .i64 a0), (.int .i64 a1)]) (u := []) (r := (.tuple [(eSA64u8 r1.1), (.int .i64 r1.2)])) rfl rfl (spec_MonicPolys_ok a0 a1 r1 hr2) rfl ?_
  refine a_val (v := (.tuple [(eSA64u8 r1.1), (.int .i64 r1.2)])) (u := []) rfl trivial rfl ?_
  refine a_val (v := (eSA64u8 r1.1)) (u := []) rfl (Nat.le_of_ble_eq_true rfl) rfl ?_
  refine a_val (v := (.int .i64 r1.2)) (u := []) rfl (Nat.le_of_ble_eq_true rfl) rfl ?_
  refine a_val (v := (eSA64u8 r1.1)) (u := []) rfl trivial rfl ?_
  refine a_val (v := (.int .i64 r1.2)) (u := []) rfl trivial rfl ?_
  refine a_nil ?_
  refine a_next (σ' := ⟨[(0, (.int .i64 a0)), (1, (.int .i64 a1)), (5, (eSA64u8 r1.1)), (6, (.int .i64 r1.2))], []⟩) rfl ?_
  refine a_seq ?_
  refine a_region ?_
  refine a_val (v := (.int .i64 a0)) (u := []) rfl trivial rfl ?_
  refine a_val (v := (.int .i64 a1)) (u := []) rfl trivial rfl ?_
  obtain ⟨r3, hr4, h⟩ := bind_some h
  refine a_callF (args := [(.int .i64 a0), (.int .i64 a1)]) (u := []) (u2 := []) (r := (.tuple [(.osl 2000000), (.int .i64 r3.2)])) (fs := [(64, r3.1.map eA64u8)]) rfl rfl (impl_MonicPolys_fresh_ok a0 a1 r3 hr4) rfl rfl rfl (.inl rfl) rfl ?_
  refine a_val (v := (.tuple [(.osl 3200), (.int .i64 r3.2)])) (u := []) rfl trivial rfl ?_
  refine a_val (v := (.osl 3200)) (u := []) rfl (Nat.le_of_ble_eq_true rfl) rfl ?_
  refine a_val (v := (.int .i64 r3.2)) (u := []) rfl (Nat.le_of_ble_eq_true rfl) rfl ?_
  refine a_val (v := (.osl 3200)) (u := []) rfl trivial rfl ?_
  refine a_val (v := (.int .i64 r3.2)) (u := []) rfl trivial rfl ?_
  refine a_nil ?_
  refine a_next (σ' := ⟨[(0, (.int .i64 a0)), (1, (.int .i64 a1)), (5, (eSA64u8 r1.1)), (6, (.int .i64 r1.2)), (7, (.osl 7)), (8, (.int .i64 r3.2))], [(7, some ⟨(.row 64 (r3.1.map eA64u8)), false⟩)]⟩) rfl ?_
  refine a_seq ?_
  obtain ⟨y9, hy10, hk11⟩ := bind_some h
  clear h
  refine a_join (emb := fun (s : Bool) => ⟨[(0, (.int .i64 a0)), (1, (.int .i64 a1)), (5, (eSA64u8 r1.1)), (6, (.int .i64 r1.2)), (7, (.osl 7)), (33, (.bool s))], [(7, some ⟨(.row 64 (r3.1.map eA64u8)), false⟩)]⟩) (pre := fun s => s = y9) ?_ ?_
  · rintro x8 rfl
    have h := hk11
    refine a_st (σ' := ⟨[(0, (.int .i64 a0)), (1, (.int .i64 a1)), (5, (eSA64u8 r1.1)), (6, (.int .i64 r1.2)), (7, (.osl 7)), (33, (.bool x8))], [(7, some ⟨(.row 64 (r3.1.map eA64u8)), false⟩)]⟩) rfl ?_
    cases hb15 : x8
    · have h := ite_f hb15 h
      refine a_cond_f rfl ?_
      refine a_skip ?_
      refine a_next (σ' := ⟨[(0, (.int .i64 a0)), (1, (.int .i64 a1)), (5, (eSA64u8 r1.1)), (6, (.int .i64 r1.2)), (7, (.osl 7))], [(7, some ⟨(.row 64 (r3.1.map eA64u8)), false⟩)]⟩) rfl ?_
      refine a_seq ?_
      refine a_region ?_
      refine a_val (v := (.int .i64 1)) (u := []) rfl trivial rfl ?_
      refine a_nil ?_
      refine a_next (σ' := ⟨[(0, (.int .i64 a0)), (1, (.int .i64 a1)), (5, (eSA64u8 r1.1)), (6, (.int .i64 r1.2)), (7, (.osl 7)), (9, (.int .i64 1))], [(7, some ⟨(.row 64 (r3.1.map eA64u8)), false⟩)]⟩) rfl ?_
      refine a_seq ?_
      refine a_region ?_
      refine a_val (v := (.osl 7)) (u := []) rfl trivial rfl ?_
      refine a_val (v := (.int .i64 1)) (u := []) rfl trivial rfl ?_
      obtain ⟨r16, hr17, h⟩ := bind_some h
      obtain ⟨hl18, h⟩ := ifp_some h
      refine a_callM (args := [(.mutsl 64 (r3.1.map eA64u8)), (.int .i64 1)]) (i := 0) (id := 7) (r := (.int .i64 r16.1)) (c := (.row 64 (r16.2.map eA64u8))) rfl rfl (laws_markPolyS_of_mut_ok r3.1 1 r16 hr17) rfl (shape_map hl18) ?_
      refine a_val (v := (.int .i64 r16.1)) (u := []) rfl trivial rfl ?_
      refine a_nil ?_
      refine a_next (σ' := ⟨[(0, (.int .i64 a0)), (1, (.int .i64 a1)), (5, (eSA64u8 r1.1)), (6, (.int .i64 r1.2)), (7, (.osl 7)), (9, (.int .i64 r16.1))], [(7, some ⟨(.row 64 (r16.2.map eA64u8)), false⟩)]⟩) rfl ?_
      refine a_seq ?_
      refine a_region ?_
      refine a_val (v := (.int .i64 1)) (u := []) rfl trivial rfl ?_
      refine a_nil ?_
      refine a_next (σ' := ⟨[(0, (.int .i64 a0)), (1, (.int .i64 a1)), (5, (eSA64u8 r1.1)), (6, (.int .i64 r1.2)), (7, (.osl 7)), (9, (.int .i64 r16.1)), (10, (.int .i64 1))], [(7, some ⟨(.row 64 (r16.2.map eA64u8)), false⟩)]⟩) rfl ?_
      refine a_seq ?_
      refine a_region ?_
      refine a_val (v := (.osl 7)) (u := []) rfl trivial rfl ?_
      refine a_val (v := (.int .i64 1)) (u := []) rfl trivial rfl ?_
      obtain ⟨r19, hr20, h⟩ := bind_some h
      refine a_callB (args := [(eSA64u8 r16.2), (.int .i64 1)]) (u := [(7, some ⟨(.row 64 (r16.2.map eA64u8)), true⟩)]) (r := (.int .i64 r19)) rfl rfl (laws_heldPolyS_ok r16.2 1 r19 hr20) rfl trivial ?_
      refine a_val (v := (.int .i64 r19)) (u := []) rfl trivial rfl ?_
      refine a_nil ?_
      refine a_next (σ' := ⟨[(0, (.int .i64 a0)), (1, (.int .i64 a1)), (5, (eSA64u8 r1.1)), (6, (.int .i64 r1.2)), (7, (.osl 7)), (9, (.int .i64 r16.1)), (10, (.int .i64 r19))], [(7, some ⟨(.row 64 (r16.2.map eA64u8)), false⟩)]⟩) rfl ?_
      refine a_seq ?_
      refine a_seq ?_
      refine a_region ?_
      refine a_val (v := (.int .i64 r19)) (u := []) rfl trivial rfl ?_
      refine a_val (v := (.bool ((decide (r19 < 0))))) (u := []) rfl trivial rfl ?_
      refine a_nil ?_
      refine a_next (σ' := ⟨[(0, (.int .i64 a0)), (1, (.int .i64 a1)), (5, (eSA64u8 r1.1)), (6, (.int .i64 r1.2)), (7, (.osl 7)), (9, (.int .i64 r16.1)), (10, (.int .i64 r19)), (41, (.bool ((decide (r19 < 0)))))], [(7, some ⟨(.row 64 (r16.2.map eA64u8)), false⟩)]⟩) rfl ?_
      cases hb21 : (decide (r19 < 0))
      · have h := ite_f hb21 h
        refine a_cond_f rfl ?_
        refine a_skip ?_
        refine a_next (σ' := ⟨[(0, (.int .i64 a0)), (1, (.int .i64 a1)), (5, (eSA64u8 r1.1)), (6, (.int .i64 r1.2)), (7, (.osl 7)), (9, (.int .i64 r16.1)), (10, (.int .i64 r19))], [(7, some ⟨(.row 64 (r16.2.map eA64u8)), false⟩)]⟩) rfl ?_
        refine a_seq ?_
        refine a_seq ?_
        refine a_region ?_
        refine a_val (v := (.int .i64 r19)) (u := []) rfl trivial rfl ?_
        refine a_val (v := (.int .i64 r16.1)) (u := []) rfl trivial rfl ?_
        refine a_val (v := (.bool (r19 != r16.1))) (u := []) rfl trivial rfl ?_
        refine a_nil ?_
        refine a_next (σ' := ⟨[(0, (.int .i64 a0)), (1, (.int .i64 a1)), (5, (eSA64u8 r1.1)), (6, (.int .i64 r1.2)), (7, (.osl 7)), (9, (.int .i64 r16.1)), (44, (.bool (r19 != r16.1)))], [(7, some ⟨(.row 64 (r16.2.map eA64u8)), false⟩)]⟩) rfl ?_
        cases hb22 : (r19 != r16.1)
        · have h := ite_f hb22 h
          refine a_cond_f rfl ?_
          refine a_skip ?_
          refine a_next (σ' := ⟨[(0, (.int .i64 a0)), (1, (.int .i64 a1)), (5, (eSA64u8 r1.1)), (6, (.int .i64 r1.2)), (7, (.osl 7)), (9, (.int .i64 r16.1))], [(7, some ⟨(.row 64 (r16.2.map eA64u8)), false⟩)]⟩) rfl ?_
          refine a_seq ?_
          refine a_region ?_
          refine a_val (v := (.int .i64 a0)) (u := []) rfl trivial rfl ?_
          refine a_val (v := (.int .i64 a1)) (u := []) rfl trivial rfl ?_
          obtain ⟨r23, hr24, h⟩ := bind_some h
          refine a_call (args := [(.int .i64 a0), (.int .i64 a1)]) (u := []) (r := (.tuple [(eSA64u8 r23.1), (.int .i64 r23.2)])) rfl rfl (impl_MonicPolys_ok a0 a1 r23 hr24) rfl ?_
          refine a_val (v := (.tuple [(eSA64u8 r23.1), (.int .i64 r23.2)])) (u := []) rfl trivial rfl ?_
          refine a_val (v := (eSA64u8 r23.1)) (u := []) rfl (Nat.le_of_ble_eq_true rfl) rfl ?_
          refine a_val (v := (.int .i64 r23.2)) (u := []) rfl (Nat.le_of_ble_eq_true rfl) rfl ?_
          refine a_val (v := (eSA64u8 r23.1)) (u := []) rfl trivial rfl ?_
          refine a_val (v := (.int .i64 r23.2)) (u := []) rfl trivial rfl ?_
          refine a_nil ?_
          refine a_next (σ' := ⟨[(5, (eSA64u8 r1.1)), (6, (.int .i64 r1.2)), (7, (.osl 7)), (9, (.int .i64 r16.1)), (11, (eSA64u8 r23.1)), (12, (.int .i64 r23.2))], [(7, some ⟨(.row 64 (r16.2.map eA64u8)), false⟩)]⟩) rfl ?_
          refine a_seq ?_
          obtain ⟨y29, hy30, hk31⟩ := bind_some h
          clear h
          refine a_join (emb := fun (s : Bool) => ⟨[(7, (.osl 7)), (9, (.int .i64 r16.1)), (59, (.bool s))], [(7, some ⟨(.row 64 (r16.2.map eA64u8)), false⟩)]⟩) (pre := fun s => s = y29) ?_ ?_
          · rintro x28 rfl
            have h := hk31
            refine a_st (σ' := ⟨[(7, (.osl 7)), (9, (.int .i64 r16.1)), (59, (.bool x28))], [(7, some ⟨(.row 64 (r16.2.map eA64u8)), false⟩)]⟩) rfl ?_
            cases hb35 : x28
            · have h := ite_f hb35 h
              refine a_cond_f rfl ?_
              refine a_skip ?_
              refine a_next (σ' := ⟨[(7, (.osl 7)), (9, (.int .i64 r16.1))], [(7, some ⟨(.row 64 (r16.2.map eA64u8)), false⟩)]⟩) rfl ?_
              refine a_seq ?_
              refine a_region ?_
              refine a_val (v := (.int .i64 1)) (u := []) rfl trivial rfl ?_
              refine a_nil ?_
              refine a_next (σ' := ⟨[(7, (.osl 7)), (9, (.int .i64 r16.1)), (10, (.int .i64 1))], [(7, some ⟨(.row 64 (r16.2.map eA64u8)), false⟩)]⟩) rfl ?_
              refine a_seq ?_
              refine a_region ?_
              refine a_val (v := (.osl 7)) (u := []) rfl trivial rfl ?_
              refine a_val (v := (.int .i64 1)) (u := []) rfl trivial rfl ?_
              obtain ⟨r36, hr37, h⟩ := bind_some h
              refine a_callB (args := [(eSA64u8 r16.2), (.int .i64 1)]) (u := [(7, some ⟨(.row 64 (r16.2.map eA64u8)), true⟩)]) (r := (.int .i64 r36)) rfl rfl (laws_heldPolyS_ok r16.2 1 r36 hr37) rfl trivial ?_
              refine a_val (v := (.int .i64 r36)) (u := []) rfl trivial rfl ?_
              refine a_nil ?_
              refine a_next (σ' := ⟨[(9, (.int .i64 r16.1)), (10, (.int .i64 r36))], []⟩) rfl ?_
              refine a_seq ?_
              refine a_seq ?_
              refine a_region ?_
              refine a_val (v := (.int .i64 r36)) (u := []) rfl trivial rfl ?_
              refine a_val (v := (.bool ((decide (r36 < 0))))) (u := []) rfl trivial rfl ?_
              refine a_nil ?_
              refine a_next (σ' := ⟨[(9, (.int .i64 r16.1)), (10, (.int .i64 r36)), (64, (.bool ((decide (r36 < 0)))))], []⟩) rfl ?_
              cases hb38 : (decide (r36 < 0))
              · have h := ite_f hb38 h
                refine a_cond_f rfl ?_
                refine a_skip ?_
                refine a_next (σ' := ⟨[(9, (.int .i64 r16.1)), (10, (.int .i64 r36))], []⟩) rfl ?_
                refine a_seq ?_
                refine a_seq ?_
                refine a_region ?_
                refine a_val (v := (.int .i64 r36)) (u := []) rfl trivial rfl ?_
                refine a_val (v := (.int .i64 r16.1)) (u := []) rfl trivial rfl ?_
                refine a_val (v := (.bool (r36 != r16.1))) (u := []) rfl trivial rfl ?_
                refine a_nil ?_
                refine a_next (σ' := ⟨[(67, (.bool (r36 != r16.1)))], []⟩) rfl ?_
                cases hb39 : (r36 != r16.1)
                · have h := ite_f hb39 h
                  refine a_cond_f rfl ?_
                  refine a_skip ?_
                  refine a_next (σ' := ⟨[], []⟩) rfl ?_
                  refine a_seq ?_
                  refine a_region ?_
                  refine a_val (v := (.bool true)) (u := []) rfl trivial rfl ?_
                  refine a_nil ?_
                  refine a_next rfl ?_
                  refine a_ret ?_
                  refine ⟨.inr rfl, ?_⟩
                  rw [Try.results7]
                  cases h
                  exact ⟨_, _, _, _, _, rfl, trivial, .inl ⟨rfl, .inl rfl⟩, rfl, rfl⟩
                · have h := ite_t hb39 h
                  refine a_cond_t rfl ?_
                  refine a_seq ?_
                  refine a_region ?_
                  refine a_val (v := (.bool false)) (u := []) rfl trivial rfl ?_
                  refine a_nil ?_
                  refine a_next rfl ?_
                  refine a_ret ?_
                  refine t_ret ?_
                  refine ⟨.inr rfl, ?_⟩
                  rw [Try.results7]
                  cases h
                  exact ⟨_, _, _, _, _, rfl, trivial, .inl ⟨rfl, .inl rfl⟩, rfl, rfl⟩
              · have h := ite_t hb38 h
                refine a_cond_t rfl ?_
                refine a_seq ?_
                refine a_region ?_
                refine a_val (v := (.bool false)) (u := []) rfl trivial rfl ?_
                refine a_nil ?_
                refine a_next rfl ?_
                refine a_ret ?_
                refine t_ret ?_
                refine ⟨.inr rfl, ?_⟩
                rw [Try.results7]
                cases h
                exact ⟨_, _, _, _, _, rfl, trivial, .inl ⟨rfl, .inl rfl⟩, rfl, rfl⟩
            · have h := ite_t hb35 h
              refine a_cond_t rfl ?_
              refine a_seq ?_
              refine a_region ?_
              refine a_val (v := (.bool false)) (u := []) rfl trivial rfl ?_
              refine a_nil ?_
              refine a_next rfl ?_
              refine a_ret ?_
              refine t_ret ?_
              refine ⟨.inr rfl, ?_⟩
              rw [Try.results7]
              cases h
              exact ⟨_, _, _, _, _, rfl, trivial, .inl ⟨rfl, .inl rfl⟩, rfl, rfl⟩
          · have h := hy30
            refine a_region ?_
            refine a_val (v := (eSA64u8 r23.1)) (u := []) rfl trivial rfl ?_
            refine a_val (v := (eSA64u8 r1.1)) (u := []) rfl trivial rfl ?_
            obtain ⟨r32, hr33, h⟩ := bind_some h
            refine a_call (args := [(eSA64u8 r23.1), (eSA64u8 r1.1)]) (u := []) (r := (.bool r32)) rfl rfl (laws_eqPolyS_ok r23.1 r1.1 r32 hr33) rfl ?_
            refine a_val (v := (.bool (!r32))) (u := []) rfl trivial rfl ?_
            refine a_val (v := (.bool (!r32))) (u := []) rfl trivial rfl ?_
            cases hb34 : (!r32)
            · have h := ite_f hb34 h
              refine a_gval rfl (v := (.int .i64 r23.2)) (u := []) rfl trivial rfl ?_
              refine a_gval rfl (v := (.int .i64 r1.2)) (u := []) rfl trivial rfl ?_
              refine a_gval rfl (v := (.bool (r23.2 != r1.2))) (u := []) rfl trivial rfl ?_
              refine a_val (v := (.bool (r23.2 != r1.2))) (u := []) rfl trivial rfl ?_
              refine a_nil ?_
              exact j_leaf (r23.2 != r1.2) (Option.some.inj h) rfl
            · have h := ite_t hb34 h
              refine a_gskip rfl ?_
              refine a_gskip rfl ?_
              refine a_gskip rfl ?_
              refine a_val (v := (.bool true)) (u := []) rfl trivial rfl ?_
              refine a_nil ?_
              exact j_leaf true (Option.some.inj h) rfl
        · have h := ite_t hb22 h
          refine a_cond_t rfl ?_
          refine a_seq ?_
          refine a_region ?_
          refine a_val (v := (.bool false)) (u := []) rfl trivial rfl ?_
          refine a_nil ?_
          refine a_next rfl ?_
          refine a_ret ?_
          refine t_ret ?_
          refine ⟨.inr rfl, ?_⟩
          rw [Try.results7]
          cases h
          exact ⟨_, _, _, _, _, rfl, trivial, .inl ⟨rfl, .inl rfl⟩, rfl, rfl⟩
      · have h := ite_t hb21 h
        refine a_cond_t rfl ?_
        refine a_seq ?_
        refine a_region ?_
        refine a_val (v := (.bool false)) (u := []) rfl trivial rfl ?_
        refine a_nil ?_
        refine a_next rfl ?_
        refine a_ret ?_
        refine t_ret ?_
        refine ⟨.inr rfl, ?_⟩
        rw [Try.results7]
        cases h
        exact ⟨_, _, _, _, _, rfl, trivial, .inl ⟨rfl, .inl rfl⟩, rfl, rfl⟩
    · have h := ite_t hb15 h
      refine a_cond_t rfl ?_
      refine a_seq ?_
      refine a_region ?_
      refine a_val (v := (.bool false)) (u := []) rfl trivial rfl ?_
      refine a_nil ?_
      refine a_next rfl ?_
      refine a_ret ?_
      refine t_ret ?_
      refine ⟨.inr rfl, ?_⟩
      rw [Try.results7]
      cases h
      exact ⟨_, _, _, _, _, rfl, trivial, .inl ⟨rfl, .inl rfl⟩, rfl, rfl⟩
  · have h := hy10
    refine a_region ?_
    refine a_val (v := (.osl 7)) (u := []) rfl trivial rfl ?_
    refine a_val (v := (eSA64u8 r1.1)) (u := []) rfl trivial rfl ?_
    obtain ⟨r12, hr13, h⟩ := bind_some h
    refine a_callB (args := [(eSA64u8 r3.1), (eSA64u8 r1.1)]) (u := [(7, some ⟨(.row 64 (r3.1.map eA64u8)), true⟩)]) (r := (.bool r12)) rfl rfl (laws_eqPolyS_ok r3.1 r1.1 r12 hr13) rfl trivial ?_
    refine a_val (v := (.bool (!r12))) (u := []) rfl trivial rfl ?_
    refine a_val (v := (.bool (!r12))) (u := []) rfl trivial rfl ?_
    cases hb14 : (!r12)
    · have h := ite_f hb14 h
      refine a_gval rfl (v := (.int .i64 r3.2)) (u := []) rfl trivial rfl ?_
      refine a_gval rfl (v := (.int .i64 r1.2)) (u := []) rfl trivial rfl ?_
      refine a_gval rfl (v := (.bool (r3.2 != r1.2))) (u := []) rfl trivial rfl ?_
      refine a_val (v := (.bool (r3.2 != r1.2))) (u := []) rfl trivial rfl ?_
      refine a_nil ?_
      exact j_leaf (r3.2 != r1.2) (Option.some.inj h) rfl
    · have h := ite_t hb14 h
      refine a_gskip rfl ?_
      refine a_gskip rfl ?_
      refine a_gskip rfl ?_
      refine a_val (v := (.bool true)) (u := []) rfl trivial rfl ?_
      refine a_nil ?_
      exact j_leaf true (Option.some.inj h) rfl
def spec_l08Code_c : ACode := (.seq (.region 0 [⟨some 6, .asg 0 (.const (.int .i64 0)) 2, none, []⟩] false) (.seq (.block 0 (.seq (.region 1 [⟨some 9, .mov (.tmp 0), none, []⟩, ⟨some 10, .call 0 (.func 56) [(.tmp 9)], none, []⟩, ⟨some 11, .un .not (.tmp 10), none, []⟩, ⟨some 8, .asg 0 (.tmp 11) 4, none, []⟩] false) (.cond (.tmp 8) (.seq (.region 2 [⟨some 6, .asg 0 (.const (.int .i64 1)) 2, none, []⟩] false) .ret) (.seq (.region 3 [⟨some 13, .mov (.tmp 1), none, []⟩, ⟨some 14, .call 0 (.func 57) [(.tmp 13), (.const (.int .i64 0)), (.const (.int .i64 8))], none, []⟩, ⟨some 15, .un .not (.tmp 14), none, []⟩, ⟨some 16, .mov (.tmp 15), none, []⟩, ⟨some 17, .mov (.tmp 0), some (16, false), []⟩, ⟨some 18, .mov (.tmp 1), some (16, false), []⟩, ⟨some 19, .call 0 (.func 65) [(.tmp 17), (.tmp 18)], some (16, false), []⟩, ⟨some 20, .bin .gtr 2 (.tmp 19) (.const (.int .i64 343)), some (16, false), []⟩, ⟨some 21, .pick (.tmp 16) (.const (.bool true)) (.tmp 20), none, []⟩, ⟨some 12, .asg 0 (.tmp 21) 4, none, []⟩] false) (.cond (.tmp 12) (.seq (.region 4 [⟨some 6, .asg 0 (.const (.int .i64 2)) 2, none, []⟩] false) .ret) .skip))))) (.seq (.seq (.region 5 [⟨some 7, .asg 0 (.const (.int .i64 0)) 3, none, []⟩] false) (.block 1 (.loop (.seq (.seq (.region 6 [⟨some 22, .mov (.tmp 7), none, []⟩, ⟨some 23, .mov (.tmp 2), none, []⟩, ⟨some 24, .blt 0 .len [(.tmp 23)] [45], none, []⟩, ⟨some 25, .bin .lss 3 (.tmp 22) (.tmp 24), none, []⟩] false) (.cond (.tmp 25) .skip (.exit 1))) (.seq (.block 2 (.seq (.region 8 [⟨some 28, .mov (.tmp 2), none, []⟩, ⟨some 29, .mov (.tmp 7), none, []⟩, ⟨some 30, .indexAddr 45 (.tmp 28) (.tmp 29), none, []⟩, ⟨some 31, .load 2 (.tmp 30), none, []⟩, ⟨some 32, .call 0 (.func 57) [(.tmp 31), (.const (.int .i64 0)), (.const (.int .i64 40))], none, []⟩, ⟨some 33, .un .not (.tmp 32), none, []⟩] false) (.cond (.tmp 33) (.seq (.region 9 [⟨some 6, .asg 0 (.const (.int .i64 2)) 2, none, []⟩] false) .ret) .skip))) (.region 7 [⟨some 26, .mov (.tmp 7), none, []⟩, ⟨some 27, .bin .add 3 (.tmp 26) (.const (.int .i64 1)), none, []⟩, ⟨some 7, .asg 0 (.tmp 27) 3, none, []⟩] false)))))) (.seq (.region 10 [⟨some 6, .asg 0 (.const (.int .i64 0)) 2, none, []⟩] false) .ret))))
def spec_l08Code_L : Live := [(0, [0, 1, 2]), (1, [0, 1, 2]), (2, []), (3, [0, 1, 2]), (4, []), (5, [2]), (6, [2, 7]), (7, [2, 7]), (8, [2, 7]), (9, []), (10, []), (100008, [0, 1, 2, 8]), (100012, [2, 12]), (100025, [2, 7, 25]), (100033, [2, 7, 33])]
theorem spec_l08Code_body : Try.f87.body = some (Try.f87.body.getD .skip) := by kernel_rfl
theorem spec_l08Code_strip : strip [] (Try.f87.body.getD .skip) = spec_l08Code_c := by kernel_rfl
noncomputable def spec_l08Code_l1 (a2 : (List Int)) (x51 : Int) : Option (Int ⊕ (Unit ⊕ Int)) :=
  (if (decide (x51 < (a2.length : Int))) then (ifp (0 ≤ x51 ∧ x51 < ((a2.length : Nat) : Int)) ((Option.bind (spec_l01In (rd a2 x51.toNat) 0 40) fun r64 => (if (!r64) then (some (.inr (.inr 2))) else (some (.inl (IntKind.i64.wrap (x51 + 1)))))))) else (some (.inr (((.inl ()))))))
noncomputable def spec_l08Code (a0 : Int) (a1 : Int) (a2 : (List Int)) : Option Int :=
  (Option.bind (spec_l01Prime a0) fun r1 => (if (!r1) then (some 1) else (Option.bind (α := Bool) ((Option.bind (spec_l01In a1 0 8) fun r13 => (if (!r13) then (some true) else (Option.bind (spec_l01Count a0 a1) fun r16 => (some ((decide (r16 > 343)))))))) fun x9 => (if x9 then (some 2) else (Option.bind (α := (Unit ⊕ Int)) ((loopM (fun s : Int => spec_l08Code_l1 a2 s) 0)) fun z => match z with | .inl _ => (some 0) | .inr r68 => (some r68))))))
set_option maxHeartbeats 16000000 in
theorem spec_l08Code_ok (a0 : Int) (a1 : Int) (a2 : (List Int)) (r : Int) (h : spec_l08Code a0 a1 a2 = some r) : Den Try.prog 87 [(.int .i64 a0), (.int .i64 a1), (eSi64 a2)] { r := (.int .i64 r) } := by
  refine den_of (rs := [(.int .i64 r)]) (ac := spec_l08Code_c) (L := spec_l08Code_L) (n := 34) (m := []) good Try.func87 spec_l08Code_body (by kernel_rfl) Try.ntmps87 rfl rfl spec_l08Code_strip rfl rfl ?_
  refine a_st (σ' := ⟨[(0, (.int .i64 a0)), (1, (.int .i64 a1)), (2, (eSi64 a2))], []⟩) rfl ?_
  unfold spec_l08Code_c
  refine a_seq ?_
  refine a_region ?_
  refine a_val (v := (.int .i64 0)) (u := []) rfl trivial rfl ?_
  refine a_nil ?_
  refine a_next (σ' := ⟨[(0, (.int .i64 a0)), (1, (.int .i64 a1)), (2, (eSi64 a2))], []⟩) rfl ?_
  refine a_seq ?_
  refine a_block ?_
  refine a_seq ?_
  refine a_region ?_
  refine a_val (v := (.int .i64 a0)) (u := []) rfl trivial rfl ?_
  obtain ⟨r1, hr2, h⟩ := bind_some h
  refine a_call (args := [(.int .i64 a0)]) (u := []) (r := (.bool r1)) rfl rfl (spec_l01Prime_ok a0 r1 hr2) rfl ?_
  refine a_val (v := (.bool (!r1))) (u := []) rfl trivial rfl ?_
  refine a_val (v := (.bool (!r1))) (u := []) rfl trivial rfl ?_
  refine a_nil ?_
  refine a_next (σ' := ⟨[(0, (.int .i64 a0)), (1, (.int .i64 a1)), (2, (eSi64 a2)), (8, (.bool (!r1)))], []⟩) rfl ?_
  cases hb3 : (!r1)
  · have h := ite_f hb3 h
    refine a_cond_f rfl ?_
    obtain ⟨y10, hy11, hk12⟩ := bind_some h
    clear h
    refine a_join (emb := fun (s : Bool) => ⟨[(2, (eSi64 a2)), (12, (.bool s))], []⟩) (pre := fun s => s = y10) ?_ ?_
    · rintro x9 rfl
      have h := hk12
      refine a_st (σ' := ⟨[(2, (eSi64 a2)), (12, (.bool x9))], []⟩) rfl ?_
      cases hb18 : x9
      · have h := ite_f hb18 h
        refine a_cond_f rfl ?_
        refine a_skip ?_
        refine b_norm ?_
        refine a_next (σ' := ⟨[(2, (eSi64 a2))], []⟩) rfl ?_
        obtain ⟨y42, hy43, hk44⟩ := bind_some h
        clear h
        refine a_join (emb := fun (s : Unit) => ⟨[], []⟩) (pre := fun s => (.inl s) = y42) ?_ ?_
        · rintro _ rfl
          have h := hk44
          refine a_st (σ' := ⟨[], []⟩) rfl ?_
          refine a_seq ?_
          refine a_region ?_
          refine a_val (v := (.int .i64 0)) (u := []) rfl trivial rfl ?_
          refine a_nil ?_
          refine a_next rfl ?_
          refine a_ret ?_
          refine ⟨.inr rfl, ?_⟩
          rw [Try.results87]
          cases h
          exact ⟨_, _, _, _, _, rfl, trivial, .inl ⟨rfl, .inl rfl⟩, rfl, rfl⟩
        · have h := hy43
          refine a_seq ?_
          refine a_region ?_
          refine a_val (v := (.int .i64 0)) (u := []) rfl trivial rfl ?_
          refine a_nil ?_
          refine a_next (σ' := ⟨[(2, (eSi64 a2)), (7, (.int .i64 0))], []⟩) rfl ?_
          refine a_block ?_
          refine a_loop (emb := fun (s : Int) => ⟨[(2, (eSi64 a2)), (7, (.int .i64 s))], []⟩) (body := (fun s : Int => spec_l08Code_l1 a2 s)) (G := fun q => some q = some y42) h rfl ?_ rfl
          rintro X58 x51 x59 h hX60
          have h : spec_l08Code_l1 a2 x51 = some x59 := h
          refine a_st (σ' := ⟨[(2, (eSi64 a2)), (7, (.int .i64 x51))], []⟩) rfl ?_
          refine a_seq ?_
          refine a_seq ?_
          refine a_region ?_
          refine a_val (v := (.int .i64 x51)) (u := []) rfl trivial rfl ?_
          refine a_val (v := (eSi64 a2)) (u := []) rfl trivial rfl ?_
          refine a_val (v := (.int .i64 (a2.length : Int))) (u := []) (len_run rfl rfl) trivial rfl ?_
          refine a_val (v := (.bool ((decide (x51 < (a2.length : Int)))))) (u := []) rfl trivial rfl ?_
          refine a_nil ?_
          refine a_next (σ' := ⟨[(2, (eSi64 a2)), (7, (.int .i64 x51)), (25, (.bool ((decide (x51 < (a2.length : Int))))))], []⟩) rfl ?_
          cases hb61 : (decide (x51 < (a2.length : Int)))
          · have h := ite_f hb61 h
            refine a_cond_f rfl ?_
            refine a_exit ?_
            refine t_exit ?_
            cases h
            have h := hX60
            refine t_exit ?_
            refine b_exit ?_
            exact j_leaf () (Option.some.inj h) rfl
          · have h := ite_t hb61 h
            refine a_cond_t rfl ?_
            refine a_skip ?_
            refine a_next (σ' := ⟨[(2, (eSi64 a2)), (7, (.int .i64 x51))], []⟩) rfl ?_
            refine a_seq ?_
            refine a_block ?_
            refine a_seq ?_
            refine a_region ?_
            refine a_val (v := (eSi64 a2)) (u := []) rfl trivial rfl ?_
            refine a_val (v := (.int .i64 x51)) (u := []) rfl trivial rfl ?_
            obtain ⟨hc62, h⟩ := ifp_some h
            refine a_val (v := (.ref (.row 1 (a2.map (AV.int .i64))) [x51.toNat] [x51.toNat * 1])) (u := []) rfl (lmap hc62) rfl ?_
            have hl63 : LdOk [x51.toNat] (.row 1 (a2.map (AV.int .i64))) [x51.toNat * 1] 1 false (.int .i64 (rd a2 x51.toNat)) := (.row (llt hc62) rfl (.nil rfl rfl rfl))
            refine a_val (v := (.int .i64 (rd a2 x51.toNat))) (u := []) (ld_ref (i := ⟨.int .i64, 1, 8, (.int .i64 0)⟩) rfl rfl hl63) hl63.c rfl ?_
            obtain ⟨r64, hr65, h⟩ := bind_some h
            refine a_call (args := [(.int .i64 (rd a2 x51.toNat)), (.int .i64 0), (.int .i64 40)]) (u := []) (r := (.bool r64)) rfl rfl (spec_l01In_ok (rd a2 x51.toNat) 0 40 r64 hr65) rfl ?_
            refine a_val (v := (.bool (!r64))) (u := []) rfl trivial rfl ?_
            refine a_nil ?_
            refine a_next (σ' := ⟨[(2, (eSi64 a2)), (7, (.int .i64 x51)), (33, (.bool (!r64)))], []⟩) rfl ?_
            cases hb66 : (!r64)
            · have h := ite_f hb66 h
              refine a_cond_f rfl ?_
              refine a_skip ?_
              refine b_norm ?_
              refine a_next (σ' := ⟨[(2, (eSi64 a2)), (7, (.int .i64 x51))], []⟩) rfl ?_
              refine a_region ?_
              refine a_val (v := (.int .i64 x51)) (u := []) rfl trivial rfl ?_
              refine a_val (v := (.int .i64 (IntKind.i64.wrap (x51 + 1)))) (u := []) rfl trivial rfl ?_
              refine a_val (v := (.int .i64 (IntKind.i64.wrap (x51 + 1)))) (u := []) rfl trivial rfl ?_
              refine a_nil ?_
              cases h
              exact a_again rfl hX60
            · have h := ite_t hb66 h
              refine a_cond_t rfl ?_
              refine a_seq ?_
              refine a_region ?_
              refine a_val (v := (.int .i64 2)) (u := []) rfl trivial rfl ?_
              refine a_nil ?_
              refine a_next rfl ?_
              refine a_ret ?_
              refine b_ret ?_
              refine t_ret ?_
              cases h
              have h := hX60
              refine t_ret ?_
              refine b_ret ?_
              refine t_ret ?_
              cases h
              have h := hk44
              refine ⟨.inr rfl, ?_⟩
              rw [Try.results87]
              cases h
              exact ⟨_, _, _, _, _, rfl, trivial, .inl ⟨rfl, .inl rfl⟩, rfl, rfl⟩
      · have h := ite_t hb18 h
        refine a_cond_t rfl ?_
        refine a_seq ?_
        refine a_region ?_
        refine a_val (v := (.int .i64 2)) (u := []) rfl trivial rfl ?_
        refine a_nil ?_
        refine a_next rfl ?_
        refine a_ret ?_
        refine b_ret ?_
        refine t_ret ?_
        refine ⟨.inr rfl, ?_⟩
        rw [Try.results87]
        cases h
        exact ⟨_, _, _, _, _, rfl, trivial, .inl ⟨rfl, .inl rfl⟩, rfl, rfl⟩
    · have h := hy11
      refine a_region ?_
      refine a_val (v := (.int .i64 a1)) (u := []) rfl trivial rfl ?_
      obtain ⟨r13, hr14, h⟩ := bind_some h
      refine a_call (args := [(.int .i64 a1), (.int .i64 0), (.int .i64 8)]) (u := []) (r := (.bool r13)) rfl rfl (spec_l01In_ok a1 0 8 r13 hr14) rfl ?_
      refine a_val (v := (.bool (!r13))) (u := []) rfl trivial rfl ?_
      refine a_val (v := (.bool (!r13))) (u := []) rfl trivial rfl ?_
      cases hb15 : (!r13)
      · have h := ite_f hb15 h
        refine a_gval rfl (v := (.int .i64 a0)) (u := []) rfl trivial rfl ?_
        refine a_gval rfl (v := (.int .i64 a1)) (u := []) rfl trivial rfl ?_
        obtain ⟨r16, hr17, h⟩ := bind_some h
        refine a_gcall rfl (args := [(.int .i64 a0), (.int .i64 a1)]) (u := []) (r := (.int .i64 r16)) rfl rfl (spec_l01Count_ok a0 a1 r16 hr17) rfl ?_
        refine a_gval rfl (v := (.bool ((decide (r16 > 343))))) (u := []) rfl trivial rfl ?_
        refine a_val (v := (.bool ((decide (r16 > 343))))) (u := []) rfl trivial rfl ?_
        refine a_val (v := (.bool ((decide (r16 > 343))))) (u := []) rfl trivial rfl ?_
        refine a_nil ?_
        exact j_leaf ((decide (r16 > 343))) (Option.some.inj h) rfl
      · have h := ite_t hb15 h
        refine a_gskip rfl ?_
        refine a_gskip rfl ?_
        refine a_gskip rfl ?_
        refine a_gskip rfl ?_
        refine a_val (v := (.bool true)) (u := []) rfl trivial rfl ?_
        refine a_val (v := (.bool true)) (u := []) rfl trivial rfl ?_
        refine a_nil ?_
        exact j_leaf true (Option.some.inj h) rfl
  · have h := ite_t hb3 h
    refine a_cond_t rfl ?_
    refine a_seq ?_
    refine a_region ?_
    refine a_val (v := (.int .i64 1)) (u := []) rfl trivial rfl ?_
    refine a_nil ?_
    refine a_next rfl ?_
    refine a_ret ?_
    refine b_ret ?_
    refine t_ret ?_
    refine ⟨.inr rfl, ?_⟩
    rw [Try.results87]
    cases h
    exact ⟨_, _, _, _, _, rfl, trivial, .inl ⟨rfl, .inl rfl⟩, rfl, rfl⟩
def impl_prime_isSummed_c : ACode := (.seq (.region 0 [⟨some 4, .asg 0 (.const (.bool false)) 4, none, []⟩] false) (.seq (.region 1 [⟨some 5, .mov (.tmp 0), none, []⟩, ⟨some 6, .mov (.tmp 1), none, []⟩, ⟨some 7, .call 0 (.func 67) [(.tmp 5), (.tmp 6), (.const (.int .i64 343))], none, []⟩, ⟨some 8, .bin .leq 2 (.tmp 7) (.const (.int .i64 343)), none, []⟩, ⟨some 4, .asg 0 (.tmp 8) 4, none, []⟩] false) .ret))
def impl_prime_isSummed_L : Live := [(0, [0, 1]), (1, [0, 1])]
theorem impl_prime_isSummed_body : Try.f124.body = some (Try.f124.body.getD .skip) := by kernel_rfl
theorem impl_prime_isSummed_strip : strip [] (Try.f124.body.getD .skip) = impl_prime_isSummed_c := by kernel_rfl
noncomputable def impl_prime_isSummed (a0 : Int) (a1 : Int) : Option Bool :=
  (Option.bind (impl_prime_norm a0 a1 343) fun r1 => (some ((decide (r1 ≤ 343)))))
set_option maxHeartbeats 16000000 in
theorem impl_prime_isSummed_ok (a0 : Int) (a1 : Int) (r : Bool) (h : impl_prime_isSummed a0 a1 = some r) : Den Try.prog 124 [(.int .i64 a0), (.int .i64 a1)] { r := (.bool r) } := by
  refine den_of (rs := [(.bool r)]) (ac := impl_prime_isSummed_c) (L := impl_prime_isSummed_L) (n := 9) (m := []) good Try.func124 impl_prime_isSummed_body (by kernel_rfl) Try.ntmps124 rfl rfl impl_prime_isSummed_strip rfl rfl ?_
  refine a_st (σ' := ⟨[(0, (.int .i64 a0)), (1, (.int .i64 a1))], []⟩) rfl ?_
  unfold impl_prime_isSummed_c
  refine a_seq ?_
  refine a_region ?_
  refine a_val (v := (.bool false)) (u := []) rfl trivial rfl ?_
  refine a_nil ?_
  refine a_next (σ' := ⟨[(0, (.int .i64 a0)), (1, (.int .i64 a1))], []⟩) rfl ?_
  refine a_seq ?_
  refine a_region ?_
  refine a_val (v := (.int .i64 a0)) (u := []) rfl trivial rfl ?_
  refine a_val (v := (.int .i64 a1)) (u := []) rfl trivial rfl ?_
  obtain ⟨r1, hr2, h⟩ := bind_some h
  refine a_call (args := [(.int .i64 a0), (.int .i64 a1), (.int .i64 343)]) (u := []) (r := (.int .i64 r1)) rfl rfl (impl_prime_norm_ok a0 a1 343 r1 hr2) rfl ?_
  refine a_val (v := (.bool ((decide (r1 ≤ 343))))) (u := []) rfl trivial rfl ?_
  refine a_val (v := (.bool ((decide (r1 ≤ 343))))) (u := []) rfl trivial rfl ?_
  refine a_nil ?_
  refine a_next rfl ?_
  refine a_ret ?_
  refine ⟨.inr rfl, ?_⟩
  rw [Try.results124]
  cases h
  exact ⟨_, _, _, _, _, rfl, trivial, .inl ⟨rfl, .inl rfl⟩, rfl, rfl⟩
def impl_prime_isSumDegree_c : ACode := (.seq (.region 0 [⟨some 4, .asg 0 (.const (.bool false)) 4, none, []⟩] false) (.seq (.region 1 [⟨some 5, .mov (.tmp 1), none, []⟩, ⟨some 6, .call 0 (.func 66) [(.tmp 5), (.const (.int .i64 0)), (.const (.int .i64 8))], none, []⟩, ⟨some 7, .mov (.tmp 6), none, []⟩, ⟨some 8, .mov (.tmp 0), some (7, true), []⟩, ⟨some 9, .mov (.tmp 1), some (7, true), []⟩, ⟨some 10, .call 0 (.func 124) [(.tmp 8), (.tmp 9)], some (7, true), []⟩, ⟨some 11, .pick (.tmp 7) (.tmp 10) (.const (.bool false)), none, []⟩, ⟨some 4, .asg 0 (.tmp 11) 4, none, []⟩] false) .ret))
def impl_prime_isSumDegree_L : Live := [(0, [0, 1]), (1, [0, 1])]
theorem impl_prime_isSumDegree_body : Try.f90.body = some (Try.f90.body.getD .skip) := by kernel_rfl
theorem impl_prime_isSumDegree_strip : strip [] (Try.f90.body.getD .skip) = impl_prime_isSumDegree_c := by kernel_rfl
noncomputable def impl_prime_isSumDegree (a0 : Int) (a1 : Int) : Option Bool :=
  (Option.bind (impl_within a1 0 8) fun r1 => (if r1 then (Option.bind (impl_prime_isSummed a0 a1) fun r4 => (some r4)) else (some false)))
set_option maxHeartbeats 16000000 in
theorem impl_prime_isSumDegree_ok (a0 : Int) (a1 : Int) (r : Bool) (h : impl_prime_isSumDegree a0 a1 = some r) : Den Try.prog 90 [(.int .i64 a0), (.int .i64 a1)] { r := (.bool r) } := by
  refine den_of (rs := [(.bool r)]) (ac := impl_prime_isSumDegree_c) (L := impl_prime_isSumDegree_L) (n := 12) (m := []) good Try.func90 impl_prime_isSumDegree_body (by kernel_rfl) Try.ntmps90 rfl rfl impl_prime_isSumDegree_strip rfl rfl ?_
  refine a_st (σ' := ⟨[(0, (.int .i64 a0)), (1, (.int .i64 a1))], []⟩) rfl ?_
  unfold impl_prime_isSumDegree_c
  refine a_seq ?_
  refine a_region ?_
  refine a_val (v := (.bool false)) (u := []) rfl trivial rfl ?_
  refine a_nil ?_
  refine a_next (σ' := ⟨[(0, (.int .i64 a0)), (1, (.int .i64 a1))], []⟩) rfl ?_
  refine a_seq ?_
  refine a_region ?_
  refine a_val (v := (.int .i64 a1)) (u := []) rfl trivial rfl ?_
  obtain ⟨r1, hr2, h⟩ := bind_some h
  refine a_call (args := [(.int .i64 a1), (.int .i64 0), (.int .i64 8)]) (u := []) (r := (.bool r1)) rfl rfl (impl_within_ok a1 0 8 r1 hr2) rfl ?_
  refine a_val (v := (.bool r1)) (u := []) rfl trivial rfl ?_
  cases hb3 : r1
  · have h := ite_f hb3 h
    refine a_gskip rfl ?_
    refine a_gskip rfl ?_
    refine a_gskip rfl ?_
    refine a_val (v := (.bool false)) (u := []) rfl trivial rfl ?_
    refine a_val (v := (.bool false)) (u := []) rfl trivial rfl ?_
    refine a_nil ?_
    refine a_next rfl ?_
    refine a_ret ?_
    refine ⟨.inr rfl, ?_⟩
    rw [Try.results90]
    cases h
    exact ⟨_, _, _, _, _, rfl, trivial, .inl ⟨rfl, .inl rfl⟩, rfl, rfl⟩
  · have h := ite_t hb3 h
    refine a_gval rfl (v := (.int .i64 a0)) (u := []) rfl trivial rfl ?_
    refine a_gval rfl (v := (.int .i64 a1)) (u := []) rfl trivial rfl ?_
    obtain ⟨r4, hr5, h⟩ := bind_some h
    refine a_gcall rfl (args := [(.int .i64 a0), (.int .i64 a1)]) (u := []) (r := (.bool r4)) rfl rfl (impl_prime_isSummed_ok a0 a1 r4 hr5) rfl ?_
    refine a_val (v := (.bool r4)) (u := []) rfl trivial rfl ?_
    refine a_val (v := (.bool r4)) (u := []) rfl trivial rfl ?_
    refine a_nil ?_
    refine a_next rfl ?_
    refine a_ret ?_
    refine ⟨.inr rfl, ?_⟩
    rw [Try.results90]
    cases h
    exact ⟨_, _, _, _, _, rfl, trivial, .inl ⟨rfl, .inl rfl⟩, rfl, rfl⟩
end Go.Proofs.Ytacebpbhddkelaa
