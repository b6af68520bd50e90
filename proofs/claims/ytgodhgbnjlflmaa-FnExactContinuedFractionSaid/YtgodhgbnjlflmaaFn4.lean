/- Functions of the program: plain Lean functions, and that the program computes them. Printed by gen.py. -/
import Derived.Test.YtgodhgbnjlflmaaFnT
import Derived.Test.YtgodhgbnjlflmaaFn1
import Derived.Test.YtgodhgbnjlflmaaFn2
import Derived.Test.YtgodhgbnjlflmaaFn3
namespace Go.Proofs.Ytgodhgbnjlflmaa
open Go.Abs Go.Proofs
set_option linter.unusedSimpArgs false
set_option linter.unusedVariables false

def laws_heldPolyS_c : ACode := (.seq (.region 0 [⟨some 4, .asg 0 (.const (.int .i64 0)) 3, none, []⟩] false) (.seq (.seq (.region 1 [⟨some 5, .asg 0 (.const (.int .i64 0)) 3, none, []⟩] false) (.block 0 (.loop (.seq (.seq (.region 2 [⟨some 7, .mov (.tmp 5), none, []⟩, ⟨some 8, .mov (.tmp 0), none, []⟩, ⟨some 9, .blt 0 .len [(.tmp 8)] [30], none, []⟩, ⟨some 10, .bin .lss 3 (.tmp 7) (.tmp 9), none, []⟩] false) (.cond (.tmp 10) .skip (.exit 0))) (.seq (.block 1 (.seq (.region 4 [⟨some 6, .asg 0 (.const (.int .i64 0)) 3, none, []⟩] false) (.block 2 (.loop (.seq (.seq (.region 5 [⟨some 13, .mov (.tmp 6), none, []⟩, ⟨some 14, .bin .lss 3 (.tmp 13) (.const (.int .i64 64)), none, []⟩] false) (.cond (.tmp 14) .skip (.exit 2))) (.seq (.block 3 (.seq (.seq (.region 7 [⟨some 17, .mov (.tmp 0), none, []⟩, ⟨some 18, .mov (.tmp 5), none, []⟩, ⟨some 19, .mov (.tmp 6), none, []⟩, ⟨some 20, .indexAddr 30 (.tmp 17) (.tmp 18), none, []⟩, ⟨some 21, .indexAddr 23 (.tmp 20) (.tmp 19), none, []⟩, ⟨some 22, .load 5 (.tmp 21), none, []⟩, ⟨some 23, .mov (.tmp 1), none, []⟩, ⟨some 24, .conv 3 5 (.tmp 23), none, []⟩, ⟨some 25, .bin .neq 5 (.tmp 22) (.tmp 24), none, []⟩] false) (.cond (.tmp 25) (.seq (.region 8 [⟨some 4, .asg 0 (.const (.int .i64 (-1))) 3, none, []⟩] false) .ret) .skip)) (.region 9 [⟨some 26, .mov (.tmp 1), none, []⟩, ⟨some 27, .bin .add 3 (.tmp 26) (.const (.int .i64 1)), none, []⟩, ⟨some 1, .asg 0 (.tmp 27) 3, none, []⟩] false))) (.region 6 [⟨some 15, .mov (.tmp 6), none, []⟩, ⟨some 16, .bin .add 3 (.tmp 15) (.const (.int .i64 1)), none, []⟩, ⟨some 6, .asg 0 (.tmp 16) 3, none, []⟩] false))))))) (.region 3 [⟨some 11, .mov (.tmp 5), none, []⟩, ⟨some 12, .bin .add 3 (.tmp 11) (.const (.int .i64 1)), none, []⟩, ⟨some 5, .asg 0 (.tmp 12) 3, none, []⟩] false)))))) (.seq (.region 10 [⟨some 28, .mov (.tmp 1), none, []⟩, ⟨some 4, .asg 0 (.tmp 28) 3, none, []⟩] false) .ret)))
def laws_heldPolyS_L : Live := [(0, [0, 1]), (1, [0, 1]), (2, [0, 1, 5]), (3, [0, 1, 5]), (4, [0, 1, 5]), (5, [0, 1, 5, 6]), (6, [0, 1, 5, 6]), (7, [0, 1, 5, 6]), (8, []), (9, [0, 1, 5, 6]), (10, [1]), (100010, [0, 1, 5, 10]), (100014, [0, 1, 5, 6, 14]), (100025, [0, 1, 5, 6, 25])]
theorem laws_heldPolyS_body : Try.f25.body = some (Try.f25.body.getD .skip) := by kernel_rfl
theorem laws_heldPolyS_strip : strip [] (Try.f25.body.getD .skip) = laws_heldPolyS_c := by kernel_rfl
noncomputable def laws_heldPolyS_l2 (x240 : Int) (a0 : (List (Vec Int 64))) (x343 : Int) (x344 : Int) : Option ((Int × Int) ⊕ (Int ⊕ Int)) :=
  (if (decide (x344 < 64)) then (ifp (0 ≤ x240 ∧ x240 < ((a0.length : Nat) : Int)) ((ifp (0 ≤ x344 ∧ x344 < ((64 : Nat) : Int)) ((letp ((((rd (rd a0 x240.toNat).1 x344.toNat)) != (IntKind.u8.wrap x343))) fun x359 => (if x359 then (some (.inr ((.inr (-1))))) else (some (.inl ((IntKind.i64.wrap (x343 + 1), IntKind.i64.wrap (x344 + 1))))))))))) else (some (.inr (.inl x343))))
noncomputable def laws_heldPolyS_l1 (a0 : (List (Vec Int 64))) (x239 : Int) (x240 : Int) : Option ((Int × Int) ⊕ (Int ⊕ Int)) :=
  (if (decide (x240 < (a0.length : Int))) then (Option.bind (α := (Int ⊕ Int)) ((loopM (fun s : (Int × Int) => laws_heldPolyS_l2 x240 a0 s.1 s.2) (x239, 0))) fun z => match z with | .inl x332 => (some (.inl ((x332, IntKind.i64.wrap (x240 + 1))))) | .inr r363 => (some (.inr (.inr r363)))) else (some (.inr (.inl x239))))
noncomputable def laws_heldPolyS (a0 : (List (Vec Int 64))) (a1 : Int) : Option Int :=
  (Option.bind (α := (Int ⊕ Int)) ((loopM (fun s : (Int × Int) => laws_heldPolyS_l1 a0 s.1 s.2) (a1, 0))) fun z => match z with | .inl x179 => (some x179) | .inr r365 => (some r365))
set_option maxHeartbeats 16000000 in
theorem laws_heldPolyS_ok (a0 : (List (Vec Int 64))) (a1 : Int) (r : Int) (h : laws_heldPolyS a0 a1 = some r) : Den Try.prog 25 [(eSA64u8 a0), (.int .i64 a1)] { r := (.int .i64 r) } := by
  refine den_of (rs := [(.int .i64 r)]) (ac := laws_heldPolyS_c) (L := laws_heldPolyS_L) (n := 29) (m := []) good Try.func25 laws_heldPolyS_body (by kernel_rfl) Try.ntmps25 rfl rfl laws_heldPolyS_strip rfl rfl ?_
  refine a_st (σ' := ⟨[(0, (eSA64u8 a0)), (1, (.int .i64 a1))], []⟩) rfl ?_
  unfold laws_heldPolyS_c
  refine a_seq ?_
  refine a_region ?_
  refine a_val (v := (.int .i64 0)) (u := []) rfl trivial rfl ?_
  refine a_nil ?_
  refine a_next (σ' := ⟨[(0, (eSA64u8 a0)), (1, (.int .i64 a1))], []⟩) rfl ?_
  obtain ⟨y180, hy181, hk182⟩ := bind_some h
  clear h
  refine a_join (emb := fun (s : Int) => ⟨[(1, (.int .i64 s))], []⟩) (pre := fun s => (.inl s) = y180) ?_ ?_
  · rintro x179 rfl
    have h := hk182
    refine a_st (σ' := ⟨[(1, (.int .i64 x179))], []⟩) rfl ?_
    refine a_seq ?_
    refine a_region ?_
    refine a_val (v := (.int .i64 x179)) (u := []) rfl trivial rfl ?_
    refine a_val (v := (.int .i64 x179)) (u := []) rfl trivial rfl ?_
    refine a_nil ?_
    refine a_next rfl ?_
    refine a_ret ?_
    refine ⟨.inr rfl, ?_⟩
    rw [Try.results25]
    cases h
    exact ⟨_, _, _, _, _, rfl, trivial, .inl ⟨rfl, .inl rfl⟩, rfl, rfl⟩
  · have h := hy181
    refine a_seq ?_
    refine a_region ?_
    refine a_val (v := (.int .i64 0)) (u := []) rfl trivial rfl ?_
    refine a_nil ?_
    refine a_next (σ' := ⟨[(0, (eSA64u8 a0)), (1, (.int .i64 a1)), (5, (.int .i64 0))], []⟩) rfl ?_
    refine a_block ?_
    refine a_loop (emb := fun (s : (Int × Int)) => ⟨[(0, (eSA64u8 a0)), (1, (.int .i64 s.1)), (5, (.int .i64 s.2))], []⟩) (body := (fun s : (Int × Int) => laws_heldPolyS_l1 a0 s.1 s.2)) (G := fun q => some q = some y180) h rfl ?_ rfl
    rintro X301 ⟨x239, x240⟩ x302 h hX303
    have h : laws_heldPolyS_l1 a0 x239 x240 = some x302 := h
    refine a_st (σ' := ⟨[(0, (eSA64u8 a0)), (1, (.int .i64 x239)), (5, (.int .i64 x240))], []⟩) rfl ?_
    refine a_seq ?_
    refine a_seq ?_
    refine a_region ?_
    refine a_val (v := (.int .i64 x240)) (u := []) rfl trivial rfl ?_
    refine a_val (v := (eSA64u8 a0)) (u := []) rfl trivial rfl ?_
    refine a_val (v := (.int .i64 (a0.length : Int))) (u := []) (len_run rfl rfl) trivial rfl ?_
    refine a_val (v := (.bool ((decide (x240 < (a0.length : Int)))))) (u := []) rfl trivial rfl ?_
    refine a_nil ?_
    refine a_next (σ' := ⟨[(0, (eSA64u8 a0)), (1, (.int .i64 x239)), (5, (.int .i64 x240)), (10, (.bool ((decide (x240 < (a0.length : Int))))))], []⟩) rfl ?_
    cases hb304 : (decide (x240 < (a0.length : Int)))
    · have h := ite_f hb304 h
      refine a_cond_f rfl ?_
      refine a_exit ?_
      refine t_exit ?_
      cases h
      have h := hX303
      refine t_exit ?_
      refine b_exit ?_
      exact j_leaf x239 (Option.some.inj h) rfl
    · have h := ite_t hb304 h
      refine a_cond_t rfl ?_
      refine a_skip ?_
      refine a_next (σ' := ⟨[(0, (eSA64u8 a0)), (1, (.int .i64 x239)), (5, (.int .i64 x240))], []⟩) rfl ?_
      obtain ⟨y333, hy334, hk335⟩ := bind_some h
      clear h
      refine a_join (emb := fun (s : Int) => ⟨[(0, (eSA64u8 a0)), (1, (.int .i64 s)), (5, (.int .i64 x240))], []⟩) (pre := fun s => (.inl s) = y333) ?_ ?_
      · rintro x332 rfl
        have h := hk335
        refine a_st (σ' := ⟨[(0, (eSA64u8 a0)), (1, (.int .i64 x332)), (5, (.int .i64 x240))], []⟩) rfl ?_
        refine a_region ?_
        refine a_val (v := (.int .i64 x240)) (u := []) rfl trivial rfl ?_
        refine a_val (v := (.int .i64 (IntKind.i64.wrap (x240 + 1)))) (u := []) rfl trivial rfl ?_
        refine a_val (v := (.int .i64 (IntKind.i64.wrap (x240 + 1)))) (u := []) rfl trivial rfl ?_
        refine a_nil ?_
        cases h
        exact a_again rfl hX303
      · have h := hy334
        refine a_block ?_
        refine a_seq ?_
        refine a_region ?_
        refine a_val (v := (.int .i64 0)) (u := []) rfl trivial rfl ?_
        refine a_nil ?_
        refine a_next (σ' := ⟨[(0, (eSA64u8 a0)), (1, (.int .i64 x239)), (5, (.int .i64 x240)), (6, (.int .i64 0))], []⟩) rfl ?_
        refine a_block ?_
        refine a_loop (emb := fun (s : (Int × Int)) => ⟨[(0, (eSA64u8 a0)), (1, (.int .i64 s.1)), (5, (.int .i64 x240)), (6, (.int .i64 s.2))], []⟩) (body := (fun s : (Int × Int) => laws_heldPolyS_l2 x240 a0 s.1 s.2)) (G := fun q => some q = some y333) h rfl ?_ rfl
        rintro X352 ⟨x343, x344⟩ x353 h hX354
        have h : laws_heldPolyS_l2 x240 a0 x343 x344 = some x353 := h
        refine a_st (σ' := ⟨[(0, (eSA64u8 a0)), (1, (.int .i64 x343)), (5, (.int .i64 x240)), (6, (.int .i64 x344))], []⟩) rfl ?_
        refine a_seq ?_
        refine a_seq ?_
        refine a_region ?_
        refine a_val (v := (.int .i64 x344)) (u := []) rfl trivial rfl ?_
        refine a_val (v := (.bool ((decide (x344 < 64))))) (u := []) rfl trivial rfl ?_
        refine a_nil ?_
        refine a_next (σ' := ⟨[(0, (eSA64u8 a0)), (1, (.int .i64 x343)), (5, (.int .i64 x240)), (6, (.int .i64 x344)), (14, (.bool ((decide (x344 < 64)))))], []⟩) rfl ?_
        cases hb355 : (decide (x344 < 64))
        · have h := ite_f hb355 h
          refine a_cond_f rfl ?_
          refine a_exit ?_
          refine t_exit ?_
          cases h
          have h := hX354
          refine t_exit ?_
          refine b_exit ?_
          refine b_norm ?_
          exact j_leaf x343 (Option.some.inj h) rfl
        · have h := ite_t hb355 h
          refine a_cond_t rfl ?_
          refine a_skip ?_
          refine a_next (σ' := ⟨[(0, (eSA64u8 a0)), (1, (.int .i64 x343)), (5, (.int .i64 x240)), (6, (.int .i64 x344))], []⟩) rfl ?_
          refine a_seq ?_
          refine a_block ?_
          refine a_seq ?_
          refine a_seq ?_
          refine a_region ?_
          refine a_val (v := (eSA64u8 a0)) (u := []) rfl trivial rfl ?_
          refine a_val (v := (.int .i64 x240)) (u := []) rfl trivial rfl ?_
          refine a_val (v := (.int .i64 x344)) (u := []) rfl trivial rfl ?_
          obtain ⟨hc356, h⟩ := ifp_some h
          refine a_val (v := (.ref (.row 64 (a0.map eA64u8)) [x240.toNat] [x240.toNat * 64])) (u := []) rfl (lmap hc356) rfl ?_
          obtain ⟨hc357, h⟩ := ifp_some h
          refine a_val (v := (.ref (.row 64 (a0.map eA64u8)) [x240.toNat, x344.toNat] [x240.toNat * 64, x344.toNat * 1])) (u := []) rfl hc357 rfl ?_
          have hl358 : LdOk [x240.toNat, x344.toNat] (.row 64 (a0.map eA64u8)) [x240.toNat * 64, x344.toNat * 1] 1 false (.int .u8 ((rd (rd a0 x240.toNat).1 x344.toNat))) := (.row (llt hc356) rfl (.arr (vlt (rd a0 x240.toNat) hc357) rfl (.nil rfl rfl rfl)))
          refine a_val (v := (.int .u8 ((rd (rd a0 x240.toNat).1 x344.toNat)))) (u := []) (ld_ref (i := ⟨.int .u8, 1, 1, (.int .u8 0)⟩) rfl rfl hl358) hl358.c rfl ?_
          refine a_val (v := (.int .i64 x343)) (u := []) rfl trivial rfl ?_
          refine a_val (v := (.int .u8 (IntKind.u8.wrap x343))) (u := []) rfl trivial rfl ?_
          obtain ⟨x359, hx360, h⟩ := letp_some h
          refine a_val' (v := (.bool ((((rd (rd a0 x240.toNat).1 x344.toNat)) != (IntKind.u8.wrap x343))))) (v' := (.bool x359)) (u := []) (u' := []) rfl (congrArg (fun z => ((.bool z) : AV)) hx360) rfl trivial rfl ?_
          refine a_nil ?_
          refine a_next (σ' := ⟨[(0, (eSA64u8 a0)), (1, (.int .i64 x343)), (5, (.int .i64 x240)), (6, (.int .i64 x344)), (25, (.bool x359))], []⟩) rfl ?_
          cases hb361 : x359
          · have h := ite_f hb361 h
            refine a_cond_f rfl ?_
            refine a_skip ?_
            refine a_next (σ' := ⟨[(0, (eSA64u8 a0)), (1, (.int .i64 x343)), (5, (.int .i64 x240)), (6, (.int .i64 x344))], []⟩) rfl ?_
            refine a_region ?_
            refine a_val (v := (.int .i64 x343)) (u := []) rfl trivial rfl ?_
            refine a_val (v := (.int .i64 (IntKind.i64.wrap (x343 + 1)))) (u := []) rfl trivial rfl ?_
            refine a_val (v := (.int .i64 (IntKind.i64.wrap (x343 + 1)))) (u := []) rfl trivial rfl ?_
            refine a_nil ?_
            refine b_norm ?_
            refine a_next (σ' := ⟨[(0, (eSA64u8 a0)), (1, (.int .i64 (IntKind.i64.wrap (x343 + 1)))), (5, (.int .i64 x240)), (6, (.int .i64 x344))], []⟩) rfl ?_
            refine a_region ?_
            refine a_val (v := (.int .i64 x344)) (u := []) rfl trivial rfl ?_
            refine a_val (v := (.int .i64 (IntKind.i64.wrap (x344 + 1)))) (u := []) rfl trivial rfl ?_
            refine a_val (v := (.int .i64 (IntKind.i64.wrap (x344 + 1)))) (u := []) rfl trivial rfl ?_
            refine a_nil ?_
            cases h
            exact a_again rfl hX354
          · have h := ite_t hb361 h
            refine a_cond_t rfl ?_
            refine a_seq ?_
            refine a_region ?_
            refine a_val (v := (.int .i64 (-1))) (u := []) rfl trivial rfl ?_
            refine a_nil ?_
            refine a_next rfl ?_
            refine a_ret ?_
            refine t_ret ?_
            refine b_ret ?_
            refine t_ret ?_
            cases h
            have h := hX354
            refine t_ret ?_
            refine b_ret ?_
            refine b_ret ?_
            refine t_ret ?_
            cases h
            have h := hk335
            cases h
            have h := hX303
            refine t_ret ?_
            refine b_ret ?_
            refine t_ret ?_
            cases h
            have h := hk182
            refine ⟨.inr rfl, ?_⟩
            rw [Try.results25]
            cases h
            exact ⟨_, _, _, _, _, rfl, trivial, .inl ⟨rfl, .inl rfl⟩, rfl, rfl⟩
def impl_polys_c : ACode := (.seq (.region 0 [⟨some 2, .asg 1 (.const (.slice none 0 0)) 30, none, []⟩] false) (.seq (.region 1 [⟨some 3, .asg 2 (.const (.slice none 0 0)) 30, none, []⟩] false) (.seq (.seq (.region 2 [⟨some 6, .mov (.tmp 0), none, []⟩, ⟨some 7, .blt 0 .len [(.tmp 6)] [72], none, []⟩, ⟨some 8, .mov (.const (.int .i64 0)), none, []⟩] false) (.block 0 (.loop (.seq (.region 3 [⟨some 9, .bin .lss 3 (.tmp 8) (.tmp 7), none, []⟩] false) (.seq (.cond (.tmp 9) .skip (.exit 0)) (.seq (.block 1 (.seq (.region 4 [⟨some 10, .indexAddr 72 (.tmp 6) (.tmp 8), none, []⟩, ⟨some 11, .load 64 (.tmp 10), none, []⟩, ⟨some 5, .asg 1 (.tmp 11) 64, none, []⟩] false) (.region 5 [⟨some 12, .mov (.tmp 3), none, []⟩, ⟨some 13, .mov (.tmp 5), none, []⟩, ⟨some 14, .call 0 (.func 101) [(.tmp 13)], none, []⟩, ⟨some 15, .bslice 0 30 1 [(0, (.tmp 14))], none, []⟩, ⟨some 16, .blt 0 .append [(.tmp 12), (.tmp 15)] [30, 30], none, []⟩, ⟨some 3, .asg 2 (.tmp 16) 30, none, []⟩] false))) (.region 6 [⟨some 17, .bin .add 3 (.tmp 8) (.const (.int .i64 1)), none, []⟩, ⟨some 8, .mov (.tmp 17), none, []⟩] false))))))) (.seq (.region 7 [⟨some 18, .mov (.tmp 3), none, []⟩, ⟨some 2, .asg 1 (.tmp 18) 30, none, []⟩] false) .ret))))
def impl_polys_L : Live := [(0, [0]), (1, [0]), (2, [0, 3]), (3, [3, 6, 7, 8]), (4, [3, 6, 7, 8]), (5, [3, 5, 6, 7, 8]), (6, [3, 6, 7, 8]), (7, [3]), (100009, [3, 6, 7, 8, 9])]
theorem impl_polys_body : Try.f70.body = some (Try.f70.body.getD .skip) := by kernel_rfl
theorem impl_polys_strip : strip [(2, 1), (3, 2), (5, 1)] (Try.f70.body.getD .skip) = impl_polys_c := by kernel_rfl
noncomputable def impl_polys_l1 (a0 : (List (List Int))) (x35 : Int) (x36 : (List (Vec Int 64))) : Option ((Int × (List (Vec Int 64))) ⊕ (List (Vec Int 64))) :=
  (if (decide (x35 < (a0.length : Int))) then (ifp (0 ≤ x35 ∧ x35 < ((a0.length : Nat) : Int)) ((Option.bind (impl_row_poly (rd a0 x35.toNat)) fun r49 => (ifp ((x36.length + ([r49] : List (Vec Int 64)).length) * 64 ≤ 140737488355328) ((some (.inl ((IntKind.i64.wrap (x35 + 1), (x36 ++ ([r49]))))))))))) else (some (.inr x36)))
noncomputable def impl_polys (a0 : (List (List Int))) : Option (List (Vec Int 64)) :=
  (Option.bind (α := (List (Vec Int 64))) ((loopM (fun s : (Int × (List (Vec Int 64))) => impl_polys_l1 a0 s.1 s.2) (0, []))) fun x25 => (some x25))
set_option maxHeartbeats 16000000 in
theorem impl_polys_ok (a0 : (List (List Int))) (r : (List (Vec Int 64))) (h : impl_polys a0 = some r) : Den Try.prog 70 [(eSSi64 a0)] { r := (eSA64u8 r) } := by
  refine den_of (rs := [(eSA64u8 r)]) (ac := impl_polys_c) (L := impl_polys_L) (n := 19) (m := [(2, 1), (3, 2), (5, 1)]) good Try.func70 impl_polys_body (by kernel_rfl) Try.ntmps70 rfl rfl impl_polys_strip rfl rfl ?_
  refine a_st (σ' := ⟨[(0, (eSSi64 a0))], []⟩) rfl ?_
  unfold impl_polys_c
  refine a_seq ?_
  refine a_region ?_
  refine a_val (v := (eSA64u8 ([]))) (u := []) rfl trivial rfl ?_
  refine a_nil ?_
  refine a_next (σ' := ⟨[(0, (eSSi64 a0))], []⟩) rfl ?_
  refine a_seq ?_
  refine a_region ?_
  refine a_val (v := (.osl 1300)) (u := [(1300, some ⟨(.row 64 (([]).map eA64u8)), false⟩)]) rfl trivial rfl ?_
  refine a_nil ?_
  refine a_next (σ' := ⟨[(0, (eSSi64 a0)), (3, (.osl 3))], [(3, some ⟨(.row 64 (([]).map eA64u8)), false⟩)]⟩) rfl ?_
  obtain ⟨y26, hy27, hk28⟩ := bind_some h
  clear h
  refine a_join (emb := fun (s : (List (Vec Int 64))) => ⟨[(3, (.osl 3))], [(3, some ⟨(.row 64 (s.map eA64u8)), false⟩)]⟩) (pre := fun s => s = y26) ?_ ?_
  · rintro x25 rfl
    have h := hk28
    refine a_st (σ' := ⟨[(3, (.osl 3))], [(3, some ⟨(.row 64 (x25.map eA64u8)), false⟩)]⟩) rfl ?_
    refine a_seq ?_
    refine a_region ?_
    refine a_val (v := (.osl 3)) (u := []) rfl trivial rfl ?_
    refine a_val (v := (eSA64u8 x25)) (u := [(3, some ⟨(.row 64 (x25.map eA64u8)), true⟩)]) rfl trivial rfl ?_
    refine a_nil ?_
    refine a_next rfl ?_
    refine a_ret ?_
    refine ⟨.inr rfl, ?_⟩
    rw [Try.results70]
    cases h
    exact ⟨_, _, _, _, _, rfl, trivial, .inl ⟨rfl, .inl rfl⟩, rfl, rfl⟩
  · have h := hy27
    refine a_seq ?_
    refine a_region ?_
    refine a_val (v := (eSSi64 a0)) (u := []) rfl trivial rfl ?_
    refine a_val (v := (.int .i64 (a0.length : Int))) (u := []) (len_run rfl rfl) trivial rfl ?_
    refine a_val (v := (.int .i64 0)) (u := []) rfl trivial rfl ?_
    refine a_nil ?_
    refine a_next (σ' := ⟨[(3, (.osl 3)), (6, (eSSi64 a0)), (7, (.int .i64 (a0.length : Int))), (8, (.int .i64 0))], [(3, some ⟨(.row 64 (([]).map eA64u8)), false⟩)]⟩) rfl ?_
    refine a_block ?_
    refine a_loop (emb := fun (s : (Int × (List (Vec Int 64)))) => ⟨[(3, (.osl 3)), (6, (eSSi64 a0)), (7, (.int .i64 (a0.length : Int))), (8, (.int .i64 s.1))], [(3, some ⟨(.row 64 (s.2.map eA64u8)), false⟩)]⟩) (body := (fun s : (Int × (List (Vec Int 64))) => impl_polys_l1 a0 s.1 s.2)) (G := fun q => some q = some y26) h rfl ?_ rfl
    rintro X43 ⟨x35, x36⟩ x44 h hX45
    have h : impl_polys_l1 a0 x35 x36 = some x44 := h
    refine a_st (σ' := ⟨[(3, (.osl 3)), (6, (eSSi64 a0)), (7, (.int .i64 (a0.length : Int))), (8, (.int .i64 x35))], [(3, some ⟨(.row 64 (x36.map eA64u8)), false⟩)]⟩) rfl ?_
    refine a_seq ?_
    refine a_region ?_
    refine a_val (v := (.bool ((decide (x35 < (a0.length : Int)))))) (u := []) rfl trivial rfl ?_
    refine a_nil ?_
    refine a_next (σ' := ⟨[(3, (.osl 3)), (6, (eSSi64 a0)), (7, (.int .i64 (a0.length : Int))), (8, (.int .i64 x35)), (9, (.bool ((decide (x35 < (a0.length : Int))))))], [(3, some ⟨(.row 64 (x36.map eA64u8)), false⟩)]⟩) rfl ?_
    refine a_seq ?_
    cases hb46 : (decide (x35 < (a0.length : Int)))
    · have h := ite_f hb46 h
      refine a_cond_f rfl ?_
      refine a_exit ?_
      refine t_exit ?_
      cases h
      have h := hX45
      refine t_exit ?_
      refine b_exit ?_
      exact j_leaf x36 (Option.some.inj h) rfl
    · have h := ite_t hb46 h
      refine a_cond_t rfl ?_
      refine a_skip ?_
      refine a_next (σ' := ⟨[(3, (.osl 3)), (6, (eSSi64 a0)), (7, (.int .i64 (a0.length : Int))), (8, (.int .i64 x35))], [(3, some ⟨(.row 64 (x36.map eA64u8)), false⟩)]⟩) rfl ?_
      refine a_seq ?_
      refine a_block ?_
      refine a_seq ?_
      refine a_region ?_
      obtain ⟨hc47, h⟩ := ifp_some h
      refine a_val (v := (.ref (.row 1 (a0.map eSi64)) [x35.toNat] [x35.toNat * 1])) (u := []) rfl (lmap hc47) rfl ?_
      have hl48 : LdOk [x35.toNat] (.row 1 (a0.map eSi64)) [x35.toNat * 1] 1 false (eSi64 (rd a0 x35.toNat)) := (.row (llt hc47) rfl (.nil rfl rfl rfl))
      refine a_val (v := (eSi64 (rd a0 x35.toNat))) (u := []) (ld_ref (i := ⟨.slice 2, 1, 24, (eSi64 [])⟩) rfl rfl hl48) hl48.c rfl ?_
      refine a_val (v := (eSi64 (rd a0 x35.toNat))) (u := []) rfl trivial rfl ?_
      refine a_nil ?_
      refine a_next (σ' := ⟨[(3, (.osl 3)), (5, (eSi64 (rd a0 x35.toNat))), (6, (eSSi64 a0)), (7, (.int .i64 (a0.length : Int))), (8, (.int .i64 x35))], [(3, some ⟨(.row 64 (x36.map eA64u8)), false⟩)]⟩) rfl ?_
      refine a_region ?_
      refine a_val (v := (.osl 3)) (u := []) rfl trivial rfl ?_
      refine a_val (v := (eSi64 (rd a0 x35.toNat))) (u := []) rfl trivial rfl ?_
      obtain ⟨r49, hr50, h⟩ := bind_some h
      refine a_call (args := [(eSi64 (rd a0 x35.toNat))]) (u := []) (r := (eA64u8 r49)) rfl rfl (impl_row_poly_ok (rd a0 x35.toNat) r49 hr50) rfl ?_
      refine a_val (v := (.sl 64 true (([r49]).map eA64u8))) (u := []) rfl ⟨(Nat.le_of_ble_eq_true rfl), (Nat.le_of_ble_eq_true rfl), (all_cons ⟨(Nat.le_of_ble_eq_true rfl), rfl⟩ all_nil)⟩ rfl ?_
      obtain ⟨hc51, h⟩ := ifp_some h
      refine a_val (v := (.osl 2600)) (u := [(2600, some ⟨(.row 64 (((x36 ++ ([r49]))).map eA64u8)), false⟩), (3, none)]) (app_run (i := ⟨.arr 64 5, 64, 64, (eA64u8 (vrep 64 (0 : Int)))⟩) (f := eA64u8) (l := x36) (l2 := [r49]) rfl rfl rfl rfl (fun _ => rfl) rfl rfl) (app_c (f := eA64u8) (s := 64) (sz := 64) (by' := 64) (u := []) (id := 3) hc51 (.inr rfl) rfl rfl rfl) rfl ?_
      refine a_val (v := (.osl 2600)) (u := []) rfl trivial rfl ?_
      refine a_nil ?_
      refine b_norm ?_
      refine a_next (σ' := ⟨[(3, (.osl 3)), (6, (eSSi64 a0)), (7, (.int .i64 (a0.length : Int))), (8, (.int .i64 x35))], [(3, some ⟨(.row 64 (((x36 ++ ([r49]))).map eA64u8)), false⟩)]⟩) rfl ?_
      refine a_region ?_
      refine a_val (v := (.int .i64 (IntKind.i64.wrap (x35 + 1)))) (u := []) rfl trivial rfl ?_
      refine a_val (v := (.int .i64 (IntKind.i64.wrap (x35 + 1)))) (u := []) rfl trivial rfl ?_
      refine a_nil ?_
      cases h
      exact a_again rfl hX45
def impl_ContinuedFraction_c : ACode := (.seq (.region 0 [⟨some 4, .box 23 (.tmp 1), none, []⟩, ⟨some 5, .box 23 (.tmp 2), none, []⟩, ⟨some 6, .asg 1 (.const (.slice none 0 0)) 30, none, []⟩, ⟨some 7, .asg 0 (.const (.int .i64 0)) 2, none, []⟩] false) (.seq (.seq (.region 1 [⟨some 9, .mov (.tmp 0), none, []⟩, ⟨some 10, .load 23 (.tmp 4), none, []⟩, ⟨some 11, .load 23 (.tmp 5), none, []⟩, ⟨some 12, .call 0 (.func 69) [(.tmp 9), (.tmp 10), (.tmp 11), (.const (.bool true))], none, []⟩, ⟨some 8, .asg 0 (.tmp 12) 2, none, []⟩] false) (.seq (.region 2 [⟨some 13, .mov (.tmp 8), none, []⟩, ⟨some 14, .bin .neq 2 (.tmp 13) (.const (.int .i64 0)), none, []⟩] false) (.cond (.tmp 14) (.seq (.region 3 [⟨some 15, .mov (.tmp 8), none, []⟩, ⟨some 6, .asg 1 (.const (.slice none 0 0)) 30, none, []⟩, ⟨some 7, .asg 0 (.tmp 15) 2, none, []⟩] false) .ret) .skip))) (.seq (.region 4 [⟨some 16, .mov (.tmp 0), none, []⟩, ⟨some 17, .load 23 (.tmp 4), none, []⟩, ⟨some 18, .call 0 (.func 72) [(.tmp 17)], none, [1]⟩, ⟨some 19, .load 23 (.tmp 5), none, []⟩, ⟨some 20, .call 0 (.func 72) [(.tmp 19)], none, [3, 2]⟩, ⟨some 21, .call 0 (.func 71) [(.tmp 16), (.tmp 18), (.tmp 20)], none, [0, 2, 4, 4]⟩, ⟨some 22, .call 0 (.func 70) [(.tmp 21)], none, [5, 5]⟩, ⟨some 6, .asg 1 (.tmp 22) 30, none, [6, 6, 0, 1, 2, 3, 4, 5, 6]⟩, ⟨some 7, .asg 0 (.const (.int .i64 0)) 2, none, [7, 0, 1, 2, 3, 4, 5, 6, 7]⟩] true) .ret)))
def impl_ContinuedFraction_L : Live := [(0, [0, 1, 2]), (1, [0, 4, 5]), (2, [0, 4, 5, 8]), (3, [8]), (4, [0, 4, 5]), (100014, [0, 4, 5, 8, 14])]
theorem impl_ContinuedFraction_body : Try.f22.body = some (Try.f22.body.getD .skip) := by kernel_rfl
theorem impl_ContinuedFraction_strip : strip [(6, 1)] (Try.f22.body.getD .skip) = impl_ContinuedFraction_c := by kernel_rfl
noncomputable def impl_ContinuedFraction (a0 : Int) (a1 : (Vec Int 64)) (a2 : (Vec Int 64)) : Option ((List (Vec Int 64)) × Int) :=
  (Option.bind (impl_quotientCode a0 a1 a2 true) fun r3 => (if (r3 != 0) then (some ([], r3)) else (Option.bind (impl_rowOf a1) fun r17 => (Option.bind (impl_rowOf a2) fun r20 => (Option.bind (impl_prime_partials a0 r17 r20) fun r22 => (Option.bind (impl_polys r22) fun r24 => (some (r24, 0))))))))
set_option maxHeartbeats 16000000 in
theorem impl_ContinuedFraction_ok (a0 : Int) (a1 : (Vec Int 64)) (a2 : (Vec Int 64)) (r : ((List (Vec Int 64)) × Int)) (h : impl_ContinuedFraction a0 a1 a2 = some r) : Den Try.prog 22 [(.int .i64 a0), (eA64u8 a1), (eA64u8 a2)] { r := (.tuple [(eSA64u8 r.1), (.int .i64 r.2)]) } := by
  refine den_of (rs := [(eSA64u8 r.1), (.int .i64 r.2)]) (ac := impl_ContinuedFraction_c) (L := impl_ContinuedFraction_L) (n := 23) (m := [(6, 1)]) good Try.func22 impl_ContinuedFraction_body (by kernel_rfl) Try.ntmps22 rfl rfl impl_ContinuedFraction_strip rfl rfl ?_
  refine a_st (σ' := ⟨[(0, (.int .i64 a0)), (1, (eA64u8 a1)), (2, (eA64u8 a2))], []⟩) rfl ?_
  unfold impl_ContinuedFraction_c
  refine a_seq ?_
  refine a_region ?_
  refine a_val (v := (.own 1400 [] [])) (u := [(1400, some ⟨(eA64u8 a1), false⟩)]) rfl trivial rfl ?_
  refine a_val (v := (.own 1500 [] [])) (u := [(1500, some ⟨(eA64u8 a2), false⟩)]) rfl trivial rfl ?_
  refine a_val (v := (eSA64u8 ([]))) (u := []) rfl trivial rfl ?_
  refine a_val (v := (.int .i64 0)) (u := []) rfl trivial rfl ?_
  refine a_nil ?_
  refine a_next (σ' := ⟨[(0, (.int .i64 a0)), (4, (.own 4 [] [])), (5, (.own 5 [] []))], [(4, some ⟨(eA64u8 a1), false⟩), (5, some ⟨(eA64u8 a2), false⟩)]⟩) rfl ?_
  refine a_seq ?_
  refine a_seq ?_
  refine a_region ?_
  refine a_val (v := (.int .i64 a0)) (u := []) rfl trivial rfl ?_
  have hl1 : LdOk [] (eA64u8 a1) [] 64 true (eA64u8 a1) := (.nil rfl rfl rfl)
  refine a_val (v := (eA64u8 a1)) (u := []) (ld_own (i := ⟨.arr 64 5, 64, 64, (eA64u8 (vrep 64 (0 : Int)))⟩) rfl rfl rfl hl1) hl1.c rfl ?_
  have hl2 : LdOk [] (eA64u8 a2) [] 64 true (eA64u8 a2) := (.nil rfl rfl rfl)
  refine a_val (v := (eA64u8 a2)) (u := []) (ld_own (i := ⟨.arr 64 5, 64, 64, (eA64u8 (vrep 64 (0 : Int)))⟩) rfl rfl rfl hl2) hl2.c rfl ?_
  obtain ⟨r3, hr4, h⟩ := bind_some h
  refine a_call (args := [(.int .i64 a0), (eA64u8 a1), (eA64u8 a2), (.bool true)]) (u := []) (r := (.int .i64 r3)) rfl rfl (impl_quotientCode_ok a0 a1 a2 true r3 hr4) rfl ?_
  refine a_val (v := (.int .i64 r3)) (u := []) rfl trivial rfl ?_
  refine a_nil ?_
  refine a_next (σ' := ⟨[(0, (.int .i64 a0)), (4, (.own 4 [] [])), (5, (.own 5 [] [])), (8, (.int .i64 r3))], [(4, some ⟨(eA64u8 a1), false⟩), (5, some ⟨(eA64u8 a2), false⟩)]⟩) rfl ?_
  refine a_seq ?_
  refine a_region ?_
  refine a_val (v := (.int .i64 r3)) (u := []) rfl trivial rfl ?_
  refine a_val (v := (.bool (r3 != 0))) (u := []) rfl trivial rfl ?_
  refine a_nil ?_
  refine a_next (σ' := ⟨[(0, (.int .i64 a0)), (4, (.own 4 [] [])), (5, (.own 5 [] [])), (8, (.int .i64 r3)), (14, (.bool (r3 != 0)))], [(4, some ⟨(eA64u8 a1), false⟩), (5, some ⟨(eA64u8 a2), false⟩)]⟩) rfl ?_
  cases hb5 : (r3 != 0)
  · have h := ite_f hb5 h
    refine a_cond_f rfl ?_
    refine a_skip ?_
    refine a_next (σ' := ⟨[(0, (.int .i64 a0)), (4, (.own 4 [] [])), (5, (.own 5 [] []))], [(4, some ⟨(eA64u8 a1), false⟩), (5, some ⟨(eA64u8 a2), false⟩)]⟩) rfl ?_
    refine a_seq ?_
    refine a_draw [⟨[], [], [], []⟩, ⟨[4], [], [], []⟩, ⟨[], [], [], [1]⟩, ⟨[5], [], [], []⟩, ⟨[], [], [], [1, 2, 3]⟩, ⟨[], [], [], [0, 1, 2, 3, 4]⟩, ⟨[], [], [], [0, 1, 2, 3, 4, 5]⟩, ⟨[], [], [], [0, 1, 2, 3, 4, 5, 6]⟩, ⟨[], [], [], [0, 1, 2, 3, 4, 5, 6, 7]⟩] (by kernel_rfl) ?_
    refine d_cons ?_
    refine a_val (v := (.int .i64 a0)) (u := []) rfl trivial rfl ?_
    refine d_next rfl ?_
    refine d_cons ?_
    have hl16 : LdOk [] (eA64u8 a1) [] 64 true (eA64u8 a1) := (.nil rfl rfl rfl)
    refine a_val (v := (eA64u8 a1)) (u := []) (ld_own (i := ⟨.arr 64 5, 64, 64, (eA64u8 (vrep 64 (0 : Int)))⟩) rfl rfl rfl hl16) hl16.c rfl ?_
    refine d_next rfl ?_
    refine d_cons ?_
    obtain ⟨r17, hr18, h⟩ := bind_some h
    refine a_call (args := [(eA64u8 a1)]) (u := []) (r := (eSi64 r17)) rfl rfl (impl_rowOf_ok a1 r17 hr18) rfl ?_
    refine d_next rfl ?_
    refine d_cons ?_
    have hl19 : LdOk [] (eA64u8 a2) [] 64 true (eA64u8 a2) := (.nil rfl rfl rfl)
    refine a_val (v := (eA64u8 a2)) (u := []) (ld_own (i := ⟨.arr 64 5, 64, 64, (eA64u8 (vrep 64 (0 : Int)))⟩) rfl rfl rfl hl19) hl19.c rfl ?_
    refine d_next rfl ?_
    refine d_cons ?_
    obtain ⟨r20, hr21, h⟩ := bind_some h
    refine a_call (args := [(eA64u8 a2)]) (u := []) (r := (eSi64 r20)) rfl rfl (impl_rowOf_ok a2 r20 hr21) rfl ?_
    refine d_next rfl ?_
    refine d_cons ?_
    obtain ⟨r22, hr23, h⟩ := bind_some h
    refine a_call (args := [(.int .i64 a0), (eSi64 r17), (eSi64 r20)]) (u := []) (r := (eSSi64 r22)) rfl rfl (impl_prime_partials_ok a0 r17 r20 r22 hr23) rfl ?_
    refine d_next rfl ?_
    refine d_cons ?_
    obtain ⟨r24, hr25, h⟩ := bind_some h
    refine a_call (args := [(eSSi64 r22)]) (u := []) (r := (eSA64u8 r24)) rfl rfl (impl_polys_ok r22 r24 hr25) rfl ?_
    refine d_next rfl ?_
    refine d_cons ?_
    refine a_val (v := (eSA64u8 r24)) (u := []) rfl trivial rfl ?_
    refine d_next rfl ?_
    refine d_cons ?_
    refine a_val (v := (.int .i64 0)) (u := []) rfl trivial rfl ?_
    refine d_next rfl ?_
    refine d_nil ?_
    refine a_next rfl ?_
    refine a_ret ?_
    refine ⟨.inr rfl, ?_⟩
    rw [Try.results22]
    cases h
    exact ⟨_, _, _, _, _, rfl, trivial, .inl ⟨rfl, .inl rfl⟩, rfl, ⟨_, _, _, _, _, rfl, trivial, .inl ⟨rfl, .inl rfl⟩, rfl, rfl⟩⟩
  · have h := ite_t hb5 h
    refine a_cond_t rfl ?_
    refine a_seq ?_
    refine a_region ?_
    refine a_val (v := (.int .i64 r3)) (u := []) rfl trivial rfl ?_
    refine a_val (v := (eSA64u8 ([]))) (u := []) rfl trivial rfl ?_
    refine a_val (v := (.int .i64 r3)) (u := []) rfl trivial rfl ?_
    refine a_nil ?_
    refine a_next rfl ?_
    refine a_ret ?_
    refine t_ret ?_
    refine ⟨.inr rfl, ?_⟩
    rw [Try.results22]
    cases h
    exact ⟨_, _, _, _, _, rfl, trivial, .inl ⟨rfl, .inl rfl⟩, rfl, ⟨_, _, _, _, _, rfl, trivial, .inl ⟨rfl, .inl rfl⟩, rfl, rfl⟩⟩
def laws_FnExactContinuedFraction_c : ACode := (.seq (.region 0 [⟨some 4, .box 22 (.tmp 1), none, []⟩, ⟨some 5, .box 22 (.tmp 2), none, []⟩, ⟨some 6, .asg 0 (.const (.bool false)) 4, none, []⟩] false) (.seq (.region 1 [⟨some 16, .mov (.tmp 0), none, []⟩, ⟨some 17, .load 22 (.tmp 4), none, []⟩, ⟨some 18, .call 0 (.func 21) [(.tmp 17)], none, [1]⟩, ⟨some 19, .load 22 (.tmp 5), none, []⟩, ⟨some 20, .call 0 (.func 21) [(.tmp 19)], none, [3, 2]⟩, ⟨some 21, .call 0 (.func 20) [(.tmp 16), (.tmp 18), (.tmp 20)], none, [0, 2, 4, 4]⟩, ⟨some 15, .mov (.tmp 21), none, [5]⟩, ⟨some 22, .extract (.tmp 15) 0, none, [6]⟩, ⟨some 23, .extract (.tmp 15) 1, none, [6]⟩, ⟨some 7, .asg 1 (.tmp 22) 30, none, [7, 5, 0, 1, 2, 3, 4, 5, 6, 7]⟩, ⟨some 8, .asg 0 (.tmp 23) 2, none, [8, 9, 0, 1, 2, 3, 4, 5, 6, 7, 8, 9]⟩] true) (.seq (.region 2 [⟨some 25, .mov (.tmp 0), none, []⟩, ⟨some 26, .load 22 (.tmp 4), none, []⟩, ⟨some 27, .call 0 (.func 21) [(.tmp 26)], none, [1]⟩, ⟨some 28, .load 22 (.tmp 5), none, []⟩, ⟨some 29, .call 0 (.func 21) [(.tmp 28)], none, [3, 2]⟩, ⟨some 30, .call 0 (.func 22) [(.tmp 25), (.tmp 27), (.tmp 29)], none, [0, 2, 4, 4]⟩, ⟨some 24, .mov (.tmp 30), none, [5]⟩, ⟨some 31, .extract (.tmp 24) 0, none, [6]⟩, ⟨some 32, .extract (.tmp 24) 1, none, [6]⟩, ⟨some 9, .asg 2 (.tmp 31) 30, none, [7, 5, 0, 1, 2, 3, 4, 5, 6, 7]⟩, ⟨some 10, .asg 0 (.tmp 32) 2, none, [8, 9, 0, 1, 2, 3, 4, 5, 6, 7, 8, 9]⟩] true) (.seq (.seq (.region 3 [⟨some 33, .mov (.tmp 9), none, []⟩, ⟨some 34, .mov (.tmp 7), none, []⟩, ⟨some 35, .call 0 (.func 23) [(.tmp 33), (.tmp 34)], none, []⟩, ⟨some 36, .un .not (.tmp 35), none, []⟩, ⟨some 37, .mov (.tmp 36), none, []⟩, ⟨some 38, .mov (.tmp 10), some (37, false), []⟩, ⟨some 39, .mov (.tmp 8), some (37, false), []⟩, ⟨some 40, .bin .neq 2 (.tmp 38) (.tmp 39), some (37, false), []⟩, ⟨some 41, .pick (.tmp 37) (.const (.bool true)) (.tmp 40), none, []⟩] false) (.cond (.tmp 41) (.seq (.region 4 [⟨some 6, .asg 0 (.const (.bool false)) 4, none, []⟩] false) .ret) .skip)) (.seq (.region 5 [⟨some 11, .asg 0 (.const (.int .i64 1)) 3, none, []⟩] false) (.seq (.region 6 [⟨some 42, .mov (.tmp 9), none, []⟩, ⟨some 43, .mov (.tmp 11), none, []⟩, ⟨some 44, .call 1 (.func 24) [(.tmp 42), (.tmp 43)], none, []⟩, ⟨some 11, .asg 0 (.tmp 44) 3, none, []⟩] false) (.seq (.region 7 [⟨some 12, .asg 0 (.const (.int .i64 1)) 3, none, []⟩] false) (.seq (.region 8 [⟨some 45, .mov (.tmp 9), none, []⟩, ⟨some 46, .mov (.tmp 12), none, []⟩, ⟨some 47, .call 0 (.func 25) [(.tmp 45), (.tmp 46)], none, []⟩, ⟨some 12, .asg 0 (.tmp 47) 3, none, []⟩] false) (.seq (.seq (.region 9 [⟨some 48, .mov (.tmp 12), none, []⟩, ⟨some 49, .bin .lss 3 (.tmp 48) (.const (.int .i64 0)), none, []⟩] false) (.cond (.tmp 49) (.seq (.region 10 [⟨some 6, .asg 0 (.const (.bool false)) 4, none, []⟩] false) .ret) .skip)) (.seq (.seq (.region 11 [⟨some 50, .mov (.tmp 12), none, []⟩, ⟨some 51, .mov (.tmp 11), none, []⟩, ⟨some 52, .bin .neq 3 (.tmp 50) (.tmp 51), none, []⟩] false) (.cond (.tmp 52) (.seq (.region 12 [⟨some 6, .asg 0 (.const (.bool false)) 4, none, []⟩] false) .ret) .skip)) (.seq (.region 13 [⟨some 54, .mov (.tmp 0), none, []⟩, ⟨some 55, .load 22 (.tmp 4), none, []⟩, ⟨some 56, .call 0 (.func 21) [(.tmp 55)], none, [1]⟩, ⟨some 57, .load 22 (.tmp 5), none, []⟩, ⟨some 58, .call 0 (.func 21) [(.tmp 57)], none, [3, 2]⟩, ⟨some 59, .call 0 (.func 22) [(.tmp 54), (.tmp 56), (.tmp 58)], none, [0, 2, 4, 4]⟩, ⟨some 53, .mov (.tmp 59), none, [5]⟩, ⟨some 60, .extract (.tmp 53) 0, none, [6]⟩, ⟨some 61, .extract (.tmp 53) 1, none, [6]⟩, ⟨some 13, .asg 1 (.tmp 60) 30, none, [7, 5, 0, 1, 2, 3, 4, 5, 6, 7]⟩, ⟨some 14, .asg 0 (.tmp 61) 2, none, [8, 9, 0, 1, 2, 3, 4, 5, 6, 7, 8, 9]⟩] true) (.seq (.seq (.region 14 [⟨some 62, .mov (.tmp 13), none, []⟩, ⟨some 63, .mov (.tmp 7), none, []⟩, ⟨some 64, .call 0 (.func 23) [(.tmp 62), (.tmp 63)], none, []⟩, ⟨some 65, .un .not (.tmp 64), none, []⟩, ⟨some 66, .mov (.tmp 65), none, []⟩, ⟨some 67, .mov (.tmp 14), some (66, false), []⟩, ⟨some 68, .mov (.tmp 8), some (66, false), []⟩, ⟨some 69, .bin .neq 2 (.tmp 67) (.tmp 68), some (66, false), []⟩, ⟨some 70, .pick (.tmp 66) (.const (.bool true)) (.tmp 69), none, []⟩] false) (.cond (.tmp 70) (.seq (.region 15 [⟨some 6, .asg 0 (.const (.bool false)) 4, none, []⟩] false) .ret) .skip)) (.seq (.region 16 [⟨some 12, .asg 0 (.const (.int .i64 1)) 3, none, []⟩] false) (.seq (.region 17 [⟨some 71, .mov (.tmp 9), none, []⟩, ⟨some 72, .mov (.tmp 12), none, []⟩, ⟨some 73, .call 0 (.func 25) [(.tmp 71), (.tmp 72)], none, []⟩, ⟨some 12, .asg 0 (.tmp 73) 3, none, []⟩] false) (.seq (.seq (.region 18 [⟨some 74, .mov (.tmp 12), none, []⟩, ⟨some 75, .bin .lss 3 (.tmp 74) (.const (.int .i64 0)), none, []⟩] false) (.cond (.tmp 75) (.seq (.region 19 [⟨some 6, .asg 0 (.const (.bool false)) 4, none, []⟩] false) .ret) .skip)) (.seq (.seq (.region 20 [⟨some 76, .mov (.tmp 12), none, []⟩, ⟨some 77, .mov (.tmp 11), none, []⟩, ⟨some 78, .bin .neq 3 (.tmp 76) (.tmp 77), none, []⟩] false) (.cond (.tmp 78) (.seq (.region 21 [⟨some 6, .asg 0 (.const (.bool false)) 4, none, []⟩] false) .ret) .skip)) (.seq (.region 22 [⟨some 6, .asg 0 (.const (.bool true)) 4, none, []⟩] false) .ret)))))))))))))))))
def laws_FnExactContinuedFraction_L : Live := [(0, [0, 1, 2]), (1, [0, 4, 5]), (2, [0, 4, 5, 7, 8]), (3, [0, 4, 5, 7, 8, 9, 10]), (4, []), (5, [0, 4, 5, 7, 8, 9]), (6, [0, 4, 5, 7, 8, 9, 11]), (7, [0, 4, 5, 7, 8, 9, 11]), (8, [0, 4, 5, 7, 8, 9, 11, 12]), (9, [0, 4, 5, 7, 8, 9, 11, 12]), (10, []), (11, [0, 4, 5, 7, 8, 9, 11, 12]), (12, []), (13, [0, 4, 5, 7, 8, 9, 11]), (14, [7, 8, 9, 11, 13, 14]), (15, []), (16, [9, 11]), (17, [9, 11, 12]), (18, [11, 12]), (19, []), (20, [11, 12]), (21, []), (22, []), (100041, [0, 4, 5, 7, 8, 9, 41]), (100049, [0, 4, 5, 7, 8, 9, 11, 12, 49]), (100052, [0, 4, 5, 7, 8, 9, 11, 52]), (100070, [9, 11, 70]), (100075, [11, 12, 75]), (100078, [78])]
theorem laws_FnExactContinuedFraction_body : Try.f5.body = some (Try.f5.body.getD .skip) := by kernel_rfl
theorem laws_FnExactContinuedFraction_strip : strip [(7, 1), (9, 2), (13, 1), (44, 1)] (Try.f5.body.getD .skip) = laws_FnExactContinuedFraction_c := by kernel_rfl
noncomputable def laws_FnExactContinuedFraction (a0 : Int) (a1 : (Vec Int 64)) (a2 : (Vec Int 64)) : Option Bool :=
  (Option.bind (laws_toPoly a1) fun r10 => (Option.bind (laws_toPoly a2) fun r13 => (Option.bind (spec_ContinuedFraction a0 r10 r13) fun r15 => (Option.bind (laws_toPoly a1) fun r26 => (Option.bind (laws_toPoly a2) fun r29 => (Option.bind (impl_ContinuedFraction_fresh a0 r26 r29) fun r31 => (Option.bind (α := Bool) ((Option.bind (laws_eqPolyS r31.1 r15.1) fun r40 => (if (!r40) then (some true) else (some (r31.2 != r15.2))))) fun x36 => (if x36 then (some false) else (Option.bind (laws_markPolyS_of_mut r31.1 1) fun r44 => (ifp (r44.2.length = r31.1.length) ((Option.bind (laws_heldPolyS r44.2 1) fun r47 => (if (decide (r47 < 0)) then (some false) else (if (r47 != r44.1) then (some false) else (Option.bind (laws_toPoly a1) fun r60 => (Option.bind (laws_toPoly a2) fun r63 => (Option.bind (impl_ContinuedFraction a0 r60 r63) fun r65 => (Option.bind (α := Bool) ((Option.bind (laws_eqPolyS r65.1 r15.1) fun r74 => (if (!r74) then (some true) else (some (r65.2 != r15.2))))) fun x70 => (if x70 then (some false) else (Option.bind (laws_heldPolyS r44.2 1) fun r78 => (if (decide (r78 < 0)) then (some false) else (if (r78 != r44.1) then (some false) else (some true)))))))))))))))))))))))
set_option maxHeartbeats 16000000 in
theorem laws_FnExactContinuedFraction_ok (a0 : Int) (a1 : (Vec Int 64)) (a2 : (Vec Int 64)) (r : Bool) (h : laws_FnExactContinuedFraction a0 a1 a2 = some r) : Den Try.prog 5 [(.int .i64 a0), (eA64u8 a1), (eA64u8 a2)] { r := (.bool r) } := by
  refine den_of (rs := [(.bool r)]) (ac := laws_FnExactContinuedFraction_c) (L := laws_FnExactContinuedFraction_L) (n := 79) (m := [(7, 1), (9, 2), (13, 1), (44, 1)]) good Try.func5 laws_FnExactContinuedFraction_body (by kernel_rfl) Try.ntmps5 rfl rfl laws_FnExactContinuedFraction_strip rfl rfl ?_
  refine a_st (σ' := ⟨[(0, (.int .i64 a0)), (1, (eA64u8 a1)), (2, (eA64u8 a2))], []⟩) rfl ?_
  unfold laws_FnExactContinuedFraction_c
  refine a_seq ?_
  refine a_region ?_
  refine a_val (v := (.own 1400 [] [])) (u := [(1400, some ⟨(eA64u8 a1), false⟩)]) rfl trivial rfl ?_
  refine a_val (v := (.own 1500 [] [])) (u := [(1500, some ⟨(eA64u8 a2), false⟩)]) rfl trivial rfl ?_
  refine a_val (v := (.bool false)) (u := []) rfl trivial rfl ?_
  refine a_nil ?_
  refine a_next (σ' := ⟨[(0, (.int .i64 a0)), (4, (.own 4 [] [])), (5, (.own 5 [] []))], [(4, some ⟨(eA64u8 a1), false⟩), (5, some ⟨(eA64u8 a2), false⟩)]⟩) rfl ?_
  refine a_seq ?_
  refine a_draw [⟨[], [], [], []⟩, ⟨[4], [], [], []⟩, ⟨[], [], [], [1]⟩, ⟨[5], [], [], []⟩, ⟨[], [], [], [1, 2, 3]⟩, ⟨[], [], [], [0, 1, 2, 3, 4]⟩, ⟨[], [], [], [0, 1, 2, 3, 4, 5]⟩, ⟨[], [], [], [0, 1, 2, 3, 4, 5, 6]⟩, ⟨[], [], [], [0, 1, 2, 3, 4, 5, 6]⟩, ⟨[], [], [], [0, 1, 2, 3, 4, 5, 6, 7]⟩, ⟨[], [], [], [0, 1, 2, 3, 4, 5, 6, 7, 8, 9]⟩] (by kernel_rfl) ?_
  refine d_cons ?_
  refine a_val (v := (.int .i64 a0)) (u := []) rfl trivial rfl ?_
  refine d_next rfl ?_
  refine d_cons ?_
  have hl9 : LdOk [] (eA64u8 a1) [] 64 true (eA64u8 a1) := (.nil rfl rfl rfl)
  refine a_val (v := (eA64u8 a1)) (u := []) (ld_own (i := ⟨.arr 64 5, 64, 64, (eA64u8 (vrep 64 (0 : Int)))⟩) rfl rfl rfl hl9) hl9.c rfl ?_
  refine d_next rfl ?_
  refine d_cons ?_
  obtain ⟨r10, hr11, h⟩ := bind_some h
  refine a_call (args := [(eA64u8 a1)]) (u := []) (r := (eA64u8 r10)) rfl rfl (laws_toPoly_ok a1 r10 hr11) rfl ?_
  refine d_next rfl ?_
  refine d_cons ?_
  have hl12 : LdOk [] (eA64u8 a2) [] 64 true (eA64u8 a2) := (.nil rfl rfl rfl)
  refine a_val (v := (eA64u8 a2)) (u := []) (ld_own (i := ⟨.arr 64 5, 64, 64, (eA64u8 (vrep 64 (0 : Int)))⟩) rfl rfl rfl hl12) hl12.c rfl ?_
  refine d_next rfl ?_
  refine d_cons ?_
  obtain ⟨r13, hr14, h⟩ := bind_some h
  refine a_call (args := [(eA64u8 a2)]) (u := []) (r := (eA64u8 r13)) rfl rfl (laws_toPoly_ok a2 r13 hr14) rfl ?_
  refine d_next rfl ?_
  refine d_cons ?_
  obtain ⟨r15, hr16, h⟩ := bind_some h
  refine a_call (args := [(.int .i64 a0), (eA64u8 r10), (eA64u8 r13)]) (u := []) (r := (.tuple [(eSA64u8 r15.1), (.int .i64 r15.2)])) rfl rfl (spec_ContinuedFraction_ok a0 r10 r13 r15 hr16) rfl ?_
  refine d_next rfl ?_
  refine d_cons ?_
  refine a_val (v := (.tuple [(eSA64u8 r15.1), (.int .i64 r15.2)])) (u := []) rfl trivial rfl ?_
  refine d_next rfl ?_
  refine d_cons ?_
  refine a_val (v := (eSA64u8 r15.1)) (u := []) rfl (Nat.le_of_ble_eq_true rfl) rfl ?_
  refine d_next rfl ?_
  refine d_cons ?_
  refine a_val (v := (.int .i64 r15.2)) (u := []) rfl (Nat.le_of_ble_eq_true rfl) rfl ?_
  refine d_next rfl ?_
  refine d_cons ?_
  refine a_val (v := (eSA64u8 r15.1)) (u := []) rfl trivial rfl ?_
  refine d_next rfl ?_
  refine d_cons ?_
  refine a_val (v := (.int .i64 r15.2)) (u := []) rfl trivial rfl ?_
  refine d_next rfl ?_
  refine d_nil ?_
  refine a_next (σ' := ⟨[(0, (.int .i64 a0)), (4, (.own 4 [] [])), (5, (.own 5 [] [])), (7, (eSA64u8 r15.1)), (8, (.int .i64 r15.2))], [(4, some ⟨(eA64u8 a1), false⟩), (5, some ⟨(eA64u8 a2), false⟩)]⟩) rfl ?_
  refine a_seq ?_
  refine a_draw [⟨[], [], [], []⟩, ⟨[4], [], [], []⟩, ⟨[], [], [], [1]⟩, ⟨[5], [], [], []⟩, ⟨[], [], [], [1, 2, 3]⟩, ⟨[4000], [4000], [4000], [0, 1, 2, 3, 4]⟩, ⟨[4000], [], [4000], [0, 1, 2, 3, 4, 5]⟩, ⟨[4000], [], [4000], [0, 1, 2, 3, 4, 5, 6]⟩, ⟨[4000], [], [], [0, 1, 2, 3, 4, 5, 6]⟩, ⟨[4000], [], [4000], [0, 1, 2, 3, 4, 5, 6, 7]⟩, ⟨[], [], [], [0, 1, 2, 3, 4, 5, 6, 7, 8, 9]⟩] (by kernel_rfl) ?_
  refine d_cons ?_
  refine a_val (v := (.int .i64 a0)) (u := []) rfl trivial rfl ?_
  refine d_next rfl ?_
  refine d_cons ?_
  have hl25 : LdOk [] (eA64u8 a1) [] 64 true (eA64u8 a1) := (.nil rfl rfl rfl)
  refine a_val (v := (eA64u8 a1)) (u := []) (ld_own (i := ⟨.arr 64 5, 64, 64, (eA64u8 (vrep 64 (0 : Int)))⟩) rfl rfl rfl hl25) hl25.c rfl ?_
  refine d_next rfl ?_
  refine d_cons ?_
  obtain ⟨r26, hr27, h⟩ := bind_some h
  refine a_call (args := [(eA64u8 a1)]) (u := []) (r := (eA64u8 r26)) rfl rfl (laws_toPoly_ok a1 r26 hr27) rfl ?_
  refine d_next rfl ?_
  refine d_cons ?_
  have hl28 : LdOk [] (eA64u8 a2) [] 64 true (eA64u8 a2) := (.nil rfl rfl rfl)
  refine a_val (v := (eA64u8 a2)) (u := []) (ld_own (i := ⟨.arr 64 5, 64, 64, (eA64u8 (vrep 64 (0 : Int)))⟩) rfl rfl rfl hl28) hl28.c rfl ?_
  refine d_next rfl ?_
  refine d_cons ?_
  obtain ⟨r29, hr30, h⟩ := bind_some h
  refine a_call (args := [(eA64u8 a2)]) (u := []) (r := (eA64u8 r29)) rfl rfl (laws_toPoly_ok a2 r29 hr30) rfl ?_
  refine d_next rfl ?_
  refine d_cons ?_
  obtain ⟨r31, hr32, h⟩ := bind_some h
  refine a_callF (args := [(.int .i64 a0), (eA64u8 r26), (eA64u8 r29)]) (u := []) (u2 := []) (r := (.tuple [(.osl 2000000), (.int .i64 r31.2)])) (fs := [(64, r31.1.map eA64u8)]) rfl rfl (impl_ContinuedFraction_fresh_ok a0 r26 r29 r31 hr32) rfl rfl rfl (.inl rfl) rfl ?_
  refine d_next rfl ?_
  refine d_cons ?_
  refine a_val (v := (.tuple [(.osl 4000), (.int .i64 r31.2)])) (u := []) rfl trivial rfl ?_
  refine d_next rfl ?_
  refine d_cons ?_
  refine a_val (v := (.osl 4000)) (u := []) rfl (Nat.le_of_ble_eq_true rfl) rfl ?_
  refine d_next rfl ?_
  refine d_cons ?_
  refine a_val (v := (.int .i64 r31.2)) (u := []) rfl (Nat.le_of_ble_eq_true rfl) rfl ?_
  refine d_next rfl ?_
  refine d_cons ?_
  refine a_val (v := (.osl 4000)) (u := []) rfl trivial rfl ?_
  refine d_next rfl ?_
  refine d_cons ?_
  refine a_val (v := (.int .i64 r31.2)) (u := []) rfl trivial rfl ?_
  refine d_next rfl ?_
  refine d_nil ?_
  refine a_next (σ' := ⟨[(0, (.int .i64 a0)), (4, (.own 4 [] [])), (5, (.own 5 [] [])), (7, (eSA64u8 r15.1)), (8, (.int .i64 r15.2)), (9, (.osl 9)), (10, (.int .i64 r31.2))], [(4, some ⟨(eA64u8 a1), false⟩), (5, some ⟨(eA64u8 a2), false⟩), (9, some ⟨(.row 64 (r31.1.map eA64u8)), false⟩)]⟩) rfl ?_
  refine a_seq ?_
  obtain ⟨y37, hy38, hk39⟩ := bind_some h
  clear h
  refine a_join (emb := fun (s : Bool) => ⟨[(0, (.int .i64 a0)), (4, (.own 4 [] [])), (5, (.own 5 [] [])), (7, (eSA64u8 r15.1)), (8, (.int .i64 r15.2)), (9, (.osl 9)), (41, (.bool s))], [(4, some ⟨(eA64u8 a1), false⟩), (5, some ⟨(eA64u8 a2), false⟩), (9, some ⟨(.row 64 (r31.1.map eA64u8)), false⟩)]⟩) (pre := fun s => s = y37) ?_ ?_
  · rintro x36 rfl
    have h := hk39
    refine a_st (σ' := ⟨[(0, (.int .i64 a0)), (4, (.own 4 [] [])), (5, (.own 5 [] [])), (7, (eSA64u8 r15.1)), (8, (.int .i64 r15.2)), (9, (.osl 9)), (41, (.bool x36))], [(4, some ⟨(eA64u8 a1), false⟩), (5, some ⟨(eA64u8 a2), false⟩), (9, some ⟨(.row 64 (r31.1.map eA64u8)), false⟩)]⟩) rfl ?_
    cases hb43 : x36
    · have h := ite_f hb43 h
      refine a_cond_f rfl ?_
      refine a_skip ?_
      refine a_next (σ' := ⟨[(0, (.int .i64 a0)), (4, (.own 4 [] [])), (5, (.own 5 [] [])), (7, (eSA64u8 r15.1)), (8, (.int .i64 r15.2)), (9, (.osl 9))], [(4, some ⟨(eA64u8 a1), false⟩), (5, some ⟨(eA64u8 a2), false⟩), (9, some ⟨(.row 64 (r31.1.map eA64u8)), false⟩)]⟩) rfl ?_
      refine a_seq ?_
      refine a_region ?_
      refine a_val (v := (.int .i64 1)) (u := []) rfl trivial rfl ?_
      refine a_nil ?_
      refine a_next (σ' := ⟨[(0, (.int .i64 a0)), (4, (.own 4 [] [])), (5, (.own 5 [] [])), (7, (eSA64u8 r15.1)), (8, (.int .i64 r15.2)), (9, (.osl 9)), (11, (.int .i64 1))], [(4, some ⟨(eA64u8 a1), false⟩), (5, some ⟨(eA64u8 a2), false⟩), (9, some ⟨(.row 64 (r31.1.map eA64u8)), false⟩)]⟩) rfl ?_
      refine a_seq ?_
      refine a_region ?_
      refine a_val (v := (.osl 9)) (u := []) rfl trivial rfl ?_
      refine a_val (v := (.int .i64 1)) (u := []) rfl trivial rfl ?_
      obtain ⟨r44, hr45, h⟩ := bind_some h
      obtain ⟨hl46, h⟩ := ifp_some h
      refine a_callM (args := [(.mutsl 64 (r31.1.map eA64u8)), (.int .i64 1)]) (i := 0) (id := 9) (r := (.int .i64 r44.1)) (c := (.row 64 (r44.2.map eA64u8))) rfl rfl (laws_markPolyS_of_mut_ok r31.1 1 r44 hr45) rfl (shape_map hl46) ?_
      refine a_val (v := (.int .i64 r44.1)) (u := []) rfl trivial rfl ?_
      refine a_nil ?_
      refine a_next (σ' := ⟨[(0, (.int .i64 a0)), (4, (.own 4 [] [])), (5, (.own 5 [] [])), (7, (eSA64u8 r15.1)), (8, (.int .i64 r15.2)), (9, (.osl 9)), (11, (.int .i64 r44.1))], [(4, some ⟨(eA64u8 a1), false⟩), (5, some ⟨(eA64u8 a2), false⟩), (9, some ⟨(.row 64 (r44.2.map eA64u8)), false⟩)]⟩) rfl ?_
      refine a_seq ?_
      refine a_region ?_
      refine a_val (v := (.int .i64 1)) (u := []) rfl trivial rfl ?_
      refine a_nil ?_
      refine a_next (σ' := ⟨[(0, (.int .i64 a0)), (4, (.own 4 [] [])), (5, (.own 5 [] [])), (7, (eSA64u8 r15.1)), (8, (.int .i64 r15.2)), (9, (.osl 9)), (11, (.int .i64 r44.1)), (12, (.int .i64 1))], [(4, some ⟨(eA64u8 a1), false⟩), (5, some ⟨(eA64u8 a2), false⟩), (9, some ⟨(.row 64 (r44.2.map eA64u8)), false⟩)]⟩) rfl ?_
      refine a_seq ?_
      refine a_region ?_
      refine a_val (v := (.osl 9)) (u := []) rfl trivial rfl ?_
      refine a_val (v := (.int .i64 1)) (u := []) rfl trivial rfl ?_
      obtain ⟨r47, hr48, h⟩ := bind_some h
      refine a_callB (args := [(eSA64u8 r44.2), (.int .i64 1)]) (u := [(9, some ⟨(.row 64 (r44.2.map eA64u8)), true⟩)]) (r := (.int .i64 r47)) rfl rfl (laws_heldPolyS_ok r44.2 1 r47 hr48) rfl trivial ?_
      refine a_val (v := (.int .i64 r47)) (u := []) rfl trivial rfl ?_
      refine a_nil ?_
      refine a_next (σ' := ⟨[(0, (.int .i64 a0)), (4, (.own 4 [] [])), (5, (.own 5 [] [])), (7, (eSA64u8 r15.1)), (8, (.int .i64 r15.2)), (9, (.osl 9)), (11, (.int .i64 r44.1)), (12, (.int .i64 r47))], [(4, some ⟨(eA64u8 a1), false⟩), (5, some ⟨(eA64u8 a2), false⟩), (9, some ⟨(.row 64 (r44.2.map eA64u8)), false⟩)]⟩) rfl ?_
      refine a_seq ?_
      refine a_seq ?_
      refine a_region ?_
      refine a_val (v := (.int .i64 r47)) (u := []) rfl trivial rfl ?_
      refine a_val (v := (.bool ((decide (r47 < 0))))) (u := []) rfl trivial rfl ?_
      refine a_nil ?_
      refine a_next (σ' := ⟨[(0, (.int .i64 a0)), (4, (.own 4 [] [])), (5, (.own 5 [] [])), (7, (eSA64u8 r15.1)), (8, (.int .i64 r15.2)), (9, (.osl 9)), (11, (.int .i64 r44.1)), (12, (.int .i64 r47)), (49, (.bool ((decide (r47 < 0)))))], [(4, some ⟨(eA64u8 a1), false⟩), (5, some ⟨(eA64u8 a2), false⟩), (9, some ⟨(.row 64 (r44.2.map eA64u8)), false⟩)]⟩) rfl ?_
      cases hb49 : (decide (r47 < 0))
      · have h := ite_f hb49 h
        refine a_cond_f rfl ?_
        refine a_skip ?_
        refine a_next (σ' := ⟨[(0, (.int .i64 a0)), (4, (.own 4 [] [])), (5, (.own 5 [] [])), (7, (eSA64u8 r15.1)), (8, (.int .i64 r15.2)), (9, (.osl 9)), (11, (.int .i64 r44.1)), (12, (.int .i64 r47))], [(4, some ⟨(eA64u8 a1), false⟩), (5, some ⟨(eA64u8 a2), false⟩), (9, some ⟨(.row 64 (r44.2.map eA64u8)), false⟩)]⟩) rfl ?_
        refine a_seq ?_
        refine a_seq ?_
        refine a_region ?_
        refine a_val (v := (.int .i64 r47)) (u := []) rfl trivial rfl ?_
        refine a_val (v := (.int .i64 r44.1)) (u := []) rfl trivial rfl ?_
        refine a_val (v := (.bool (r47 != r44.1))) (u := []) rfl trivial rfl ?_
        refine a_nil ?_
        refine a_next (σ' := ⟨[(0, (.int .i64 a0)), (4, (.own 4 [] [])), (5, (.own 5 [] [])), (7, (eSA64u8 r15.1)), (8, (.int .i64 r15.2)), (9, (.osl 9)), (11, (.int .i64 r44.1)), (52, (.bool (r47 != r44.1)))], [(4, some ⟨(eA64u8 a1), false⟩), (5, some ⟨(eA64u8 a2), false⟩), (9, some ⟨(.row 64 (r44.2.map eA64u8)), false⟩)]⟩) rfl ?_
        cases hb50 : (r47 != r44.1)
        · have h := ite_f hb50 h
          refine a_cond_f rfl ?_
          refine a_skip ?_
          refine a_next (σ' := ⟨[(0, (.int .i64 a0)), (4, (.own 4 [] [])), (5, (.own 5 [] [])), (7, (eSA64u8 r15.1)), (8, (.int .i64 r15.2)), (9, (.osl 9)), (11, (.int .i64 r44.1))], [(4, some ⟨(eA64u8 a1), false⟩), (5, some ⟨(eA64u8 a2), false⟩), (9, some ⟨(.row 64 (r44.2.map eA64u8)), false⟩)]⟩) rfl ?_
          refine a_seq ?_
          refine a_draw [⟨[], [], [], []⟩, ⟨[4], [], [], []⟩, ⟨[], [], [], [1]⟩, ⟨[5], [], [], []⟩, ⟨[], [], [], [1, 2, 3]⟩, ⟨[], [], [], [0, 1, 2, 3, 4]⟩, ⟨[], [], [], [0, 1, 2, 3, 4, 5]⟩, ⟨[], [], [], [0, 1, 2, 3, 4, 5, 6]⟩, ⟨[], [], [], [0, 1, 2, 3, 4, 5, 6]⟩, ⟨[], [], [], [0, 1, 2, 3, 4, 5, 6, 7]⟩, ⟨[], [], [], [0, 1, 2, 3, 4, 5, 6, 7, 8, 9]⟩] (by kernel_rfl) ?_
          refine d_cons ?_
          refine a_val (v := (.int .i64 a0)) (u := []) rfl trivial rfl ?_
          refine d_next rfl ?_
          refine d_cons ?_
          have hl59 : LdOk [] (eA64u8 a1) [] 64 true (eA64u8 a1) := (.nil rfl rfl rfl)
          refine a_val (v := (eA64u8 a1)) (u := []) (ld_own (i := ⟨.arr 64 5, 64, 64, (eA64u8 (vrep 64 (0 : Int)))⟩) rfl rfl rfl hl59) hl59.c rfl ?_
          refine d_next rfl ?_
          refine d_cons ?_
          obtain ⟨r60, hr61, h⟩ := bind_some h
          refine a_call (args := [(eA64u8 a1)]) (u := []) (r := (eA64u8 r60)) rfl rfl (laws_toPoly_ok a1 r60 hr61) rfl ?_
          refine d_next rfl ?_
          refine d_cons ?_
          have hl62 : LdOk [] (eA64u8 a2) [] 64 true (eA64u8 a2) := (.nil rfl rfl rfl)
          refine a_val (v := (eA64u8 a2)) (u := []) (ld_own (i := ⟨.arr 64 5, 64, 64, (eA64u8 (vrep 64 (0 : Int)))⟩) rfl rfl rfl hl62) hl62.c rfl ?_
          refine d_next rfl ?_
          refine d_cons ?_
          obtain ⟨r63, hr64, h⟩ := bind_some h
          refine a_call (args := [(eA64u8 a2)]) (u := []) (r := (eA64u8 r63)) rfl rfl (laws_toPoly_ok a2 r63 hr64) rfl ?_
          refine d_next rfl ?_
          refine d_cons ?_
          obtain ⟨r65, hr66, h⟩ := bind_some h
          refine a_call (args := [(.int .i64 a0), (eA64u8 r60), (eA64u8 r63)]) (u := []) (r := (.tuple [(eSA64u8 r65.1), (.int .i64 r65.2)])) rfl rfl (impl_ContinuedFraction_ok a0 r60 r63 r65 hr66) rfl ?_
          refine d_next rfl ?_
          refine d_cons ?_
          refine a_val (v := (.tuple [(eSA64u8 r65.1), (.int .i64 r65.2)])) (u := []) rfl trivial rfl ?_
          refine d_next rfl ?_
          refine d_cons ?_
          refine a_val (v := (eSA64u8 r65.1)) (u := []) rfl (Nat.le_of_ble_eq_true rfl) rfl ?_
          refine d_next rfl ?_
          refine d_cons ?_
          refine a_val (v := (.int .i64 r65.2)) (u := []) rfl (Nat.le_of_ble_eq_true rfl) rfl ?_
          refine d_next rfl ?_
          refine d_cons ?_
          refine a_val (v := (eSA64u8 r65.1)) (u := []) rfl trivial rfl ?_
          refine d_next rfl ?_
          refine d_cons ?_
          refine a_val (v := (.int .i64 r65.2)) (u := []) rfl trivial rfl ?_
          refine d_next rfl ?_
          refine d_nil ?_
          refine a_next (σ' := ⟨[(7, (eSA64u8 r15.1)), (8, (.int .i64 r15.2)), (9, (.osl 9)), (11, (.int .i64 r44.1)), (13, (eSA64u8 r65.1)), (14, (.int .i64 r65.2))], [(9, some ⟨(.row 64 (r44.2.map eA64u8)), false⟩)]⟩) rfl ?_
          refine a_seq ?_
          obtain ⟨y71, hy72, hk73⟩ := bind_some h
          clear h
          refine a_join (emb := fun (s : Bool) => ⟨[(9, (.osl 9)), (11, (.int .i64 r44.1)), (70, (.bool s))], [(9, some ⟨(.row 64 (r44.2.map eA64u8)), false⟩)]⟩) (pre := fun s => s = y71) ?_ ?_
          · rintro x70 rfl
            have h := hk73
            refine a_st (σ' := ⟨[(9, (.osl 9)), (11, (.int .i64 r44.1)), (70, (.bool x70))], [(9, some ⟨(.row 64 (r44.2.map eA64u8)), false⟩)]⟩) rfl ?_
            cases hb77 : x70
            · have h := ite_f hb77 h
              refine a_cond_f rfl ?_
              refine a_skip ?_
              refine a_next (σ' := ⟨[(9, (.osl 9)), (11, (.int .i64 r44.1))], [(9, some ⟨(.row 64 (r44.2.map eA64u8)), false⟩)]⟩) rfl ?_
              refine a_seq ?_
              refine a_region ?_
              refine a_val (v := (.int .i64 1)) (u := []) rfl trivial rfl ?_
              refine a_nil ?_
              refine a_next (σ' := ⟨[(9, (.osl 9)), (11, (.int .i64 r44.1)), (12, (.int .i64 1))], [(9, some ⟨(.row 64 (r44.2.map eA64u8)), false⟩)]⟩) rfl ?_
              refine a_seq ?_
              refine a_region ?_
              refine a_val (v := (.osl 9)) (u := []) rfl trivial rfl ?_
              refine a_val (v := (.int .i64 1)) (u := []) rfl trivial rfl ?_
              obtain ⟨r78, hr79, h⟩ := bind_some h
              refine a_callB (args := [(eSA64u8 r44.2), (.int .i64 1)]) (u := [(9, some ⟨(.row 64 (r44.2.map eA64u8)), true⟩)]) (r := (.int .i64 r78)) rfl rfl (laws_heldPolyS_ok r44.2 1 r78 hr79) rfl trivial ?_
              refine a_val (v := (.int .i64 r78)) (u := []) rfl trivial rfl ?_
              refine a_nil ?_
              refine a_next (σ' := ⟨[(11, (.int .i64 r44.1)), (12, (.int .i64 r78))], []⟩) rfl ?_
              refine a_seq ?_
              refine a_seq ?_
              refine a_region ?_
              refine a_val (v := (.int .i64 r78)) (u := []) rfl trivial rfl ?_
              refine a_val (v := (.bool ((decide (r78 < 0))))) (u := []) rfl trivial rfl ?_
              refine a_nil ?_
              refine a_next (σ' := ⟨[(11, (.int .i64 r44.1)), (12, (.int .i64 r78)), (75, (.bool ((decide (r78 < 0)))))], []⟩) rfl ?_
              cases hb80 : (decide (r78 < 0))
              · have h := ite_f hb80 h
                refine a_cond_f rfl ?_
                refine a_skip ?_
                refine a_next (σ' := ⟨[(11, (.int .i64 r44.1)), (12, (.int .i64 r78))], []⟩) rfl ?_
                refine a_seq ?_
                refine a_seq ?_
                refine a_region ?_
                refine a_val (v := (.int .i64 r78)) (u := []) rfl trivial rfl ?_
                refine a_val (v := (.int .i64 r44.1)) (u := []) rfl trivial rfl ?_
                refine a_val (v := (.bool (r78 != r44.1))) (u := []) rfl trivial rfl ?_
                refine a_nil ?_
                refine a_next (σ' := ⟨[(78, (.bool (r78 != r44.1)))], []⟩) rfl ?_
                cases hb81 : (r78 != r44.1)
                · have h := ite_f hb81 h
                  refine a_cond_f rfl ?_
                  refine a_skip ?_
                  refine a_next (σ' := ⟨[], []⟩) rfl ?_
                  refine a_seq ?_
                  refine a_region ?_
                  refine a_val (v := (.bool true)) (u := []) rfl trivial rfl ?_
                  refine a_nil ?_
                  refine a_next rfl ?_
                  refine a_ret ?_
                  refine ⟨.inr rfl, ?_⟩
                  rw [Try.results5]
                  cases h
                  exact ⟨_, _, _, _, _, rfl, trivial, .inl ⟨rfl, .inl rfl⟩, rfl, rfl⟩
                · have h := ite_t hb81 h
                  refine a_cond_t rfl ?_
                  refine a_seq ?_
                  refine a_region ?_
                  refine a_val (v := (.bool false)) (u := []) rfl trivial rfl ?_
                  refine a_nil ?_
                  refine a_next rfl ?_
                  refine a_ret ?_
                  refine t_ret ?_
                  refine ⟨.inr rfl, ?_⟩
                  rw [Try.results5]
                  cases h
                  exact ⟨_, _, _, _, _, rfl, trivial, .inl ⟨rfl, .inl rfl⟩, rfl, rfl⟩
              · have h := ite_t hb80 h
                refine a_cond_t rfl ?_
                refine a_seq ?_
                refine a_region ?_
                refine a_val (v := (.bool false)) (u := []) rfl trivial rfl ?_
                refine a_nil ?_
                refine a_next rfl ?_
                refine a_ret ?_
                refine t_ret ?_
                refine ⟨.inr rfl, ?_⟩
                rw [Try.results5]
                cases h
                exact ⟨_, _, _, _, _, rfl, trivial, .inl ⟨rfl, .inl rfl⟩, rfl, rfl⟩
            · have h := ite_t hb77 h
              refine a_cond_t rfl ?_
              refine a_seq ?_
              refine a_region ?_
              refine a_val (v := (.bool false)) (u := []) rfl trivial rfl ?_
              refine a_nil ?_
              refine a_next rfl ?_
              refine a_ret ?_
              refine t_ret ?_
              refine ⟨.inr rfl, ?_⟩
              rw [Try.results5]
              cases h
              exact ⟨_, _, _, _, _, rfl, trivial, .inl ⟨rfl, .inl rfl⟩, rfl, rfl⟩
          · have h := hy72
            refine a_region ?_
            refine a_val (v := (eSA64u8 r65.1)) (u := []) rfl trivial rfl ?_
            refine a_val (v := (eSA64u8 r15.1)) (u := []) rfl trivial rfl ?_
            obtain ⟨r74, hr75, h⟩ := bind_some h
            refine a_call (args := [(eSA64u8 r65.1), (eSA64u8 r15.1)]) (u := []) (r := (.bool r74)) rfl rfl (laws_eqPolyS_ok r65.1 r15.1 r74 hr75) rfl ?_
            refine a_val (v := (.bool (!r74))) (u := []) rfl trivial rfl ?_
            refine a_val (v := (.bool (!r74))) (u := []) rfl trivial rfl ?_
            cases hb76 : (!r74)
            · have h := ite_f hb76 h
              refine a_gval rfl (v := (.int .i64 r65.2)) (u := []) rfl trivial rfl ?_
              refine a_gval rfl (v := (.int .i64 r15.2)) (u := []) rfl trivial rfl ?_
              refine a_gval rfl (v := (.bool (r65.2 != r15.2))) (u := []) rfl trivial rfl ?_
              refine a_val (v := (.bool (r65.2 != r15.2))) (u := []) rfl trivial rfl ?_
              refine a_nil ?_
              exact j_leaf (r65.2 != r15.2) (Option.some.inj h) rfl
            · have h := ite_t hb76 h
              refine a_gskip rfl ?_
              refine a_gskip rfl ?_
              refine a_gskip rfl ?_
              refine a_val (v := (.bool true)) (u := []) rfl trivial rfl ?_
              refine a_nil ?_
              exact j_leaf true (Option.some.inj h) rfl
        · have h := ite_t hb50 h
          refine a_cond_t rfl ?_
          refine a_seq ?_
          refine a_region ?_
          refine a_val (v := (.bool false)) (u := []) rfl trivial rfl ?_
          refine a_nil ?_
          refine a_next rfl ?_
          refine a_ret ?_
          refine t_ret ?_
          refine ⟨.inr rfl, ?_⟩
          rw [Try.results5]
          cases h
          exact ⟨_, _, _, _, _, rfl, trivial, .inl ⟨rfl, .inl rfl⟩, rfl, rfl⟩
      · have h := ite_t hb49 h
        refine a_cond_t rfl ?_
        refine a_seq ?_
        refine a_region ?_
        refine a_val (v := (.bool false)) (u := []) rfl trivial rfl ?_
        refine a_nil ?_
        refine a_next rfl ?_
        refine a_ret ?_
        refine t_ret ?_
        refine ⟨.inr rfl, ?_⟩
        rw [Try.results5]
        cases h
        exact ⟨_, _, _, _, _, rfl, trivial, .inl ⟨rfl, .inl rfl⟩, rfl, rfl⟩
    · have h := ite_t hb43 h
      refine a_cond_t rfl ?_
      refine a_seq ?_
      refine a_region ?_
      refine a_val (v := (.bool false)) (u := []) rfl trivial rfl ?_
      refine a_nil ?_
      refine a_next rfl ?_
      refine a_ret ?_
      refine t_ret ?_
      refine ⟨.inr rfl, ?_⟩
      rw [Try.results5]
      cases h
      exact ⟨_, _, _, _, _, rfl, trivial, .inl ⟨rfl, .inl rfl⟩, rfl, rfl⟩
  · have h := hy38
    refine a_region ?_
    refine a_val (v := (.osl 9)) (u := []) rfl trivial rfl ?_
    refine a_val (v := (eSA64u8 r15.1)) (u := []) rfl trivial rfl ?_
    obtain ⟨r40, hr41, h⟩ := bind_some h
    refine a_callB (args := [(eSA64u8 r31.1), (eSA64u8 r15.1)]) (u := [(9, some ⟨(.row 64 (r31.1.map eA64u8)), true⟩)]) (r := (.bool r40)) rfl rfl (laws_eqPolyS_ok r31.1 r15.1 r40 hr41) rfl trivial ?_
    refine a_val (v := (.bool (!r40))) (u := []) rfl trivial rfl ?_
    refine a_val (v := (.bool (!r40))) (u := []) rfl trivial rfl ?_
    cases hb42 : (!r40)
    · have h := ite_f hb42 h
      refine a_gval rfl (v := (.int .i64 r31.2)) (u := []) rfl trivial rfl ?_
      refine a_gval rfl (v := (.int .i64 r15.2)) (u := []) rfl trivial rfl ?_
      refine a_gval rfl (v := (.bool (r31.2 != r15.2))) (u := []) rfl trivial rfl ?_
      refine a_val (v := (.bool (r31.2 != r15.2))) (u := []) rfl trivial rfl ?_
      refine a_nil ?_
      exact j_leaf (r31.2 != r15.2) (Option.some.inj h) rfl
    · have h := ite_t hb42 h
      refine a_gskip rfl ?_
      refine a_gskip rfl ?_
      refine a_gskip rfl ?_
      refine a_val (v := (.bool true)) (u := []) rfl trivial rfl ?_
      refine a_nil ?_
      exact j_leaf true (Option.some.inj h) rfl
def impl_row_at_c : ACode := (.seq (.region 0 [⟨some 4, .asg 0 (.const (.int .i64 0)) 2, none, []⟩] false) (.seq (.seq (.region 1 [⟨some 5, .mov (.tmp 1), none, []⟩, ⟨some 6, .mov (.tmp 0), none, []⟩, ⟨some 7, .blt 0 .len [(.tmp 6)] [64], none, []⟩, ⟨some 8, .bin .lss 3 (.tmp 5) (.tmp 7), none, []⟩] false) (.cond (.tmp 8) (.seq (.region 2 [⟨some 9, .mov (.tmp 0), none, []⟩, ⟨some 10, .mov (.tmp 1), none, []⟩, ⟨some 11, .indexAddr 64 (.tmp 9) (.tmp 10), none, []⟩, ⟨some 12, .load 2 (.tmp 11), none, []⟩, ⟨some 4, .asg 0 (.tmp 12) 2, none, []⟩] false) .ret) .skip)) (.seq (.region 3 [⟨some 4, .asg 0 (.const (.int .i64 0)) 2, none, []⟩] false) .ret)))
def impl_row_at_L : Live := [(0, [0, 1]), (1, [0, 1]), (2, [0, 1]), (3, []), (100008, [0, 1, 8])]
theorem impl_row_at_body : Try.f93.body = some (Try.f93.body.getD .skip) := by kernel_rfl
theorem impl_row_at_strip : strip [] (Try.f93.body.getD .skip) = impl_row_at_c := by kernel_rfl
noncomputable def impl_row_at (a0 : (List Int)) (a1 : Int) : Option Int :=
  (if (decide (a1 < (a0.length : Int))) then (ifp (0 ≤ a1 ∧ a1 < ((a0.length : Nat) : Int)) ((some (rd a0 a1.toNat)))) else (some 0))
set_option maxHeartbeats 16000000 in
theorem impl_row_at_ok (a0 : (List Int)) (a1 : Int) (r : Int) (h : impl_row_at a0 a1 = some r) : Den Try.prog 93 [(eSi64 a0), (.int .i64 a1)] { r := (.int .i64 r) } := by
  refine den_of (rs := [(.int .i64 r)]) (ac := impl_row_at_c) (L := impl_row_at_L) (n := 13) (m := []) good Try.func93 impl_row_at_body (by kernel_rfl) Try.ntmps93 rfl rfl impl_row_at_strip rfl rfl ?_
  refine a_st (σ' := ⟨[(0, (eSi64 a0)), (1, (.int .i64 a1))], []⟩) rfl ?_
  unfold impl_row_at_c
  refine a_seq ?_
  refine a_region ?_
  refine a_val (v := (.int .i64 0)) (u := []) rfl trivial rfl ?_
  refine a_nil ?_
  refine a_next (σ' := ⟨[(0, (eSi64 a0)), (1, (.int .i64 a1))], []⟩) rfl ?_
  refine a_seq ?_
  refine a_seq ?_
  refine a_region ?_
  refine a_val (v := (.int .i64 a1)) (u := []) rfl trivial rfl ?_
  refine a_val (v := (eSi64 a0)) (u := []) rfl trivial rfl ?_
  refine a_val (v := (.int .i64 (a0.length : Int))) (u := []) (len_run rfl rfl) trivial rfl ?_
  refine a_val (v := (.bool ((decide (a1 < (a0.length : Int)))))) (u := []) rfl trivial rfl ?_
  refine a_nil ?_
  refine a_next (σ' := ⟨[(0, (eSi64 a0)), (1, (.int .i64 a1)), (8, (.bool ((decide (a1 < (a0.length : Int))))))], []⟩) rfl ?_
  cases hb1 : (decide (a1 < (a0.length : Int)))
  · have h := ite_f hb1 h
    refine a_cond_f rfl ?_
    refine a_skip ?_
    refine a_next (σ' := ⟨[], []⟩) rfl ?_
    refine a_seq ?_
    refine a_region ?_
    refine a_val (v := (.int .i64 0)) (u := []) rfl trivial rfl ?_
    refine a_nil ?_
    refine a_next rfl ?_
    refine a_ret ?_
    refine ⟨.inr rfl, ?_⟩
    rw [Try.results93]
    cases h
    exact ⟨_, _, _, _, _, rfl, trivial, .inl ⟨rfl, .inl rfl⟩, rfl, rfl⟩
  · have h := ite_t hb1 h
    refine a_cond_t rfl ?_
    refine a_seq ?_
    refine a_region ?_
    refine a_val (v := (eSi64 a0)) (u := []) rfl trivial rfl ?_
    refine a_val (v := (.int .i64 a1)) (u := []) rfl trivial rfl ?_
    obtain ⟨hc2, h⟩ := ifp_some h
    refine a_val (v := (.ref (.row 1 (a0.map (AV.int .i64))) [a1.toNat] [a1.toNat * 1])) (u := []) rfl (lmap hc2) rfl ?_
    have hl3 : LdOk [a1.toNat] (.row 1 (a0.map (AV.int .i64))) [a1.toNat * 1] 1 false (.int .i64 (rd a0 a1.toNat)) := (.row (llt hc2) rfl (.nil rfl rfl rfl))
    refine a_val (v := (.int .i64 (rd a0 a1.toNat))) (u := []) (ld_ref (i := ⟨.int .i64, 1, 8, (.int .i64 0)⟩) rfl rfl hl3) hl3.c rfl ?_
    refine a_val (v := (.int .i64 (rd a0 a1.toNat))) (u := []) rfl trivial rfl ?_
    refine a_nil ?_
    refine a_next rfl ?_
    refine a_ret ?_
    refine t_ret ?_
    refine ⟨.inr rfl, ?_⟩
    rw [Try.results93]
    cases h
    exact ⟨_, _, _, _, _, rfl, trivial, .inl ⟨rfl, .inl rfl⟩, rfl, rfl⟩
def impl_prime_combine_c : ACode := (.seq (.region 0 [⟨some 8, .asg 1 (.const (.slice none 0 0)) 64, none, []⟩] false) (.seq (.region 1 [⟨some 11, .mov (.tmp 1), none, []⟩, ⟨some 12, .blt 0 .len [(.tmp 11)] [64], none, []⟩, ⟨some 13, .mov (.tmp 2), none, []⟩, ⟨some 14, .blt 0 .len [(.tmp 13)] [64], none, []⟩, ⟨some 15, .blt 0 .max [(.tmp 12), (.tmp 14)] [3, 3], none, []⟩, ⟨some 16, .mkslice 64 (.tmp 15) (.tmp 15), none, []⟩, ⟨some 9, .asg 2 (.tmp 16) 64, none, []⟩] false) (.seq (.seq (.region 2 [⟨some 17, .mov (.tmp 9), none, []⟩, ⟨some 18, .blt 0 .len [(.tmp 17)] [64], none, []⟩, ⟨some 19, .mov (.const (.int .i64 0)), none, []⟩] false) (.block 0 (.loop (.seq (.region 3 [⟨some 20, .bin .lss 3 (.tmp 19) (.tmp 18), none, []⟩] false) (.seq (.cond (.tmp 20) .skip (.exit 0)) (.seq (.block 1 (.seq (.region 4 [⟨some 21, .mov (.tmp 19), none, []⟩, ⟨some 10, .asg 0 (.tmp 21) 3, none, []⟩] false) (.region 5 [⟨some 22, .mov (.tmp 9), none, []⟩, ⟨some 23, .mov (.tmp 10), none, []⟩, ⟨some 24, .mov (.tmp 0), none, []⟩, ⟨some 25, .mov (.tmp 1), none, []⟩, ⟨some 26, .mov (.tmp 10), none, []⟩, ⟨some 27, .call 0 (.func 93) [(.tmp 25), (.tmp 26)], none, []⟩, ⟨some 28, .mov (.tmp 3), none, []⟩, ⟨some 29, .mov (.tmp 2), none, []⟩, ⟨some 30, .mov (.tmp 10), none, []⟩, ⟨some 31, .call 0 (.func 93) [(.tmp 29), (.tmp 30)], none, []⟩, ⟨some 32, .bin .mul 2 (.tmp 28) (.tmp 31), none, []⟩, ⟨some 33, .bin .add 2 (.tmp 27) (.tmp 32), none, []⟩, ⟨some 34, .call 0 (.func 110) [(.tmp 24), (.tmp 33)], none, []⟩, ⟨some 35, .indexAddr 64 (.tmp 22) (.tmp 23), none, []⟩, ⟨none, .store 2 (.tmp 35) (.tmp 34), none, []⟩] false))) (.region 6 [⟨some 36, .bin .add 3 (.tmp 19) (.const (.int .i64 1)), none, []⟩, ⟨some 19, .mov (.tmp 36), none, []⟩] false))))))) (.seq (.region 7 [⟨some 37, .mov (.tmp 9), none, []⟩, ⟨some 38, .call 0 (.func 111) [(.tmp 37)], none, []⟩, ⟨some 8, .asg 1 (.tmp 38) 64, none, []⟩] false) .ret))))
def impl_prime_combine_L : Live := [(0, [0, 1, 2, 3]), (1, [0, 1, 2, 3]), (2, [0, 1, 2, 3, 9]), (3, [0, 1, 2, 3, 9, 18, 19]), (4, [0, 1, 2, 3, 9, 18, 19]), (5, [0, 1, 2, 3, 9, 10, 18, 19]), (6, [0, 1, 2, 3, 9, 18, 19]), (7, [9]), (100020, [0, 1, 2, 3, 9, 18, 19, 20])]
theorem impl_prime_combine_body : Try.f56.body = some (Try.f56.body.getD .skip) := by kernel_rfl
theorem impl_prime_combine_strip : strip [(8, 1), (9, 2)] (Try.f56.body.getD .skip) = impl_prime_combine_c := by kernel_rfl
noncomputable def impl_prime_combine_l1 (x1 : Int) (a1 : (List Int)) (a2 : (List Int)) (a0 : Int) (a3 : Int) (x58 : Int) (x59 : (List Int)) : Option ((Int × (List Int)) ⊕ (List Int)) :=
  (letp ((decide (x58 < (((List.replicate x1.toNat (0 : Int)).length : Int))))) fun x74 => (if x74 then (Option.bind (impl_row_at a1 x58) fun r77 => (Option.bind (impl_row_at a2 x58) fun r79 => (Option.bind (impl_prime_reduce a0 (IntKind.i64.wrap (r77 + (IntKind.i64.wrap (a3 * r79))))) fun r81 => (ifp (0 ≤ x58 ∧ x58 < ((x59.length : Nat) : Int)) ((some (.inl ((IntKind.i64.wrap (x58 + 1), (x59.set x58.toNat r81)))))))))) else (some (.inr x59))))
noncomputable def impl_prime_combine (a0 : Int) (a1 : (List Int)) (a2 : (List Int)) (a3 : Int) : Option (List Int) :=
  (letp ((if (a2.length : Int) > (a1.length : Int) then (a2.length : Int) else (a1.length : Int))) fun x1 => (ifp (0 ≤ x1 ∧ x1 ≤ 140737488355328 ∧ 8 * x1 ≤ 140737488355328) ((Option.bind (α := (List Int)) ((loopM (fun s : (Int × (List Int)) => impl_prime_combine_l1 x1 a1 a2 a0 a3 s.1 s.2) (0, List.replicate x1.toNat (0 : Int)))) fun x43 => (Option.bind (impl_row_trimmed x43) fun r86 => (some r86))))))
set_option maxHeartbeats 16000000 in
theorem impl_prime_combine_ok (a0 : Int) (a1 : (List Int)) (a2 : (List Int)) (a3 : Int) (r : (List Int)) (h : impl_prime_combine a0 a1 a2 a3 = some r) : Den Try.prog 56 [(.int .i64 a0), (eSi64 a1), (eSi64 a2), (.int .i64 a3)] { r := (eSi64 r) } := by
  refine den_of (rs := [(eSi64 r)]) (ac := impl_prime_combine_c) (L := impl_prime_combine_L) (n := 39) (m := [(8, 1), (9, 2)]) good Try.func56 impl_prime_combine_body (by kernel_rfl) Try.ntmps56 rfl rfl impl_prime_combine_strip rfl rfl ?_
  refine a_st (σ' := ⟨[(0, (.int .i64 a0)), (1, (eSi64 a1)), (2, (eSi64 a2)), (3, (.int .i64 a3))], []⟩) rfl ?_
  unfold impl_prime_combine_c
  refine a_seq ?_
  refine a_region ?_
  refine a_val (v := (eSi64 ([]))) (u := []) rfl trivial rfl ?_
  refine a_nil ?_
  refine a_next (σ' := ⟨[(0, (.int .i64 a0)), (1, (eSi64 a1)), (2, (eSi64 a2)), (3, (.int .i64 a3))], []⟩) rfl ?_
  refine a_seq ?_
  refine a_region ?_
  refine a_val (v := (eSi64 a1)) (u := []) rfl trivial rfl ?_
  refine a_val (v := (.int .i64 (a1.length : Int))) (u := []) (len_run rfl rfl) trivial rfl ?_
  refine a_val (v := (eSi64 a2)) (u := []) rfl trivial rfl ?_
  refine a_val (v := (.int .i64 (a2.length : Int))) (u := []) (len_run rfl rfl) trivial rfl ?_
  obtain ⟨x1, hx2, h⟩ := letp_some h
  refine a_val' (v := (.int .i64 ((if (a2.length : Int) > (a1.length : Int) then (a2.length : Int) else (a1.length : Int))))) (v' := (.int .i64 x1)) (u := []) (u' := []) rfl (congrArg (fun z => ((.int .i64 z) : AV)) hx2) rfl trivial rfl ?_
  obtain ⟨hc3, h⟩ := ifp_some h
  refine a_val (v := (.osl 2600)) (u := [(2600, some ⟨(.row 1 ((List.replicate x1.toNat (0 : Int)).map (AV.int .i64))), false⟩)]) (mk_run (i := ⟨.int .i64, 1, 8, (.int .i64 0)⟩) (f := (AV.int .i64)) (y := (0 : Int)) rfl rfl rfl rfl rfl rfl) ⟨rfl, hc3.1, hc3.2.1, hc3.2.2, (Nat.le_of_ble_eq_true rfl)⟩ rfl ?_
  refine a_val (v := (.osl 2600)) (u := []) rfl trivial rfl ?_
  refine a_nil ?_
  refine a_next (σ' := ⟨[(0, (.int .i64 a0)), (1, (eSi64 a1)), (2, (eSi64 a2)), (3, (.int .i64 a3)), (9, (.osl 9))], [(9, some ⟨(.row 1 ((List.replicate x1.toNat (0 : Int)).map (AV.int .i64))), false⟩)]⟩) rfl ?_
  obtain ⟨y44, hy45, hk46⟩ := bind_some h
  clear h
  refine a_join (emb := fun (s : (List Int)) => ⟨[(9, (.osl 9))], [(9, some ⟨(.row 1 (s.map (AV.int .i64))), false⟩)]⟩) (pre := fun s => s = y44) ?_ ?_
  · rintro x43 rfl
    have h := hk46
    refine a_st (σ' := ⟨[(9, (.osl 9))], [(9, some ⟨(.row 1 (x43.map (AV.int .i64))), false⟩)]⟩) rfl ?_
    refine a_seq ?_
    refine a_region ?_
    refine a_val (v := (.osl 9)) (u := []) rfl trivial rfl ?_
    obtain ⟨r86, hr87, h⟩ := bind_some h
    refine a_call (args := [(eSi64 x43)]) (u := [(9, some ⟨(.row 1 (x43.map (AV.int .i64))), true⟩)]) (r := (eSi64 r86)) rfl rfl (impl_row_trimmed_ok x43 r86 hr87) rfl ?_
    refine a_val (v := (eSi64 r86)) (u := []) rfl trivial rfl ?_
    refine a_nil ?_
    refine a_next rfl ?_
    refine a_ret ?_
    refine ⟨.inr rfl, ?_⟩
    rw [Try.results56]
    cases h
    exact ⟨_, _, _, _, _, rfl, trivial, .inl ⟨rfl, .inl rfl⟩, rfl, rfl⟩
  · have h := hy45
    refine a_seq ?_
    refine a_region ?_
    refine a_val (v := (.osl 9)) (u := []) rfl trivial rfl ?_
    refine a_val (v := (.int .i64 (((List.replicate x1.toNat (0 : Int)).length : Int)))) (u := []) (leno_run rfl rfl rfl) trivial rfl ?_
    refine a_val (v := (.int .i64 0)) (u := []) rfl trivial rfl ?_
    refine a_nil ?_
    refine a_next (σ' := ⟨[(0, (.int .i64 a0)), (1, (eSi64 a1)), (2, (eSi64 a2)), (3, (.int .i64 a3)), (9, (.osl 9)), (18, (.int .i64 (((List.replicate x1.toNat (0 : Int)).length : Int)))), (19, (.int .i64 0))], [(9, some ⟨(.row 1 ((List.replicate x1.toNat (0 : Int)).map (AV.int .i64))), false⟩)]⟩) rfl ?_
    refine a_block ?_
    refine a_loop (emb := fun (s : (Int × (List Int))) => ⟨[(0, (.int .i64 a0)), (1, (eSi64 a1)), (2, (eSi64 a2)), (3, (.int .i64 a3)), (9, (.osl 9)), (18, (.int .i64 (((List.replicate x1.toNat (0 : Int)).length : Int)))), (19, (.int .i64 s.1))], [(9, some ⟨(.row 1 (s.2.map (AV.int .i64))), false⟩)]⟩) (body := (fun s : (Int × (List Int)) => impl_prime_combine_l1 x1 a1 a2 a0 a3 s.1 s.2)) (G := fun q => some q = some y44) h rfl ?_ rfl
    rintro X71 ⟨x58, x59⟩ x72 h hX73
    have h : impl_prime_combine_l1 x1 a1 a2 a0 a3 x58 x59 = some x72 := h
    refine a_st (σ' := ⟨[(0, (.int .i64 a0)), (1, (eSi64 a1)), (2, (eSi64 a2)), (3, (.int .i64 a3)), (9, (.osl 9)), (18, (.int .i64 (((List.replicate x1.toNat (0 : Int)).length : Int)))), (19, (.int .i64 x58))], [(9, some ⟨(.row 1 (x59.map (AV.int .i64))), false⟩)]⟩) rfl ?_
    refine a_seq ?_
    refine a_region ?_
    obtain ⟨x74, hx75, h⟩ := letp_some h
    refine a_val' (v := (.bool ((decide (x58 < (((List.replicate x1.toNat (0 : Int)).length : Int))))))) (v' := (.bool x74)) (u := []) (u' := []) rfl (congrArg (fun z => ((.bool z) : AV)) hx75) rfl trivial rfl ?_
    refine a_nil ?_
    refine a_next (σ' := ⟨[(0, (.int .i64 a0)), (1, (eSi64 a1)), (2, (eSi64 a2)), (3, (.int .i64 a3)), (9, (.osl 9)), (18, (.int .i64 (((List.replicate x1.toNat (0 : Int)).length : Int)))), (19, (.int .i64 x58)), (20, (.bool x74))], [(9, some ⟨(.row 1 (x59.map (AV.int .i64))), false⟩)]⟩) rfl ?_
    refine a_seq ?_
    cases hb76 : x74
    · have h := ite_f hb76 h
      refine a_cond_f rfl ?_
      refine a_exit ?_
      refine t_exit ?_
      cases h
      have h := hX73
      refine t_exit ?_
      refine b_exit ?_
      exact j_leaf x59 (Option.some.inj h) rfl
    · have h := ite_t hb76 h
      refine a_cond_t rfl ?_
      refine a_skip ?_
      refine a_next (σ' := ⟨[(0, (.int .i64 a0)), (1, (eSi64 a1)), (2, (eSi64 a2)), (3, (.int .i64 a3)), (9, (.osl 9)), (18, (.int .i64 (((List.replicate x1.toNat (0 : Int)).length : Int)))), (19, (.int .i64 x58))], [(9, some ⟨(.row 1 (x59.map (AV.int .i64))), false⟩)]⟩) rfl ?_
      refine a_seq ?_
      refine a_block ?_
      refine a_seq ?_
      refine a_region ?_
      refine a_val (v := (.int .i64 x58)) (u := []) rfl trivial rfl ?_
      refine a_val (v := (.int .i64 x58)) (u := []) rfl trivial rfl ?_
      refine a_nil ?_
      refine a_next (σ' := ⟨[(0, (.int .i64 a0)), (1, (eSi64 a1)), (2, (eSi64 a2)), (3, (.int .i64 a3)), (9, (.osl 9)), (10, (.int .i64 x58)), (18, (.int .i64 (((List.replicate x1.toNat (0 : Int)).length : Int)))), (19, (.int .i64 x58))], [(9, some ⟨(.row 1 (x59.map (AV.int .i64))), false⟩)]⟩) rfl ?_
      refine a_region ?_
      refine a_val (v := (.osl 9)) (u := []) rfl trivial rfl ?_
      refine a_val (v := (.int .i64 x58)) (u := []) rfl trivial rfl ?_
      refine a_val (v := (.int .i64 a0)) (u := []) rfl trivial rfl ?_
      refine a_val (v := (eSi64 a1)) (u := []) rfl trivial rfl ?_
      refine a_val (v := (.int .i64 x58)) (u := []) rfl trivial rfl ?_
      obtain ⟨r77, hr78, h⟩ := bind_some h
      refine a_call (args := [(eSi64 a1), (.int .i64 x58)]) (u := []) (r := (.int .i64 r77)) rfl rfl (impl_row_at_ok a1 x58 r77 hr78) rfl ?_
      refine a_val (v := (.int .i64 a3)) (u := []) rfl trivial rfl ?_
      refine a_val (v := (eSi64 a2)) (u := []) rfl trivial rfl ?_
      refine a_val (v := (.int .i64 x58)) (u := []) rfl trivial rfl ?_
      obtain ⟨r79, hr80, h⟩ := bind_some h
      refine a_call (args := [(eSi64 a2), (.int .i64 x58)]) (u := []) (r := (.int .i64 r79)) rfl rfl (impl_row_at_ok a2 x58 r79 hr80) rfl ?_
      refine a_val (v := (.int .i64 (IntKind.i64.wrap (a3 * r79)))) (u := []) rfl trivial rfl ?_
      refine a_val (v := (.int .i64 (IntKind.i64.wrap (r77 + (IntKind.i64.wrap (a3 * r79)))))) (u := []) rfl trivial rfl ?_
      obtain ⟨r81, hr82, h⟩ := bind_some h
      refine a_call (args := [(.int .i64 a0), (.int .i64 (IntKind.i64.wrap (r77 + (IntKind.i64.wrap (a3 * r79)))))]) (u := []) (r := (.int .i64 r81)) rfl rfl (impl_prime_reduce_ok a0 (IntKind.i64.wrap (r77 + (IntKind.i64.wrap (a3 * r79)))) r81 hr82) rfl ?_
      obtain ⟨hc83, h⟩ := ifp_some h
      refine a_val (v := (.own 9 [x58.toNat] [x58.toNat * 1])) (u := []) rfl (lmap hc83) rfl ?_
      have hs84 : StOk [x58.toNat] (.row 1 (x59.map (AV.int .i64))) [x58.toNat * 1] 1 (.int .i64 r81) (.row 1 ((x59.set x58.toNat r81).map (AV.int .i64))) := (.row (y := r81) (llt hc83) rfl (.nil rfl rfl rfl rfl))
      refine a_val (v := .top) (u := [(9, some ⟨(.row 1 ((x59.set x58.toNat r81).map (AV.int .i64))), false⟩)]) (st_own (i := ⟨.int .i64, 1, 8, (.int .i64 0)⟩) rfl rfl (fun _ => rfl) rfl hs84) (hs84.c rfl) rfl ?_
      refine a_nil ?_
      refine b_norm ?_
      refine a_next (σ' := ⟨[(0, (.int .i64 a0)), (1, (eSi64 a1)), (2, (eSi64 a2)), (3, (.int .i64 a3)), (9, (.osl 9)), (18, (.int .i64 (((List.replicate x1.toNat (0 : Int)).length : Int)))), (19, (.int .i64 x58))], [(9, some ⟨(.row 1 ((x59.set x58.toNat r81).map (AV.int .i64))), false⟩)]⟩) rfl ?_
      refine a_region ?_
      refine a_val (v := (.int .i64 (IntKind.i64.wrap (x58 + 1)))) (u := []) rfl trivial rfl ?_
      refine a_val (v := (.int .i64 (IntKind.i64.wrap (x58 + 1)))) (u := []) rfl trivial rfl ?_
      refine a_nil ?_
      cases h
      exact a_again rfl hX73
def impl_row_degree_c : ACode := (.seq (.region 0 [⟨some 2, .asg 0 (.const (.int .i64 0)) 2, none, []⟩] false) (.seq (.region 1 [⟨some 3, .mov (.tmp 0), none, []⟩, ⟨some 4, .blt 0 .len [(.tmp 3)] [64], none, []⟩, ⟨some 5, .bin .sub 2 (.tmp 4) (.const (.int .i64 1)), none, []⟩, ⟨some 2, .asg 0 (.tmp 5) 2, none, []⟩] false) .ret))
def impl_row_degree_L : Live := [(0, [0]), (1, [0])]
theorem impl_row_degree_body : Try.f89.body = some (Try.f89.body.getD .skip) := by kernel_rfl
theorem impl_row_degree_strip : strip [] (Try.f89.body.getD .skip) = impl_row_degree_c := by kernel_rfl
noncomputable def impl_row_degree (a0 : (List Int)) : Option Int :=
  (some (IntKind.i64.wrap ((a0.length : Int) - 1)))
set_option maxHeartbeats 16000000 in
theorem impl_row_degree_ok (a0 : (List Int)) (r : Int) (h : impl_row_degree a0 = some r) : Den Try.prog 89 [(eSi64 a0)] { r := (.int .i64 r) } := by
  refine den_of (rs := [(.int .i64 r)]) (ac := impl_row_degree_c) (L := impl_row_degree_L) (n := 6) (m := []) good Try.func89 impl_row_degree_body (by kernel_rfl) Try.ntmps89 rfl rfl impl_row_degree_strip rfl rfl ?_
  refine a_st (σ' := ⟨[(0, (eSi64 a0))], []⟩) rfl ?_
  unfold impl_row_degree_c
  refine a_seq ?_
  refine a_region ?_
  refine a_val (v := (.int .i64 0)) (u := []) rfl trivial rfl ?_
  refine a_nil ?_
  refine a_next (σ' := ⟨[(0, (eSi64 a0))], []⟩) rfl ?_
  refine a_seq ?_
  refine a_region ?_
  refine a_val (v := (eSi64 a0)) (u := []) rfl trivial rfl ?_
  refine a_val (v := (.int .i64 (a0.length : Int))) (u := []) (len_run rfl rfl) trivial rfl ?_
  refine a_val (v := (.int .i64 (IntKind.i64.wrap ((a0.length : Int) - 1)))) (u := []) rfl trivial rfl ?_
  refine a_val (v := (.int .i64 (IntKind.i64.wrap ((a0.length : Int) - 1)))) (u := []) rfl trivial rfl ?_
  refine a_nil ?_
  refine a_next rfl ?_
  refine a_ret ?_
  refine ⟨.inr rfl, ?_⟩
  rw [Try.results89]
  cases h
  exact ⟨_, _, _, _, _, rfl, trivial, .inl ⟨rfl, .inl rfl⟩, rfl, rfl⟩
def impl_row_fits_c : ACode := (.seq (.region 0 [⟨some 2, .asg 0 (.const (.bool false)) 4, none, []⟩] false) (.seq (.region 1 [⟨some 3, .mov (.tmp 0), none, []⟩, ⟨some 4, .call 0 (.func 89) [(.tmp 3)], none, []⟩, ⟨some 5, .bin .leq 2 (.tmp 4) (.const (.int .i64 63)), none, []⟩, ⟨some 2, .asg 0 (.tmp 5) 4, none, []⟩] false) .ret))
def impl_row_fits_L : Live := [(0, [0]), (1, [0])]
theorem impl_row_fits_body : Try.f112.body = some (Try.f112.body.getD .skip) := by kernel_rfl
theorem impl_row_fits_strip : strip [] (Try.f112.body.getD .skip) = impl_row_fits_c := by kernel_rfl
noncomputable def impl_row_fits (a0 : (List Int)) : Option Bool :=
  (Option.bind (impl_row_degree a0) fun r1 => (some ((decide (r1 ≤ 63)))))
set_option maxHeartbeats 16000000 in
theorem impl_row_fits_ok (a0 : (List Int)) (r : Bool) (h : impl_row_fits a0 = some r) : Den Try.prog 112 [(eSi64 a0)] { r := (.bool r) } := by
  refine den_of (rs := [(.bool r)]) (ac := impl_row_fits_c) (L := impl_row_fits_L) (n := 6) (m := []) good Try.func112 impl_row_fits_body (by kernel_rfl) Try.ntmps112 rfl rfl impl_row_fits_strip rfl rfl ?_
  refine a_st (σ' := ⟨[(0, (eSi64 a0))], []⟩) rfl ?_
  unfold impl_row_fits_c
  refine a_seq ?_
  refine a_region ?_
  refine a_val (v := (.bool false)) (u := []) rfl trivial rfl ?_
  refine a_nil ?_
  refine a_next (σ' := ⟨[(0, (eSi64 a0))], []⟩) rfl ?_
  refine a_seq ?_
  refine a_region ?_
  refine a_val (v := (eSi64 a0)) (u := []) rfl trivial rfl ?_
  obtain ⟨r1, hr2, h⟩ := bind_some h
  refine a_call (args := [(eSi64 a0)]) (u := []) (r := (.int .i64 r1)) rfl rfl (impl_row_degree_ok a0 r1 hr2) rfl ?_
  refine a_val (v := (.bool ((decide (r1 ≤ 63))))) (u := []) rfl trivial rfl ?_
  refine a_val (v := (.bool ((decide (r1 ≤ 63))))) (u := []) rfl trivial rfl ?_
  refine a_nil ?_
  refine a_next rfl ?_
  refine a_ret ?_
  refine ⟨.inr rfl, ?_⟩
  rw [Try.results112]
  cases h
  exact ⟨_, _, _, _, _, rfl, trivial, .inl ⟨rfl, .inl rfl⟩, rfl, rfl⟩
def impl_told_c : ACode := (.seq (.region 0 [⟨some 2, .alloc 23, none, []⟩, ⟨some 3, .asg 0 (.const (.int .i64 0)) 2, none, []⟩] false) (.seq (.seq (.region 1 [⟨some 4, .mov (.tmp 0), none, []⟩, ⟨some 5, .call 0 (.func 112) [(.tmp 4)], none, []⟩, ⟨some 6, .un .not (.tmp 5), none, []⟩] false) (.cond (.tmp 6) (.seq (.region 2 [⟨some 7, .build 23 [], none, []⟩, ⟨none, .store 23 (.tmp 2) (.tmp 7), none, []⟩, ⟨some 3, .asg 0 (.const (.int .i64 3)) 2, none, []⟩] false) .ret) .skip)) (.seq (.region 3 [⟨some 8, .mov (.tmp 0), none, []⟩, ⟨some 9, .call 0 (.func 101) [(.tmp 8)], none, []⟩, ⟨none, .store 23 (.tmp 2) (.tmp 9), none, []⟩, ⟨some 3, .asg 0 (.const (.int .i64 0)) 2, none, []⟩] false) .ret)))
def impl_told_L : Live := [(0, [0]), (1, [0, 2]), (2, [2]), (3, [0, 2]), (100006, [0, 2, 6])]
theorem impl_told_body : Try.f58.body = some (Try.f58.body.getD .skip) := by kernel_rfl
theorem impl_told_strip : strip [] (Try.f58.body.getD .skip) = impl_told_c := by kernel_rfl
noncomputable def impl_told (a0 : (List Int)) : Option ((Vec Int 64) × Int) :=
  (Option.bind (impl_row_fits a0) fun r1 => (if (!r1) then (some (((vrep 64 (0 : Int)), 3))) else (Option.bind (impl_row_poly a0) fun r4 => (some (r4, 0)))))
set_option maxHeartbeats 16000000 in
theorem impl_told_ok (a0 : (List Int)) (r : ((Vec Int 64) × Int)) (h : impl_told a0 = some r) : Den Try.prog 58 [(eSi64 a0)] { r := (.tuple [(eA64u8 r.1), (.int .i64 r.2)]) } := by
  refine den_of (rs := [(eA64u8 r.1), (.int .i64 r.2)]) (ac := impl_told_c) (L := impl_told_L) (n := 10) (m := []) good Try.func58 impl_told_body (by kernel_rfl) Try.ntmps58 rfl rfl impl_told_strip rfl rfl ?_
  refine a_st (σ' := ⟨[(0, (eSi64 a0))], []⟩) rfl ?_
  unfold impl_told_c
  refine a_seq ?_
  refine a_region ?_
  refine a_val (v := (.own 1200 [] [])) (u := [(1200, some ⟨(eA64u8 ((vrep 64 (0 : Int)))), false⟩)]) rfl trivial rfl ?_
  refine a_val (v := (.int .i64 0)) (u := []) rfl trivial rfl ?_
  refine a_nil ?_
  refine a_next (σ' := ⟨[(0, (eSi64 a0)), (2, (.own 2 [] []))], [(2, some ⟨(eA64u8 ((vrep 64 (0 : Int)))), false⟩)]⟩) rfl ?_
  refine a_seq ?_
  refine a_seq ?_
  refine a_region ?_
  refine a_val (v := (eSi64 a0)) (u := []) rfl trivial rfl ?_
  obtain ⟨r1, hr2, h⟩ := bind_some h
  refine a_call (args := [(eSi64 a0)]) (u := []) (r := (.bool r1)) rfl rfl (impl_row_fits_ok a0 r1 hr2) rfl ?_
  refine a_val (v := (.bool (!r1))) (u := []) rfl trivial rfl ?_
  refine a_nil ?_
  refine a_next (σ' := ⟨[(0, (eSi64 a0)), (2, (.own 2 [] [])), (6, (.bool (!r1)))], [(2, some ⟨(eA64u8 ((vrep 64 (0 : Int)))), false⟩)]⟩) rfl ?_
  cases hb3 : (!r1)
  · have h := ite_f hb3 h
    refine a_cond_f rfl ?_
    refine a_skip ?_
    refine a_next (σ' := ⟨[(0, (eSi64 a0)), (2, (.own 2 [] []))], [(2, some ⟨(eA64u8 ((vrep 64 (0 : Int)))), false⟩)]⟩) rfl ?_
    refine a_seq ?_
    refine a_region ?_
    refine a_val (v := (eSi64 a0)) (u := []) rfl trivial rfl ?_
    obtain ⟨r4, hr5, h⟩ := bind_some h
    refine a_call (args := [(eSi64 a0)]) (u := []) (r := (eA64u8 r4)) rfl rfl (impl_row_poly_ok a0 r4 hr5) rfl ?_
    have hs6 : StOk [] (eA64u8 ((vrep 64 (0 : Int)))) [] 64 (eA64u8 r4) (eA64u8 r4) := (.nil rfl rfl rfl rfl)
    refine a_val (v := .top) (u := [(2, some ⟨(eA64u8 r4), false⟩)]) (st_own (i := ⟨.arr 64 5, 64, 64, (eA64u8 (vrep 64 (0 : Int)))⟩) rfl rfl (fun _ => rfl) rfl hs6) (hs6.c rfl) rfl ?_
    refine a_val (v := (.int .i64 0)) (u := []) rfl trivial rfl ?_
    refine a_nil ?_
    refine a_next rfl ?_
    refine a_ret ?_
    have hl7 : LdOk [] (eA64u8 r4) [] 64 true (eA64u8 r4) := (.nil rfl rfl rfl)
    refine ⟨.inr rfl, ?_⟩
    rw [Try.results58]
    cases h
    exact ⟨_, _, _, _, _, ld_own (i := ⟨.arr 64 5, 64, 64, (eA64u8 (vrep 64 (0 : Int)))⟩) rfl rfl rfl hl7, hl7.c, .inl ⟨rfl, .inl rfl⟩, rfl, ⟨_, _, _, _, _, rfl, trivial, .inl ⟨rfl, .inl rfl⟩, rfl, rfl⟩⟩
  · have h := ite_t hb3 h
    refine a_cond_t rfl ?_
    refine a_seq ?_
    refine a_region ?_
    refine a_val (v := (eA64u8 ((vrep 64 (0 : Int))))) (u := []) rfl ⟨⟨_, rfl, rfl⟩, all_nil⟩ rfl ?_
    have hs8 : StOk [] (eA64u8 ((vrep 64 (0 : Int)))) [] 64 (eA64u8 ((vrep 64 (0 : Int)))) (eA64u8 ((vrep 64 (0 : Int)))) := (.nil rfl rfl rfl rfl)
    refine a_val (v := .top) (u := [(2, some ⟨(eA64u8 ((vrep 64 (0 : Int)))), false⟩)]) (st_own (i := ⟨.arr 64 5, 64, 64, (eA64u8 (vrep 64 (0 : Int)))⟩) rfl rfl (fun _ => rfl) rfl hs8) (hs8.c rfl) rfl ?_
    refine a_val (v := (.int .i64 3)) (u := []) rfl trivial rfl ?_
    refine a_nil ?_
    refine a_next rfl ?_
    refine a_ret ?_
    refine t_ret ?_
    have hl9 : LdOk [] (eA64u8 ((vrep 64 (0 : Int)))) [] 64 true (eA64u8 ((vrep 64 (0 : Int)))) := (.nil rfl rfl rfl)
    refine ⟨.inr rfl, ?_⟩
    rw [Try.results58]
    cases h
    exact ⟨_, _, _, _, _, ld_own (i := ⟨.arr 64 5, 64, 64, (eA64u8 (vrep 64 (0 : Int)))⟩) rfl rfl rfl hl9, hl9.c, .inl ⟨rfl, .inl rfl⟩, rfl, ⟨_, _, _, _, _, rfl, trivial, .inl ⟨rfl, .inl rfl⟩, rfl, rfl⟩⟩
end Go.Proofs.Ytgodhgbnjlflmaa
