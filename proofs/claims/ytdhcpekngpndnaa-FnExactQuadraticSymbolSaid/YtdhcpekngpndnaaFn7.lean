/- Functions of the program: plain Lean functions, and that the program computes them. Printed by gen.py. -/
import Derived.Test.YtdhcpekngpndnaaFnT
import Derived.Test.YtdhcpekngpndnaaFn1
import Derived.Test.YtdhcpekngpndnaaFn2
import Derived.Test.YtdhcpekngpndnaaFn3
import Derived.Test.YtdhcpekngpndnaaFn5
import Derived.Test.YtdhcpekngpndnaaFn6
namespace Go.Proofs.Ytdhcpekngpndnaa
open Go.Abs Go.Proofs
set_option linter.unusedSimpArgs false
set_option linter.unusedVariables false
set_option maxHeartbeats 16000000
attribute [local irreducible] Abs.acode Abs.aops Abs.aopsT Abs.thenK Abs.blockK

def spec_l01Irreducible_c : ACode := (.seq (.region 0 [q 3 (.box 26 (t 1)), q 4 (.asg 0 (.const (.bool false)) 4)] false) (.seq (.region 1 [q 8 (.load 26 (t 3)), ⟨some 9, .call 0 (.func 75) [(t 8)], none, [0]⟩, q 10 (.mov (t 0)), ⟨some 11, .call 0 (.func 157) [], none, [1]⟩, q 12 (.load 26 (t 3)), ⟨some 13, .call 0 (.func 96) [(t 10), (t 11), (t 12)], none, [2, 3, 4, 3]⟩, q 6 (.alloc 26), ⟨some 5, .asg 0 (t 9) 2, none, [1, 5, 0, 1, 6]⟩, ⟨none, .store 26 (t 6) (t 13), none, [6, 5, 7, 0, 1, 2, 3, 4, 5, 6, 7]⟩] true) (.seq (.seq (.region 2 [q 14 (.mov (t 5)), q 15 (.bin .lss 2 (t 14) (.const (.int .i64 1)))] false) (.cond (t 15) (.seq (.region 3 [q 4 (.asg 0 (.const (.bool false)) 4)] false) .ret) .skip)) (.seq (.seq (.region 4 [q 7 (.asg 0 (.const (.int .i64 1)) 2)] false) (.block 0 (.loop (.seq (.seq (.region 5 [q 16 (.mov (t 7)), q 17 (.bin .mul 2 (.const (.int .i64 2)) (t 16)), q 18 (.mov (t 5)), q 19 (.bin .leq 2 (t 17) (t 18))] false) (.cond (t 19) .skip (.exit 0))) (.seq (.block 1 (.seq (.region 7 [q 22 (.mov (t 0)), q 23 (.load 26 (t 6)), q 24 (.mov (t 0)), q 25 (.load 26 (t 3)), q 26 (.call 0 (.func 109) [(t 22), (t 23), (t 24), (t 25)]), ⟨none, .store 26 (t 6) (t 26), none, []⟩] false) (.seq (.region 8 [q 27 (.mov (t 0)), q 28 (.load 26 (t 3)), q 29 (.mov (t 0)), q 30 (.load 26 (t 6)), q 31 (.call 0 (.func 157) []), ⟨some 32, .call 0 (.func 94) [(t 29), (t 30), (t 31), (.const (.int .i64 (-1)))], none, [2, 3, 4, 4]⟩, ⟨some 33, .call 0 (.func 119) [(t 27), (t 28), (t 32)], none, [0, 1, 5, 5]⟩, ⟨some 34, .call 0 (.func 75) [(t 33)], none, [6, 6]⟩, ⟨some 35, .bin .neq 2 (t 34) (.const (.int .i64 0)), none, [7]⟩] true) (.cond (t 35) (.seq (.region 9 [q 4 (.asg 0 (.const (.bool false)) 4)] false) .ret) .skip)))) (.region 6 [q 20 (.mov (t 7)), q 21 (.bin .add 2 (t 20) (.const (.int .i64 1))), q 7 (.asg 0 (t 21) 2)] false)))))) (.seq (.region 10 [q 4 (.asg 0 (.const (.bool true)) 4)] false) .ret)))))
def spec_l01Irreducible_L : Live := [(0, [0, 1]), (1, [0, 3]), (2, [0, 3, 5, 6]), (3, []), (4, [0, 3, 5, 6]), (5, [0, 3, 5, 6, 7]), (6, [0, 3, 5, 6, 7]), (7, [0, 3, 5, 6, 7]), (8, [0, 3, 5, 6, 7]), (9, []), (10, []), (100015, [0, 3, 5, 6, 15]), (100019, [0, 3, 5, 6, 7, 19]), (100035, [0, 3, 5, 6, 7, 35])]
noncomputable def spec_l01Irreducible_l1 (r11 : Int) (a0 : Int) (a1 : (Vec Int 64)) (x137 : Int) (x138 : (Vec Int 64)) : Option ((Int × (Vec Int 64)) ⊕ (Unit ⊕ Bool)) :=
  (if (decide ((IntKind.i64.wrap (2 * x137)) ≤ r11)) then (Option.bind (spec_l01PowMod a0 x138 a0 a1) fun r172 => (Option.bind (spec_l01T) fun r187 => (Option.bind (spec_l01Add a0 r172 r187 (-1)) fun r189 => (Option.bind (spec_l01Gcd a0 a1 r189) fun r191 => (Option.bind (spec_l01Deg r191) fun r193 => (if (r193 != 0) then (some (.inr (.inr false))) else (some (.inl ((IntKind.i64.wrap (x137 + 1), r172)))))))))) else (some (.inr (((.inl ()))))))
noncomputable def spec_l01Irreducible (a0 : Int) (a1 : (Vec Int 64)) : Option Bool :=
  (Option.bind (spec_l01Deg a1) fun r11 => (Option.bind (spec_l01T) fun r13 => (Option.bind (spec_l01Mod a0 r13 a1) fun r16 => (if (decide (r11 < 1)) then (some false) else (Option.bind (α := (Unit ⊕ Bool)) ((loopM (fun s : (Int × (Vec Int 64)) => spec_l01Irreducible_l1 r11 a0 a1 s.1 s.2) (1, r16))) fun z => match z with | .inl _ => (some true) | .inr r197 => (some r197))))))
theorem spec_l01Irreducible_ok (a0 : Int) (a1 : (Vec Int 64)) (r : Bool) (h : spec_l01Irreducible a0 a1 = some r) : Den Try.prog 92 [(i6 a0), (eA64u8 a1)] { r := (.bool r) } := by
  refine den_of (rs := [(.bool r)]) (ac := spec_l01Irreducible_c) (L := spec_l01Irreducible_L) (n := 36) (m := []) (c := Try.f92.body.getD .skip) good Try.func92 (by kernel_rfl) (by kernel_rfl) Try.ntmps92 rfl rfl (by kernel_rfl) rfl rfl ?_
  refine a_st (σ' := ⟨[(0, (i6 a0)), (1, (eA64u8 a1))], []⟩) (by kernel_rfl) ?_
  unfold spec_l01Irreducible_c
  refine sr (vo 1300 (eA64u8 a1) rfl rfl (vp (.bool false) rfl (nx ⟨[(0, (i6 a0)), (3, (ow 3))], [(3, (bk (eA64u8 a1)))]⟩ (by kernel_rfl) (a_seq (a_draw [⟨[3], [], [], []⟩, ⟨[], [], [], [0]⟩, ⟨[], [], [], []⟩, ⟨[], [], [], [0, 1]⟩, ⟨[3], [], [], []⟩, ⟨[], [], [], [0, 1, 2, 3, 4]⟩, ⟨[1600], [1600], [1600], []⟩, ⟨[], [], [], [0, 1, 2, 3, 4, 5, 6]⟩, ⟨[1600], [1600], [], [0, 1, 2, 3, 4, 5, 6, 7]⟩] (by kernel_rfl) (d_cons (vl (eA64u8 a1) rfl rfl rfl rfl rfl rfl (d_next (by kernel_rfl) (d_cons ?_)))))))))
  obtain ⟨r11, hr12, h⟩ := bind_some h
  refine a_call (args := [(eA64u8 a1)]) (u := []) (r := (i6 r11)) rfl rfl (spec_l01Deg_ok a1 r11 hr12) rfl (d_next (by kernel_rfl) (dp (i6 a0) rfl (by kernel_rfl) (d_cons ?_)))
  obtain ⟨r13, hr14, h⟩ := bind_some h
  refine a_call (args := []) (u := []) (r := (eA64u8 r13)) rfl rfl (spec_l01T_ok r13 hr14) rfl (d_next (by kernel_rfl) (d_cons (vl (eA64u8 a1) rfl rfl rfl rfl rfl rfl (d_next (by kernel_rfl) (d_cons ?_)))))
  obtain ⟨r16, hr17, h⟩ := bind_some h
  refine a_call (args := [(i6 a0), (eA64u8 r13), (eA64u8 a1)]) (u := []) (r := (eA64u8 r16)) rfl rfl (spec_l01Mod_ok a0 r13 a1 r16 hr17) rfl (d_next (by kernel_rfl) (d_cons (vo 1600 (eA64u8 ((vrep 64 (0 : Int)))) rfl rfl (d_next (by kernel_rfl) (dp (i6 r11) rfl (by kernel_rfl) (d_cons (vs (eA64u8 r16) rfl rfl (fun _ => rfl) rfl rfl rfl rfl rfl rfl (d_next (by kernel_rfl) (d_nil ?_)))))))))
  refine a_next (σ' := ⟨[(0, (i6 a0)), (3, (ow 3)), (5, (i6 r11)), (6, (ow 6))], [(3, (bk (eA64u8 a1))), (6, (bk (eA64u8 r16)))]⟩) (by kernel_rfl) (a_seq (sr (vp (i6 r11) rfl (vp (.bool ((decide (r11 < 1)))) rfl (nx ⟨[(0, (i6 a0)), (3, (ow 3)), (5, (i6 r11)), (6, (ow 6)), (15, (.bool ((decide (r11 < 1)))))], [(3, (bk (eA64u8 a1))), (6, (bk (eA64u8 r16)))]⟩ (by kernel_rfl) ?_)))))
  cases hb19 : (decide (r11 < 1))
  · have h := ite_f hb19 h
    refine a_cond_f rfl (a_skip (a_next (σ' := ⟨[(0, (i6 a0)), (3, (ow 3)), (5, (i6 r11)), (6, (ow 6))], [(3, (bk (eA64u8 a1))), (6, (bk (eA64u8 r16)))]⟩) (by kernel_rfl) ?_))
    obtain ⟨y107, hy108, hk109⟩ := bind_some h
    clear h
    refine a_join (emb := fun (s : Unit) => ⟨[], []⟩) (pre := fun s => (.inl s) = y107) ?_ ?_
    · rintro _ rfl
      have h := hk109
      refine a_st (σ' := ⟨[], []⟩) (by kernel_rfl) (sr (vp (.bool true) rfl (nx _ rfl (a_ret ?_))))
      refine ⟨.inr rfl, ?_⟩
      rw [Try.results92]
      cases h
      exact ⟨_, _, _, _, _, rfl, trivial, .inl ⟨rfl, .inl rfl⟩, rfl, rfl⟩
    · have h := hy108
      refine sr (vp (i6 1) rfl (nx ⟨[(0, (i6 a0)), (3, (ow 3)), (5, (i6 r11)), (6, (ow 6)), (7, (i6 1))], [(3, (bk (eA64u8 a1))), (6, (bk (eA64u8 r16)))]⟩ (by kernel_rfl) (a_block ?_)))
      refine a_loop (emb := fun (s : (Int × (Vec Int 64))) => ⟨[(0, (i6 a0)), (3, (ow 3)), (5, (i6 r11)), (6, (ow 6)), (7, (i6 s.1))], [(3, (bk (eA64u8 a1))), (6, (bk (eA64u8 s.2)))]⟩) (body := (fun s : (Int × (Vec Int 64)) => spec_l01Irreducible_l1 r11 a0 a1 s.1 s.2)) (G := fun q => some q = some y107) h rfl ?_ (by kernel_rfl)
      rintro X166 ⟨x137, x138⟩ x167 h hX168
      have h : spec_l01Irreducible_l1 r11 a0 a1 x137 x138 = some x167 := h
      refine a_st (σ' := ⟨[(0, (i6 a0)), (3, (ow 3)), (5, (i6 r11)), (6, (ow 6)), (7, (i6 x137))], [(3, (bk (eA64u8 a1))), (6, (bk (eA64u8 x138)))]⟩) (by kernel_rfl) (a_seq (sr (vp (i6 x137) rfl (vp (i6 (IntKind.i64.wrap (2 * x137))) rfl (vp (i6 r11) rfl (vp (.bool ((decide ((IntKind.i64.wrap (2 * x137)) ≤ r11)))) rfl (nx ⟨[(0, (i6 a0)), (3, (ow 3)), (5, (i6 r11)), (6, (ow 6)), (7, (i6 x137)), (19, (.bool ((decide ((IntKind.i64.wrap (2 * x137)) ≤ r11)))))], [(3, (bk (eA64u8 a1))), (6, (bk (eA64u8 x138)))]⟩ (by kernel_rfl) ?_)))))))
      cases hb169 : (decide ((IntKind.i64.wrap (2 * x137)) ≤ r11))
      · have h := ite_f hb169 h
        refine a_cond_f rfl (a_exit (t_exit ?_))
        cases h
        have h := hX168
        refine t_exit (b_exit ?_)
        exact j_leaf () (Option.some.inj h) (by kernel_rfl)
      · have h := ite_t hb169 h
        refine a_cond_t rfl (a_skip (a_next (σ' := ⟨[(0, (i6 a0)), (3, (ow 3)), (5, (i6 r11)), (6, (ow 6)), (7, (i6 x137))], [(3, (bk (eA64u8 a1))), (6, (bk (eA64u8 x138)))]⟩) (by kernel_rfl) (a_seq (a_block (sr (vp (i6 a0) rfl (vl (eA64u8 x138) rfl rfl rfl rfl rfl rfl (vp (i6 a0) rfl (vl (eA64u8 a1) rfl rfl rfl rfl rfl rfl ?_)))))))))
        obtain ⟨r172, hr173, h⟩ := bind_some h
        refine a_call (args := [(i6 a0), (eA64u8 x138), (i6 a0), (eA64u8 a1)]) (u := []) (r := (eA64u8 r172)) rfl rfl (spec_l01PowMod_ok a0 x138 a0 a1 r172 hr173) rfl (vs (eA64u8 r172) rfl rfl (fun _ => rfl) rfl rfl rfl rfl rfl rfl (nx ⟨[(0, (i6 a0)), (3, (ow 3)), (5, (i6 r11)), (6, (ow 6)), (7, (i6 x137))], [(3, (bk (eA64u8 a1))), (6, (bk (eA64u8 r172)))]⟩ (by kernel_rfl) (a_seq (a_draw [⟨[], [], [], []⟩, ⟨[3], [], [], []⟩, ⟨[], [], [], []⟩, ⟨[6], [], [], []⟩, ⟨[], [], [], []⟩, ⟨[], [], [], [2, 3, 4]⟩, ⟨[], [], [], [0, 1, 2, 3, 4, 5]⟩, ⟨[], [], [], [0, 1, 2, 3, 4, 5, 6]⟩, ⟨[], [], [], [0, 1, 2, 3, 4, 5, 6, 7]⟩] (by kernel_rfl) (dp (i6 a0) rfl (by kernel_rfl) (d_cons (vl (eA64u8 a1) rfl rfl rfl rfl rfl rfl (d_next (by kernel_rfl) (dp (i6 a0) rfl (by kernel_rfl) ?_)))))))))
        refine d_cons (vl (eA64u8 r172) rfl rfl rfl rfl rfl rfl (d_next (by kernel_rfl) (d_cons ?_)))
        obtain ⟨r187, hr188, h⟩ := bind_some h
        refine a_call (args := []) (u := []) (r := (eA64u8 r187)) rfl rfl (spec_l01T_ok r187 hr188) rfl (d_next (by kernel_rfl) (d_cons ?_))
        obtain ⟨r189, hr190, h⟩ := bind_some h
        refine a_call (args := [(i6 a0), (eA64u8 r172), (eA64u8 r187), (i6 (-1))]) (u := []) (r := (eA64u8 r189)) rfl rfl (spec_l01Add_ok a0 r172 r187 (-1) r189 hr190) rfl (d_next (by kernel_rfl) (d_cons ?_))
        obtain ⟨r191, hr192, h⟩ := bind_some h
        refine a_call (args := [(i6 a0), (eA64u8 a1), (eA64u8 r189)]) (u := []) (r := (eA64u8 r191)) rfl rfl (spec_l01Gcd_ok a0 a1 r189 r191 hr192) rfl (d_next (by kernel_rfl) (d_cons ?_))
        obtain ⟨r193, hr194, h⟩ := bind_some h
        refine a_call (args := [(eA64u8 r191)]) (u := []) (r := (i6 r193)) rfl rfl (spec_l01Deg_ok r191 r193 hr194) rfl (d_next (by kernel_rfl) (dp (.bool (r193 != 0)) rfl (by kernel_rfl) (d_nil (a_next (σ' := ⟨[(0, (i6 a0)), (3, (ow 3)), (5, (i6 r11)), (6, (ow 6)), (7, (i6 x137)), (35, (.bool (r193 != 0)))], [(3, (bk (eA64u8 a1))), (6, (bk (eA64u8 r172)))]⟩) (by kernel_rfl) ?_))))
        cases hb195 : (r193 != 0)
        · have h := ite_f hb195 h
          refine a_cond_f rfl (a_skip (b_norm (a_next (σ' := ⟨[(0, (i6 a0)), (3, (ow 3)), (5, (i6 r11)), (6, (ow 6)), (7, (i6 x137))], [(3, (bk (eA64u8 a1))), (6, (bk (eA64u8 r172)))]⟩) (by kernel_rfl) (a_region (vp (i6 x137) rfl (vp (i6 (IntKind.i64.wrap (x137 + 1))) rfl (vp (i6 (IntKind.i64.wrap (x137 + 1))) rfl (a_nil ?_))))))))
          cases h
          exact a_again (by kernel_rfl) hX168
        · have h := ite_t hb195 h
          refine a_cond_t rfl (sr (vp (.bool false) rfl (nx _ rfl (a_ret (b_ret (t_ret ?_))))))
          cases h
          have h := hX168
          refine t_ret (b_ret (t_ret ?_))
          cases h
          have h := hk109
          refine ⟨.inr rfl, ?_⟩
          rw [Try.results92]
          cases h
          exact ⟨_, _, _, _, _, rfl, trivial, .inl ⟨rfl, .inl rfl⟩, rfl, rfl⟩
  · have h := ite_t hb19 h
    refine a_cond_t rfl (sr (vp (.bool false) rfl (nx _ rfl (a_ret (t_ret ?_)))))
    refine ⟨.inr rfl, ?_⟩
    rw [Try.results92]
    cases h
    exact ⟨_, _, _, _, _, rfl, trivial, .inl ⟨rfl, .inl rfl⟩, rfl, rfl⟩
def impl_prime_isIrreducible_c : ACode := (.seq (.region 0 [q 4 (.asg 0 (.const (.bool false)) 4)] false) (.seq (.seq (.region 1 [q 6 (.mov (t 1)), q 7 (.call 0 (.func 85) [(t 6)]), q 8 (.bin .neq 2 (t 7) (.const (.int .i64 1))), q 9 (.mov (t 8)), ⟨some 10, .mov (t 1), some (9, false), []⟩, ⟨some 11, .call 0 (.func 69) [(t 10)], some (9, false), []⟩, ⟨some 12, .bin .lss 2 (t 11) (.const (.int .i64 1)), some (9, false), []⟩, q 13 (.pick (t 9) (.const (.bool true)) (t 12))] false) (.cond (t 13) (.seq (.region 2 [q 4 (.asg 0 (.const (.bool false)) 4)] false) .ret) .skip)) (.seq (.region 3 [q 14 (.mov (t 0)), q 15 (.mov (t 1)), q 16 (.call 0 (.func 156) [(t 14), (t 15)]), q 5 (.asg 1 (t 16) 153)] false) (.seq (.region 4 [q 17 (.mov (t 5)), q 18 (.blt 0 .len [(t 17)] [153]), q 19 (.bin .eql 3 (t 18) (.const (.int .i64 1))), q 20 (.mov (t 19)), ⟨some 21, .mov (t 5), some (20, true), []⟩, ⟨some 22, .indexAddr 153 (t 21) (.const (.int .i64 0)), some (20, true), []⟩, ⟨some 23, .fieldAddr 156 (t 22) 1, some (20, true), []⟩, ⟨some 24, .load 2 (t 23), some (20, true), []⟩, ⟨some 25, .bin .eql 2 (t 24) (.const (.int .i64 1)), some (20, true), []⟩, q 26 (.pick (t 20) (t 25) (.const (.bool false))), q 4 (.asg 0 (t 26) 4)] false) .ret))))
def impl_prime_isIrreducible_L : Live := [(0, [0, 1]), (1, [0, 1]), (2, []), (3, [0, 1]), (4, [5]), (100013, [0, 1, 13])]
noncomputable def impl_prime_isIrreducible (a0 : Int) (a1 : (List Int)) : Option Bool :=
  (Option.bind (α := Bool) ((Option.bind (impl_row_lead a1) fun r10 => (if (r10 != 1) then (some true) else (Option.bind (impl_row_degree a1) fun r13 => (some ((decide (r13 < 1)))))))) fun x6 => (if x6 then (some false) else (Option.bind (impl_prime_factors a0 a1) fun r16 => (if ((r16.length : Int) == 1) then (ifp (0 ≤ (0 : Int) ∧ (0 : Int) < ((r16.length : Nat) : Int)) ((some (((((rd r16 (0 : Int).toNat)).2) == 1))))) else (some false)))))
theorem impl_prime_isIrreducible_ok (a0 : Int) (a1 : (List Int)) (r : Bool) (h : impl_prime_isIrreducible a0 a1 = some r) : Den Try.prog 98 [(i6 a0), (eSi64 a1)] { r := (.bool r) } := by
  refine den_of (rs := [(.bool r)]) (ac := impl_prime_isIrreducible_c) (L := impl_prime_isIrreducible_L) (n := 27) (m := [(5, 1)]) (c := Try.f98.body.getD .skip) good Try.func98 (by kernel_rfl) (by kernel_rfl) Try.ntmps98 rfl rfl (by kernel_rfl) rfl rfl ?_
  refine a_st (σ' := ⟨[(0, (i6 a0)), (1, (eSi64 a1))], []⟩) (by kernel_rfl) ?_
  unfold impl_prime_isIrreducible_c
  refine sr (vp (.bool false) rfl (nx ⟨[(0, (i6 a0)), (1, (eSi64 a1))], []⟩ (by kernel_rfl) (a_seq ?_)))
  obtain ⟨y7, hy8, hk9⟩ := bind_some h
  clear h
  refine a_join (emb := fun (s : Bool) => ⟨[(0, (i6 a0)), (1, (eSi64 a1)), (13, (.bool s))], []⟩) (pre := fun s => s = y7) ?_ ?_
  · rintro x6 rfl
    have h := hk9
    refine a_st (σ' := ⟨[(0, (i6 a0)), (1, (eSi64 a1)), (13, (.bool x6))], []⟩) (by kernel_rfl) ?_
    cases hb15 : x6
    · have h := ite_f hb15 h
      refine a_cond_f rfl (a_skip (a_next (σ' := ⟨[(0, (i6 a0)), (1, (eSi64 a1))], []⟩) (by kernel_rfl) (sr (vp (i6 a0) rfl (vp (eSi64 a1) rfl ?_)))))
      obtain ⟨r16, hr17, h⟩ := bind_some h
      refine a_call (args := [(i6 a0), (eSi64 a1)]) (u := []) (r := (eST_Si64_i64_Z r16)) rfl rfl (impl_prime_factors_ok a0 a1 r16 hr17) rfl (vp (eST_Si64_i64_Z r16) rfl (nx ⟨[(5, (eST_Si64_i64_Z r16))], []⟩ (by kernel_rfl) (sr (vp (eST_Si64_i64_Z r16) rfl (vq (i6 (r16.length : Int)) (len_run rfl rfl) trivial (vp (.bool (((r16.length : Int) == 1))) rfl (vp (.bool (((r16.length : Int) == 1))) rfl ?_)))))))
      cases hb18 : ((r16.length : Int) == 1)
      · have h := ite_f hb18 h
        refine a_gskip rfl (a_gskip rfl (a_gskip rfl (a_gskip rfl (a_gskip rfl (vp (.bool false) rfl (vp (.bool false) rfl (nx _ rfl (a_ret ?_))))))))
        refine ⟨.inr rfl, ?_⟩
        rw [Try.results98]
        cases h
        exact ⟨_, _, _, _, _, rfl, trivial, .inl ⟨rfl, .inl rfl⟩, rfl, rfl⟩
      · have h := ite_t hb18 h
        refine gp (eST_Si64_i64_Z r16) rfl rfl ?_
        obtain ⟨hc19, h⟩ := ifp_some h
        refine gq (.ref (.row 2 (r16.map eT_Si64_i64_Z)) [(0 : Int).toNat] [(0 : Int).toNat * 2]) rfl rfl (lmap hc19) (gq (.ref (.row 2 (r16.map eT_Si64_i64_Z)) [(0 : Int).toNat, 1] [(0 : Int).toNat * 2, 1]) rfl rfl (Nat.le_of_ble_eq_true rfl) ?_)
        have hl20 : LdOk [(0 : Int).toNat, 1] (.row 2 (r16.map eT_Si64_i64_Z)) [(0 : Int).toNat * 2, 1] 1 false (i6 (((rd r16 (0 : Int).toNat)).2)) := (.row (llt hc19) rfl (.fld rfl rfl rfl rfl (.nil rfl rfl rfl)))
        refine gq (i6 (((rd r16 (0 : Int).toNat)).2)) rfl (ld_ref (i := ⟨.int .i64, 1, 8, (.int .i64 0)⟩) rfl rfl hl20) hl20.c (gp (.bool (((((rd r16 (0 : Int).toNat)).2) == 1))) rfl rfl (vp (.bool (((((rd r16 (0 : Int).toNat)).2) == 1))) rfl (vp (.bool (((((rd r16 (0 : Int).toNat)).2) == 1))) rfl (nx _ rfl (a_ret ?_)))))
        refine ⟨.inr rfl, ?_⟩
        rw [Try.results98]
        cases h
        exact ⟨_, _, _, _, _, rfl, trivial, .inl ⟨rfl, .inl rfl⟩, rfl, rfl⟩
    · have h := ite_t hb15 h
      refine a_cond_t rfl (sr (vp (.bool false) rfl (nx _ rfl (a_ret (t_ret ?_)))))
      refine ⟨.inr rfl, ?_⟩
      rw [Try.results98]
      cases h
      exact ⟨_, _, _, _, _, rfl, trivial, .inl ⟨rfl, .inl rfl⟩, rfl, rfl⟩
  · have h := hy8
    refine a_region (vp (eSi64 a1) rfl ?_)
    obtain ⟨r10, hr11, h⟩ := bind_some h
    refine a_call (args := [(eSi64 a1)]) (u := []) (r := (i6 r10)) rfl rfl (impl_row_lead_ok a1 r10 hr11) rfl (vp (.bool (r10 != 1)) rfl (vp (.bool (r10 != 1)) rfl ?_))
    cases hb12 : (r10 != 1)
    · have h := ite_f hb12 h
      refine gp (eSi64 a1) rfl rfl ?_
      obtain ⟨r13, hr14, h⟩ := bind_some h
      refine a_gcall rfl (args := [(eSi64 a1)]) (u := []) (r := (i6 r13)) rfl rfl (impl_row_degree_ok a1 r13 hr14) rfl (gp (.bool ((decide (r13 < 1)))) rfl rfl (vp (.bool ((decide (r13 < 1)))) rfl (a_nil ?_)))
      exact j_leaf ((decide (r13 < 1))) (Option.some.inj h) (by kernel_rfl)
    · have h := ite_t hb12 h
      refine a_gskip rfl (a_gskip rfl (a_gskip rfl (vp (.bool true) rfl (a_nil ?_))))
      exact j_leaf true (Option.some.inj h) (by kernel_rfl)
end Go.Proofs.Ytdhcpekngpndnaa
