/- Functions of the program: plain Lean functions, and that the program computes them. Printed by gen.py. -/
import Derived.Test.YtdhcpekngpndnaaFnT
import Derived.Test.YtdhcpekngpndnaaFn1
import Derived.Test.YtdhcpekngpndnaaFn2
import Derived.Test.YtdhcpekngpndnaaFn3
import Derived.Test.YtdhcpekngpndnaaFn4
namespace Go.Proofs.Ytdhcpekngpndnaa
open Go.Abs Go.Proofs
set_option linter.unusedSimpArgs false
set_option linter.unusedVariables false
set_option maxHeartbeats 16000000
attribute [local irreducible] Abs.acode Abs.aops Abs.aopsT Abs.thenK Abs.blockK

def impl_prime_reducedList_c : ACode := (.seq (.region 0 [q 4 (.asg 1 (.const (.slice none 0 0)) 82)] false) (.seq (.region 1 [q 5 (.asg 2 (.const (.slice none 0 0)) 82)] false) (.seq (.seq (.region 2 [q 12 (.mov (t 1)), q 13 (.blt 0 .len [(t 12)] [82]), q 14 (.mov (.const (.int .i64 0)))] false) (.block 0 (.loop (.seq (.region 3 [q 15 (.bin .lss 3 (t 14) (t 13))] false) (.seq (.cond (t 15) .skip (.exit 0)) (.seq (.block 1 (.seq (.region 4 [q 16 (.indexAddr 82 (t 12) (t 14)), q 17 (.load 66 (t 16)), q 7 (.asg 1 (t 17) 66)] false) (.seq (.seq (.region 5 [q 18 (.mov (t 5)), q 19 (.blt 0 .len [(t 18)] [82]), q 20 (.mov (.const (.int .i64 0)))] false) (.block 2 (.loop (.seq (.region 6 [q 21 (.bin .lss 3 (t 20) (t 19))] false) (.seq (.cond (t 21) .skip (.exit 2)) (.seq (.block 3 (.seq (.region 7 [q 22 (.indexAddr 82 (t 18) (t 20)), q 23 (.load 66 (t 22)), q 9 (.asg 1 (t 23) 66)] false) (.region 8 [q 24 (.mov (t 0)), q 25 (.mov (t 7)), q 26 (.mov (t 9)), q 27 (.mov (t 7)), q 28 (.mov (t 9)), q 29 (.blt 0 .len [(t 28)] [66]), q 30 (.bin .sub 3 (t 29) (.const (.int .i64 1))), q 31 (.call 0 (.func 149) [(t 27), (t 30)]), q 32 (.un .neg (t 31)), q 33 (.call 0 (.func 99) [(t 24), (t 25), (t 26), (t 32)]), q 7 (.asg 1 (t 33) 66)] false))) (.region 9 [q 34 (.bin .add 3 (t 20) (.const (.int .i64 1))), q 20 (.mov (t 34))] false))))))) (.seq (.seq (.region 10 [q 35 (.mov (t 7)), q 36 (.blt 0 .len [(t 35)] [66]), q 37 (.bin .eql 3 (t 36) (.const (.int .i64 0)))] false) (.cond (t 37) (.exit 1) .skip)) (.seq (.region 11 [q 38 (.mov (t 0)), q 39 (.mov (t 7)), q 40 (.mov (t 0)), q 41 (.mov (t 7)), q 42 (.call 0 (.func 85) [(t 41)]), q 43 (.call 0 (.func 151) [(t 40), (t 42)]), q 44 (.call 0 (.func 150) [(t 38), (t 39), (t 43)]), q 7 (.asg 1 (t 44) 66)] false) (.seq (.seq (.region 12 [q 45 (.mov (t 5)), q 46 (.blt 0 .len [(t 45)] [82]), q 47 (.mov (.const (.int .i64 0)))] false) (.block 4 (.loop (.seq (.region 13 [q 48 (.bin .lss 3 (t 47) (t 46))] false) (.seq (.cond (t 48) .skip (.exit 4)) (.seq (.block 5 (.seq (.region 14 [q 49 (.mov (t 47)), q 50 (.indexAddr 82 (t 45) (t 47)), q 51 (.load 66 (t 50)), q 10 (.asg 0 (t 49) 3), q 11 (.asg 1 (t 51) 66)] false) (.region 15 [q 52 (.mov (t 5)), q 53 (.mov (t 10)), q 54 (.mov (t 0)), q 55 (.mov (t 11)), q 56 (.mov (t 7)), q 57 (.mov (t 11)), q 58 (.mov (t 7)), q 59 (.blt 0 .len [(t 58)] [66]), q 60 (.bin .sub 3 (t 59) (.const (.int .i64 1))), q 61 (.call 0 (.func 149) [(t 57), (t 60)]), q 62 (.un .neg (t 61)), q 63 (.call 0 (.func 99) [(t 54), (t 55), (t 56), (t 62)]), q 64 (.indexAddr 82 (t 52) (t 53)), ⟨none, .store 66 (t 64) (t 63), none, []⟩] false))) (.region 16 [q 65 (.bin .add 3 (t 47) (.const (.int .i64 1))), q 47 (.mov (t 65))] false))))))) (.seq (.region 17 [q 66 (.mov (t 5)), q 67 (.mov (t 7)), q 68 (.bslice 0 82 1 [(0, (t 67))]), q 69 (.blt 0 .append [(t 66), (t 68)] [82, 82]), q 5 (.asg 2 (t 69) 82)] false) (.region 18 [q 70 (.mov (t 5)), q 71 (.call 1 (.func 152) [(t 70), (.func 153)])] false)))))))) (.region 19 [q 72 (.bin .add 3 (t 14) (.const (.int .i64 1))), q 14 (.mov (t 72))] false))))))) (.seq (.region 20 [q 73 (.mov (t 5)), q 4 (.asg 1 (t 73) 82)] false) .ret))))
def impl_prime_reducedList_L : Live := [(0, [0, 1]), (1, [0, 1]), (2, [0, 1, 5]), (3, [0, 5, 12, 13, 14]), (4, [0, 5, 12, 13, 14]), (5, [0, 5, 7, 12, 13, 14]), (6, [0, 5, 7, 12, 13, 14, 18, 19, 20]), (7, [0, 5, 7, 12, 13, 14, 18, 19, 20]), (8, [0, 5, 7, 9, 12, 13, 14, 18, 19, 20]), (9, [0, 5, 7, 12, 13, 14, 18, 19, 20]), (10, [0, 5, 7, 12, 13, 14]), (11, [0, 5, 7, 12, 13, 14]), (12, [0, 5, 7, 12, 13, 14]), (13, [0, 5, 7, 12, 13, 14, 45, 46, 47]), (14, [0, 5, 7, 12, 13, 14, 45, 46, 47]), (15, [0, 5, 7, 10, 11, 12, 13, 14, 45, 46, 47]), (16, [0, 5, 7, 12, 13, 14, 45, 46, 47]), (17, [0, 5, 7, 12, 13, 14]), (18, [0, 5, 12, 13, 14]), (19, [0, 5, 12, 13, 14]), (20, [5]), (100015, [0, 5, 12, 13, 14, 15]), (100021, [0, 5, 7, 12, 13, 14, 18, 19, 20, 21]), (100037, [0, 5, 7, 12, 13, 14, 37]), (100048, [0, 5, 7, 12, 13, 14, 45, 46, 47, 48])]
noncomputable def impl_prime_reducedList_l2 (x1224 : (List (List Int))) (a0 : Int) (x1745 : (List Int)) (x1746 : Int) : Option (((List Int) × Int) ⊕ (List Int)) :=
  (if (decide (x1746 < (x1224.length : Int))) then (ifp (0 ≤ x1746 ∧ x1746 < ((x1224.length : Nat) : Int)) ((letp (IntKind.i64.wrap ((((rd x1224 x1746.toNat).length : Int)) - 1)) fun x1762 => (Option.bind (impl_row_at x1745 x1762) fun r1764 => (Option.bind (impl_prime_combine a0 x1745 (rd x1224 x1746.toNat) (IntKind.i64.wrap (0 - r1764))) fun r1766 => (some (.inl ((r1766, IntKind.i64.wrap (x1746 + 1)))))))))) else (some (.inr x1745)))
noncomputable def impl_prime_reducedList_l3 (x1224 : (List (List Int))) (r1774 : (List Int)) (a0 : Int) (x1822 : Int) (x1823 : (List (List Int))) : Option ((Int × (List (List Int))) ⊕ (List (List Int))) :=
  (if (decide (x1822 < (x1224.length : Int))) then (ifp (0 ≤ x1822 ∧ x1822 < ((x1823.length : Nat) : Int)) ((Option.bind (impl_row_at (rd x1823 x1822.toNat) (IntKind.i64.wrap ((r1774.length : Int) - 1))) fun r1839 => (Option.bind (impl_prime_combine a0 (rd x1823 x1822.toNat) r1774 (IntKind.i64.wrap (0 - r1839))) fun r1841 => (ifp (0 ≤ x1822 ∧ x1822 < ((x1823.length : Nat) : Int)) ((some (.inl ((IntKind.i64.wrap (x1822 + 1), (x1823.set x1822.toNat r1841))))))))))) else (some (.inr x1823)))
noncomputable def impl_prime_reducedList_l1 (a1 : (List (List Int))) (a0 : Int) (x1223 : Int) (x1224 : (List (List Int))) : Option ((Int × (List (List Int))) ⊕ (List (List Int))) :=
  (if (decide (x1223 < (a1.length : Int))) then (Option.bind (α := (List (List Int))) ((ifp (0 ≤ x1223 ∧ x1223 < ((a1.length : Nat) : Int)) ((Option.bind (α := (List Int)) ((loopM (fun s : ((List Int) × Int) => impl_prime_reducedList_l2 x1224 a0 s.1 s.2) ((rd a1 x1223.toNat), 0))) fun x1732 => (if ((x1732.length : Int) == 0) then (some x1224) else (Option.bind (impl_row_lead x1732) fun r1770 => (Option.bind (impl_prime_inverse a0 r1770) fun r1772 => (Option.bind (impl_prime_scale a0 x1732 r1772) fun r1774 => (Option.bind (α := (List (List Int))) ((loopM (fun s : (Int × (List (List Int))) => impl_prime_reducedList_l3 x1224 r1774 a0 s.1 s.2) (0, x1224))) fun x1809 => (ifp ((x1809.length + ([r1774] : List (List Int)).length) * 24 ≤ 140737488355328) ((Option.bind (slices_SortFunc_impl_row_impl_row_of_mut_impl_prime_reducedList_c1 ((x1809 ++ ([r1774])))) fun r1847 => (ifp (r1847.length = ((x1809 ++ ([r1774]))).length) (some r1847)))))))))))))) fun x1693 => (some (.inl ((IntKind.i64.wrap (x1223 + 1), x1693))))) else (some (.inr x1224)))
noncomputable def impl_prime_reducedList (a0 : Int) (a1 : (List (List Int))) : Option (List (List Int)) :=
  (Option.bind (α := (List (List Int))) ((loopM (fun s : (Int × (List (List Int))) => impl_prime_reducedList_l1 a1 a0 s.1 s.2) (0, []))) fun x908 => (some x908))
theorem impl_prime_reducedList_ok (a0 : Int) (a1 : (List (List Int))) (r : (List (List Int))) (h : impl_prime_reducedList a0 a1 = some r) : Den Try.prog 81 [(i6 a0), (eSSi64 a1)] { r := (eSSi64 r) } := by
  refine den_of (rs := [(eSSi64 r)]) (ac := impl_prime_reducedList_c) (L := impl_prime_reducedList_L) (n := 74) (m := [(4, 1), (5, 2), (7, 1), (9, 1), (11, 1), (71, 1)]) (c := Try.f81.body.getD .skip) good Try.func81 (by kernel_rfl) (by kernel_rfl) Try.ntmps81 rfl rfl (by kernel_rfl) rfl rfl ?_
  refine a_st (σ' := ⟨[(0, (i6 a0)), (1, (eSSi64 a1))], []⟩) (by kernel_rfl) ?_
  unfold impl_prime_reducedList_c
  refine sr (vp (eSSi64 ([])) rfl (nx ⟨[(0, (i6 a0)), (1, (eSSi64 a1))], []⟩ (by kernel_rfl) (sr (vu (.osl 1500) [(1500, (bk (.row 1 (([]).map eSi64))))] rfl trivial rfl (nx ⟨[(0, (i6 a0)), (1, (eSSi64 a1)), (5, (.osl 5))], [(5, (bk (.row 1 (([]).map eSi64))))]⟩ (by kernel_rfl) ?_)))))
  obtain ⟨y909, hy910, hk911⟩ := bind_some h
  clear h
  refine a_join (emb := fun (s : (List (List Int))) => ⟨[(5, (.osl 5))], [(5, (bk (.row 1 (s.map eSi64))))]⟩) (pre := fun s => s = y909) ?_ ?_
  · rintro x908 rfl
    have h := hk911
    refine a_st (σ' := ⟨[(5, (.osl 5))], [(5, (bk (.row 1 (x908.map eSi64))))]⟩) (by kernel_rfl) (sr (vp (.osl 5) rfl (vu (eSSi64 x908) [(5, (bf (.row 1 (x908.map eSi64))))] rfl trivial rfl (nx _ rfl (a_ret ?_)))))
    refine ⟨.inr rfl, ?_⟩
    rw [Try.results81]
    cases h
    exact ⟨_, _, _, _, _, rfl, trivial, .inl ⟨rfl, .inl rfl⟩, rfl, rfl⟩
  · have h := hy910
    refine sr (vp (eSSi64 a1) rfl (vq (i6 (a1.length : Int)) (len_run rfl rfl) trivial (vp (i6 0) rfl (nx ⟨[(0, (i6 a0)), (5, (.osl 5)), (12, (eSSi64 a1)), (13, (i6 (a1.length : Int))), (14, (i6 0))], [(5, (bk (.row 1 (([]).map eSi64))))]⟩ (by kernel_rfl) (a_block ?_)))))
    refine a_loop (emb := fun (s : (Int × (List (List Int)))) => ⟨[(0, (i6 a0)), (5, (.osl 5)), (12, (eSSi64 a1)), (13, (i6 (a1.length : Int))), (14, (i6 s.1))], [(5, (bk (.row 1 (s.2.map eSi64))))]⟩) (body := (fun s : (Int × (List (List Int))) => impl_prime_reducedList_l1 a1 a0 s.1 s.2)) (G := fun q => some q = some y909) h rfl ?_ (by kernel_rfl)
    rintro X1536 ⟨x1223, x1224⟩ x1537 h hX1538
    have h : impl_prime_reducedList_l1 a1 a0 x1223 x1224 = some x1537 := h
    refine a_st (σ' := ⟨[(0, (i6 a0)), (5, (.osl 5)), (12, (eSSi64 a1)), (13, (i6 (a1.length : Int))), (14, (i6 x1223))], [(5, (bk (.row 1 (x1224.map eSi64))))]⟩) (by kernel_rfl) (sr (vp (.bool ((decide (x1223 < (a1.length : Int))))) rfl (nx ⟨[(0, (i6 a0)), (5, (.osl 5)), (12, (eSSi64 a1)), (13, (i6 (a1.length : Int))), (14, (i6 x1223)), (15, (.bool ((decide (x1223 < (a1.length : Int))))))], [(5, (bk (.row 1 (x1224.map eSi64))))]⟩ (by kernel_rfl) (a_seq ?_))))
    cases hb1539 : (decide (x1223 < (a1.length : Int)))
    · have h := ite_f hb1539 h
      refine a_cond_f rfl (a_exit (t_exit ?_))
      cases h
      have h := hX1538
      refine t_exit (b_exit ?_)
      exact j_leaf x1224 (Option.some.inj h) (by kernel_rfl)
    · have h := ite_t hb1539 h
      refine a_cond_t rfl (a_skip (a_next (σ' := ⟨[(0, (i6 a0)), (5, (.osl 5)), (12, (eSSi64 a1)), (13, (i6 (a1.length : Int))), (14, (i6 x1223))], [(5, (bk (.row 1 (x1224.map eSi64))))]⟩) (by kernel_rfl) ?_))
      obtain ⟨y1694, hy1695, hk1696⟩ := bind_some h
      clear h
      refine a_join (emb := fun (s : (List (List Int))) => ⟨[(0, (i6 a0)), (5, (.osl 5)), (12, (eSSi64 a1)), (13, (i6 (a1.length : Int))), (14, (i6 x1223))], [(5, (bk (.row 1 (s.map eSi64))))]⟩) (pre := fun s => s = y1694) ?_ ?_
      · rintro x1693 rfl
        have h := hk1696
        refine a_st (σ' := ⟨[(0, (i6 a0)), (5, (.osl 5)), (12, (eSSi64 a1)), (13, (i6 (a1.length : Int))), (14, (i6 x1223))], [(5, (bk (.row 1 (x1693.map eSi64))))]⟩) (by kernel_rfl) (a_region (vp (i6 (IntKind.i64.wrap (x1223 + 1))) rfl (vp (i6 (IntKind.i64.wrap (x1223 + 1))) rfl (a_nil ?_))))
        cases h
        exact a_again (by kernel_rfl) hX1538
      · have h := hy1695
        refine a_block (sr ?_)
        obtain ⟨hc1697, h⟩ := ifp_some h
        refine vq (.ref (.row 1 (a1.map eSi64)) [x1223.toNat] [x1223.toNat * 1]) rfl (lmap hc1697) ?_
        have hl1698 : LdOk [x1223.toNat] (.row 1 (a1.map eSi64)) [x1223.toNat * 1] 1 false (eSi64 (rd a1 x1223.toNat)) := (.row (llt hc1697) rfl (.nil rfl rfl rfl))
        refine vq (eSi64 (rd a1 x1223.toNat)) (ld_ref (i := ⟨.slice 2, 1, 24, (eSi64 [])⟩) rfl rfl hl1698) hl1698.c (vp (eSi64 (rd a1 x1223.toNat)) rfl (nx ⟨[(0, (i6 a0)), (5, (.osl 5)), (7, (eSi64 (rd a1 x1223.toNat))), (12, (eSSi64 a1)), (13, (i6 (a1.length : Int))), (14, (i6 x1223))], [(5, (bk (.row 1 (x1224.map eSi64))))]⟩ (by kernel_rfl) ?_))
        obtain ⟨y1733, hy1734, hk1735⟩ := bind_some h
        clear h
        refine a_join (emb := fun (s : (List Int)) => ⟨[(0, (i6 a0)), (5, (.osl 5)), (7, (eSi64 s)), (12, (eSSi64 a1)), (13, (i6 (a1.length : Int))), (14, (i6 x1223))], [(5, (bk (.row 1 (x1224.map eSi64))))]⟩) (pre := fun s => s = y1733) ?_ ?_
        · rintro x1732 rfl
          have h := hk1735
          refine a_st (σ' := ⟨[(0, (i6 a0)), (5, (.osl 5)), (7, (eSi64 x1732)), (12, (eSSi64 a1)), (13, (i6 (a1.length : Int))), (14, (i6 x1223))], [(5, (bk (.row 1 (x1224.map eSi64))))]⟩) (by kernel_rfl) (a_seq (sr (vp (eSi64 x1732) rfl (vq (i6 (x1732.length : Int)) (len_run rfl rfl) trivial (vp (.bool (((x1732.length : Int) == 0))) rfl (nx ⟨[(0, (i6 a0)), (5, (.osl 5)), (7, (eSi64 x1732)), (12, (eSSi64 a1)), (13, (i6 (a1.length : Int))), (14, (i6 x1223)), (37, (.bool (((x1732.length : Int) == 0))))], [(5, (bk (.row 1 (x1224.map eSi64))))]⟩ (by kernel_rfl) ?_))))))
          cases hb1769 : ((x1732.length : Int) == 0)
          · have h := ite_f hb1769 h
            refine a_cond_f rfl (a_skip (a_next (σ' := ⟨[(0, (i6 a0)), (5, (.osl 5)), (7, (eSi64 x1732)), (12, (eSSi64 a1)), (13, (i6 (a1.length : Int))), (14, (i6 x1223))], [(5, (bk (.row 1 (x1224.map eSi64))))]⟩) (by kernel_rfl) (sr (vp (i6 a0) rfl (vp (eSi64 x1732) rfl (vp (i6 a0) rfl (vp (eSi64 x1732) rfl ?_)))))))
            obtain ⟨r1770, hr1771, h⟩ := bind_some h
            refine a_call (args := [(eSi64 x1732)]) (u := []) (r := (i6 r1770)) rfl rfl (impl_row_lead_ok x1732 r1770 hr1771) rfl ?_
            obtain ⟨r1772, hr1773, h⟩ := bind_some h
            refine a_call (args := [(i6 a0), (i6 r1770)]) (u := []) (r := (i6 r1772)) rfl rfl (impl_prime_inverse_ok a0 r1770 r1772 hr1773) rfl ?_
            obtain ⟨r1774, hr1775, h⟩ := bind_some h
            refine a_call (args := [(i6 a0), (eSi64 x1732), (i6 r1772)]) (u := []) (r := (eSi64 r1774)) rfl rfl (impl_prime_scale_ok a0 x1732 r1772 r1774 hr1775) rfl (vp (eSi64 r1774) rfl (nx ⟨[(0, (i6 a0)), (5, (.osl 5)), (7, (eSi64 r1774)), (12, (eSSi64 a1)), (13, (i6 (a1.length : Int))), (14, (i6 x1223))], [(5, (bk (.row 1 (x1224.map eSi64))))]⟩ (by kernel_rfl) ?_))
            obtain ⟨y1810, hy1811, hk1812⟩ := bind_some h
            clear h
            refine a_join (emb := fun (s : (List (List Int))) => ⟨[(0, (i6 a0)), (5, (.osl 5)), (7, (eSi64 r1774)), (12, (eSSi64 a1)), (13, (i6 (a1.length : Int))), (14, (i6 x1223))], [(5, (bk (.row 1 (s.map eSi64))))]⟩) (pre := fun s => s = y1810) ?_ ?_
            · rintro x1809 rfl
              have h := hk1812
              refine a_st (σ' := ⟨[(0, (i6 a0)), (5, (.osl 5)), (7, (eSi64 r1774)), (12, (eSSi64 a1)), (13, (i6 (a1.length : Int))), (14, (i6 x1223))], [(5, (bk (.row 1 (x1809.map eSi64))))]⟩) (by kernel_rfl) (sr (vp (.osl 5) rfl (vp (eSi64 r1774) rfl (vq (.sl 1 true (([r1774]).map eSi64)) rfl ⟨(Nat.le_of_ble_eq_true rfl), (Nat.le_of_ble_eq_true rfl), (all_cons ⟨(Nat.le_of_ble_eq_true rfl), rfl⟩ all_nil)⟩ ?_))))
              obtain ⟨hc1846, h⟩ := ifp_some h
              refine vu (.osl 7900) [(7900, (bk (.row 1 (((x1809 ++ ([r1774]))).map eSi64)))), (5, none)] (app_run (i := ⟨.slice 2, 1, 24, (eSi64 [])⟩) (f := eSi64) (l := x1809) (l2 := [r1774]) rfl rfl rfl rfl (fun _ => rfl) rfl rfl) (app_c (f := eSi64) (s := 1) (sz := 1) (by' := 24) (u := []) (id := 5) hc1846 (.inr rfl) rfl rfl rfl) rfl (vp (.osl 7900) rfl (nx ⟨[(0, (i6 a0)), (5, (.osl 5)), (12, (eSSi64 a1)), (13, (i6 (a1.length : Int))), (14, (i6 x1223))], [(5, (bk (.row 1 (((x1809 ++ ([r1774]))).map eSi64))))]⟩ (by kernel_rfl) (a_region (vp (.osl 5) rfl ?_))))
              obtain ⟨r1847, hr1848, h⟩ := bind_some h
              obtain ⟨hl1849, h⟩ := ifp_some h
              refine a_callM (args := [(.mutsl 1 (((x1809 ++ ([r1774]))).map eSi64)), (.clo 153 [] [])]) (i := 0) (id := 5) (r := (.tuple [])) (c := (.row 1 (r1847.map eSi64))) rfl rfl (slices_SortFunc_impl_row_impl_row_of_mut_impl_prime_reducedList_c1_ok ((x1809 ++ ([r1774]))) r1847 hr1848) rfl (shape_map hl1849) (a_nil (b_norm ?_))
              exact j_leaf r1847 (Option.some.inj h) (by kernel_rfl)
            · have h := hy1811
              refine sr (vp (.osl 5) rfl (vq (i6 (x1224.length : Int)) (leno_run rfl rfl rfl) trivial (vp (i6 0) rfl (nx ⟨[(0, (i6 a0)), (5, (.osl 5)), (7, (eSi64 r1774)), (12, (eSSi64 a1)), (13, (i6 (a1.length : Int))), (14, (i6 x1223)), (45, (.osl 5)), (46, (i6 (x1224.length : Int))), (47, (i6 0))], [(5, (bk (.row 1 (x1224.map eSi64))))]⟩ (by kernel_rfl) (a_block ?_)))))
              refine a_loop (emb := fun (s : (Int × (List (List Int)))) => ⟨[(0, (i6 a0)), (5, (.osl 5)), (7, (eSi64 r1774)), (12, (eSSi64 a1)), (13, (i6 (a1.length : Int))), (14, (i6 x1223)), (45, (.osl 5)), (46, (i6 (x1224.length : Int))), (47, (i6 s.1))], [(5, (bk (.row 1 (s.2.map eSi64))))]⟩) (body := (fun s : (Int × (List (List Int))) => impl_prime_reducedList_l3 x1224 r1774 a0 s.1 s.2)) (G := fun q => some q = some y1810) h rfl ?_ (by kernel_rfl)
              rintro X1833 ⟨x1822, x1823⟩ x1834 h hX1835
              have h : impl_prime_reducedList_l3 x1224 r1774 a0 x1822 x1823 = some x1834 := h
              refine a_st (σ' := ⟨[(0, (i6 a0)), (5, (.osl 5)), (7, (eSi64 r1774)), (12, (eSSi64 a1)), (13, (i6 (a1.length : Int))), (14, (i6 x1223)), (45, (.osl 5)), (46, (i6 (x1224.length : Int))), (47, (i6 x1822))], [(5, (bk (.row 1 (x1823.map eSi64))))]⟩) (by kernel_rfl) (sr (vp (.bool ((decide (x1822 < (x1224.length : Int))))) rfl (nx ⟨[(0, (i6 a0)), (5, (.osl 5)), (7, (eSi64 r1774)), (12, (eSSi64 a1)), (13, (i6 (a1.length : Int))), (14, (i6 x1223)), (45, (.osl 5)), (46, (i6 (x1224.length : Int))), (47, (i6 x1822)), (48, (.bool ((decide (x1822 < (x1224.length : Int))))))], [(5, (bk (.row 1 (x1823.map eSi64))))]⟩ (by kernel_rfl) (a_seq ?_))))
              cases hb1836 : (decide (x1822 < (x1224.length : Int)))
              · have h := ite_f hb1836 h
                refine a_cond_f rfl (a_exit (t_exit ?_))
                cases h
                have h := hX1835
                refine t_exit (b_exit ?_)
                exact j_leaf x1823 (Option.some.inj h) (by kernel_rfl)
              · have h := ite_t hb1836 h
                refine a_cond_t rfl (a_skip (a_next (σ' := ⟨[(0, (i6 a0)), (5, (.osl 5)), (7, (eSi64 r1774)), (12, (eSSi64 a1)), (13, (i6 (a1.length : Int))), (14, (i6 x1223)), (45, (.osl 5)), (46, (i6 (x1224.length : Int))), (47, (i6 x1822))], [(5, (bk (.row 1 (x1823.map eSi64))))]⟩) (by kernel_rfl) (a_seq (a_block (sr (vp (i6 x1822) rfl ?_))))))
                obtain ⟨hc1837, h⟩ := ifp_some h
                refine vq (.own 5 [x1822.toNat] [x1822.toNat * 1]) rfl (lmap hc1837) ?_
                have hl1838 : LdOk [x1822.toNat] (.row 1 (x1823.map eSi64)) [x1822.toNat * 1] 1 false (eSi64 (rd x1823 x1822.toNat)) := (.row (llt hc1837) rfl (.nil rfl rfl rfl))
                refine vq (eSi64 (rd x1823 x1822.toNat)) (ld_own (i := ⟨.slice 2, 1, 24, (eSi64 [])⟩) rfl rfl rfl hl1838) hl1838.c (vp (i6 x1822) rfl (vp (eSi64 (rd x1823 x1822.toNat)) rfl (nx ⟨[(0, (i6 a0)), (5, (.osl 5)), (7, (eSi64 r1774)), (10, (i6 x1822)), (11, (eSi64 (rd x1823 x1822.toNat))), (12, (eSSi64 a1)), (13, (i6 (a1.length : Int))), (14, (i6 x1223)), (45, (.osl 5)), (46, (i6 (x1224.length : Int))), (47, (i6 x1822))], [(5, (bk (.row 1 (x1823.map eSi64))))]⟩ (by kernel_rfl) (a_region (vp (.osl 5) rfl (vp (i6 x1822) rfl (vp (i6 a0) rfl (vp (eSi64 (rd x1823 x1822.toNat)) rfl (vp (eSi64 r1774) rfl ?_)))))))))
                refine vp (eSi64 (rd x1823 x1822.toNat)) rfl (vp (eSi64 r1774) rfl (vq (i6 (r1774.length : Int)) (len_run rfl rfl) trivial (vp (i6 (IntKind.i64.wrap ((r1774.length : Int) - 1))) rfl ?_)))
                obtain ⟨r1839, hr1840, h⟩ := bind_some h
                refine a_call (args := [(eSi64 (rd x1823 x1822.toNat)), (i6 (IntKind.i64.wrap ((r1774.length : Int) - 1)))]) (u := []) (r := (i6 r1839)) rfl rfl (impl_row_at_ok (rd x1823 x1822.toNat) (IntKind.i64.wrap ((r1774.length : Int) - 1)) r1839 hr1840) rfl (vp (i6 (IntKind.i64.wrap (0 - r1839))) rfl ?_)
                obtain ⟨r1841, hr1842, h⟩ := bind_some h
                refine a_call (args := [(i6 a0), (eSi64 (rd x1823 x1822.toNat)), (eSi64 r1774), (i6 (IntKind.i64.wrap (0 - r1839)))]) (u := []) (r := (eSi64 r1841)) rfl rfl (impl_prime_combine_ok a0 (rd x1823 x1822.toNat) r1774 (IntKind.i64.wrap (0 - r1839)) r1841 hr1842) rfl ?_
                obtain ⟨hc1843, h⟩ := ifp_some h
                refine vq (.own 5 [x1822.toNat] [x1822.toNat * 1]) rfl (lmap hc1843) ?_
                have hs1844 : StOk [x1822.toNat] (.row 1 (x1823.map eSi64)) [x1822.toNat * 1] 1 (eSi64 r1841) (.row 1 ((x1823.set x1822.toNat r1841).map eSi64)) := (.row (y := r1841) (llt hc1843) rfl (.nil rfl rfl rfl rfl))
                refine vu .top [(5, (bk (.row 1 ((x1823.set x1822.toNat r1841).map eSi64))))] (st_own (i := ⟨.slice 2, 1, 24, (eSi64 [])⟩) rfl rfl (fun _ => rfl) rfl hs1844) (hs1844.c rfl) rfl (a_nil (b_norm (a_next (σ' := ⟨[(0, (i6 a0)), (5, (.osl 5)), (7, (eSi64 r1774)), (12, (eSSi64 a1)), (13, (i6 (a1.length : Int))), (14, (i6 x1223)), (45, (.osl 5)), (46, (i6 (x1224.length : Int))), (47, (i6 x1822))], [(5, (bk (.row 1 ((x1823.set x1822.toNat r1841).map eSi64))))]⟩) (by kernel_rfl) (a_region (vp (i6 (IntKind.i64.wrap (x1822 + 1))) rfl (vp (i6 (IntKind.i64.wrap (x1822 + 1))) rfl (a_nil ?_)))))))
                cases h
                exact a_again (by kernel_rfl) hX1835
          · have h := ite_t hb1769 h
            refine a_cond_t rfl (a_exit (t_exit (b_exit ?_)))
            exact j_leaf x1224 (Option.some.inj h) (by kernel_rfl)
        · have h := hy1734
          refine sr (vp (.osl 5) rfl (vq (i6 (x1224.length : Int)) (leno_run rfl rfl rfl) trivial (vp (i6 0) rfl (nx ⟨[(0, (i6 a0)), (5, (.osl 5)), (7, (eSi64 (rd a1 x1223.toNat))), (12, (eSSi64 a1)), (13, (i6 (a1.length : Int))), (14, (i6 x1223)), (18, (.osl 5)), (19, (i6 (x1224.length : Int))), (20, (i6 0))], [(5, (bk (.row 1 (x1224.map eSi64))))]⟩ (by kernel_rfl) (a_block ?_)))))
          refine a_loop (emb := fun (s : ((List Int) × Int)) => ⟨[(0, (i6 a0)), (5, (.osl 5)), (7, (eSi64 s.1)), (12, (eSSi64 a1)), (13, (i6 (a1.length : Int))), (14, (i6 x1223)), (18, (.osl 5)), (19, (i6 (x1224.length : Int))), (20, (i6 s.2))], [(5, (bk (.row 1 (x1224.map eSi64))))]⟩) (body := (fun s : ((List Int) × Int) => impl_prime_reducedList_l2 x1224 a0 s.1 s.2)) (G := fun q => some q = some y1733) h rfl ?_ (by kernel_rfl)
          rintro X1756 ⟨x1745, x1746⟩ x1757 h hX1758
          have h : impl_prime_reducedList_l2 x1224 a0 x1745 x1746 = some x1757 := h
          refine a_st (σ' := ⟨[(0, (i6 a0)), (5, (.osl 5)), (7, (eSi64 x1745)), (12, (eSSi64 a1)), (13, (i6 (a1.length : Int))), (14, (i6 x1223)), (18, (.osl 5)), (19, (i6 (x1224.length : Int))), (20, (i6 x1746))], [(5, (bk (.row 1 (x1224.map eSi64))))]⟩) (by kernel_rfl) (sr (vp (.bool ((decide (x1746 < (x1224.length : Int))))) rfl (nx ⟨[(0, (i6 a0)), (5, (.osl 5)), (7, (eSi64 x1745)), (12, (eSSi64 a1)), (13, (i6 (a1.length : Int))), (14, (i6 x1223)), (18, (.osl 5)), (19, (i6 (x1224.length : Int))), (20, (i6 x1746)), (21, (.bool ((decide (x1746 < (x1224.length : Int))))))], [(5, (bk (.row 1 (x1224.map eSi64))))]⟩ (by kernel_rfl) (a_seq ?_))))
          cases hb1759 : (decide (x1746 < (x1224.length : Int)))
          · have h := ite_f hb1759 h
            refine a_cond_f rfl (a_exit (t_exit ?_))
            cases h
            have h := hX1758
            refine t_exit (b_exit ?_)
            exact j_leaf x1745 (Option.some.inj h) (by kernel_rfl)
          · have h := ite_t hb1759 h
            refine a_cond_t rfl (a_skip (a_next (σ' := ⟨[(0, (i6 a0)), (5, (.osl 5)), (7, (eSi64 x1745)), (12, (eSSi64 a1)), (13, (i6 (a1.length : Int))), (14, (i6 x1223)), (18, (.osl 5)), (19, (i6 (x1224.length : Int))), (20, (i6 x1746))], [(5, (bk (.row 1 (x1224.map eSi64))))]⟩) (by kernel_rfl) (a_seq (a_block (sr ?_)))))
            obtain ⟨hc1760, h⟩ := ifp_some h
            refine vq (.own 5 [x1746.toNat] [x1746.toNat * 1]) rfl (lmap hc1760) ?_
            have hl1761 : LdOk [x1746.toNat] (.row 1 (x1224.map eSi64)) [x1746.toNat * 1] 1 false (eSi64 (rd x1224 x1746.toNat)) := (.row (llt hc1760) rfl (.nil rfl rfl rfl))
            refine vq (eSi64 (rd x1224 x1746.toNat)) (ld_own (i := ⟨.slice 2, 1, 24, (eSi64 [])⟩) rfl rfl rfl hl1761) hl1761.c (vp (eSi64 (rd x1224 x1746.toNat)) rfl (nx ⟨[(0, (i6 a0)), (5, (.osl 5)), (7, (eSi64 x1745)), (9, (eSi64 (rd x1224 x1746.toNat))), (12, (eSSi64 a1)), (13, (i6 (a1.length : Int))), (14, (i6 x1223)), (18, (.osl 5)), (19, (i6 (x1224.length : Int))), (20, (i6 x1746))], [(5, (bk (.row 1 (x1224.map eSi64))))]⟩ (by kernel_rfl) (a_region (vp (i6 a0) rfl (vp (eSi64 x1745) rfl (vp (eSi64 (rd x1224 x1746.toNat)) rfl (vp (eSi64 x1745) rfl (vp (eSi64 (rd x1224 x1746.toNat)) rfl (vq (i6 (((rd x1224 x1746.toNat).length : Int))) (len_run rfl rfl) trivial ?_)))))))))
            obtain ⟨x1762, hx1763, h⟩ := letp_some h
            refine a_val' (v := (i6 (IntKind.i64.wrap ((((rd x1224 x1746.toNat).length : Int)) - 1)))) (v' := (i6 x1762)) (u := []) (u' := []) rfl (congrArg (fun z => ((i6 z) : AV)) hx1763) rfl trivial rfl ?_
            obtain ⟨r1764, hr1765, h⟩ := bind_some h
            refine a_call (args := [(eSi64 x1745), (i6 x1762)]) (u := []) (r := (i6 r1764)) rfl rfl (impl_row_at_ok x1745 x1762 r1764 hr1765) rfl (vp (i6 (IntKind.i64.wrap (0 - r1764))) rfl ?_)
            obtain ⟨r1766, hr1767, h⟩ := bind_some h
            refine a_call (args := [(i6 a0), (eSi64 x1745), (eSi64 (rd x1224 x1746.toNat)), (i6 (IntKind.i64.wrap (0 - r1764)))]) (u := []) (r := (eSi64 r1766)) rfl rfl (impl_prime_combine_ok a0 x1745 (rd x1224 x1746.toNat) (IntKind.i64.wrap (0 - r1764)) r1766 hr1767) rfl (vp (eSi64 r1766) rfl (a_nil (b_norm (a_next (σ' := ⟨[(0, (i6 a0)), (5, (.osl 5)), (7, (eSi64 r1766)), (12, (eSSi64 a1)), (13, (i6 (a1.length : Int))), (14, (i6 x1223)), (18, (.osl 5)), (19, (i6 (x1224.length : Int))), (20, (i6 x1746))], [(5, (bk (.row 1 (x1224.map eSi64))))]⟩) (by kernel_rfl) (a_region (vp (i6 (IntKind.i64.wrap (x1746 + 1))) rfl (vp (i6 (IntKind.i64.wrap (x1746 + 1))) rfl (a_nil ?_))))))))
            cases h
            exact a_again (by kernel_rfl) hX1758
def impl_TorsionNumber_c : ACode := (.seq (.region 0 [q 4 (.box 26 (t 1)), q 5 (.box 26 (t 2)), q 6 (.asg 0 (.const (.int .i64 0)) 2), q 7 (.asg 0 (.const (.int .i64 0)) 2)] false) (.seq (.seq (.region 1 [q 13 (.mov (t 0)), q 14 (.load 26 (t 5)), q 15 (.load 26 (t 4)), q 16 (.bslice 0 38 1 [(0, (t 15))]), q 17 (.call 0 (.func 67) [(t 13), (t 14), (t 16)]), q 8 (.asg 0 (t 17) 2)] false) (.seq (.region 2 [q 18 (.mov (t 8)), q 19 (.bin .neq 2 (t 18) (.const (.int .i64 0)))] false) (.cond (t 19) (.seq (.region 3 [q 20 (.mov (t 8)), q 6 (.asg 0 (.const (.int .i64 0)) 2), q 7 (.asg 0 (t 20) 2)] false) .ret) .skip))) (.seq (.region 4 [q 21 (.mov (t 0)), q 22 (.load 26 (t 5)), q 23 (.call 0 (.func 68) [(t 22)]), q 9 (.asg 0 (t 21) 65), q 10 (.asg 1 (t 23) 66)] false) (.seq (.region 5 [q 11 (.asg 2 (.const (.slice none 0 0)) 82)] false) (.seq (.seq (.region 6 [q 24 (.mov (t 10)), q 25 (.call 0 (.func 69) [(t 24)]), q 26 (.mov (.const (.int .i64 0)))] false) (.block 0 (.loop (.seq (.region 7 [q 27 (.bin .lss 2 (t 26) (t 25))] false) (.seq (.cond (t 27) .skip (.exit 0)) (.seq (.block 1 (.seq (.region 8 [q 28 (.mov (t 26)), q 12 (.asg 0 (t 28) 2)] false) (.region 9 [q 29 (.mov (t 11)), q 30 (.mov (t 9)), q 31 (.load 26 (t 4)), q 32 (.call 0 (.func 68) [(t 31)]), q 33 (.mov (t 9)), q 34 (.mov (t 9)), q 35 (.mov (t 12)), q 36 (.call 0 (.func 73) [(t 34), (t 35), (.const (.int .i64 1099511627776))]), q 37 (.call 0 (.func 72) [(t 33), (t 36)]), q 38 (.mov (t 10)), q 39 (.call 0 (.func 80) [(t 30), (t 32), (t 37), (t 38)]), q 40 (.bslice 0 82 1 [(0, (t 39))]), q 41 (.blt 0 .append [(t 29), (t 40)] [82, 82]), q 11 (.asg 2 (t 41) 82)] false))) (.region 10 [q 42 (.bin .add 2 (t 26) (.const (.int .i64 1))), q 26 (.mov (t 42))] false))))))) (.seq (.region 11 [q 43 (.mov (t 10)), q 44 (.call 0 (.func 69) [(t 43)]), q 45 (.mov (t 9)), q 46 (.mov (t 11)), q 47 (.call 0 (.func 81) [(t 45), (t 46)]), q 48 (.blt 0 .len [(t 47)] [82]), q 49 (.bin .sub 2 (t 44) (t 48)), q 6 (.asg 0 (t 49) 2), q 7 (.asg 0 (.const (.int .i64 0)) 2)] false) .ret))))))
def impl_TorsionNumber_L : Live := [(0, [0, 1, 2]), (1, [0, 4, 5]), (2, [0, 4, 5, 8]), (3, [8]), (4, [0, 4, 5]), (5, [4, 9, 10]), (6, [4, 9, 10, 11]), (7, [4, 9, 10, 11, 25, 26]), (8, [4, 9, 10, 11, 25, 26]), (9, [4, 9, 10, 11, 12, 25, 26]), (10, [4, 9, 10, 11, 25, 26]), (11, [9, 10, 11]), (100019, [0, 4, 5, 8, 19]), (100027, [4, 9, 10, 11, 25, 26, 27])]
noncomputable def impl_TorsionNumber_l1 (r54 : Int) (a1 : (Vec Int 64)) (a0 : Int) (r7 : (List Int)) (x67 : Int) (x68 : (List (List Int))) : Option ((Int × (List (List Int))) ⊕ (List (List Int))) :=
  (if (decide (x67 < r54)) then (Option.bind (impl_rowOf a1) fun r85 => (Option.bind (impl_prime_norm a0 x67 1099511627776) fun r87 => (Option.bind (impl_prime_numbered a0 r87) fun r89 => (Option.bind (impl_prime_act a0 r85 r89 r7) fun r91 => (ifp ((x68.length + ([r91] : List (List Int)).length) * 24 ≤ 140737488355328) ((some (.inl ((IntKind.i64.wrap (x67 + 1), (x68 ++ ([r91])))))))))))) else (some (.inr x68)))
noncomputable def impl_TorsionNumber (a0 : Int) (a1 : (Vec Int 64)) (a2 : (Vec Int 64)) : Option (Int × Int) :=
  (Option.bind (impl_modulusCode_of_sl a0 a2 ([a1])) fun r3 => (if (r3 != 0) then (some (0, r3)) else (Option.bind (impl_rowOf a2) fun r7 => (Option.bind (α := (List (List Int))) ((Option.bind (impl_row_degree r7) fun r54 => (loopM (fun s : (Int × (List (List Int))) => impl_TorsionNumber_l1 r54 a1 a0 r7 s.1 s.2) (0, [])))) fun x50 => (Option.bind (impl_row_degree r7) fun r95 => (Option.bind (impl_prime_reducedList a0 x50) fun r97 => (some ((IntKind.i64.wrap (r95 - (r97.length : Int)), 0)))))))))
theorem impl_TorsionNumber_ok (a0 : Int) (a1 : (Vec Int 64)) (a2 : (Vec Int 64)) (r : (Int × Int)) (h : impl_TorsionNumber a0 a1 a2 = some r) : Den Try.prog 38 [(i6 a0), (eA64u8 a1), (eA64u8 a2)] { r := (.tuple [(i6 r.1), (i6 r.2)]) } := by
  refine den_of (rs := [(i6 r.1), (i6 r.2)]) (ac := impl_TorsionNumber_c) (L := impl_TorsionNumber_L) (n := 50) (m := [(10, 1), (11, 2)]) (c := Try.f38.body.getD .skip) good Try.func38 (by kernel_rfl) (by kernel_rfl) Try.ntmps38 rfl rfl (by kernel_rfl) rfl rfl ?_
  refine a_st (σ' := ⟨[(0, (i6 a0)), (1, (eA64u8 a1)), (2, (eA64u8 a2))], []⟩) (by kernel_rfl) ?_
  unfold impl_TorsionNumber_c
  refine sr (vo 1400 (eA64u8 a1) rfl rfl (vo 1500 (eA64u8 a2) rfl rfl (vp (i6 0) rfl (vp (i6 0) rfl (nx ⟨[(0, (i6 a0)), (4, (ow 4)), (5, (ow 5))], [(4, (bk (eA64u8 a1))), (5, (bk (eA64u8 a2)))]⟩ (by kernel_rfl) (a_seq (sr (vp (i6 a0) rfl (vl (eA64u8 a2) rfl rfl rfl rfl rfl rfl ?_)))))))))
  refine vl (eA64u8 a1) rfl rfl rfl rfl rfl rfl (vq (.sl 64 true (([a1]).map eA64u8)) rfl ⟨(Nat.le_of_ble_eq_true rfl), (Nat.le_of_ble_eq_true rfl), (all_cons ⟨(Nat.le_of_ble_eq_true rfl), rfl⟩ all_nil)⟩ ?_)
  obtain ⟨r3, hr4, h⟩ := bind_some h
  refine a_call (args := [(i6 a0), (eA64u8 a2), (.sl 64 true (([a1]).map eA64u8))]) (u := []) (r := (i6 r3)) rfl rfl (impl_modulusCode_of_sl_ok a0 a2 ([a1]) r3 hr4) rfl (vp (i6 r3) rfl (nx ⟨[(0, (i6 a0)), (4, (ow 4)), (5, (ow 5)), (8, (i6 r3))], [(4, (bk (eA64u8 a1))), (5, (bk (eA64u8 a2)))]⟩ (by kernel_rfl) (sr (vp (i6 r3) rfl (vp (.bool (r3 != 0)) rfl (nx ⟨[(0, (i6 a0)), (4, (ow 4)), (5, (ow 5)), (8, (i6 r3)), (19, (.bool (r3 != 0)))], [(4, (bk (eA64u8 a1))), (5, (bk (eA64u8 a2)))]⟩ (by kernel_rfl) ?_))))))
  cases hb5 : (r3 != 0)
  · have h := ite_f hb5 h
    refine a_cond_f rfl (a_skip (a_next (σ' := ⟨[(0, (i6 a0)), (4, (ow 4)), (5, (ow 5))], [(4, (bk (eA64u8 a1))), (5, (bk (eA64u8 a2)))]⟩) (by kernel_rfl) (sr (vp (i6 a0) rfl (vl (eA64u8 a2) rfl rfl rfl rfl rfl rfl ?_)))))
    obtain ⟨r7, hr8, h⟩ := bind_some h
    refine a_call (args := [(eA64u8 a2)]) (u := []) (r := (eSi64 r7)) rfl rfl (impl_rowOf_ok a2 r7 hr8) rfl (vp (i6 a0) rfl (vp (eSi64 r7) rfl (nx ⟨[(4, (ow 4)), (9, (i6 a0)), (10, (eSi64 r7))], [(4, (bk (eA64u8 a1)))]⟩ (by kernel_rfl) (sr (vu (.osl 2100) [(2100, (bk (.row 1 (([]).map eSi64))))] rfl trivial rfl (nx ⟨[(4, (ow 4)), (9, (i6 a0)), (10, (eSi64 r7)), (11, (.osl 11))], [(4, (bk (eA64u8 a1))), (11, (bk (.row 1 (([]).map eSi64))))]⟩ (by kernel_rfl) ?_))))))
    obtain ⟨y51, hy52, hk53⟩ := bind_some h
    clear h
    refine a_join (emb := fun (s : (List (List Int))) => ⟨[(9, (i6 a0)), (10, (eSi64 r7)), (11, (.osl 11))], [(11, (bk (.row 1 (s.map eSi64))))]⟩) (pre := fun s => s = y51) ?_ ?_
    · rintro x50 rfl
      have h := hk53
      refine a_st (σ' := ⟨[(9, (i6 a0)), (10, (eSi64 r7)), (11, (.osl 11))], [(11, (bk (.row 1 (x50.map eSi64))))]⟩) (by kernel_rfl) (sr (vp (eSi64 r7) rfl ?_))
      obtain ⟨r95, hr96, h⟩ := bind_some h
      refine a_call (args := [(eSi64 r7)]) (u := []) (r := (i6 r95)) rfl rfl (impl_row_degree_ok r7 r95 hr96) rfl (vp (i6 a0) rfl (vp (.osl 11) rfl ?_))
      obtain ⟨r97, hr98, h⟩ := bind_some h
      refine a_call (args := [(i6 a0), (eSSi64 x50)]) (u := [(11, (bf (.row 1 (x50.map eSi64))))]) (r := (eSSi64 r97)) rfl rfl (impl_prime_reducedList_ok a0 x50 r97 hr98) rfl (vq (i6 (r97.length : Int)) (len_run rfl rfl) trivial (vp (i6 (IntKind.i64.wrap (r95 - (r97.length : Int)))) rfl (vp (i6 (IntKind.i64.wrap (r95 - (r97.length : Int)))) rfl (vp (i6 0) rfl (nx _ rfl (a_ret ?_))))))
      refine ⟨.inr rfl, ?_⟩
      rw [Try.results38]
      cases h
      exact ⟨_, _, _, _, _, rfl, trivial, .inl ⟨rfl, .inl rfl⟩, rfl, ⟨_, _, _, _, _, rfl, trivial, .inl ⟨rfl, .inl rfl⟩, rfl, rfl⟩⟩
    · have h := hy52
      refine sr (vp (eSi64 r7) rfl ?_)
      obtain ⟨r54, hr55, h⟩ := bind_some h
      refine a_call (args := [(eSi64 r7)]) (u := []) (r := (i6 r54)) rfl rfl (impl_row_degree_ok r7 r54 hr55) rfl (vp (i6 0) rfl (nx ⟨[(4, (ow 4)), (9, (i6 a0)), (10, (eSi64 r7)), (11, (.osl 11)), (25, (i6 r54)), (26, (i6 0))], [(4, (bk (eA64u8 a1))), (11, (bk (.row 1 (([]).map eSi64))))]⟩ (by kernel_rfl) (a_block ?_)))
      refine a_loop (emb := fun (s : (Int × (List (List Int)))) => ⟨[(4, (ow 4)), (9, (i6 a0)), (10, (eSi64 r7)), (11, (.osl 11)), (25, (i6 r54)), (26, (i6 s.1))], [(4, (bk (eA64u8 a1))), (11, (bk (.row 1 (s.2.map eSi64))))]⟩) (body := (fun s : (Int × (List (List Int))) => impl_TorsionNumber_l1 r54 a1 a0 r7 s.1 s.2)) (G := fun q => some q = some y51) h rfl ?_ (by kernel_rfl)
      rintro X80 ⟨x67, x68⟩ x81 h hX82
      have h : impl_TorsionNumber_l1 r54 a1 a0 r7 x67 x68 = some x81 := h
      refine a_st (σ' := ⟨[(4, (ow 4)), (9, (i6 a0)), (10, (eSi64 r7)), (11, (.osl 11)), (25, (i6 r54)), (26, (i6 x67))], [(4, (bk (eA64u8 a1))), (11, (bk (.row 1 (x68.map eSi64))))]⟩) (by kernel_rfl) (sr (vp (.bool ((decide (x67 < r54)))) rfl (nx ⟨[(4, (ow 4)), (9, (i6 a0)), (10, (eSi64 r7)), (11, (.osl 11)), (25, (i6 r54)), (26, (i6 x67)), (27, (.bool ((decide (x67 < r54)))))], [(4, (bk (eA64u8 a1))), (11, (bk (.row 1 (x68.map eSi64))))]⟩ (by kernel_rfl) (a_seq ?_))))
      cases hb83 : (decide (x67 < r54))
      · have h := ite_f hb83 h
        refine a_cond_f rfl (a_exit (t_exit ?_))
        cases h
        have h := hX82
        refine t_exit (b_exit ?_)
        exact j_leaf x68 (Option.some.inj h) (by kernel_rfl)
      · have h := ite_t hb83 h
        refine a_cond_t rfl (a_skip (a_next (σ' := ⟨[(4, (ow 4)), (9, (i6 a0)), (10, (eSi64 r7)), (11, (.osl 11)), (25, (i6 r54)), (26, (i6 x67))], [(4, (bk (eA64u8 a1))), (11, (bk (.row 1 (x68.map eSi64))))]⟩) (by kernel_rfl) (a_seq (a_block (sr (vp (i6 x67) rfl (vp (i6 x67) rfl (nx ⟨[(4, (ow 4)), (9, (i6 a0)), (10, (eSi64 r7)), (11, (.osl 11)), (12, (i6 x67)), (25, (i6 r54)), (26, (i6 x67))], [(4, (bk (eA64u8 a1))), (11, (bk (.row 1 (x68.map eSi64))))]⟩ (by kernel_rfl) (a_region ?_)))))))))
        refine vp (.osl 11) rfl (vp (i6 a0) rfl (vl (eA64u8 a1) rfl rfl rfl rfl rfl rfl ?_))
        obtain ⟨r85, hr86, h⟩ := bind_some h
        refine a_call (args := [(eA64u8 a1)]) (u := []) (r := (eSi64 r85)) rfl rfl (impl_rowOf_ok a1 r85 hr86) rfl (vp (i6 a0) rfl (vp (i6 a0) rfl (vp (i6 x67) rfl ?_)))
        obtain ⟨r87, hr88, h⟩ := bind_some h
        refine a_call (args := [(i6 a0), (i6 x67), (i6 1099511627776)]) (u := []) (r := (i6 r87)) rfl rfl (impl_prime_norm_ok a0 x67 1099511627776 r87 hr88) rfl ?_
        obtain ⟨r89, hr90, h⟩ := bind_some h
        refine a_call (args := [(i6 a0), (i6 r87)]) (u := []) (r := (eSi64 r89)) rfl rfl (impl_prime_numbered_ok a0 r87 r89 hr90) rfl (vp (eSi64 r7) rfl ?_)
        obtain ⟨r91, hr92, h⟩ := bind_some h
        refine a_call (args := [(i6 a0), (eSi64 r85), (eSi64 r89), (eSi64 r7)]) (u := []) (r := (eSi64 r91)) rfl rfl (impl_prime_act_ok a0 r85 r89 r7 r91 hr92) rfl (vq (.sl 1 true (([r91]).map eSi64)) rfl ⟨(Nat.le_of_ble_eq_true rfl), (Nat.le_of_ble_eq_true rfl), (all_cons ⟨(Nat.le_of_ble_eq_true rfl), rfl⟩ all_nil)⟩ ?_)
        obtain ⟨hc93, h⟩ := ifp_some h
        refine vu (.osl 5100) [(5100, (bk (.row 1 (((x68 ++ ([r91]))).map eSi64)))), (11, none)] (app_run (i := ⟨.slice 2, 1, 24, (eSi64 [])⟩) (f := eSi64) (l := x68) (l2 := [r91]) rfl rfl rfl rfl (fun _ => rfl) rfl rfl) (app_c (f := eSi64) (s := 1) (sz := 1) (by' := 24) (u := []) (id := 11) hc93 (.inr rfl) rfl rfl rfl) rfl (vp (.osl 5100) rfl (a_nil (b_norm (a_next (σ' := ⟨[(4, (ow 4)), (9, (i6 a0)), (10, (eSi64 r7)), (11, (.osl 11)), (25, (i6 r54)), (26, (i6 x67))], [(4, (bk (eA64u8 a1))), (11, (bk (.row 1 (((x68 ++ ([r91]))).map eSi64))))]⟩) (by kernel_rfl) (a_region (vp (i6 (IntKind.i64.wrap (x67 + 1))) rfl (vp (i6 (IntKind.i64.wrap (x67 + 1))) rfl (a_nil ?_))))))))
        cases h
        exact a_again (by kernel_rfl) hX82
  · have h := ite_t hb5 h
    refine a_cond_t rfl (sr (vp (i6 r3) rfl (vp (i6 0) rfl (vp (i6 r3) rfl (nx _ rfl (a_ret (t_ret ?_)))))))
    refine ⟨.inr rfl, ?_⟩
    rw [Try.results38]
    cases h
    exact ⟨_, _, _, _, _, rfl, trivial, .inl ⟨rfl, .inl rfl⟩, rfl, ⟨_, _, _, _, _, rfl, trivial, .inl ⟨rfl, .inl rfl⟩, rfl, rfl⟩⟩
def laws_FnExactTorsionNumber_c : ACode := (.seq (.region 0 [q 4 (.box 22 (t 1)), q 5 (.box 22 (t 2)), q 6 (.asg 0 (.const (.bool false)) 4)] false) (.seq (.region 1 [q 12 (.mov (t 0)), q 13 (.load 22 (t 4)), ⟨some 14, .call 0 (.func 15) [(t 13)], none, [1]⟩, q 15 (.load 22 (t 5)), ⟨some 16, .call 0 (.func 15) [(t 15)], none, [3, 2]⟩, ⟨some 17, .call 0 (.func 37) [(t 12), (t 14), (t 16)], none, [0, 2, 4, 4]⟩, ⟨some 11, .mov (t 17), none, [5]⟩, ⟨some 18, .extract (t 11) 0, none, [6]⟩, ⟨some 19, .extract (t 11) 1, none, [6]⟩, ⟨some 7, .asg 0 (t 18) 2, none, [7, 5, 0, 1, 2, 3, 4, 5, 6, 7]⟩, ⟨some 8, .asg 0 (t 19) 2, none, [8, 9, 0, 1, 2, 3, 4, 5, 6, 7, 8, 9]⟩] true) (.seq (.region 2 [q 21 (.mov (t 0)), q 22 (.load 22 (t 4)), ⟨some 23, .call 0 (.func 15) [(t 22)], none, [1]⟩, q 24 (.load 22 (t 5)), ⟨some 25, .call 0 (.func 15) [(t 24)], none, [3, 2]⟩, ⟨some 26, .call 0 (.func 38) [(t 21), (t 23), (t 25)], none, [0, 2, 4, 4]⟩, ⟨some 20, .mov (t 26), none, [5]⟩, ⟨some 27, .extract (t 20) 0, none, [6]⟩, ⟨some 28, .extract (t 20) 1, none, [6]⟩, ⟨some 9, .asg 0 (t 27) 2, none, [7, 5, 0, 1, 2, 3, 4, 5, 6, 7]⟩, ⟨some 10, .asg 0 (t 28) 2, none, [8, 9, 0, 1, 2, 3, 4, 5, 6, 7, 8, 9]⟩] true) (.seq (.seq (.region 3 [q 29 (.mov (t 9)), q 30 (.mov (t 7)), q 31 (.bin .neq 2 (t 29) (t 30)), q 32 (.mov (t 31)), ⟨some 33, .mov (t 10), some (32, false), []⟩, ⟨some 34, .mov (t 8), some (32, false), []⟩, ⟨some 35, .bin .neq 2 (t 33) (t 34), some (32, false), []⟩, q 36 (.pick (t 32) (.const (.bool true)) (t 35))] false) (.cond (t 36) (.seq (.region 4 [q 6 (.asg 0 (.const (.bool false)) 4)] false) .ret) .skip)) (.seq (.region 5 [q 6 (.asg 0 (.const (.bool true)) 4)] false) .ret)))))
def laws_FnExactTorsionNumber_L : Live := [(0, [0, 1, 2]), (1, [0, 4, 5]), (2, [0, 4, 5, 7, 8]), (3, [7, 8, 9, 10]), (4, []), (5, []), (100036, [36])]
noncomputable def laws_FnExactTorsionNumber (a0 : Int) (a1 : (Vec Int 64)) (a2 : (Vec Int 64)) : Option Bool :=
  (Option.bind (laws_toPoly a1) fun r10 => (Option.bind (laws_toPoly a2) fun r13 => (Option.bind (spec_TorsionNumber a0 r10 r13) fun r15 => (Option.bind (laws_toPoly a1) fun r26 => (Option.bind (laws_toPoly a2) fun r29 => (Option.bind (impl_TorsionNumber a0 r26 r29) fun r31 => (Option.bind (α := Bool) ((if (r31.1 != r15.1) then (some true) else (some (r31.2 != r15.2)))) fun x34 => (if x34 then (some false) else (some true)))))))))
theorem laws_FnExactTorsionNumber_ok (a0 : Int) (a1 : (Vec Int 64)) (a2 : (Vec Int 64)) (r : Bool) (h : laws_FnExactTorsionNumber a0 a1 a2 = some r) : Den Try.prog 8 [(i6 a0), (eA64u8 a1), (eA64u8 a2)] { r := (.bool r) } := by
  refine den_of (rs := [(.bool r)]) (ac := laws_FnExactTorsionNumber_c) (L := laws_FnExactTorsionNumber_L) (n := 37) (m := []) (c := Try.f8.body.getD .skip) good Try.func8 (by kernel_rfl) (by kernel_rfl) Try.ntmps8 rfl rfl (by kernel_rfl) rfl rfl ?_
  refine a_st (σ' := ⟨[(0, (i6 a0)), (1, (eA64u8 a1)), (2, (eA64u8 a2))], []⟩) (by kernel_rfl) ?_
  unfold laws_FnExactTorsionNumber_c
  refine sr (vo 1400 (eA64u8 a1) rfl rfl (vo 1500 (eA64u8 a2) rfl rfl (vp (.bool false) rfl (nx ⟨[(0, (i6 a0)), (4, (ow 4)), (5, (ow 5))], [(4, (bk (eA64u8 a1))), (5, (bk (eA64u8 a2)))]⟩ (by kernel_rfl) (a_seq (a_draw [⟨[], [], [], []⟩, ⟨[4], [], [], []⟩, ⟨[], [], [], [1]⟩, ⟨[5], [], [], []⟩, ⟨[], [], [], [1, 2, 3]⟩, ⟨[], [], [], [0, 1, 2, 3, 4]⟩, ⟨[], [], [], [0, 1, 2, 3, 4, 5]⟩, ⟨[], [], [], [0, 1, 2, 3, 4, 5, 6]⟩, ⟨[], [], [], [0, 1, 2, 3, 4, 5, 6]⟩, ⟨[], [], [], [0, 1, 2, 3, 4, 5, 6, 7]⟩, ⟨[], [], [], [0, 1, 2, 3, 4, 5, 6, 7, 8, 9]⟩] (by kernel_rfl) (dp (i6 a0) rfl (by kernel_rfl) (d_cons (vl (eA64u8 a1) rfl rfl rfl rfl rfl rfl ?_)))))))))
  refine d_next (by kernel_rfl) (d_cons ?_)
  obtain ⟨r10, hr11, h⟩ := bind_some h
  refine a_call (args := [(eA64u8 a1)]) (u := []) (r := (eA64u8 r10)) rfl rfl (laws_toPoly_ok a1 r10 hr11) rfl (d_next (by kernel_rfl) (d_cons (vl (eA64u8 a2) rfl rfl rfl rfl rfl rfl (d_next (by kernel_rfl) (d_cons ?_)))))
  obtain ⟨r13, hr14, h⟩ := bind_some h
  refine a_call (args := [(eA64u8 a2)]) (u := []) (r := (eA64u8 r13)) rfl rfl (laws_toPoly_ok a2 r13 hr14) rfl (d_next (by kernel_rfl) (d_cons ?_))
  obtain ⟨r15, hr16, h⟩ := bind_some h
  refine a_call (args := [(i6 a0), (eA64u8 r10), (eA64u8 r13)]) (u := []) (r := (.tuple [(i6 r15.1), (i6 r15.2)])) rfl rfl (spec_TorsionNumber_ok a0 r10 r13 r15 hr16) rfl (d_next (by kernel_rfl) (dp (.tuple [(i6 r15.1), (i6 r15.2)]) rfl (by kernel_rfl) (d_cons (vb (i6 r15.1) rfl rfl (d_next (by kernel_rfl) (d_cons (vb (i6 r15.2) rfl rfl (d_next (by kernel_rfl) (dp (i6 r15.1) rfl (by kernel_rfl) ?_)))))))))
  refine dp (i6 r15.2) rfl (by kernel_rfl) (d_nil (a_next (σ' := ⟨[(0, (i6 a0)), (4, (ow 4)), (5, (ow 5)), (7, (i6 r15.1)), (8, (i6 r15.2))], [(4, (bk (eA64u8 a1))), (5, (bk (eA64u8 a2)))]⟩) (by kernel_rfl) (a_seq (a_draw [⟨[], [], [], []⟩, ⟨[4], [], [], []⟩, ⟨[], [], [], [1]⟩, ⟨[5], [], [], []⟩, ⟨[], [], [], [1, 2, 3]⟩, ⟨[], [], [], [0, 1, 2, 3, 4]⟩, ⟨[], [], [], [0, 1, 2, 3, 4, 5]⟩, ⟨[], [], [], [0, 1, 2, 3, 4, 5, 6]⟩, ⟨[], [], [], [0, 1, 2, 3, 4, 5, 6]⟩, ⟨[], [], [], [0, 1, 2, 3, 4, 5, 6, 7]⟩, ⟨[], [], [], [0, 1, 2, 3, 4, 5, 6, 7, 8, 9]⟩] (by kernel_rfl) (dp (i6 a0) rfl (by kernel_rfl) (d_cons (vl (eA64u8 a1) rfl rfl rfl rfl rfl rfl (d_next (by kernel_rfl) (d_cons ?_)))))))))
  obtain ⟨r26, hr27, h⟩ := bind_some h
  refine a_call (args := [(eA64u8 a1)]) (u := []) (r := (eA64u8 r26)) rfl rfl (laws_toPoly_ok a1 r26 hr27) rfl (d_next (by kernel_rfl) (d_cons (vl (eA64u8 a2) rfl rfl rfl rfl rfl rfl (d_next (by kernel_rfl) (d_cons ?_)))))
  obtain ⟨r29, hr30, h⟩ := bind_some h
  refine a_call (args := [(eA64u8 a2)]) (u := []) (r := (eA64u8 r29)) rfl rfl (laws_toPoly_ok a2 r29 hr30) rfl (d_next (by kernel_rfl) (d_cons ?_))
  obtain ⟨r31, hr32, h⟩ := bind_some h
  refine a_call (args := [(i6 a0), (eA64u8 r26), (eA64u8 r29)]) (u := []) (r := (.tuple [(i6 r31.1), (i6 r31.2)])) rfl rfl (impl_TorsionNumber_ok a0 r26 r29 r31 hr32) rfl (d_next (by kernel_rfl) (dp (.tuple [(i6 r31.1), (i6 r31.2)]) rfl (by kernel_rfl) (d_cons (vb (i6 r31.1) rfl rfl (d_next (by kernel_rfl) (d_cons (vb (i6 r31.2) rfl rfl (d_next (by kernel_rfl) (dp (i6 r31.1) rfl (by kernel_rfl) ?_)))))))))
  refine dp (i6 r31.2) rfl (by kernel_rfl) (d_nil (a_next (σ' := ⟨[(7, (i6 r15.1)), (8, (i6 r15.2)), (9, (i6 r31.1)), (10, (i6 r31.2))], []⟩) (by kernel_rfl) (a_seq ?_)))
  obtain ⟨y35, hy36, hk37⟩ := bind_some h
  clear h
  refine a_join (emb := fun (s : Bool) => ⟨[(36, (.bool s))], []⟩) (pre := fun s => s = y35) ?_ ?_
  · rintro x34 rfl
    have h := hk37
    refine a_st (σ' := ⟨[(36, (.bool x34))], []⟩) (by kernel_rfl) ?_
    cases hb39 : x34
    · have h := ite_f hb39 h
      refine a_cond_f rfl (a_skip (a_next (σ' := ⟨[], []⟩) (by kernel_rfl) (sr (vp (.bool true) rfl (nx _ rfl (a_ret ?_))))))
      refine ⟨.inr rfl, ?_⟩
      rw [Try.results8]
      cases h
      exact ⟨_, _, _, _, _, rfl, trivial, .inl ⟨rfl, .inl rfl⟩, rfl, rfl⟩
    · have h := ite_t hb39 h
      refine a_cond_t rfl (sr (vp (.bool false) rfl (nx _ rfl (a_ret (t_ret ?_)))))
      refine ⟨.inr rfl, ?_⟩
      rw [Try.results8]
      cases h
      exact ⟨_, _, _, _, _, rfl, trivial, .inl ⟨rfl, .inl rfl⟩, rfl, rfl⟩
  · have h := hy36
    refine a_region (vp (i6 r31.1) rfl (vp (i6 r15.1) rfl (vp (.bool (r31.1 != r15.1)) rfl (vp (.bool (r31.1 != r15.1)) rfl ?_))))
    cases hb38 : (r31.1 != r15.1)
    · have h := ite_f hb38 h
      refine gp (i6 r31.2) rfl rfl (gp (i6 r15.2) rfl rfl (gp (.bool (r31.2 != r15.2)) rfl rfl (vp (.bool (r31.2 != r15.2)) rfl (a_nil ?_))))
      exact j_leaf (r31.2 != r15.2) (Option.some.inj h) (by kernel_rfl)
    · have h := ite_t hb38 h
      refine a_gskip rfl (a_gskip rfl (a_gskip rfl (vp (.bool true) rfl (a_nil ?_))))
      exact j_leaf true (Option.some.inj h) (by kernel_rfl)
def spec_l01Of_c : ACode := (.seq (.region 0 [q 4 (.alloc 26)] false) (.seq (.region 1 [q 7 (.build 26 []), q 5 (.alloc 26), ⟨none, .store 26 (t 5) (t 7), none, []⟩] false) (.seq (.seq (.region 2 [q 6 (.asg 0 (.const (.int .i64 0)) 3)] false) (.block 0 (.loop (.seq (.seq (.region 3 [q 8 (.mov (t 1)), q 9 (.bin .gtr 2 (t 8) (.const (.int .i64 0)))] false) (.cond (t 9) .skip (.exit 0))) (.seq (.block 1 (.seq (.region 5 [q 12 (.mov (t 6)), q 13 (.mov (t 1)), q 14 (.mov (t 0)), q 15 (.bin .rem 2 (t 13) (t 14)), q 16 (.conv 2 5 (t 15)), q 17 (.indexAddr 26 (t 5) (t 12)), ⟨none, .store 5 (t 17) (t 16), none, []⟩] false) (.region 6 [q 18 (.mov (t 1)), q 19 (.mov (t 0)), q 20 (.bin .quo 2 (t 18) (t 19)), q 1 (.asg 0 (t 20) 2)] false))) (.region 4 [q 10 (.mov (t 6)), q 11 (.bin .add 3 (t 10) (.const (.int .i64 1))), q 6 (.asg 0 (t 11) 3)] false)))))) (.seq (.region 7 [q 21 (.load 26 (t 5)), ⟨none, .store 26 (t 4) (t 21), none, []⟩] false) .ret))))
def spec_l01Of_L : Live := [(0, [0, 1]), (1, [0, 1, 4]), (2, [0, 1, 4, 5]), (3, [0, 1, 4, 5, 6]), (4, [0, 1, 4, 5, 6]), (5, [0, 1, 4, 5, 6]), (6, [0, 1, 4, 5, 6]), (7, [4, 5]), (100009, [0, 1, 4, 5, 6, 9])]
noncomputable def spec_l01Of_l1 (a0 : Int) (x33 : Int) (x34 : Int) (x35 : (Vec Int 64)) : Option ((Int × Int × (Vec Int 64)) ⊕ (Vec Int 64)) :=
  (if (decide (x33 > 0)) then (ifp (a0 ≠ 0) ((ifp (0 ≤ x34 ∧ x34 < ((64 : Nat) : Int)) ((ifp (a0 ≠ 0) ((some (.inl ((IntKind.i64.wrap (Int.tdiv x33 a0), IntKind.i64.wrap (x34 + 1), (vset x35 x34.toNat (IntKind.u8.wrap (Int.tmod x33 a0))))))))))))) else (some (.inr x35)))
noncomputable def spec_l01Of (a0 : Int) (a1 : Int) : Option (Vec Int 64) :=
  (Option.bind (α := (Vec Int 64)) ((loopM (fun s : (Int × Int × (Vec Int 64)) => spec_l01Of_l1 a0 s.1 s.2.1 s.2.2) (a1, 0, (vrep 64 (0 : Int))))) fun x24 => (some x24))
theorem spec_l01Of_ok (a0 : Int) (a1 : Int) (r : (Vec Int 64)) (h : spec_l01Of a0 a1 = some r) : Den Try.prog 76 [(i6 a0), (i6 a1)] { r := (eA64u8 r) } := by
  refine den_of (rs := [(eA64u8 r)]) (ac := spec_l01Of_c) (L := spec_l01Of_L) (n := 22) (m := []) (c := Try.f76.body.getD .skip) good Try.func76 (by kernel_rfl) (by kernel_rfl) Try.ntmps76 rfl rfl (by kernel_rfl) rfl rfl ?_
  refine a_st (σ' := ⟨[(0, (i6 a0)), (1, (i6 a1))], []⟩) (by kernel_rfl) ?_
  unfold spec_l01Of_c
  refine sr (vo 1400 (eA64u8 ((vrep 64 (0 : Int)))) rfl rfl (nx ⟨[(0, (i6 a0)), (1, (i6 a1)), (4, (ow 4))], [(4, (bk (eA64u8 ((vrep 64 (0 : Int))))))]⟩ (by kernel_rfl) (sr (vq (eA64u8 ((vrep 64 (0 : Int)))) rfl ⟨⟨_, rfl, rfl⟩, all_nil⟩ (vo 1500 (eA64u8 ((vrep 64 (0 : Int)))) rfl rfl (vs (eA64u8 ((vrep 64 (0 : Int)))) rfl rfl (fun _ => rfl) rfl rfl rfl rfl rfl rfl (nx ⟨[(0, (i6 a0)), (1, (i6 a1)), (4, (ow 4)), (5, (ow 5))], [(4, (bk (eA64u8 ((vrep 64 (0 : Int)))))), (5, (bk (eA64u8 ((vrep 64 (0 : Int))))))]⟩ (by kernel_rfl) ?_)))))))
  obtain ⟨y25, hy26, hk27⟩ := bind_some h
  clear h
  refine a_join (emb := fun (s : (Vec Int 64)) => ⟨[(4, (ow 4)), (5, (ow 5))], [(4, (bk (eA64u8 ((vrep 64 (0 : Int)))))), (5, (bk (eA64u8 s)))]⟩) (pre := fun s => s = y25) ?_ ?_
  · rintro x24 rfl
    have h := hk27
    refine a_st (σ' := ⟨[(4, (ow 4)), (5, (ow 5))], [(4, (bk (eA64u8 ((vrep 64 (0 : Int)))))), (5, (bk (eA64u8 x24)))]⟩) (by kernel_rfl) (sr (vl (eA64u8 x24) rfl rfl rfl rfl rfl rfl (vs (eA64u8 x24) rfl rfl (fun _ => rfl) rfl rfl rfl rfl rfl rfl (nx _ rfl (a_ret ?_)))))
    have hl52 : LdOk [] (eA64u8 x24) [] 64 true (eA64u8 x24) := (.nil rfl rfl rfl)
    refine ⟨.inr rfl, ?_⟩
    rw [Try.results76]
    cases h
    exact ⟨_, _, _, _, _, ld_own (i := ⟨.arr 64 5, 64, 64, (eA64u8 (vrep 64 (0 : Int)))⟩) rfl rfl rfl hl52, hl52.c, .inl ⟨rfl, .inl rfl⟩, rfl, rfl⟩
  · have h := hy26
    refine sr (vp (i6 0) rfl (nx ⟨[(0, (i6 a0)), (1, (i6 a1)), (4, (ow 4)), (5, (ow 5)), (6, (i6 0))], [(4, (bk (eA64u8 ((vrep 64 (0 : Int)))))), (5, (bk (eA64u8 ((vrep 64 (0 : Int))))))]⟩ (by kernel_rfl) (a_block ?_)))
    refine a_loop (emb := fun (s : (Int × Int × (Vec Int 64))) => ⟨[(0, (i6 a0)), (1, (i6 s.1)), (4, (ow 4)), (5, (ow 5)), (6, (i6 s.2.1))], [(4, (bk (eA64u8 ((vrep 64 (0 : Int)))))), (5, (bk (eA64u8 s.2.2)))]⟩) (body := (fun s : (Int × Int × (Vec Int 64)) => spec_l01Of_l1 a0 s.1 s.2.1 s.2.2)) (G := fun q => some q = some y25) h rfl ?_ (by kernel_rfl)
    rintro X41 ⟨x33, x34, x35⟩ x42 h hX43
    have h : spec_l01Of_l1 a0 x33 x34 x35 = some x42 := h
    refine a_st (σ' := ⟨[(0, (i6 a0)), (1, (i6 x33)), (4, (ow 4)), (5, (ow 5)), (6, (i6 x34))], [(4, (bk (eA64u8 ((vrep 64 (0 : Int)))))), (5, (bk (eA64u8 x35)))]⟩) (by kernel_rfl) (a_seq (sr (vp (i6 x33) rfl (vp (.bool ((decide (x33 > 0)))) rfl (nx ⟨[(0, (i6 a0)), (1, (i6 x33)), (4, (ow 4)), (5, (ow 5)), (6, (i6 x34)), (9, (.bool ((decide (x33 > 0)))))], [(4, (bk (eA64u8 ((vrep 64 (0 : Int)))))), (5, (bk (eA64u8 x35)))]⟩ (by kernel_rfl) ?_)))))
    cases hb44 : (decide (x33 > 0))
    · have h := ite_f hb44 h
      refine a_cond_f rfl (a_exit (t_exit ?_))
      cases h
      have h := hX43
      refine t_exit (b_exit ?_)
      exact j_leaf x35 (Option.some.inj h) (by kernel_rfl)
    · have h := ite_t hb44 h
      refine a_cond_t rfl (a_skip (a_next (σ' := ⟨[(0, (i6 a0)), (1, (i6 x33)), (4, (ow 4)), (5, (ow 5)), (6, (i6 x34))], [(4, (bk (eA64u8 ((vrep 64 (0 : Int)))))), (5, (bk (eA64u8 x35)))]⟩) (by kernel_rfl) (a_seq (a_block (sr (vp (i6 x34) rfl (vp (i6 x33) rfl (vp (i6 a0) rfl ?_))))))))
      obtain ⟨hc45, h⟩ := ifp_some h
      refine vq (i6 (Int.tmod x33 a0)) rfl hc45 (vp (b8 (IntKind.u8.wrap (Int.tmod x33 a0))) rfl ?_)
      obtain ⟨hc46, h⟩ := ifp_some h
      refine vq (.own 5 [x34.toNat] [x34.toNat * 1]) rfl hc46 ?_
      have hs47 : StOk [x34.toNat] (eA64u8 x35) [x34.toNat * 1] 1 (b8 (IntKind.u8.wrap (Int.tmod x33 a0))) (eA64u8 ((vset x35 x34.toNat (IntKind.u8.wrap (Int.tmod x33 a0))))) := (.arr (y := IntKind.u8.wrap (Int.tmod x33 a0)) (vlt x35 hc46) rfl (.nil rfl rfl rfl rfl))
      refine vu .top [(5, (bk (eA64u8 ((vset x35 x34.toNat (IntKind.u8.wrap (Int.tmod x33 a0)))))))] (st_own (i := ⟨.int .u8, 1, 1, (.int .u8 0)⟩) rfl rfl (fun _ => rfl) rfl hs47) (hs47.c rfl) rfl (nx ⟨[(0, (i6 a0)), (1, (i6 x33)), (4, (ow 4)), (5, (ow 5)), (6, (i6 x34))], [(4, (bk (eA64u8 ((vrep 64 (0 : Int)))))), (5, (bk (eA64u8 ((vset x35 x34.toNat (IntKind.u8.wrap (Int.tmod x33 a0)))))))]⟩ (by kernel_rfl) (a_region (vp (i6 x33) rfl (vp (i6 a0) rfl ?_))))
      obtain ⟨hc48, h⟩ := ifp_some h
      refine vq (i6 (IntKind.i64.wrap (Int.tdiv x33 a0))) rfl hc48 (vp (i6 (IntKind.i64.wrap (Int.tdiv x33 a0))) rfl (a_nil (b_norm (a_next (σ' := ⟨[(0, (i6 a0)), (1, (i6 (IntKind.i64.wrap (Int.tdiv x33 a0)))), (4, (ow 4)), (5, (ow 5)), (6, (i6 x34))], [(4, (bk (eA64u8 ((vrep 64 (0 : Int)))))), (5, (bk (eA64u8 ((vset x35 x34.toNat (IntKind.u8.wrap (Int.tmod x33 a0)))))))]⟩) (by kernel_rfl) (a_region (vp (i6 x34) rfl (vp (i6 (IntKind.i64.wrap (x34 + 1))) rfl (vp (i6 (IntKind.i64.wrap (x34 + 1))) rfl (a_nil ?_)))))))))
      cases h
      exact a_again (by kernel_rfl) hX43
def laws_eqPoly_c : ACode := (.seq (.region 0 [q 2 (.box 26 (t 0)), q 3 (.box 26 (t 1)), q 4 (.asg 0 (.const (.bool false)) 4)] false) (.seq (.seq (.region 1 [q 5 (.asg 0 (.const (.int .i64 0)) 3)] false) (.block 0 (.loop (.seq (.seq (.region 2 [q 6 (.mov (t 5)), q 7 (.bin .lss 3 (t 6) (.const (.int .i64 64)))] false) (.cond (t 7) .skip (.exit 0))) (.seq (.block 1 (.seq (.region 4 [q 10 (.mov (t 5)), ⟨some 11, .indexAddr 26 (t 2) (t 10), none, [0]⟩, ⟨some 12, .load 5 (t 11), none, [1]⟩, q 13 (.mov (t 5)), ⟨some 14, .indexAddr 26 (t 3) (t 13), none, [3]⟩, ⟨some 15, .load 5 (t 14), none, [4]⟩, ⟨some 16, .bin .neq 5 (t 12) (t 15), none, [2, 5]⟩] true) (.cond (t 16) (.seq (.region 5 [q 4 (.asg 0 (.const (.bool false)) 4)] false) .ret) .skip))) (.region 3 [q 8 (.mov (t 5)), q 9 (.bin .add 3 (t 8) (.const (.int .i64 1))), q 5 (.asg 0 (t 9) 3)] false)))))) (.seq (.region 6 [q 4 (.asg 0 (.const (.bool true)) 4)] false) .ret)))
def laws_eqPoly_L : Live := [(0, [0, 1]), (1, [2, 3]), (2, [2, 3, 5]), (3, [2, 3, 5]), (4, [2, 3, 5]), (5, []), (6, []), (100007, [2, 3, 5, 7]), (100016, [2, 3, 5, 16])]
noncomputable def laws_eqPoly_l1 (a0 : (Vec Int 64)) (a1 : (Vec Int 64)) (x49 : Int) : Option (Int ⊕ (Unit ⊕ Bool)) :=
  (if (decide (x49 < 64)) then (ifp (0 ≤ x49 ∧ x49 < ((64 : Nat) : Int)) ((ifp (0 ≤ x49 ∧ x49 < ((64 : Nat) : Int)) ((if ((rd a0.1 x49.toNat) != (rd a1.1 x49.toNat)) then (some (.inr (.inr false))) else (some (.inl (IntKind.i64.wrap (x49 + 1))))))))) else (some (.inr (((.inl ()))))))
noncomputable def laws_eqPoly (a0 : (Vec Int 64)) (a1 : (Vec Int 64)) : Option Bool :=
  (Option.bind (α := (Unit ⊕ Bool)) ((loopM (fun s : Int => laws_eqPoly_l1 a0 a1 s) 0)) fun z => match z with | .inl _ => (some true) | .inr r74 => (some r74))
theorem laws_eqPoly_ok (a0 : (Vec Int 64)) (a1 : (Vec Int 64)) (r : Bool) (h : laws_eqPoly a0 a1 = some r) : Den Try.prog 34 [(eA64u8 a0), (eA64u8 a1)] { r := (.bool r) } := by
  refine den_of (rs := [(.bool r)]) (ac := laws_eqPoly_c) (L := laws_eqPoly_L) (n := 17) (m := []) (c := Try.f34.body.getD .skip) good Try.func34 (by kernel_rfl) (by kernel_rfl) Try.ntmps34 rfl rfl (by kernel_rfl) rfl rfl ?_
  refine a_st (σ' := ⟨[(0, (eA64u8 a0)), (1, (eA64u8 a1))], []⟩) (by kernel_rfl) ?_
  unfold laws_eqPoly_c
  refine sr (vo 1200 (eA64u8 a0) rfl rfl (vo 1300 (eA64u8 a1) rfl rfl (vp (.bool false) rfl (nx ⟨[(2, (ow 2)), (3, (ow 3))], [(2, (bk (eA64u8 a0))), (3, (bk (eA64u8 a1)))]⟩ (by kernel_rfl) ?_))))
  obtain ⟨y36, hy37, hk38⟩ := bind_some h
  clear h
  refine a_join (emb := fun (s : Unit) => ⟨[], []⟩) (pre := fun s => (.inl s) = y36) ?_ ?_
  · rintro _ rfl
    have h := hk38
    refine a_st (σ' := ⟨[], []⟩) (by kernel_rfl) (sr (vp (.bool true) rfl (nx _ rfl (a_ret ?_))))
    refine ⟨.inr rfl, ?_⟩
    rw [Try.results34]
    cases h
    exact ⟨_, _, _, _, _, rfl, trivial, .inl ⟨rfl, .inl rfl⟩, rfl, rfl⟩
  · have h := hy37
    refine sr (vp (i6 0) rfl (nx ⟨[(2, (ow 2)), (3, (ow 3)), (5, (i6 0))], [(2, (bk (eA64u8 a0))), (3, (bk (eA64u8 a1)))]⟩ (by kernel_rfl) (a_block ?_)))
    refine a_loop (emb := fun (s : Int) => ⟨[(2, (ow 2)), (3, (ow 3)), (5, (i6 s))], [(2, (bk (eA64u8 a0))), (3, (bk (eA64u8 a1)))]⟩) (body := (fun s : Int => laws_eqPoly_l1 a0 a1 s)) (G := fun q => some q = some y36) h rfl ?_ (by kernel_rfl)
    rintro X60 x49 x61 h hX62
    have h : laws_eqPoly_l1 a0 a1 x49 = some x61 := h
    refine a_st (σ' := ⟨[(2, (ow 2)), (3, (ow 3)), (5, (i6 x49))], [(2, (bk (eA64u8 a0))), (3, (bk (eA64u8 a1)))]⟩) (by kernel_rfl) (a_seq (sr (vp (i6 x49) rfl (vp (.bool ((decide (x49 < 64)))) rfl (nx ⟨[(2, (ow 2)), (3, (ow 3)), (5, (i6 x49)), (7, (.bool ((decide (x49 < 64)))))], [(2, (bk (eA64u8 a0))), (3, (bk (eA64u8 a1)))]⟩ (by kernel_rfl) ?_)))))
    cases hb63 : (decide (x49 < 64))
    · have h := ite_f hb63 h
      refine a_cond_f rfl (a_exit (t_exit ?_))
      cases h
      have h := hX62
      refine t_exit (b_exit ?_)
      exact j_leaf () (Option.some.inj h) (by kernel_rfl)
    · have h := ite_t hb63 h
      refine a_cond_t rfl (a_skip (a_next (σ' := ⟨[(2, (ow 2)), (3, (ow 3)), (5, (i6 x49))], [(2, (bk (eA64u8 a0))), (3, (bk (eA64u8 a1)))]⟩) (by kernel_rfl) (a_seq (a_block (a_seq (a_draw [⟨[], [], [], []⟩, ⟨[2], [], [2], [0]⟩, ⟨[2], [], [], [0, 1]⟩, ⟨[], [], [], []⟩, ⟨[3], [], [3], [3]⟩, ⟨[3], [], [], [3, 4]⟩, ⟨[], [], [], [0, 1, 2, 3, 4, 5]⟩] (by kernel_rfl) (dp (i6 x49) rfl (by kernel_rfl) (d_cons ?_))))))))
      obtain ⟨hc68, h⟩ := ifp_some h
      refine vq (.own 2 [x49.toNat] [x49.toNat * 1]) rfl hc68 (d_next (by kernel_rfl) (d_cons ?_))
      have hl69 : LdOk [x49.toNat] (eA64u8 a0) [x49.toNat * 1] 1 false (b8 (rd a0.1 x49.toNat)) := (.arr (vlt a0 hc68) rfl (.nil rfl rfl rfl))
      refine vq (b8 (rd a0.1 x49.toNat)) (ld_own (i := ⟨.int .u8, 1, 1, (.int .u8 0)⟩) rfl rfl rfl hl69) hl69.c (d_next (by kernel_rfl) (dp (i6 x49) rfl (by kernel_rfl) (d_cons ?_)))
      obtain ⟨hc70, h⟩ := ifp_some h
      refine vq (.own 3 [x49.toNat] [x49.toNat * 1]) rfl hc70 (d_next (by kernel_rfl) (d_cons ?_))
      have hl71 : LdOk [x49.toNat] (eA64u8 a1) [x49.toNat * 1] 1 false (b8 (rd a1.1 x49.toNat)) := (.arr (vlt a1 hc70) rfl (.nil rfl rfl rfl))
      refine vq (b8 (rd a1.1 x49.toNat)) (ld_own (i := ⟨.int .u8, 1, 1, (.int .u8 0)⟩) rfl rfl rfl hl71) hl71.c (d_next (by kernel_rfl) (dp (.bool (((rd a0.1 x49.toNat) != (rd a1.1 x49.toNat)))) rfl (by kernel_rfl) (d_nil (a_next (σ' := ⟨[(2, (ow 2)), (3, (ow 3)), (5, (i6 x49)), (16, (.bool (((rd a0.1 x49.toNat) != (rd a1.1 x49.toNat)))))], [(2, (bk (eA64u8 a0))), (3, (bk (eA64u8 a1)))]⟩) (by kernel_rfl) ?_))))
      cases hb72 : ((rd a0.1 x49.toNat) != (rd a1.1 x49.toNat))
      · have h := ite_f hb72 h
        refine a_cond_f rfl (a_skip (b_norm (a_next (σ' := ⟨[(2, (ow 2)), (3, (ow 3)), (5, (i6 x49))], [(2, (bk (eA64u8 a0))), (3, (bk (eA64u8 a1)))]⟩) (by kernel_rfl) (a_region (vp (i6 x49) rfl (vp (i6 (IntKind.i64.wrap (x49 + 1))) rfl (vp (i6 (IntKind.i64.wrap (x49 + 1))) rfl (a_nil ?_))))))))
        cases h
        exact a_again (by kernel_rfl) hX62
      · have h := ite_t hb72 h
        refine a_cond_t rfl (sr (vp (.bool false) rfl (nx _ rfl (a_ret (b_ret (t_ret ?_))))))
        cases h
        have h := hX62
        refine t_ret (b_ret (t_ret ?_))
        cases h
        have h := hk38
        refine ⟨.inr rfl, ?_⟩
        rw [Try.results34]
        cases h
        exact ⟨_, _, _, _, _, rfl, trivial, .inl ⟨rfl, .inl rfl⟩, rfl, rfl⟩
end Go.Proofs.Ytdhcpekngpndnaa
