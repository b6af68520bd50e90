/- Functions of the program: plain Lean functions, and that the program computes them. Printed by gen.py. -/
import Derived.Test.YtkbnegemdlnncaaFnT
import Derived.Test.YtkbnegemdlnncaaFn1
import Derived.Test.YtkbnegemdlnncaaFn2
import Derived.Test.YtkbnegemdlnncaaFn3
namespace Go.Proofs.Ytkbnegemdlnncaa
open Go.Abs Go.Proofs
set_option linter.unusedSimpArgs false
set_option linter.unusedVariables false
set_option maxHeartbeats 16000000
attribute [local irreducible] Abs.acode Abs.aops Abs.aopsT Abs.thenK Abs.blockK

def impl_PowerOf_c : ACode:=(.seq (.region 0 [q 4 (.box 25 (t 1)),q 6 (.alloc 25),q 7 (.asg 0 (.const (.int .i64 0)) 2)] false) (.seq (.seq (.region 1 [q 11 (.mov (t 0)),q 12 (.load 25 (t 4)),q 13 (.bslice 0 55 1 [(0,t 12)]),q 14 (.call 0 (.func 100) [(t 11),(t 13)]),q 8 (.asg 0 (t 14) 2)] false) (.seq (.region 2 [q 15 (.mov (t 8)),q 16 (.bin .neq 2 (t 15) (.const (.int .i64 0)))] false) (.cond (t 16) (.seq (.region 3 [q 17 (.build 25 []),q 18 (.mov (t 8)),⟨none,.store 25 (t 6) (t 17),none,[]⟩,q 7 (.asg 0 (t 18) 2)] false) .ret) .skip))) (.seq (.region 4 [q 19 (.load 25 (t 4)),q 20 (.call 0 (.func 103) [(t 19)]),q 9 (.asg 1 (t 20) 80)] false) (.seq (.block 0 (.seq (.region 5 [q 22 (.mov (t 2)),q 23 (.call 0 (.func 118) [(t 22)]),q 24 (.un .not (t 23)),q 21 (.asg 0 (t 24) 4)] false) (.cond (t 21) (.seq (.region 6 [q 25 (.build 25 []),⟨none,.store 25 (t 6) (t 25),none,[]⟩,q 7 (.asg 0 (.const (.int .i64 2)) 2)] false) .ret) (.seq (.region 7 [q 27 (.mov (t 9)),q 28 (.call 0 (.func 114) [(t 27)]),q 29 (.bin .gtr 2 (t 28) (.const (.int .i64 0))),q 30 (.mov (t 29)),⟨some 31,.mov (t 2),some (30,true),[]⟩,⟨some 32,.bin .gtr 2 (t 31) (.const (.int .i64 63)),some (30,true),[]⟩,q 33 (.pick (t 30) (t 32) (.const (.bool false))),q 26 (.asg 0 (t 33) 4)] false) (.cond (t 26) (.seq (.region 8 [q 34 (.build 25 []),⟨none,.store 25 (t 6) (t 34),none,[]⟩,q 7 (.asg 0 (.const (.int .i64 3)) 2)] false) .ret) (.seq (.region 9 [q 36 (.mov (t 9)),q 37 (.call 0 (.func 114) [(t 36)]),q 38 (.bin .leq 2 (t 37) (.const (.int .i64 0))),q 35 (.asg 0 (t 38) 4)] false) (.cond (t 35) (.seq (.region 10 [q 39 (.mov (t 0)),q 40 (.mov (t 9)),q 41 (.mov (t 2)),q 42 (.bslice 0 80 2 [(0,.const (.int .i64 0)),(1,.const (.int .i64 1))]),q 43 (.call 0 (.func 134) [(t 39),(t 40),(t 41),(t 42)]),q 44 (.call 0 (.func 101) [(t 43)]),q 45 (.extract (t 44) 0),q 46 (.extract (t 44) 1),⟨none,.store 25 (t 6) (t 45),none,[]⟩,q 7 (.asg 0 (t 46) 2)] false) .ret) .skip))))))) (.seq (.region 11 [q 47 (.bslice 0 80 1 [(0,.const (.int .i64 1))]),q 10 (.asg 1 (t 47) 80)] false) (.seq (.seq (.region 12 [q 48 (.mov (t 2)),q 49 (.mov (.const (.int .i64 0)))] false) (.block 1 (.loop (.seq (.region 13 [q 50 (.bin .lss 2 (t 49) (t 48))] false) (.seq (.cond (t 50) .skip (.exit 1)) (.seq (.block 2 (.seq (.region 14 [q 51 (.mov (t 0)),q 52 (.mov (t 10)),q 53 (.mov (t 9)),q 54 (.call 0 (.func 102) [(t 51),(t 52),(t 53)]),q 10 (.asg 1 (t 54) 80)] false) (.seq (.region 15 [q 55 (.mov (t 10)),q 56 (.call 0 (.func 135) [(t 55)]),q 57 (.un .not (t 56))] false) (.cond (t 57) (.seq (.region 16 [q 58 (.build 25 []),⟨none,.store 25 (t 6) (t 58),none,[]⟩,q 7 (.asg 0 (.const (.int .i64 3)) 2)] false) .ret) .skip)))) (.region 17 [q 59 (.bin .add 2 (t 49) (.const (.int .i64 1))),q 49 (.mov (t 59))] false))))))) (.seq (.region 18 [q 60 (.mov (t 10)),q 61 (.call 0 (.func 101) [(t 60)]),q 62 (.extract (t 61) 0),q 63 (.extract (t 61) 1),⟨none,.store 25 (t 6) (t 62),none,[]⟩,q 7 (.asg 0 (t 63) 2)] false) .ret)))))))
def impl_PowerOf_L : Live:=[(0,[0,1,2]),(1,[0,2,4,6]),(2,[0,2,4,6,8]),(3,[6,8]),(4,[0,2,4,6]),(5,[0,2,6,9]),(6,[6]),(7,[0,2,6,9]),(8,[6]),(9,[0,2,6,9]),(10,[0,2,6,9]),(11,[0,2,6,9]),(12,[0,2,6,9,10]),(13,[0,6,9,10,48,49]),(14,[0,6,9,10,48,49]),(15,[0,6,9,10,48,49]),(16,[6]),(17,[0,6,9,10,48,49]),(18,[6,10]),(100016,[0,2,4,6,8,16]),(100021,[0,2,6,9,21]),(100026,[0,2,6,9,26]),(100035,[0,2,6,9,35]),(100050,[0,6,9,10,48,49,50]),(100057,[0,6,9,10,48,49,57])]
noncomputable def impl_PowerOf_l1 (a2 : Int) (a0 : Int) (r6 : (List Int)) (x63 : (List Int)) (x64 : Int) : Option (((List Int) × Int) ⊕ ((List Int) ⊕ ((Vec Int 64) × Int))) :=
 (if (decide (x64 < a2)) then (Option.bind (impl_prime_times a0 x63 r6) fun r76=>(Option.bind (impl_row_fits r76) fun r78=>(if (!r78) then (some (.inr ((.inr (((vrep 64 (0 : Int)),3)))))) else (some (.inl ((r76,IntKind.i64.wrap (x64 + 1)))))))) else (some (.inr (.inl x63))))
noncomputable def impl_PowerOf (a0 : Int) (a1 : (Vec Int 64)) (a2 : Int) : Option ((Vec Int 64) × Int) :=
 (Option.bind (impl_polysCode a0 ([a1])) fun r2=>(if (r2 != 0) then (some (((vrep 64 (0 : Int)),r2))) else (Option.bind (impl_rowOf a1) fun r6=>(Option.bind (impl_isNumber a2) fun r8=>(if (!r8) then (some (((vrep 64 (0 : Int)),2))) else (Option.bind (α:=Bool) ((Option.bind (impl_row_degree r6) fun r18=>(if (decide (r18 > 0)) then (some ((decide (a2 > 63)))) else (some false)))) fun x14=>(if x14 then (some (((vrep 64 (0 : Int)),3))) else (Option.bind (impl_row_degree r6) fun r22=>(if (decide (r22 ≤ 0)) then (Option.bind (impl_prime_power a0 r6 a2 ([0,1])) fun r89=>(Option.bind (impl_told r89) fun r91=>(some (r91.1,r91.2)))) else (Option.bind (α:=((List Int) ⊕ ((Vec Int 64) × Int))) ((loopM (fun s : ((List Int) × Int)=>impl_PowerOf_l1 a2 a0 r6 s.1 s.2) ([1],0))) fun z=>match z with | .inl x52=>(Option.bind (impl_told x52) fun r84=>(some (r84.1,r84.2))) | .inr r88=>(some r88)))))))))))
theorem impl_PowerOf_ok (a0 : Int) (a1 : (Vec Int 64)) (a2 : Int) (r : ((Vec Int 64) × Int)) (h : impl_PowerOf a0 a1 a2 = some r) : Den Try.prog 40 [(i6 a0),(eVb a1),(i6 a2)] { r:=(.tuple [(eVb r.1),(i6 r.2)]) }:=by
 refine den_of (rs:=[(eVb r.1),(i6 r.2)]) (ac:=impl_PowerOf_c) (L:=impl_PowerOf_L) (n:=64) (m:=[(9,1),(10,1)]) (c:=Try.f40.body.getD .skip) good Try.func40 (by kernel_rfl) (by kernel_rfl) Try.ntmps40 rfl rfl (by kernel_rfl) rfl rfl ?_
 refine ns ⟨[(0,i6 a0),(1,eVb a1),(2,i6 a2)],[]⟩ ?_
 unfold impl_PowerOf_c
 refine sr (vo 1400 (eVb a1) rfl rfl (vo 1600 (eVb ((vrep 64 (0 : Int)))) rfl rfl (vp (i6 0) rfl (nk ⟨[(0,i6 a0),(2,i6 a2),(4,ow 4),(6,ow 6)],[(4,bk (eVb a1)),(6,bk (eVb ((vrep 64 (0 : Int)))))]⟩ (a_seq (sr (vp (i6 a0) rfl (vl (eVb a1) rfl rfl rfl rfl rfl rfl (vq (.sl 64 true (([a1]).map eVb)) rfl ⟨(Nat.le_of_ble_eq_true rfl),(Nat.le_of_ble_eq_true rfl),(all_cons ⟨(Nat.le_of_ble_eq_true rfl),rfl⟩ all_nil)⟩ ?_)))))))))
 obtain ⟨r2,hr3,h⟩:=bind_some h
 refine a_call (args:=[(i6 a0),(.sl 64 true (([a1]).map eVb))]) (u:=[]) (r:=(i6 r2)) rfl rfl (Den.args (impl_polysCode_ok a0 ([a1]) r2 hr3) rfl rfl (.cons (.refl _) (.cons (.loose _) .nil))) rfl (vp (i6 r2) rfl (nk ⟨[(0,i6 a0),(2,i6 a2),(4,ow 4),(6,ow 6),(8,i6 r2)],[(4,bk (eVb a1)),(6,bk (eVb ((vrep 64 (0 : Int)))))]⟩ (sr (vp (i6 r2) rfl (vp (.bool (r2 != 0)) rfl (nk ⟨[(0,i6 a0),(2,i6 a2),(4,ow 4),(6,ow 6),(8,i6 r2),(16,.bool (r2 != 0))],[(4,bk (eVb a1)),(6,bk (eVb ((vrep 64 (0 : Int)))))]⟩ ?_))))))
 cases hb4 : (r2 != 0)
 ·have h:=ite_f hb4 h
  refine a_cond_f rfl (a_skip (nj ⟨[(0,i6 a0),(2,i6 a2),(4,ow 4),(6,ow 6)],[(4,bk (eVb a1)),(6,bk (eVb ((vrep 64 (0 : Int)))))]⟩ (sr (vl (eVb a1) rfl rfl rfl rfl rfl rfl ?_))))
  obtain ⟨r6,hr7,h⟩:=bind_some h
  refine a_call (args:=[(eVb a1)]) (u:=[]) (r:=(eSi64 r6)) rfl rfl (impl_rowOf_ok a1 r6 hr7) rfl (vp (eSi64 r6) rfl (nk ⟨[(0,i6 a0),(2,i6 a2),(6,ow 6),(9,eSi64 r6)],[(6,bk (eVb ((vrep 64 (0 : Int)))))]⟩ (a_seq (a_block (sr (vp (i6 a2) rfl ?_))))))
  obtain ⟨r8,hr9,h⟩:=bind_some h
  refine a_call (args:=[(i6 a2)]) (u:=[]) (r:=(.bool r8)) rfl rfl (impl_isNumber_ok a2 r8 hr9) rfl (vp (.bool (!r8)) rfl (vp (.bool (!r8)) rfl (nk ⟨[(0,i6 a0),(2,i6 a2),(6,ow 6),(9,eSi64 r6),(21,.bool (!r8))],[(6,bk (eVb ((vrep 64 (0 : Int)))))]⟩ ?_)))
  cases hb10 : (!r8)
  ·have h:=ite_f hb10 h
   refine a_cond_f rfl ?_
   obtain ⟨y15,hy16,hk17⟩:=bind_some h
   clear h
   refine a_join (emb:=fun (s : Bool)=>⟨[(0,i6 a0),(2,i6 a2),(6,ow 6),(9,eSi64 r6),(26,.bool s)],[(6,bk (eVb ((vrep 64 (0 : Int)))))]⟩) (pre:=fun s=>s = y15) ?_ ?_
   ·rintro x14 rfl
    have h:=hk17
    refine ns ⟨[(0,i6 a0),(2,i6 a2),(6,ow 6),(9,eSi64 r6),(26,.bool x14)],[(6,bk (eVb ((vrep 64 (0 : Int)))))]⟩ ?_
    cases hb21 : x14
    ·have h:=ite_f hb21 h
     refine a_cond_f rfl (sr (vp (eSi64 r6) rfl ?_))
     obtain ⟨r22,hr23,h⟩:=bind_some h
     refine a_call (args:=[(eSi64 r6)]) (u:=[]) (r:=(i6 r22)) rfl rfl (impl_row_degree_ok r6 r22 hr23) rfl (vp (.bool ((decide (r22 ≤ 0)))) rfl (vp (.bool ((decide (r22 ≤ 0)))) rfl (nk ⟨[(0,i6 a0),(2,i6 a2),(6,ow 6),(9,eSi64 r6),(35,.bool ((decide (r22 ≤ 0))))],[(6,bk (eVb ((vrep 64 (0 : Int)))))]⟩ ?_)))
     cases hb24 : (decide (r22 ≤ 0))
     ·have h:=ite_f hb24 h
      refine a_cond_f rfl (a_skip (b_norm (nj ⟨[(0,i6 a0),(2,i6 a2),(6,ow 6),(9,eSi64 r6)],[(6,bk (eVb ((vrep 64 (0 : Int)))))]⟩ (sr (vq (.sl 1 true (([1]).map (AV.int .i64))) rfl ⟨(Nat.le_of_ble_eq_true rfl),(Nat.le_of_ble_eq_true rfl),(all_cons ⟨(Nat.le_of_ble_eq_true rfl),rfl⟩ all_nil)⟩ (vq (eSi64 ([1])) (asg_tight (i:=⟨.int .i64,1,8,(.int .i64 0)⟩) (f:=(AV.int .i64)) (l:=[1]) rfl rfl rfl) trivial (nk ⟨[(0,i6 a0),(2,i6 a2),(6,ow 6),(9,eSi64 r6),(10,eSi64 ([1]))],[(6,bk (eVb ((vrep 64 (0 : Int)))))]⟩ ?_)))))))
      obtain ⟨y53,hy54,hk55⟩:=bind_some h
      clear h
      refine a_join (emb:=fun (s : (List Int))=>⟨[(6,ow 6),(10,eSi64 s)],[(6,bk (eVb ((vrep 64 (0 : Int)))))]⟩) (pre:=fun s=>(.inl s) = y53) ?_ ?_
      ·rintro x52 rfl
       have h:=hk55
       refine ns ⟨[(6,ow 6),(10,eSi64 x52)],[(6,bk (eVb ((vrep 64 (0 : Int)))))]⟩ (sr (vp (eSi64 x52) rfl ?_))
       obtain ⟨r84,hr85,h⟩:=bind_some h
       refine a_call (args:=[(eSi64 x52)]) (u:=[]) (r:=(.tuple [(eVb r84.1),(i6 r84.2)])) rfl rfl (impl_told_ok x52 r84 hr85) rfl (vb (eVb r84.1) rfl rfl (vb (i6 r84.2) rfl rfl (vs (eVb r84.1) rfl rfl (fun _=>rfl) rfl rfl rfl rfl rfl rfl (vp (i6 r84.2) rfl (nx _ rfl (a_ret ?_))))))
       have hl87 : LdOk [] (eVb r84.1) [] 64 true (eVb r84.1):=(.nil rfl rfl rfl)
       refine ⟨.inr rfl,?_⟩
       rw [Try.results40]
       cases h
       exact ⟨_,_,_,_,_,ld_own (i:=⟨.arr 64 5,64,64,(eVb (vrep 64 (0 : Int)))⟩) rfl rfl rfl hl87,hl87.c,.inl ⟨rfl,.inl rfl⟩,rfl,⟨_,_,_,_,_,rfl,trivial,.inl ⟨rfl,.inl rfl⟩,rfl,rfl⟩⟩
      ·have h:=hy54
       refine sr (vp (i6 a2) rfl (vp (i6 0) rfl (nk ⟨[(0,i6 a0),(6,ow 6),(9,eSi64 r6),(10,eSi64 ([1])),(48,i6 a2),(49,i6 0)],[(6,bk (eVb ((vrep 64 (0 : Int)))))]⟩ (a_block ?_))))
       refine a_loop (emb:=fun (s : ((List Int) × Int))=>⟨[(0,i6 a0),(6,ow 6),(9,eSi64 r6),(10,eSi64 s.1),(48,i6 a2),(49,i6 s.2)],[(6,bk (eVb ((vrep 64 (0 : Int)))))]⟩) (body:=(fun s : ((List Int) × Int)=>impl_PowerOf_l1 a2 a0 r6 s.1 s.2)) (G:=fun q=>some q = some y53) h rfl ?_ (by kernel_rfl)
       rintro X72 ⟨x63,x64⟩ x73 h hX74
       have h : impl_PowerOf_l1 a2 a0 r6 x63 x64 = some x73:=h
       refine ns ⟨[(0,i6 a0),(6,ow 6),(9,eSi64 r6),(10,eSi64 x63),(48,i6 a2),(49,i6 x64)],[(6,bk (eVb ((vrep 64 (0 : Int)))))]⟩ (sr (vp (.bool ((decide (x64 < a2)))) rfl (nk ⟨[(0,i6 a0),(6,ow 6),(9,eSi64 r6),(10,eSi64 x63),(48,i6 a2),(49,i6 x64),(50,.bool ((decide (x64 < a2))))],[(6,bk (eVb ((vrep 64 (0 : Int)))))]⟩ (a_seq ?_))))
       cases hb75 : (decide (x64 < a2))
       ·have h:=ite_f hb75 h
        refine a_cond_f rfl (a_exit (t_exit ?_))
        cases h
        have h:=hX74
        refine t_exit (b_exit ?_)
        exact j_leaf x63 (Option.some.inj h) (by kernel_rfl)
       ·have h:=ite_t hb75 h
        refine a_cond_t rfl (a_skip (nj ⟨[(0,i6 a0),(6,ow 6),(9,eSi64 r6),(10,eSi64 x63),(48,i6 a2),(49,i6 x64)],[(6,bk (eVb ((vrep 64 (0 : Int)))))]⟩ (a_seq (a_block (sr (vp (i6 a0) rfl (vp (eSi64 x63) rfl (vp (eSi64 r6) rfl ?_))))))))
        obtain ⟨r76,hr77,h⟩:=bind_some h
        refine a_call (args:=[(i6 a0),(eSi64 x63),(eSi64 r6)]) (u:=[]) (r:=(eSi64 r76)) rfl rfl (impl_prime_times_ok a0 x63 r6 r76 hr77) rfl (vp (eSi64 r76) rfl (nk ⟨[(0,i6 a0),(6,ow 6),(9,eSi64 r6),(10,eSi64 r76),(48,i6 a2),(49,i6 x64)],[(6,bk (eVb ((vrep 64 (0 : Int)))))]⟩ (sr (vp (eSi64 r76) rfl ?_))))
        obtain ⟨r78,hr79,h⟩:=bind_some h
        refine a_call (args:=[(eSi64 r76)]) (u:=[]) (r:=(.bool r78)) rfl rfl (impl_row_fits_ok r76 r78 hr79) rfl (vp (.bool (!r78)) rfl (nk ⟨[(0,i6 a0),(6,ow 6),(9,eSi64 r6),(10,eSi64 r76),(48,i6 a2),(49,i6 x64),(57,.bool (!r78))],[(6,bk (eVb ((vrep 64 (0 : Int)))))]⟩ ?_))
        cases hb80 : (!r78)
        ·have h:=ite_f hb80 h
         refine a_cond_f rfl (a_skip (b_norm (nj ⟨[(0,i6 a0),(6,ow 6),(9,eSi64 r6),(10,eSi64 r76),(48,i6 a2),(49,i6 x64)],[(6,bk (eVb ((vrep 64 (0 : Int)))))]⟩ (a_region (vp (i6 (IntKind.i64.wrap (x64 + 1))) rfl (vp (i6 (IntKind.i64.wrap (x64 + 1))) rfl (a_nil ?_)))))))
         cases h
         exact a_again (by kernel_rfl) hX74
        ·have h:=ite_t hb80 h
         refine a_cond_t rfl (sr (vq (eVb ((vrep 64 (0 : Int)))) rfl ⟨⟨_,rfl,rfl⟩,all_nil⟩ (vs (eVb ((vrep 64 (0 : Int)))) rfl rfl (fun _=>rfl) rfl rfl rfl rfl rfl rfl (vp (i6 3) rfl (nx _ rfl (a_ret (b_ret (t_ret ?_))))))))
         cases h
         have h:=hX74
         refine t_ret (b_ret (t_ret ?_))
         cases h
         have h:=hk55
         have hl82 : LdOk [] (eVb ((vrep 64 (0 : Int)))) [] 64 true (eVb ((vrep 64 (0 : Int)))):=(.nil rfl rfl rfl)
         refine ⟨.inr rfl,?_⟩
         rw [Try.results40]
         cases h
         exact ⟨_,_,_,_,_,ld_own (i:=⟨.arr 64 5,64,64,(eVb (vrep 64 (0 : Int)))⟩) rfl rfl rfl hl82,hl82.c,.inl ⟨rfl,.inl rfl⟩,rfl,⟨_,_,_,_,_,rfl,trivial,.inl ⟨rfl,.inl rfl⟩,rfl,rfl⟩⟩
     ·have h:=ite_t hb24 h
      refine a_cond_t rfl (sr (vp (i6 a0) rfl (vp (eSi64 r6) rfl (vp (i6 a2) rfl (vq (.sl 1 true (([0,1]).map (AV.int .i64))) rfl ⟨(Nat.le_of_ble_eq_true rfl),(Nat.le_of_ble_eq_true rfl),(all_cons ⟨(Nat.le_of_ble_eq_true rfl),rfl⟩ (all_cons ⟨(Nat.le_of_ble_eq_true rfl),rfl⟩ all_nil))⟩ ?_)))))
      obtain ⟨r89,hr90,h⟩:=bind_some h
      refine a_call (args:=[(i6 a0),(eSi64 r6),(i6 a2),(.sl 1 true (([0,1]).map (AV.int .i64)))]) (u:=[]) (r:=(eSi64 r89)) rfl rfl (Den.args (impl_prime_power_ok a0 r6 a2 ([0,1]) r89 hr90) rfl rfl (.cons (.refl _) (.cons (.refl _) (.cons (.refl _) (.cons (.loose _) .nil))))) rfl ?_
      obtain ⟨r91,hr92,h⟩:=bind_some h
      refine a_call (args:=[(eSi64 r89)]) (u:=[]) (r:=(.tuple [(eVb r91.1),(i6 r91.2)])) rfl rfl (impl_told_ok r89 r91 hr92) rfl (vb (eVb r91.1) rfl rfl (vb (i6 r91.2) rfl rfl (vs (eVb r91.1) rfl rfl (fun _=>rfl) rfl rfl rfl rfl rfl rfl (vp (i6 r91.2) rfl (nx _ rfl (a_ret (b_ret (t_ret ?_))))))))
      have hl94 : LdOk [] (eVb r91.1) [] 64 true (eVb r91.1):=(.nil rfl rfl rfl)
      refine ⟨.inr rfl,?_⟩
      rw [Try.results40]
      cases h
      exact ⟨_,_,_,_,_,ld_own (i:=⟨.arr 64 5,64,64,(eVb (vrep 64 (0 : Int)))⟩) rfl rfl rfl hl94,hl94.c,.inl ⟨rfl,.inl rfl⟩,rfl,⟨_,_,_,_,_,rfl,trivial,.inl ⟨rfl,.inl rfl⟩,rfl,rfl⟩⟩
    ·have h:=ite_t hb21 h
     refine a_cond_t rfl (sr (vq (eVb ((vrep 64 (0 : Int)))) rfl ⟨⟨_,rfl,rfl⟩,all_nil⟩ (vs (eVb ((vrep 64 (0 : Int)))) rfl rfl (fun _=>rfl) rfl rfl rfl rfl rfl rfl (vp (i6 3) rfl (nx _ rfl (a_ret (b_ret (t_ret ?_))))))))
     have hl96 : LdOk [] (eVb ((vrep 64 (0 : Int)))) [] 64 true (eVb ((vrep 64 (0 : Int)))):=(.nil rfl rfl rfl)
     refine ⟨.inr rfl,?_⟩
     rw [Try.results40]
     cases h
     exact ⟨_,_,_,_,_,ld_own (i:=⟨.arr 64 5,64,64,(eVb (vrep 64 (0 : Int)))⟩) rfl rfl rfl hl96,hl96.c,.inl ⟨rfl,.inl rfl⟩,rfl,⟨_,_,_,_,_,rfl,trivial,.inl ⟨rfl,.inl rfl⟩,rfl,rfl⟩⟩
   ·have h:=hy16
    refine a_region (vp (eSi64 r6) rfl ?_)
    obtain ⟨r18,hr19,h⟩:=bind_some h
    refine a_call (args:=[(eSi64 r6)]) (u:=[]) (r:=(i6 r18)) rfl rfl (impl_row_degree_ok r6 r18 hr19) rfl (vp (.bool ((decide (r18 > 0)))) rfl (vp (.bool ((decide (r18 > 0)))) rfl ?_))
    cases hb20 : (decide (r18 > 0))
    ·have h:=ite_f hb20 h
     refine a_gskip rfl (a_gskip rfl (vp (.bool false) rfl (vp (.bool false) rfl (a_nil ?_))))
     exact j_leaf false (Option.some.inj h) (by kernel_rfl)
    ·have h:=ite_t hb20 h
     refine gp (i6 a2) rfl rfl (gp (.bool ((decide (a2 > 63)))) rfl rfl (vp (.bool ((decide (a2 > 63)))) rfl (vp (.bool ((decide (a2 > 63)))) rfl (a_nil ?_))))
     exact j_leaf ((decide (a2 > 63))) (Option.some.inj h) (by kernel_rfl)
  ·have h:=ite_t hb10 h
   refine a_cond_t rfl (sr (vq (eVb ((vrep 64 (0 : Int)))) rfl ⟨⟨_,rfl,rfl⟩,all_nil⟩ (vs (eVb ((vrep 64 (0 : Int)))) rfl rfl (fun _=>rfl) rfl rfl rfl rfl rfl rfl (vp (i6 2) rfl (nx _ rfl (a_ret (b_ret (t_ret ?_))))))))
   have hl98 : LdOk [] (eVb ((vrep 64 (0 : Int)))) [] 64 true (eVb ((vrep 64 (0 : Int)))):=(.nil rfl rfl rfl)
   refine ⟨.inr rfl,?_⟩
   rw [Try.results40]
   cases h
   exact ⟨_,_,_,_,_,ld_own (i:=⟨.arr 64 5,64,64,(eVb (vrep 64 (0 : Int)))⟩) rfl rfl rfl hl98,hl98.c,.inl ⟨rfl,.inl rfl⟩,rfl,⟨_,_,_,_,_,rfl,trivial,.inl ⟨rfl,.inl rfl⟩,rfl,rfl⟩⟩
 ·have h:=ite_t hb4 h
  refine a_cond_t rfl (sr (vq (eVb ((vrep 64 (0 : Int)))) rfl ⟨⟨_,rfl,rfl⟩,all_nil⟩ (vp (i6 r2) rfl (vs (eVb ((vrep 64 (0 : Int)))) rfl rfl (fun _=>rfl) rfl rfl rfl rfl rfl rfl (vp (i6 r2) rfl (nx _ rfl (a_ret (t_ret ?_))))))))
  have hl100 : LdOk [] (eVb ((vrep 64 (0 : Int)))) [] 64 true (eVb ((vrep 64 (0 : Int)))):=(.nil rfl rfl rfl)
  refine ⟨.inr rfl,?_⟩
  rw [Try.results40]
  cases h
  exact ⟨_,_,_,_,_,ld_own (i:=⟨.arr 64 5,64,64,(eVb (vrep 64 (0 : Int)))⟩) rfl rfl rfl hl100,hl100.c,.inl ⟨rfl,.inl rfl⟩,rfl,⟨_,_,_,_,_,rfl,trivial,.inl ⟨rfl,.inl rfl⟩,rfl,rfl⟩⟩
def impl_DividePolys_c : ACode:=(.seq (.region 0 [q 4 (.box 25 (t 1)),q 5 (.box 25 (t 2)),q 6 (.alloc 25),q 7 (.alloc 25),q 8 (.asg 0 (.const (.int .i64 0)) 2)] false) (.seq (.seq (.region 1 [q 12 (.mov (t 0)),q 13 (.load 25 (t 4)),q 14 (.load 25 (t 5)),q 15 (.bslice 0 55 2 [(0,t 13),(1,t 14)]),q 16 (.call 0 (.func 100) [(t 12),(t 15)]),q 9 (.asg 0 (t 16) 2)] false) (.seq (.region 2 [q 17 (.mov (t 9)),q 18 (.bin .neq 2 (t 17) (.const (.int .i64 0)))] false) (.cond (t 18) (.seq (.region 3 [q 19 (.build 25 []),q 20 (.build 25 []),q 21 (.mov (t 9)),⟨none,.store 25 (t 6) (t 19),none,[]⟩,⟨none,.store 25 (t 7) (t 20),none,[]⟩,q 8 (.asg 0 (t 21) 2)] false) .ret) .skip))) (.seq (.seq (.region 4 [q 22 (.load 25 (t 5)),q 23 (.build 25 []),q 24 (.bin .eql 25 (t 22) (t 23))] false) (.cond (t 24) (.seq (.region 5 [q 25 (.build 25 []),q 26 (.build 25 []),⟨none,.store 25 (t 6) (t 25),none,[]⟩,⟨none,.store 25 (t 7) (t 26),none,[]⟩,q 8 (.asg 0 (.const (.int .i64 5)) 2)] false) .ret) .skip)) (.seq (.region 6 [q 28 (.mov (t 0)),q 29 (.load 25 (t 4)),⟨some 30,.call 0 (.func 103) [(t 29)],none,[1]⟩,q 31 (.load 25 (t 5)),⟨some 32,.call 0 (.func 103) [(t 31)],none,[3,2]⟩,⟨some 33,.call 0 (.func 110) [(t 28),(t 30),(t 32)],none,[0,2,4,4]⟩,⟨some 27,.mov (t 33),none,[5]⟩,⟨some 34,.extract (t 27) 0,none,[6]⟩,⟨some 35,.extract (t 27) 1,none,[6]⟩,⟨some 10,.asg 1 (t 34) 80,none,[7,5,0,1,2,3,4,5,6,7]⟩,⟨some 11,.asg 1 (t 35) 80,none,[8,9,0,1,2,3,4,5,6,7,8,9]⟩] true) (.seq (.region 7 [q 36 (.mov (t 10)),q 37 (.call 0 (.func 111) [(t 36)]),q 38 (.mov (t 11)),q 39 (.call 0 (.func 111) [(t 38)]),⟨none,.store 25 (t 6) (t 37),none,[]⟩,⟨none,.store 25 (t 7) (t 39),none,[]⟩,q 8 (.asg 0 (.const (.int .i64 0)) 2)] false) .ret)))))
def impl_DividePolys_L : Live:=[(0,[0,1,2]),(1,[0,4,5,6,7]),(2,[0,4,5,6,7,9]),(3,[6,7,9]),(4,[0,4,5,6,7]),(5,[6,7]),(6,[0,4,5,6,7]),(7,[6,7,10,11]),(100018,[0,4,5,6,7,9,18]),(100024,[0,4,5,6,7,24])]
noncomputable def impl_DividePolys (a0 : Int) (a1 : (Vec Int 64)) (a2 : (Vec Int 64)) : Option ((Vec Int 64) × (Vec Int 64) × Int) :=
 (Option.bind (impl_polysCode a0 ([a1,a2])) fun r3=>(if (r3 != 0) then (some (((vrep 64 (0 : Int)),(vrep 64 (0 : Int)),r3))) else (if (decide (a2 = ((vrep 64 (0 : Int))))) then (some (((vrep 64 (0 : Int)),(vrep 64 (0 : Int)),5))) else (Option.bind (impl_rowOf a1) fun r17=>(Option.bind (impl_rowOf a2) fun r20=>(Option.bind (impl_prime_divide a0 r17 r20) fun r22=>(Option.bind (impl_row_poly r22.1) fun r24=>(Option.bind (impl_row_poly r22.2) fun r26=>(some (r24,r26,0))))))))))
theorem impl_DividePolys_ok (a0 : Int) (a1 : (Vec Int 64)) (a2 : (Vec Int 64)) (r : ((Vec Int 64) × (Vec Int 64) × Int)) (h : impl_DividePolys a0 a1 a2 = some r) : Den Try.prog 19 [(i6 a0),(eVb a1),(eVb a2)] { r:=(.tuple [(eVb r.1),(eVb r.2.1),(i6 r.2.2)]) }:=by
 refine den_of (rs:=[(eVb r.1),(eVb r.2.1),(i6 r.2.2)]) (ac:=impl_DividePolys_c) (L:=impl_DividePolys_L) (n:=40) (m:=[(10,1),(11,1)]) (c:=Try.f19.body.getD .skip) good Try.func19 (by kernel_rfl) (by kernel_rfl) Try.ntmps19 rfl rfl (by kernel_rfl) rfl rfl ?_
 refine ns ⟨[(0,i6 a0),(1,eVb a1),(2,eVb a2)],[]⟩ ?_
 unfold impl_DividePolys_c
 refine sr (vo 1400 (eVb a1) rfl rfl (vo 1500 (eVb a2) rfl rfl (vo 1600 (eVb ((vrep 64 (0 : Int)))) rfl rfl (vo 1700 (eVb ((vrep 64 (0 : Int)))) rfl rfl (vp (i6 0) rfl (nk ⟨[(0,i6 a0),(4,ow 4),(5,ow 5),(6,ow 6),(7,ow 7)],[(4,bk (eVb a1)),(5,bk (eVb a2)),(6,bk (eVb ((vrep 64 (0 : Int))))),(7,bk (eVb ((vrep 64 (0 : Int)))))]⟩ (a_seq (sr (vp (i6 a0) rfl ?_)))))))))
 refine vl (eVb a1) rfl rfl rfl rfl rfl rfl (vl (eVb a2) rfl rfl rfl rfl rfl rfl (vq (.sl 64 true (([a1,a2]).map eVb)) rfl ⟨(Nat.le_of_ble_eq_true rfl),(Nat.le_of_ble_eq_true rfl),(all_cons ⟨(Nat.le_of_ble_eq_true rfl),rfl⟩ (all_cons ⟨(Nat.le_of_ble_eq_true rfl),rfl⟩ all_nil))⟩ ?_))
 obtain ⟨r3,hr4,h⟩:=bind_some h
 refine a_call (args:=[(i6 a0),(.sl 64 true (([a1,a2]).map eVb))]) (u:=[]) (r:=(i6 r3)) rfl rfl (Den.args (impl_polysCode_ok a0 ([a1,a2]) r3 hr4) rfl rfl (.cons (.refl _) (.cons (.loose _) .nil))) rfl (vp (i6 r3) rfl (nk ⟨[(0,i6 a0),(4,ow 4),(5,ow 5),(6,ow 6),(7,ow 7),(9,i6 r3)],[(4,bk (eVb a1)),(5,bk (eVb a2)),(6,bk (eVb ((vrep 64 (0 : Int))))),(7,bk (eVb ((vrep 64 (0 : Int)))))]⟩ (sr (vp (i6 r3) rfl (vp (.bool (r3 != 0)) rfl (nk ⟨[(0,i6 a0),(4,ow 4),(5,ow 5),(6,ow 6),(7,ow 7),(9,i6 r3),(18,.bool (r3 != 0))],[(4,bk (eVb a1)),(5,bk (eVb a2)),(6,bk (eVb ((vrep 64 (0 : Int))))),(7,bk (eVb ((vrep 64 (0 : Int)))))]⟩ ?_))))))
 cases hb5 : (r3 != 0)
 ·have h:=ite_f hb5 h
  refine a_cond_f rfl (a_skip (nj ⟨[(0,i6 a0),(4,ow 4),(5,ow 5),(6,ow 6),(7,ow 7)],[(4,bk (eVb a1)),(5,bk (eVb a2)),(6,bk (eVb ((vrep 64 (0 : Int))))),(7,bk (eVb ((vrep 64 (0 : Int)))))]⟩ (a_seq (sr (vl (eVb a2) rfl rfl rfl rfl rfl rfl (vq (eVb ((vrep 64 (0 : Int)))) rfl ⟨⟨_,rfl,rfl⟩,all_nil⟩ (vq (.bool ((decide (a2 = ((vrep 64 (0 : Int))))))) (eqa_run (f:=(AV.int .u8)) (a:=a2.1) (b:=((vrep 64 (0 : Int))).1) rfl rfl (eqb_vec (fun _ _=>eqb_int _ _) a2 ((vrep 64 (0 : Int))))) (cmp_arr (g:=8) (f:=(AV.int .u8)) (x:=a2) (y:=((vrep 64 (0 : Int)))) rfl rfl rfl (fun _ _=>rfl) (fun _ _=>cmp_int rfl)) (nk ⟨[(0,i6 a0),(4,ow 4),(5,ow 5),(6,ow 6),(7,ow 7),(24,.bool ((decide (a2 = ((vrep 64 (0 : Int)))))))],[(4,bk (eVb a1)),(5,bk (eVb a2)),(6,bk (eVb ((vrep 64 (0 : Int))))),(7,bk (eVb ((vrep 64 (0 : Int)))))]⟩ ?_))))))))
  cases hb7 : (decide (a2 = ((vrep 64 (0 : Int)))))
  ·have h:=ite_f hb7 h
   refine a_cond_f rfl (a_skip (nj ⟨[(0,i6 a0),(4,ow 4),(5,ow 5),(6,ow 6),(7,ow 7)],[(4,bk (eVb a1)),(5,bk (eVb a2)),(6,bk (eVb ((vrep 64 (0 : Int))))),(7,bk (eVb ((vrep 64 (0 : Int)))))]⟩ (a_seq (a_draw [⟨[],[],[],[]⟩,⟨[4],[],[],[]⟩,⟨[],[],[],[1]⟩,⟨[5],[],[],[]⟩,⟨[],[],[],[1,2,3]⟩,⟨[],[],[],[0,1,2,3,4]⟩,⟨[],[],[],[0,1,2,3,4,5]⟩,⟨[],[],[],[0,1,2,3,4,5,6]⟩,⟨[],[],[],[0,1,2,3,4,5,6]⟩,⟨[],[],[],[0,1,2,3,4,5,6,7]⟩,⟨[],[],[],[0,1,2,3,4,5,6,7,8,9]⟩] (by kernel_rfl) (dj (i6 a0) rfl (d_cons (vl (eVb a1) rfl rfl rfl rfl rfl rfl (d_next (by kernel_rfl) (d_cons ?_)))))))))
   obtain ⟨r17,hr18,h⟩:=bind_some h
   refine a_call (args:=[(eVb a1)]) (u:=[]) (r:=(eSi64 r17)) rfl rfl (impl_rowOf_ok a1 r17 hr18) rfl (d_next (by kernel_rfl) (d_cons (vl (eVb a2) rfl rfl rfl rfl rfl rfl (d_next (by kernel_rfl) (d_cons ?_)))))
   obtain ⟨r20,hr21,h⟩:=bind_some h
   refine a_call (args:=[(eVb a2)]) (u:=[]) (r:=(eSi64 r20)) rfl rfl (impl_rowOf_ok a2 r20 hr21) rfl (d_next (by kernel_rfl) (d_cons ?_))
   obtain ⟨r22,hr23,h⟩:=bind_some h
   refine a_call (args:=[(i6 a0),(eSi64 r17),(eSi64 r20)]) (u:=[]) (r:=(.tuple [(eSi64 r22.1),(eSi64 r22.2)])) rfl rfl (impl_prime_divide_ok a0 r17 r20 r22 hr23) rfl (d_next (by kernel_rfl) (dj (.tuple [(eSi64 r22.1),(eSi64 r22.2)]) rfl (d_cons (vb (eSi64 r22.1) rfl rfl (d_next (by kernel_rfl) (d_cons (vb (eSi64 r22.2) rfl rfl (d_next (by kernel_rfl) (dj (eSi64 r22.1) rfl ?_)))))))))
   refine dj (eSi64 r22.2) rfl (d_nil (nj ⟨[(6,ow 6),(7,ow 7),(10,eSi64 r22.1),(11,eSi64 r22.2)],[(6,bk (eVb ((vrep 64 (0 : Int))))),(7,bk (eVb ((vrep 64 (0 : Int)))))]⟩ (sr (vp (eSi64 r22.1) rfl ?_))))
   obtain ⟨r24,hr25,h⟩:=bind_some h
   refine a_call (args:=[(eSi64 r22.1)]) (u:=[]) (r:=(eVb r24)) rfl rfl (impl_row_poly_ok r22.1 r24 hr25) rfl (vp (eSi64 r22.2) rfl ?_)
   obtain ⟨r26,hr27,h⟩:=bind_some h
   refine a_call (args:=[(eSi64 r22.2)]) (u:=[]) (r:=(eVb r26)) rfl rfl (impl_row_poly_ok r22.2 r26 hr27) rfl (vs (eVb r24) rfl rfl (fun _=>rfl) rfl rfl rfl rfl rfl rfl (vs (eVb r26) rfl rfl (fun _=>rfl) rfl rfl rfl rfl rfl rfl (vp (i6 0) rfl (nx _ rfl (a_ret ?_)))))
   have hl30 : LdOk [] (eVb r24) [] 64 true (eVb r24):=(.nil rfl rfl rfl)
   have hl31 : LdOk [] (eVb r26) [] 64 true (eVb r26):=(.nil rfl rfl rfl)
   refine ⟨.inr rfl,?_⟩
   rw [Try.results19]
   cases h
   exact ⟨_,_,_,_,_,ld_own (i:=⟨.arr 64 5,64,64,(eVb (vrep 64 (0 : Int)))⟩) rfl rfl rfl hl30,hl30.c,.inl ⟨rfl,.inl rfl⟩,rfl,⟨_,_,_,_,_,ld_own (i:=⟨.arr 64 5,64,64,(eVb (vrep 64 (0 : Int)))⟩) rfl rfl rfl hl31,hl31.c,.inl ⟨rfl,.inl rfl⟩,rfl,⟨_,_,_,_,_,rfl,trivial,.inl ⟨rfl,.inl rfl⟩,rfl,rfl⟩⟩⟩
  ·have h:=ite_t hb7 h
   refine a_cond_t rfl (sr (vq (eVb ((vrep 64 (0 : Int)))) rfl ⟨⟨_,rfl,rfl⟩,all_nil⟩ (vq (eVb ((vrep 64 (0 : Int)))) rfl ⟨⟨_,rfl,rfl⟩,all_nil⟩ (vs (eVb ((vrep 64 (0 : Int)))) rfl rfl (fun _=>rfl) rfl rfl rfl rfl rfl rfl (vs (eVb ((vrep 64 (0 : Int)))) rfl rfl (fun _=>rfl) rfl rfl rfl rfl rfl rfl (vp (i6 5) rfl (nx _ rfl (a_ret (t_ret ?_)))))))))
   have hl34 : LdOk [] (eVb ((vrep 64 (0 : Int)))) [] 64 true (eVb ((vrep 64 (0 : Int)))):=(.nil rfl rfl rfl)
   have hl35 : LdOk [] (eVb ((vrep 64 (0 : Int)))) [] 64 true (eVb ((vrep 64 (0 : Int)))):=(.nil rfl rfl rfl)
   refine ⟨.inr rfl,?_⟩
   rw [Try.results19]
   cases h
   exact ⟨_,_,_,_,_,ld_own (i:=⟨.arr 64 5,64,64,(eVb (vrep 64 (0 : Int)))⟩) rfl rfl rfl hl34,hl34.c,.inl ⟨rfl,.inl rfl⟩,rfl,⟨_,_,_,_,_,ld_own (i:=⟨.arr 64 5,64,64,(eVb (vrep 64 (0 : Int)))⟩) rfl rfl rfl hl35,hl35.c,.inl ⟨rfl,.inl rfl⟩,rfl,⟨_,_,_,_,_,rfl,trivial,.inl ⟨rfl,.inl rfl⟩,rfl,rfl⟩⟩⟩
 ·have h:=ite_t hb5 h
  refine a_cond_t rfl (sr (vq (eVb ((vrep 64 (0 : Int)))) rfl ⟨⟨_,rfl,rfl⟩,all_nil⟩ (vq (eVb ((vrep 64 (0 : Int)))) rfl ⟨⟨_,rfl,rfl⟩,all_nil⟩ (vp (i6 r3) rfl (vs (eVb ((vrep 64 (0 : Int)))) rfl rfl (fun _=>rfl) rfl rfl rfl rfl rfl rfl (vs (eVb ((vrep 64 (0 : Int)))) rfl rfl (fun _=>rfl) rfl rfl rfl rfl rfl rfl (vp (i6 r3) rfl (nx _ rfl (a_ret ?_)))))))))
  refine t_ret ?_
  have hl38 : LdOk [] (eVb ((vrep 64 (0 : Int)))) [] 64 true (eVb ((vrep 64 (0 : Int)))):=(.nil rfl rfl rfl)
  have hl39 : LdOk [] (eVb ((vrep 64 (0 : Int)))) [] 64 true (eVb ((vrep 64 (0 : Int)))):=(.nil rfl rfl rfl)
  refine ⟨.inr rfl,?_⟩
  rw [Try.results19]
  cases h
  exact ⟨_,_,_,_,_,ld_own (i:=⟨.arr 64 5,64,64,(eVb (vrep 64 (0 : Int)))⟩) rfl rfl rfl hl38,hl38.c,.inl ⟨rfl,.inl rfl⟩,rfl,⟨_,_,_,_,_,ld_own (i:=⟨.arr 64 5,64,64,(eVb (vrep 64 (0 : Int)))⟩) rfl rfl rfl hl39,hl39.c,.inl ⟨rfl,.inl rfl⟩,rfl,⟨_,_,_,_,_,rfl,trivial,.inl ⟨rfl,.inl rfl⟩,rfl,rfl⟩⟩⟩
def spec_DrawComposePolys_c : ACode:=(.seq (.region 0 [q 2 (.asg 0 (.const (.int .i64 0)) 2),q 3 (.alloc 25),q 4 (.alloc 25)] false) (.seq (.region 1 [q 10 (.mov (t 0)),q 11 (.call 0 (.func 99) [(t 10)]),q 9 (.mov (t 11)),q 12 (.extract (t 9) 0),q 13 (.extract (t 9) 1),q 14 (.extract (t 9) 2),q 6 (.alloc 25),q 7 (.alloc 25),q 5 (.asg 0 (t 12) 2),⟨none,.store 25 (t 6) (t 13),none,[]⟩,⟨none,.store 25 (t 7) (t 14),none,[]⟩] false) (.seq (.region 2 [q 15 (.bslice 0 22 1 [(0,.const (.int .u8 3))]),q 16 (.mov (t 0)),q 17 (.blt 1 .append [(t 15),(t 16)] [22,22]),q 18 (.call 0 (.func 116) [(t 17)]),q 8 (.asg 0 (t 18) 96)] false) (.seq (.seq (.region 3 [q 19 (.mov (t 8)),q 20 (.call 1 (.func 123) [(t 19),(.const (.int .i64 2))]),q 21 (.bin .eql 2 (t 20) (.const (.int .i64 0))),q 22 (.mov (t 21)),⟨some 23,.mov (t 5),some (22,true),[]⟩,⟨some 24,.call 0 (.func 168) [(t 23)],some (22,true),[]⟩,q 25 (.pick (t 22) (t 24) (.const (.bool false)))] false) (.cond (t 25) (.seq (.region 4 [q 26 (.mov (t 5)),q 27 (.mov (t 8)),q 28 (.mov (t 5)),q 29 (.call 1 (.func 155) [(t 27),(t 28),(.const (.int .i64 8))]),q 30 (.mov (t 8)),q 31 (.mov (t 5)),q 32 (.call 1 (.func 155) [(t 30),(t 31),(.const (.int .i64 8))]),q 2 (.asg 0 (t 26) 2),⟨none,.store 25 (t 3) (t 29),none,[]⟩,⟨none,.store 25 (t 4) (t 32),none,[]⟩] false) .ret) .skip)) (.seq (.region 5 [q 33 (.mov (t 5)),q 34 (.load 25 (t 6)),q 35 (.load 25 (t 7)),⟨some 2,.asg 0 (t 33) 2,none,[0,0]⟩,⟨none,.store 25 (t 3) (t 34),none,[1,3,0,1,3]⟩,⟨none,.store 25 (t 4) (t 35),none,[2,4,0,1,2,3,4]⟩] true) .ret)))))
def spec_DrawComposePolys_L : Live:=[(0,[0]),(1,[0,3,4]),(2,[0,3,4,5,6,7]),(3,[3,4,5,6,7,8]),(4,[3,4,5,8]),(5,[3,4,5,6,7]),(100025,[3,4,5,6,7,8,25])]
noncomputable def spec_DrawComposePolys (a0 : (List Int)) : Option (Int × (Vec Int 64) × (Vec Int 64)) :=
 (Option.bind (spec_l01Both a0) fun r1=>(ifp ((([3] : List Int).length + a0.length) * 1 ≤ 140737488355328) ((Option.bind (spec_l01From ((([3] : List Int) ++ a0))) fun r6=>(Option.bind (α:=(Bool × ((List Int) × Int × Int))) ((Option.bind (spec_l01Next_of_src r6 2) fun r19=>(if (r19.1 == 0) then (Option.bind (spec_l01Prime r1.1) fun r23=>(some (r23,r19.2))) else (some (false,r19.2))))) fun ⟨x14,x15⟩=>(if x14 then (Option.bind (spec_l01Draw_of_src x15 r1.1 8) fun r36=>(Option.bind (spec_l01Draw_of_src r36.2 r1.1 8) fun r39=>(some (r1.1,r36.1,r39.1)))) else (some (r1.1,r1.2.1,r1.2.2))))))))
theorem spec_DrawComposePolys_ok (a0 : (List Int)) (r : (Int × (Vec Int 64) × (Vec Int 64))) (h : spec_DrawComposePolys a0 = some r) : Den Try.prog 82 [(eSu8 a0)] { r:=(.tuple [(i6 r.1),(eVb r.2.1),(eVb r.2.2)]) }:=by
 refine den_of (rs:=[(i6 r.1),(eVb r.2.1),(eVb r.2.2)]) (ac:=spec_DrawComposePolys_c) (L:=spec_DrawComposePolys_L) (n:=36) (m:=[(17,1),(20,1),(29,1),(32,1)]) (c:=Try.f82.body.getD .skip) good Try.func82 (by kernel_rfl) (by kernel_rfl) Try.ntmps82 rfl rfl (by kernel_rfl) rfl rfl ?_
 refine ns ⟨[(0,eSu8 a0)],[]⟩ ?_
 unfold spec_DrawComposePolys_c
 refine sr (vp (i6 0) rfl (vo 1300 (eVb ((vrep 64 (0 : Int)))) rfl rfl (vo 1400 (eVb ((vrep 64 (0 : Int)))) rfl rfl (nk ⟨[(0,eSu8 a0),(3,ow 3),(4,ow 4)],[(3,bk (eVb ((vrep 64 (0 : Int))))),(4,bk (eVb ((vrep 64 (0 : Int)))))]⟩ (sr (vp (eSu8 a0) rfl ?_))))))
 obtain ⟨r1,hr2,h⟩:=bind_some h
 refine a_call (args:=[(eSu8 a0)]) (u:=[]) (r:=(.tuple [(i6 r1.1),(eVb r1.2.1),(eVb r1.2.2)])) rfl rfl (spec_l01Both_ok a0 r1 hr2) rfl (vp (.tuple [(i6 r1.1),(eVb r1.2.1),(eVb r1.2.2)]) rfl (vb (i6 r1.1) rfl rfl (vb (eVb r1.2.1) rfl rfl (vb (eVb r1.2.2) rfl rfl (vo 1600 (eVb ((vrep 64 (0 : Int)))) rfl rfl (vo 1700 (eVb ((vrep 64 (0 : Int)))) rfl rfl (vp (i6 r1.1) rfl (vs (eVb r1.2.1) rfl rfl (fun _=>rfl) rfl rfl rfl rfl rfl rfl (vs (eVb r1.2.2) rfl rfl (fun _=>rfl) rfl rfl rfl rfl rfl rfl ?_)))))))))
 refine nk ⟨[(0,eSu8 a0),(3,ow 3),(4,ow 4),(5,i6 r1.1),(6,ow 6),(7,ow 7)],[(3,bk (eVb ((vrep 64 (0 : Int))))),(4,bk (eVb ((vrep 64 (0 : Int))))),(6,bk (eVb r1.2.1)),(7,bk (eVb r1.2.2))]⟩ (sr (vq (.sl 1 true (([3]).map (AV.int .u8))) rfl ⟨(Nat.le_of_ble_eq_true rfl),(Nat.le_of_ble_eq_true rfl),(all_cons ⟨(Nat.le_of_ble_eq_true rfl),rfl⟩ all_nil)⟩ (vp (eSu8 a0) rfl ?_)))
 obtain ⟨hc5,h⟩:=ifp_some h
 refine vq (eSu8 ((([3] : List Int) ++ a0))) (appm_run (i:=⟨.int .u8,1,1,(.int .u8 0)⟩) (f:=(AV.int .u8)) (l:=[3]) (l2:=a0) rfl rfl rfl rfl (fun _=>rfl)) (appm_c (f:=(AV.int .u8)) (s:=1) (sz:=1) (sz':=1) (by':=1) hc5 (.inr rfl) (.inr rfl) rfl rfl) ?_
 obtain ⟨r6,hr7,h⟩:=bind_some h
 refine a_callF (args:=[(eSu8 ((([3] : List Int) ++ a0)))]) (u:=[]) (u2:=[]) (r:=(ow 2000000)) (fs:=[(0,[eT_Su8_i64_u64_Z r6])]) rfl rfl (spec_l01From_ok ((([3] : List Int) ++ a0)) r6 hr7) rfl rfl rfl (.inl rfl) rfl (vp (ow 2800) rfl (nk ⟨[(3,ow 3),(4,ow 4),(5,i6 r1.1),(6,ow 6),(7,ow 7),(8,ow 8)],[(3,bk (eVb ((vrep 64 (0 : Int))))),(4,bk (eVb ((vrep 64 (0 : Int))))),(6,bk (eVb r1.2.1)),(7,bk (eVb r1.2.2)),(8,bk (eT_Su8_i64_u64_Z r6))]⟩ (a_seq ?_)))
 obtain ⟨y16,hy17,hk18⟩:=bind_some h
 clear h
 refine a_join (emb:=fun (s : (Bool × ((List Int) × Int × Int)))=>⟨[(3,ow 3),(4,ow 4),(5,i6 r1.1),(6,ow 6),(7,ow 7),(8,ow 8),(25,.bool s.1)],[(3,bk (eVb ((vrep 64 (0 : Int))))),(4,bk (eVb ((vrep 64 (0 : Int))))),(6,bk (eVb r1.2.1)),(7,bk (eVb r1.2.2)),(8,bk (eT_Su8_i64_u64_Z s.2))]⟩) (pre:=fun s=>s = y16) ?_ ?_
 ·rintro ⟨x14,x15⟩ rfl
  have h:=hk18
  refine ns ⟨[(3,ow 3),(4,ow 4),(5,i6 r1.1),(6,ow 6),(7,ow 7),(8,ow 8),(25,.bool x14)],[(3,bk (eVb ((vrep 64 (0 : Int))))),(4,bk (eVb ((vrep 64 (0 : Int))))),(6,bk (eVb r1.2.1)),(7,bk (eVb r1.2.2)),(8,bk (eT_Su8_i64_u64_Z x15))]⟩ ?_
  cases hb25 : x14
  ·have h:=ite_f hb25 h
   refine a_cond_f rfl (a_skip (nj ⟨[(3,ow 3),(4,ow 4),(5,i6 r1.1),(6,ow 6),(7,ow 7)],[(3,bk (eVb ((vrep 64 (0 : Int))))),(4,bk (eVb ((vrep 64 (0 : Int))))),(6,bk (eVb r1.2.1)),(7,bk (eVb r1.2.2))]⟩ (a_seq (a_draw [⟨[],[],[],[]⟩,⟨[6],[],[],[]⟩,⟨[7],[],[],[]⟩,⟨[],[],[],[0]⟩,⟨[3],[3],[],[0,1,3]⟩,⟨[4],[4],[],[0,1,2,3,4]⟩] (by kernel_rfl) (dj (i6 r1.1) rfl (d_cons (vl (eVb r1.2.1) rfl rfl rfl rfl rfl rfl (d_next (by kernel_rfl) (d_cons ?_)))))))))
   refine vl (eVb r1.2.2) rfl rfl rfl rfl rfl rfl (d_next (by kernel_rfl) (dj (i6 r1.1) rfl (d_cons (vs (eVb r1.2.1) rfl rfl (fun _=>rfl) rfl rfl rfl rfl rfl rfl (d_next (by kernel_rfl) (d_cons (vs (eVb r1.2.2) rfl rfl (fun _=>rfl) rfl rfl rfl rfl rfl rfl (d_next (by kernel_rfl) (d_nil ?_)))))))))
   refine a_next rfl (a_ret ?_)
   have hl34 : LdOk [] (eVb r1.2.1) [] 64 true (eVb r1.2.1):=(.nil rfl rfl rfl)
   have hl35 : LdOk [] (eVb r1.2.2) [] 64 true (eVb r1.2.2):=(.nil rfl rfl rfl)
   refine ⟨.inr rfl,?_⟩
   rw [Try.results82]
   cases h
   exact ⟨_,_,_,_,_,rfl,trivial,.inl ⟨rfl,.inl rfl⟩,rfl,⟨_,_,_,_,_,ld_own (i:=⟨.arr 64 5,64,64,(eVb (vrep 64 (0 : Int)))⟩) rfl rfl rfl hl34,hl34.c,.inl ⟨rfl,.inl rfl⟩,rfl,⟨_,_,_,_,_,ld_own (i:=⟨.arr 64 5,64,64,(eVb (vrep 64 (0 : Int)))⟩) rfl rfl rfl hl35,hl35.c,.inl ⟨rfl,.inl rfl⟩,rfl,rfl⟩⟩⟩
  ·have h:=ite_t hb25 h
   refine a_cond_t rfl (sr (vp (i6 r1.1) rfl (vp (ow 8) rfl (vp (i6 r1.1) rfl ?_))))
   obtain ⟨r36,hr37,h⟩:=bind_some h
   refine a_callM (args:=[(.mutp (eT_Su8_i64_u64_Z x15)),(i6 r1.1),(i6 8)]) (i:=0) (id:=8) (r:=(eVb r36.1)) (c:=(eT_Su8_i64_u64_Z r36.2)) rfl rfl (spec_l01Draw_of_src_ok x15 r1.1 8 r36 hr37) rfl trivial (vp (ow 8) rfl (vp (i6 r1.1) rfl ?_))
   obtain ⟨r39,hr40,h⟩:=bind_some h
   refine a_callM (args:=[(.mutp (eT_Su8_i64_u64_Z r36.2)),(i6 r1.1),(i6 8)]) (i:=0) (id:=8) (r:=(eVb r39.1)) (c:=(eT_Su8_i64_u64_Z r39.2)) rfl rfl (spec_l01Draw_of_src_ok r36.2 r1.1 8 r39 hr40) rfl trivial (vp (i6 r1.1) rfl (vs (eVb r36.1) rfl rfl (fun _=>rfl) rfl rfl rfl rfl rfl rfl (vs (eVb r39.1) rfl rfl (fun _=>rfl) rfl rfl rfl rfl rfl rfl (nx _ rfl (a_ret (t_ret ?_))))))
   have hl44 : LdOk [] (eVb r36.1) [] 64 true (eVb r36.1):=(.nil rfl rfl rfl)
   have hl45 : LdOk [] (eVb r39.1) [] 64 true (eVb r39.1):=(.nil rfl rfl rfl)
   refine ⟨.inr rfl,?_⟩
   rw [Try.results82]
   cases h
   exact ⟨_,_,_,_,_,rfl,trivial,.inl ⟨rfl,.inl rfl⟩,rfl,⟨_,_,_,_,_,ld_own (i:=⟨.arr 64 5,64,64,(eVb (vrep 64 (0 : Int)))⟩) rfl rfl rfl hl44,hl44.c,.inl ⟨rfl,.inl rfl⟩,rfl,⟨_,_,_,_,_,ld_own (i:=⟨.arr 64 5,64,64,(eVb (vrep 64 (0 : Int)))⟩) rfl rfl rfl hl45,hl45.c,.inl ⟨rfl,.inl rfl⟩,rfl,rfl⟩⟩⟩
 ·have h:=hy17
  refine a_region (vp (ow 8) rfl ?_)
  obtain ⟨r19,hr20,h⟩:=bind_some h
  refine a_callM (args:=[(.mutp (eT_Su8_i64_u64_Z r6)),(i6 2)]) (i:=0) (id:=8) (r:=(i6 r19.1)) (c:=(eT_Su8_i64_u64_Z r19.2)) rfl rfl (spec_l01Next_of_src_ok r6 2 r19 hr20) rfl trivial (vp (.bool (r19.1 == 0)) rfl (vp (.bool (r19.1 == 0)) rfl ?_))
  cases hb22 : (r19.1 == 0)
  ·have h:=ite_f hb22 h
   refine a_gskip rfl (a_gskip rfl (vp (.bool false) rfl (a_nil ?_)))
   exact j_leaf (false,r19.2) (Option.some.inj h) (by kernel_rfl)
  ·have h:=ite_t hb22 h
   refine gp (i6 r1.1) rfl rfl ?_
   obtain ⟨r23,hr24,h⟩:=bind_some h
   refine a_gcall rfl (args:=[(i6 r1.1)]) (u:=[]) (r:=(.bool r23)) rfl rfl (spec_l01Prime_ok r1.1 r23 hr24) rfl (vp (.bool r23) rfl (a_nil ?_))
   exact j_leaf (r23,r19.2) (Option.some.inj h) (by kernel_rfl)
def impl_row_at_c : ACode:=(.seq (.region 0 [q 4 (.asg 0 (.const (.int .i64 0)) 2)] false) (.seq (.seq (.region 1 [q 5 (.mov (t 1)),q 6 (.mov (t 0)),q 7 (.blt 0 .len [(t 6)] [80]),q 8 (.bin .lss 3 (t 5) (t 7))] false) (.cond (t 8) (.seq (.region 2 [q 9 (.mov (t 0)),q 10 (.mov (t 1)),q 11 (.indexAddr 80 (t 9) (t 10)),q 12 (.load 2 (t 11)),q 4 (.asg 0 (t 12) 2)] false) .ret) .skip)) (.seq (.region 3 [q 4 (.asg 0 (.const (.int .i64 0)) 2)] false) .ret)))
def impl_row_at_L : Live:=[(0,[0,1]),(1,[0,1]),(2,[0,1]),(3,[]),(100008,[0,1,8])]
noncomputable def impl_row_at (a0 : (List Int)) (a1 : Int) : Option Int :=
 (if (decide (a1 < (a0.length : Int))) then (ifp (0 ≤ a1 ∧ a1 < ((a0.length : Nat) : Int)) ((some (rd a0 a1.toNat)))) else (some 0))
theorem impl_row_at_ok (a0 : (List Int)) (a1 : Int) (r : Int) (h : impl_row_at a0 a1 = some r) : Den Try.prog 164 [(eSi64 a0),(i6 a1)] { r:=(i6 r) }:=by
 refine den_of (rs:=[(i6 r)]) (ac:=impl_row_at_c) (L:=impl_row_at_L) (n:=13) (m:=[]) (c:=Try.f164.body.getD .skip) good Try.func164 (by kernel_rfl) (by kernel_rfl) Try.ntmps164 rfl rfl (by kernel_rfl) rfl rfl ?_
 refine ns ⟨[(0,eSi64 a0),(1,i6 a1)],[]⟩ ?_
 unfold impl_row_at_c
 refine sr (vp (i6 0) rfl (nk ⟨[(0,eSi64 a0),(1,i6 a1)],[]⟩ (a_seq (sr (vp (i6 a1) rfl (vp (eSi64 a0) rfl (vq (i6 (a0.length : Int)) (len_run rfl rfl) trivial (vp (.bool ((decide (a1 < (a0.length : Int))))) rfl (nk ⟨[(0,eSi64 a0),(1,i6 a1),(8,.bool ((decide (a1 < (a0.length : Int)))))],[]⟩ ?_)))))))))
 cases hb1 : (decide (a1 < (a0.length : Int)))
 ·have h:=ite_f hb1 h
  refine a_cond_f rfl (a_skip (nj ⟨[],[]⟩ (sr (vp (i6 0) rfl (nx _ rfl (a_ret ?_))))))
  refine ⟨.inr rfl,?_⟩
  rw [Try.results164]
  cases h
  exact ⟨_,_,_,_,_,rfl,trivial,.inl ⟨rfl,.inl rfl⟩,rfl,rfl⟩
 ·have h:=ite_t hb1 h
  refine a_cond_t rfl (sr (vp (eSi64 a0) rfl (vp (i6 a1) rfl ?_)))
  obtain ⟨hc2,h⟩:=ifp_some h
  refine vq (.ref (.row 1 (a0.map (AV.int .i64))) [a1.toNat] [a1.toNat * 1]) rfl (lmap hc2) ?_
  have hl3 : LdOk [a1.toNat] (.row 1 (a0.map (AV.int .i64))) [a1.toNat * 1] 1 false (i6 (rd a0 a1.toNat)):=(.row (llt hc2) rfl (.nil rfl rfl rfl))
  refine vq (i6 (rd a0 a1.toNat)) (ld_ref (i:=⟨.int .i64,1,8,(.int .i64 0)⟩) rfl rfl hl3) hl3.c (vp (i6 (rd a0 a1.toNat)) rfl (nx _ rfl (a_ret (t_ret ?_))))
  refine ⟨.inr rfl,?_⟩
  rw [Try.results164]
  cases h
  exact ⟨_,_,_,_,_,rfl,trivial,.inl ⟨rfl,.inl rfl⟩,rfl,rfl⟩
def impl_prime_combine_c : ACode:=(.seq (.region 0 [q 8 (.asg 1 (.const (.slice none 0 0)) 80)] false) (.seq (.region 1 [q 11 (.mov (t 1)),q 12 (.blt 0 .len [(t 11)] [80]),q 13 (.mov (t 2)),q 14 (.blt 0 .len [(t 13)] [80]),q 15 (.blt 0 .max [(t 12),(t 14)] [3,3]),q 16 (.mkslice 80 (t 15) (t 15)),q 9 (.asg 2 (t 16) 80)] false) (.seq (.seq (.region 2 [q 17 (.mov (t 9)),q 18 (.blt 0 .len [(t 17)] [80]),q 19 (.mov (.const (.int .i64 0)))] false) (.block 0 (.loop (.seq (.region 3 [q 20 (.bin .lss 3 (t 19) (t 18))] false) (.seq (.cond (t 20) .skip (.exit 0)) (.seq (.block 1 (.seq (.region 4 [q 21 (.mov (t 19)),q 10 (.asg 0 (t 21) 3)] false) (.region 5 [q 22 (.mov (t 9)),q 23 (.mov (t 10)),q 24 (.mov (t 0)),q 25 (.mov (t 1)),q 26 (.mov (t 10)),q 27 (.call 0 (.func 164) [(t 25),(t 26)]),q 28 (.mov (t 3)),q 29 (.mov (t 2)),q 30 (.mov (t 10)),q 31 (.call 0 (.func 164) [(t 29),(t 30)]),q 32 (.bin .mul 2 (t 28) (t 31)),q 33 (.bin .add 2 (t 27) (t 32)),q 34 (.call 0 (.func 183) [(t 24),(t 33)]),q 35 (.indexAddr 80 (t 22) (t 23)),⟨none,.store 2 (t 35) (t 34),none,[]⟩] false))) (.region 6 [q 36 (.bin .add 3 (t 19) (.const (.int .i64 1))),q 19 (.mov (t 36))] false))))))) (.seq (.region 7 [q 37 (.mov (t 9)),q 38 (.call 0 (.func 180) [(t 37)]),q 8 (.asg 1 (t 38) 80)] false) .ret))))
def impl_prime_combine_L : Live:=[(0,[0,1,2,3]),(1,[0,1,2,3]),(2,[0,1,2,3,9]),(3,[0,1,2,3,9,18,19]),(4,[0,1,2,3,9,18,19]),(5,[0,1,2,3,9,10,18,19]),(6,[0,1,2,3,9,18,19]),(7,[9]),(100020,[0,1,2,3,9,18,19,20])]
noncomputable def impl_prime_combine_l1 (x1 : Int) (a1 : (List Int)) (a2 : (List Int)) (a0 : Int) (a3 : Int) (x58 : Int) (x59 : (List Int)) : Option ((Int × (List Int)) ⊕ (List Int)) :=
 (letp ((decide (x58 < (((List.replicate x1.toNat (0 : Int)).length : Int))))) fun x74=>(if x74 then (Option.bind (impl_row_at a1 x58) fun r77=>(Option.bind (impl_row_at a2 x58) fun r79=>(Option.bind (impl_prime_reduce a0 (IntKind.i64.wrap (r77 + (IntKind.i64.wrap (a3 * r79))))) fun r81=>(ifp (0 ≤ x58 ∧ x58 < ((x59.length : Nat) : Int)) ((some (.inl ((IntKind.i64.wrap (x58 + 1),(x59.set x58.toNat r81)))))))))) else (some (.inr x59))))
noncomputable def impl_prime_combine (a0 : Int) (a1 : (List Int)) (a2 : (List Int)) (a3 : Int) : Option (List Int) :=
 (letp ((if (a2.length : Int) > (a1.length : Int) then (a2.length : Int) else (a1.length : Int))) fun x1=>(ifp (0 ≤ x1 ∧ x1 ≤ 140737488355328 ∧ 8 * x1 ≤ 140737488355328) ((Option.bind (α:=(List Int)) ((loopM (fun s : (Int × (List Int))=>impl_prime_combine_l1 x1 a1 a2 a0 a3 s.1 s.2) (0,List.replicate x1.toNat (0 : Int)))) fun x43=>(Option.bind (impl_row_trimmed x43) fun r86=>(some r86))))))
theorem impl_prime_combine_ok (a0 : Int) (a1 : (List Int)) (a2 : (List Int)) (a3 : Int) (r : (List Int)) (h : impl_prime_combine a0 a1 a2 a3 = some r) : Den Try.prog 109 [(i6 a0),(eSi64 a1),(eSi64 a2),(i6 a3)] { r:=(eSi64 r) }:=by
 refine den_of (rs:=[(eSi64 r)]) (ac:=impl_prime_combine_c) (L:=impl_prime_combine_L) (n:=39) (m:=[(8,1),(9,2)]) (c:=Try.f109.body.getD .skip) good Try.func109 (by kernel_rfl) (by kernel_rfl) Try.ntmps109 rfl rfl (by kernel_rfl) rfl rfl ?_
 refine ns ⟨[(0,i6 a0),(1,eSi64 a1),(2,eSi64 a2),(3,i6 a3)],[]⟩ ?_
 unfold impl_prime_combine_c
 refine sr (vp (eSi64 ([])) rfl (nk ⟨[(0,i6 a0),(1,eSi64 a1),(2,eSi64 a2),(3,i6 a3)],[]⟩ (sr (vp (eSi64 a1) rfl (vq (i6 (a1.length : Int)) (len_run rfl rfl) trivial (vp (eSi64 a2) rfl (vq (i6 (a2.length : Int)) (len_run rfl rfl) trivial ?_)))))))
 obtain ⟨x1,hx2,h⟩:=letp_some h
 refine a_val' (v:=(i6 ((if (a2.length : Int) > (a1.length : Int) then (a2.length : Int) else (a1.length : Int))))) (v':=(i6 x1)) (u:=[]) (u':=[]) rfl (congrArg (fun z=>((i6 z) : AV)) hx2) rfl trivial rfl ?_
 obtain ⟨hc3,h⟩:=ifp_some h
 refine vu (.osl 2600) [(2600,bk (.row 1 ((List.replicate x1.toNat (0 : Int)).map (AV.int .i64))))] (mk_run (i:=⟨.int .i64,1,8,(.int .i64 0)⟩) (f:=(AV.int .i64)) (y:=(0 : Int)) rfl rfl rfl rfl rfl rfl) ⟨rfl,hc3.1,hc3.2.1,hc3.2.2,(Nat.le_of_ble_eq_true rfl)⟩ rfl (vp (.osl 2600) rfl (nk ⟨[(0,i6 a0),(1,eSi64 a1),(2,eSi64 a2),(3,i6 a3),(9,.osl 9)],[(9,bk (.row 1 ((List.replicate x1.toNat (0 : Int)).map (AV.int .i64))))]⟩ ?_))
 obtain ⟨y44,hy45,hk46⟩:=bind_some h
 clear h
 refine a_join (emb:=fun (s : (List Int))=>⟨[(9,.osl 9)],[(9,bk (.row 1 (s.map (AV.int .i64))))]⟩) (pre:=fun s=>s = y44) ?_ ?_
 ·rintro x43 rfl
  have h:=hk46
  refine ns ⟨[(9,.osl 9)],[(9,bk (.row 1 (x43.map (AV.int .i64))))]⟩ (sr (vp (.osl 9) rfl ?_))
  obtain ⟨r86,hr87,h⟩:=bind_some h
  refine a_call (args:=[(eSi64 x43)]) (u:=[(9,bf (.row 1 (x43.map (AV.int .i64))))]) (r:=(eSi64 r86)) rfl rfl (impl_row_trimmed_ok x43 r86 hr87) rfl (vp (eSi64 r86) rfl (nx _ rfl (a_ret ?_)))
  refine ⟨.inr rfl,?_⟩
  rw [Try.results109]
  cases h
  exact ⟨_,_,_,_,_,rfl,trivial,.inl ⟨rfl,.inl rfl⟩,rfl,rfl⟩
 ·have h:=hy45
  refine sr (vp (.osl 9) rfl (vq (i6 (((List.replicate x1.toNat (0 : Int)).length : Int))) (leno_run rfl rfl rfl) trivial (vp (i6 0) rfl (nk ⟨[(0,i6 a0),(1,eSi64 a1),(2,eSi64 a2),(3,i6 a3),(9,.osl 9),(18,i6 (((List.replicate x1.toNat (0 : Int)).length : Int))),(19,i6 0)],[(9,bk (.row 1 ((List.replicate x1.toNat (0 : Int)).map (AV.int .i64))))]⟩ (a_block ?_)))))
  refine a_loop (emb:=fun (s : (Int × (List Int)))=>⟨[(0,i6 a0),(1,eSi64 a1),(2,eSi64 a2),(3,i6 a3),(9,.osl 9),(18,i6 (((List.replicate x1.toNat (0 : Int)).length : Int))),(19,i6 s.1)],[(9,bk (.row 1 (s.2.map (AV.int .i64))))]⟩) (body:=(fun s : (Int × (List Int))=>impl_prime_combine_l1 x1 a1 a2 a0 a3 s.1 s.2)) (G:=fun q=>some q = some y44) h rfl ?_ (by kernel_rfl)
  rintro X71 ⟨x58,x59⟩ x72 h hX73
  have h : impl_prime_combine_l1 x1 a1 a2 a0 a3 x58 x59 = some x72:=h
  refine ns ⟨[(0,i6 a0),(1,eSi64 a1),(2,eSi64 a2),(3,i6 a3),(9,.osl 9),(18,i6 (((List.replicate x1.toNat (0 : Int)).length : Int))),(19,i6 x58)],[(9,bk (.row 1 (x59.map (AV.int .i64))))]⟩ (sr ?_)
  obtain ⟨x74,hx75,h⟩:=letp_some h
  refine a_val' (v:=(.bool ((decide (x58 < (((List.replicate x1.toNat (0 : Int)).length : Int))))))) (v':=(.bool x74)) (u:=[]) (u':=[]) rfl (congrArg (fun z=>((.bool z) : AV)) hx75) rfl trivial rfl (nk ⟨[(0,i6 a0),(1,eSi64 a1),(2,eSi64 a2),(3,i6 a3),(9,.osl 9),(18,i6 (((List.replicate x1.toNat (0 : Int)).length : Int))),(19,i6 x58),(20,.bool x74)],[(9,bk (.row 1 (x59.map (AV.int .i64))))]⟩ (a_seq ?_))
  cases hb76 : x74
  ·have h:=ite_f hb76 h
   refine a_cond_f rfl (a_exit (t_exit ?_))
   cases h
   have h:=hX73
   refine t_exit (b_exit ?_)
   exact j_leaf x59 (Option.some.inj h) (by kernel_rfl)
  ·have h:=ite_t hb76 h
   refine a_cond_t rfl (a_skip (nj ⟨[(0,i6 a0),(1,eSi64 a1),(2,eSi64 a2),(3,i6 a3),(9,.osl 9),(18,i6 (((List.replicate x1.toNat (0 : Int)).length : Int))),(19,i6 x58)],[(9,bk (.row 1 (x59.map (AV.int .i64))))]⟩ (a_seq (a_block (sr (vp (i6 x58) rfl (vp (i6 x58) rfl (nk ⟨[(0,i6 a0),(1,eSi64 a1),(2,eSi64 a2),(3,i6 a3),(9,.osl 9),(10,i6 x58),(18,i6 (((List.replicate x1.toNat (0 : Int)).length : Int))),(19,i6 x58)],[(9,bk (.row 1 (x59.map (AV.int .i64))))]⟩ (a_region ?_)))))))))
   refine vp (.osl 9) rfl (vp (i6 x58) rfl (vp (i6 a0) rfl (vp (eSi64 a1) rfl (vp (i6 x58) rfl ?_))))
   obtain ⟨r77,hr78,h⟩:=bind_some h
   refine a_call (args:=[(eSi64 a1),(i6 x58)]) (u:=[]) (r:=(i6 r77)) rfl rfl (impl_row_at_ok a1 x58 r77 hr78) rfl (vp (i6 a3) rfl (vp (eSi64 a2) rfl (vp (i6 x58) rfl ?_)))
   obtain ⟨r79,hr80,h⟩:=bind_some h
   refine a_call (args:=[(eSi64 a2),(i6 x58)]) (u:=[]) (r:=(i6 r79)) rfl rfl (impl_row_at_ok a2 x58 r79 hr80) rfl (vp (i6 (IntKind.i64.wrap (a3 * r79))) rfl (vp (i6 (IntKind.i64.wrap (r77 + (IntKind.i64.wrap (a3 * r79))))) rfl ?_))
   obtain ⟨r81,hr82,h⟩:=bind_some h
   refine a_call (args:=[(i6 a0),(i6 (IntKind.i64.wrap (r77 + (IntKind.i64.wrap (a3 * r79)))))]) (u:=[]) (r:=(i6 r81)) rfl rfl (impl_prime_reduce_ok a0 (IntKind.i64.wrap (r77 + (IntKind.i64.wrap (a3 * r79)))) r81 hr82) rfl ?_
   obtain ⟨hc83,h⟩:=ifp_some h
   refine vq (.own 9 [x58.toNat] [x58.toNat * 1]) rfl (lmap hc83) ?_
   have hs84 : StOk [x58.toNat] (.row 1 (x59.map (AV.int .i64))) [x58.toNat * 1] 1 (i6 r81) (.row 1 ((x59.set x58.toNat r81).map (AV.int .i64))):=(.row (y:=r81) (llt hc83) rfl (.nil rfl rfl rfl rfl))
   refine vu .top [(9,bk (.row 1 ((x59.set x58.toNat r81).map (AV.int .i64))))] (st_own (i:=⟨.int .i64,1,8,(.int .i64 0)⟩) rfl rfl (fun _=>rfl) rfl hs84) (hs84.c rfl) rfl (a_nil (b_norm (nj ⟨[(0,i6 a0),(1,eSi64 a1),(2,eSi64 a2),(3,i6 a3),(9,.osl 9),(18,i6 (((List.replicate x1.toNat (0 : Int)).length : Int))),(19,i6 x58)],[(9,bk (.row 1 ((x59.set x58.toNat r81).map (AV.int .i64))))]⟩ (a_region (vp (i6 (IntKind.i64.wrap (x58 + 1))) rfl (vp (i6 (IntKind.i64.wrap (x58 + 1))) rfl (a_nil ?_)))))))
   cases h
   exact a_again (by kernel_rfl) hX73
def impl_prime_compose_c : ACode:=(.seq (.region 0 [q 6 (.asg 1 (.const (.slice none 0 0)) 80)] false) (.seq (.region 1 [q 7 (.asg 1 (.const (.slice none 0 0)) 80)] false) (.seq (.seq (.region 2 [q 9 (.mov (t 1)),q 10 (.blt 0 .len [(t 9)] [80]),q 11 (.bin .sub 3 (t 10) (.const (.int .i64 1))),q 8 (.asg 0 (t 11) 3)] false) (.block 0 (.loop (.seq (.seq (.region 3 [q 12 (.mov (t 8)),q 13 (.bin .geq 3 (t 12) (.const (.int .i64 0)))] false) (.cond (t 13) .skip (.exit 0))) (.seq (.block 1 (.region 5 [q 16 (.mov (t 0)),q 17 (.mov (t 0)),q 18 (.mov (t 7)),q 19 (.mov (t 2)),⟨some 20,.call 0 (.func 102) [(t 17),(t 18),(t 19)],none,[1,2,3]⟩,q 21 (.mov (t 1)),q 22 (.mov (t 8)),⟨some 23,.indexAddr 80 (t 21) (t 22),none,[5,6]⟩,⟨some 24,.load 2 (t 23),none,[7]⟩,⟨some 25,.bslice 0 80 1 [(0,t 24)],none,[8]⟩,⟨some 26,.call 0 (.func 109) [(t 16),(t 20),(t 25),(.const (.int .i64 1))],none,[0,4,9,4]⟩,⟨some 7,.asg 1 (t 26) 80,none,[10,10,0,1,2,3,4,5,6,7,8,9,10]⟩] true)) (.region 4 [q 14 (.mov (t 8)),q 15 (.bin .sub 3 (t 14) (.const (.int .i64 1))),q 8 (.asg 0 (t 15) 3)] false)))))) (.seq (.region 6 [q 27 (.mov (t 7)),q 6 (.asg 1 (t 27) 80)] false) .ret))))
def impl_prime_compose_L : Live:=[(0,[0,1,2]),(1,[0,1,2]),(2,[0,1,2,7]),(3,[0,1,2,7,8]),(4,[0,1,2,7,8]),(5,[0,1,2,7,8]),(6,[7]),(100013,[0,1,2,7,8,13])]
noncomputable def impl_prime_compose_l1 (a0 : Int) (a2 : (List Int)) (a1 : (List Int)) (x67 : (List Int)) (x68 : Int) : Option (((List Int) × Int) ⊕ (List Int)) :=
 (if (decide (x68 ≥ 0)) then (Option.bind (impl_prime_times a0 x67 a2) fun r92=>(ifp (0 ≤ x68 ∧ x68 < ((a1.length : Nat) : Int)) ((Option.bind (impl_prime_combine a0 r92 ([(rd a1 x68.toNat)]) 1) fun r96=>(some (.inl ((r96,IntKind.i64.wrap (x68 - 1))))))))) else (some (.inr x67)))
noncomputable def impl_prime_compose (a0 : Int) (a1 : (List Int)) (a2 : (List Int)) : Option (List Int) :=
 (Option.bind (α:=(List Int)) ((loopM (fun s : ((List Int) × Int)=>impl_prime_compose_l1 a0 a2 a1 s.1 s.2) ([],IntKind.i64.wrap ((a1.length : Int) - 1)))) fun x48=>(some x48))
theorem impl_prime_compose_ok (a0 : Int) (a1 : (List Int)) (a2 : (List Int)) (r : (List Int)) (h : impl_prime_compose a0 a1 a2 = some r) : Den Try.prog 169 [(i6 a0),(eSi64 a1),(eSi64 a2)] { r:=(eSi64 r) }:=by
 refine den_of (rs:=[(eSi64 r)]) (ac:=impl_prime_compose_c) (L:=impl_prime_compose_L) (n:=28) (m:=[(6,1),(7,1)]) (c:=Try.f169.body.getD .skip) good Try.func169 (by kernel_rfl) (by kernel_rfl) Try.ntmps169 rfl rfl (by kernel_rfl) rfl rfl ?_
 refine ns ⟨[(0,i6 a0),(1,eSi64 a1),(2,eSi64 a2)],[]⟩ ?_
 unfold impl_prime_compose_c
 refine sr (vp (eSi64 ([])) rfl (nk ⟨[(0,i6 a0),(1,eSi64 a1),(2,eSi64 a2)],[]⟩ (sr (vp (eSi64 ([])) rfl (nk ⟨[(0,i6 a0),(1,eSi64 a1),(2,eSi64 a2),(7,eSi64 ([]))],[]⟩ ?_)))))
 obtain ⟨y49,hy50,hk51⟩:=bind_some h
 clear h
 refine a_join (emb:=fun (s : (List Int))=>⟨[(7,eSi64 s)],[]⟩) (pre:=fun s=>s = y49) ?_ ?_
 ·rintro x48 rfl
  have h:=hk51
  refine ns ⟨[(7,eSi64 x48)],[]⟩ (sr (vp (eSi64 x48) rfl (vp (eSi64 x48) rfl (nx _ rfl (a_ret ?_)))))
  refine ⟨.inr rfl,?_⟩
  rw [Try.results169]
  cases h
  exact ⟨_,_,_,_,_,rfl,trivial,.inl ⟨rfl,.inl rfl⟩,rfl,rfl⟩
 ·have h:=hy50
  refine sr (vp (eSi64 a1) rfl (vq (i6 (a1.length : Int)) (len_run rfl rfl) trivial (vp (i6 (IntKind.i64.wrap ((a1.length : Int) - 1))) rfl (vp (i6 (IntKind.i64.wrap ((a1.length : Int) - 1))) rfl (nk ⟨[(0,i6 a0),(1,eSi64 a1),(2,eSi64 a2),(7,eSi64 ([])),(8,i6 (IntKind.i64.wrap ((a1.length : Int) - 1)))],[]⟩ (a_block ?_))))))
  refine a_loop (emb:=fun (s : ((List Int) × Int))=>⟨[(0,i6 a0),(1,eSi64 a1),(2,eSi64 a2),(7,eSi64 s.1),(8,i6 s.2)],[]⟩) (body:=(fun s : ((List Int) × Int)=>impl_prime_compose_l1 a0 a2 a1 s.1 s.2)) (G:=fun q=>some q = some y49) h rfl ?_ (by kernel_rfl)
  rintro X82 ⟨x67,x68⟩ x83 h hX84
  have h : impl_prime_compose_l1 a0 a2 a1 x67 x68 = some x83:=h
  refine ns ⟨[(0,i6 a0),(1,eSi64 a1),(2,eSi64 a2),(7,eSi64 x67),(8,i6 x68)],[]⟩ (a_seq (sr (vp (i6 x68) rfl (vp (.bool ((decide (x68 ≥ 0)))) rfl (nk ⟨[(0,i6 a0),(1,eSi64 a1),(2,eSi64 a2),(7,eSi64 x67),(8,i6 x68),(13,.bool ((decide (x68 ≥ 0))))],[]⟩ ?_)))))
  cases hb85 : (decide (x68 ≥ 0))
  ·have h:=ite_f hb85 h
   refine a_cond_f rfl (a_exit (t_exit ?_))
   cases h
   have h:=hX84
   refine t_exit (b_exit ?_)
   exact j_leaf x67 (Option.some.inj h) (by kernel_rfl)
  ·have h:=ite_t hb85 h
   refine a_cond_t rfl (a_skip (nj ⟨[(0,i6 a0),(1,eSi64 a1),(2,eSi64 a2),(7,eSi64 x67),(8,i6 x68)],[]⟩ (a_seq (a_block (a_draw [⟨[],[],[],[]⟩,⟨[],[],[],[]⟩,⟨[],[],[],[]⟩,⟨[],[],[],[]⟩,⟨[],[],[],[1,2,3]⟩,⟨[],[],[],[]⟩,⟨[],[],[],[]⟩,⟨[],[],[],[5,6]⟩,⟨[],[],[],[5,6,7]⟩,⟨[],[],[],[5,6,7,8]⟩,⟨[],[],[],[0,1,2,3,4,5,6,7,8,9]⟩,⟨[],[],[],[0,1,2,3,4,5,6,7,8,9,10]⟩] (by kernel_rfl) (dj (i6 a0) rfl (dj (i6 a0) rfl (dj (eSi64 x67) rfl (dj (eSi64 a2) rfl ?_)))))))))
   refine d_cons ?_
   obtain ⟨r92,hr93,h⟩:=bind_some h
   refine a_call (args:=[(i6 a0),(eSi64 x67),(eSi64 a2)]) (u:=[]) (r:=(eSi64 r92)) rfl rfl (impl_prime_times_ok a0 x67 a2 r92 hr93) rfl (d_next (by kernel_rfl) (dj (eSi64 a1) rfl (dj (i6 x68) rfl (d_cons ?_))))
   obtain ⟨hc94,h⟩:=ifp_some h
   refine vq (.ref (.row 1 (a1.map (AV.int .i64))) [x68.toNat] [x68.toNat * 1]) rfl (lmap hc94) (d_next (by kernel_rfl) (d_cons ?_))
   have hl95 : LdOk [x68.toNat] (.row 1 (a1.map (AV.int .i64))) [x68.toNat * 1] 1 false (i6 (rd a1 x68.toNat)):=(.row (llt hc94) rfl (.nil rfl rfl rfl))
   refine vq (i6 (rd a1 x68.toNat)) (ld_ref (i:=⟨.int .i64,1,8,(.int .i64 0)⟩) rfl rfl hl95) hl95.c (d_next (by kernel_rfl) (d_cons (vq (.sl 1 true (([(rd a1 x68.toNat)]).map (AV.int .i64))) rfl ⟨(Nat.le_of_ble_eq_true rfl),(Nat.le_of_ble_eq_true rfl),(all_cons ⟨(Nat.le_of_ble_eq_true rfl),rfl⟩ all_nil)⟩ (d_next (by kernel_rfl) (d_cons ?_)))))
   obtain ⟨r96,hr97,h⟩:=bind_some h
   refine a_call (args:=[(i6 a0),(eSi64 r92),(.sl 1 true (([(rd a1 x68.toNat)]).map (AV.int .i64))),(i6 1)]) (u:=[]) (r:=(eSi64 r96)) rfl rfl (Den.args (impl_prime_combine_ok a0 r92 ([(rd a1 x68.toNat)]) 1 r96 hr97) rfl rfl (.cons (.refl _) (.cons (.refl _) (.cons (.loose _) (.cons (.refl _) .nil))))) rfl (d_next (by kernel_rfl) (dj (eSi64 r96) rfl (d_nil (b_norm (nj ⟨[(0,i6 a0),(1,eSi64 a1),(2,eSi64 a2),(7,eSi64 r96),(8,i6 x68)],[]⟩ (a_region (vp (i6 x68) rfl (vp (i6 (IntKind.i64.wrap (x68 - 1))) rfl (vp (i6 (IntKind.i64.wrap (x68 - 1))) rfl ?_)))))))))
   refine a_nil ?_
   cases h
   exact a_again (by kernel_rfl) hX84
def impl_ComposePolys_c : ACode:=(.seq (.region 0 [q 4 (.box 25 (t 1)),q 5 (.box 25 (t 2)),q 6 (.alloc 25),q 7 (.asg 0 (.const (.int .i64 0)) 2)] false) (.seq (.seq (.region 1 [q 9 (.mov (t 0)),q 10 (.load 25 (t 4)),q 11 (.load 25 (t 5)),q 12 (.bslice 0 55 2 [(0,t 10),(1,t 11)]),q 13 (.call 0 (.func 100) [(t 9),(t 12)]),q 8 (.asg 0 (t 13) 2)] false) (.seq (.region 2 [q 14 (.mov (t 8)),q 15 (.bin .neq 2 (t 14) (.const (.int .i64 0)))] false) (.cond (t 15) (.seq (.region 3 [q 16 (.build 25 []),q 17 (.mov (t 8)),⟨none,.store 25 (t 6) (t 16),none,[]⟩,q 7 (.asg 0 (t 17) 2)] false) .ret) .skip))) (.seq (.region 4 [q 18 (.mov (t 0)),q 19 (.load 25 (t 4)),⟨some 20,.call 0 (.func 103) [(t 19)],none,[1]⟩,q 21 (.load 25 (t 5)),⟨some 22,.call 0 (.func 103) [(t 21)],none,[3,2]⟩,⟨some 23,.call 0 (.func 169) [(t 18),(t 20),(t 22)],none,[0,2,4,4]⟩,⟨some 24,.call 0 (.func 101) [(t 23)],none,[5,5]⟩,⟨some 25,.extract (t 24) 0,none,[6]⟩,⟨some 26,.extract (t 24) 1,none,[6]⟩,⟨none,.store 25 (t 6) (t 25),none,[7,6,0,1,2,3,4,5,6,7,8]⟩,⟨some 7,.asg 0 (t 26) 2,none,[8,9,0,1,2,3,4,5,6,7,8,9]⟩] true) .ret)))
def impl_ComposePolys_L : Live:=[(0,[0,1,2]),(1,[0,4,5,6]),(2,[0,4,5,6,8]),(3,[6,8]),(4,[0,4,5,6]),(100015,[0,4,5,6,8,15])]
noncomputable def impl_ComposePolys (a0 : Int) (a1 : (Vec Int 64)) (a2 : (Vec Int 64)) : Option ((Vec Int 64) × Int) :=
 (Option.bind (impl_polysCode a0 ([a1,a2])) fun r3=>(if (r3 != 0) then (some (((vrep 64 (0 : Int)),r3))) else (Option.bind (impl_rowOf a1) fun r18=>(Option.bind (impl_rowOf a2) fun r21=>(Option.bind (impl_prime_compose a0 r18 r21) fun r23=>(Option.bind (impl_told r23) fun r25=>(some (r25.1,r25.2))))))))
theorem impl_ComposePolys_ok (a0 : Int) (a1 : (Vec Int 64)) (a2 : (Vec Int 64)) (r : ((Vec Int 64) × Int)) (h : impl_ComposePolys a0 a1 a2 = some r) : Den Try.prog 83 [(i6 a0),(eVb a1),(eVb a2)] { r:=(.tuple [(eVb r.1),(i6 r.2)]) }:=by
 refine den_of (rs:=[(eVb r.1),(i6 r.2)]) (ac:=impl_ComposePolys_c) (L:=impl_ComposePolys_L) (n:=27) (m:=[]) (c:=Try.f83.body.getD .skip) good Try.func83 (by kernel_rfl) (by kernel_rfl) Try.ntmps83 rfl rfl (by kernel_rfl) rfl rfl ?_
 refine ns ⟨[(0,i6 a0),(1,eVb a1),(2,eVb a2)],[]⟩ ?_
 unfold impl_ComposePolys_c
 refine sr (vo 1400 (eVb a1) rfl rfl (vo 1500 (eVb a2) rfl rfl (vo 1600 (eVb ((vrep 64 (0 : Int)))) rfl rfl (vp (i6 0) rfl (nk ⟨[(0,i6 a0),(4,ow 4),(5,ow 5),(6,ow 6)],[(4,bk (eVb a1)),(5,bk (eVb a2)),(6,bk (eVb ((vrep 64 (0 : Int)))))]⟩ (a_seq (sr (vp (i6 a0) rfl (vl (eVb a1) rfl rfl rfl rfl rfl rfl ?_)))))))))
 refine vl (eVb a2) rfl rfl rfl rfl rfl rfl (vq (.sl 64 true (([a1,a2]).map eVb)) rfl ⟨(Nat.le_of_ble_eq_true rfl),(Nat.le_of_ble_eq_true rfl),(all_cons ⟨(Nat.le_of_ble_eq_true rfl),rfl⟩ (all_cons ⟨(Nat.le_of_ble_eq_true rfl),rfl⟩ all_nil))⟩ ?_)
 obtain ⟨r3,hr4,h⟩:=bind_some h
 refine a_call (args:=[(i6 a0),(.sl 64 true (([a1,a2]).map eVb))]) (u:=[]) (r:=(i6 r3)) rfl rfl (Den.args (impl_polysCode_ok a0 ([a1,a2]) r3 hr4) rfl rfl (.cons (.refl _) (.cons (.loose _) .nil))) rfl (vp (i6 r3) rfl (nk ⟨[(0,i6 a0),(4,ow 4),(5,ow 5),(6,ow 6),(8,i6 r3)],[(4,bk (eVb a1)),(5,bk (eVb a2)),(6,bk (eVb ((vrep 64 (0 : Int)))))]⟩ (sr (vp (i6 r3) rfl (vp (.bool (r3 != 0)) rfl (nk ⟨[(0,i6 a0),(4,ow 4),(5,ow 5),(6,ow 6),(8,i6 r3),(15,.bool (r3 != 0))],[(4,bk (eVb a1)),(5,bk (eVb a2)),(6,bk (eVb ((vrep 64 (0 : Int)))))]⟩ ?_))))))
 cases hb5 : (r3 != 0)
 ·have h:=ite_f hb5 h
  refine a_cond_f rfl (a_skip (nj ⟨[(0,i6 a0),(4,ow 4),(5,ow 5),(6,ow 6)],[(4,bk (eVb a1)),(5,bk (eVb a2)),(6,bk (eVb ((vrep 64 (0 : Int)))))]⟩ (a_seq (a_draw [⟨[],[],[],[]⟩,⟨[4],[],[],[]⟩,⟨[],[],[],[1]⟩,⟨[5],[],[],[]⟩,⟨[],[],[],[1,2,3]⟩,⟨[],[],[],[0,1,2,3,4]⟩,⟨[],[],[],[0,1,2,3,4,5]⟩,⟨[],[],[],[0,1,2,3,4,5,6]⟩,⟨[],[],[],[0,1,2,3,4,5,6]⟩,⟨[6],[6],[],[0,1,2,3,4,5,6,7,8]⟩,⟨[],[],[],[0,1,2,3,4,5,6,7,8,9]⟩] (by kernel_rfl) (dj (i6 a0) rfl (d_cons (vl (eVb a1) rfl rfl rfl rfl rfl rfl (d_next (by kernel_rfl) (d_cons ?_)))))))))
  obtain ⟨r18,hr19,h⟩:=bind_some h
  refine a_call (args:=[(eVb a1)]) (u:=[]) (r:=(eSi64 r18)) rfl rfl (impl_rowOf_ok a1 r18 hr19) rfl (d_next (by kernel_rfl) (d_cons (vl (eVb a2) rfl rfl rfl rfl rfl rfl (d_next (by kernel_rfl) (d_cons ?_)))))
  obtain ⟨r21,hr22,h⟩:=bind_some h
  refine a_call (args:=[(eVb a2)]) (u:=[]) (r:=(eSi64 r21)) rfl rfl (impl_rowOf_ok a2 r21 hr22) rfl (d_next (by kernel_rfl) (d_cons ?_))
  obtain ⟨r23,hr24,h⟩:=bind_some h
  refine a_call (args:=[(i6 a0),(eSi64 r18),(eSi64 r21)]) (u:=[]) (r:=(eSi64 r23)) rfl rfl (impl_prime_compose_ok a0 r18 r21 r23 hr24) rfl (d_next (by kernel_rfl) (d_cons ?_))
  obtain ⟨r25,hr26,h⟩:=bind_some h
  refine a_call (args:=[(eSi64 r23)]) (u:=[]) (r:=(.tuple [(eVb r25.1),(i6 r25.2)])) rfl rfl (impl_told_ok r23 r25 hr26) rfl (d_next (by kernel_rfl) (d_cons (vb (eVb r25.1) rfl rfl (d_next (by kernel_rfl) (d_cons (vb (i6 r25.2) rfl rfl (d_next (by kernel_rfl) (d_cons (vs (eVb r25.1) rfl rfl (fun _=>rfl) rfl rfl rfl rfl rfl rfl ?_)))))))))
  refine d_next (by kernel_rfl) (dj (i6 r25.2) rfl (d_nil (a_next rfl (a_ret ?_))))
  have hl28 : LdOk [] (eVb r25.1) [] 64 true (eVb r25.1):=(.nil rfl rfl rfl)
  refine ⟨.inr rfl,?_⟩
  rw [Try.results83]
  cases h
  exact ⟨_,_,_,_,_,ld_own (i:=⟨.arr 64 5,64,64,(eVb (vrep 64 (0 : Int)))⟩) rfl rfl rfl hl28,hl28.c,.inl ⟨rfl,.inl rfl⟩,rfl,⟨_,_,_,_,_,rfl,trivial,.inl ⟨rfl,.inl rfl⟩,rfl,rfl⟩⟩
 ·have h:=ite_t hb5 h
  refine a_cond_t rfl (sr (vq (eVb ((vrep 64 (0 : Int)))) rfl ⟨⟨_,rfl,rfl⟩,all_nil⟩ (vp (i6 r3) rfl (vs (eVb ((vrep 64 (0 : Int)))) rfl rfl (fun _=>rfl) rfl rfl rfl rfl rfl rfl (vp (i6 r3) rfl (nx _ rfl (a_ret (t_ret ?_))))))))
  have hl30 : LdOk [] (eVb ((vrep 64 (0 : Int)))) [] 64 true (eVb ((vrep 64 (0 : Int)))):=(.nil rfl rfl rfl)
  refine ⟨.inr rfl,?_⟩
  rw [Try.results83]
  cases h
  exact ⟨_,_,_,_,_,ld_own (i:=⟨.arr 64 5,64,64,(eVb (vrep 64 (0 : Int)))⟩) rfl rfl rfl hl30,hl30.c,.inl ⟨rfl,.inl rfl⟩,rfl,⟨_,_,_,_,_,rfl,trivial,.inl ⟨rfl,.inl rfl⟩,rfl,rfl⟩⟩
def spec_l01Point_c : ACode:=(.seq (.region 0 [q 4 (.box 25 (t 1)),q 6 (.asg 0 (.const (.int .i64 0)) 2)] false) (.seq (.region 1 [q 7 (.asg 0 (.const (.int .i64 0)) 2)] false) (.seq (.seq (.region 2 [q 8 (.asg 0 (.const (.int .i64 63)) 3)] false) (.block 0 (.loop (.seq (.seq (.region 3 [q 9 (.mov (t 8)),q 10 (.bin .geq 3 (t 9) (.const (.int .i64 0)))] false) (.cond (t 10) .skip (.exit 0))) (.seq (.block 1 (.region 5 [q 13 (.mov (t 7)),q 14 (.mov (t 2)),q 15 (.bin .mul 2 (t 13) (t 14)),q 16 (.mov (t 8)),q 17 (.indexAddr 25 (t 4) (t 16)),q 18 (.load 5 (t 17)),q 19 (.conv 5 2 (t 18)),q 20 (.bin .add 2 (t 15) (t 19)),q 21 (.mov (t 0)),q 22 (.bin .rem 2 (t 20) (t 21)),q 7 (.asg 0 (t 22) 2)] false)) (.region 4 [q 11 (.mov (t 8)),q 12 (.bin .sub 3 (t 11) (.const (.int .i64 1))),q 8 (.asg 0 (t 12) 3)] false)))))) (.seq (.region 6 [q 23 (.mov (t 7)),q 6 (.asg 0 (t 23) 2)] false) .ret))))
def spec_l01Point_L : Live:=[(0,[0,1,2]),(1,[0,2,4]),(2,[0,2,4,7]),(3,[0,2,4,7,8]),(4,[0,2,4,7,8]),(5,[0,2,4,7,8]),(6,[7]),(100010,[0,2,4,7,8,10])]
noncomputable def spec_l01Point_l1 (a2 : Int) (a1 : (Vec Int 64)) (a0 : Int) (x35 : Int) (x36 : Int) : Option ((Int × Int) ⊕ Int) :=
 (if (decide (x36 ≥ 0)) then (ifp (0 ≤ x36 ∧ x36 < ((64 : Nat) : Int)) ((letp (IntKind.i64.wrap ((IntKind.i64.wrap (x35 * a2)) + (IntKind.i64.wrap (rd a1.1 x36.toNat)))) fun x49=>(ifp (a0 ≠ 0) ((some (.inl ((Int.tmod x49 a0,IntKind.i64.wrap (x36 - 1)))))))))) else (some (.inr x35)))
noncomputable def spec_l01Point (a0 : Int) (a1 : (Vec Int 64)) (a2 : Int) : Option Int :=
 (Option.bind (α:=Int) ((loopM (fun s : (Int × Int)=>spec_l01Point_l1 a2 a1 a0 s.1 s.2) (0,63))) fun x25=>(some x25))
theorem spec_l01Point_ok (a0 : Int) (a1 : (Vec Int 64)) (a2 : Int) (r : Int) (h : spec_l01Point a0 a1 a2 = some r) : Den Try.prog 170 [(i6 a0),(eVb a1),(i6 a2)] { r:=(i6 r) }:=by
 refine den_of (rs:=[(i6 r)]) (ac:=spec_l01Point_c) (L:=spec_l01Point_L) (n:=24) (m:=[]) (c:=Try.f170.body.getD .skip) good Try.func170 (by kernel_rfl) (by kernel_rfl) Try.ntmps170 rfl rfl (by kernel_rfl) rfl rfl ?_
 refine ns ⟨[(0,i6 a0),(1,eVb a1),(2,i6 a2)],[]⟩ ?_
 unfold spec_l01Point_c
 refine sr (vo 1400 (eVb a1) rfl rfl (vp (i6 0) rfl (nk ⟨[(0,i6 a0),(2,i6 a2),(4,ow 4)],[(4,bk (eVb a1))]⟩ (sr (vp (i6 0) rfl (nk ⟨[(0,i6 a0),(2,i6 a2),(4,ow 4),(7,i6 0)],[(4,bk (eVb a1))]⟩ ?_))))))
 obtain ⟨y26,hy27,hk28⟩:=bind_some h
 clear h
 refine a_join (emb:=fun (s : Int)=>⟨[(7,i6 s)],[]⟩) (pre:=fun s=>s = y26) ?_ ?_
 ·rintro x25 rfl
  have h:=hk28
  refine ns ⟨[(7,i6 x25)],[]⟩ (sr (vp (i6 x25) rfl (vp (i6 x25) rfl (nx _ rfl (a_ret ?_)))))
  refine ⟨.inr rfl,?_⟩
  rw [Try.results170]
  cases h
  exact ⟨_,_,_,_,_,rfl,trivial,.inl ⟨rfl,.inl rfl⟩,rfl,rfl⟩
 ·have h:=hy27
  refine sr (vp (i6 63) rfl (nk ⟨[(0,i6 a0),(2,i6 a2),(4,ow 4),(7,i6 0),(8,i6 63)],[(4,bk (eVb a1))]⟩ (a_block ?_)))
  refine a_loop (emb:=fun (s : (Int × Int))=>⟨[(0,i6 a0),(2,i6 a2),(4,ow 4),(7,i6 s.1),(8,i6 s.2)],[(4,bk (eVb a1))]⟩) (body:=(fun s : (Int × Int)=>spec_l01Point_l1 a2 a1 a0 s.1 s.2)) (G:=fun q=>some q = some y26) h rfl ?_ (by kernel_rfl)
  rintro X43 ⟨x35,x36⟩ x44 h hX45
  have h : spec_l01Point_l1 a2 a1 a0 x35 x36 = some x44:=h
  refine ns ⟨[(0,i6 a0),(2,i6 a2),(4,ow 4),(7,i6 x35),(8,i6 x36)],[(4,bk (eVb a1))]⟩ (a_seq (sr (vp (i6 x36) rfl (vp (.bool ((decide (x36 ≥ 0)))) rfl (nk ⟨[(0,i6 a0),(2,i6 a2),(4,ow 4),(7,i6 x35),(8,i6 x36),(10,.bool ((decide (x36 ≥ 0))))],[(4,bk (eVb a1))]⟩ ?_)))))
  cases hb46 : (decide (x36 ≥ 0))
  ·have h:=ite_f hb46 h
   refine a_cond_f rfl (a_exit (t_exit ?_))
   cases h
   have h:=hX45
   refine t_exit (b_exit ?_)
   exact j_leaf x35 (Option.some.inj h) (by kernel_rfl)
  ·have h:=ite_t hb46 h
   refine a_cond_t rfl (a_skip (nj ⟨[(0,i6 a0),(2,i6 a2),(4,ow 4),(7,i6 x35),(8,i6 x36)],[(4,bk (eVb a1))]⟩ (a_seq (a_block (a_region (vp (i6 x35) rfl (vp (i6 a2) rfl (vp (i6 (IntKind.i64.wrap (x35 * a2))) rfl (vp (i6 x36) rfl ?_)))))))))
   obtain ⟨hc47,h⟩:=ifp_some h
   refine vq (.own 4 [x36.toNat] [x36.toNat * 1]) rfl hc47 ?_
   have hl48 : LdOk [x36.toNat] (eVb a1) [x36.toNat * 1] 1 false (b8 (rd a1.1 x36.toNat)):=(.arr (vlt a1 hc47) rfl (.nil rfl rfl rfl))
   refine vq (b8 (rd a1.1 x36.toNat)) (ld_own (i:=⟨.int .u8,1,1,(.int .u8 0)⟩) rfl rfl rfl hl48) hl48.c (vp (i6 (IntKind.i64.wrap (rd a1.1 x36.toNat))) rfl ?_)
   obtain ⟨x49,hx50,h⟩:=letp_some h
   refine a_val' (v:=(i6 (IntKind.i64.wrap ((IntKind.i64.wrap (x35 * a2)) + (IntKind.i64.wrap (rd a1.1 x36.toNat)))))) (v':=(i6 x49)) (u:=[]) (u':=[]) rfl (congrArg (fun z=>((i6 z) : AV)) hx50) rfl trivial rfl (vp (i6 a0) rfl ?_)
   obtain ⟨hc51,h⟩:=ifp_some h
   refine vq (i6 (Int.tmod x49 a0)) rfl hc51 (vp (i6 (Int.tmod x49 a0)) rfl (a_nil (b_norm (nj ⟨[(0,i6 a0),(2,i6 a2),(4,ow 4),(7,i6 (Int.tmod x49 a0)),(8,i6 x36)],[(4,bk (eVb a1))]⟩ (a_region (vp (i6 x36) rfl (vp (i6 (IntKind.i64.wrap (x36 - 1))) rfl (vp (i6 (IntKind.i64.wrap (x36 - 1))) rfl (a_nil ?_)))))))))
   cases h
   exact a_again (by kernel_rfl) hX45
def spec_ComposePolys_c : ACode:=(.seq (.region 0 [q 4 (.box 25 (t 1)),q 5 (.box 25 (t 2)),q 6 (.alloc 25),q 7 (.asg 0 (.const (.int .i64 0)) 2)] false) (.seq (.seq (.region 1 [q 15 (.mov (t 0)),q 16 (.load 25 (t 4)),q 17 (.load 25 (t 5)),q 18 (.bslice 0 55 2 [(0,t 16),(1,t 17)]),q 19 (.call 0 (.func 104) [(t 15),(t 18)]),q 8 (.asg 0 (t 19) 2)] false) (.seq (.region 2 [q 20 (.mov (t 8)),q 21 (.bin .neq 2 (t 20) (.const (.int .i64 0)))] false) (.cond (t 21) (.seq (.region 3 [q 22 (.build 25 []),q 23 (.mov (t 8)),⟨none,.store 25 (t 6) (t 22),none,[]⟩,q 7 (.asg 0 (t 23) 2)] false) .ret) .skip))) (.seq (.region 4 [q 24 (.load 25 (t 4)),⟨some 25,.call 0 (.func 112) [(t 24)],none,[0]⟩,q 26 (.load 25 (t 5)),⟨some 27,.call 0 (.func 112) [(t 26)],none,[2,1]⟩,⟨some 9,.asg 0 (t 25) 2,none,[1,3,0,1]⟩,⟨some 10,.asg 0 (t 27) 2,none,[3,4,0,1,2,3,4]⟩] true) (.seq (.block 0 (.seq (.region 5 [q 29 (.mov (t 9)),q 30 (.bin .lss 2 (t 29) (.const (.int .i64 0))),q 28 (.asg 0 (t 30) 4)] false) (.cond (t 28) (.seq (.region 6 [q 31 (.build 25 []),⟨none,.store 25 (t 6) (t 31),none,[]⟩,q 7 (.asg 0 (.const (.int .i64 0)) 2)] false) .ret) (.seq (.region 7 [q 33 (.mov (t 10)),q 34 (.bin .leq 2 (t 33) (.const (.int .i64 0))),q 32 (.asg 0 (t 34) 4)] false) (.cond (t 32) (.seq (.region 8 [q 35 (.mov (t 0)),q 36 (.load 25 (t 4)),q 37 (.indexAddr 25 (t 5) (.const (.int .i64 0))),q 38 (.load 5 (t 37)),q 39 (.conv 5 2 (t 38)),q 40 (.call 0 (.func 170) [(t 35),(t 36),(t 39)]),q 41 (.conv 2 5 (t 40)),q 42 (.build 25 [(0,t 41)]),⟨none,.store 25 (t 6) (t 42),none,[]⟩,q 7 (.asg 0 (.const (.int .i64 0)) 2)] false) .ret) (.seq (.region 9 [q 44 (.mov (t 9)),q 45 (.mov (t 10)),q 46 (.bin .mul 2 (t 44) (t 45)),q 47 (.bin .gtr 2 (t 46) (.const (.int .i64 63))),q 43 (.asg 0 (t 47) 4)] false) (.cond (t 43) (.seq (.region 10 [q 48 (.build 25 []),⟨none,.store 25 (t 6) (t 48),none,[]⟩,q 7 (.asg 0 (.const (.int .i64 3)) 2)] false) .ret) .skip))))))) (.seq (.region 11 [q 49 (.build 25 []),q 11 (.alloc 25),⟨none,.store 25 (t 11) (t 49),none,[]⟩] false) (.seq (.seq (.region 12 [q 50 (.mov (t 9)),q 12 (.asg 0 (t 50) 2)] false) (.block 1 (.loop (.seq (.seq (.region 13 [q 51 (.mov (t 12)),q 52 (.bin .geq 2 (t 51) (.const (.int .i64 0)))] false) (.cond (t 52) .skip (.exit 1))) (.seq (.block 2 (.seq (.region 15 [q 56 (.mov (t 0)),q 57 (.load 25 (t 11)),q 58 (.load 25 (t 5)),q 59 (.call 0 (.func 105) [(t 56),(t 57),(t 58)]),q 55 (.mov (t 59)),q 60 (.extract (t 55) 0),q 61 (.extract (t 55) 1),q 13 (.alloc 25),⟨none,.store 25 (t 13) (t 60),none,[]⟩,q 14 (.asg 0 (t 61) 4)] false) (.seq (.region 16 [q 62 (.indexAddr 25 (t 13) (.const (.int .i64 0))),⟨some 63,.load 5 (t 62),none,[0]⟩,⟨some 64,.conv 5 2 (t 63),none,[1]⟩,q 65 (.mov (t 12)),⟨some 66,.indexAddr 25 (t 4) (t 65),none,[3]⟩,⟨some 67,.load 5 (t 66),none,[4]⟩,⟨some 68,.conv 5 2 (t 67),none,[5]⟩,⟨some 69,.bin .add 2 (t 64) (t 68),none,[2,6]⟩,q 70 (.mov (t 0)),⟨some 71,.bin .rem 2 (t 69) (t 70),none,[7,8]⟩,⟨some 72,.conv 2 5 (t 71),none,[9]⟩,⟨some 73,.indexAddr 25 (t 13) (.const (.int .i64 0)),none,[0,1,2,3,4,5,6,7,8,9,10]⟩,⟨none,.store 5 (t 73) (t 72),none,[11,10,0,1,2,3,4,5,6,7,8,9,10]⟩] true) (.region 17 [q 74 (.load 25 (t 13)),⟨none,.store 25 (t 11) (t 74),none,[]⟩] false)))) (.region 14 [q 53 (.mov (t 12)),q 54 (.bin .sub 2 (t 53) (.const (.int .i64 1))),q 12 (.asg 0 (t 54) 2)] false)))))) (.seq (.region 18 [q 75 (.load 25 (t 11)),⟨none,.store 25 (t 6) (t 75),none,[]⟩,q 7 (.asg 0 (.const (.int .i64 0)) 2)] false) .ret)))))))
def spec_ComposePolys_L : Live:=[(0,[0,1,2]),(1,[0,4,5,6]),(2,[0,4,5,6,8]),(3,[6,8]),(4,[0,4,5,6]),(5,[0,4,5,6,9,10]),(6,[6]),(7,[0,4,5,6,9,10]),(8,[0,4,5,6]),(9,[0,4,5,6,9,10]),(10,[6]),(11,[0,4,5,6,9]),(12,[0,4,5,6,9,11]),(13,[0,4,5,6,11,12]),(14,[0,4,5,6,11,12]),(15,[0,4,5,6,11,12]),(16,[0,4,5,6,11,12,13]),(17,[0,4,5,6,11,12,13]),(18,[6,11]),(100021,[0,4,5,6,8,21]),(100028,[0,4,5,6,9,10,28]),(100032,[0,4,5,6,9,10,32]),(100043,[0,4,5,6,9,43]),(100052,[0,4,5,6,11,12,52])]
noncomputable def spec_ComposePolys_l1 (a0 : Int) (a2 : (Vec Int 64)) (a1 : (Vec Int 64)) (x144 : Int) (x145 : (Vec Int 64)) : Option ((Int × (Vec Int 64)) ⊕ (Vec Int 64)) :=
 (if (decide (x144 ≥ 0)) then (Option.bind (spec_l01Times a0 x145 a2) fun r180=>(ifp (0 ≤ (0 : Int) ∧ (0 : Int) < ((64 : Nat) : Int)) ((ifp (0 ≤ x144 ∧ x144 < ((64 : Nat) : Int)) ((letp (IntKind.i64.wrap ((IntKind.i64.wrap ((rd r180.1.1 (0 : Int).toNat))) + (IntKind.i64.wrap (rd a1.1 x144.toNat)))) fun x196=>(ifp (a0 ≠ 0) ((ifp (0 ≤ (0 : Int) ∧ (0 : Int) < ((64 : Nat) : Int)) ((letp ((vset r180.1 (0 : Int).toNat (IntKind.u8.wrap (Int.tmod x196 a0)))) fun x202=>(some (.inl ((IntKind.i64.wrap (x144 - 1),x202))))))))))))))) else (some (.inr x145)))
noncomputable def spec_ComposePolys (a0 : Int) (a1 : (Vec Int 64)) (a2 : (Vec Int 64)) : Option ((Vec Int 64) × Int) :=
 (Option.bind (spec_l01Code a0 ([a1,a2])) fun r3=>(if (r3 != 0) then (some (((vrep 64 (0 : Int)),r3))) else (Option.bind (spec_l01Deg a1) fun r13=>(Option.bind (spec_l01Deg a2) fun r16=>(if (decide (r13 < 0)) then (some (((vrep 64 (0 : Int)),0))) else (if (decide (r16 ≤ 0)) then (ifp (0 ≤ (0 : Int) ∧ (0 : Int) < ((64 : Nat) : Int)) ((Option.bind (spec_l01Point a0 a1 (IntKind.i64.wrap ((rd a2.1 (0 : Int).toNat)))) fun r214=>(some (((vset (vrep 64 (0 : Int)) 0 (IntKind.u8.wrap r214)),0)))))) else (if (decide ((IntKind.i64.wrap (r13 * r16)) > 63)) then (some (((vrep 64 (0 : Int)),3))) else (Option.bind (α:=(Vec Int 64)) ((loopM (fun s : (Int × (Vec Int 64))=>spec_ComposePolys_l1 a0 a2 a1 s.1 s.2) (r13,(vrep 64 (0 : Int))))) fun x112=>(some (x112,0))))))))))
theorem spec_ComposePolys_ok (a0 : Int) (a1 : (Vec Int 64)) (a2 : (Vec Int 64)) (r : ((Vec Int 64) × Int)) (h : spec_ComposePolys a0 a1 a2 = some r) : Den Try.prog 84 [(i6 a0),(eVb a1),(eVb a2)] { r:=(.tuple [(eVb r.1),(i6 r.2)]) }:=by
 refine den_of (rs:=[(eVb r.1),(i6 r.2)]) (ac:=spec_ComposePolys_c) (L:=spec_ComposePolys_L) (n:=76) (m:=[]) (c:=Try.f84.body.getD .skip) good Try.func84 (by kernel_rfl) (by kernel_rfl) Try.ntmps84 rfl rfl (by kernel_rfl) rfl rfl ?_
 refine ns ⟨[(0,i6 a0),(1,eVb a1),(2,eVb a2)],[]⟩ ?_
 unfold spec_ComposePolys_c
 refine sr (vo 1400 (eVb a1) rfl rfl (vo 1500 (eVb a2) rfl rfl (vo 1600 (eVb ((vrep 64 (0 : Int)))) rfl rfl (vp (i6 0) rfl (nk ⟨[(0,i6 a0),(4,ow 4),(5,ow 5),(6,ow 6)],[(4,bk (eVb a1)),(5,bk (eVb a2)),(6,bk (eVb ((vrep 64 (0 : Int)))))]⟩ (a_seq (sr (vp (i6 a0) rfl (vl (eVb a1) rfl rfl rfl rfl rfl rfl ?_)))))))))
 refine vl (eVb a2) rfl rfl rfl rfl rfl rfl (vq (.sl 64 true (([a1,a2]).map eVb)) rfl ⟨(Nat.le_of_ble_eq_true rfl),(Nat.le_of_ble_eq_true rfl),(all_cons ⟨(Nat.le_of_ble_eq_true rfl),rfl⟩ (all_cons ⟨(Nat.le_of_ble_eq_true rfl),rfl⟩ all_nil))⟩ ?_)
 obtain ⟨r3,hr4,h⟩:=bind_some h
 refine a_call (args:=[(i6 a0),(.sl 64 true (([a1,a2]).map eVb))]) (u:=[]) (r:=(i6 r3)) rfl rfl (Den.args (spec_l01Code_ok a0 ([a1,a2]) r3 hr4) rfl rfl (.cons (.refl _) (.cons (.loose _) .nil))) rfl (vp (i6 r3) rfl (nk ⟨[(0,i6 a0),(4,ow 4),(5,ow 5),(6,ow 6),(8,i6 r3)],[(4,bk (eVb a1)),(5,bk (eVb a2)),(6,bk (eVb ((vrep 64 (0 : Int)))))]⟩ (sr (vp (i6 r3) rfl (vp (.bool (r3 != 0)) rfl (nk ⟨[(0,i6 a0),(4,ow 4),(5,ow 5),(6,ow 6),(8,i6 r3),(21,.bool (r3 != 0))],[(4,bk (eVb a1)),(5,bk (eVb a2)),(6,bk (eVb ((vrep 64 (0 : Int)))))]⟩ ?_))))))
 cases hb5 : (r3 != 0)
 ·have h:=ite_f hb5 h
  refine a_cond_f rfl (a_skip (nj ⟨[(0,i6 a0),(4,ow 4),(5,ow 5),(6,ow 6)],[(4,bk (eVb a1)),(5,bk (eVb a2)),(6,bk (eVb ((vrep 64 (0 : Int)))))]⟩ (a_seq (a_draw [⟨[4],[],[],[]⟩,⟨[],[],[],[0]⟩,⟨[5],[],[],[]⟩,⟨[],[],[],[0,1,2]⟩,⟨[],[],[],[0,1,2,3]⟩,⟨[],[],[],[0,1,2,3,4]⟩] (by kernel_rfl) (d_cons (vl (eVb a1) rfl rfl rfl rfl rfl rfl (d_next (by kernel_rfl) (d_cons ?_))))))))
  obtain ⟨r13,hr14,h⟩:=bind_some h
  refine a_call (args:=[(eVb a1)]) (u:=[]) (r:=(i6 r13)) rfl rfl (spec_l01Deg_ok a1 r13 hr14) rfl (d_next (by kernel_rfl) (d_cons (vl (eVb a2) rfl rfl rfl rfl rfl rfl (d_next (by kernel_rfl) (d_cons ?_)))))
  obtain ⟨r16,hr17,h⟩:=bind_some h
  refine a_call (args:=[(eVb a2)]) (u:=[]) (r:=(i6 r16)) rfl rfl (spec_l01Deg_ok a2 r16 hr17) rfl (d_next (by kernel_rfl) (dj (i6 r13) rfl (dj (i6 r16) rfl (d_nil (nj ⟨[(0,i6 a0),(4,ow 4),(5,ow 5),(6,ow 6),(9,i6 r13),(10,i6 r16)],[(4,bk (eVb a1)),(5,bk (eVb a2)),(6,bk (eVb ((vrep 64 (0 : Int)))))]⟩ (a_seq (a_block (sr (vp (i6 r13) rfl ?_)))))))))
  refine vp (.bool ((decide (r13 < 0)))) rfl (vp (.bool ((decide (r13 < 0)))) rfl (nk ⟨[(0,i6 a0),(4,ow 4),(5,ow 5),(6,ow 6),(9,i6 r13),(10,i6 r16),(28,.bool ((decide (r13 < 0))))],[(4,bk (eVb a1)),(5,bk (eVb a2)),(6,bk (eVb ((vrep 64 (0 : Int)))))]⟩ ?_))
  cases hb18 : (decide (r13 < 0))
  ·have h:=ite_f hb18 h
   refine a_cond_f rfl (sr (vp (i6 r16) rfl (vp (.bool ((decide (r16 ≤ 0)))) rfl (vp (.bool ((decide (r16 ≤ 0)))) rfl (nk ⟨[(0,i6 a0),(4,ow 4),(5,ow 5),(6,ow 6),(9,i6 r13),(10,i6 r16),(32,.bool ((decide (r16 ≤ 0))))],[(4,bk (eVb a1)),(5,bk (eVb a2)),(6,bk (eVb ((vrep 64 (0 : Int)))))]⟩ ?_)))))
   cases hb19 : (decide (r16 ≤ 0))
   ·have h:=ite_f hb19 h
    refine a_cond_f rfl (sr (vp (i6 r13) rfl (vp (i6 r16) rfl (vp (i6 (IntKind.i64.wrap (r13 * r16))) rfl (vp (.bool ((decide ((IntKind.i64.wrap (r13 * r16)) > 63)))) rfl (vp (.bool ((decide ((IntKind.i64.wrap (r13 * r16)) > 63)))) rfl (nk ⟨[(0,i6 a0),(4,ow 4),(5,ow 5),(6,ow 6),(9,i6 r13),(43,.bool ((decide ((IntKind.i64.wrap (r13 * r16)) > 63))))],[(4,bk (eVb a1)),(5,bk (eVb a2)),(6,bk (eVb ((vrep 64 (0 : Int)))))]⟩ ?_)))))))
    cases hb20 : (decide ((IntKind.i64.wrap (r13 * r16)) > 63))
    ·have h:=ite_f hb20 h
     refine a_cond_f rfl (a_skip (b_norm (nj ⟨[(0,i6 a0),(4,ow 4),(5,ow 5),(6,ow 6),(9,i6 r13)],[(4,bk (eVb a1)),(5,bk (eVb a2)),(6,bk (eVb ((vrep 64 (0 : Int)))))]⟩ (sr (vq (eVb ((vrep 64 (0 : Int)))) rfl ⟨⟨_,rfl,rfl⟩,all_nil⟩ (vo 2100 (eVb ((vrep 64 (0 : Int)))) rfl rfl (vs (eVb ((vrep 64 (0 : Int)))) rfl rfl (fun _=>rfl) rfl rfl rfl rfl rfl rfl (nk ⟨[(0,i6 a0),(4,ow 4),(5,ow 5),(6,ow 6),(9,i6 r13),(11,ow 11)],[(4,bk (eVb a1)),(5,bk (eVb a2)),(6,bk (eVb ((vrep 64 (0 : Int))))),(11,bk (eVb ((vrep 64 (0 : Int)))))]⟩ ?_))))))))
     obtain ⟨y113,hy114,hk115⟩:=bind_some h
     clear h
     refine a_join (emb:=fun (s : (Vec Int 64))=>⟨[(6,ow 6),(11,ow 11)],[(6,bk (eVb ((vrep 64 (0 : Int))))),(11,bk (eVb s))]⟩) (pre:=fun s=>s = y113) ?_ ?_
     ·rintro x112 rfl
      have h:=hk115
      refine ns ⟨[(6,ow 6),(11,ow 11)],[(6,bk (eVb ((vrep 64 (0 : Int))))),(11,bk (eVb x112))]⟩ (sr (vl (eVb x112) rfl rfl rfl rfl rfl rfl (vs (eVb x112) rfl rfl (fun _=>rfl) rfl rfl rfl rfl rfl rfl (vp (i6 0) rfl (nx _ rfl (a_ret ?_))))))
      have hl208 : LdOk [] (eVb x112) [] 64 true (eVb x112):=(.nil rfl rfl rfl)
      refine ⟨.inr rfl,?_⟩
      rw [Try.results84]
      cases h
      exact ⟨_,_,_,_,_,ld_own (i:=⟨.arr 64 5,64,64,(eVb (vrep 64 (0 : Int)))⟩) rfl rfl rfl hl208,hl208.c,.inl ⟨rfl,.inl rfl⟩,rfl,⟨_,_,_,_,_,rfl,trivial,.inl ⟨rfl,.inl rfl⟩,rfl,rfl⟩⟩
     ·have h:=hy114
      refine sr (vp (i6 r13) rfl (vp (i6 r13) rfl (nk ⟨[(0,i6 a0),(4,ow 4),(5,ow 5),(6,ow 6),(11,ow 11),(12,i6 r13)],[(4,bk (eVb a1)),(5,bk (eVb a2)),(6,bk (eVb ((vrep 64 (0 : Int))))),(11,bk (eVb ((vrep 64 (0 : Int)))))]⟩ (a_block ?_))))
      refine a_loop (emb:=fun (s : (Int × (Vec Int 64)))=>⟨[(0,i6 a0),(4,ow 4),(5,ow 5),(6,ow 6),(11,ow 11),(12,i6 s.1)],[(4,bk (eVb a1)),(5,bk (eVb a2)),(6,bk (eVb ((vrep 64 (0 : Int))))),(11,bk (eVb s.2))]⟩) (body:=(fun s : (Int × (Vec Int 64))=>spec_ComposePolys_l1 a0 a2 a1 s.1 s.2)) (G:=fun q=>some q = some y113) h rfl ?_ (by kernel_rfl)
      rintro X174 ⟨x144,x145⟩ x175 h hX176
      have h : spec_ComposePolys_l1 a0 a2 a1 x144 x145 = some x175:=h
      refine ns ⟨[(0,i6 a0),(4,ow 4),(5,ow 5),(6,ow 6),(11,ow 11),(12,i6 x144)],[(4,bk (eVb a1)),(5,bk (eVb a2)),(6,bk (eVb ((vrep 64 (0 : Int))))),(11,bk (eVb x145))]⟩ (a_seq (sr (vp (i6 x144) rfl (vp (.bool ((decide (x144 ≥ 0)))) rfl (nk ⟨[(0,i6 a0),(4,ow 4),(5,ow 5),(6,ow 6),(11,ow 11),(12,i6 x144),(52,.bool ((decide (x144 ≥ 0))))],[(4,bk (eVb a1)),(5,bk (eVb a2)),(6,bk (eVb ((vrep 64 (0 : Int))))),(11,bk (eVb x145))]⟩ ?_)))))
      cases hb177 : (decide (x144 ≥ 0))
      ·have h:=ite_f hb177 h
       refine a_cond_f rfl (a_exit (t_exit ?_))
       cases h
       have h:=hX176
       refine t_exit (b_exit ?_)
       exact j_leaf x145 (Option.some.inj h) (by kernel_rfl)
      ·have h:=ite_t hb177 h
       refine a_cond_t rfl (a_skip (nj ⟨[(0,i6 a0),(4,ow 4),(5,ow 5),(6,ow 6),(11,ow 11),(12,i6 x144)],[(4,bk (eVb a1)),(5,bk (eVb a2)),(6,bk (eVb ((vrep 64 (0 : Int))))),(11,bk (eVb x145))]⟩ (a_seq (a_block (sr (vp (i6 a0) rfl (vl (eVb x145) rfl rfl rfl rfl rfl rfl (vl (eVb a2) rfl rfl rfl rfl rfl rfl ?_))))))))
       obtain ⟨r180,hr181,h⟩:=bind_some h
       refine a_call (args:=[(i6 a0),(eVb x145),(eVb a2)]) (u:=[]) (r:=(.tuple [(eVb r180.1),(.bool r180.2)])) rfl rfl (spec_l01Times_ok a0 x145 a2 r180 hr181) rfl (vp (.tuple [(eVb r180.1),(.bool r180.2)]) rfl (vb (eVb r180.1) rfl rfl (vb (.bool r180.2) rfl rfl (vo 2300 (eVb ((vrep 64 (0 : Int)))) rfl rfl (vs (eVb r180.1) rfl rfl (fun _=>rfl) rfl rfl rfl rfl rfl rfl (vp (.bool r180.2) rfl (nk ⟨[(0,i6 a0),(4,ow 4),(5,ow 5),(6,ow 6),(11,ow 11),(12,i6 x144),(13,ow 13)],[(4,bk (eVb a1)),(5,bk (eVb a2)),(6,bk (eVb ((vrep 64 (0 : Int))))),(11,bk (eVb x145)),(13,bk (eVb r180.1))]⟩ (a_seq (a_draw [⟨[13],[],[13],[]⟩,⟨[13],[],[],[0]⟩,⟨[],[],[],[0,1]⟩,⟨[],[],[],[]⟩,⟨[4],[],[4],[3]⟩,⟨[4],[],[],[3,4]⟩,⟨[],[],[],[3,4,5]⟩,⟨[],[],[],[0,1,2,3,4,5,6]⟩,⟨[],[],[],[]⟩,⟨[],[],[],[0,1,2,3,4,5,6,7,8]⟩,⟨[],[],[],[0,1,2,3,4,5,6,7,8,9]⟩,⟨[13],[],[13],[0,1,2,3,4,5,6,7,8,9,10]⟩,⟨[13],[13],[],[0,1,2,3,4,5,6,7,8,9,10,11]⟩] (by kernel_rfl) ?_)))))))))
       refine d_cons ?_
       obtain ⟨hc192,h⟩:=ifp_some h
       refine vq (.own 13 [(0 : Int).toNat] [(0 : Int).toNat * 1]) rfl hc192 (d_next (by kernel_rfl) (d_cons ?_))
       have hl193 : LdOk [(0 : Int).toNat] (eVb r180.1) [(0 : Int).toNat * 1] 1 false (b8 ((rd r180.1.1 (0 : Int).toNat))):=(.arr (vlt r180.1 hc192) rfl (.nil rfl rfl rfl))
       refine vq (b8 ((rd r180.1.1 (0 : Int).toNat))) (ld_own (i:=⟨.int .u8,1,1,(.int .u8 0)⟩) rfl rfl rfl hl193) hl193.c (d_next (by kernel_rfl) (dj (i6 (IntKind.i64.wrap ((rd r180.1.1 (0 : Int).toNat)))) rfl (dj (i6 x144) rfl (d_cons ?_))))
       obtain ⟨hc194,h⟩:=ifp_some h
       refine vq (.own 4 [x144.toNat] [x144.toNat * 1]) rfl hc194 (d_next (by kernel_rfl) (d_cons ?_))
       have hl195 : LdOk [x144.toNat] (eVb a1) [x144.toNat * 1] 1 false (b8 (rd a1.1 x144.toNat)):=(.arr (vlt a1 hc194) rfl (.nil rfl rfl rfl))
       refine vq (b8 (rd a1.1 x144.toNat)) (ld_own (i:=⟨.int .u8,1,1,(.int .u8 0)⟩) rfl rfl rfl hl195) hl195.c (d_next (by kernel_rfl) (dj (i6 (IntKind.i64.wrap (rd a1.1 x144.toNat))) rfl (d_cons ?_)))
       obtain ⟨x196,hx197,h⟩:=letp_some h
       refine a_val' (v:=(i6 (IntKind.i64.wrap ((IntKind.i64.wrap ((rd r180.1.1 (0 : Int).toNat))) + (IntKind.i64.wrap (rd a1.1 x144.toNat)))))) (v':=(i6 x196)) (u:=[]) (u':=[]) rfl (congrArg (fun z=>((i6 z) : AV)) hx197) rfl trivial rfl (d_next (by kernel_rfl) (dj (i6 a0) rfl (d_cons ?_)))
       obtain ⟨hc198,h⟩:=ifp_some h
       refine vq (i6 (Int.tmod x196 a0)) rfl hc198 (d_next (by kernel_rfl) (dj (b8 (IntKind.u8.wrap (Int.tmod x196 a0))) rfl (d_cons ?_)))
       obtain ⟨hc199,h⟩:=ifp_some h
       refine vq (.own 13 [(0 : Int).toNat] [(0 : Int).toNat * 1]) rfl hc199 (d_next (by kernel_rfl) (d_cons ?_))
       have hs200 : StOk [(0 : Int).toNat] (eVb r180.1) [(0 : Int).toNat * 1] 1 (b8 (IntKind.u8.wrap (Int.tmod x196 a0))) (eVb ((vset r180.1 (0 : Int).toNat (IntKind.u8.wrap (Int.tmod x196 a0))))):=(.arr (y:=IntKind.u8.wrap (Int.tmod x196 a0)) (vlt r180.1 hc199) rfl (.nil rfl rfl rfl rfl))
       refine vu .top [(13,bk (eVb ((vset r180.1 (0 : Int).toNat (IntKind.u8.wrap (Int.tmod x196 a0))))))] (st_own (i:=⟨.int .u8,1,1,(.int .u8 0)⟩) rfl rfl (fun _=>rfl) rfl hs200) (hs200.c rfl) rfl (d_next (by kernel_rfl) (d_nil (nj ⟨[(0,i6 a0),(4,ow 4),(5,ow 5),(6,ow 6),(11,ow 11),(12,i6 x144),(13,ow 13)],[(4,bk (eVb a1)),(5,bk (eVb a2)),(6,bk (eVb ((vrep 64 (0 : Int))))),(11,bk (eVb x145)),(13,bk (eVb ((vset r180.1 (0 : Int).toNat (IntKind.u8.wrap (Int.tmod x196 a0))))))]⟩ (a_region ?_))))
       have hl201 : LdOk [] (eVb ((vset r180.1 (0 : Int).toNat (IntKind.u8.wrap (Int.tmod x196 a0))))) [] 64 true (eVb ((vset r180.1 (0 : Int).toNat (IntKind.u8.wrap (Int.tmod x196 a0))))):=(.nil rfl rfl rfl)
       obtain ⟨x202,hx203,h⟩:=letp_some h
       refine a_val' (v:=(eVb ((vset r180.1 (0 : Int).toNat (IntKind.u8.wrap (Int.tmod x196 a0)))))) (v':=(eVb x202)) (u:=[]) (u':=[]) (ld_own (i:=⟨.arr 64 5,64,64,(eVb (vrep 64 (0 : Int)))⟩) rfl rfl rfl hl201) (congrArg (fun z=>((eVb z) : AV)) hx203) rfl hl201.c rfl (vs (eVb x202) rfl rfl (fun _=>rfl) rfl rfl rfl rfl rfl rfl (a_nil (b_norm (nj ⟨[(0,i6 a0),(4,ow 4),(5,ow 5),(6,ow 6),(11,ow 11),(12,i6 x144)],[(4,bk (eVb a1)),(5,bk (eVb a2)),(6,bk (eVb ((vrep 64 (0 : Int))))),(11,bk (eVb x202))]⟩ (a_region (vp (i6 x144) rfl (vp (i6 (IntKind.i64.wrap (x144 - 1))) rfl (vp (i6 (IntKind.i64.wrap (x144 - 1))) rfl (a_nil ?_)))))))))
       cases h
       exact a_again (by kernel_rfl) hX176
    ·have h:=ite_t hb20 h
     refine a_cond_t rfl (sr (vq (eVb ((vrep 64 (0 : Int)))) rfl ⟨⟨_,rfl,rfl⟩,all_nil⟩ (vs (eVb ((vrep 64 (0 : Int)))) rfl rfl (fun _=>rfl) rfl rfl rfl rfl rfl rfl (vp (i6 3) rfl (nx _ rfl (a_ret (b_ret (t_ret ?_))))))))
     have hl210 : LdOk [] (eVb ((vrep 64 (0 : Int)))) [] 64 true (eVb ((vrep 64 (0 : Int)))):=(.nil rfl rfl rfl)
     refine ⟨.inr rfl,?_⟩
     rw [Try.results84]
     cases h
     exact ⟨_,_,_,_,_,ld_own (i:=⟨.arr 64 5,64,64,(eVb (vrep 64 (0 : Int)))⟩) rfl rfl rfl hl210,hl210.c,.inl ⟨rfl,.inl rfl⟩,rfl,⟨_,_,_,_,_,rfl,trivial,.inl ⟨rfl,.inl rfl⟩,rfl,rfl⟩⟩
   ·have h:=ite_t hb19 h
    refine a_cond_t rfl (sr (vp (i6 a0) rfl (vl (eVb a1) rfl rfl rfl rfl rfl rfl ?_)))
    obtain ⟨hc212,h⟩:=ifp_some h
    refine vq (.own 5 [(0 : Int).toNat] [(0 : Int).toNat * 1]) rfl hc212 ?_
    have hl213 : LdOk [(0 : Int).toNat] (eVb a2) [(0 : Int).toNat * 1] 1 false (b8 ((rd a2.1 (0 : Int).toNat))):=(.arr (vlt a2 hc212) rfl (.nil rfl rfl rfl))
    refine vq (b8 ((rd a2.1 (0 : Int).toNat))) (ld_own (i:=⟨.int .u8,1,1,(.int .u8 0)⟩) rfl rfl rfl hl213) hl213.c (vp (i6 (IntKind.i64.wrap ((rd a2.1 (0 : Int).toNat)))) rfl ?_)
    obtain ⟨r214,hr215,h⟩:=bind_some h
    refine a_call (args:=[(i6 a0),(eVb a1),(i6 (IntKind.i64.wrap ((rd a2.1 (0 : Int).toNat))))]) (u:=[]) (r:=(i6 r214)) rfl rfl (spec_l01Point_ok a0 a1 (IntKind.i64.wrap ((rd a2.1 (0 : Int).toNat))) r214 hr215) rfl (vp (b8 (IntKind.u8.wrap r214)) rfl (vq (eVb ((vset (vrep 64 (0 : Int)) 0 (IntKind.u8.wrap r214)))) rfl ⟨⟨_,rfl,rfl⟩,(all_cons ⟨(Nat.le_of_ble_eq_true rfl),rfl⟩ all_nil)⟩ (vs (eVb ((vset (vrep 64 (0 : Int)) 0 (IntKind.u8.wrap r214)))) rfl rfl (fun _=>rfl) rfl rfl rfl rfl rfl rfl (vp (i6 0) rfl (nx _ rfl (a_ret (b_ret (t_ret ?_))))))))
    have hl217 : LdOk [] (eVb ((vset (vrep 64 (0 : Int)) 0 (IntKind.u8.wrap r214)))) [] 64 true (eVb ((vset (vrep 64 (0 : Int)) 0 (IntKind.u8.wrap r214)))):=(.nil rfl rfl rfl)
    refine ⟨.inr rfl,?_⟩
    rw [Try.results84]
    cases h
    exact ⟨_,_,_,_,_,ld_own (i:=⟨.arr 64 5,64,64,(eVb (vrep 64 (0 : Int)))⟩) rfl rfl rfl hl217,hl217.c,.inl ⟨rfl,.inl rfl⟩,rfl,⟨_,_,_,_,_,rfl,trivial,.inl ⟨rfl,.inl rfl⟩,rfl,rfl⟩⟩
  ·have h:=ite_t hb18 h
   refine a_cond_t rfl (sr (vq (eVb ((vrep 64 (0 : Int)))) rfl ⟨⟨_,rfl,rfl⟩,all_nil⟩ (vs (eVb ((vrep 64 (0 : Int)))) rfl rfl (fun _=>rfl) rfl rfl rfl rfl rfl rfl (vp (i6 0) rfl (nx _ rfl (a_ret (b_ret (t_ret ?_))))))))
   have hl219 : LdOk [] (eVb ((vrep 64 (0 : Int)))) [] 64 true (eVb ((vrep 64 (0 : Int)))):=(.nil rfl rfl rfl)
   refine ⟨.inr rfl,?_⟩
   rw [Try.results84]
   cases h
   exact ⟨_,_,_,_,_,ld_own (i:=⟨.arr 64 5,64,64,(eVb (vrep 64 (0 : Int)))⟩) rfl rfl rfl hl219,hl219.c,.inl ⟨rfl,.inl rfl⟩,rfl,⟨_,_,_,_,_,rfl,trivial,.inl ⟨rfl,.inl rfl⟩,rfl,rfl⟩⟩
 ·have h:=ite_t hb5 h
  refine a_cond_t rfl (sr (vq (eVb ((vrep 64 (0 : Int)))) rfl ⟨⟨_,rfl,rfl⟩,all_nil⟩ (vp (i6 r3) rfl (vs (eVb ((vrep 64 (0 : Int)))) rfl rfl (fun _=>rfl) rfl rfl rfl rfl rfl rfl (vp (i6 r3) rfl (nx _ rfl (a_ret (t_ret ?_))))))))
  have hl221 : LdOk [] (eVb ((vrep 64 (0 : Int)))) [] 64 true (eVb ((vrep 64 (0 : Int)))):=(.nil rfl rfl rfl)
  refine ⟨.inr rfl,?_⟩
  rw [Try.results84]
  cases h
  exact ⟨_,_,_,_,_,ld_own (i:=⟨.arr 64 5,64,64,(eVb (vrep 64 (0 : Int)))⟩) rfl rfl rfl hl221,hl221.c,.inl ⟨rfl,.inl rfl⟩,rfl,⟨_,_,_,_,_,rfl,trivial,.inl ⟨rfl,.inl rfl⟩,rfl,rfl⟩⟩
def spec_l01Near_of_src_c : ACode:=(.seq (.region 0 [q 4 (.asg 0 (.const (.int .i64 0)) 2)] false) (.seq (.seq (.region 1 [q 5 (.mov (t 0)),q 6 (.call 1 (.func 123) [(t 5),(.const (.int .i64 14))]),q 7 (.bin .eql 2 (t 6) (.const (.int .i64 0)))] false) (.cond (t 7) (.seq (.region 2 [q 8 (.mov (t 0)),q 9 (.mov (t 1)),q 10 (.bin .add 2 (t 9) (.const (.int .i64 1))),q 11 (.bslice 0 59 4 [(0,.const (.int .i64 (-1))),(1,t 10),(2,.const (.int .i64 1099511627776)),(3,.const (.int .i64 (-4611686018427387904)))]),q 12 (.call 1 (.func 122) [(t 8),(t 11)]),q 4 (.asg 0 (t 12) 2)] false) .ret) .skip)) (.seq (.region 3 [q 13 (.mov (t 0)),q 14 (.mov (t 1)),q 15 (.bin .add 2 (t 14) (.const (.int .i64 1))),q 16 (.call 1 (.func 123) [(t 13),(t 15)]),q 4 (.asg 0 (t 16) 2)] false) .ret)))
def spec_l01Near_of_src_L : Live:=[(0,[0,1]),(1,[0,1]),(2,[0,1]),(3,[0,1]),(100007,[0,1,7])]
noncomputable def spec_l01Near_of_src (a0 : ((List Int) × Int × Int)) (a1 : Int) : Option (Int × ((List Int) × Int × Int)) :=
 (Option.bind (spec_l01Next_of_src a0 14) fun r1=>(if (r1.1 == 0) then (Option.bind (spec_l01Pick_of_src r1.2 ([-1,IntKind.i64.wrap (a1 + 1),1099511627776,-4611686018427387904])) fun r8=>(some (r8.1,r8.2))) else (Option.bind (spec_l01Next_of_src r1.2 (IntKind.i64.wrap (a1 + 1))) fun r5=>(some (r5.1,r5.2)))))
theorem spec_l01Near_of_src_ok (a0 : ((List Int) × Int × Int)) (a1 : Int) (r : (Int × ((List Int) × Int × Int))) (h : spec_l01Near_of_src a0 a1 = some r) : Den Try.prog 132 [(.mutp (eT_Su8_i64_u64_Z a0)),(i6 a1)] { r:=(i6 r.1),ms:=[(eT_Su8_i64_u64_Z r.2)],fs:=[] }:=by
 refine den_ofX (rs:=[(i6 r.1)]) (ac:=spec_l01Near_of_src_c) (L:=spec_l01Near_of_src_L) (n:=17) (m:=[(6,1),(12,1),(16,1)]) (c:=Try.f132.body.getD .skip) good Try.func132 (by kernel_rfl) (by kernel_rfl) Try.ntmps132 rfl rfl (by kernel_rfl) rfl ?_
 refine ns ⟨[(0,ow 1000000),(1,i6 a1)],[(1000000,bk (eT_Su8_i64_u64_Z a0))]⟩ ?_
 unfold spec_l01Near_of_src_c
 refine sr (vp (i6 0) rfl (nk ⟨[(0,ow 1000000),(1,i6 a1)],[(1000000,bk (eT_Su8_i64_u64_Z a0))]⟩ (a_seq (sr (vp (ow 1000000) rfl ?_)))))
 obtain ⟨r1,hr2,h⟩:=bind_some h
 refine a_callM (args:=[(.mutp (eT_Su8_i64_u64_Z a0)),(i6 14)]) (i:=0) (id:=1000000) (r:=(i6 r1.1)) (c:=(eT_Su8_i64_u64_Z r1.2)) rfl rfl (spec_l01Next_of_src_ok a0 14 r1 hr2) rfl trivial (vp (.bool (r1.1 == 0)) rfl (nk ⟨[(0,ow 1000000),(1,i6 a1),(7,.bool (r1.1 == 0))],[(1000000,bk (eT_Su8_i64_u64_Z r1.2))]⟩ ?_))
 cases hb4 : (r1.1 == 0)
 ·have h:=ite_f hb4 h
  refine a_cond_f rfl (a_skip (nj ⟨[(0,ow 1000000),(1,i6 a1)],[(1000000,bk (eT_Su8_i64_u64_Z r1.2))]⟩ (sr (vp (ow 1000000) rfl (vp (i6 a1) rfl (vp (i6 (IntKind.i64.wrap (a1 + 1))) rfl ?_))))))
  obtain ⟨r5,hr6,h⟩:=bind_some h
  refine a_callM (args:=[(.mutp (eT_Su8_i64_u64_Z r1.2)),(i6 (IntKind.i64.wrap (a1 + 1)))]) (i:=0) (id:=1000000) (r:=(i6 r5.1)) (c:=(eT_Su8_i64_u64_Z r5.2)) rfl rfl (spec_l01Next_of_src_ok r1.2 (IntKind.i64.wrap (a1 + 1)) r5 hr6) rfl trivial (vp (i6 r5.1) rfl (nx _ rfl (a_ret ?_)))
  refine ⟨.inr rfl,?_⟩
  rw [Try.results132]
  cases h
  exact ⟨[],⟨_,_,_,_,_,rfl,trivial,rfl,.inl ⟨rfl,.inl rfl,⟨rfl,rfl,rfl⟩⟩⟩,rfl,⟨_,_,rfl,rfl,rfl⟩⟩
 ·have h:=ite_t hb4 h
  refine a_cond_t rfl (sr (vp (ow 1000000) rfl (vp (i6 a1) rfl (vp (i6 (IntKind.i64.wrap (a1 + 1))) rfl (vq (.sl 1 true (([-1,IntKind.i64.wrap (a1 + 1),1099511627776,-4611686018427387904]).map (AV.int .i64))) rfl ⟨(Nat.le_of_ble_eq_true rfl),(Nat.le_of_ble_eq_true rfl),(all_cons ⟨(Nat.le_of_ble_eq_true rfl),rfl⟩ (all_cons ⟨(Nat.le_of_ble_eq_true rfl),rfl⟩ (all_cons ⟨(Nat.le_of_ble_eq_true rfl),rfl⟩ (all_cons ⟨(Nat.le_of_ble_eq_true rfl),rfl⟩ all_nil))))⟩ ?_)))))
  obtain ⟨r8,hr9,h⟩:=bind_some h
  refine a_callM (args:=[(.mutp (eT_Su8_i64_u64_Z r1.2)),(.sl 1 true (([-1,IntKind.i64.wrap (a1 + 1),1099511627776,-4611686018427387904]).map (AV.int .i64)))]) (i:=0) (id:=1000000) (r:=(i6 r8.1)) (c:=(eT_Su8_i64_u64_Z r8.2)) rfl rfl (Den.argsM (spec_l01Pick_of_src_ok r1.2 ([-1,IntKind.i64.wrap (a1 + 1),1099511627776,-4611686018427387904]) r8 hr9) rfl rfl (.cons (.loose _) .nil)) rfl trivial (vp (i6 r8.1) rfl (nx _ rfl (a_ret (t_ret ?_))))
  refine ⟨.inr rfl,?_⟩
  rw [Try.results132]
  cases h
  exact ⟨[],⟨_,_,_,_,_,rfl,trivial,rfl,.inl ⟨rfl,.inl rfl,⟨rfl,rfl,rfl⟩⟩⟩,rfl,⟨_,_,rfl,rfl,rfl⟩⟩
def spec_DrawMonicPolys_c : ACode:=(.seq (.region 0 [q 2 (.asg 0 (.const (.int .i64 0)) 2),q 3 (.asg 0 (.const (.int .i64 0)) 2)] false) (.seq (.region 1 [q 5 (.mov (t 0)),q 6 (.call 0 (.func 116) [(t 5)]),q 4 (.asg 0 (t 6) 96)] false) (.seq (.region 2 [q 7 (.mov (t 4)),q 8 (.bslice 0 59 5 [(0,.const (.int .i64 2)),(1,.const (.int .i64 3)),(2,.const (.int .i64 5)),(3,.const (.int .i64 7)),(4,.const (.int .i64 4))]),q 9 (.call 1 (.func 122) [(t 7),(t 8)]),q 10 (.mov (t 4)),q 11 (.mov (t 4)),q 12 (.call 1 (.func 132) [(t 11),(.const (.int .i64 63))]),q 13 (.bslice 0 59 9 [(0,.const (.int .i64 0)),(1,.const (.int .i64 1)),(2,.const (.int .i64 2)),(3,.const (.int .i64 3)),(4,.const (.int .i64 4)),(5,.const (.int .i64 5)),(6,.const (.int .i64 8)),(7,.const (.int .i64 9)),(8,t 12)]),q 14 (.call 1 (.func 122) [(t 10),(t 13)]),q 2 (.asg 0 (t 9) 2),q 3 (.asg 0 (t 14) 2)] false) .ret)))
def spec_DrawMonicPolys_L : Live:=[(0,[0]),(1,[0]),(2,[4])]
noncomputable def spec_DrawMonicPolys (a0 : (List Int)) : Option (Int × Int) :=
 (Option.bind (spec_l01From a0) fun r1=>(Option.bind (spec_l01Pick_of_src r1 ([2,3,5,7,4])) fun r3=>(Option.bind (spec_l01Near_of_src r3.2 63) fun r6=>(Option.bind (spec_l01Pick_of_src r6.2 ([0,1,2,3,4,5,8,9,r6.1])) fun r9=>(some (r3.1,r9.1))))))
theorem spec_DrawMonicPolys_ok (a0 : (List Int)) (r : (Int × Int)) (h : spec_DrawMonicPolys a0 = some r) : Den Try.prog 85 [(eSu8 a0)] { r:=(.tuple [(i6 r.1),(i6 r.2)]) }:=by
 refine den_of (rs:=[(i6 r.1),(i6 r.2)]) (ac:=spec_DrawMonicPolys_c) (L:=spec_DrawMonicPolys_L) (n:=15) (m:=[(9,1),(12,1),(14,1)]) (c:=Try.f85.body.getD .skip) good Try.func85 (by kernel_rfl) (by kernel_rfl) Try.ntmps85 rfl rfl (by kernel_rfl) rfl rfl ?_
 refine ns ⟨[(0,eSu8 a0)],[]⟩ ?_
 unfold spec_DrawMonicPolys_c
 refine sr (vp (i6 0) rfl (vp (i6 0) rfl (nk ⟨[(0,eSu8 a0)],[]⟩ (sr (vp (eSu8 a0) rfl ?_)))))
 obtain ⟨r1,hr2,h⟩:=bind_some h
 refine a_callF (args:=[(eSu8 a0)]) (u:=[]) (u2:=[]) (r:=(ow 2000000)) (fs:=[(0,[eT_Su8_i64_u64_Z r1])]) rfl rfl (spec_l01From_ok a0 r1 hr2) rfl rfl rfl (.inl rfl) rfl (vp (ow 1600) rfl (nk ⟨[(4,ow 4)],[(4,bk (eT_Su8_i64_u64_Z r1))]⟩ (sr (vp (ow 4) rfl (vq (.sl 1 true (([2,3,5,7,4]).map (AV.int .i64))) rfl ⟨(Nat.le_of_ble_eq_true rfl),(Nat.le_of_ble_eq_true rfl),(all_cons ⟨(Nat.le_of_ble_eq_true rfl),rfl⟩ (all_cons ⟨(Nat.le_of_ble_eq_true rfl),rfl⟩ (all_cons ⟨(Nat.le_of_ble_eq_true rfl),rfl⟩ (all_cons ⟨(Nat.le_of_ble_eq_true rfl),rfl⟩ (all_cons ⟨(Nat.le_of_ble_eq_true rfl),rfl⟩ all_nil)))))⟩ ?_)))))
 obtain ⟨r3,hr4,h⟩:=bind_some h
 refine a_callM (args:=[(.mutp (eT_Su8_i64_u64_Z r1)),(.sl 1 true (([2,3,5,7,4]).map (AV.int .i64)))]) (i:=0) (id:=4) (r:=(i6 r3.1)) (c:=(eT_Su8_i64_u64_Z r3.2)) rfl rfl (Den.argsM (spec_l01Pick_of_src_ok r1 ([2,3,5,7,4]) r3 hr4) rfl rfl (.cons (.loose _) .nil)) rfl trivial (vp (ow 4) rfl (vp (ow 4) rfl ?_))
 obtain ⟨r6,hr7,h⟩:=bind_some h
 refine a_callM (args:=[(.mutp (eT_Su8_i64_u64_Z r3.2)),(i6 63)]) (i:=0) (id:=4) (r:=(i6 r6.1)) (c:=(eT_Su8_i64_u64_Z r6.2)) rfl rfl (spec_l01Near_of_src_ok r3.2 63 r6 hr7) rfl trivial (vq (.sl 1 true (([0,1,2,3,4,5,8,9,r6.1]).map (AV.int .i64))) rfl ⟨(Nat.le_of_ble_eq_true rfl),(Nat.le_of_ble_eq_true rfl),(all_cons ⟨(Nat.le_of_ble_eq_true rfl),rfl⟩ (all_cons ⟨(Nat.le_of_ble_eq_true rfl),rfl⟩ (all_cons ⟨(Nat.le_of_ble_eq_true rfl),rfl⟩ (all_cons ⟨(Nat.le_of_ble_eq_true rfl),rfl⟩ (all_cons ⟨(Nat.le_of_ble_eq_true rfl),rfl⟩ (all_cons ⟨(Nat.le_of_ble_eq_true rfl),rfl⟩ (all_cons ⟨(Nat.le_of_ble_eq_true rfl),rfl⟩ (all_cons ⟨(Nat.le_of_ble_eq_true rfl),rfl⟩ (all_cons ⟨(Nat.le_of_ble_eq_true rfl),rfl⟩ all_nil)))))))))⟩ ?_)
 obtain ⟨r9,hr10,h⟩:=bind_some h
 refine a_callM (args:=[(.mutp (eT_Su8_i64_u64_Z r6.2)),(.sl 1 true (([0,1,2,3,4,5,8,9,r6.1]).map (AV.int .i64)))]) (i:=0) (id:=4) (r:=(i6 r9.1)) (c:=(eT_Su8_i64_u64_Z r9.2)) rfl rfl (Den.argsM (spec_l01Pick_of_src_ok r6.2 ([0,1,2,3,4,5,8,9,r6.1]) r9 hr10) rfl rfl (.cons (.loose _) .nil)) rfl trivial (vp (i6 r3.1) rfl (vp (i6 r9.1) rfl (nx _ rfl (a_ret ?_))))
 refine ⟨.inr rfl,?_⟩
 rw [Try.results85]
 cases h
 exact ⟨_,_,_,_,_,rfl,trivial,.inl ⟨rfl,.inl rfl⟩,rfl,⟨_,_,_,_,_,rfl,trivial,.inl ⟨rfl,.inl rfl⟩,rfl,rfl⟩⟩
end Go.Proofs.Ytkbnegemdlnncaa
