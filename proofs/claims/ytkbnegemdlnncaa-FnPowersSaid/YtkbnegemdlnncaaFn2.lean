/- Functions of the program: plain Lean functions, and that the program computes them. Printed by gen.py. -/
import Derived.Test.YtkbnegemdlnncaaFnT
import Derived.Test.YtkbnegemdlnncaaFn1
namespace Go.Proofs.Ytkbnegemdlnncaa
open Go.Abs Go.Proofs
set_option linter.unusedSimpArgs false
set_option linter.unusedVariables false
set_option maxHeartbeats 16000000
attribute [local irreducible] Abs.acode Abs.aops Abs.aopsT Abs.thenK Abs.blockK

def spec_l01Both_c : ACode:=(.seq (.region 0 [q 2 (.asg 0 (.const (.int .i64 0)) 2),q 3 (.alloc 25),q 4 (.alloc 25)] false) (.seq (.region 1 [q 12 (.mov (t 0)),q 13 (.call 0 (.func 116) [(t 12)]),q 5 (.asg 0 (t 13) 96)] false) (.seq (.region 2 [q 15 (.mov (t 5)),q 16 (.call 1 (.func 115) [(t 15)]),q 14 (.mov (t 16)),q 17 (.extract (t 14) 0),q 18 (.extract (t 14) 1),q 7 (.alloc 25),q 6 (.asg 0 (t 17) 2),⟨none,.store 25 (t 7) (t 18),none,[]⟩] false) (.seq (.region 3 [q 19 (.mov (t 6)),q 8 (.asg 0 (t 19) 2)] false) (.seq (.seq (.region 4 [q 20 (.mov (t 6)),q 21 (.call 0 (.func 168) [(t 20)]),q 22 (.un .not (t 21))] false) (.cond (t 22) (.region 5 [q 8 (.asg 0 (.const (.int .i64 2)) 2)] false) .skip)) (.seq (.region 6 [q 23 (.mov (t 5)),q 24 (.mov (t 8)),q 25 (.mov (t 5)),q 26 (.bslice 0 59 4 [(0,.const (.int .i64 2)),(1,.const (.int .i64 4)),(2,.const (.int .i64 8)),(3,.const (.int .i64 63))]),q 27 (.call 1 (.func 122) [(t 25),(t 26)]),q 28 (.call 1 (.func 155) [(t 23),(t 24),(t 27)]),q 9 (.alloc 25),⟨none,.store 25 (t 9) (t 28),none,[]⟩] false) (.seq (.seq (.region 7 [q 29 (.mov (t 5)),q 30 (.call 1 (.func 123) [(t 29),(.const (.int .i64 6))]),q 31 (.bin .eql 2 (t 30) (.const (.int .i64 0)))] false) (.cond (t 31) (.seq (.region 8 [q 33 (.mov (t 8)),q 34 (.load 25 (t 9)),q 35 (.mov (t 5)),q 36 (.mov (t 8)),⟨some 37,.call 1 (.func 155) [(t 35),(t 36),(.const (.int .i64 4))],none,[2,3]⟩,⟨some 38,.call 0 (.func 105) [(t 33),(t 34),(t 37)],none,[0,1,4,4]⟩,⟨some 32,.mov (t 38),none,[5]⟩,⟨some 39,.extract (t 32) 0,none,[6]⟩,⟨some 40,.extract (t 32) 1,none,[6]⟩,q 10 (.alloc 25),⟨none,.store 25 (t 10) (t 39),none,[9,7,5,0,1,2,3,4,5,6,7,9]⟩,⟨some 11,.asg 0 (t 40) 4,none,[8,10,0,1,2,3,4,5,6,7,8,9,10]⟩] true) (.seq (.region 9 [q 41 (.mov (t 11)),q 42 (.mov (t 41)),⟨some 43,.mov (t 8),some (42,true),[]⟩,⟨some 44,.load 25 (t 10),some (42,true),[]⟩,⟨some 45,.call 0 (.func 108) [(t 43),(t 44)],some (42,true),[]⟩,q 46 (.pick (t 42) (t 45) (.const (.bool false)))] false) (.cond (t 46) (.region 10 [q 47 (.load 25 (t 10)),⟨none,.store 25 (t 7) (t 47),none,[]⟩] false) .skip))) .skip)) (.seq (.region 11 [q 48 (.mov (t 6)),q 49 (.load 25 (t 7)),q 50 (.mov (t 5)),q 51 (.mov (t 8)),q 52 (.load 25 (t 9)),⟨some 53,.call 1 (.func 177) [(t 50),(t 51),(t 52)],none,[2,3,4]⟩,⟨some 2,.asg 0 (t 48) 2,none,[0,5,0]⟩,⟨none,.store 25 (t 3) (t 49),none,[1,6,0,1,6]⟩,⟨none,.store 25 (t 4) (t 53),none,[5,7,0,1,2,3,4,5,6,7]⟩] true) .ret))))))))
def spec_l01Both_L : Live:=[(0,[0]),(1,[0,3,4]),(2,[3,4,5]),(3,[3,4,5,6,7]),(4,[3,4,5,6,7,8]),(5,[3,4,5,6,7]),(6,[3,4,5,6,7,8]),(7,[3,4,5,6,7,8,9]),(8,[3,4,5,6,7,8,9]),(9,[3,4,5,6,7,8,9,10,11]),(10,[3,4,5,6,7,8,9,10]),(11,[3,4,5,6,7,8,9]),(100022,[3,4,5,6,7,8,22]),(100031,[3,4,5,6,7,8,9,31]),(100046,[3,4,5,6,7,8,9,10,46])]
noncomputable def spec_l01Both (a0 : (List Int)) : Option (Int × (Vec Int 64) × (Vec Int 64)) :=
 (Option.bind (spec_l01From a0) fun r1=>(Option.bind (spec_l01Spoil_of_src r1) fun r3=>(Option.bind (α:=Int) ((Option.bind (spec_l01Prime r3.1) fun r14=>(if (!r14) then (some 2) else (some r3.1)))) fun x10=>(Option.bind (spec_l01Pick_of_src r3.2.2 ([2,4,8,63])) fun r17=>(Option.bind (spec_l01Draw_of_src r17.2 x10 r17.1) fun r20=>(Option.bind (α:=(((List Int) × Int × Int) × (Vec Int 64))) ((Option.bind (spec_l01Next_of_src r20.2 6) fun r62=>(if (r62.1 == 0) then (Option.bind (spec_l01Draw_of_src r62.2 x10 4) fun r74=>(Option.bind (spec_l01Times x10 r20.1 r74.1) fun r77=>(Option.bind (α:=Bool) ((if r77.2 then (Option.bind (spec_l01Is x10 r77.1) fun r90=>(some r90)) else (some false))) fun x84=>(if x84 then (some (r74.2,r77.1)) else (some (r74.2,r3.2.1)))))) else (some (r62.2,r3.2.1))))) fun ⟨x57,x58⟩=>(Option.bind (spec_l01Bad_of_src x57 x10 r20.1) fun r104=>(some (r3.1,x58,r104.1)))))))))
theorem spec_l01Both_ok (a0 : (List Int)) (r : (Int × (Vec Int 64) × (Vec Int 64))) (h : spec_l01Both a0 = some r) : Den Try.prog 99 [(eSu8 a0)] { r:=(.tuple [(i6 r.1),(eVb r.2.1),(eVb r.2.2)]) }:=by
 refine den_of (rs:=[(i6 r.1),(eVb r.2.1),(eVb r.2.2)]) (ac:=spec_l01Both_c) (L:=spec_l01Both_L) (n:=54) (m:=[(16,1),(27,1),(28,1),(30,1),(37,1),(53,1)]) (c:=Try.f99.body.getD .skip) good Try.func99 (by kernel_rfl) (by kernel_rfl) Try.ntmps99 rfl rfl (by kernel_rfl) rfl rfl ?_
 refine ns ⟨[(0,eSu8 a0)],[]⟩ ?_
 unfold spec_l01Both_c
 refine sr (vp (i6 0) rfl (vo 1300 (eVb ((vrep 64 (0 : Int)))) rfl rfl (vo 1400 (eVb ((vrep 64 (0 : Int)))) rfl rfl (nk ⟨[(0,eSu8 a0),(3,ow 3),(4,ow 4)],[(3,bk (eVb ((vrep 64 (0 : Int))))),(4,bk (eVb ((vrep 64 (0 : Int)))))]⟩ (sr (vp (eSu8 a0) rfl ?_))))))
 obtain ⟨r1,hr2,h⟩:=bind_some h
 refine a_callF (args:=[(eSu8 a0)]) (u:=[]) (u2:=[]) (r:=(ow 2000000)) (fs:=[(0,[eT_Su8_i64_u64_Z r1])]) rfl rfl (spec_l01From_ok a0 r1 hr2) rfl rfl rfl (.inl rfl) rfl (vp (ow 2300) rfl (nk ⟨[(3,ow 3),(4,ow 4),(5,ow 5)],[(3,bk (eVb ((vrep 64 (0 : Int))))),(4,bk (eVb ((vrep 64 (0 : Int))))),(5,bk (eT_Su8_i64_u64_Z r1))]⟩ (sr (vp (ow 5) rfl ?_))))
 obtain ⟨r3,hr4,h⟩:=bind_some h
 refine a_callM (args:=[(.mutp (eT_Su8_i64_u64_Z r1))]) (i:=0) (id:=5) (r:=(.tuple [(i6 r3.1),(eVb r3.2.1)])) (c:=(eT_Su8_i64_u64_Z r3.2.2)) rfl rfl (spec_l01Spoil_of_src_ok r1 r3 hr4) rfl trivial (vp (.tuple [(i6 r3.1),(eVb r3.2.1)]) rfl (vb (i6 r3.1) rfl rfl (vb (eVb r3.2.1) rfl rfl (vo 1700 (eVb ((vrep 64 (0 : Int)))) rfl rfl (vp (i6 r3.1) rfl (vs (eVb r3.2.1) rfl rfl (fun _=>rfl) rfl rfl rfl rfl rfl rfl (nk ⟨[(3,ow 3),(4,ow 4),(5,ow 5),(6,i6 r3.1),(7,ow 7)],[(3,bk (eVb ((vrep 64 (0 : Int))))),(4,bk (eVb ((vrep 64 (0 : Int))))),(5,bk (eT_Su8_i64_u64_Z r3.2.2)),(7,bk (eVb r3.2.1))]⟩ (sr (vp (i6 r3.1) rfl ?_)))))))))
 refine vp (i6 r3.1) rfl (nk ⟨[(3,ow 3),(4,ow 4),(5,ow 5),(6,i6 r3.1),(7,ow 7),(8,i6 r3.1)],[(3,bk (eVb ((vrep 64 (0 : Int))))),(4,bk (eVb ((vrep 64 (0 : Int))))),(5,bk (eT_Su8_i64_u64_Z r3.2.2)),(7,bk (eVb r3.2.1))]⟩ ?_)
 obtain ⟨y11,hy12,hk13⟩:=bind_some h
 clear h
 refine a_join (emb:=fun (s : Int)=>⟨[(3,ow 3),(4,ow 4),(5,ow 5),(6,i6 r3.1),(7,ow 7),(8,i6 s)],[(3,bk (eVb ((vrep 64 (0 : Int))))),(4,bk (eVb ((vrep 64 (0 : Int))))),(5,bk (eT_Su8_i64_u64_Z r3.2.2)),(7,bk (eVb r3.2.1))]⟩) (pre:=fun s=>s = y11) ?_ ?_
 ·rintro x10 rfl
  have h:=hk13
  refine ns ⟨[(3,ow 3),(4,ow 4),(5,ow 5),(6,i6 r3.1),(7,ow 7),(8,i6 x10)],[(3,bk (eVb ((vrep 64 (0 : Int))))),(4,bk (eVb ((vrep 64 (0 : Int))))),(5,bk (eT_Su8_i64_u64_Z r3.2.2)),(7,bk (eVb r3.2.1))]⟩ (sr (vp (ow 5) rfl (vp (i6 x10) rfl (vp (ow 5) rfl (vq (.sl 1 true (([2,4,8,63]).map (AV.int .i64))) rfl ⟨(Nat.le_of_ble_eq_true rfl),(Nat.le_of_ble_eq_true rfl),(all_cons ⟨(Nat.le_of_ble_eq_true rfl),rfl⟩ (all_cons ⟨(Nat.le_of_ble_eq_true rfl),rfl⟩ (all_cons ⟨(Nat.le_of_ble_eq_true rfl),rfl⟩ (all_cons ⟨(Nat.le_of_ble_eq_true rfl),rfl⟩ all_nil))))⟩ ?_)))))
  obtain ⟨r17,hr18,h⟩:=bind_some h
  refine a_callM (args:=[(.mutp (eT_Su8_i64_u64_Z r3.2.2)),(.sl 1 true (([2,4,8,63]).map (AV.int .i64)))]) (i:=0) (id:=5) (r:=(i6 r17.1)) (c:=(eT_Su8_i64_u64_Z r17.2)) rfl rfl (Den.argsM (spec_l01Pick_of_src_ok r3.2.2 ([2,4,8,63]) r17 hr18) rfl rfl (.cons (.loose _) .nil)) rfl trivial ?_
  obtain ⟨r20,hr21,h⟩:=bind_some h
  refine a_callM (args:=[(.mutp (eT_Su8_i64_u64_Z r17.2)),(i6 x10),(i6 r17.1)]) (i:=0) (id:=5) (r:=(eVb r20.1)) (c:=(eT_Su8_i64_u64_Z r20.2)) rfl rfl (spec_l01Draw_of_src_ok r17.2 x10 r17.1 r20 hr21) rfl trivial (vo 1900 (eVb ((vrep 64 (0 : Int)))) rfl rfl (vs (eVb r20.1) rfl rfl (fun _=>rfl) rfl rfl rfl rfl rfl rfl (nk ⟨[(3,ow 3),(4,ow 4),(5,ow 5),(6,i6 r3.1),(7,ow 7),(8,i6 x10),(9,ow 9)],[(3,bk (eVb ((vrep 64 (0 : Int))))),(4,bk (eVb ((vrep 64 (0 : Int))))),(5,bk (eT_Su8_i64_u64_Z r20.2)),(7,bk (eVb r3.2.1)),(9,bk (eVb r20.1))]⟩ ?_)))
  obtain ⟨y59,hy60,hk61⟩:=bind_some h
  clear h
  refine a_join (emb:=fun (s : (((List Int) × Int × Int) × (Vec Int 64)))=>⟨[(3,ow 3),(4,ow 4),(5,ow 5),(6,i6 r3.1),(7,ow 7),(8,i6 x10),(9,ow 9)],[(3,bk (eVb ((vrep 64 (0 : Int))))),(4,bk (eVb ((vrep 64 (0 : Int))))),(5,bk (eT_Su8_i64_u64_Z s.1)),(7,bk (eVb s.2)),(9,bk (eVb r20.1))]⟩) (pre:=fun s=>s = y59) ?_ ?_
  ·rintro ⟨x57,x58⟩ rfl
   have h:=hk61
   refine ns ⟨[(3,ow 3),(4,ow 4),(5,ow 5),(6,i6 r3.1),(7,ow 7),(8,i6 x10),(9,ow 9)],[(3,bk (eVb ((vrep 64 (0 : Int))))),(4,bk (eVb ((vrep 64 (0 : Int))))),(5,bk (eT_Su8_i64_u64_Z x57)),(7,bk (eVb x58)),(9,bk (eVb r20.1))]⟩ (a_seq (a_draw [⟨[],[],[],[]⟩,⟨[7],[],[],[]⟩,⟨[],[],[5],[]⟩,⟨[],[],[],[]⟩,⟨[9],[],[],[]⟩,⟨[5],[5],[],[2,3,4]⟩,⟨[],[],[],[0,2,3,4,5]⟩,⟨[3],[3],[],[0,1,2,3,4,5,6]⟩,⟨[4],[4],[],[0,1,2,3,4,5,6,7]⟩] (by kernel_rfl) (dj (i6 r3.1) rfl (d_cons (vl (eVb x58) rfl rfl rfl rfl rfl rfl (d_next (by kernel_rfl) (dj (ow 5) rfl (dj (i6 x10) rfl (d_cons ?_)))))))))
   refine vl (eVb r20.1) rfl rfl rfl rfl rfl rfl (d_next (by kernel_rfl) (d_cons ?_))
   obtain ⟨r104,hr105,h⟩:=bind_some h
   refine a_callM (args:=[(.mutp (eT_Su8_i64_u64_Z x57)),(i6 x10),(eVb r20.1)]) (i:=0) (id:=5) (r:=(eVb r104.1)) (c:=(eT_Su8_i64_u64_Z r104.2)) rfl rfl (spec_l01Bad_of_src_ok x57 x10 r20.1 r104 hr105) rfl trivial (d_next (by kernel_rfl) (dj (i6 r3.1) rfl (d_cons (vs (eVb x58) rfl rfl (fun _=>rfl) rfl rfl rfl rfl rfl rfl (d_next (by kernel_rfl) (d_cons (vs (eVb r104.1) rfl rfl (fun _=>rfl) rfl rfl rfl rfl rfl rfl (d_next (by kernel_rfl) (d_nil ?_)))))))))
   refine a_next rfl (a_ret ?_)
   have hl109 : LdOk [] (eVb x58) [] 64 true (eVb x58):=(.nil rfl rfl rfl)
   have hl110 : LdOk [] (eVb r104.1) [] 64 true (eVb r104.1):=(.nil rfl rfl rfl)
   refine ⟨.inr rfl,?_⟩
   rw [Try.results99]
   cases h
   exact ⟨_,_,_,_,_,rfl,trivial,.inl ⟨rfl,.inl rfl⟩,rfl,⟨_,_,_,_,_,ld_own (i:=⟨.arr 64 5,64,64,(eVb (vrep 64 (0 : Int)))⟩) rfl rfl rfl hl109,hl109.c,.inl ⟨rfl,.inl rfl⟩,rfl,⟨_,_,_,_,_,ld_own (i:=⟨.arr 64 5,64,64,(eVb (vrep 64 (0 : Int)))⟩) rfl rfl rfl hl110,hl110.c,.inl ⟨rfl,.inl rfl⟩,rfl,rfl⟩⟩⟩
  ·have h:=hy60
   refine sr (vp (ow 5) rfl ?_)
   obtain ⟨r62,hr63,h⟩:=bind_some h
   refine a_callM (args:=[(.mutp (eT_Su8_i64_u64_Z r20.2)),(i6 6)]) (i:=0) (id:=5) (r:=(i6 r62.1)) (c:=(eT_Su8_i64_u64_Z r62.2)) rfl rfl (spec_l01Next_of_src_ok r20.2 6 r62 hr63) rfl trivial (vp (.bool (r62.1 == 0)) rfl (nk ⟨[(3,ow 3),(4,ow 4),(5,ow 5),(6,i6 r3.1),(7,ow 7),(8,i6 x10),(9,ow 9),(31,.bool (r62.1 == 0))],[(3,bk (eVb ((vrep 64 (0 : Int))))),(4,bk (eVb ((vrep 64 (0 : Int))))),(5,bk (eT_Su8_i64_u64_Z r62.2)),(7,bk (eVb r3.2.1)),(9,bk (eVb r20.1))]⟩ ?_))
   cases hb65 : (r62.1 == 0)
   ·have h:=ite_f hb65 h
    refine a_cond_f rfl (a_skip ?_)
    exact j_leaf (r62.2,r3.2.1) (Option.some.inj h) (by kernel_rfl)
   ·have h:=ite_t hb65 h
    refine a_cond_t rfl (a_seq (a_draw [⟨[],[],[],[]⟩,⟨[9],[],[],[]⟩,⟨[],[],[5],[]⟩,⟨[],[],[],[]⟩,⟨[5],[5],[],[2,3]⟩,⟨[],[],[],[0,1,2,3,4]⟩,⟨[],[],[],[0,1,2,3,4,5]⟩,⟨[],[],[],[0,1,2,3,4,5,6]⟩,⟨[],[],[],[0,1,2,3,4,5,6]⟩,⟨[2000],[2000],[2000],[]⟩,⟨[2000],[2000],[],[0,1,2,3,4,5,6,7,9]⟩,⟨[],[],[],[0,1,2,3,4,5,6,7,8,9,10]⟩] (by kernel_rfl) (dj (i6 x10) rfl (d_cons (vl (eVb r20.1) rfl rfl rfl rfl rfl rfl (d_next (by kernel_rfl) (dj (ow 5) rfl (dj (i6 x10) rfl (d_cons ?_)))))))))
    obtain ⟨r74,hr75,h⟩:=bind_some h
    refine a_callM (args:=[(.mutp (eT_Su8_i64_u64_Z r62.2)),(i6 x10),(i6 4)]) (i:=0) (id:=5) (r:=(eVb r74.1)) (c:=(eT_Su8_i64_u64_Z r74.2)) rfl rfl (spec_l01Draw_of_src_ok r62.2 x10 4 r74 hr75) rfl trivial (d_next (by kernel_rfl) (d_cons ?_))
    obtain ⟨r77,hr78,h⟩:=bind_some h
    refine a_call (args:=[(i6 x10),(eVb r20.1),(eVb r74.1)]) (u:=[]) (r:=(.tuple [(eVb r77.1),(.bool r77.2)])) rfl rfl (spec_l01Times_ok x10 r20.1 r74.1 r77 hr78) rfl (d_next (by kernel_rfl) (dj (.tuple [(eVb r77.1),(.bool r77.2)]) rfl (d_cons (vb (eVb r77.1) rfl rfl (d_next (by kernel_rfl) (d_cons (vb (.bool r77.2) rfl rfl (d_next (by kernel_rfl) (d_cons ?_)))))))))
    refine vo 2000 (eVb ((vrep 64 (0 : Int)))) rfl rfl (d_next (by kernel_rfl) (d_cons (vs (eVb r77.1) rfl rfl (fun _=>rfl) rfl rfl rfl rfl rfl rfl (d_next (by kernel_rfl) (dj (.bool r77.2) rfl (d_nil (nj ⟨[(3,ow 3),(4,ow 4),(5,ow 5),(6,i6 r3.1),(7,ow 7),(8,i6 x10),(9,ow 9),(10,ow 10),(11,.bool r77.2)],[(3,bk (eVb ((vrep 64 (0 : Int))))),(4,bk (eVb ((vrep 64 (0 : Int))))),(5,bk (eT_Su8_i64_u64_Z r74.2)),(7,bk (eVb r3.2.1)),(9,bk (eVb r20.1)),(10,bk (eVb r77.1))]⟩ ?_)))))))
    obtain ⟨y85,hy86,hk87⟩:=bind_some h
    clear h
    refine a_join (emb:=fun (s : Bool)=>⟨[(3,ow 3),(4,ow 4),(5,ow 5),(6,i6 r3.1),(7,ow 7),(8,i6 x10),(9,ow 9),(10,ow 10),(46,.bool s)],[(3,bk (eVb ((vrep 64 (0 : Int))))),(4,bk (eVb ((vrep 64 (0 : Int))))),(5,bk (eT_Su8_i64_u64_Z r74.2)),(7,bk (eVb r3.2.1)),(9,bk (eVb r20.1)),(10,bk (eVb r77.1))]⟩) (pre:=fun s=>s = y85) ?_ ?_
    ·rintro x84 rfl
     have h:=hk87
     refine ns ⟨[(3,ow 3),(4,ow 4),(5,ow 5),(6,i6 r3.1),(7,ow 7),(8,i6 x10),(9,ow 9),(10,ow 10),(46,.bool x84)],[(3,bk (eVb ((vrep 64 (0 : Int))))),(4,bk (eVb ((vrep 64 (0 : Int))))),(5,bk (eT_Su8_i64_u64_Z r74.2)),(7,bk (eVb r3.2.1)),(9,bk (eVb r20.1)),(10,bk (eVb r77.1))]⟩ ?_
     cases hb92 : x84
     ·have h:=ite_f hb92 h
      refine a_cond_f rfl (a_skip ?_)
      exact j_leaf (r74.2,r3.2.1) (Option.some.inj h) (by kernel_rfl)
     ·have h:=ite_t hb92 h
      refine a_cond_t rfl (a_region (vl (eVb r77.1) rfl rfl rfl rfl rfl rfl (vs (eVb r77.1) rfl rfl (fun _=>rfl) rfl rfl rfl rfl rfl rfl (a_nil ?_))))
      exact j_leaf (r74.2,r77.1) (Option.some.inj h) (by kernel_rfl)
    ·have h:=hy86
     refine a_region (vp (.bool r77.2) rfl (vp (.bool r77.2) rfl ?_))
     cases hb88 : r77.2
     ·have h:=ite_f hb88 h
      refine a_gskip rfl (a_gskip rfl (a_gskip rfl (vp (.bool false) rfl (a_nil ?_))))
      exact j_leaf false (Option.some.inj h) (by kernel_rfl)
     ·have h:=ite_t hb88 h
      refine gp (i6 x10) rfl rfl ?_
      have hl89 : LdOk [] (eVb r77.1) [] 64 true (eVb r77.1):=(.nil rfl rfl rfl)
      refine gq (eVb r77.1) rfl (ld_own (i:=⟨.arr 64 5,64,64,(eVb (vrep 64 (0 : Int)))⟩) rfl rfl rfl hl89) hl89.c ?_
      obtain ⟨r90,hr91,h⟩:=bind_some h
      refine a_gcall rfl (args:=[(i6 x10),(eVb r77.1)]) (u:=[]) (r:=(.bool r90)) rfl rfl (spec_l01Is_ok x10 r77.1 r90 hr91) rfl (vp (.bool r90) rfl (a_nil ?_))
      exact j_leaf r90 (Option.some.inj h) (by kernel_rfl)
 ·have h:=hy12
  refine sr (vp (i6 r3.1) rfl ?_)
  obtain ⟨r14,hr15,h⟩:=bind_some h
  refine a_call (args:=[(i6 r3.1)]) (u:=[]) (r:=(.bool r14)) rfl rfl (spec_l01Prime_ok r3.1 r14 hr15) rfl (vp (.bool (!r14)) rfl (nk ⟨[(3,ow 3),(4,ow 4),(5,ow 5),(6,i6 r3.1),(7,ow 7),(8,i6 r3.1),(22,.bool (!r14))],[(3,bk (eVb ((vrep 64 (0 : Int))))),(4,bk (eVb ((vrep 64 (0 : Int))))),(5,bk (eT_Su8_i64_u64_Z r3.2.2)),(7,bk (eVb r3.2.1))]⟩ ?_))
  cases hb16 : (!r14)
  ·have h:=ite_f hb16 h
   refine a_cond_f rfl (a_skip ?_)
   exact j_leaf r3.1 (Option.some.inj h) (by kernel_rfl)
  ·have h:=ite_t hb16 h
   refine a_cond_t rfl (a_region (vp (i6 2) rfl (a_nil ?_)))
   exact j_leaf 2 (Option.some.inj h) (by kernel_rfl)
def spec_DrawPowerModulo_c : ACode:=(.seq (.region 0 [q 2 (.asg 0 (.const (.int .i64 0)) 2),q 3 (.alloc 25),q 4 (.asg 0 (.const (.int .i64 0)) 2),q 5 (.alloc 25)] false) (.seq (.region 1 [q 10 (.mov (t 0)),q 11 (.call 0 (.func 116) [(t 10)]),q 6 (.asg 0 (t 11) 96)] false) (.seq (.region 2 [q 13 (.mov (t 0)),q 14 (.call 0 (.func 99) [(t 13)]),q 12 (.mov (t 14)),q 15 (.extract (t 12) 0),q 16 (.extract (t 12) 1),q 17 (.extract (t 12) 2),q 8 (.alloc 25),q 9 (.alloc 25),q 7 (.asg 0 (t 15) 2),⟨none,.store 25 (t 8) (t 16),none,[]⟩,⟨none,.store 25 (t 9) (t 17),none,[]⟩] false) (.seq (.region 3 [q 18 (.mov (t 7)),q 19 (.load 25 (t 8)),q 20 (.mov (t 6)),q 21 (.mov (t 6)),⟨some 22,.call 1 (.func 123) [(t 21),(.const (.int .i64 100))],none,[3]⟩,q 23 (.mov (t 6)),⟨some 24,.call 1 (.func 123) [(t 23),(.const (.int .i64 1000000))],none,[5,4]⟩,⟨some 25,.bslice 0 59 8 [(0,.const (.int .i64 0)),(1,.const (.int .i64 1)),(2,.const (.int .i64 2)),(3,t 22),(4,t 24),(5,.const (.int .i64 1000000000000)),(6,.const (.int .i64 1000000000001)),(7,.const (.int .i64 (-1)))],none,[4,6]⟩,⟨some 26,.call 1 (.func 122) [(t 20),(t 25)],none,[2,7,6]⟩,q 27 (.load 25 (t 9)),⟨some 2,.asg 0 (t 18) 2,none,[0,8,0]⟩,⟨none,.store 25 (t 3) (t 19),none,[1,10,0,1,10]⟩,⟨some 4,.asg 0 (t 26) 2,none,[8,11,0,1,2,3,4,5,6,7,8,10,11]⟩,⟨none,.store 25 (t 5) (t 27),none,[9,12,0,1,2,3,4,5,6,7,8,9,10,11,12]⟩] true) .ret))))
def spec_DrawPowerModulo_L : Live:=[(0,[0]),(1,[0,3,5]),(2,[0,3,5,6]),(3,[3,5,6,7,8,9])]
noncomputable def spec_DrawPowerModulo (a0 : (List Int)) : Option (Int × (Vec Int 64) × Int × (Vec Int 64)) :=
 (Option.bind (spec_l01From a0) fun r1=>(Option.bind (spec_l01Both a0) fun r3=>(Option.bind (spec_l01Next_of_src r1 100) fun r21=>(Option.bind (spec_l01Next_of_src r21.2 1000000) fun r24=>(Option.bind (spec_l01Pick_of_src r24.2 ([0,1,2,r21.1,r24.1,1000000000000,1000000000001,-1])) fun r27=>(some (r3.1,r3.2.1,r27.1,r3.2.2)))))))
theorem spec_DrawPowerModulo_ok (a0 : (List Int)) (r : (Int × (Vec Int 64) × Int × (Vec Int 64))) (h : spec_DrawPowerModulo a0 = some r) : Den Try.prog 79 [(eSu8 a0)] { r:=(.tuple [(i6 r.1),(eVb r.2.1),(i6 r.2.2.1),(eVb r.2.2.2)]) }:=by
 refine den_of (rs:=[(i6 r.1),(eVb r.2.1),(i6 r.2.2.1),(eVb r.2.2.2)]) (ac:=spec_DrawPowerModulo_c) (L:=spec_DrawPowerModulo_L) (n:=28) (m:=[(22,1),(24,1),(26,1)]) (c:=Try.f79.body.getD .skip) good Try.func79 (by kernel_rfl) (by kernel_rfl) Try.ntmps79 rfl rfl (by kernel_rfl) rfl rfl ?_
 refine ns ⟨[(0,eSu8 a0)],[]⟩ ?_
 unfold spec_DrawPowerModulo_c
 refine sr (vp (i6 0) rfl (vo 1300 (eVb ((vrep 64 (0 : Int)))) rfl rfl (vp (i6 0) rfl (vo 1500 (eVb ((vrep 64 (0 : Int)))) rfl rfl (nk ⟨[(0,eSu8 a0),(3,ow 3),(5,ow 5)],[(3,bk (eVb ((vrep 64 (0 : Int))))),(5,bk (eVb ((vrep 64 (0 : Int)))))]⟩ (sr (vp (eSu8 a0) rfl ?_)))))))
 obtain ⟨r1,hr2,h⟩:=bind_some h
 refine a_callF (args:=[(eSu8 a0)]) (u:=[]) (u2:=[]) (r:=(ow 2000000)) (fs:=[(0,[eT_Su8_i64_u64_Z r1])]) rfl rfl (spec_l01From_ok a0 r1 hr2) rfl rfl rfl (.inl rfl) rfl (vp (ow 2100) rfl (nk ⟨[(0,eSu8 a0),(3,ow 3),(5,ow 5),(6,ow 6)],[(3,bk (eVb ((vrep 64 (0 : Int))))),(5,bk (eVb ((vrep 64 (0 : Int))))),(6,bk (eT_Su8_i64_u64_Z r1))]⟩ (sr (vp (eSu8 a0) rfl ?_))))
 obtain ⟨r3,hr4,h⟩:=bind_some h
 refine a_call (args:=[(eSu8 a0)]) (u:=[]) (r:=(.tuple [(i6 r3.1),(eVb r3.2.1),(eVb r3.2.2)])) rfl rfl (spec_l01Both_ok a0 r3 hr4) rfl (vp (.tuple [(i6 r3.1),(eVb r3.2.1),(eVb r3.2.2)]) rfl (vb (i6 r3.1) rfl rfl (vb (eVb r3.2.1) rfl rfl (vb (eVb r3.2.2) rfl rfl (vo 1800 (eVb ((vrep 64 (0 : Int)))) rfl rfl (vo 1900 (eVb ((vrep 64 (0 : Int)))) rfl rfl (vp (i6 r3.1) rfl (vs (eVb r3.2.1) rfl rfl (fun _=>rfl) rfl rfl rfl rfl rfl rfl (vs (eVb r3.2.2) rfl rfl (fun _=>rfl) rfl rfl rfl rfl rfl rfl ?_)))))))))
 refine nk ⟨[(3,ow 3),(5,ow 5),(6,ow 6),(7,i6 r3.1),(8,ow 8),(9,ow 9)],[(3,bk (eVb ((vrep 64 (0 : Int))))),(5,bk (eVb ((vrep 64 (0 : Int))))),(6,bk (eT_Su8_i64_u64_Z r1)),(8,bk (eVb r3.2.1)),(9,bk (eVb r3.2.2))]⟩ (a_seq (a_draw [⟨[],[],[],[]⟩,⟨[8],[],[],[]⟩,⟨[],[],[6],[]⟩,⟨[],[],[6],[]⟩,⟨[6],[6],[],[3]⟩,⟨[],[],[6],[]⟩,⟨[6],[6],[],[3,4,5]⟩,⟨[],[],[],[3,4,5,6]⟩,⟨[6],[6],[],[2,3,4,5,6,7]⟩,⟨[9],[],[],[]⟩,⟨[],[],[],[0,2,3,4,5,6,7,8]⟩,⟨[3],[3],[],[0,1,2,3,4,5,6,7,8,10]⟩,⟨[],[],[],[0,1,2,3,4,5,6,7,8,10,11]⟩,⟨[5],[5],[],[0,1,2,3,4,5,6,7,8,9,10,11,12]⟩] (by kernel_rfl) (dj (i6 r3.1) rfl (d_cons (vl (eVb r3.2.1) rfl rfl rfl rfl rfl rfl (d_next (by kernel_rfl) (dj (ow 6) rfl (dj (ow 6) rfl (d_cons ?_)))))))))
 obtain ⟨r21,hr22,h⟩:=bind_some h
 refine a_callM (args:=[(.mutp (eT_Su8_i64_u64_Z r1)),(i6 100)]) (i:=0) (id:=6) (r:=(i6 r21.1)) (c:=(eT_Su8_i64_u64_Z r21.2)) rfl rfl (spec_l01Next_of_src_ok r1 100 r21 hr22) rfl trivial (d_next (by kernel_rfl) (dj (ow 6) rfl (d_cons ?_)))
 obtain ⟨r24,hr25,h⟩:=bind_some h
 refine a_callM (args:=[(.mutp (eT_Su8_i64_u64_Z r21.2)),(i6 1000000)]) (i:=0) (id:=6) (r:=(i6 r24.1)) (c:=(eT_Su8_i64_u64_Z r24.2)) rfl rfl (spec_l01Next_of_src_ok r21.2 1000000 r24 hr25) rfl trivial (d_next (by kernel_rfl) (d_cons (vq (.sl 1 true (([0,1,2,r21.1,r24.1,1000000000000,1000000000001,-1]).map (AV.int .i64))) rfl ⟨(Nat.le_of_ble_eq_true rfl),(Nat.le_of_ble_eq_true rfl),(all_cons ⟨(Nat.le_of_ble_eq_true rfl),rfl⟩ (all_cons ⟨(Nat.le_of_ble_eq_true rfl),rfl⟩ (all_cons ⟨(Nat.le_of_ble_eq_true rfl),rfl⟩ (all_cons ⟨(Nat.le_of_ble_eq_true rfl),rfl⟩ (all_cons ⟨(Nat.le_of_ble_eq_true rfl),rfl⟩ (all_cons ⟨(Nat.le_of_ble_eq_true rfl),rfl⟩ (all_cons ⟨(Nat.le_of_ble_eq_true rfl),rfl⟩ (all_cons ⟨(Nat.le_of_ble_eq_true rfl),rfl⟩ all_nil))))))))⟩ (d_next (by kernel_rfl) (d_cons ?_)))))
 obtain ⟨r27,hr28,h⟩:=bind_some h
 refine a_callM (args:=[(.mutp (eT_Su8_i64_u64_Z r24.2)),(.sl 1 true (([0,1,2,r21.1,r24.1,1000000000000,1000000000001,-1]).map (AV.int .i64)))]) (i:=0) (id:=6) (r:=(i6 r27.1)) (c:=(eT_Su8_i64_u64_Z r27.2)) rfl rfl (Den.argsM (spec_l01Pick_of_src_ok r24.2 ([0,1,2,r21.1,r24.1,1000000000000,1000000000001,-1]) r27 hr28) rfl rfl (.cons (.loose _) .nil)) rfl trivial (d_next (by kernel_rfl) (d_cons (vl (eVb r3.2.2) rfl rfl rfl rfl rfl rfl (d_next (by kernel_rfl) (dj (i6 r3.1) rfl (d_cons (vs (eVb r3.2.1) rfl rfl (fun _=>rfl) rfl rfl rfl rfl rfl rfl (d_next (by kernel_rfl) (dj (i6 r27.1) rfl ?_)))))))))
 refine d_cons (vs (eVb r3.2.2) rfl rfl (fun _=>rfl) rfl rfl rfl rfl rfl rfl (d_next (by kernel_rfl) (d_nil (a_next rfl (a_ret ?_)))))
 have hl33 : LdOk [] (eVb r3.2.1) [] 64 true (eVb r3.2.1):=(.nil rfl rfl rfl)
 have hl34 : LdOk [] (eVb r3.2.2) [] 64 true (eVb r3.2.2):=(.nil rfl rfl rfl)
 refine ⟨.inr rfl,?_⟩
 rw [Try.results79]
 cases h
 exact ⟨_,_,_,_,_,rfl,trivial,.inl ⟨rfl,.inl rfl⟩,rfl,⟨_,_,_,_,_,ld_own (i:=⟨.arr 64 5,64,64,(eVb (vrep 64 (0 : Int)))⟩) rfl rfl rfl hl33,hl33.c,.inl ⟨rfl,.inl rfl⟩,rfl,⟨_,_,_,_,_,rfl,trivial,.inl ⟨rfl,.inl rfl⟩,rfl,⟨_,_,_,_,_,ld_own (i:=⟨.arr 64 5,64,64,(eVb (vrep 64 (0 : Int)))⟩) rfl rfl rfl hl34,hl34.c,.inl ⟨rfl,.inl rfl⟩,rfl,rfl⟩⟩⟩⟩
def impl_isPrime_c : ACode:=(.seq (.region 0 [q 2 (.asg 0 (.const (.bool false)) 4)] false) (.seq (.region 1 [q 3 (.mov (t 0)),q 4 (.bin .eql 2 (t 3) (.const (.int .i64 2))),q 5 (.mov (t 4)),⟨some 6,.mov (t 0),some (5,false),[]⟩,⟨some 7,.bin .eql 2 (t 6) (.const (.int .i64 3)),some (5,false),[]⟩,q 8 (.pick (t 5) (.const (.bool true)) (t 7)),q 9 (.mov (t 8)),⟨some 10,.mov (t 0),some (9,false),[]⟩,⟨some 11,.bin .eql 2 (t 10) (.const (.int .i64 5)),some (9,false),[]⟩,q 12 (.pick (t 9) (.const (.bool true)) (t 11)),q 13 (.mov (t 12)),⟨some 14,.mov (t 0),some (13,false),[]⟩,⟨some 15,.bin .eql 2 (t 14) (.const (.int .i64 7)),some (13,false),[]⟩,q 16 (.pick (t 13) (.const (.bool true)) (t 15)),q 2 (.asg 0 (t 16) 4)] false) .ret))
def impl_isPrime_L : Live:=[(0,[0]),(1,[0])]
noncomputable def impl_isPrime (a0 : Int) : Option Bool :=
 (if (a0 == 2) then (some true) else (if (a0 == 3) then (some true) else (if (a0 == 5) then (some true) else (some (a0 == 7)))))
theorem impl_isPrime_ok (a0 : Int) (r : Bool) (h : impl_isPrime a0 = some r) : Den Try.prog 106 [(i6 a0)] { r:=(.bool r) }:=by
 refine den_of (rs:=[(.bool r)]) (ac:=impl_isPrime_c) (L:=impl_isPrime_L) (n:=17) (m:=[]) (c:=Try.f106.body.getD .skip) good Try.func106 (by kernel_rfl) (by kernel_rfl) Try.ntmps106 rfl rfl (by kernel_rfl) rfl rfl ?_
 refine ns ⟨[(0,i6 a0)],[]⟩ ?_
 unfold impl_isPrime_c
 refine sr (vp (.bool false) rfl (nk ⟨[(0,i6 a0)],[]⟩ (sr (vp (i6 a0) rfl (vp (.bool (a0 == 2)) rfl (vp (.bool (a0 == 2)) rfl ?_))))))
 cases hb1 : (a0 == 2)
 ·have h:=ite_f hb1 h
  refine gp (i6 a0) rfl rfl (gp (.bool (a0 == 3)) rfl rfl (vp (.bool (a0 == 3)) rfl (vp (.bool (a0 == 3)) rfl ?_)))
  cases hb2 : (a0 == 3)
  ·have h:=ite_f hb2 h
   refine gp (i6 a0) rfl rfl (gp (.bool (a0 == 5)) rfl rfl (vp (.bool (a0 == 5)) rfl (vp (.bool (a0 == 5)) rfl ?_)))
   cases hb3 : (a0 == 5)
   ·have h:=ite_f hb3 h
    refine gp (i6 a0) rfl rfl (gp (.bool (a0 == 7)) rfl rfl (vp (.bool (a0 == 7)) rfl (vp (.bool (a0 == 7)) rfl (nx _ rfl (a_ret ?_)))))
    refine ⟨.inr rfl,?_⟩
    rw [Try.results106]
    cases h
    exact ⟨_,_,_,_,_,rfl,trivial,.inl ⟨rfl,.inl rfl⟩,rfl,rfl⟩
   ·have h:=ite_t hb3 h
    refine a_gskip rfl (a_gskip rfl (vp (.bool true) rfl (vp (.bool true) rfl (nx _ rfl (a_ret ?_)))))
    refine ⟨.inr rfl,?_⟩
    rw [Try.results106]
    cases h
    exact ⟨_,_,_,_,_,rfl,trivial,.inl ⟨rfl,.inl rfl⟩,rfl,rfl⟩
  ·have h:=ite_t hb2 h
   refine a_gskip rfl (a_gskip rfl (vp (.bool true) rfl (vp (.bool true) rfl (a_gskip rfl (a_gskip rfl (vp (.bool true) rfl (vp (.bool true) rfl (nx _ rfl (a_ret ?_)))))))))
   refine ⟨.inr rfl,?_⟩
   rw [Try.results106]
   cases h
   exact ⟨_,_,_,_,_,rfl,trivial,.inl ⟨rfl,.inl rfl⟩,rfl,rfl⟩
 ·have h:=ite_t hb1 h
  refine a_gskip rfl (a_gskip rfl (vp (.bool true) rfl (vp (.bool true) rfl (a_gskip rfl (a_gskip rfl (vp (.bool true) rfl (vp (.bool true) rfl (a_gskip rfl (a_gskip rfl ?_)))))))))
  refine vp (.bool true) rfl (vp (.bool true) rfl (nx _ rfl (a_ret ?_)))
  refine ⟨.inr rfl,?_⟩
  rw [Try.results106]
  cases h
  exact ⟨_,_,_,_,_,rfl,trivial,.inl ⟨rfl,.inl rfl⟩,rfl,rfl⟩
def impl_isPoly_c1_of_p_c : ACode:=(.seq (.region 0 [q 3 (.asg 0 (.const (.bool false)) 4)] false) (.seq (.region 1 [q 4 (.mov (t 0)),q 5 (.conv 5 2 (t 4)),q 6 (.load 2 (t 1)),q 7 (.bin .lss 2 (t 5) (t 6)),q 3 (.asg 0 (t 7) 4)] false) .ret))
def impl_isPoly_c1_of_p_L : Live:=[(0,[0,1]),(1,[0,1])]
noncomputable def impl_isPoly_c1_of_p (a0 : Int) (a1 : Int) : Option Bool :=
 (some ((decide ((IntKind.i64.wrap a0) < a1))))
theorem impl_isPoly_c1_of_p_ok (a0 : Int) (a1 : Int) (r : Bool) (h : impl_isPoly_c1_of_p a0 a1 = some r) : Den Try.prog 182 [(b8 a0),(.ref (i6 a1) [] [])] { r:=(.bool r) }:=by
 refine den_of (rs:=[(.bool r)]) (ac:=impl_isPoly_c1_of_p_c) (L:=impl_isPoly_c1_of_p_L) (n:=8) (m:=[]) (c:=Try.f182.body.getD .skip) good Try.func182 (by kernel_rfl) (by kernel_rfl) Try.ntmps182 rfl rfl (by kernel_rfl) rfl rfl ?_
 refine ns ⟨[(0,b8 a0),(1,.ref (i6 a1) [] [])],[]⟩ ?_
 unfold impl_isPoly_c1_of_p_c
 refine sr (vp (.bool false) rfl (nk ⟨[(0,b8 a0),(1,.ref (i6 a1) [] [])],[]⟩ (sr (vp (b8 a0) rfl (vp (i6 (IntKind.i64.wrap a0)) rfl ?_)))))
 have hl1 : LdOk [] (i6 a1) [] 1 false (i6 a1):=(.nil rfl rfl rfl)
 refine vq (i6 a1) (ld_ref (i:=⟨.int .i64,1,8,(.int .i64 0)⟩) rfl rfl hl1) hl1.c (vp (.bool ((decide ((IntKind.i64.wrap a0) < a1)))) rfl (vp (.bool ((decide ((IntKind.i64.wrap a0) < a1)))) rfl (nx _ rfl (a_ret ?_))))
 refine ⟨.inr rfl,?_⟩
 rw [Try.results182]
 cases h
 exact ⟨_,_,_,_,_,rfl,trivial,.inl ⟨rfl,.inl rfl⟩,rfl,rfl⟩
def impl_areAll_byte__c1_of_p_c : ACode:=(.seq (.region 0 [q 3 (.asg 0 (.const (.bool false)) 4)] false) (.seq (.region 1 [q 4 (.load 149 (t 1)),q 5 (.mov (t 0)),q 6 (.call 0 (t 4) [(t 5)]),q 7 (.un .not (t 6)),q 3 (.asg 0 (t 7) 4)] false) .ret))
def impl_areAll_byte__c1_of_p_L : Live:=[(0,[0,1]),(1,[0,1])]
noncomputable def impl_areAll_byte__c1_of_p (a0 : Int) (a1c0 : Int) : Option Bool :=
 (Option.bind (impl_isPoly_c1_of_p a0 a1c0) fun r2=>(some (!r2)))
theorem impl_areAll_byte__c1_of_p_ok (a0 : Int) (a1c0 : Int) (r : Bool) (h : impl_areAll_byte__c1_of_p a0 a1c0 = some r) : Den Try.prog 203 [(b8 a0),(.ref (.clo 182 [] [(.ref (i6 a1c0) [] [])]) [] [])] { r:=(.bool r) }:=by
 refine den_of (rs:=[(.bool r)]) (ac:=impl_areAll_byte__c1_of_p_c) (L:=impl_areAll_byte__c1_of_p_L) (n:=8) (m:=[]) (c:=Try.f203.body.getD .skip) good Try.func203 (by kernel_rfl) (by kernel_rfl) Try.ntmps203 rfl rfl (by kernel_rfl) rfl rfl ?_
 refine ns ⟨[(0,b8 a0),(1,.ref (.clo 182 [] [(.ref (i6 a1c0) [] [])]) [] [])],[]⟩ ?_
 unfold impl_areAll_byte__c1_of_p_c
 refine sr (vp (.bool false) rfl (nk ⟨[(0,b8 a0),(1,.ref (.clo 182 [] [(.ref (i6 a1c0) [] [])]) [] [])],[]⟩ (sr ?_)))
 have hl1 : LdOk [] (.clo 182 [] [(.ref (i6 a1c0) [] [])]) [] 1 false (.clo 182 [] [(.ref (i6 a1c0) [] [])]):=(.nil rfl rfl rfl)
 refine vq (.clo 182 [] [(.ref (i6 a1c0) [] [])]) (ld_ref (i:=⟨.other,1,8,(.raw .nilFunc)⟩) rfl rfl hl1) hl1.c (vp (b8 a0) rfl ?_)
 obtain ⟨r2,hr3,h⟩:=bind_some h
 refine a_call (args:=[(b8 a0),(.ref (i6 a1c0) [] [])]) (u:=[]) (r:=(.bool r2)) rfl rfl (impl_isPoly_c1_of_p_ok a0 a1c0 r2 hr3) rfl (vp (.bool (!r2)) rfl (vp (.bool (!r2)) rfl (nx _ rfl (a_ret ?_))))
 refine ⟨.inr rfl,?_⟩
 rw [Try.results203]
 cases h
 exact ⟨_,_,_,_,_,rfl,trivial,.inl ⟨rfl,.inl rfl⟩,rfl,rfl⟩
def slices_IndexFunc_byte_byte_of_impl_areAll_byte__c1_p_c : ACode:=(.seq (.region 0 [q 4 (.asg 0 (.const (.int .i64 0)) 3)] false) (.seq (.seq (.region 1 [q 6 (.mov (t 0)),q 7 (.blt 0 .len [(t 6)] [22]),q 8 (.mov (.const (.int .i64 0)))] false) (.block 0 (.loop (.seq (.region 2 [q 9 (.bin .lss 3 (t 8) (t 7))] false) (.seq (.cond (t 9) .skip (.exit 0)) (.seq (.block 1 (.seq (.region 3 [q 10 (.mov (t 8)),q 5 (.asg 0 (t 10) 3)] false) (.seq (.region 4 [q 11 (.mov (t 1)),q 12 (.mov (t 0)),q 13 (.mov (t 5)),q 14 (.indexAddr 22 (t 12) (t 13)),q 15 (.load 5 (t 14)),q 16 (.call 0 (t 11) [(t 15)])] false) (.cond (t 16) (.seq (.region 5 [q 17 (.mov (t 5)),q 4 (.asg 0 (t 17) 3)] false) .ret) .skip)))) (.region 6 [q 18 (.bin .add 3 (t 8) (.const (.int .i64 1))),q 8 (.mov (t 18))] false))))))) (.seq (.region 7 [q 4 (.asg 0 (.const (.int .i64 (-1))) 3)] false) .ret)))
def slices_IndexFunc_byte_byte_of_impl_areAll_byte__c1_p_L : Live:=[(0,[0,1]),(1,[0,1]),(2,[0,1,7,8]),(3,[0,1,7,8]),(4,[0,1,5,7,8]),(5,[5]),(6,[0,1,7,8]),(7,[]),(100009,[0,1,7,8,9]),(100016,[0,1,5,7,8,16])]
noncomputable def slices_IndexFunc_byte_byte_of_impl_areAll_byte__c1_p_l1 (a0 : (List Int)) (a1c0c0 : Int) (x33 : Int) : Option (Int ⊕ (Unit ⊕ Int)) :=
 (if (decide (x33 < (a0.length : Int))) then (ifp (0 ≤ x33 ∧ x33 < ((a0.length : Nat) : Int)) ((Option.bind (impl_areAll_byte__c1_of_p (rd a0 x33.toNat) a1c0c0) fun r46=>(if r46 then (some (.inr (.inr x33))) else (some (.inl (IntKind.i64.wrap (x33 + 1)))))))) else (some (.inr (((.inl ()))))))
noncomputable def slices_IndexFunc_byte_byte_of_impl_areAll_byte__c1_p (a0 : (List Int)) (a1c0c0 : Int) : Option Int :=
 (Option.bind (α:=(Unit ⊕ Int)) ((loopM (fun s : Int=>slices_IndexFunc_byte_byte_of_impl_areAll_byte__c1_p_l1 a0 a1c0c0 s) 0)) fun z=>match z with | .inl _=>(some (-1)) | .inr r50=>(some r50))
theorem slices_IndexFunc_byte_byte_of_impl_areAll_byte__c1_p_ok (a0 : (List Int)) (a1c0c0 : Int) (r : Int) (h : slices_IndexFunc_byte_byte_of_impl_areAll_byte__c1_p a0 a1c0c0 = some r) : Den Try.prog 209 [(eSu8 a0),(.clo 203 [] [(.ref (.clo 182 [] [(.ref (i6 a1c0c0) [] [])]) [] [])])] { r:=(i6 r) }:=by
 refine den_of (rs:=[(i6 r)]) (ac:=slices_IndexFunc_byte_byte_of_impl_areAll_byte__c1_p_c) (L:=slices_IndexFunc_byte_byte_of_impl_areAll_byte__c1_p_L) (n:=19) (m:=[]) (c:=Try.f209.body.getD .skip) good Try.func209 (by kernel_rfl) (by kernel_rfl) Try.ntmps209 rfl rfl (by kernel_rfl) rfl rfl ?_
 refine ns ⟨[(0,eSu8 a0),(1,.clo 203 [] [(.ref (.clo 182 [] [(.ref (i6 a1c0c0) [] [])]) [] [])])],[]⟩ ?_
 unfold slices_IndexFunc_byte_byte_of_impl_areAll_byte__c1_p_c
 refine sr (vp (i6 0) rfl (nk ⟨[(0,eSu8 a0),(1,.clo 203 [] [(.ref (.clo 182 [] [(.ref (i6 a1c0c0) [] [])]) [] [])])],[]⟩ ?_))
 obtain ⟨y24,hy25,hk26⟩:=bind_some h
 clear h
 refine a_join (emb:=fun (s : Unit)=>⟨[],[]⟩) (pre:=fun s=>(.inl s) = y24) ?_ ?_
 ·rintro _ rfl
  have h:=hk26
  refine ns ⟨[],[]⟩ (sr (vp (i6 (-1)) rfl (nx _ rfl (a_ret ?_))))
  refine ⟨.inr rfl,?_⟩
  rw [Try.results209]
  cases h
  exact ⟨_,_,_,_,_,rfl,trivial,.inl ⟨rfl,.inl rfl⟩,rfl,rfl⟩
 ·have h:=hy25
  refine sr (vp (eSu8 a0) rfl (vq (i6 (a0.length : Int)) (len_run rfl rfl) trivial (vp (i6 0) rfl (nk ⟨[(0,eSu8 a0),(1,.clo 203 [] [(.ref (.clo 182 [] [(.ref (i6 a1c0c0) [] [])]) [] [])]),(7,i6 (a0.length : Int)),(8,i6 0)],[]⟩ (a_block ?_)))))
  refine a_loop (emb:=fun (s : Int)=>⟨[(0,eSu8 a0),(1,.clo 203 [] [(.ref (.clo 182 [] [(.ref (i6 a1c0c0) [] [])]) [] [])]),(7,i6 (a0.length : Int)),(8,i6 s)],[]⟩) (body:=(fun s : Int=>slices_IndexFunc_byte_byte_of_impl_areAll_byte__c1_p_l1 a0 a1c0c0 s)) (G:=fun q=>some q = some y24) h rfl ?_ (by kernel_rfl)
  rintro X40 x33 x41 h hX42
  have h : slices_IndexFunc_byte_byte_of_impl_areAll_byte__c1_p_l1 a0 a1c0c0 x33 = some x41:=h
  refine ns ⟨[(0,eSu8 a0),(1,.clo 203 [] [(.ref (.clo 182 [] [(.ref (i6 a1c0c0) [] [])]) [] [])]),(7,i6 (a0.length : Int)),(8,i6 x33)],[]⟩ (sr (vp (.bool ((decide (x33 < (a0.length : Int))))) rfl (nk ⟨[(0,eSu8 a0),(1,.clo 203 [] [(.ref (.clo 182 [] [(.ref (i6 a1c0c0) [] [])]) [] [])]),(7,i6 (a0.length : Int)),(8,i6 x33),(9,.bool ((decide (x33 < (a0.length : Int)))))],[]⟩ (a_seq ?_))))
  cases hb43 : (decide (x33 < (a0.length : Int)))
  ·have h:=ite_f hb43 h
   refine a_cond_f rfl (a_exit (t_exit ?_))
   cases h
   have h:=hX42
   refine t_exit (b_exit ?_)
   exact j_leaf () (Option.some.inj h) (by kernel_rfl)
  ·have h:=ite_t hb43 h
   refine a_cond_t rfl (a_skip (nj ⟨[(0,eSu8 a0),(1,.clo 203 [] [(.ref (.clo 182 [] [(.ref (i6 a1c0c0) [] [])]) [] [])]),(7,i6 (a0.length : Int)),(8,i6 x33)],[]⟩ (a_seq (a_block (sr (vp (i6 x33) rfl (vp (i6 x33) rfl (nk ⟨[(0,eSu8 a0),(1,.clo 203 [] [(.ref (.clo 182 [] [(.ref (i6 a1c0c0) [] [])]) [] [])]),(5,i6 x33),(7,i6 (a0.length : Int)),(8,i6 x33)],[]⟩ (sr ?_)))))))))
   refine vp (.clo 203 [] [(.ref (.clo 182 [] [(.ref (i6 a1c0c0) [] [])]) [] [])]) rfl (vp (eSu8 a0) rfl (vp (i6 x33) rfl ?_))
   obtain ⟨hc44,h⟩:=ifp_some h
   refine vq (.ref (.row 1 (a0.map (AV.int .u8))) [x33.toNat] [x33.toNat * 1]) rfl (lmap hc44) ?_
   have hl45 : LdOk [x33.toNat] (.row 1 (a0.map (AV.int .u8))) [x33.toNat * 1] 1 false (b8 (rd a0 x33.toNat)):=(.row (llt hc44) rfl (.nil rfl rfl rfl))
   refine vq (b8 (rd a0 x33.toNat)) (ld_ref (i:=⟨.int .u8,1,1,(.int .u8 0)⟩) rfl rfl hl45) hl45.c ?_
   obtain ⟨r46,hr47,h⟩:=bind_some h
   refine a_call (args:=[(b8 (rd a0 x33.toNat)),(.ref (.clo 182 [] [(.ref (i6 a1c0c0) [] [])]) [] [])]) (u:=[]) (r:=(.bool r46)) rfl rfl (impl_areAll_byte__c1_of_p_ok (rd a0 x33.toNat) a1c0c0 r46 hr47) rfl (nk ⟨[(0,eSu8 a0),(1,.clo 203 [] [(.ref (.clo 182 [] [(.ref (i6 a1c0c0) [] [])]) [] [])]),(5,i6 x33),(7,i6 (a0.length : Int)),(8,i6 x33),(16,.bool r46)],[]⟩ ?_)
   cases hb48 : r46
   ·have h:=ite_f hb48 h
    refine a_cond_f rfl (a_skip (b_norm (nj ⟨[(0,eSu8 a0),(1,.clo 203 [] [(.ref (.clo 182 [] [(.ref (i6 a1c0c0) [] [])]) [] [])]),(7,i6 (a0.length : Int)),(8,i6 x33)],[]⟩ (a_region (vp (i6 (IntKind.i64.wrap (x33 + 1))) rfl (vp (i6 (IntKind.i64.wrap (x33 + 1))) rfl (a_nil ?_)))))))
    cases h
    exact a_again (by kernel_rfl) hX42
   ·have h:=ite_t hb48 h
    refine a_cond_t rfl (sr (vp (i6 x33) rfl (vp (i6 x33) rfl (nx _ rfl (a_ret (b_ret (t_ret ?_)))))))
    cases h
    have h:=hX42
    refine t_ret (b_ret (t_ret ?_))
    cases h
    have h:=hk26
    refine ⟨.inr rfl,?_⟩
    rw [Try.results209]
    cases h
    exact ⟨_,_,_,_,_,rfl,trivial,.inl ⟨rfl,.inl rfl⟩,rfl,rfl⟩
def slices_ContainsFunc_byte_byte_of_impl_areAll_byte__c1_p_c : ACode:=(.seq (.region 0 [q 4 (.asg 0 (.const (.bool false)) 4)] false) (.seq (.region 1 [q 5 (.mov (t 0)),q 6 (.mov (t 1)),q 7 (.call 0 (.func 209) [(t 5),(t 6)]),q 8 (.bin .geq 3 (t 7) (.const (.int .i64 0))),q 4 (.asg 0 (t 8) 4)] false) .ret))
def slices_ContainsFunc_byte_byte_of_impl_areAll_byte__c1_p_L : Live:=[(0,[0,1]),(1,[0,1])]
noncomputable def slices_ContainsFunc_byte_byte_of_impl_areAll_byte__c1_p (a0 : (List Int)) (a1c0c0 : Int) : Option Bool :=
 (Option.bind (slices_IndexFunc_byte_byte_of_impl_areAll_byte__c1_p a0 a1c0c0) fun r1=>(some ((decide (r1 ≥ 0)))))
theorem slices_ContainsFunc_byte_byte_of_impl_areAll_byte__c1_p_ok (a0 : (List Int)) (a1c0c0 : Int) (r : Bool) (h : slices_ContainsFunc_byte_byte_of_impl_areAll_byte__c1_p a0 a1c0c0 = some r) : Den Try.prog 202 [(eSu8 a0),(.clo 203 [] [(.ref (.clo 182 [] [(.ref (i6 a1c0c0) [] [])]) [] [])])] { r:=(.bool r) }:=by
 refine den_of (rs:=[(.bool r)]) (ac:=slices_ContainsFunc_byte_byte_of_impl_areAll_byte__c1_p_c) (L:=slices_ContainsFunc_byte_byte_of_impl_areAll_byte__c1_p_L) (n:=9) (m:=[]) (c:=Try.f202.body.getD .skip) good Try.func202 (by kernel_rfl) (by kernel_rfl) Try.ntmps202 rfl rfl (by kernel_rfl) rfl rfl ?_
 refine ns ⟨[(0,eSu8 a0),(1,.clo 203 [] [(.ref (.clo 182 [] [(.ref (i6 a1c0c0) [] [])]) [] [])])],[]⟩ ?_
 unfold slices_ContainsFunc_byte_byte_of_impl_areAll_byte__c1_p_c
 refine sr (vp (.bool false) rfl (nk ⟨[(0,eSu8 a0),(1,.clo 203 [] [(.ref (.clo 182 [] [(.ref (i6 a1c0c0) [] [])]) [] [])])],[]⟩ (sr (vp (eSu8 a0) rfl (vp (.clo 203 [] [(.ref (.clo 182 [] [(.ref (i6 a1c0c0) [] [])]) [] [])]) rfl ?_)))))
 obtain ⟨r1,hr2,h⟩:=bind_some h
 refine a_call (args:=[(eSu8 a0),(.clo 203 [] [(.ref (.clo 182 [] [(.ref (i6 a1c0c0) [] [])]) [] [])])]) (u:=[]) (r:=(i6 r1)) rfl rfl (slices_IndexFunc_byte_byte_of_impl_areAll_byte__c1_p_ok a0 a1c0c0 r1 hr2) rfl (vp (.bool ((decide (r1 ≥ 0)))) rfl (vp (.bool ((decide (r1 ≥ 0)))) rfl (nx _ rfl (a_ret ?_))))
 refine ⟨.inr rfl,?_⟩
 rw [Try.results202]
 cases h
 exact ⟨_,_,_,_,_,rfl,trivial,.inl ⟨rfl,.inl rfl⟩,rfl,rfl⟩
def impl_areAll_byte_of_impl_isPoly_c1_p_c : ACode:=(.seq (.region 0 [q 3 (.box 149 (t 1)),q 4 (.asg 0 (.const (.bool false)) 4)] false) (.seq (.region 1 [q 5 (.mov (t 0)),q 6 (.mkfn 203 [] [(t 3)]),q 7 (.call 0 (.func 202) [(t 5),(t 6)]),q 8 (.un .not (t 7)),q 4 (.asg 0 (t 8) 4)] false) .ret))
def impl_areAll_byte_of_impl_isPoly_c1_p_L : Live:=[(0,[0,1]),(1,[0,3])]
noncomputable def impl_areAll_byte_of_impl_isPoly_c1_p (a0 : (List Int)) (a1c0 : Int) : Option Bool :=
 (Option.bind (slices_ContainsFunc_byte_byte_of_impl_areAll_byte__c1_p a0 a1c0) fun r1=>(some (!r1)))
theorem impl_areAll_byte_of_impl_isPoly_c1_p_ok (a0 : (List Int)) (a1c0 : Int) (r : Bool) (h : impl_areAll_byte_of_impl_isPoly_c1_p a0 a1c0 = some r) : Den Try.prog 181 [(eSu8 a0),(.clo 182 [] [(.ref (i6 a1c0) [] [])])] { r:=(.bool r) }:=by
 refine den_of (rs:=[(.bool r)]) (ac:=impl_areAll_byte_of_impl_isPoly_c1_p_c) (L:=impl_areAll_byte_of_impl_isPoly_c1_p_L) (n:=9) (m:=[]) (c:=Try.f181.body.getD .skip) good Try.func181 (by kernel_rfl) (by kernel_rfl) Try.ntmps181 rfl rfl (by kernel_rfl) rfl rfl ?_
 refine ns ⟨[(0,eSu8 a0),(1,.clo 182 [] [(.ref (i6 a1c0) [] [])])],[]⟩ ?_
 unfold impl_areAll_byte_of_impl_isPoly_c1_p_c
 refine sr (vo 1300 (.clo 182 [] [(.ref (i6 a1c0) [] [])]) rfl rfl (vp (.bool false) rfl (nk ⟨[(0,eSu8 a0),(3,ow 3)],[(3,bk (.clo 182 [] [(.ref (i6 a1c0) [] [])]))]⟩ (sr (vp (eSu8 a0) rfl (vu (.clo 203 [] [(.ref (.clo 182 [] [(.ref (i6 a1c0) [] [])]) [] [])]) [(3,bf (.clo 182 [] [(.ref (i6 a1c0) [] [])]))] rfl trivial rfl ?_))))))
 obtain ⟨r1,hr2,h⟩:=bind_some h
 refine a_call (args:=[(eSu8 a0),(.clo 203 [] [(.ref (.clo 182 [] [(.ref (i6 a1c0) [] [])]) [] [])])]) (u:=[]) (r:=(.bool r1)) rfl rfl (slices_ContainsFunc_byte_byte_of_impl_areAll_byte__c1_p_ok a0 a1c0 r1 hr2) rfl (vp (.bool (!r1)) rfl (vp (.bool (!r1)) rfl (nx _ rfl (a_ret ?_))))
 refine ⟨.inr rfl,?_⟩
 rw [Try.results181]
 cases h
 exact ⟨_,_,_,_,_,rfl,trivial,.inl ⟨rfl,.inl rfl⟩,rfl,rfl⟩
def impl_isPoly_c : ACode:=(.seq (.region 0 [q 2 (.box 2 (t 0)),q 3 (.box 25 (t 1)),q 4 (.asg 0 (.const (.bool false)) 4)] false) (.seq (.region 1 [q 5 (.slice 25 (t 3) none none none),q 6 (.mkfn 182 [] [(t 2)]),q 7 (.call 0 (.func 181) [(t 5),(t 6)]),q 4 (.asg 0 (t 7) 4)] false) .ret))
def impl_isPoly_L : Live:=[(0,[0,1]),(1,[2,3])]
noncomputable def impl_isPoly (a0 : Int) (a1 : (Vec Int 64)) : Option Bool :=
 (Option.bind (impl_areAll_byte_of_impl_isPoly_c1_p a1.1 a0) fun r1=>(some r1))
theorem impl_isPoly_ok (a0 : Int) (a1 : (Vec Int 64)) (r : Bool) (h : impl_isPoly a0 a1 = some r) : Den Try.prog 107 [(i6 a0),(eVb a1)] { r:=(.bool r) }:=by
 refine den_of (rs:=[(.bool r)]) (ac:=impl_isPoly_c) (L:=impl_isPoly_L) (n:=8) (m:=[]) (c:=Try.f107.body.getD .skip) good Try.func107 (by kernel_rfl) (by kernel_rfl) Try.ntmps107 rfl rfl (by kernel_rfl) rfl rfl ?_
 refine ns ⟨[(0,i6 a0),(1,eVb a1)],[]⟩ ?_
 unfold impl_isPoly_c
 refine sr (vo 1200 (i6 a0) rfl rfl (vo 1300 (eVb a1) rfl rfl (vp (.bool false) rfl (nk ⟨[(2,ow 2),(3,ow 3)],[(2,bk (i6 a0)),(3,bk (eVb a1))]⟩ (sr (vu (.sl 1 true (a1.1.map (AV.int .u8))) [(3,bf (eVb a1))] rfl ⟨rfl,trivial,rfl,rfl⟩ rfl (vu (.clo 182 [] [(.ref (i6 a0) [] [])]) [(2,bf (i6 a0))] rfl trivial rfl ?_)))))))
 obtain ⟨r1,hr2,h⟩:=bind_some h
 refine a_call (args:=[(.sl 1 true (a1.1.map (AV.int .u8))),(.clo 182 [] [(.ref (i6 a0) [] [])])]) (u:=[]) (r:=(.bool r1)) rfl rfl (Den.args (impl_areAll_byte_of_impl_isPoly_c1_p_ok a1.1 a0 r1 hr2) rfl rfl (.cons (.loose _) (.cons (.refl _) .nil))) rfl (vp (.bool r1) rfl (nx _ rfl (a_ret ?_)))
 refine ⟨.inr rfl,?_⟩
 rw [Try.results107]
 cases h
 exact ⟨_,_,_,_,_,rfl,trivial,.inl ⟨rfl,.inl rfl⟩,rfl,rfl⟩
def impl_polysCode_c1_of_p_c : ACode:=(.seq (.region 0 [q 2 (.box 25 (t 0)),q 3 (.asg 0 (.const (.bool false)) 4)] false) (.seq (.region 1 [q 4 (.load 2 (t 1)),q 5 (.load 25 (t 2)),q 6 (.call 0 (.func 107) [(t 4),(t 5)]),q 3 (.asg 0 (t 6) 4)] false) .ret))
def impl_polysCode_c1_of_p_L : Live:=[(0,[0,1]),(1,[1,2])]
noncomputable def impl_polysCode_c1_of_p (a0 : (Vec Int 64)) (a1 : Int) : Option Bool :=
 (Option.bind (impl_isPoly a1 a0) fun r3=>(some r3))
theorem impl_polysCode_c1_of_p_ok (a0 : (Vec Int 64)) (a1 : Int) (r : Bool) (h : impl_polysCode_c1_of_p a0 a1 = some r) : Den Try.prog 179 [(eVb a0),(.ref (i6 a1) [] [])] { r:=(.bool r) }:=by
 refine den_of (rs:=[(.bool r)]) (ac:=impl_polysCode_c1_of_p_c) (L:=impl_polysCode_c1_of_p_L) (n:=7) (m:=[]) (c:=Try.f179.body.getD .skip) good Try.func179 (by kernel_rfl) (by kernel_rfl) Try.ntmps179 rfl rfl (by kernel_rfl) rfl rfl ?_
 refine ns ⟨[(0,eVb a0),(1,.ref (i6 a1) [] [])],[]⟩ ?_
 unfold impl_polysCode_c1_of_p_c
 refine sr (vo 1200 (eVb a0) rfl rfl (vp (.bool false) rfl (nk ⟨[(1,.ref (i6 a1) [] []),(2,ow 2)],[(2,bk (eVb a0))]⟩ (sr ?_))))
 have hl1 : LdOk [] (i6 a1) [] 1 false (i6 a1):=(.nil rfl rfl rfl)
 refine vq (i6 a1) (ld_ref (i:=⟨.int .i64,1,8,(.int .i64 0)⟩) rfl rfl hl1) hl1.c (vl (eVb a0) rfl rfl rfl rfl rfl rfl ?_)
 obtain ⟨r3,hr4,h⟩:=bind_some h
 refine a_call (args:=[(i6 a1),(eVb a0)]) (u:=[]) (r:=(.bool r3)) rfl rfl (impl_isPoly_ok a1 a0 r3 hr4) rfl (vp (.bool r3) rfl (nx _ rfl (a_ret ?_)))
 refine ⟨.inr rfl,?_⟩
 rw [Try.results179]
 cases h
 exact ⟨_,_,_,_,_,rfl,trivial,.inl ⟨rfl,.inl rfl⟩,rfl,rfl⟩
def impl_areAll_impl_Poly__c1_of_p_c : ACode:=(.seq (.region 0 [q 2 (.box 25 (t 0)),q 3 (.asg 0 (.const (.bool false)) 4)] false) (.seq (.region 1 [q 4 (.load 147 (t 1)),q 5 (.load 25 (t 2)),q 6 (.call 0 (t 4) [(t 5)]),q 7 (.un .not (t 6)),q 3 (.asg 0 (t 7) 4)] false) .ret))
def impl_areAll_impl_Poly__c1_of_p_L : Live:=[(0,[0,1]),(1,[1,2])]
noncomputable def impl_areAll_impl_Poly__c1_of_p (a0 : (Vec Int 64)) (a1c0 : Int) : Option Bool :=
 (Option.bind (impl_polysCode_c1_of_p a0 a1c0) fun r3=>(some (!r3)))
theorem impl_areAll_impl_Poly__c1_of_p_ok (a0 : (Vec Int 64)) (a1c0 : Int) (r : Bool) (h : impl_areAll_impl_Poly__c1_of_p a0 a1c0 = some r) : Den Try.prog 201 [(eVb a0),(.ref (.clo 179 [] [(.ref (i6 a1c0) [] [])]) [] [])] { r:=(.bool r) }:=by
 refine den_of (rs:=[(.bool r)]) (ac:=impl_areAll_impl_Poly__c1_of_p_c) (L:=impl_areAll_impl_Poly__c1_of_p_L) (n:=8) (m:=[]) (c:=Try.f201.body.getD .skip) good Try.func201 (by kernel_rfl) (by kernel_rfl) Try.ntmps201 rfl rfl (by kernel_rfl) rfl rfl ?_
 refine ns ⟨[(0,eVb a0),(1,.ref (.clo 179 [] [(.ref (i6 a1c0) [] [])]) [] [])],[]⟩ ?_
 unfold impl_areAll_impl_Poly__c1_of_p_c
 refine sr (vo 1200 (eVb a0) rfl rfl (vp (.bool false) rfl (nk ⟨[(1,.ref (.clo 179 [] [(.ref (i6 a1c0) [] [])]) [] []),(2,ow 2)],[(2,bk (eVb a0))]⟩ (sr ?_))))
 have hl1 : LdOk [] (.clo 179 [] [(.ref (i6 a1c0) [] [])]) [] 1 false (.clo 179 [] [(.ref (i6 a1c0) [] [])]):=(.nil rfl rfl rfl)
 refine vq (.clo 179 [] [(.ref (i6 a1c0) [] [])]) (ld_ref (i:=⟨.other,1,8,(.raw .nilFunc)⟩) rfl rfl hl1) hl1.c (vl (eVb a0) rfl rfl rfl rfl rfl rfl ?_)
 obtain ⟨r3,hr4,h⟩:=bind_some h
 refine a_call (args:=[(eVb a0),(.ref (i6 a1c0) [] [])]) (u:=[]) (r:=(.bool r3)) rfl rfl (impl_polysCode_c1_of_p_ok a0 a1c0 r3 hr4) rfl (vp (.bool (!r3)) rfl (vp (.bool (!r3)) rfl (nx _ rfl (a_ret ?_))))
 refine ⟨.inr rfl,?_⟩
 rw [Try.results201]
 cases h
 exact ⟨_,_,_,_,_,rfl,trivial,.inl ⟨rfl,.inl rfl⟩,rfl,rfl⟩
def slices_IndexFunc_impl_Poly_impl_Poly_of_impl_areAll_impl_Poly__c1_p_c : ACode:=(.seq (.region 0 [q 4 (.asg 0 (.const (.int .i64 0)) 3)] false) (.seq (.seq (.region 1 [q 6 (.mov (t 0)),q 7 (.blt 0 .len [(t 6)] [55]),q 8 (.mov (.const (.int .i64 0)))] false) (.block 0 (.loop (.seq (.region 2 [q 9 (.bin .lss 3 (t 8) (t 7))] false) (.seq (.cond (t 9) .skip (.exit 0)) (.seq (.block 1 (.seq (.region 3 [q 10 (.mov (t 8)),q 5 (.asg 0 (t 10) 3)] false) (.seq (.region 4 [q 11 (.mov (t 1)),q 12 (.mov (t 0)),q 13 (.mov (t 5)),q 14 (.indexAddr 55 (t 12) (t 13)),q 15 (.load 25 (t 14)),q 16 (.call 0 (t 11) [(t 15)])] false) (.cond (t 16) (.seq (.region 5 [q 17 (.mov (t 5)),q 4 (.asg 0 (t 17) 3)] false) .ret) .skip)))) (.region 6 [q 18 (.bin .add 3 (t 8) (.const (.int .i64 1))),q 8 (.mov (t 18))] false))))))) (.seq (.region 7 [q 4 (.asg 0 (.const (.int .i64 (-1))) 3)] false) .ret)))
def slices_IndexFunc_impl_Poly_impl_Poly_of_impl_areAll_impl_Poly__c1_p_L : Live:=[(0,[0,1]),(1,[0,1]),(2,[0,1,7,8]),(3,[0,1,7,8]),(4,[0,1,5,7,8]),(5,[5]),(6,[0,1,7,8]),(7,[]),(100009,[0,1,7,8,9]),(100016,[0,1,5,7,8,16])]
noncomputable def slices_IndexFunc_impl_Poly_impl_Poly_of_impl_areAll_impl_Poly__c1_p_l1 (a0 : (List (Vec Int 64))) (a1c0c0 : Int) (x33 : Int) : Option (Int ⊕ (Unit ⊕ Int)) :=
 (if (decide (x33 < (a0.length : Int))) then (ifp (0 ≤ x33 ∧ x33 < ((a0.length : Nat) : Int)) ((Option.bind (impl_areAll_impl_Poly__c1_of_p (rd a0 x33.toNat) a1c0c0) fun r46=>(if r46 then (some (.inr (.inr x33))) else (some (.inl (IntKind.i64.wrap (x33 + 1)))))))) else (some (.inr (((.inl ()))))))
noncomputable def slices_IndexFunc_impl_Poly_impl_Poly_of_impl_areAll_impl_Poly__c1_p (a0 : (List (Vec Int 64))) (a1c0c0 : Int) : Option Int :=
 (Option.bind (α:=(Unit ⊕ Int)) ((loopM (fun s : Int=>slices_IndexFunc_impl_Poly_impl_Poly_of_impl_areAll_impl_Poly__c1_p_l1 a0 a1c0c0 s) 0)) fun z=>match z with | .inl _=>(some (-1)) | .inr r50=>(some r50))
theorem slices_IndexFunc_impl_Poly_impl_Poly_of_impl_areAll_impl_Poly__c1_p_ok (a0 : (List (Vec Int 64))) (a1c0c0 : Int) (r : Int) (h : slices_IndexFunc_impl_Poly_impl_Poly_of_impl_areAll_impl_Poly__c1_p a0 a1c0c0 = some r) : Den Try.prog 208 [(eSA64u8 a0),(.clo 201 [] [(.ref (.clo 179 [] [(.ref (i6 a1c0c0) [] [])]) [] [])])] { r:=(i6 r) }:=by
 refine den_of (rs:=[(i6 r)]) (ac:=slices_IndexFunc_impl_Poly_impl_Poly_of_impl_areAll_impl_Poly__c1_p_c) (L:=slices_IndexFunc_impl_Poly_impl_Poly_of_impl_areAll_impl_Poly__c1_p_L) (n:=19) (m:=[]) (c:=Try.f208.body.getD .skip) good Try.func208 (by kernel_rfl) (by kernel_rfl) Try.ntmps208 rfl rfl (by kernel_rfl) rfl rfl ?_
 refine ns ⟨[(0,eSA64u8 a0),(1,.clo 201 [] [(.ref (.clo 179 [] [(.ref (i6 a1c0c0) [] [])]) [] [])])],[]⟩ ?_
 unfold slices_IndexFunc_impl_Poly_impl_Poly_of_impl_areAll_impl_Poly__c1_p_c
 refine sr (vp (i6 0) rfl (nk ⟨[(0,eSA64u8 a0),(1,.clo 201 [] [(.ref (.clo 179 [] [(.ref (i6 a1c0c0) [] [])]) [] [])])],[]⟩ ?_))
 obtain ⟨y24,hy25,hk26⟩:=bind_some h
 clear h
 refine a_join (emb:=fun (s : Unit)=>⟨[],[]⟩) (pre:=fun s=>(.inl s) = y24) ?_ ?_
 ·rintro _ rfl
  have h:=hk26
  refine ns ⟨[],[]⟩ (sr (vp (i6 (-1)) rfl (nx _ rfl (a_ret ?_))))
  refine ⟨.inr rfl,?_⟩
  rw [Try.results208]
  cases h
  exact ⟨_,_,_,_,_,rfl,trivial,.inl ⟨rfl,.inl rfl⟩,rfl,rfl⟩
 ·have h:=hy25
  refine sr (vp (eSA64u8 a0) rfl (vq (i6 (a0.length : Int)) (len_run rfl rfl) trivial (vp (i6 0) rfl (nk ⟨[(0,eSA64u8 a0),(1,.clo 201 [] [(.ref (.clo 179 [] [(.ref (i6 a1c0c0) [] [])]) [] [])]),(7,i6 (a0.length : Int)),(8,i6 0)],[]⟩ (a_block ?_)))))
  refine a_loop (emb:=fun (s : Int)=>⟨[(0,eSA64u8 a0),(1,.clo 201 [] [(.ref (.clo 179 [] [(.ref (i6 a1c0c0) [] [])]) [] [])]),(7,i6 (a0.length : Int)),(8,i6 s)],[]⟩) (body:=(fun s : Int=>slices_IndexFunc_impl_Poly_impl_Poly_of_impl_areAll_impl_Poly__c1_p_l1 a0 a1c0c0 s)) (G:=fun q=>some q = some y24) h rfl ?_ (by kernel_rfl)
  rintro X40 x33 x41 h hX42
  have h : slices_IndexFunc_impl_Poly_impl_Poly_of_impl_areAll_impl_Poly__c1_p_l1 a0 a1c0c0 x33 = some x41:=h
  refine ns ⟨[(0,eSA64u8 a0),(1,.clo 201 [] [(.ref (.clo 179 [] [(.ref (i6 a1c0c0) [] [])]) [] [])]),(7,i6 (a0.length : Int)),(8,i6 x33)],[]⟩ (sr (vp (.bool ((decide (x33 < (a0.length : Int))))) rfl (nk ⟨[(0,eSA64u8 a0),(1,.clo 201 [] [(.ref (.clo 179 [] [(.ref (i6 a1c0c0) [] [])]) [] [])]),(7,i6 (a0.length : Int)),(8,i6 x33),(9,.bool ((decide (x33 < (a0.length : Int)))))],[]⟩ (a_seq ?_))))
  cases hb43 : (decide (x33 < (a0.length : Int)))
  ·have h:=ite_f hb43 h
   refine a_cond_f rfl (a_exit (t_exit ?_))
   cases h
   have h:=hX42
   refine t_exit (b_exit ?_)
   exact j_leaf () (Option.some.inj h) (by kernel_rfl)
  ·have h:=ite_t hb43 h
   refine a_cond_t rfl (a_skip (nj ⟨[(0,eSA64u8 a0),(1,.clo 201 [] [(.ref (.clo 179 [] [(.ref (i6 a1c0c0) [] [])]) [] [])]),(7,i6 (a0.length : Int)),(8,i6 x33)],[]⟩ (a_seq (a_block (sr (vp (i6 x33) rfl (vp (i6 x33) rfl (nk ⟨[(0,eSA64u8 a0),(1,.clo 201 [] [(.ref (.clo 179 [] [(.ref (i6 a1c0c0) [] [])]) [] [])]),(5,i6 x33),(7,i6 (a0.length : Int)),(8,i6 x33)],[]⟩ (sr ?_)))))))))
   refine vp (.clo 201 [] [(.ref (.clo 179 [] [(.ref (i6 a1c0c0) [] [])]) [] [])]) rfl (vp (eSA64u8 a0) rfl (vp (i6 x33) rfl ?_))
   obtain ⟨hc44,h⟩:=ifp_some h
   refine vq (.ref (.row 64 (a0.map eVb)) [x33.toNat] [x33.toNat * 64]) rfl (lmap hc44) ?_
   have hl45 : LdOk [x33.toNat] (.row 64 (a0.map eVb)) [x33.toNat * 64] 64 true (eVb (rd a0 x33.toNat)):=(.row (llt hc44) rfl (.nil rfl rfl rfl))
   refine vq (eVb (rd a0 x33.toNat)) (ld_ref (i:=⟨.arr 64 5,64,64,(eVb (vrep 64 (0 : Int)))⟩) rfl rfl hl45) hl45.c ?_
   obtain ⟨r46,hr47,h⟩:=bind_some h
   refine a_call (args:=[(eVb (rd a0 x33.toNat)),(.ref (.clo 179 [] [(.ref (i6 a1c0c0) [] [])]) [] [])]) (u:=[]) (r:=(.bool r46)) rfl rfl (impl_areAll_impl_Poly__c1_of_p_ok (rd a0 x33.toNat) a1c0c0 r46 hr47) rfl (nk ⟨[(0,eSA64u8 a0),(1,.clo 201 [] [(.ref (.clo 179 [] [(.ref (i6 a1c0c0) [] [])]) [] [])]),(5,i6 x33),(7,i6 (a0.length : Int)),(8,i6 x33),(16,.bool r46)],[]⟩ ?_)
   cases hb48 : r46
   ·have h:=ite_f hb48 h
    refine a_cond_f rfl (a_skip (b_norm (nj ⟨[(0,eSA64u8 a0),(1,.clo 201 [] [(.ref (.clo 179 [] [(.ref (i6 a1c0c0) [] [])]) [] [])]),(7,i6 (a0.length : Int)),(8,i6 x33)],[]⟩ (a_region (vp (i6 (IntKind.i64.wrap (x33 + 1))) rfl (vp (i6 (IntKind.i64.wrap (x33 + 1))) rfl (a_nil ?_)))))))
    cases h
    exact a_again (by kernel_rfl) hX42
   ·have h:=ite_t hb48 h
    refine a_cond_t rfl (sr (vp (i6 x33) rfl (vp (i6 x33) rfl (nx _ rfl (a_ret (b_ret (t_ret ?_)))))))
    cases h
    have h:=hX42
    refine t_ret (b_ret (t_ret ?_))
    cases h
    have h:=hk26
    refine ⟨.inr rfl,?_⟩
    rw [Try.results208]
    cases h
    exact ⟨_,_,_,_,_,rfl,trivial,.inl ⟨rfl,.inl rfl⟩,rfl,rfl⟩
def slices_ContainsFunc_impl_Poly_impl_Poly_of_impl_areAll_impl_Poly__c1_p_c : ACode:=(.seq (.region 0 [q 4 (.asg 0 (.const (.bool false)) 4)] false) (.seq (.region 1 [q 5 (.mov (t 0)),q 6 (.mov (t 1)),q 7 (.call 0 (.func 208) [(t 5),(t 6)]),q 8 (.bin .geq 3 (t 7) (.const (.int .i64 0))),q 4 (.asg 0 (t 8) 4)] false) .ret))
def slices_ContainsFunc_impl_Poly_impl_Poly_of_impl_areAll_impl_Poly__c1_p_L : Live:=[(0,[0,1]),(1,[0,1])]
noncomputable def slices_ContainsFunc_impl_Poly_impl_Poly_of_impl_areAll_impl_Poly__c1_p (a0 : (List (Vec Int 64))) (a1c0c0 : Int) : Option Bool :=
 (Option.bind (slices_IndexFunc_impl_Poly_impl_Poly_of_impl_areAll_impl_Poly__c1_p a0 a1c0c0) fun r1=>(some ((decide (r1 ≥ 0)))))
theorem slices_ContainsFunc_impl_Poly_impl_Poly_of_impl_areAll_impl_Poly__c1_p_ok (a0 : (List (Vec Int 64))) (a1c0c0 : Int) (r : Bool) (h : slices_ContainsFunc_impl_Poly_impl_Poly_of_impl_areAll_impl_Poly__c1_p a0 a1c0c0 = some r) : Den Try.prog 200 [(eSA64u8 a0),(.clo 201 [] [(.ref (.clo 179 [] [(.ref (i6 a1c0c0) [] [])]) [] [])])] { r:=(.bool r) }:=by
 refine den_of (rs:=[(.bool r)]) (ac:=slices_ContainsFunc_impl_Poly_impl_Poly_of_impl_areAll_impl_Poly__c1_p_c) (L:=slices_ContainsFunc_impl_Poly_impl_Poly_of_impl_areAll_impl_Poly__c1_p_L) (n:=9) (m:=[]) (c:=Try.f200.body.getD .skip) good Try.func200 (by kernel_rfl) (by kernel_rfl) Try.ntmps200 rfl rfl (by kernel_rfl) rfl rfl ?_
 refine ns ⟨[(0,eSA64u8 a0),(1,.clo 201 [] [(.ref (.clo 179 [] [(.ref (i6 a1c0c0) [] [])]) [] [])])],[]⟩ ?_
 unfold slices_ContainsFunc_impl_Poly_impl_Poly_of_impl_areAll_impl_Poly__c1_p_c
 refine sr (vp (.bool false) rfl (nk ⟨[(0,eSA64u8 a0),(1,.clo 201 [] [(.ref (.clo 179 [] [(.ref (i6 a1c0c0) [] [])]) [] [])])],[]⟩ (sr (vp (eSA64u8 a0) rfl (vp (.clo 201 [] [(.ref (.clo 179 [] [(.ref (i6 a1c0c0) [] [])]) [] [])]) rfl ?_)))))
 obtain ⟨r1,hr2,h⟩:=bind_some h
 refine a_call (args:=[(eSA64u8 a0),(.clo 201 [] [(.ref (.clo 179 [] [(.ref (i6 a1c0c0) [] [])]) [] [])])]) (u:=[]) (r:=(i6 r1)) rfl rfl (slices_IndexFunc_impl_Poly_impl_Poly_of_impl_areAll_impl_Poly__c1_p_ok a0 a1c0c0 r1 hr2) rfl (vp (.bool ((decide (r1 ≥ 0)))) rfl (vp (.bool ((decide (r1 ≥ 0)))) rfl (nx _ rfl (a_ret ?_))))
 refine ⟨.inr rfl,?_⟩
 rw [Try.results200]
 cases h
 exact ⟨_,_,_,_,_,rfl,trivial,.inl ⟨rfl,.inl rfl⟩,rfl,rfl⟩
def impl_areAll_impl_Poly_of_impl_polysCode_c1_p_c : ACode:=(.seq (.region 0 [q 3 (.box 147 (t 1)),q 4 (.asg 0 (.const (.bool false)) 4)] false) (.seq (.region 1 [q 5 (.mov (t 0)),q 6 (.mkfn 201 [] [(t 3)]),q 7 (.call 0 (.func 200) [(t 5),(t 6)]),q 8 (.un .not (t 7)),q 4 (.asg 0 (t 8) 4)] false) .ret))
def impl_areAll_impl_Poly_of_impl_polysCode_c1_p_L : Live:=[(0,[0,1]),(1,[0,3])]
noncomputable def impl_areAll_impl_Poly_of_impl_polysCode_c1_p (a0 : (List (Vec Int 64))) (a1c0 : Int) : Option Bool :=
 (Option.bind (slices_ContainsFunc_impl_Poly_impl_Poly_of_impl_areAll_impl_Poly__c1_p a0 a1c0) fun r1=>(some (!r1)))
theorem impl_areAll_impl_Poly_of_impl_polysCode_c1_p_ok (a0 : (List (Vec Int 64))) (a1c0 : Int) (r : Bool) (h : impl_areAll_impl_Poly_of_impl_polysCode_c1_p a0 a1c0 = some r) : Den Try.prog 178 [(eSA64u8 a0),(.clo 179 [] [(.ref (i6 a1c0) [] [])])] { r:=(.bool r) }:=by
 refine den_of (rs:=[(.bool r)]) (ac:=impl_areAll_impl_Poly_of_impl_polysCode_c1_p_c) (L:=impl_areAll_impl_Poly_of_impl_polysCode_c1_p_L) (n:=9) (m:=[]) (c:=Try.f178.body.getD .skip) good Try.func178 (by kernel_rfl) (by kernel_rfl) Try.ntmps178 rfl rfl (by kernel_rfl) rfl rfl ?_
 refine ns ⟨[(0,eSA64u8 a0),(1,.clo 179 [] [(.ref (i6 a1c0) [] [])])],[]⟩ ?_
 unfold impl_areAll_impl_Poly_of_impl_polysCode_c1_p_c
 refine sr (vo 1300 (.clo 179 [] [(.ref (i6 a1c0) [] [])]) rfl rfl (vp (.bool false) rfl (nk ⟨[(0,eSA64u8 a0),(3,ow 3)],[(3,bk (.clo 179 [] [(.ref (i6 a1c0) [] [])]))]⟩ (sr (vp (eSA64u8 a0) rfl (vu (.clo 201 [] [(.ref (.clo 179 [] [(.ref (i6 a1c0) [] [])]) [] [])]) [(3,bf (.clo 179 [] [(.ref (i6 a1c0) [] [])]))] rfl trivial rfl ?_))))))
 obtain ⟨r1,hr2,h⟩:=bind_some h
 refine a_call (args:=[(eSA64u8 a0),(.clo 201 [] [(.ref (.clo 179 [] [(.ref (i6 a1c0) [] [])]) [] [])])]) (u:=[]) (r:=(.bool r1)) rfl rfl (slices_ContainsFunc_impl_Poly_impl_Poly_of_impl_areAll_impl_Poly__c1_p_ok a0 a1c0 r1 hr2) rfl (vp (.bool (!r1)) rfl (vp (.bool (!r1)) rfl (nx _ rfl (a_ret ?_))))
 refine ⟨.inr rfl,?_⟩
 rw [Try.results178]
 cases h
 exact ⟨_,_,_,_,_,rfl,trivial,.inl ⟨rfl,.inl rfl⟩,rfl,rfl⟩
def impl_polysCode_c : ACode:=(.seq (.region 0 [q 2 (.box 2 (t 0)),q 4 (.asg 0 (.const (.int .i64 0)) 2)] false) (.seq (.seq (.region 1 [q 5 (.load 2 (t 2)),q 6 (.call 0 (.func 106) [(t 5)]),q 7 (.un .not (t 6)),q 8 (.mov (t 7)),⟨some 9,.mov (t 1),some (8,false),[]⟩,⟨some 10,.mkfn 179 [] [(t 2)],some (8,false),[]⟩,⟨some 11,.call 0 (.func 178) [(t 9),(t 10)],some (8,false),[]⟩,⟨some 12,.un .not (t 11),some (8,false),[]⟩,q 13 (.pick (t 8) (.const (.bool true)) (t 12))] false) (.cond (t 13) (.seq (.region 2 [q 4 (.asg 0 (.const (.int .i64 1)) 2)] false) .ret) .skip)) (.seq (.region 3 [q 4 (.asg 0 (.const (.int .i64 0)) 2)] false) .ret)))
def impl_polysCode_L : Live:=[(0,[0,1]),(1,[1,2]),(2,[]),(3,[]),(100013,[13])]
noncomputable def impl_polysCode (a0 : Int) (a1 : (List (Vec Int 64))) : Option Int :=
 (Option.bind (α:=Bool) ((Option.bind (impl_isPrime a0) fun r12=>(if (!r12) then (some true) else (Option.bind (impl_areAll_impl_Poly_of_impl_polysCode_c1_p a1 a0) fun r15=>(some (!r15)))))) fun x7=>(if x7 then (some 1) else (some 0)))
theorem impl_polysCode_ok (a0 : Int) (a1 : (List (Vec Int 64))) (r : Int) (h : impl_polysCode a0 a1 = some r) : Den Try.prog 100 [(i6 a0),(eSA64u8 a1)] { r:=(i6 r) }:=by
 refine den_of (rs:=[(i6 r)]) (ac:=impl_polysCode_c) (L:=impl_polysCode_L) (n:=14) (m:=[]) (c:=Try.f100.body.getD .skip) good Try.func100 (by kernel_rfl) (by kernel_rfl) Try.ntmps100 rfl rfl (by kernel_rfl) rfl rfl ?_
 refine ns ⟨[(0,i6 a0),(1,eSA64u8 a1)],[]⟩ ?_
 unfold impl_polysCode_c
 refine sr (vo 1200 (i6 a0) rfl rfl (vp (i6 0) rfl (nk ⟨[(1,eSA64u8 a1),(2,ow 2)],[(2,bk (i6 a0))]⟩ (a_seq ?_))))
 obtain ⟨y8,hy9,hk10⟩:=bind_some h
 clear h
 refine a_join (emb:=fun (s : Bool)=>⟨[(13,.bool s)],[]⟩) (pre:=fun s=>s = y8) ?_ ?_
 ·rintro x7 rfl
  have h:=hk10
  refine ns ⟨[(13,.bool x7)],[]⟩ ?_
  cases hb17 : x7
  ·have h:=ite_f hb17 h
   refine a_cond_f rfl (a_skip (nj ⟨[],[]⟩ (sr (vp (i6 0) rfl (nx _ rfl (a_ret ?_))))))
   refine ⟨.inr rfl,?_⟩
   rw [Try.results100]
   cases h
   exact ⟨_,_,_,_,_,rfl,trivial,.inl ⟨rfl,.inl rfl⟩,rfl,rfl⟩
  ·have h:=ite_t hb17 h
   refine a_cond_t rfl (sr (vp (i6 1) rfl (nx _ rfl (a_ret (t_ret ?_)))))
   refine ⟨.inr rfl,?_⟩
   rw [Try.results100]
   cases h
   exact ⟨_,_,_,_,_,rfl,trivial,.inl ⟨rfl,.inl rfl⟩,rfl,rfl⟩
 ·have h:=hy9
  refine a_region (vl (i6 a0) rfl rfl rfl rfl rfl rfl ?_)
  obtain ⟨r12,hr13,h⟩:=bind_some h
  refine a_call (args:=[(i6 a0)]) (u:=[]) (r:=(.bool r12)) rfl rfl (impl_isPrime_ok a0 r12 hr13) rfl (vp (.bool (!r12)) rfl (vp (.bool (!r12)) rfl ?_))
  cases hb14 : (!r12)
  ·have h:=ite_f hb14 h
   refine gp (eSA64u8 a1) rfl rfl (a_gval rfl (v:=(.clo 179 [] [(.ref (i6 a0) [] [])])) (u:=[(2,bf (i6 a0))]) rfl trivial rfl ?_)
   obtain ⟨r15,hr16,h⟩:=bind_some h
   refine a_gcall rfl (args:=[(eSA64u8 a1),(.clo 179 [] [(.ref (i6 a0) [] [])])]) (u:=[]) (r:=(.bool r15)) rfl rfl (impl_areAll_impl_Poly_of_impl_polysCode_c1_p_ok a1 a0 r15 hr16) rfl (gp (.bool (!r15)) rfl rfl (vp (.bool (!r15)) rfl (a_nil ?_)))
   exact j_leaf (!r15) (Option.some.inj h) (by kernel_rfl)
  ·have h:=ite_t hb14 h
   refine a_gskip rfl (a_gskip rfl (a_gskip rfl (a_gskip rfl (vp (.bool true) rfl (a_nil ?_)))))
   exact j_leaf true (Option.some.inj h) (by kernel_rfl)
def impl_within_c : ACode:=(.seq (.region 0 [q 6 (.asg 0 (.const (.bool false)) 4)] false) (.seq (.region 1 [q 7 (.mov (t 1)),q 8 (.mov (t 0)),q 9 (.bin .leq 2 (t 7) (t 8)),q 10 (.mov (t 9)),⟨some 11,.mov (t 0),some (10,true),[]⟩,⟨some 12,.mov (t 2),some (10,true),[]⟩,⟨some 13,.bin .leq 2 (t 11) (t 12),some (10,true),[]⟩,q 14 (.pick (t 10) (t 13) (.const (.bool false))),q 6 (.asg 0 (t 14) 4)] false) .ret))
def impl_within_L : Live:=[(0,[0,1,2]),(1,[0,1,2])]
noncomputable def impl_within (a0 : Int) (a1 : Int) (a2 : Int) : Option Bool :=
 (if (decide (a1 ≤ a0)) then (some ((decide (a0 ≤ a2)))) else (some false))
theorem impl_within_ok (a0 : Int) (a1 : Int) (a2 : Int) (r : Bool) (h : impl_within a0 a1 a2 = some r) : Den Try.prog 139 [(i6 a0),(i6 a1),(i6 a2)] { r:=(.bool r) }:=by
 refine den_of (rs:=[(.bool r)]) (ac:=impl_within_c) (L:=impl_within_L) (n:=15) (m:=[]) (c:=Try.f139.body.getD .skip) good Try.func139 (by kernel_rfl) (by kernel_rfl) Try.ntmps139 rfl rfl (by kernel_rfl) rfl rfl ?_
 refine ns ⟨[(0,i6 a0),(1,i6 a1),(2,i6 a2)],[]⟩ ?_
 unfold impl_within_c
 refine sr (vp (.bool false) rfl (nk ⟨[(0,i6 a0),(1,i6 a1),(2,i6 a2)],[]⟩ (sr (vp (i6 a1) rfl (vp (i6 a0) rfl (vp (.bool ((decide (a1 ≤ a0)))) rfl (vp (.bool ((decide (a1 ≤ a0)))) rfl ?_)))))))
 cases hb1 : (decide (a1 ≤ a0))
 ·have h:=ite_f hb1 h
  refine a_gskip rfl (a_gskip rfl (a_gskip rfl (vp (.bool false) rfl (vp (.bool false) rfl (nx _ rfl (a_ret ?_))))))
  refine ⟨.inr rfl,?_⟩
  rw [Try.results139]
  cases h
  exact ⟨_,_,_,_,_,rfl,trivial,.inl ⟨rfl,.inl rfl⟩,rfl,rfl⟩
 ·have h:=ite_t hb1 h
  refine gp (i6 a0) rfl rfl (gp (i6 a2) rfl rfl (gp (.bool ((decide (a0 ≤ a2)))) rfl rfl (vp (.bool ((decide (a0 ≤ a2)))) rfl (vp (.bool ((decide (a0 ≤ a2)))) rfl (nx _ rfl (a_ret ?_))))))
  refine ⟨.inr rfl,?_⟩
  rw [Try.results139]
  cases h
  exact ⟨_,_,_,_,_,rfl,trivial,.inl ⟨rfl,.inl rfl⟩,rfl,rfl⟩
def impl_isNumber_c : ACode:=(.seq (.region 0 [q 2 (.asg 0 (.const (.bool false)) 4)] false) (.seq (.region 1 [q 3 (.mov (t 0)),q 4 (.call 0 (.func 139) [(t 3),(.const (.int .i64 0)),(.const (.int .i64 1000000000000))]),q 2 (.asg 0 (t 4) 4)] false) .ret))
def impl_isNumber_L : Live:=[(0,[0]),(1,[0])]
noncomputable def impl_isNumber (a0 : Int) : Option Bool :=
 (Option.bind (impl_within a0 0 1000000000000) fun r1=>(some r1))
theorem impl_isNumber_ok (a0 : Int) (r : Bool) (h : impl_isNumber a0 = some r) : Den Try.prog 118 [(i6 a0)] { r:=(.bool r) }:=by
 refine den_of (rs:=[(.bool r)]) (ac:=impl_isNumber_c) (L:=impl_isNumber_L) (n:=5) (m:=[]) (c:=Try.f118.body.getD .skip) good Try.func118 (by kernel_rfl) (by kernel_rfl) Try.ntmps118 rfl rfl (by kernel_rfl) rfl rfl ?_
 refine ns ⟨[(0,i6 a0)],[]⟩ ?_
 unfold impl_isNumber_c
 refine sr (vp (.bool false) rfl (nk ⟨[(0,i6 a0)],[]⟩ (sr (vp (i6 a0) rfl ?_))))
 obtain ⟨r1,hr2,h⟩:=bind_some h
 refine a_call (args:=[(i6 a0),(i6 0),(i6 1000000000000)]) (u:=[]) (r:=(.bool r1)) rfl rfl (impl_within_ok a0 0 1000000000000 r1 hr2) rfl (vp (.bool r1) rfl (nx _ rfl (a_ret ?_)))
 refine ⟨.inr rfl,?_⟩
 rw [Try.results118]
 cases h
 exact ⟨_,_,_,_,_,rfl,trivial,.inl ⟨rfl,.inl rfl⟩,rfl,rfl⟩
def impl_row_trimmed_c : ACode:=(.seq (.region 0 [q 2 (.asg 1 (.const (.slice none 0 0)) 80)] false) (.seq (.region 1 [q 4 (.mov (t 0)),q 5 (.blt 0 .len [(t 4)] [80]),q 3 (.asg 0 (t 5) 3)] false) (.seq (.block 0 (.loop (.seq (.seq (.region 2 [q 6 (.mov (t 3)),q 7 (.bin .gtr 3 (t 6) (.const (.int .i64 0))),q 8 (.mov (t 7)),⟨some 9,.mov (t 0),some (8,true),[]⟩,⟨some 10,.mov (t 3),some (8,true),[]⟩,⟨some 11,.bin .sub 3 (t 10) (.const (.int .i64 1)),some (8,true),[]⟩,⟨some 12,.indexAddr 80 (t 9) (t 11),some (8,true),[]⟩,⟨some 13,.load 2 (t 12),some (8,true),[]⟩,⟨some 14,.bin .eql 2 (t 13) (.const (.int .i64 0)),some (8,true),[]⟩,q 15 (.pick (t 8) (t 14) (.const (.bool false)))] false) (.cond (t 15) .skip (.exit 0))) (.block 1 (.region 3 [q 16 (.mov (t 3)),q 17 (.bin .sub 3 (t 16) (.const (.int .i64 1))),q 3 (.asg 0 (t 17) 3)] false))))) (.seq (.region 4 [q 18 (.mov (t 0)),q 19 (.mov (t 3)),q 20 (.mov (t 3)),q 21 (.slice 80 (t 18) none (some (t 19)) (some (t 20))),q 2 (.asg 1 (t 21) 80)] false) .ret))))
def impl_row_trimmed_L : Live:=[(0,[0]),(1,[0]),(2,[0,3]),(3,[0,3]),(4,[0,3]),(100015,[0,3,15])]
noncomputable def impl_row_trimmed_l1 (a0 : (List Int)) (x62 : Int) : Option (Int ⊕ Int) :=
 (Option.bind (α:=Bool) ((if (decide (x62 > 0)) then (ifp (0 ≤ IntKind.i64.wrap (x62 - 1) ∧ IntKind.i64.wrap (x62 - 1) < ((a0.length : Nat) : Int)) ((some ((((rd a0 (IntKind.i64.wrap (x62 - 1)).toNat)) == 0))))) else (some false))) fun x80=>(if x80 then (some (.inl (IntKind.i64.wrap (x62 - 1)))) else (some (.inr x62))))
noncomputable def impl_row_trimmed (a0 : (List Int)) : Option (List Int) :=
 (Option.bind (α:=Int) ((loopM (fun s : Int=>impl_row_trimmed_l1 a0 s) (a0.length : Int))) fun x43=>(ifp (0 ≤ x43 ∧ x43 ≤ (a0.length : Int)) ((some (a0.take x43.toNat)))))
theorem impl_row_trimmed_ok (a0 : (List Int)) (r : (List Int)) (h : impl_row_trimmed a0 = some r) : Den Try.prog 180 [(eSi64 a0)] { r:=(eSi64 r) }:=by
 refine den_of (rs:=[(eSi64 r)]) (ac:=impl_row_trimmed_c) (L:=impl_row_trimmed_L) (n:=22) (m:=[(2,1)]) (c:=Try.f180.body.getD .skip) good Try.func180 (by kernel_rfl) (by kernel_rfl) Try.ntmps180 rfl rfl (by kernel_rfl) rfl rfl ?_
 refine ns ⟨[(0,eSi64 a0)],[]⟩ ?_
 unfold impl_row_trimmed_c
 refine sr (vp (eSi64 ([])) rfl (nk ⟨[(0,eSi64 a0)],[]⟩ (sr (vp (eSi64 a0) rfl (vq (i6 (a0.length : Int)) (len_run rfl rfl) trivial (vp (i6 (a0.length : Int)) rfl (nk ⟨[(0,eSi64 a0),(3,i6 (a0.length : Int))],[]⟩ ?_)))))))
 obtain ⟨y44,hy45,hk46⟩:=bind_some h
 clear h
 refine a_join (emb:=fun (s : Int)=>⟨[(0,eSi64 a0),(3,i6 s)],[]⟩) (pre:=fun s=>s = y44) ?_ ?_
 ·rintro x43 rfl
  have h:=hk46
  refine ns ⟨[(0,eSi64 a0),(3,i6 x43)],[]⟩ (sr (vp (eSi64 a0) rfl (vp (i6 x43) rfl (vp (i6 x43) rfl ?_))))
  obtain ⟨hc89,h⟩:=ifp_some h
  refine vq (.sl 1 true ((a0.take x43.toNat).map (AV.int .i64))) (take3_run (f:=(AV.int .i64)) (l:=a0) (i:=⟨.int .i64,1,8,(.int .i64 0)⟩) rfl rfl rfl rfl (fun _=>rfl)) ⟨hc89.1,lmap_le hc89.2,rfl⟩ (vq (eSi64 (a0.take x43.toNat)) (asg_tight (i:=⟨.int .i64,1,8,(.int .i64 0)⟩) (f:=(AV.int .i64)) (l:=(a0.take x43.toNat)) rfl rfl rfl) trivial (nx _ rfl (a_ret ?_)))
  refine ⟨.inr rfl,?_⟩
  rw [Try.results180]
  cases h
  exact ⟨_,_,_,_,_,rfl,trivial,.inl ⟨rfl,.inl rfl⟩,rfl,rfl⟩
 ·have h:=hy45
  refine a_block ?_
  refine a_loop (emb:=fun (s : Int)=>⟨[(0,eSi64 a0),(3,i6 s)],[]⟩) (body:=(fun s : Int=>impl_row_trimmed_l1 a0 s)) (G:=fun q=>some q = some y44) h rfl ?_ (by kernel_rfl)
  rintro X74 x62 x75 h hX76
  have h : impl_row_trimmed_l1 a0 x62 = some x75:=h
  refine ns ⟨[(0,eSi64 a0),(3,i6 x62)],[]⟩ (a_seq ?_)
  obtain ⟨y81,hy82,hk83⟩:=bind_some h
  clear h
  refine a_join (emb:=fun (s : Bool)=>⟨[(0,eSi64 a0),(3,i6 x62),(15,.bool s)],[]⟩) (pre:=fun s=>s = y81) ?_ ?_
  ·rintro x80 rfl
   have h:=hk83
   refine ns ⟨[(0,eSi64 a0),(3,i6 x62),(15,.bool x80)],[]⟩ ?_
   cases hb87 : x80
   ·have h:=ite_f hb87 h
    refine a_cond_f rfl (a_exit (t_exit ?_))
    cases h
    have h:=hX76
    refine t_exit (b_exit ?_)
    exact j_leaf x62 (Option.some.inj h) (by kernel_rfl)
   ·have h:=ite_t hb87 h
    refine a_cond_t rfl (a_skip (nj ⟨[(0,eSi64 a0),(3,i6 x62)],[]⟩ (a_block (a_region (vp (i6 x62) rfl (vp (i6 (IntKind.i64.wrap (x62 - 1))) rfl (vp (i6 (IntKind.i64.wrap (x62 - 1))) rfl (a_nil (b_norm ?_)))))))))
    cases h
    exact a_again (by kernel_rfl) hX76
  ·have h:=hy82
   refine a_region (vp (i6 x62) rfl (vp (.bool ((decide (x62 > 0)))) rfl (vp (.bool ((decide (x62 > 0)))) rfl ?_)))
   cases hb84 : (decide (x62 > 0))
   ·have h:=ite_f hb84 h
    refine a_gskip rfl (a_gskip rfl (a_gskip rfl (a_gskip rfl (a_gskip rfl (a_gskip rfl (vp (.bool false) rfl (a_nil ?_)))))))
    exact j_leaf false (Option.some.inj h) (by kernel_rfl)
   ·have h:=ite_t hb84 h
    refine gp (eSi64 a0) rfl rfl (gp (i6 x62) rfl rfl (gp (i6 (IntKind.i64.wrap (x62 - 1))) rfl rfl ?_))
    obtain ⟨hc85,h⟩:=ifp_some h
    refine gq (.ref (.row 1 (a0.map (AV.int .i64))) [(IntKind.i64.wrap (x62 - 1)).toNat] [(IntKind.i64.wrap (x62 - 1)).toNat * 1]) rfl rfl (lmap hc85) ?_
    have hl86 : LdOk [(IntKind.i64.wrap (x62 - 1)).toNat] (.row 1 (a0.map (AV.int .i64))) [(IntKind.i64.wrap (x62 - 1)).toNat * 1] 1 false (i6 ((rd a0 (IntKind.i64.wrap (x62 - 1)).toNat))):=(.row (llt hc85) rfl (.nil rfl rfl rfl))
    refine gq (i6 ((rd a0 (IntKind.i64.wrap (x62 - 1)).toNat))) rfl (ld_ref (i:=⟨.int .i64,1,8,(.int .i64 0)⟩) rfl rfl hl86) hl86.c (gp (.bool ((((rd a0 (IntKind.i64.wrap (x62 - 1)).toNat)) == 0))) rfl rfl (vp (.bool ((((rd a0 (IntKind.i64.wrap (x62 - 1)).toNat)) == 0))) rfl (a_nil ?_)))
    exact j_leaf ((((rd a0 (IntKind.i64.wrap (x62 - 1)).toNat)) == 0)) (Option.some.inj h) (by kernel_rfl)
def impl_rowOf_c : ACode:=(.seq (.region 0 [q 1 (.box 25 (t 0)),q 2 (.asg 1 (.const (.slice none 0 0)) 80)] false) (.seq (.region 1 [q 3 (.asg 2 (.const (.slice none 0 0)) 80)] false) (.seq (.seq (.region 2 [q 6 (.load 25 (t 1)),q 7 (.mov (.const (.int .i64 0)))] false) (.block 0 (.loop (.seq (.region 3 [q 8 (.bin .lss 3 (t 7) (.const (.int .i64 64)))] false) (.seq (.cond (t 8) .skip (.exit 0)) (.seq (.block 1 (.seq (.region 4 [q 9 (.index 25 (t 6) (t 7)),q 5 (.asg 0 (t 9) 5)] false) (.region 5 [q 10 (.mov (t 3)),q 11 (.mov (t 5)),q 12 (.conv 5 2 (t 11)),q 13 (.bslice 0 80 1 [(0,t 12)]),q 14 (.blt 0 .append [(t 10),(t 13)] [80,80]),q 3 (.asg 2 (t 14) 80)] false))) (.region 6 [q 15 (.bin .add 3 (t 7) (.const (.int .i64 1))),q 7 (.mov (t 15))] false))))))) (.seq (.region 7 [q 16 (.mov (t 3)),q 17 (.call 0 (.func 180) [(t 16)]),q 2 (.asg 1 (t 17) 80)] false) .ret))))
def impl_rowOf_L : Live:=[(0,[0]),(1,[1]),(2,[1,3]),(3,[3,6,7]),(4,[3,6,7]),(5,[3,5,6,7]),(6,[3,6,7]),(7,[3]),(100008,[3,6,7,8])]
noncomputable def impl_rowOf_l1 (a0 : (Vec Int 64)) (x25 : Int) (x26 : (List Int)) : Option ((Int × (List Int)) ⊕ (List Int)) :=
 (if (decide (x25 < 64)) then (ifp (0 ≤ x25 ∧ x25 < ((64 : Nat) : Int)) ((ifp ((x26.length + ([IntKind.i64.wrap (rd a0.1 x25.toNat)] : List Int).length) * 8 ≤ 140737488355328) ((some (.inl ((IntKind.i64.wrap (x25 + 1),(x26 ++ ([IntKind.i64.wrap (rd a0.1 x25.toNat)])))))))))) else (some (.inr x26)))
noncomputable def impl_rowOf (a0 : (Vec Int 64)) : Option (List Int) :=
 (Option.bind (α:=(List Int)) ((loopM (fun s : (Int × (List Int))=>impl_rowOf_l1 a0 s.1 s.2) (0,[]))) fun x17=>(Option.bind (impl_row_trimmed x17) fun r37=>(some r37)))
theorem impl_rowOf_ok (a0 : (Vec Int 64)) (r : (List Int)) (h : impl_rowOf a0 = some r) : Den Try.prog 103 [(eVb a0)] { r:=(eSi64 r) }:=by
 refine den_of (rs:=[(eSi64 r)]) (ac:=impl_rowOf_c) (L:=impl_rowOf_L) (n:=18) (m:=[(2,1),(3,2)]) (c:=Try.f103.body.getD .skip) good Try.func103 (by kernel_rfl) (by kernel_rfl) Try.ntmps103 rfl rfl (by kernel_rfl) rfl rfl ?_
 refine ns ⟨[(0,eVb a0)],[]⟩ ?_
 unfold impl_rowOf_c
 refine sr (vo 1100 (eVb a0) rfl rfl (vp (eSi64 ([])) rfl (nk ⟨[(1,ow 1)],[(1,bk (eVb a0))]⟩ (sr (vu (.osl 1300) [(1300,bk (.row 1 (([]).map (AV.int .i64))))] rfl trivial rfl (nk ⟨[(1,ow 1),(3,.osl 3)],[(1,bk (eVb a0)),(3,bk (.row 1 (([]).map (AV.int .i64))))]⟩ ?_))))))
 obtain ⟨y18,hy19,hk20⟩:=bind_some h
 clear h
 refine a_join (emb:=fun (s : (List Int))=>⟨[(3,.osl 3)],[(3,bk (.row 1 (s.map (AV.int .i64))))]⟩) (pre:=fun s=>s = y18) ?_ ?_
 ·rintro x17 rfl
  have h:=hk20
  refine ns ⟨[(3,.osl 3)],[(3,bk (.row 1 (x17.map (AV.int .i64))))]⟩ (sr (vp (.osl 3) rfl ?_))
  obtain ⟨r37,hr38,h⟩:=bind_some h
  refine a_call (args:=[(eSi64 x17)]) (u:=[(3,bf (.row 1 (x17.map (AV.int .i64))))]) (r:=(eSi64 r37)) rfl rfl (impl_row_trimmed_ok x17 r37 hr38) rfl (vp (eSi64 r37) rfl (nx _ rfl (a_ret ?_)))
  refine ⟨.inr rfl,?_⟩
  rw [Try.results103]
  cases h
  exact ⟨_,_,_,_,_,rfl,trivial,.inl ⟨rfl,.inl rfl⟩,rfl,rfl⟩
 ·have h:=hy19
  refine sr (vl (eVb a0) rfl rfl rfl rfl rfl rfl (vp (i6 0) rfl (nk ⟨[(3,.osl 3),(6,eVb a0),(7,i6 0)],[(3,bk (.row 1 (([]).map (AV.int .i64))))]⟩ (a_block ?_))))
  refine a_loop (emb:=fun (s : (Int × (List Int)))=>⟨[(3,.osl 3),(6,eVb a0),(7,i6 s.1)],[(3,bk (.row 1 (s.2.map (AV.int .i64))))]⟩) (body:=(fun s : (Int × (List Int))=>impl_rowOf_l1 a0 s.1 s.2)) (G:=fun q=>some q = some y18) h rfl ?_ (by kernel_rfl)
  rintro X30 ⟨x25,x26⟩ x31 h hX32
  have h : impl_rowOf_l1 a0 x25 x26 = some x31:=h
  refine ns ⟨[(3,.osl 3),(6,eVb a0),(7,i6 x25)],[(3,bk (.row 1 (x26.map (AV.int .i64))))]⟩ (sr (vp (.bool ((decide (x25 < 64)))) rfl (nk ⟨[(3,.osl 3),(6,eVb a0),(7,i6 x25),(8,.bool ((decide (x25 < 64))))],[(3,bk (.row 1 (x26.map (AV.int .i64))))]⟩ (a_seq ?_))))
  cases hb33 : (decide (x25 < 64))
  ·have h:=ite_f hb33 h
   refine a_cond_f rfl (a_exit (t_exit ?_))
   cases h
   have h:=hX32
   refine t_exit (b_exit ?_)
   exact j_leaf x26 (Option.some.inj h) (by kernel_rfl)
  ·have h:=ite_t hb33 h
   refine a_cond_t rfl (a_skip (nj ⟨[(3,.osl 3),(6,eVb a0),(7,i6 x25)],[(3,bk (.row 1 (x26.map (AV.int .i64))))]⟩ (a_seq (a_block (sr ?_)))))
   obtain ⟨hc34,h⟩:=ifp_some h
   refine vq (b8 (rd a0.1 x25.toNat)) (ix_run (i:=⟨.int .u8,1,1,(.int .u8 0)⟩) (f:=(AV.int .u8)) rfl rfl rfl rfl (vlt a0 hc34)) ⟨hc34.1,hc34.2,rfl,rfl,rfl,rfl⟩ (vp (b8 (rd a0.1 x25.toNat)) rfl (nk ⟨[(3,.osl 3),(5,b8 (rd a0.1 x25.toNat)),(6,eVb a0),(7,i6 x25)],[(3,bk (.row 1 (x26.map (AV.int .i64))))]⟩ (a_region (vp (.osl 3) rfl (vp (b8 (rd a0.1 x25.toNat)) rfl (vp (i6 (IntKind.i64.wrap (rd a0.1 x25.toNat))) rfl (vq (.sl 1 true (([IntKind.i64.wrap (rd a0.1 x25.toNat)]).map (AV.int .i64))) rfl ⟨(Nat.le_of_ble_eq_true rfl),(Nat.le_of_ble_eq_true rfl),(all_cons ⟨(Nat.le_of_ble_eq_true rfl),rfl⟩ all_nil)⟩ ?_)))))))
   obtain ⟨hc35,h⟩:=ifp_some h
   refine vu (.osl 2400) [(2400,bk (.row 1 (((x26 ++ ([IntKind.i64.wrap (rd a0.1 x25.toNat)]))).map (AV.int .i64)))),(3,none)] (app_run (i:=⟨.int .i64,1,8,(.int .i64 0)⟩) (f:=(AV.int .i64)) (l:=x26) (l2:=[IntKind.i64.wrap (rd a0.1 x25.toNat)]) rfl rfl rfl rfl (fun _=>rfl) rfl rfl) (app_c (f:=(AV.int .i64)) (s:=1) (sz:=1) (by':=8) (u:=[]) (id:=3) hc35 (.inr rfl) rfl rfl rfl) rfl (vp (.osl 2400) rfl (a_nil (b_norm (nj ⟨[(3,.osl 3),(6,eVb a0),(7,i6 x25)],[(3,bk (.row 1 (((x26 ++ ([IntKind.i64.wrap (rd a0.1 x25.toNat)]))).map (AV.int .i64))))]⟩ (a_region (vp (i6 (IntKind.i64.wrap (x25 + 1))) rfl (vp (i6 (IntKind.i64.wrap (x25 + 1))) rfl (a_nil ?_))))))))
   cases h
   exact a_again (by kernel_rfl) hX32
def slices_Clone_impl_row_int64_fresh_c : ACode:=(.seq (.region 0 [q 2 (.asg 2 (.const (.slice none 0 0)) 80)] false) (.seq (.seq (.region 1 [q 3 (.mov (t 0)),q 4 (.bin .eql 80 (t 3) (.const (.slice none 0 0)))] false) (.cond (t 4) (.seq (.region 2 [q 2 (.asg 2 (.const (.slice none 0 0)) 80)] false) .ret) .skip)) (.seq (.region 3 [q 5 (.bslice 0 80 0 []),q 6 (.mov (t 0)),q 7 (.blt 0 .append [(t 5),(t 6)] [80,80]),q 2 (.asg 2 (t 7) 80)] false) .ret)))
def slices_Clone_impl_row_int64_fresh_L : Live:=[(0,[0]),(1,[0]),(2,[]),(3,[0]),(100004,[0,4])]
noncomputable def slices_Clone_impl_row_int64_fresh (a0 : (List Int)) : Option (List Int) :=
 (ifc (a0 = [] → ((some ([]))) = ((ifp ((([] : List Int).length + a0.length) * 8 ≤ 140737488355328) ((some ((([] : List Int) ++ a0))))))) ((ifp ((([] : List Int).length + a0.length) * 8 ≤ 140737488355328) ((some ((([] : List Int) ++ a0)))))))
theorem slices_Clone_impl_row_int64_fresh_ok (a0 : (List Int)) (r : (List Int)) (h : slices_Clone_impl_row_int64_fresh a0 = some r) : Den Try.prog 184 [(eSi64 a0)] { r:=(.osl 2000000),ms:=[],fs:=[(1,r.map (AV.int .i64))] }:=by
 refine den_ofX (rs:=[(.osl 2000000)]) (ac:=slices_Clone_impl_row_int64_fresh_c) (L:=slices_Clone_impl_row_int64_fresh_L) (n:=8) (m:=[(2,2)]) (c:=Try.f184.body.getD .skip) good Try.func184 (by kernel_rfl) (by kernel_rfl) Try.ntmps184 rfl rfl (by kernel_rfl) rfl ?_
 refine ns ⟨[(0,eSi64 a0)],[]⟩ ?_
 unfold slices_Clone_impl_row_int64_fresh_c
 refine sr (vu (.osl 1200) [(1200,bk (.row 1 (([]).map (AV.int .i64))))] rfl trivial rfl (nk ⟨[(0,eSi64 a0)],[]⟩ (a_seq (sr (vp (eSi64 a0) rfl ?_)))))
 obtain ⟨hq2,h⟩:=ifc_some h
 refine a_split (v:=.bool true) (v':=.bool false) rfl rfl (fun hn3=>?_) ?_
 ·have h:=(hq2 (List.map_eq_nil_iff.1 hn3)).trans h
  refine nk ⟨[(0,eSi64 a0),(4,.bool true)],[]⟩ (a_cond_t rfl (sr (vu (.osl 1200) [(1200,bk (.row 1 (([]).map (AV.int .i64))))] rfl trivial rfl (nx _ rfl (a_ret (t_ret ?_))))))
  refine ⟨.inr rfl,?_⟩
  rw [Try.results184]
  cases h
  exact ⟨[some 1200],⟨_,_,_,_,_,rfl,trivial,rfl,.inr (.inl ⟨_,_,_,_,_,rfl,rfl,rfl,rfl,rfl,rfl,⟨rfl,rfl,rfl⟩⟩)⟩,rfl,rfl⟩
 ·skip
  refine nk ⟨[(0,eSi64 a0),(4,.bool false)],[]⟩ (a_cond_f rfl (a_skip (nj ⟨[(0,eSi64 a0)],[]⟩ (sr (vq (.sl 1 true (([]).map (AV.int .i64))) rfl ⟨(Nat.le_of_ble_eq_true rfl),(Nat.le_of_ble_eq_true rfl),all_nil⟩ (vp (eSi64 a0) rfl ?_))))))
  obtain ⟨hc1,h⟩:=ifp_some h
  refine vu (.osl 1700) [(1700,bk (.row 1 (((([] : List Int) ++ a0)).map (AV.int .i64))))] (appt_run (i:=⟨.int .i64,1,8,(.int .i64 0)⟩) (f:=(AV.int .i64)) (l:=[]) (l2:=a0) rfl rfl rfl rfl (fun _=>rfl) rfl) (appt_c (f:=(AV.int .i64)) (s:=1) (sz:=1) (sz':=1) (by':=8) hc1 (.inl rfl) (.inl rfl) (.inr rfl) rfl rfl) rfl (vp (.osl 1700) rfl (nx _ rfl (a_ret ?_)))
  refine ⟨.inr rfl,?_⟩
  rw [Try.results184]
  cases h
  exact ⟨[some 1700],⟨_,_,_,_,_,rfl,trivial,rfl,.inr (.inl ⟨_,_,_,_,_,rfl,rfl,rfl,rfl,rfl,rfl,⟨rfl,rfl,rfl⟩⟩)⟩,rfl,rfl⟩
def impl_row_lead_c : ACode:=(.seq (.region 0 [q 2 (.asg 0 (.const (.int .i64 0)) 2)] false) (.seq (.seq (.region 1 [q 3 (.mov (t 0)),q 4 (.blt 0 .len [(t 3)] [80]),q 5 (.bin .eql 3 (t 4) (.const (.int .i64 0)))] false) (.cond (t 5) (.seq (.region 2 [q 2 (.asg 0 (.const (.int .i64 0)) 2)] false) .ret) .skip)) (.seq (.region 3 [q 6 (.mov (t 0)),q 7 (.mov (t 0)),q 8 (.blt 0 .len [(t 7)] [80]),q 9 (.bin .sub 3 (t 8) (.const (.int .i64 1))),q 10 (.indexAddr 80 (t 6) (t 9)),q 11 (.load 2 (t 10)),q 2 (.asg 0 (t 11) 2)] false) .ret)))
def impl_row_lead_L : Live:=[(0,[0]),(1,[0]),(2,[]),(3,[0]),(100005,[0,5])]
noncomputable def impl_row_lead (a0 : (List Int)) : Option Int :=
 (if ((a0.length : Int) == 0) then (some 0) else (ifp (0 ≤ IntKind.i64.wrap ((a0.length : Int) - 1) ∧ IntKind.i64.wrap ((a0.length : Int) - 1) < ((a0.length : Nat) : Int)) ((some ((rd a0 (IntKind.i64.wrap ((a0.length : Int) - 1)).toNat))))))
theorem impl_row_lead_ok (a0 : (List Int)) (r : Int) (h : impl_row_lead a0 = some r) : Den Try.prog 186 [(eSi64 a0)] { r:=(i6 r) }:=by
 refine den_of (rs:=[(i6 r)]) (ac:=impl_row_lead_c) (L:=impl_row_lead_L) (n:=12) (m:=[]) (c:=Try.f186.body.getD .skip) good Try.func186 (by kernel_rfl) (by kernel_rfl) Try.ntmps186 rfl rfl (by kernel_rfl) rfl rfl ?_
 refine ns ⟨[(0,eSi64 a0)],[]⟩ ?_
 unfold impl_row_lead_c
 refine sr (vp (i6 0) rfl (nk ⟨[(0,eSi64 a0)],[]⟩ (a_seq (sr (vp (eSi64 a0) rfl (vq (i6 (a0.length : Int)) (len_run rfl rfl) trivial (vp (.bool (((a0.length : Int) == 0))) rfl (nk ⟨[(0,eSi64 a0),(5,.bool (((a0.length : Int) == 0)))],[]⟩ ?_))))))))
 cases hb1 : ((a0.length : Int) == 0)
 ·have h:=ite_f hb1 h
  refine a_cond_f rfl (a_skip (nj ⟨[(0,eSi64 a0)],[]⟩ (sr (vp (eSi64 a0) rfl (vp (eSi64 a0) rfl (vq (i6 (a0.length : Int)) (len_run rfl rfl) trivial (vp (i6 (IntKind.i64.wrap ((a0.length : Int) - 1))) rfl ?_)))))))
  obtain ⟨hc2,h⟩:=ifp_some h
  refine vq (.ref (.row 1 (a0.map (AV.int .i64))) [(IntKind.i64.wrap ((a0.length : Int) - 1)).toNat] [(IntKind.i64.wrap ((a0.length : Int) - 1)).toNat * 1]) rfl (lmap hc2) ?_
  have hl3 : LdOk [(IntKind.i64.wrap ((a0.length : Int) - 1)).toNat] (.row 1 (a0.map (AV.int .i64))) [(IntKind.i64.wrap ((a0.length : Int) - 1)).toNat * 1] 1 false (i6 ((rd a0 (IntKind.i64.wrap ((a0.length : Int) - 1)).toNat))):=(.row (llt hc2) rfl (.nil rfl rfl rfl))
  refine vq (i6 ((rd a0 (IntKind.i64.wrap ((a0.length : Int) - 1)).toNat))) (ld_ref (i:=⟨.int .i64,1,8,(.int .i64 0)⟩) rfl rfl hl3) hl3.c (vp (i6 ((rd a0 (IntKind.i64.wrap ((a0.length : Int) - 1)).toNat))) rfl (nx _ rfl (a_ret ?_)))
  refine ⟨.inr rfl,?_⟩
  rw [Try.results186]
  cases h
  exact ⟨_,_,_,_,_,rfl,trivial,.inl ⟨rfl,.inl rfl⟩,rfl,rfl⟩
 ·have h:=ite_t hb1 h
  refine a_cond_t rfl (sr (vp (i6 0) rfl (nx _ rfl (a_ret (t_ret ?_)))))
  refine ⟨.inr rfl,?_⟩
  rw [Try.results186]
  cases h
  exact ⟨_,_,_,_,_,rfl,trivial,.inl ⟨rfl,.inl rfl⟩,rfl,rfl⟩
def impl_prime_inverse_c : ACode:=(.seq (.region 0 [q 4 (.asg 0 (.const (.int .i64 0)) 2)] false) (.seq (.region 1 [q 5 (.asg 0 (.const (.int .i64 1)) 2)] false) (.seq (.seq (.region 2 [q 6 (.mov (t 0)),q 7 (.bin .sub 2 (t 6) (.const (.int .i64 2))),q 8 (.mov (.const (.int .i64 0)))] false) (.block 0 (.loop (.seq (.region 3 [q 9 (.bin .lss 2 (t 8) (t 7))] false) (.seq (.cond (t 9) .skip (.exit 0)) (.seq (.block 1 (.region 4 [q 10 (.mov (t 5)),q 11 (.mov (t 1)),q 12 (.bin .mul 2 (t 10) (t 11)),q 13 (.mov (t 0)),q 14 (.bin .rem 2 (t 12) (t 13)),q 5 (.asg 0 (t 14) 2)] false)) (.region 5 [q 15 (.bin .add 2 (t 8) (.const (.int .i64 1))),q 8 (.mov (t 15))] false))))))) (.seq (.region 6 [q 16 (.mov (t 5)),q 4 (.asg 0 (t 16) 2)] false) .ret))))
def impl_prime_inverse_L : Live:=[(0,[0,1]),(1,[0,1]),(2,[0,1,5]),(3,[0,1,5,7,8]),(4,[0,1,5,7,8]),(5,[0,1,5,7,8]),(6,[5]),(100009,[0,1,5,7,8,9])]
noncomputable def impl_prime_inverse_l1 (a0 : Int) (a1 : Int) (x19 : Int) (x20 : Int) : Option ((Int × Int) ⊕ Int) :=
 (if (decide (x20 < (IntKind.i64.wrap (a0 - 2)))) then (ifp (a0 ≠ 0) ((some (.inl ((Int.tmod (IntKind.i64.wrap (x19 * a1)) a0,IntKind.i64.wrap (x20 + 1))))))) else (some (.inr x19)))
noncomputable def impl_prime_inverse (a0 : Int) (a1 : Int) : Option Int :=
 (Option.bind (α:=Int) ((loopM (fun s : (Int × Int)=>impl_prime_inverse_l1 a0 a1 s.1 s.2) (1,0))) fun x13=>(some x13))
theorem impl_prime_inverse_ok (a0 : Int) (a1 : Int) (r : Int) (h : impl_prime_inverse a0 a1 = some r) : Den Try.prog 185 [(i6 a0),(i6 a1)] { r:=(i6 r) }:=by
 refine den_of (rs:=[(i6 r)]) (ac:=impl_prime_inverse_c) (L:=impl_prime_inverse_L) (n:=17) (m:=[]) (c:=Try.f185.body.getD .skip) good Try.func185 (by kernel_rfl) (by kernel_rfl) Try.ntmps185 rfl rfl (by kernel_rfl) rfl rfl ?_
 refine ns ⟨[(0,i6 a0),(1,i6 a1)],[]⟩ ?_
 unfold impl_prime_inverse_c
 refine sr (vp (i6 0) rfl (nk ⟨[(0,i6 a0),(1,i6 a1)],[]⟩ (sr (vp (i6 1) rfl (nk ⟨[(0,i6 a0),(1,i6 a1),(5,i6 1)],[]⟩ ?_)))))
 obtain ⟨y14,hy15,hk16⟩:=bind_some h
 clear h
 refine a_join (emb:=fun (s : Int)=>⟨[(5,i6 s)],[]⟩) (pre:=fun s=>s = y14) ?_ ?_
 ·rintro x13 rfl
  have h:=hk16
  refine ns ⟨[(5,i6 x13)],[]⟩ (sr (vp (i6 x13) rfl (vp (i6 x13) rfl (nx _ rfl (a_ret ?_)))))
  refine ⟨.inr rfl,?_⟩
  rw [Try.results185]
  cases h
  exact ⟨_,_,_,_,_,rfl,trivial,.inl ⟨rfl,.inl rfl⟩,rfl,rfl⟩
 ·have h:=hy15
  refine sr (vp (i6 a0) rfl (vp (i6 (IntKind.i64.wrap (a0 - 2))) rfl (vp (i6 0) rfl (nk ⟨[(0,i6 a0),(1,i6 a1),(5,i6 1),(7,i6 (IntKind.i64.wrap (a0 - 2))),(8,i6 0)],[]⟩ (a_block ?_)))))
  refine a_loop (emb:=fun (s : (Int × Int))=>⟨[(0,i6 a0),(1,i6 a1),(5,i6 s.1),(7,i6 (IntKind.i64.wrap (a0 - 2))),(8,i6 s.2)],[]⟩) (body:=(fun s : (Int × Int)=>impl_prime_inverse_l1 a0 a1 s.1 s.2)) (G:=fun q=>some q = some y14) h rfl ?_ (by kernel_rfl)
  rintro X23 ⟨x19,x20⟩ x24 h hX25
  have h : impl_prime_inverse_l1 a0 a1 x19 x20 = some x24:=h
  refine ns ⟨[(0,i6 a0),(1,i6 a1),(5,i6 x19),(7,i6 (IntKind.i64.wrap (a0 - 2))),(8,i6 x20)],[]⟩ (sr (vp (.bool ((decide (x20 < (IntKind.i64.wrap (a0 - 2)))))) rfl (nk ⟨[(0,i6 a0),(1,i6 a1),(5,i6 x19),(7,i6 (IntKind.i64.wrap (a0 - 2))),(8,i6 x20),(9,.bool ((decide (x20 < (IntKind.i64.wrap (a0 - 2))))))],[]⟩ (a_seq ?_))))
  cases hb26 : (decide (x20 < (IntKind.i64.wrap (a0 - 2))))
  ·have h:=ite_f hb26 h
   refine a_cond_f rfl (a_exit (t_exit ?_))
   cases h
   have h:=hX25
   refine t_exit (b_exit ?_)
   exact j_leaf x19 (Option.some.inj h) (by kernel_rfl)
  ·have h:=ite_t hb26 h
   refine a_cond_t rfl (a_skip (nj ⟨[(0,i6 a0),(1,i6 a1),(5,i6 x19),(7,i6 (IntKind.i64.wrap (a0 - 2))),(8,i6 x20)],[]⟩ (a_seq (a_block (a_region (vp (i6 x19) rfl (vp (i6 a1) rfl (vp (i6 (IntKind.i64.wrap (x19 * a1))) rfl (vp (i6 a0) rfl ?_)))))))))
   obtain ⟨hc27,h⟩:=ifp_some h
   refine vq (i6 (Int.tmod (IntKind.i64.wrap (x19 * a1)) a0)) rfl hc27 (vp (i6 (Int.tmod (IntKind.i64.wrap (x19 * a1)) a0)) rfl (a_nil (b_norm (nj ⟨[(0,i6 a0),(1,i6 a1),(5,i6 (Int.tmod (IntKind.i64.wrap (x19 * a1)) a0)),(7,i6 (IntKind.i64.wrap (a0 - 2))),(8,i6 x20)],[]⟩ (a_region (vp (i6 (IntKind.i64.wrap (x20 + 1))) rfl (vp (i6 (IntKind.i64.wrap (x20 + 1))) rfl (a_nil ?_))))))))
   cases h
   exact a_again (by kernel_rfl) hX25
def impl_prime_reduce_c : ACode:=(.seq (.region 0 [q 4 (.asg 0 (.const (.int .i64 0)) 2)] false) (.seq (.region 1 [q 5 (.mov (t 1)),q 6 (.mov (t 0)),q 7 (.bin .rem 2 (t 5) (t 6)),q 8 (.mov (t 0)),q 9 (.bin .add 2 (t 7) (t 8)),q 10 (.mov (t 0)),q 11 (.bin .rem 2 (t 9) (t 10)),q 4 (.asg 0 (t 11) 2)] false) .ret))
def impl_prime_reduce_L : Live:=[(0,[0,1]),(1,[0,1])]
noncomputable def impl_prime_reduce (a0 : Int) (a1 : Int) : Option Int :=
 (ifp (a0 ≠ 0) ((ifp (a0 ≠ 0) ((some (Int.tmod (IntKind.i64.wrap ((Int.tmod a1 a0) + a0)) a0))))))
theorem impl_prime_reduce_ok (a0 : Int) (a1 : Int) (r : Int) (h : impl_prime_reduce a0 a1 = some r) : Den Try.prog 183 [(i6 a0),(i6 a1)] { r:=(i6 r) }:=by
 refine den_of (rs:=[(i6 r)]) (ac:=impl_prime_reduce_c) (L:=impl_prime_reduce_L) (n:=12) (m:=[]) (c:=Try.f183.body.getD .skip) good Try.func183 (by kernel_rfl) (by kernel_rfl) Try.ntmps183 rfl rfl (by kernel_rfl) rfl rfl ?_
 refine ns ⟨[(0,i6 a0),(1,i6 a1)],[]⟩ ?_
 unfold impl_prime_reduce_c
 refine sr (vp (i6 0) rfl (nk ⟨[(0,i6 a0),(1,i6 a1)],[]⟩ (sr (vp (i6 a1) rfl (vp (i6 a0) rfl ?_)))))
 obtain ⟨hc1,h⟩:=ifp_some h
 refine vq (i6 (Int.tmod a1 a0)) rfl hc1 (vp (i6 a0) rfl (vp (i6 (IntKind.i64.wrap ((Int.tmod a1 a0) + a0))) rfl (vp (i6 a0) rfl ?_)))
 obtain ⟨hc2,h⟩:=ifp_some h
 refine vq (i6 (Int.tmod (IntKind.i64.wrap ((Int.tmod a1 a0) + a0)) a0)) rfl hc2 (vp (i6 (Int.tmod (IntKind.i64.wrap ((Int.tmod a1 a0) + a0)) a0)) rfl (nx _ rfl (a_ret ?_)))
 refine ⟨.inr rfl,?_⟩
 rw [Try.results183]
 cases h
 exact ⟨_,_,_,_,_,rfl,trivial,.inl ⟨rfl,.inl rfl⟩,rfl,rfl⟩
end Go.Proofs.Ytkbnegemdlnncaa
