/- Functions of the program: plain Lean functions, and that the program computes them. Printed by gen.py. -/
import Derived.Test.YtkbnegemdlnncaaGreatFnT
import Derived.Test.YtkbnegemdlnncaaGreatFn1
import Derived.Test.YtkbnegemdlnncaaGreatFn2
import Derived.Test.YtkbnegemdlnncaaGreatFn3
import Derived.Test.YtkbnegemdlnncaaGreatFn4
import Derived.Test.YtkbnegemdlnncaaGreatFn5
import Derived.Test.YtkbnegemdlnncaaGreatFn6
import Derived.Test.YtkbnegemdlnncaaGreatFn7
namespace Go.Proofs.YtkbnegemdlnncaaGreat
open Go.Abs Go.Proofs
set_option linter.unusedSimpArgs false
set_option linter.unusedVariables false
set_option maxHeartbeats 16000000
attribute [local irreducible] Abs.acode Abs.aops Abs.aopsT Abs.thenK Abs.blockK

def spec_l10Series_L:Live:=[(0,[0,1,2,3,4]),(1,[0,3,4,6,7,10,11]),(2,[0,3,4,6,7,10,11,13,14]),(3,[0,3,4,6,7,10,11,13,14,15,16]),(4,[0,3,4,6,7,10,11,14,16,17,18]),(5,[10,11]),(6,[0,3,4,6,7,10,11,17]),(7,[0,3,4,6,7,10,11,17,19]),(8,[0,3,4,6,7,10,11,17,19,20]),(9,[0,3,4,6,7,10,11,17,19,20]),(10,[0,3,4,6,7,10,11,17,19,20]),(11,[0,3,4,6,7,10,11,17,19,20,21]),(12,[0,3,4,6,7,10,11,17,19,20,23]),(13,[0,3,4,6,7,10,11,17,19,20,25]),(14,[0,3,4,6,7,10,11,17,19,20,25,27,28]),(15,[0,3,4,6,7,10,11,17,19,20,28,29,30]),(16,[10,11]),(17,[0,3,4,6,7,10,11,17,19,20,29]),(18,[0,3,4,6,7,10,11,17,19,20,29,31]),(19,[0,3,4,6,7,10,11,17,19,20,29]),(20,[0,3,4,6,7,10,11,17,19,20,29,31]),(21,[0,10,11,17,19]),(22,[0,10,11,17,19,32]),(23,[0,10,11,17,32,33]),(24,[0,10,11,33,35]),(25,[0,10,11,33,35,37]),(100070,[0,3,4,6,7,10,11,17,70]),(100076,[0,3,4,6,7,10,11,17,19,20,76]),(100122,[0,3,4,6,7,10,11,17,19,20,29,122]),(100130,[0,3,4,6,7,10,11,17,19,20,29,31,130])]
noncomputable def spec_l10Series_l1 (a3:Int) (a0:Int) (a2:(Vec Int 64)) (r10:((Vec Int 64)×Bool)) (a1:(Vec Int 64)) (x306:Bool) (x307:Int) (x308:(Vec Int 64)):Option ((Bool×Int×(Vec Int 64))⊕((Vec Int 64)⊕((Vec Int 64)×(Vec Int 64)×Bool))) :=
 (if (decide (x307 < a3)) then (Option.bind (spec_l04Factorial a0 x307 x306) fun r381=>(Option.bind (spec_l10Raised a0 a2 x307) fun r393=>(Option.bind (spec_l01Times a0 r381.1 r393) fun r395=>(Option.bind (spec_l01Divide a0 r10.1 r395.1) fun r400=>(Option.bind (spec_l04Raise a0 a1 x307) fun r405=>(Option.bind (spec_l01Times a0 r405.1 r400.1) fun r410=>(Option.bind (α:=Bool) ((if (!r405.2) then (some true) else (some (!r410.2)))) fun x414=>(if x414 then (some (.inr ((.inr (((vrep 64 (0:Int)),(vrep 64 (0:Int)),false)))))) else (Option.bind (α:=(Bool×Int)) ((Option.bind (α:=(Bool×Bool)) ((if x306 then (some ((true,((Int.tmod x307 2) == 1)))) else (some (false,false)))) fun ⟨x434,x435⟩=>(if x435 then (some (x434,-1)) else (some (x434,1))))) fun ⟨x428,x429⟩=>(Option.bind (spec_l01Add a0 x308 r410.1 x429) fun r443=>(some (.inl ((x428,IntKind.i64.wrap (x307 + 1),r443)))))))))))))) else (some (.inr (.inl x308))))
noncomputable def spec_l10Series (a0:Int) (a1:(Vec Int 64)) (a2:(Vec Int 64)) (a3:Int) (a4:Bool):Option ((Vec Int 64)×(Vec Int 64)×Bool) :=
 (Option.bind (spec_l04Factorial a0 (IntKind.i64.wrap (a3 - 1)) a4) fun r1=>(Option.bind (spec_l04Raise a0 a2 (IntKind.i64.wrap (a3 - 1))) fun r5=>(Option.bind (spec_l01Times a0 r1.1 r5.1) fun r10=>(Option.bind (α:=Bool) ((if (!r1.2) then (some true) else (if (!r5.2) then (some true) else (some (!r10.2))))) fun x15=>(if x15 then (some (((vrep 64 (0:Int)),(vrep 64 (0:Int)),false))) else (Option.bind (α:=((Vec Int 64)⊕((Vec Int 64)×(Vec Int 64)×Bool))) ((loopM (fun s:(Bool×Int×(Vec Int 64))=>spec_l10Series_l1 a3 a0 a2 r10 a1 s.1 s.2.1 s.2.2) (a4,0,(vrep 64 (0:Int))))) fun z=>match z with | .inl x234=>(Option.bind (spec_l01Gcd a0 x234 r10.1) fun r453=>(Option.bind (spec_l01Divide a0 x234 r453) fun r458=>(Option.bind (spec_l01Divide a0 r10.1 r453) fun r464=>(Option.bind (spec_l01Deg r464.1) fun r469=>(ifp (0≤r469∧r469 < ((64:Nat):Int)) ((Option.bind (spec_l01Inverse a0 (rd r464.1.1 r469.toNat)) fun r473=>(Option.bind (spec_l01Add a0 ((vrep 64 (0:Int))) r458.1 (IntKind.i64.wrap r473)) fun r484=>(Option.bind (spec_l01Add a0 ((vrep 64 (0:Int))) r464.1 (IntKind.i64.wrap r473)) fun r487=>(some (r484,r487,true))))))))))) | .inr r493=>(some r493)))))))
theorem spec_l10Series_ok (a0:Int) (a1:(Vec Int 64)) (a2:(Vec Int 64)) (a3:Int) (a4:Bool) (r:((Vec Int 64)×(Vec Int 64)×Bool)) (h:spec_l10Series a0 a1 a2 a3 a4=some r):Den Tryz.prog 71 [(i6 a0),(eVb a1),(eVb a2),(i6 a3),(.bool a4)] { r:=(.tuple [(eVb r.1),(eVb r.2.1),(.bool r.2.2)]) }:=by
 refine dd (rs:=[(eVb r.1),(eVb r.2.1),(.bool r.2.2)]) (L:=spec_l10Series_L) good [] Tryz.func71 Tryz.ntmps71 ?_
 refine ns ⟨[(0,i6 a0),(1,eVb a1),(2,eVb a2),(3,i6 a3),(4,.bool a4)],[]⟩ ?_
 refine sr (vo 1600 (eVb a1) rfl rfl (vo 1700 (eVb a2) rfl rfl (vo 2000 (eV0) rfl rfl (vo 2100 (eV0) rfl rfl (vr (.bool false) (nk ⟨[(0,i6 a0),(3,i6 a3),(4,.bool a4),(6,ow 6),(7,ow 7),(10,ow 10),(11,ow 11)],[(6,bk (eVb a1)),(7,bk (eVb a2)),(10,bk (eV0)),(11,bk (eV0))]⟩ (sr (vr (i6 a0) (vr (i6 a3) ?_)))))))))
 refine vr (i6 (IntKind.i64.wrap (a3 - 1))) (vr (.bool a4) ?_)
 obtain ⟨r1,hr2,h⟩:=bind_some h
 refine ca (spec_l04Factorial_ok a0 (IntKind.i64.wrap (a3 - 1)) a4 r1 hr2) (vr (.tuple [(eVb r1.1),(.bool r1.2)]) (vb (eVb r1.1) rfl rfl (vb (.bool r1.2) rfl rfl (vo 2300 (eV0) rfl rfl (vs (eVb r1.1) rfl rfl (fun _=>rfl) rfl rfl rfl rfl rfl rfl (vr (.bool r1.2) (nk ⟨[(0,i6 a0),(3,i6 a3),(4,.bool a4),(6,ow 6),(7,ow 7),(10,ow 10),(11,ow 11),(13,ow 13),(14,.bool r1.2)],[(6,bk (eVb a1)),(7,bk (eVb a2)),(10,bk (eV0)),(11,bk (eV0)),(13,bk (eVb r1.1))]⟩ (sr (vr (i6 a0) ?_)))))))))
 refine vl (eVb a2) rfl rfl rfl rfl rfl rfl (vr (i6 a3) (vr (i6 (IntKind.i64.wrap (a3 - 1))) ?_))
 obtain ⟨r5,hr6,h⟩:=bind_some h
 refine ca (spec_l04Raise_ok a0 a2 (IntKind.i64.wrap (a3 - 1)) r5 hr6) (vr (.tuple [(eVb r5.1),(.bool r5.2)]) (vb (eVb r5.1) rfl rfl (vb (.bool r5.2) rfl rfl (vo 2500 (eV0) rfl rfl (vs (eVb r5.1) rfl rfl (fun _=>rfl) rfl rfl rfl rfl rfl rfl (vr (.bool r5.2) (nk ⟨[(0,i6 a0),(3,i6 a3),(4,.bool a4),(6,ow 6),(7,ow 7),(10,ow 10),(11,ow 11),(13,ow 13),(14,.bool r1.2),(15,ow 15),(16,.bool r5.2)],[(6,bk (eVb a1)),(7,bk (eVb a2)),(10,bk (eV0)),(11,bk (eV0)),(13,bk (eVb r1.1)),(15,bk (eVb r5.1))]⟩ (sr (vr (i6 a0) ?_)))))))))
 refine vl (eVb r1.1) rfl rfl rfl rfl rfl rfl (vl (eVb r5.1) rfl rfl rfl rfl rfl rfl ?_)
 obtain ⟨r10,hr11,h⟩:=bind_some h
 refine ca (spec_l01Times_ok a0 r1.1 r5.1 r10 hr11) (vr (.tuple [(eVb r10.1),(.bool r10.2)]) (vb (eVb r10.1) rfl rfl (vb (.bool r10.2) rfl rfl (vo 2700 (eV0) rfl rfl (vs (eVb r10.1) rfl rfl (fun _=>rfl) rfl rfl rfl rfl rfl rfl (vr (.bool r10.2) (nk ⟨[(0,i6 a0),(3,i6 a3),(4,.bool a4),(6,ow 6),(7,ow 7),(10,ow 10),(11,ow 11),(14,.bool r1.2),(16,.bool r5.2),(17,ow 17),(18,.bool r10.2)],[(6,bk (eVb a1)),(7,bk (eVb a2)),(10,bk (eV0)),(11,bk (eV0)),(17,bk (eVb r10.1))]⟩ (a_seq ?_))))))))
 obtain ⟨y16,hy17,hk18⟩:=bind_some h
 clear h
 refine a_join (emb:=fun (s:Bool)=>⟨[(0,i6 a0),(3,i6 a3),(4,.bool a4),(6,ow 6),(7,ow 7),(10,ow 10),(11,ow 11),(17,ow 17),(70,.bool s)],[(6,bk (eVb a1)),(7,bk (eVb a2)),(10,bk (eV0)),(11,bk (eV0)),(17,bk (eVb r10.1))]⟩) (pre:=fun s=>s=y16) ?_ ?_
 ·rintro x15 rfl
  have h:=hk18
  refine ns ⟨[(0,i6 a0),(3,i6 a3),(4,.bool a4),(6,ow 6),(7,ow 7),(10,ow 10),(11,ow 11),(17,ow 17),(70,.bool x15)],[(6,bk (eVb a1)),(7,bk (eVb a2)),(10,bk (eV0)),(11,bk (eV0)),(17,bk (eVb r10.1))]⟩ ?_
  cases hb21:x15
  ·have h:=ite_f hb21 h
   refine a_cond_f rfl (a_skip (nj ⟨[(0,i6 a0),(3,i6 a3),(4,.bool a4),(6,ow 6),(7,ow 7),(10,ow 10),(11,ow 11),(17,ow 17)],[(6,bk (eVb a1)),(7,bk (eVb a2)),(10,bk (eV0)),(11,bk (eV0)),(17,bk (eVb r10.1))]⟩ (sr (vq (eV0) rfl ⟨⟨_,rfl,rfl⟩,all_nil⟩ (vo 2900 (eV0) rfl rfl (vs (eV0) rfl rfl (fun _=>rfl) rfl rfl rfl rfl rfl rfl (nk ⟨[(0,i6 a0),(3,i6 a3),(4,.bool a4),(6,ow 6),(7,ow 7),(10,ow 10),(11,ow 11),(17,ow 17),(19,ow 19)],[(6,bk (eVb a1)),(7,bk (eVb a2)),(10,bk (eV0)),(11,bk (eV0)),(17,bk (eVb r10.1)),(19,bk (eV0))]⟩ ?_)))))))
   obtain ⟨y235,hy236,hk237⟩:=bind_some h
   clear h
   refine a_join (emb:=fun (s:(Vec Int 64))=>⟨[(0,i6 a0),(10,ow 10),(11,ow 11),(17,ow 17),(19,ow 19)],[(10,bk (eV0)),(11,bk (eV0)),(17,bk (eVb r10.1)),(19,bk (eVb s))]⟩) (pre:=fun s=>(.inl s)=y235) ?_ ?_
   ·rintro x234 rfl
    have h:=hk237
    refine ns ⟨[(0,i6 a0),(10,ow 10),(11,ow 11),(17,ow 17),(19,ow 19)],[(10,bk (eV0)),(11,bk (eV0)),(17,bk (eVb r10.1)),(19,bk (eVb x234))]⟩ (sr (vr (i6 a0) (vl (eVb x234) rfl rfl rfl rfl rfl rfl (vl (eVb r10.1) rfl rfl rfl rfl rfl rfl ?_))))
    obtain ⟨r453,hr454,h⟩:=bind_some h
    refine ca (spec_l01Gcd_ok a0 x234 r10.1 r453 hr454) (vo 4200 (eV0) rfl rfl (vs (eVb r453) rfl rfl (fun _=>rfl) rfl rfl rfl rfl rfl rfl (nk ⟨[(0,i6 a0),(10,ow 10),(11,ow 11),(17,ow 17),(19,ow 19),(32,ow 32)],[(10,bk (eV0)),(11,bk (eV0)),(17,bk (eVb r10.1)),(19,bk (eVb x234)),(32,bk (eVb r453))]⟩ (sr (vr (i6 a0) (vl (eVb x234) rfl rfl rfl rfl rfl rfl (vl (eVb r453) rfl rfl rfl rfl rfl rfl ?_)))))))
    obtain ⟨r458,hr459,h⟩:=bind_some h
    refine ca (spec_l01Divide_ok a0 x234 r453 r458 hr459) (vr (.tuple [(eVb r458.1),(eVb r458.2)]) (vb (eVb r458.1) rfl rfl (vb (eVb r458.2) rfl rfl (vo 4300 (eV0) rfl rfl (vo 4400 (eV0) rfl rfl (vs (eVb r458.1) rfl rfl (fun _=>rfl) rfl rfl rfl rfl rfl rfl (vs (eVb r458.2) rfl rfl (fun _=>rfl) rfl rfl rfl rfl rfl rfl (nk ⟨[(0,i6 a0),(10,ow 10),(11,ow 11),(17,ow 17),(32,ow 32),(33,ow 33)],[(10,bk (eV0)),(11,bk (eV0)),(17,bk (eVb r10.1)),(32,bk (eVb r453)),(33,bk (eVb r458.1))]⟩ (sr ?_)))))))))
    refine vr (i6 a0) (vl (eVb r10.1) rfl rfl rfl rfl rfl rfl (vl (eVb r453) rfl rfl rfl rfl rfl rfl ?_))
    obtain ⟨r464,hr465,h⟩:=bind_some h
    refine ca (spec_l01Divide_ok a0 r10.1 r453 r464 hr465) (vr (.tuple [(eVb r464.1),(eVb r464.2)]) (vb (eVb r464.1) rfl rfl (vb (eVb r464.2) rfl rfl (vo 4500 (eV0) rfl rfl (vo 4600 (eV0) rfl rfl (vs (eVb r464.1) rfl rfl (fun _=>rfl) rfl rfl rfl rfl rfl rfl (vs (eVb r464.2) rfl rfl (fun _=>rfl) rfl rfl rfl rfl rfl rfl (nk ⟨[(0,i6 a0),(10,ow 10),(11,ow 11),(33,ow 33),(35,ow 35)],[(10,bk (eV0)),(11,bk (eV0)),(33,bk (eVb r458.1)),(35,bk (eVb r464.1))]⟩ (sr ?_)))))))))
    refine vr (i6 a0) (vl (eVb r464.1) rfl rfl rfl rfl rfl rfl ?_)
    obtain ⟨r469,hr470,h⟩:=bind_some h
    refine ca (spec_l01Deg_ok r464.1 r469 hr470) ?_
    obtain ⟨hc471,h⟩:=ifp_some h
    refine vq (.own 35 [r469.toNat] [r469.toNat*1]) rfl hc471 ?_
    have hl472:LdOk [r469.toNat] (eVb r464.1) [r469.toNat*1] 1 false (b8 (rd r464.1.1 r469.toNat)):=(.arr (vlt r464.1 hc471) rfl (.nil rfl rfl rfl))
    refine vq (b8 (rd r464.1.1 r469.toNat)) (ld_own (i:=⟨.int .u8,1,1,(.int .u8 0)⟩) rfl rfl rfl hl472) hl472.c ?_
    obtain ⟨r473,hr474,h⟩:=bind_some h
    refine ca (spec_l01Inverse_ok a0 (rd r464.1.1 r469.toNat) r473 hr474) (vr (i6 (IntKind.i64.wrap r473)) (vr (i6 (IntKind.i64.wrap r473)) (nk ⟨[(0,i6 a0),(10,ow 10),(11,ow 11),(33,ow 33),(35,ow 35),(37,i6 (IntKind.i64.wrap r473))],[(10,bk (eV0)),(11,bk (eV0)),(33,bk (eVb r458.1)),(35,bk (eVb r464.1))]⟩ (a_seq (a_draw [⟨[],[],[],[]⟩,⟨[],[],[],[]⟩,⟨[33],[],[],[]⟩,⟨[],[],[],[]⟩,⟨[],[],[],[0,1,2,3]⟩,⟨[],[],[],[]⟩,⟨[],[],[],[]⟩,⟨[35],[],[],[]⟩,⟨[],[],[],[]⟩,⟨[],[],[],[0,1,2,3,4,5,6,7,8]⟩,⟨[10],[10],[],[0,1,2,3,4,5,6,7,8,9]⟩,⟨[11],[11],[],[0,1,2,3,4,5,6,7,8,9,10]⟩,⟨[],[],[],[0,1,2,3,4,5,6,7,8,9,10,11]⟩] (by kernel_rfl) (dj (i6 a0) rfl (d_cons (vq (eV0) rfl ⟨⟨_,rfl,rfl⟩,all_nil⟩ (dn ?_)))))))))
    refine d_cons (vl (eVb r458.1) rfl rfl rfl rfl rfl rfl (dn (dj (i6 (IntKind.i64.wrap r473)) rfl (d_cons ?_))))
    obtain ⟨r484,hr485,h⟩:=bind_some h
    refine ca (spec_l01Add_ok a0 ((vrep 64 (0:Int))) r458.1 (IntKind.i64.wrap r473) r484 hr485) (dn (dj (i6 a0) rfl (d_cons (vq (eV0) rfl ⟨⟨_,rfl,rfl⟩,all_nil⟩ (dn (d_cons (vl (eVb r464.1) rfl rfl rfl rfl rfl rfl (dn (dj (i6 (IntKind.i64.wrap r473)) rfl ?_)))))))))
    refine d_cons ?_
    obtain ⟨r487,hr488,h⟩:=bind_some h
    refine ca (spec_l01Add_ok a0 ((vrep 64 (0:Int))) r464.1 (IntKind.i64.wrap r473) r487 hr488) (dn (d_cons (vs (eVb r484) rfl rfl (fun _=>rfl) rfl rfl rfl rfl rfl rfl (dn (d_cons (vs (eVb r487) rfl rfl (fun _=>rfl) rfl rfl rfl rfl rfl rfl (dn (dj (.bool true) rfl (d_nil ?_)))))))))
    refine a_next rfl (a_ret ?_)
    have hl491:LdOk [] (eVb r484) [] 64 true (eVb r484):=(.nil rfl rfl rfl)
    have hl492:LdOk [] (eVb r487) [] 64 true (eVb r487):=(.nil rfl rfl rfl)
    refine ⟨.inr rfl,?_⟩
    rw [Tryz.results71]
    cases h
    exact ⟨_,_,_,_,_,ld_own (i:=⟨.arr 64 5,64,64,(eVb (vrep 64 (0:Int)))⟩) rfl rfl rfl hl491,hl491.c,.inl ⟨rfl,.inl rfl⟩,rfl,⟨_,_,_,_,_,ld_own (i:=⟨.arr 64 5,64,64,(eVb (vrep 64 (0:Int)))⟩) rfl rfl rfl hl492,hl492.c,.inl ⟨rfl,.inl rfl⟩,rfl,⟨_,_,_,_,_,rfl,trivial,.inl ⟨rfl,.inl rfl⟩,rfl,rfl⟩⟩⟩
   ·have h:=hy236
    refine sr (vr (i6 0) (nk ⟨[(0,i6 a0),(3,i6 a3),(4,.bool a4),(6,ow 6),(7,ow 7),(10,ow 10),(11,ow 11),(17,ow 17),(19,ow 19),(20,i6 0)],[(6,bk (eVb a1)),(7,bk (eVb a2)),(10,bk (eV0)),(11,bk (eV0)),(17,bk (eVb r10.1)),(19,bk (eV0))]⟩ (a_block ?_)))
    refine a_loop (emb:=fun (s:(Bool×Int×(Vec Int 64)))=>⟨[(0,i6 a0),(3,i6 a3),(4,.bool s.1),(6,ow 6),(7,ow 7),(10,ow 10),(11,ow 11),(17,ow 17),(19,ow 19),(20,i6 s.2.1)],[(6,bk (eVb a1)),(7,bk (eVb a2)),(10,bk (eV0)),(11,bk (eV0)),(17,bk (eVb r10.1)),(19,bk (eVb s.2.2))]⟩) (body:=(fun s:(Bool×Int×(Vec Int 64))=>spec_l10Series_l1 a3 a0 a2 r10 a1 s.1 s.2.1 s.2.2)) (G:=fun q=>some q=some y235) h rfl ?_ (by kernel_rfl)
    rintro X377 ⟨x306,x307,x308⟩ x378 h hX379
    have h:spec_l10Series_l1 a3 a0 a2 r10 a1 x306 x307 x308=some x378:=h
    refine ns ⟨[(0,i6 a0),(3,i6 a3),(4,.bool x306),(6,ow 6),(7,ow 7),(10,ow 10),(11,ow 11),(17,ow 17),(19,ow 19),(20,i6 x307)],[(6,bk (eVb a1)),(7,bk (eVb a2)),(10,bk (eV0)),(11,bk (eV0)),(17,bk (eVb r10.1)),(19,bk (eVb x308))]⟩ (a_seq (sr (vr (i6 x307) (vr (i6 a3) (vr (.bool ((decide (x307 < a3)))) (nk ⟨[(0,i6 a0),(3,i6 a3),(4,.bool x306),(6,ow 6),(7,ow 7),(10,ow 10),(11,ow 11),(17,ow 17),(19,ow 19),(20,i6 x307),(76,.bool ((decide (x307 < a3))))],[(6,bk (eVb a1)),(7,bk (eVb a2)),(10,bk (eV0)),(11,bk (eV0)),(17,bk (eVb r10.1)),(19,bk (eVb x308))]⟩ ?_))))))
    cases hb380:(decide (x307 < a3))
    ·have h:=ite_f hb380 h
     refine a_cond_f rfl (a_exit (t_exit ?_))
     cases h
     have h:=hX379
     refine t_exit (b_exit ?_)
     exact jl x308 h
    ·have h:=ite_t hb380 h
     refine a_cond_t rfl (a_skip (nj ⟨[(0,i6 a0),(3,i6 a3),(4,.bool x306),(6,ow 6),(7,ow 7),(10,ow 10),(11,ow 11),(17,ow 17),(19,ow 19),(20,i6 x307)],[(6,bk (eVb a1)),(7,bk (eVb a2)),(10,bk (eV0)),(11,bk (eV0)),(17,bk (eVb r10.1)),(19,bk (eVb x308))]⟩ (a_seq (a_block (sr (vr (i6 a0) (vr (i6 x307) (vr (.bool x306) ?_))))))))
     obtain ⟨r381,hr382,h⟩:=bind_some h
     refine ca (spec_l04Factorial_ok a0 x307 x306 r381 hr382) (vr (.tuple [(eVb r381.1),(.bool r381.2)]) (vb (eVb r381.1) rfl rfl (vb (.bool r381.2) rfl rfl (vo 3100 (eV0) rfl rfl (vs (eVb r381.1) rfl rfl (fun _=>rfl) rfl rfl rfl rfl rfl rfl (vr (.bool r381.2) (nk ⟨[(0,i6 a0),(3,i6 a3),(4,.bool x306),(6,ow 6),(7,ow 7),(10,ow 10),(11,ow 11),(17,ow 17),(19,ow 19),(20,i6 x307),(21,ow 21)],[(6,bk (eVb a1)),(7,bk (eVb a2)),(10,bk (eV0)),(11,bk (eV0)),(17,bk (eVb r10.1)),(19,bk (eVb x308)),(21,bk (eVb r381.1))]⟩ (a_seq (a_draw [⟨[],[],[],[]⟩,⟨[21],[],[],[]⟩,⟨[],[],[],[]⟩,⟨[7],[],[],[]⟩,⟨[],[],[],[]⟩,⟨[],[],[],[2,3,4]⟩,⟨[],[],[],[0,1,2,3,4,5]⟩,⟨[],[],[],[0,1,2,3,4,5,6]⟩,⟨[],[],[],[0,1,2,3,4,5,6,7]⟩,⟨[],[],[],[0,1,2,3,4,5,6,7]⟩,⟨[3300],[3300],[3300],[]⟩,⟨[3300],[3300],[],[0,1,2,3,4,5,6,7,8,10]⟩,⟨[],[],[],[0,1,2,3,4,5,6,7,8,9,10,11]⟩] (by kernel_rfl) ?_)))))))))
     refine dj (i6 a0) rfl (d_cons (vl (eVb r381.1) rfl rfl rfl rfl rfl rfl (dn (dj (i6 a0) rfl (d_cons (vl (eVb a2) rfl rfl rfl rfl rfl rfl (dn (dj (i6 x307) rfl (d_cons ?_)))))))))
     obtain ⟨r393,hr394,h⟩:=bind_some h
     refine ca (spec_l10Raised_ok a0 a2 x307 r393 hr394) (dn (d_cons ?_))
     obtain ⟨r395,hr396,h⟩:=bind_some h
     refine ca (spec_l01Times_ok a0 r381.1 r393 r395 hr396) (dn (dj (.tuple [(eVb r395.1),(.bool r395.2)]) rfl (d_cons (vb (eVb r395.1) rfl rfl (dn (d_cons (vb (.bool r395.2) rfl rfl (dn (d_cons ?_)))))))))
     refine vo 3300 (eV0) rfl rfl (dn (d_cons (vs (eVb r395.1) rfl rfl (fun _=>rfl) rfl rfl rfl rfl rfl rfl (dn (dj (.bool r395.2) rfl (d_nil (nj ⟨[(0,i6 a0),(3,i6 a3),(4,.bool x306),(6,ow 6),(7,ow 7),(10,ow 10),(11,ow 11),(17,ow 17),(19,ow 19),(20,i6 x307),(23,ow 23)],[(6,bk (eVb a1)),(7,bk (eVb a2)),(10,bk (eV0)),(11,bk (eV0)),(17,bk (eVb r10.1)),(19,bk (eVb x308)),(23,bk (eVb r395.1))]⟩ (sr (vr (i6 a0) ?_)))))))))
     refine vl (eVb r10.1) rfl rfl rfl rfl rfl rfl (vl (eVb r395.1) rfl rfl rfl rfl rfl rfl ?_)
     obtain ⟨r400,hr401,h⟩:=bind_some h
     refine ca (spec_l01Divide_ok a0 r10.1 r395.1 r400 hr401) (vr (.tuple [(eVb r400.1),(eVb r400.2)]) (vb (eVb r400.1) rfl rfl (vb (eVb r400.2) rfl rfl (vo 3500 (eV0) rfl rfl (vo 3600 (eV0) rfl rfl (vs (eVb r400.1) rfl rfl (fun _=>rfl) rfl rfl rfl rfl rfl rfl (vs (eVb r400.2) rfl rfl (fun _=>rfl) rfl rfl rfl rfl rfl rfl (nk ⟨[(0,i6 a0),(3,i6 a3),(4,.bool x306),(6,ow 6),(7,ow 7),(10,ow 10),(11,ow 11),(17,ow 17),(19,ow 19),(20,i6 x307),(25,ow 25)],[(6,bk (eVb a1)),(7,bk (eVb a2)),(10,bk (eV0)),(11,bk (eV0)),(17,bk (eVb r10.1)),(19,bk (eVb x308)),(25,bk (eVb r400.1))]⟩ (sr ?_)))))))))
     refine vr (i6 a0) (vl (eVb a1) rfl rfl rfl rfl rfl rfl (vr (i6 x307) ?_))
     obtain ⟨r405,hr406,h⟩:=bind_some h
     refine ca (spec_l04Raise_ok a0 a1 x307 r405 hr406) (vr (.tuple [(eVb r405.1),(.bool r405.2)]) (vb (eVb r405.1) rfl rfl (vb (.bool r405.2) rfl rfl (vo 3700 (eV0) rfl rfl (vs (eVb r405.1) rfl rfl (fun _=>rfl) rfl rfl rfl rfl rfl rfl (vr (.bool r405.2) (nk ⟨[(0,i6 a0),(3,i6 a3),(4,.bool x306),(6,ow 6),(7,ow 7),(10,ow 10),(11,ow 11),(17,ow 17),(19,ow 19),(20,i6 x307),(25,ow 25),(27,ow 27),(28,.bool r405.2)],[(6,bk (eVb a1)),(7,bk (eVb a2)),(10,bk (eV0)),(11,bk (eV0)),(17,bk (eVb r10.1)),(19,bk (eVb x308)),(25,bk (eVb r400.1)),(27,bk (eVb r405.1))]⟩ (sr (vr (i6 a0) ?_)))))))))
     refine vl (eVb r405.1) rfl rfl rfl rfl rfl rfl (vl (eVb r400.1) rfl rfl rfl rfl rfl rfl ?_)
     obtain ⟨r410,hr411,h⟩:=bind_some h
     refine ca (spec_l01Times_ok a0 r405.1 r400.1 r410 hr411) (vr (.tuple [(eVb r410.1),(.bool r410.2)]) (vb (eVb r410.1) rfl rfl (vb (.bool r410.2) rfl rfl (vo 3900 (eV0) rfl rfl (vs (eVb r410.1) rfl rfl (fun _=>rfl) rfl rfl rfl rfl rfl rfl (vr (.bool r410.2) (nk ⟨[(0,i6 a0),(3,i6 a3),(4,.bool x306),(6,ow 6),(7,ow 7),(10,ow 10),(11,ow 11),(17,ow 17),(19,ow 19),(20,i6 x307),(28,.bool r405.2),(29,ow 29),(30,.bool r410.2)],[(6,bk (eVb a1)),(7,bk (eVb a2)),(10,bk (eV0)),(11,bk (eV0)),(17,bk (eVb r10.1)),(19,bk (eVb x308)),(29,bk (eVb r410.1))]⟩ (a_seq ?_))))))))
     obtain ⟨y415,hy416,hk417⟩:=bind_some h
     clear h
     refine a_join (emb:=fun (s:Bool)=>⟨[(0,i6 a0),(3,i6 a3),(4,.bool x306),(6,ow 6),(7,ow 7),(10,ow 10),(11,ow 11),(17,ow 17),(19,ow 19),(20,i6 x307),(29,ow 29),(122,.bool s)],[(6,bk (eVb a1)),(7,bk (eVb a2)),(10,bk (eV0)),(11,bk (eV0)),(17,bk (eVb r10.1)),(19,bk (eVb x308)),(29,bk (eVb r410.1))]⟩) (pre:=fun s=>s=y415) ?_ ?_
     ·rintro x414 rfl
      have h:=hk417
      refine ns ⟨[(0,i6 a0),(3,i6 a3),(4,.bool x306),(6,ow 6),(7,ow 7),(10,ow 10),(11,ow 11),(17,ow 17),(19,ow 19),(20,i6 x307),(29,ow 29),(122,.bool x414)],[(6,bk (eVb a1)),(7,bk (eVb a2)),(10,bk (eV0)),(11,bk (eV0)),(17,bk (eVb r10.1)),(19,bk (eVb x308)),(29,bk (eVb r410.1))]⟩ ?_
      cases hb419:x414
      ·have h:=ite_f hb419 h
       refine a_cond_f rfl (a_skip (nj ⟨[(0,i6 a0),(3,i6 a3),(4,.bool x306),(6,ow 6),(7,ow 7),(10,ow 10),(11,ow 11),(17,ow 17),(19,ow 19),(20,i6 x307),(29,ow 29)],[(6,bk (eVb a1)),(7,bk (eVb a2)),(10,bk (eV0)),(11,bk (eV0)),(17,bk (eVb r10.1)),(19,bk (eVb x308)),(29,bk (eVb r410.1))]⟩ (sr (vr (i6 1) (nk ⟨[(0,i6 a0),(3,i6 a3),(4,.bool x306),(6,ow 6),(7,ow 7),(10,ow 10),(11,ow 11),(17,ow 17),(19,ow 19),(20,i6 x307),(29,ow 29),(31,i6 1)],[(6,bk (eVb a1)),(7,bk (eVb a2)),(10,bk (eV0)),(11,bk (eV0)),(17,bk (eVb r10.1)),(19,bk (eVb x308)),(29,bk (eVb r410.1))]⟩ ?_)))))
       obtain ⟨y430,hy431,hk432⟩:=bind_some h
       clear h
       refine a_join (emb:=fun (s:(Bool×Int))=>⟨[(0,i6 a0),(3,i6 a3),(4,.bool s.1),(6,ow 6),(7,ow 7),(10,ow 10),(11,ow 11),(17,ow 17),(19,ow 19),(20,i6 x307),(29,ow 29),(31,i6 s.2)],[(6,bk (eVb a1)),(7,bk (eVb a2)),(10,bk (eV0)),(11,bk (eV0)),(17,bk (eVb r10.1)),(19,bk (eVb x308)),(29,bk (eVb r410.1))]⟩) (pre:=fun s=>s=y430) ?_ ?_
       ·rintro ⟨x428,x429⟩ rfl
        have h:=hk432
        refine ns ⟨[(0,i6 a0),(3,i6 a3),(4,.bool x428),(6,ow 6),(7,ow 7),(10,ow 10),(11,ow 11),(17,ow 17),(19,ow 19),(20,i6 x307),(29,ow 29),(31,i6 x429)],[(6,bk (eVb a1)),(7,bk (eVb a2)),(10,bk (eV0)),(11,bk (eV0)),(17,bk (eVb r10.1)),(19,bk (eVb x308)),(29,bk (eVb r410.1))]⟩ (a_region (vr (i6 a0) (vl (eVb x308) rfl rfl rfl rfl rfl rfl (vl (eVb r410.1) rfl rfl rfl rfl rfl rfl (vr (i6 x429) ?_)))))
        obtain ⟨r443,hr444,h⟩:=bind_some h
        refine ca (spec_l01Add_ok a0 x308 r410.1 x429 r443 hr444) (vs (eVb r443) rfl rfl (fun _=>rfl) rfl rfl rfl rfl rfl rfl (a_nil (b_norm (nj ⟨[(0,i6 a0),(3,i6 a3),(4,.bool x428),(6,ow 6),(7,ow 7),(10,ow 10),(11,ow 11),(17,ow 17),(19,ow 19),(20,i6 x307)],[(6,bk (eVb a1)),(7,bk (eVb a2)),(10,bk (eV0)),(11,bk (eV0)),(17,bk (eVb r10.1)),(19,bk (eVb r443))]⟩ (a_region (vr (i6 x307) (vr (i6 (IntKind.i64.wrap (x307 + 1))) (vr (i6 (IntKind.i64.wrap (x307 + 1))) (a_nil ?_)))))))))
        cases h
        exact ag hX379
       ·have h:=hy431
        obtain ⟨y436,hy437,hk438⟩:=bind_some h
        clear h
        refine a_join (emb:=fun (s:(Bool×Bool))=>⟨[(0,i6 a0),(3,i6 a3),(4,.bool s.1),(6,ow 6),(7,ow 7),(10,ow 10),(11,ow 11),(17,ow 17),(19,ow 19),(20,i6 x307),(29,ow 29),(31,i6 1),(130,.bool s.2)],[(6,bk (eVb a1)),(7,bk (eVb a2)),(10,bk (eV0)),(11,bk (eV0)),(17,bk (eVb r10.1)),(19,bk (eVb x308)),(29,bk (eVb r410.1))]⟩) (pre:=fun s=>s=y436) ?_ ?_
        ·rintro ⟨x434,x435⟩ rfl
         have h:=hk438
         refine ns ⟨[(0,i6 a0),(3,i6 a3),(4,.bool x434),(6,ow 6),(7,ow 7),(10,ow 10),(11,ow 11),(17,ow 17),(19,ow 19),(20,i6 x307),(29,ow 29),(31,i6 1),(130,.bool x435)],[(6,bk (eVb a1)),(7,bk (eVb a2)),(10,bk (eV0)),(11,bk (eV0)),(17,bk (eVb r10.1)),(19,bk (eVb x308)),(29,bk (eVb r410.1))]⟩ ?_
         cases hb440:x435
         ·have h:=ite_f hb440 h
          refine a_cond_f rfl (a_skip ?_)
          exact jl (x434,1) h
         ·have h:=ite_t hb440 h
          refine a_cond_t rfl (a_region (vr (i6 (-1)) (a_nil ?_)))
          exact jl (x434,-1) h
        ·have h:=hy437
         refine a_region (vr (.bool x306) (vr (.bool x306) ?_))
         cases hb439:x306
         ·have h:=ite_f hb439 h
          refine a_gskip rfl (a_gskip rfl (a_gskip rfl (vr (.bool false) (a_nil ?_))))
          exact jl (false,false) h
         ·have h:=ite_t hb439 h
          refine gp (i6 x307) rfl rfl (gq (i6 (Int.tmod x307 2)) rfl rfl (by decide) (gp (.bool (((Int.tmod x307 2) == 1))) rfl rfl (vr (.bool (((Int.tmod x307 2) == 1))) (a_nil ?_))))
          exact jl ((true,((Int.tmod x307 2) == 1))) h
      ·have h:=ite_t hb419 h
       refine a_cond_t rfl (sr (vq (eV0) rfl ⟨⟨_,rfl,rfl⟩,all_nil⟩ (vq (eV0) rfl ⟨⟨_,rfl,rfl⟩,all_nil⟩ (vs (eV0) rfl rfl (fun _=>rfl) rfl rfl rfl rfl rfl rfl (vs (eV0) rfl rfl (fun _=>rfl) rfl rfl rfl rfl rfl rfl (vr (.bool false) (nx _ rfl (a_ret (t_ret ?_)))))))))
       refine b_ret (t_ret ?_)
       cases h
       have h:=hX379
       refine t_ret (b_ret (t_ret ?_))
       cases h
       have h:=hk237
       have hl448:LdOk [] (eV0) [] 64 true (eV0):=(.nil rfl rfl rfl)
       have hl449:LdOk [] (eV0) [] 64 true (eV0):=(.nil rfl rfl rfl)
       refine ⟨.inr rfl,?_⟩
       rw [Tryz.results71]
       cases h
       exact ⟨_,_,_,_,_,ld_own (i:=⟨.arr 64 5,64,64,(eVb (vrep 64 (0:Int)))⟩) rfl rfl rfl hl448,hl448.c,.inl ⟨rfl,.inl rfl⟩,rfl,⟨_,_,_,_,_,ld_own (i:=⟨.arr 64 5,64,64,(eVb (vrep 64 (0:Int)))⟩) rfl rfl rfl hl449,hl449.c,.inl ⟨rfl,.inl rfl⟩,rfl,⟨_,_,_,_,_,rfl,trivial,.inl ⟨rfl,.inl rfl⟩,rfl,rfl⟩⟩⟩
     ·have h:=hy416
      refine a_region (vr (.bool r405.2) (vr (.bool (!r405.2)) (vr (.bool (!r405.2)) ?_)))
      cases hb418:(!r405.2)
      ·have h:=ite_f hb418 h
       refine gp (.bool r410.2) rfl rfl (gp (.bool (!r410.2)) rfl rfl (vr (.bool (!r410.2)) (a_nil ?_)))
       exact jl (!r410.2) h
      ·have h:=ite_t hb418 h
       refine a_gskip rfl (a_gskip rfl (vr (.bool true) (a_nil ?_)))
       exact jl true h
  ·have h:=ite_t hb21 h
   refine a_cond_t rfl (sr (vq (eV0) rfl ⟨⟨_,rfl,rfl⟩,all_nil⟩ (vq (eV0) rfl ⟨⟨_,rfl,rfl⟩,all_nil⟩ (vs (eV0) rfl rfl (fun _=>rfl) rfl rfl rfl rfl rfl rfl (vs (eV0) rfl rfl (fun _=>rfl) rfl rfl rfl rfl rfl rfl (vr (.bool false) (nx _ rfl (a_ret (t_ret ?_)))))))))
   have hl496:LdOk [] (eV0) [] 64 true (eV0):=(.nil rfl rfl rfl)
   have hl497:LdOk [] (eV0) [] 64 true (eV0):=(.nil rfl rfl rfl)
   refine ⟨.inr rfl,?_⟩
   rw [Tryz.results71]
   cases h
   exact ⟨_,_,_,_,_,ld_own (i:=⟨.arr 64 5,64,64,(eVb (vrep 64 (0:Int)))⟩) rfl rfl rfl hl496,hl496.c,.inl ⟨rfl,.inl rfl⟩,rfl,⟨_,_,_,_,_,ld_own (i:=⟨.arr 64 5,64,64,(eVb (vrep 64 (0:Int)))⟩) rfl rfl rfl hl497,hl497.c,.inl ⟨rfl,.inl rfl⟩,rfl,⟨_,_,_,_,_,rfl,trivial,.inl ⟨rfl,.inl rfl⟩,rfl,rfl⟩⟩⟩
 ·have h:=hy17
  refine a_region (vr (.bool r1.2) (vr (.bool (!r1.2)) (vr (.bool (!r1.2)) ?_)))
  cases hb19:(!r1.2)
  ·have h:=ite_f hb19 h
   refine gp (.bool r5.2) rfl rfl (gp (.bool (!r5.2)) rfl rfl (vr (.bool (!r5.2)) (vr (.bool (!r5.2)) ?_)))
   cases hb20:(!r5.2)
   ·have h:=ite_f hb20 h
    refine gp (.bool r10.2) rfl rfl (gp (.bool (!r10.2)) rfl rfl (vr (.bool (!r10.2)) (a_nil ?_)))
    exact jl (!r10.2) h
   ·have h:=ite_t hb20 h
    refine a_gskip rfl (a_gskip rfl (vr (.bool true) (a_nil ?_)))
    exact jl true h
  ·have h:=ite_t hb19 h
   refine a_gskip rfl (a_gskip rfl (vr (.bool true) (vr (.bool true) (a_gskip rfl (a_gskip rfl (vr (.bool true) (a_nil ?_)))))))
   exact jl true h
def spec_ExponentialUpTo_L:Live:=[(0,[0,1,2,3]),(1,[0,3,5,6,8,9]),(2,[0,3,5,6,8,9,11]),(3,[8,9,11]),(4,[0,3,5,6,8,9]),(5,[8,9,12,13,14]),(6,[8,9]),(7,[8,9,12,13]),(100021,[0,3,5,6,8,9,11,21]),(100035,[8,9,12,13,35])]
noncomputable def spec_ExponentialUpTo (a0:Int) (a1:(Vec Int 64)) (a2:(Vec Int 64)) (a3:Int):Option ((Vec Int 64)×(Vec Int 64)×Int) :=
 (Option.bind (spec_l10Cut a0 a1 a2 a3) fun r3=>(if (r3 != 0) then (some (((vrep 64 (0:Int)),(vrep 64 (0:Int)),r3))) else (Option.bind (spec_l10Series a0 a1 a2 a3 false) fun r8=>(if (!r8.2.2) then (some (((vrep 64 (0:Int)),(vrep 64 (0:Int)),3))) else (some (r8.1,r8.2.1,0))))))
theorem spec_ExponentialUpTo_ok (a0:Int) (a1:(Vec Int 64)) (a2:(Vec Int 64)) (a3:Int) (r:((Vec Int 64)×(Vec Int 64)×Int)) (h:spec_ExponentialUpTo a0 a1 a2 a3=some r):Den Tryz.prog 17 [(i6 a0),(eVb a1),(eVb a2),(i6 a3)] { r:=(.tuple [(eVb r.1),(eVb r.2.1),(i6 r.2.2)]) }:=by
 refine dd (rs:=[(eVb r.1),(eVb r.2.1),(i6 r.2.2)]) (L:=spec_ExponentialUpTo_L) good [] Tryz.func17 Tryz.ntmps17 ?_
 refine ns ⟨[(0,i6 a0),(1,eVb a1),(2,eVb a2),(3,i6 a3)],[]⟩ ?_
 refine sr (vo 1500 (eVb a1) rfl rfl (vo 1600 (eVb a2) rfl rfl (vo 1800 (eV0) rfl rfl (vo 1900 (eV0) rfl rfl (vr (i6 0) (nk ⟨[(0,i6 a0),(3,i6 a3),(5,ow 5),(6,ow 6),(8,ow 8),(9,ow 9)],[(5,bk (eVb a1)),(6,bk (eVb a2)),(8,bk (eV0)),(9,bk (eV0))]⟩ (a_seq (sr (vr (i6 a0) ?_)))))))))
 refine vl (eVb a1) rfl rfl rfl rfl rfl rfl (vl (eVb a2) rfl rfl rfl rfl rfl rfl (vr (i6 a3) ?_))
 obtain ⟨r3,hr4,h⟩:=bind_some h
 refine ca (spec_l10Cut_ok a0 a1 a2 a3 r3 hr4) (vr (i6 r3) (nk ⟨[(0,i6 a0),(3,i6 a3),(5,ow 5),(6,ow 6),(8,ow 8),(9,ow 9),(11,i6 r3)],[(5,bk (eVb a1)),(6,bk (eVb a2)),(8,bk (eV0)),(9,bk (eV0))]⟩ (sr (vr (i6 r3) (vr (.bool (r3 != 0)) (nk ⟨[(0,i6 a0),(3,i6 a3),(5,ow 5),(6,ow 6),(8,ow 8),(9,ow 9),(11,i6 r3),(21,.bool (r3 != 0))],[(5,bk (eVb a1)),(6,bk (eVb a2)),(8,bk (eV0)),(9,bk (eV0))]⟩ ?_))))))
 cases hb5:(r3 != 0)
 ·have h:=ite_f hb5 h
  refine a_cond_f rfl (a_skip (nj ⟨[(0,i6 a0),(3,i6 a3),(5,ow 5),(6,ow 6),(8,ow 8),(9,ow 9)],[(5,bk (eVb a1)),(6,bk (eVb a2)),(8,bk (eV0)),(9,bk (eV0))]⟩ (sr (vr (i6 a0) (vl (eVb a1) rfl rfl rfl rfl rfl rfl (vl (eVb a2) rfl rfl rfl rfl rfl rfl (vr (i6 a3) ?_)))))))
  obtain ⟨r8,hr9,h⟩:=bind_some h
  refine ca (spec_l10Series_ok a0 a1 a2 a3 false r8 hr9) (vr (.tuple [(eVb r8.1),(eVb r8.2.1),(.bool r8.2.2)]) (vb (eVb r8.1) rfl rfl (vb (eVb r8.2.1) rfl rfl (vb (.bool r8.2.2) rfl rfl (vo 2200 (eV0) rfl rfl (vo 2300 (eV0) rfl rfl (vs (eVb r8.1) rfl rfl (fun _=>rfl) rfl rfl rfl rfl rfl rfl (vs (eVb r8.2.1) rfl rfl (fun _=>rfl) rfl rfl rfl rfl rfl rfl (vr (.bool r8.2.2) ?_)))))))))
  refine nk ⟨[(8,ow 8),(9,ow 9),(12,ow 12),(13,ow 13),(14,.bool r8.2.2)],[(8,bk (eV0)),(9,bk (eV0)),(12,bk (eVb r8.1)),(13,bk (eVb r8.2.1))]⟩ (a_seq (sr (vr (.bool r8.2.2) (vr (.bool (!r8.2.2)) (nk ⟨[(8,ow 8),(9,ow 9),(12,ow 12),(13,ow 13),(35,.bool (!r8.2.2))],[(8,bk (eV0)),(9,bk (eV0)),(12,bk (eVb r8.1)),(13,bk (eVb r8.2.1))]⟩ ?_)))))
  cases hb12:(!r8.2.2)
  ·have h:=ite_f hb12 h
   refine a_cond_f rfl (a_skip (nj ⟨[(8,ow 8),(9,ow 9),(12,ow 12),(13,ow 13)],[(8,bk (eV0)),(9,bk (eV0)),(12,bk (eVb r8.1)),(13,bk (eVb r8.2.1))]⟩ (a_seq (a_draw [⟨[12],[],[],[]⟩,⟨[13],[],[],[]⟩,⟨[8],[8],[],[0]⟩,⟨[9],[9],[],[0,1,2]⟩,⟨[],[],[],[0,1,2,3]⟩] (by kernel_rfl) (d_cons (vl (eVb r8.1) rfl rfl rfl rfl rfl rfl (dn (d_cons (vl (eVb r8.2.1) rfl rfl rfl rfl rfl rfl ?_)))))))))
   refine dn (d_cons (vs (eVb r8.1) rfl rfl (fun _=>rfl) rfl rfl rfl rfl rfl rfl (dn (d_cons (vs (eVb r8.2.1) rfl rfl (fun _=>rfl) rfl rfl rfl rfl rfl rfl (dn (dj (i6 0) rfl (d_nil (a_next rfl ?_)))))))))
   refine a_ret ?_
   have hl21:LdOk [] (eVb r8.1) [] 64 true (eVb r8.1):=(.nil rfl rfl rfl)
   have hl22:LdOk [] (eVb r8.2.1) [] 64 true (eVb r8.2.1):=(.nil rfl rfl rfl)
   refine ⟨.inr rfl,?_⟩
   rw [Tryz.results17]
   cases h
   exact ⟨_,_,_,_,_,ld_own (i:=⟨.arr 64 5,64,64,(eVb (vrep 64 (0:Int)))⟩) rfl rfl rfl hl21,hl21.c,.inl ⟨rfl,.inl rfl⟩,rfl,⟨_,_,_,_,_,ld_own (i:=⟨.arr 64 5,64,64,(eVb (vrep 64 (0:Int)))⟩) rfl rfl rfl hl22,hl22.c,.inl ⟨rfl,.inl rfl⟩,rfl,⟨_,_,_,_,_,rfl,trivial,.inl ⟨rfl,.inl rfl⟩,rfl,rfl⟩⟩⟩
  ·have h:=ite_t hb12 h
   refine a_cond_t rfl (sr (vq (eV0) rfl ⟨⟨_,rfl,rfl⟩,all_nil⟩ (vq (eV0) rfl ⟨⟨_,rfl,rfl⟩,all_nil⟩ (vs (eV0) rfl rfl (fun _=>rfl) rfl rfl rfl rfl rfl rfl (vs (eV0) rfl rfl (fun _=>rfl) rfl rfl rfl rfl rfl rfl (vr (i6 3) (nx _ rfl (a_ret (t_ret ?_)))))))))
   have hl25:LdOk [] (eV0) [] 64 true (eV0):=(.nil rfl rfl rfl)
   have hl26:LdOk [] (eV0) [] 64 true (eV0):=(.nil rfl rfl rfl)
   refine ⟨.inr rfl,?_⟩
   rw [Tryz.results17]
   cases h
   exact ⟨_,_,_,_,_,ld_own (i:=⟨.arr 64 5,64,64,(eVb (vrep 64 (0:Int)))⟩) rfl rfl rfl hl25,hl25.c,.inl ⟨rfl,.inl rfl⟩,rfl,⟨_,_,_,_,_,ld_own (i:=⟨.arr 64 5,64,64,(eVb (vrep 64 (0:Int)))⟩) rfl rfl rfl hl26,hl26.c,.inl ⟨rfl,.inl rfl⟩,rfl,⟨_,_,_,_,_,rfl,trivial,.inl ⟨rfl,.inl rfl⟩,rfl,rfl⟩⟩⟩
 ·have h:=ite_t hb5 h
  refine a_cond_t rfl (sr (vq (eV0) rfl ⟨⟨_,rfl,rfl⟩,all_nil⟩ (vq (eV0) rfl ⟨⟨_,rfl,rfl⟩,all_nil⟩ (vr (i6 r3) (vs (eV0) rfl rfl (fun _=>rfl) rfl rfl rfl rfl rfl rfl (vs (eV0) rfl rfl (fun _=>rfl) rfl rfl rfl rfl rfl rfl (vr (i6 r3) (nx _ rfl (a_ret ?_)))))))))
  refine t_ret ?_
  have hl29:LdOk [] (eV0) [] 64 true (eV0):=(.nil rfl rfl rfl)
  have hl30:LdOk [] (eV0) [] 64 true (eV0):=(.nil rfl rfl rfl)
  refine ⟨.inr rfl,?_⟩
  rw [Tryz.results17]
  cases h
  exact ⟨_,_,_,_,_,ld_own (i:=⟨.arr 64 5,64,64,(eVb (vrep 64 (0:Int)))⟩) rfl rfl rfl hl29,hl29.c,.inl ⟨rfl,.inl rfl⟩,rfl,⟨_,_,_,_,_,ld_own (i:=⟨.arr 64 5,64,64,(eVb (vrep 64 (0:Int)))⟩) rfl rfl rfl hl30,hl30.c,.inl ⟨rfl,.inl rfl⟩,rfl,⟨_,_,_,_,_,rfl,trivial,.inl ⟨rfl,.inl rfl⟩,rfl,rfl⟩⟩⟩
def impl_prime_second_L:Live:=[(0,[0,1]),(1,[0,1]),(2,[0,1,5]),(3,[0,5,7,8]),(4,[0,5,7,8]),(5,[0,5,6,7,8]),(6,[0,5,7,8]),(7,[5]),(100009,[0,5,7,8,9])]
noncomputable def impl_prime_second_l1 (a1:Int) (a0:Int) (x27:Int) (x28:(List (List Int))):Option ((Int×(List (List Int)))⊕(List (List Int))) :=
 (if (decide (x27 < a1)) then (Option.bind (impl_prime_bracket a0 (IntKind.i64.wrap (x27 + 1)) 0) fun r37=>(ifp ((x28.length + ([r37]:List (List Int)).length)*24≤140737488355328) ((some (.inl ((IntKind.i64.wrap (x27 + 1),(x28 ++ ([r37]))))))))) else (some (.inr x28)))
noncomputable def impl_prime_second (a0:Int) (a1:Int):Option (List (List Int)) :=
 (Option.bind (α:=(List (List Int))) ((loopM (fun s:(Int×(List (List Int)))=>impl_prime_second_l1 a1 a0 s.1 s.2) (0,[]))) fun x19=>(some x19))
theorem impl_prime_second_ok (a0:Int) (a1:Int) (r:(List (List Int))) (h:impl_prime_second a0 a1=some r):Den Tryz.prog 72 [(i6 a0),(i6 a1)] { r:=(eSSi64 r) }:=by
 refine dd (rs:=[(eSSi64 r)]) (L:=impl_prime_second_L) good [(4,1),(5,2)] Tryz.func72 Tryz.ntmps72 ?_
 refine ns ⟨[(0,i6 a0),(1,i6 a1)],[]⟩ ?_
 refine sr (vr (eSSi64 ([])) (nk ⟨[(0,i6 a0),(1,i6 a1)],[]⟩ (sr (vu (.osl 1500) [(1500,bk (.row 1 (([]).map eSi64)))] rfl trivial rfl (nk ⟨[(0,i6 a0),(1,i6 a1),(5,.osl 5)],[(5,bk (.row 1 (([]).map eSi64)))]⟩ ?_)))))
 obtain ⟨y20,hy21,hk22⟩:=bind_some h
 clear h
 refine a_join (emb:=fun (s:(List (List Int)))=>⟨[(5,.osl 5)],[(5,bk (.row 1 (s.map eSi64)))]⟩) (pre:=fun s=>s=y20) ?_ ?_
 ·rintro x19 rfl
  have h:=hk22
  refine ns ⟨[(5,.osl 5)],[(5,bk (.row 1 (x19.map eSi64)))]⟩ (sr (vr (.osl 5) (vu (eSSi64 x19) [(5,bf (.row 1 (x19.map eSi64)))] rfl trivial rfl (nx _ rfl (a_ret ?_)))))
  refine ⟨.inr rfl,?_⟩
  rw [Tryz.results72]
  cases h
  exact ⟨_,_,_,_,_,rfl,trivial,.inl ⟨rfl,.inl rfl⟩,rfl,rfl⟩
 ·have h:=hy21
  refine sr (vr (i6 a1) (vr (i6 0) (nk ⟨[(0,i6 a0),(5,.osl 5),(7,i6 a1),(8,i6 0)],[(5,bk (.row 1 (([]).map eSi64)))]⟩ (a_block ?_))))
  refine a_loop (emb:=fun (s:(Int×(List (List Int))))=>⟨[(0,i6 a0),(5,.osl 5),(7,i6 a1),(8,i6 s.1)],[(5,bk (.row 1 (s.2.map eSi64)))]⟩) (body:=(fun s:(Int×(List (List Int)))=>impl_prime_second_l1 a1 a0 s.1 s.2)) (G:=fun q=>some q=some y20) h rfl ?_ (by kernel_rfl)
  rintro X33 ⟨x27,x28⟩ x34 h hX35
  have h:impl_prime_second_l1 a1 a0 x27 x28=some x34:=h
  refine ns ⟨[(0,i6 a0),(5,.osl 5),(7,i6 a1),(8,i6 x27)],[(5,bk (.row 1 (x28.map eSi64)))]⟩ (sr (vr (.bool ((decide (x27 < a1)))) (nk ⟨[(0,i6 a0),(5,.osl 5),(7,i6 a1),(8,i6 x27),(9,.bool ((decide (x27 < a1))))],[(5,bk (.row 1 (x28.map eSi64)))]⟩ (a_seq ?_))))
  cases hb36:(decide (x27 < a1))
  ·have h:=ite_f hb36 h
   refine a_cond_f rfl (a_exit (t_exit ?_))
   cases h
   have h:=hX35
   refine t_exit (b_exit ?_)
   exact jl x28 h
  ·have h:=ite_t hb36 h
   refine a_cond_t rfl (a_skip (nj ⟨[(0,i6 a0),(5,.osl 5),(7,i6 a1),(8,i6 x27)],[(5,bk (.row 1 (x28.map eSi64)))]⟩ (a_seq (a_block (sr (vr (i6 x27) (vr (i6 x27) (nk ⟨[(0,i6 a0),(5,.osl 5),(6,i6 x27),(7,i6 a1),(8,i6 x27)],[(5,bk (.row 1 (x28.map eSi64)))]⟩ (a_region ?_)))))))))
   refine vr (.osl 5) (vr (i6 a0) (vr (i6 x27) (vr (i6 (IntKind.i64.wrap (x27 + 1))) ?_)))
   obtain ⟨r37,hr38,h⟩:=bind_some h
   refine ca (impl_prime_bracket_ok a0 (IntKind.i64.wrap (x27 + 1)) 0 r37 hr38) (vq (.sl 1 true (([r37]).map eSi64)) rfl ⟨(Nat.le_of_ble_eq_true rfl),(Nat.le_of_ble_eq_true rfl),(all_cons ⟨(Nat.le_of_ble_eq_true rfl),rfl⟩ all_nil)⟩ ?_)
   obtain ⟨hc39,h⟩:=ifp_some h
   refine vu (.osl 2700) [(2700,bk (.row 1 (((x28 ++ ([r37]))).map eSi64))),(5,none)] (app_run (i:=⟨.slice 2,1,24,(eSi64 [])⟩) (f:=eSi64) (l:=x28) (l2:=[r37]) rfl rfl rfl rfl (fun _=>rfl) rfl rfl) (app_c (f:=eSi64) (s:=1) (sz:=1) (by':=24) (u:=[]) (id:=5) hc39 (.inr rfl) rfl rfl rfl) rfl (vr (.osl 2700) (a_nil (b_norm (nj ⟨[(0,i6 a0),(5,.osl 5),(7,i6 a1),(8,i6 x27)],[(5,bk (.row 1 (((x28 ++ ([r37]))).map eSi64)))]⟩ (a_region (vr (i6 (IntKind.i64.wrap (x27 + 1))) (vr (i6 (IntKind.i64.wrap (x27 + 1))) (a_nil ?_))))))))
   cases h
   exact ag hX35
def impl_cut_bottom_of_s_impl_prime_second_L:Live:=[(0,[0]),(1,[1]),(2,[1,4]),(3,[1,4,22,23,24]),(4,[1,4,22,23,24]),(5,[1,4,6,22,23,24]),(6,[1,4,22,23,24]),(7,[1,4]),(8,[]),(9,[1]),(100025,[1,4,22,23,24,25]),(100034,[1,34])]
noncomputable def impl_cut_bottom_of_s_impl_prime_second_l1 (r46:(List (List Int))) (x53:Int) (x54:Int):Option ((Int×Int)⊕Int) :=
 (if (decide (x54 < (r46.length:Int))) then (ifp (0≤x54∧x54 < ((r46.length:Nat):Int)) ((Option.bind (impl_row_degree (rd r46 x54.toNat)) fun r66=>(some (.inl ((IntKind.i64.wrap (x53 + r66),IntKind.i64.wrap (x54 + 1)))))))) else (some (.inr x53)))
noncomputable def impl_cut_bottom_of_s_impl_prime_second (a0s0:Int) (a0s1:(List Int)) (a0s2:(List Int)) (a0s3:Int) (a0s4f0:Int):Option ((List Int)×Bool) :=
 (Option.bind (impl_row_degree a0s2) fun r9=>(Option.bind (impl_prime_norm a0s0 (IntKind.i64.wrap (a0s3 - 1)) 1099511627776) fun r13=>(Option.bind (α:=Int) ((Option.bind (impl_prime_second a0s4f0 (IntKind.i64.wrap (a0s3 - 1))) fun r46=>(loopM (fun s:(Int×Int)=>impl_cut_bottom_of_s_impl_prime_second_l1 r46 s.1 s.2) (IntKind.i64.wrap (r9*r13),0)))) fun x40=>(if (decide (x40 > 63)) then (some ([],false)) else (Option.bind (impl_prime_spread a0s0 a0s2 (IntKind.i64.wrap (a0s3 - 1))) fun r89=>(Option.bind (impl_prime_second a0s4f0 (IntKind.i64.wrap (a0s3 - 1))) fun r94=>(Option.bind (impl_prime_productRow a0s0 r94) fun r96=>(Option.bind (impl_prime_times a0s0 r89 r96) fun r98=>(some (r98,true))))))))))
theorem impl_cut_bottom_of_s_impl_prime_second_ok (a0s0:Int) (a0s1:(List Int)) (a0s2:(List Int)) (a0s3:Int) (a0s4f0:Int) (r:((List Int)×Bool)) (h:impl_cut_bottom_of_s_impl_prime_second a0s0 a0s1 a0s2 a0s3 a0s4f0=some r):Den Tryz.prog 118 [(.struct [1,1,1,1,1] [(i6 a0s0),(eSi64 a0s1),(eSi64 a0s2),(i6 a0s3),(.clo 72 [(i6 a0s4f0)] [])])] { r:=(.tuple [(eSi64 r.1),(.bool r.2)]) }:=by
 refine dd (rs:=[(eSi64 r.1),(.bool r.2)]) (L:=impl_cut_bottom_of_s_impl_prime_second_L) good [(2,1),(6,1)] Tryz.func118 Tryz.ntmps118 ?_
 refine ns ⟨[(0,.struct [1,1,1,1,1] [(i6 a0s0),(eSi64 a0s1),(eSi64 a0s2),(i6 a0s3),(.clo 72 [(i6 a0s4f0)] [])])],[]⟩ ?_
 refine sr (vo 1100 (.struct [1,1,1,1,1] [(i6 a0s0),(eSi64 a0s1),(eSi64 a0s2),(i6 a0s3),(.clo 72 [(i6 a0s4f0)] [])]) rfl rfl (vr (eSi64 ([])) (vr (.bool false) (nk ⟨[(1,ow 1)],[(1,bk (.struct [1,1,1,1,1] [(i6 a0s0),(eSi64 a0s1),(eSi64 a0s2),(i6 a0s3),(.clo 72 [(i6 a0s4f0)] [])]))]⟩ (a_seq (a_draw [⟨[1],[],[1],[]⟩,⟨[1],[],[],[0]⟩,⟨[],[],[],[0,1]⟩,⟨[1],[],[1],[]⟩,⟨[1],[],[],[3]⟩,⟨[1],[],[1],[]⟩,⟨[1],[],[],[5]⟩,⟨[],[],[],[5,6]⟩,⟨[],[],[],[0,1,2,3,4,5,6,7]⟩,⟨[],[],[],[0,1,2,3,4,5,6,7,8]⟩,⟨[],[],[],[0,1,2,3,4,5,6,7,8,9]⟩] (by kernel_rfl) (d_cons (vb (.own 1 [2] [2]) rfl rfl (dn ?_)))))))))
 refine d_cons ?_
 have hl8:LdOk [2] (.struct [1,1,1,1,1] [(i6 a0s0),(eSi64 a0s1),(eSi64 a0s2),(i6 a0s3),(.clo 72 [(i6 a0s4f0)] [])]) [2] 1 false (eSi64 a0s2):=(.fld rfl rfl rfl rfl (.nil rfl rfl rfl))
 refine vq (eSi64 a0s2) (ld_own (i:=⟨.slice 2,1,24,(eSi64 [])⟩) rfl rfl rfl hl8) hl8.c (dn (d_cons ?_))
 obtain ⟨r9,hr10,h⟩:=bind_some h
 refine ca (impl_row_degree_ok a0s2 r9 hr10) (dn (d_cons (vb (.own 1 [0] [0]) rfl rfl (dn (d_cons ?_)))))
 have hl11:LdOk [0] (.struct [1,1,1,1,1] [(i6 a0s0),(eSi64 a0s1),(eSi64 a0s2),(i6 a0s3),(.clo 72 [(i6 a0s4f0)] [])]) [0] 1 false (i6 a0s0):=(.fld rfl rfl rfl rfl (.nil rfl rfl rfl))
 refine vq (i6 a0s0) (ld_own (i:=⟨.int .i64,1,8,(.int .i64 0)⟩) rfl rfl rfl hl11) hl11.c (dn (d_cons (vb (.own 1 [3] [3]) rfl rfl (dn (d_cons ?_)))))
 have hl12:LdOk [3] (.struct [1,1,1,1,1] [(i6 a0s0),(eSi64 a0s1),(eSi64 a0s2),(i6 a0s3),(.clo 72 [(i6 a0s4f0)] [])]) [3] 1 false (i6 a0s3):=(.fld rfl rfl rfl rfl (.nil rfl rfl rfl))
 refine vq (i6 a0s3) (ld_own (i:=⟨.int .i64,1,8,(.int .i64 0)⟩) rfl rfl rfl hl12) hl12.c (dn (dj (i6 (IntKind.i64.wrap (a0s3 - 1))) rfl (d_cons ?_)))
 obtain ⟨r13,hr14,h⟩:=bind_some h
 refine ca (impl_prime_norm_ok a0s0 (IntKind.i64.wrap (a0s3 - 1)) 1099511627776 r13 hr14) (dn (dj (i6 (IntKind.i64.wrap (r9*r13))) rfl (dj (i6 (IntKind.i64.wrap (r9*r13))) rfl (d_nil (nj ⟨[(1,ow 1),(4,i6 (IntKind.i64.wrap (r9*r13)))],[(1,bk (.struct [1,1,1,1,1] [(i6 a0s0),(eSi64 a0s1),(eSi64 a0s2),(i6 a0s3),(.clo 72 [(i6 a0s4f0)] [])]))]⟩ ?_)))))
 obtain ⟨y41,hy42,hk43⟩:=bind_some h
 clear h
 refine a_join (emb:=fun (s:Int)=>⟨[(1,ow 1),(4,i6 s)],[(1,bk (.struct [1,1,1,1,1] [(i6 a0s0),(eSi64 a0s1),(eSi64 a0s2),(i6 a0s3),(.clo 72 [(i6 a0s4f0)] [])]))]⟩) (pre:=fun s=>s=y41) ?_ ?_
 ·rintro x40 rfl
  have h:=hk43
  refine ns ⟨[(1,ow 1),(4,i6 x40)],[(1,bk (.struct [1,1,1,1,1] [(i6 a0s0),(eSi64 a0s1),(eSi64 a0s2),(i6 a0s3),(.clo 72 [(i6 a0s4f0)] [])]))]⟩ (a_seq (sr (vr (i6 x40) (vr (.bool ((decide (x40 > 63)))) (nk ⟨[(1,ow 1),(34,.bool ((decide (x40 > 63))))],[(1,bk (.struct [1,1,1,1,1] [(i6 a0s0),(eSi64 a0s1),(eSi64 a0s2),(i6 a0s3),(.clo 72 [(i6 a0s4f0)] [])]))]⟩ ?_)))))
  cases hb69:(decide (x40 > 63))
  ·have h:=ite_f hb69 h
   refine a_cond_f rfl (a_skip (nj ⟨[(1,ow 1)],[(1,bk (.struct [1,1,1,1,1] [(i6 a0s0),(eSi64 a0s1),(eSi64 a0s2),(i6 a0s3),(.clo 72 [(i6 a0s4f0)] [])]))]⟩ (a_seq (a_draw [⟨[1],[],[1],[]⟩,⟨[1],[],[],[0]⟩,⟨[1],[],[1],[]⟩,⟨[1],[],[],[2]⟩,⟨[1],[],[1],[]⟩,⟨[1],[],[],[4]⟩,⟨[1],[],[1],[]⟩,⟨[1],[],[],[6]⟩,⟨[],[],[],[6,7]⟩,⟨[],[],[],[2,3,4,5,6,7,8]⟩,⟨[1],[],[1],[]⟩,⟨[1],[],[],[10]⟩,⟨[1],[],[1],[]⟩,⟨[1],[],[],[12]⟩,⟨[1],[],[1],[]⟩,⟨[1],[],[],[14]⟩,⟨[],[],[],[14,15]⟩,⟨[],[],[],[2,3,4,5,6,7,8,9,12,13,14,15,16]⟩,⟨[],[],[],[2,3,4,5,6,7,8,9,10,11,12,13,14,15,16,17]⟩,⟨[],[],[],[0,1,2,3,4,5,6,7,8,9,10,11,12,13,14,15,16,17,18]⟩,⟨[],[],[],[0,1,2,3,4,5,6,7,8,9,10,11,12,13,14,15,16,17,18,19]⟩,⟨[],[],[],[0,1,2,3,4,5,6,7,8,9,10,11,12,13,14,15,16,17,18,19,20]⟩] (by kernel_rfl) (d_cons (vb (.own 1 [0] [0]) rfl rfl (dn (d_cons ?_))))))))
   have hl85:LdOk [0] (.struct [1,1,1,1,1] [(i6 a0s0),(eSi64 a0s1),(eSi64 a0s2),(i6 a0s3),(.clo 72 [(i6 a0s4f0)] [])]) [0] 1 false (i6 a0s0):=(.fld rfl rfl rfl rfl (.nil rfl rfl rfl))
   refine vq (i6 a0s0) (ld_own (i:=⟨.int .i64,1,8,(.int .i64 0)⟩) rfl rfl rfl hl85) hl85.c (dn (d_cons (vb (.own 1 [0] [0]) rfl rfl (dn (d_cons ?_)))))
   have hl86:LdOk [0] (.struct [1,1,1,1,1] [(i6 a0s0),(eSi64 a0s1),(eSi64 a0s2),(i6 a0s3),(.clo 72 [(i6 a0s4f0)] [])]) [0] 1 false (i6 a0s0):=(.fld rfl rfl rfl rfl (.nil rfl rfl rfl))
   refine vq (i6 a0s0) (ld_own (i:=⟨.int .i64,1,8,(.int .i64 0)⟩) rfl rfl rfl hl86) hl86.c (dn (d_cons (vb (.own 1 [2] [2]) rfl rfl (dn (d_cons ?_)))))
   have hl87:LdOk [2] (.struct [1,1,1,1,1] [(i6 a0s0),(eSi64 a0s1),(eSi64 a0s2),(i6 a0s3),(.clo 72 [(i6 a0s4f0)] [])]) [2] 1 false (eSi64 a0s2):=(.fld rfl rfl rfl rfl (.nil rfl rfl rfl))
   refine vq (eSi64 a0s2) (ld_own (i:=⟨.slice 2,1,24,(eSi64 [])⟩) rfl rfl rfl hl87) hl87.c (dn (d_cons (vb (.own 1 [3] [3]) rfl rfl (dn (d_cons ?_)))))
   have hl88:LdOk [3] (.struct [1,1,1,1,1] [(i6 a0s0),(eSi64 a0s1),(eSi64 a0s2),(i6 a0s3),(.clo 72 [(i6 a0s4f0)] [])]) [3] 1 false (i6 a0s3):=(.fld rfl rfl rfl rfl (.nil rfl rfl rfl))
   refine vq (i6 a0s3) (ld_own (i:=⟨.int .i64,1,8,(.int .i64 0)⟩) rfl rfl rfl hl88) hl88.c (dn (dj (i6 (IntKind.i64.wrap (a0s3 - 1))) rfl (d_cons ?_)))
   obtain ⟨r89,hr90,h⟩:=bind_some h
   refine ca (impl_prime_spread_ok a0s0 a0s2 (IntKind.i64.wrap (a0s3 - 1)) r89 hr90) (dn (d_cons (vb (.own 1 [0] [0]) rfl rfl (dn (d_cons ?_)))))
   have hl91:LdOk [0] (.struct [1,1,1,1,1] [(i6 a0s0),(eSi64 a0s1),(eSi64 a0s2),(i6 a0s3),(.clo 72 [(i6 a0s4f0)] [])]) [0] 1 false (i6 a0s0):=(.fld rfl rfl rfl rfl (.nil rfl rfl rfl))
   refine vq (i6 a0s0) (ld_own (i:=⟨.int .i64,1,8,(.int .i64 0)⟩) rfl rfl rfl hl91) hl91.c (dn (d_cons (vb (.own 1 [4] [4]) rfl rfl (dn (d_cons ?_)))))
   have hl92:LdOk [4] (.struct [1,1,1,1,1] [(i6 a0s0),(eSi64 a0s1),(eSi64 a0s2),(i6 a0s3),(.clo 72 [(i6 a0s4f0)] [])]) [4] 1 false (.clo 72 [(i6 a0s4f0)] []):=(.fld rfl rfl rfl rfl (.nil rfl rfl rfl))
   refine vq (.clo 72 [(i6 a0s4f0)] []) (ld_own (i:=⟨.other,1,8,(.raw .nilFunc)⟩) rfl rfl rfl hl92) hl92.c (dn (d_cons (vb (.own 1 [3] [3]) rfl rfl (dn (d_cons ?_)))))
   have hl93:LdOk [3] (.struct [1,1,1,1,1] [(i6 a0s0),(eSi64 a0s1),(eSi64 a0s2),(i6 a0s3),(.clo 72 [(i6 a0s4f0)] [])]) [3] 1 false (i6 a0s3):=(.fld rfl rfl rfl rfl (.nil rfl rfl rfl))
   refine vq (i6 a0s3) (ld_own (i:=⟨.int .i64,1,8,(.int .i64 0)⟩) rfl rfl rfl hl93) hl93.c (dn (dj (i6 (IntKind.i64.wrap (a0s3 - 1))) rfl (d_cons ?_)))
   obtain ⟨r94,hr95,h⟩:=bind_some h
   refine ca (impl_prime_second_ok a0s4f0 (IntKind.i64.wrap (a0s3 - 1)) r94 hr95) (dn (d_cons ?_))
   obtain ⟨r96,hr97,h⟩:=bind_some h
   refine ca (impl_prime_productRow_ok a0s0 r94 r96 hr97) (dn (d_cons ?_))
   obtain ⟨r98,hr99,h⟩:=bind_some h
   refine ca (impl_prime_times_ok a0s0 r89 r96 r98 hr99) (dn (dj (eSi64 r98) rfl (dj (.bool true) rfl (d_nil (a_next rfl (a_ret ?_))))))
   refine ⟨.inr rfl,?_⟩
   rw [Tryz.results118]
   cases h
   exact ⟨_,_,_,_,_,rfl,trivial,.inl ⟨rfl,.inl rfl⟩,rfl,⟨_,_,_,_,_,rfl,trivial,.inl ⟨rfl,.inl rfl⟩,rfl,rfl⟩⟩
  ·have h:=ite_t hb69 h
   refine a_cond_t rfl (sr (vr (eSi64 ([])) (vr (.bool false) (nx _ rfl (a_ret (t_ret ?_))))))
   refine ⟨.inr rfl,?_⟩
   rw [Tryz.results118]
   cases h
   exact ⟨_,_,_,_,_,rfl,trivial,.inl ⟨rfl,.inl rfl⟩,rfl,⟨_,_,_,_,_,rfl,trivial,.inl ⟨rfl,.inl rfl⟩,rfl,rfl⟩⟩
 ·have h:=hy42
  refine sr (vb (.own 1 [4] [4]) rfl rfl ?_)
  have hl44:LdOk [4] (.struct [1,1,1,1,1] [(i6 a0s0),(eSi64 a0s1),(eSi64 a0s2),(i6 a0s3),(.clo 72 [(i6 a0s4f0)] [])]) [4] 1 false (.clo 72 [(i6 a0s4f0)] []):=(.fld rfl rfl rfl rfl (.nil rfl rfl rfl))
  refine vq (.clo 72 [(i6 a0s4f0)] []) (ld_own (i:=⟨.other,1,8,(.raw .nilFunc)⟩) rfl rfl rfl hl44) hl44.c (vb (.own 1 [3] [3]) rfl rfl ?_)
  have hl45:LdOk [3] (.struct [1,1,1,1,1] [(i6 a0s0),(eSi64 a0s1),(eSi64 a0s2),(i6 a0s3),(.clo 72 [(i6 a0s4f0)] [])]) [3] 1 false (i6 a0s3):=(.fld rfl rfl rfl rfl (.nil rfl rfl rfl))
  refine vq (i6 a0s3) (ld_own (i:=⟨.int .i64,1,8,(.int .i64 0)⟩) rfl rfl rfl hl45) hl45.c (vr (i6 (IntKind.i64.wrap (a0s3 - 1))) ?_)
  obtain ⟨r46,hr47,h⟩:=bind_some h
  refine ca (impl_prime_second_ok a0s4f0 (IntKind.i64.wrap (a0s3 - 1)) r46 hr47) (vq (i6 (r46.length:Int)) (len_run rfl rfl) trivial (vr (i6 0) (nk ⟨[(1,ow 1),(4,i6 (IntKind.i64.wrap (r9*r13))),(22,eSSi64 r46),(23,i6 (r46.length:Int)),(24,i6 0)],[(1,bk (.struct [1,1,1,1,1] [(i6 a0s0),(eSi64 a0s1),(eSi64 a0s2),(i6 a0s3),(.clo 72 [(i6 a0s4f0)] [])]))]⟩ (a_block ?_))))
  refine a_loop (emb:=fun (s:(Int×Int))=>⟨[(1,ow 1),(4,i6 s.1),(22,eSSi64 r46),(23,i6 (r46.length:Int)),(24,i6 s.2)],[(1,bk (.struct [1,1,1,1,1] [(i6 a0s0),(eSi64 a0s1),(eSi64 a0s2),(i6 a0s3),(.clo 72 [(i6 a0s4f0)] [])]))]⟩) (body:=(fun s:(Int×Int)=>impl_cut_bottom_of_s_impl_prime_second_l1 r46 s.1 s.2)) (G:=fun q=>some q=some y41) h rfl ?_ (by kernel_rfl)
  rintro X60 ⟨x53,x54⟩ x61 h hX62
  have h:impl_cut_bottom_of_s_impl_prime_second_l1 r46 x53 x54=some x61:=h
  refine ns ⟨[(1,ow 1),(4,i6 x53),(22,eSSi64 r46),(23,i6 (r46.length:Int)),(24,i6 x54)],[(1,bk (.struct [1,1,1,1,1] [(i6 a0s0),(eSi64 a0s1),(eSi64 a0s2),(i6 a0s3),(.clo 72 [(i6 a0s4f0)] [])]))]⟩ (sr (vr (.bool ((decide (x54 < (r46.length:Int))))) (nk ⟨[(1,ow 1),(4,i6 x53),(22,eSSi64 r46),(23,i6 (r46.length:Int)),(24,i6 x54),(25,.bool ((decide (x54 < (r46.length:Int)))))],[(1,bk (.struct [1,1,1,1,1] [(i6 a0s0),(eSi64 a0s1),(eSi64 a0s2),(i6 a0s3),(.clo 72 [(i6 a0s4f0)] [])]))]⟩ (a_seq ?_))))
  cases hb63:(decide (x54 < (r46.length:Int)))
  ·have h:=ite_f hb63 h
   refine a_cond_f rfl (a_exit (t_exit ?_))
   cases h
   have h:=hX62
   refine t_exit (b_exit ?_)
   exact jl x53 h
  ·have h:=ite_t hb63 h
   refine a_cond_t rfl (a_skip (nj ⟨[(1,ow 1),(4,i6 x53),(22,eSSi64 r46),(23,i6 (r46.length:Int)),(24,i6 x54)],[(1,bk (.struct [1,1,1,1,1] [(i6 a0s0),(eSi64 a0s1),(eSi64 a0s2),(i6 a0s3),(.clo 72 [(i6 a0s4f0)] [])]))]⟩ (a_seq (a_block (sr ?_)))))
   obtain ⟨hc64,h⟩:=ifp_some h
   refine vq (.ref (.row 1 (r46.map eSi64)) [x54.toNat] [x54.toNat*1]) rfl (lmap hc64) ?_
   have hl65:LdOk [x54.toNat] (.row 1 (r46.map eSi64)) [x54.toNat*1] 1 false (eSi64 (rd r46 x54.toNat)):=(.row (llt hc64) rfl (.nil rfl rfl rfl))
   refine vq (eSi64 (rd r46 x54.toNat)) (ld_ref (i:=⟨.slice 2,1,24,(eSi64 [])⟩) rfl rfl hl65) hl65.c (vr (eSi64 (rd r46 x54.toNat)) (nk ⟨[(1,ow 1),(4,i6 x53),(6,eSi64 (rd r46 x54.toNat)),(22,eSSi64 r46),(23,i6 (r46.length:Int)),(24,i6 x54)],[(1,bk (.struct [1,1,1,1,1] [(i6 a0s0),(eSi64 a0s1),(eSi64 a0s2),(i6 a0s3),(.clo 72 [(i6 a0s4f0)] [])]))]⟩ (a_region (vr (i6 x53) (vr (eSi64 (rd r46 x54.toNat)) ?_)))))
   obtain ⟨r66,hr67,h⟩:=bind_some h
   refine ca (impl_row_degree_ok (rd r46 x54.toNat) r66 hr67) (vr (i6 (IntKind.i64.wrap (x53 + r66))) (vr (i6 (IntKind.i64.wrap (x53 + r66))) (a_nil (b_norm (nj ⟨[(1,ow 1),(4,i6 (IntKind.i64.wrap (x53 + r66))),(22,eSSi64 r46),(23,i6 (r46.length:Int)),(24,i6 x54)],[(1,bk (.struct [1,1,1,1,1] [(i6 a0s0),(eSi64 a0s1),(eSi64 a0s2),(i6 a0s3),(.clo 72 [(i6 a0s4f0)] [])]))]⟩ (a_region (vr (i6 (IntKind.i64.wrap (x54 + 1))) (vr (i6 (IntKind.i64.wrap (x54 + 1))) (a_nil ?_)))))))))
   cases h
   exact ag hX62
def impl_cut_summand_of_s_impl_prime_second_L:Live:=[(0,[0,1]),(1,[1,2]),(2,[]),(3,[1,2]),(4,[1,2,6,7]),(5,[1,2,6,7,8]),(6,[]),(7,[1,2,6,7,8]),(8,[2,6,7,10]),(100014,[1,2,14]),(100063,[1,2,6,7,8,63])]
noncomputable def impl_cut_summand_of_s_impl_prime_second (a0s0:Int) (a0s1:(List Int)) (a0s2:(List Int)) (a0s3:Int) (a0s4f0:Int) (a1:Int):Option ((List Int)×Bool) :=
 (if ((a0s1.length:Int) == 0) then (some ([],true)) else (Option.bind (impl_prime_norm a0s0 a1 1099511627776) fun r11=>(Option.bind (impl_prime_norm a0s0 (IntKind.i64.wrap (a0s3 - 1)) 1099511627776) fun r15=>(Option.bind (impl_prime_second a0s4f0 (IntKind.i64.wrap (a0s3 - 1))) fun r37=>(Option.bind (impl_prime_productRow a0s0 r37) fun r39=>(Option.bind (impl_prime_second a0s4f0 a1) fun r43=>(Option.bind (impl_prime_productRow a0s0 r43) fun r45=>(Option.bind (impl_prime_divide a0s0 r39 r45) fun r47=>(Option.bind (impl_row_degree a0s1) fun r60=>(Option.bind (impl_row_degree a0s2) fun r63=>(letp (IntKind.i64.wrap ((IntKind.i64.wrap (r60*r11)) + (IntKind.i64.wrap (r63*(IntKind.i64.wrap (r15 - r11)))))) fun x65=>(Option.bind (impl_row_degree r47.1) fun r67=>(if (decide ((IntKind.i64.wrap (x65 + r67)) > 63)) then (some ([],false)) else (Option.bind (impl_prime_spread a0s0 a0s1 a1) fun r80=>(Option.bind (impl_prime_times a0s0 r80 r47.1) fun r82=>(Option.bind (impl_prime_raised a0s0 a0s2 (IntKind.i64.wrap (r15 - r11))) fun r94=>(Option.bind (impl_prime_times a0s0 r82 r94) fun r96=>(some (r96,true)))))))))))))))))))
theorem impl_cut_summand_of_s_impl_prime_second_ok (a0s0:Int) (a0s1:(List Int)) (a0s2:(List Int)) (a0s3:Int) (a0s4f0:Int) (a1:Int) (r:((List Int)×Bool)) (h:impl_cut_summand_of_s_impl_prime_second a0s0 a0s1 a0s2 a0s3 a0s4f0 a1=some r):Den Tryz.prog 119 [(.struct [1,1,1,1,1] [(i6 a0s0),(eSi64 a0s1),(eSi64 a0s2),(i6 a0s3),(.clo 72 [(i6 a0s4f0)] [])]),(i6 a1)] { r:=(.tuple [(eSi64 r.1),(.bool r.2)]) }:=by
 refine dd (rs:=[(eSi64 r.1),(.bool r.2)]) (L:=impl_cut_summand_of_s_impl_prime_second_L) good [(4,1),(8,1),(9,1),(10,1)] Tryz.func119 Tryz.ntmps119 ?_
 refine ns ⟨[(0,.struct [1,1,1,1,1] [(i6 a0s0),(eSi64 a0s1),(eSi64 a0s2),(i6 a0s3),(.clo 72 [(i6 a0s4f0)] [])]),(1,i6 a1)],[]⟩ ?_
 refine sr (vo 1200 (.struct [1,1,1,1,1] [(i6 a0s0),(eSi64 a0s1),(eSi64 a0s2),(i6 a0s3),(.clo 72 [(i6 a0s4f0)] [])]) rfl rfl (vr (eSi64 ([])) (vr (.bool false) (nk ⟨[(1,i6 a1),(2,ow 2)],[(2,bk (.struct [1,1,1,1,1] [(i6 a0s0),(eSi64 a0s1),(eSi64 a0s2),(i6 a0s3),(.clo 72 [(i6 a0s4f0)] [])]))]⟩ (a_seq (sr (vb (.own 2 [1] [1]) rfl rfl ?_)))))))
 have hl1:LdOk [1] (.struct [1,1,1,1,1] [(i6 a0s0),(eSi64 a0s1),(eSi64 a0s2),(i6 a0s3),(.clo 72 [(i6 a0s4f0)] [])]) [1] 1 false (eSi64 a0s1):=(.fld rfl rfl rfl rfl (.nil rfl rfl rfl))
 refine vq (eSi64 a0s1) (ld_own (i:=⟨.slice 2,1,24,(eSi64 [])⟩) rfl rfl rfl hl1) hl1.c (vq (i6 (a0s1.length:Int)) (len_run rfl rfl) trivial (vr (.bool (((a0s1.length:Int) == 0))) (nk ⟨[(1,i6 a1),(2,ow 2),(14,.bool (((a0s1.length:Int) == 0)))],[(2,bk (.struct [1,1,1,1,1] [(i6 a0s0),(eSi64 a0s1),(eSi64 a0s2),(i6 a0s3),(.clo 72 [(i6 a0s4f0)] [])]))]⟩ ?_)))
 cases hb2:((a0s1.length:Int) == 0)
 ·have h:=ite_f hb2 h
  refine a_cond_f rfl (a_skip (nj ⟨[(1,i6 a1),(2,ow 2)],[(2,bk (.struct [1,1,1,1,1] [(i6 a0s0),(eSi64 a0s1),(eSi64 a0s2),(i6 a0s3),(.clo 72 [(i6 a0s4f0)] [])]))]⟩ (a_seq (a_draw [⟨[2],[],[2],[]⟩,⟨[2],[],[],[0]⟩,⟨[],[],[],[]⟩,⟨[],[],[],[0,1,2]⟩,⟨[2],[],[2],[]⟩,⟨[2],[],[],[4]⟩,⟨[2],[],[2],[]⟩,⟨[2],[],[],[6]⟩,⟨[],[],[],[6,7]⟩,⟨[],[],[],[0,1,2,3,4,5,6,7,8]⟩,⟨[],[],[],[0,1,2,3,4,5,6,7,8,9]⟩,⟨[],[],[],[0,1,2,3,4,5,6,7,8,9,10]⟩] (by kernel_rfl) (d_cons (vb (.own 2 [0] [0]) rfl rfl (dn (d_cons ?_))))))))
  have hl10:LdOk [0] (.struct [1,1,1,1,1] [(i6 a0s0),(eSi64 a0s1),(eSi64 a0s2),(i6 a0s3),(.clo 72 [(i6 a0s4f0)] [])]) [0] 1 false (i6 a0s0):=(.fld rfl rfl rfl rfl (.nil rfl rfl rfl))
  refine vq (i6 a0s0) (ld_own (i:=⟨.int .i64,1,8,(.int .i64 0)⟩) rfl rfl rfl hl10) hl10.c (dn (dj (i6 a1) rfl (d_cons ?_)))
  obtain ⟨r11,hr12,h⟩:=bind_some h
  refine ca (impl_prime_norm_ok a0s0 a1 1099511627776 r11 hr12) (dn (d_cons (vb (.own 2 [0] [0]) rfl rfl (dn (d_cons ?_)))))
  have hl13:LdOk [0] (.struct [1,1,1,1,1] [(i6 a0s0),(eSi64 a0s1),(eSi64 a0s2),(i6 a0s3),(.clo 72 [(i6 a0s4f0)] [])]) [0] 1 false (i6 a0s0):=(.fld rfl rfl rfl rfl (.nil rfl rfl rfl))
  refine vq (i6 a0s0) (ld_own (i:=⟨.int .i64,1,8,(.int .i64 0)⟩) rfl rfl rfl hl13) hl13.c (dn (d_cons (vb (.own 2 [3] [3]) rfl rfl (dn (d_cons ?_)))))
  have hl14:LdOk [3] (.struct [1,1,1,1,1] [(i6 a0s0),(eSi64 a0s1),(eSi64 a0s2),(i6 a0s3),(.clo 72 [(i6 a0s4f0)] [])]) [3] 1 false (i6 a0s3):=(.fld rfl rfl rfl rfl (.nil rfl rfl rfl))
  refine vq (i6 a0s3) (ld_own (i:=⟨.int .i64,1,8,(.int .i64 0)⟩) rfl rfl rfl hl14) hl14.c (dn (dj (i6 (IntKind.i64.wrap (a0s3 - 1))) rfl (d_cons ?_)))
  obtain ⟨r15,hr16,h⟩:=bind_some h
  refine ca (impl_prime_norm_ok a0s0 (IntKind.i64.wrap (a0s3 - 1)) 1099511627776 r15 hr16) (dn (dj (i6 r11) rfl (dj (i6 r15) rfl (d_nil (nj ⟨[(1,i6 a1),(2,ow 2),(6,i6 r11),(7,i6 r15)],[(2,bk (.struct [1,1,1,1,1] [(i6 a0s0),(eSi64 a0s1),(eSi64 a0s2),(i6 a0s3),(.clo 72 [(i6 a0s4f0)] [])]))]⟩ (a_seq (a_draw [⟨[2],[],[2],[]⟩,⟨[2],[],[],[0]⟩,⟨[2],[],[2],[]⟩,⟨[2],[],[],[2]⟩,⟨[2],[],[2],[]⟩,⟨[2],[],[],[4]⟩,⟨[2],[],[2],[]⟩,⟨[2],[],[],[6]⟩,⟨[],[],[],[6,7]⟩,⟨[],[],[],[4,5,6,7,8]⟩,⟨[],[],[],[2,3,4,5,6,7,8,9]⟩,⟨[2],[],[2],[]⟩,⟨[2],[],[],[11]⟩,⟨[2],[],[2],[]⟩,⟨[2],[],[],[13]⟩,⟨[],[],[],[]⟩,⟨[],[],[],[2,3,4,5,6,7,8,9,10,13,14,15]⟩,⟨[],[],[],[2,3,4,5,6,7,8,9,10,11,12,13,14,15,16]⟩,⟨[],[],[],[0,1,2,3,4,5,6,7,8,9,10,11,12,13,14,15,16,17]⟩,⟨[],[],[],[0,1,2,3,4,5,6,7,8,9,10,11,12,13,14,15,16,17,18]⟩,⟨[],[],[],[0,1,2,3,4,5,6,7,8,9,10,11,12,13,14,15,16,17,18,19]⟩,⟨[],[],[],[0,1,2,3,4,5,6,7,8,9,10,11,12,13,14,15,16,17,18,19]⟩,⟨[],[],[],[0,1,2,3,4,5,6,7,8,9,10,11,12,13,14,15,16,17,18,19,20]⟩,⟨[],[],[],[0,1,2,3,4,5,6,7,8,9,10,11,12,13,14,15,16,17,18,19,20,21,22]⟩] (by kernel_rfl) (d_cons (vb (.own 2 [0] [0]) rfl rfl ?_)))))))))
  refine dn (d_cons ?_)
  have hl33:LdOk [0] (.struct [1,1,1,1,1] [(i6 a0s0),(eSi64 a0s1),(eSi64 a0s2),(i6 a0s3),(.clo 72 [(i6 a0s4f0)] [])]) [0] 1 false (i6 a0s0):=(.fld rfl rfl rfl rfl (.nil rfl rfl rfl))
  refine vq (i6 a0s0) (ld_own (i:=⟨.int .i64,1,8,(.int .i64 0)⟩) rfl rfl rfl hl33) hl33.c (dn (d_cons (vb (.own 2 [0] [0]) rfl rfl (dn (d_cons ?_)))))
  have hl34:LdOk [0] (.struct [1,1,1,1,1] [(i6 a0s0),(eSi64 a0s1),(eSi64 a0s2),(i6 a0s3),(.clo 72 [(i6 a0s4f0)] [])]) [0] 1 false (i6 a0s0):=(.fld rfl rfl rfl rfl (.nil rfl rfl rfl))
  refine vq (i6 a0s0) (ld_own (i:=⟨.int .i64,1,8,(.int .i64 0)⟩) rfl rfl rfl hl34) hl34.c (dn (d_cons (vb (.own 2 [4] [4]) rfl rfl (dn (d_cons ?_)))))
  have hl35:LdOk [4] (.struct [1,1,1,1,1] [(i6 a0s0),(eSi64 a0s1),(eSi64 a0s2),(i6 a0s3),(.clo 72 [(i6 a0s4f0)] [])]) [4] 1 false (.clo 72 [(i6 a0s4f0)] []):=(.fld rfl rfl rfl rfl (.nil rfl rfl rfl))
  refine vq (.clo 72 [(i6 a0s4f0)] []) (ld_own (i:=⟨.other,1,8,(.raw .nilFunc)⟩) rfl rfl rfl hl35) hl35.c (dn (d_cons (vb (.own 2 [3] [3]) rfl rfl (dn (d_cons ?_)))))
  have hl36:LdOk [3] (.struct [1,1,1,1,1] [(i6 a0s0),(eSi64 a0s1),(eSi64 a0s2),(i6 a0s3),(.clo 72 [(i6 a0s4f0)] [])]) [3] 1 false (i6 a0s3):=(.fld rfl rfl rfl rfl (.nil rfl rfl rfl))
  refine vq (i6 a0s3) (ld_own (i:=⟨.int .i64,1,8,(.int .i64 0)⟩) rfl rfl rfl hl36) hl36.c (dn (dj (i6 (IntKind.i64.wrap (a0s3 - 1))) rfl (d_cons ?_)))
  obtain ⟨r37,hr38,h⟩:=bind_some h
  refine ca (impl_prime_second_ok a0s4f0 (IntKind.i64.wrap (a0s3 - 1)) r37 hr38) (dn (d_cons ?_))
  obtain ⟨r39,hr40,h⟩:=bind_some h
  refine ca (impl_prime_productRow_ok a0s0 r37 r39 hr40) (dn (d_cons (vb (.own 2 [0] [0]) rfl rfl (dn (d_cons ?_)))))
  have hl41:LdOk [0] (.struct [1,1,1,1,1] [(i6 a0s0),(eSi64 a0s1),(eSi64 a0s2),(i6 a0s3),(.clo 72 [(i6 a0s4f0)] [])]) [0] 1 false (i6 a0s0):=(.fld rfl rfl rfl rfl (.nil rfl rfl rfl))
  refine vq (i6 a0s0) (ld_own (i:=⟨.int .i64,1,8,(.int .i64 0)⟩) rfl rfl rfl hl41) hl41.c (dn (d_cons (vb (.own 2 [4] [4]) rfl rfl (dn (d_cons ?_)))))
  have hl42:LdOk [4] (.struct [1,1,1,1,1] [(i6 a0s0),(eSi64 a0s1),(eSi64 a0s2),(i6 a0s3),(.clo 72 [(i6 a0s4f0)] [])]) [4] 1 false (.clo 72 [(i6 a0s4f0)] []):=(.fld rfl rfl rfl rfl (.nil rfl rfl rfl))
  refine vq (.clo 72 [(i6 a0s4f0)] []) (ld_own (i:=⟨.other,1,8,(.raw .nilFunc)⟩) rfl rfl rfl hl42) hl42.c (dn (dj (i6 a1) rfl (d_cons ?_)))
  obtain ⟨r43,hr44,h⟩:=bind_some h
  refine ca (impl_prime_second_ok a0s4f0 a1 r43 hr44) (dn (d_cons ?_))
  obtain ⟨r45,hr46,h⟩:=bind_some h
  refine ca (impl_prime_productRow_ok a0s0 r43 r45 hr46) (dn (d_cons ?_))
  obtain ⟨r47,hr48,h⟩:=bind_some h
  refine ca (impl_prime_divide_ok a0s0 r39 r45 r47 hr48) (dn (dj (.tuple [(eSi64 r47.1),(eSi64 r47.2)]) rfl (d_cons (vb (eSi64 r47.1) rfl rfl (dn (d_cons (vb (eSi64 r47.2) rfl rfl (dn (dj (eSi64 r47.1) rfl ?_)))))))))
  refine dj (eSi64 r47.2) rfl (d_nil (nj ⟨[(1,i6 a1),(2,ow 2),(6,i6 r11),(7,i6 r15),(8,eSi64 r47.1)],[(2,bk (.struct [1,1,1,1,1] [(i6 a0s0),(eSi64 a0s1),(eSi64 a0s2),(i6 a0s3),(.clo 72 [(i6 a0s4f0)] [])]))]⟩ (a_seq (a_seq (a_draw [⟨[2],[],[2],[]⟩,⟨[2],[],[],[0]⟩,⟨[],[],[],[0,1]⟩,⟨[],[],[],[]⟩,⟨[],[],[],[0,1,2,3]⟩,⟨[2],[],[2],[]⟩,⟨[2],[],[],[5]⟩,⟨[],[],[],[0,1,2,5,6]⟩,⟨[],[],[],[]⟩,⟨[],[],[],[]⟩,⟨[],[],[],[8,9]⟩,⟨[],[],[],[0,1,2,5,6,7,8,9,10]⟩,⟨[],[],[],[0,1,2,3,4,5,6,7,8,9,10,11]⟩,⟨[],[],[],[]⟩,⟨[],[],[],[0,1,2,5,6,7,13]⟩,⟨[],[],[],[0,1,2,3,4,5,6,7,8,9,10,11,12,13,14]⟩,⟨[],[],[],[0,1,2,3,4,5,6,7,8,9,10,11,12,13,14,15]⟩] (by kernel_rfl) (d_cons (vb (.own 2 [1] [1]) rfl rfl (dn (d_cons ?_)))))))))
  have hl59:LdOk [1] (.struct [1,1,1,1,1] [(i6 a0s0),(eSi64 a0s1),(eSi64 a0s2),(i6 a0s3),(.clo 72 [(i6 a0s4f0)] [])]) [1] 1 false (eSi64 a0s1):=(.fld rfl rfl rfl rfl (.nil rfl rfl rfl))
  refine vq (eSi64 a0s1) (ld_own (i:=⟨.slice 2,1,24,(eSi64 [])⟩) rfl rfl rfl hl59) hl59.c (dn (d_cons ?_))
  obtain ⟨r60,hr61,h⟩:=bind_some h
  refine ca (impl_row_degree_ok a0s1 r60 hr61) (dn (dj (i6 r11) rfl (dj (i6 (IntKind.i64.wrap (r60*r11))) rfl (d_cons (vb (.own 2 [2] [2]) rfl rfl (dn (d_cons ?_)))))))
  have hl62:LdOk [2] (.struct [1,1,1,1,1] [(i6 a0s0),(eSi64 a0s1),(eSi64 a0s2),(i6 a0s3),(.clo 72 [(i6 a0s4f0)] [])]) [2] 1 false (eSi64 a0s2):=(.fld rfl rfl rfl rfl (.nil rfl rfl rfl))
  refine vq (eSi64 a0s2) (ld_own (i:=⟨.slice 2,1,24,(eSi64 [])⟩) rfl rfl rfl hl62) hl62.c (dn (d_cons ?_))
  obtain ⟨r63,hr64,h⟩:=bind_some h
  refine ca (impl_row_degree_ok a0s2 r63 hr64) (dn (dj (i6 r15) rfl (dj (i6 r11) rfl (dj (i6 (IntKind.i64.wrap (r15 - r11))) rfl (dj (i6 (IntKind.i64.wrap (r63*(IntKind.i64.wrap (r15 - r11))))) rfl (d_cons ?_))))))
  obtain ⟨x65,hx66,h⟩:=letp_some h
  refine a_val' (v:=(i6 (IntKind.i64.wrap ((IntKind.i64.wrap (r60*r11)) + (IntKind.i64.wrap (r63*(IntKind.i64.wrap (r15 - r11)))))))) (v':=(i6 x65)) (u:=[]) (u':=[]) rfl (congrArg (fun z=>((i6 z):AV)) hx66) rfl trivial rfl (dn (dj (eSi64 r47.1) rfl (d_cons ?_)))
  obtain ⟨r67,hr68,h⟩:=bind_some h
  refine ca (impl_row_degree_ok r47.1 r67 hr68) (dn (dj (i6 (IntKind.i64.wrap (x65 + r67))) rfl (dj (.bool ((decide ((IntKind.i64.wrap (x65 + r67)) > 63)))) rfl (d_nil (nj ⟨[(1,i6 a1),(2,ow 2),(6,i6 r11),(7,i6 r15),(8,eSi64 r47.1),(63,.bool ((decide ((IntKind.i64.wrap (x65 + r67)) > 63))))],[(2,bk (.struct [1,1,1,1,1] [(i6 a0s0),(eSi64 a0s1),(eSi64 a0s2),(i6 a0s3),(.clo 72 [(i6 a0s4f0)] [])]))]⟩ ?_)))))
  cases hb69:(decide ((IntKind.i64.wrap (x65 + r67)) > 63))
  ·have h:=ite_f hb69 h
   refine a_cond_f rfl (a_skip (nj ⟨[(1,i6 a1),(2,ow 2),(6,i6 r11),(7,i6 r15),(8,eSi64 r47.1)],[(2,bk (.struct [1,1,1,1,1] [(i6 a0s0),(eSi64 a0s1),(eSi64 a0s2),(i6 a0s3),(.clo 72 [(i6 a0s4f0)] [])]))]⟩ (a_seq (a_draw [⟨[2],[],[2],[]⟩,⟨[2],[],[],[0]⟩,⟨[2],[],[2],[]⟩,⟨[2],[],[],[2]⟩,⟨[2],[],[2],[]⟩,⟨[2],[],[],[4]⟩,⟨[],[],[],[]⟩,⟨[],[],[],[2,3,4,5,6]⟩,⟨[],[],[],[]⟩,⟨[],[],[],[0,1,2,3,4,5,6,7,8]⟩,⟨[],[],[],[0,1,2,3,4,5,6,7,8,9]⟩] (by kernel_rfl) (d_cons (vb (.own 2 [0] [0]) rfl rfl (dn (d_cons ?_))))))))
   have hl77:LdOk [0] (.struct [1,1,1,1,1] [(i6 a0s0),(eSi64 a0s1),(eSi64 a0s2),(i6 a0s3),(.clo 72 [(i6 a0s4f0)] [])]) [0] 1 false (i6 a0s0):=(.fld rfl rfl rfl rfl (.nil rfl rfl rfl))
   refine vq (i6 a0s0) (ld_own (i:=⟨.int .i64,1,8,(.int .i64 0)⟩) rfl rfl rfl hl77) hl77.c (dn (d_cons (vb (.own 2 [0] [0]) rfl rfl (dn (d_cons ?_)))))
   have hl78:LdOk [0] (.struct [1,1,1,1,1] [(i6 a0s0),(eSi64 a0s1),(eSi64 a0s2),(i6 a0s3),(.clo 72 [(i6 a0s4f0)] [])]) [0] 1 false (i6 a0s0):=(.fld rfl rfl rfl rfl (.nil rfl rfl rfl))
   refine vq (i6 a0s0) (ld_own (i:=⟨.int .i64,1,8,(.int .i64 0)⟩) rfl rfl rfl hl78) hl78.c (dn (d_cons (vb (.own 2 [1] [1]) rfl rfl (dn (d_cons ?_)))))
   have hl79:LdOk [1] (.struct [1,1,1,1,1] [(i6 a0s0),(eSi64 a0s1),(eSi64 a0s2),(i6 a0s3),(.clo 72 [(i6 a0s4f0)] [])]) [1] 1 false (eSi64 a0s1):=(.fld rfl rfl rfl rfl (.nil rfl rfl rfl))
   refine vq (eSi64 a0s1) (ld_own (i:=⟨.slice 2,1,24,(eSi64 [])⟩) rfl rfl rfl hl79) hl79.c (dn (dj (i6 a1) rfl (d_cons ?_)))
   obtain ⟨r80,hr81,h⟩:=bind_some h
   refine ca (impl_prime_spread_ok a0s0 a0s1 a1 r80 hr81) (dn (dj (eSi64 r47.1) rfl (d_cons ?_)))
   obtain ⟨r82,hr83,h⟩:=bind_some h
   refine ca (impl_prime_times_ok a0s0 r80 r47.1 r82 hr83) (dn (dj (eSi64 r82) rfl (d_nil (nj ⟨[(2,ow 2),(6,i6 r11),(7,i6 r15),(10,eSi64 r82)],[(2,bk (.struct [1,1,1,1,1] [(i6 a0s0),(eSi64 a0s1),(eSi64 a0s2),(i6 a0s3),(.clo 72 [(i6 a0s4f0)] [])]))]⟩ (a_seq (a_draw [⟨[2],[],[2],[]⟩,⟨[2],[],[],[0]⟩,⟨[],[],[],[]⟩,⟨[2],[],[2],[]⟩,⟨[2],[],[],[3]⟩,⟨[2],[],[2],[]⟩,⟨[2],[],[],[5]⟩,⟨[],[],[],[]⟩,⟨[],[],[],[]⟩,⟨[],[],[],[7,8]⟩,⟨[],[],[],[3,4,5,6,7,8,9]⟩,⟨[],[],[],[0,1,2,3,4,5,6,7,8,9,10]⟩,⟨[],[],[],[0,1,2,3,4,5,6,7,8,9,10,11]⟩,⟨[],[],[],[0,1,2,3,4,5,6,7,8,9,10,11,12]⟩] (by kernel_rfl) (d_cons (vb (.own 2 [0] [0]) rfl rfl (dn ?_)))))))))
   refine d_cons ?_
   have hl91:LdOk [0] (.struct [1,1,1,1,1] [(i6 a0s0),(eSi64 a0s1),(eSi64 a0s2),(i6 a0s3),(.clo 72 [(i6 a0s4f0)] [])]) [0] 1 false (i6 a0s0):=(.fld rfl rfl rfl rfl (.nil rfl rfl rfl))
   refine vq (i6 a0s0) (ld_own (i:=⟨.int .i64,1,8,(.int .i64 0)⟩) rfl rfl rfl hl91) hl91.c (dn (dj (eSi64 r82) rfl (d_cons (vb (.own 2 [0] [0]) rfl rfl (dn (d_cons ?_))))))
   have hl92:LdOk [0] (.struct [1,1,1,1,1] [(i6 a0s0),(eSi64 a0s1),(eSi64 a0s2),(i6 a0s3),(.clo 72 [(i6 a0s4f0)] [])]) [0] 1 false (i6 a0s0):=(.fld rfl rfl rfl rfl (.nil rfl rfl rfl))
   refine vq (i6 a0s0) (ld_own (i:=⟨.int .i64,1,8,(.int .i64 0)⟩) rfl rfl rfl hl92) hl92.c (dn (d_cons (vb (.own 2 [2] [2]) rfl rfl (dn (d_cons ?_)))))
   have hl93:LdOk [2] (.struct [1,1,1,1,1] [(i6 a0s0),(eSi64 a0s1),(eSi64 a0s2),(i6 a0s3),(.clo 72 [(i6 a0s4f0)] [])]) [2] 1 false (eSi64 a0s2):=(.fld rfl rfl rfl rfl (.nil rfl rfl rfl))
   refine vq (eSi64 a0s2) (ld_own (i:=⟨.slice 2,1,24,(eSi64 [])⟩) rfl rfl rfl hl93) hl93.c (dn (dj (i6 r15) rfl (dj (i6 r11) rfl (dj (i6 (IntKind.i64.wrap (r15 - r11))) rfl (d_cons ?_)))))
   obtain ⟨r94,hr95,h⟩:=bind_some h
   refine ca (impl_prime_raised_ok a0s0 a0s2 (IntKind.i64.wrap (r15 - r11)) r94 hr95) (dn (d_cons ?_))
   obtain ⟨r96,hr97,h⟩:=bind_some h
   refine ca (impl_prime_times_ok a0s0 r82 r94 r96 hr97) (dn (dj (eSi64 r96) rfl (dj (.bool true) rfl (d_nil (a_next rfl (a_ret ?_))))))
   refine ⟨.inr rfl,?_⟩
   rw [Tryz.results119]
   cases h
   exact ⟨_,_,_,_,_,rfl,trivial,.inl ⟨rfl,.inl rfl⟩,rfl,⟨_,_,_,_,_,rfl,trivial,.inl ⟨rfl,.inl rfl⟩,rfl,rfl⟩⟩
  ·have h:=ite_t hb69 h
   refine a_cond_t rfl (sr (vr (eSi64 ([])) (vr (.bool false) (nx _ rfl (a_ret (t_ret ?_))))))
   refine ⟨.inr rfl,?_⟩
   rw [Tryz.results119]
   cases h
   exact ⟨_,_,_,_,_,rfl,trivial,.inl ⟨rfl,.inl rfl⟩,rfl,⟨_,_,_,_,_,rfl,trivial,.inl ⟨rfl,.inl rfl⟩,rfl,rfl⟩⟩
 ·have h:=ite_t hb2 h
  refine a_cond_t rfl (sr (vr (eSi64 ([])) (vr (.bool true) (nx _ rfl (a_ret (t_ret ?_))))))
  refine ⟨.inr rfl,?_⟩
  rw [Tryz.results119]
  cases h
  exact ⟨_,_,_,_,_,rfl,trivial,.inl ⟨rfl,.inl rfl⟩,rfl,⟨_,_,_,_,_,rfl,trivial,.inl ⟨rfl,.inl rfl⟩,rfl,rfl⟩⟩
end Go.Proofs.YtkbnegemdlnncaaGreat
