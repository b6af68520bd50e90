/- Functions of the program: plain Lean functions, and that the program computes them. Printed by gen.py. -/
import Derived.Test.YtebfhlnfmkhmcaaGreatFnT
import Derived.Test.YtebfhlnfmkhmcaaGreatFn4
import Derived.Test.YtebfhlnfmkhmcaaGreatFn5
namespace Go.Proofs.YtebfhlnfmkhmcaaGreat
open Go.Abs Go.Proofs
set_option linter.unusedSimpArgs false
set_option linter.unusedVariables false
set_option maxHeartbeats 16000000
attribute [local irreducible] Abs.acode Abs.aops Abs.aopsT Abs.thenK Abs.blockK

def zjo:Live:=[(0,[0,1]),(1,[0,3]),(2,[0,3,5]),(3,[]),(4,[0,3,5]),(5,[0,5,6]),(100032,[0,3,5,32])]
noncomputable def kW (a0:Int) (a1:(Vec Int 64)):Option Bool :=
 (Option.bind (mZ a1) fun r2=>(Option.bind (α:=Bool) ((Option.bind (zhc a0 a1) fun r22=>(if (!r22) then (some true) else (if (a0 == 2) then (some true) else (Option.bind (xF r2) fun r26=>(if (r26 != 1) then (Option.bind (xF r2) fun r29=>(if (r29 != 3) then (Option.bind (xF r2) fun r32=>(some (r32 != 5))) else (some false))) else (some false))))))) fun x17=>(if x17 then (some false) else (Option.bind (zb5 a0 a1) fun r36=>(Option.bind (mZ r36.1) fun r40=>(Option.bind (zgo a0 r2 r40) fun r42=>(Option.bind (zbe r42) fun r44=>(some r44))))))))
theorem za2 (a0:Int) (a1:(Vec Int 64)) (r:Bool) (h:kW a0 a1=some r):Den Tryz.prog 25 [(i6 a0),(zJ a1)] { r:=(.bool r) }:=by
 refine dd (rs:=[(.bool r)]) (L:=zjo) xL [(5,1)] Tryz.func25 Tryz.ntmps25 ?_
 refine ns ⟨[(0,i6 a0),(1,zJ a1)],[]⟩ ?_
 refine sr (vo 1300 (zJ a1) rfl rfl (vr (.bool false) (nk ⟨[(0,i6 a0),(3,ow 3)],[(3,bk (zJ a1))]⟩ (sr (vl (zJ a1) rfl rfl rfl rfl rfl rfl ?_)))))
 obtain ⟨r2,hr3,h⟩:=bind_some h
 refine ca (zdb a1 r2 hr3) (vr (zI r2) (nk ⟨[(0,i6 a0),(3,ow 3),(5,zI r2)],[(3,bk (zJ a1))]⟩ (yC ?_)))
 obtain ⟨y18,hy19,hk20⟩:=bind_some h
 clear h
 refine yN (emb:=fun (s:Bool)=>⟨[(0,i6 a0),(3,ow 3),(5,zI r2),(32,.bool s)],[(3,bk (zJ a1))]⟩) (kG:=fun s=>s=y18) ?_ ?_
 ·rintro x17 rfl
  have h:=hk20
  refine ns ⟨[(0,i6 a0),(3,ow 3),(5,zI r2),(32,.bool x17)],[(3,bk (zJ a1))]⟩ ?_
  cases hb34:x17
  ·have h:=zW hb34 h
   refine zP rfl (yG (nj ⟨[(0,i6 a0),(3,ow 3),(5,zI r2)],[(3,bk (zJ a1))]⟩ (sr (vr (i6 a0) (vl (zJ a1) rfl rfl rfl rfl rfl rfl ?_)))))
   obtain ⟨r36,hr37,h⟩:=bind_some h
   refine ca (zj8 a0 a1 r36 hr37) (vr (.tuple [(zJ r36.1),(i6 r36.2)]) (vb (zJ r36.1) rfl rfl (vb (i6 r36.2) rfl rfl (vo 1600 (yF) rfl rfl (vs (zJ r36.1) rfl rfl (fun _=>rfl) rfl rfl rfl rfl rfl rfl (vr (i6 r36.2) (nk ⟨[(0,i6 a0),(5,zI r2),(6,ow 6)],[(6,bk (zJ r36.1))]⟩ (sr (vr (i6 a0) ?_)))))))))
   refine vr (zI r2) (vl (zJ r36.1) rfl rfl rfl rfl rfl rfl ?_)
   obtain ⟨r40,hr41,h⟩:=bind_some h
   refine ca (zdb r36.1 r40 hr41) ?_
   obtain ⟨r42,hr43,h⟩:=bind_some h
   refine ca (zne a0 r2 r40 r42 hr43) ?_
   obtain ⟨r44,hr45,h⟩:=bind_some h
   refine ca (zbq r42 r44 hr45) (vr (.bool r44) (nx _ rfl (zU ?_)))
   refine ⟨.inr rfl,?_⟩
   rw [Tryz.results25]
   cases h
   exact ⟨_,_,_,_,_,rfl,trivial,.inl ⟨rfl,.inl rfl⟩,rfl,rfl⟩
  ·have h:=zV hb34 h
   refine zO rfl (sr (vr (.bool false) (nx _ rfl (zU (xV ?_)))))
   refine ⟨.inr rfl,?_⟩
   rw [Tryz.results25]
   cases h
   exact ⟨_,_,_,_,_,rfl,trivial,.inl ⟨rfl,.inl rfl⟩,rfl,rfl⟩
 ·have h:=hy19
  refine zR (vr (i6 a0) (vl (zJ a1) rfl rfl rfl rfl rfl rfl ?_))
  obtain ⟨r22,hr23,h⟩:=bind_some h
  refine ca (zqw a0 a1 r22 hr23) (vr (.bool (!r22)) (vr (.bool (!r22)) ?_))
  cases hb24:(!r22)
  ·have h:=zW hb24 h
   refine gp (i6 a0) rfl rfl (gp (.bool (a0 == 2)) rfl rfl (vr (.bool (a0 == 2)) (vr (.bool (a0 == 2)) ?_)))
   cases hb25:(a0 == 2)
   ·have h:=zW hb25 h
    refine gp (zI r2) rfl rfl ?_
    obtain ⟨r26,hr27,h⟩:=bind_some h
    refine wQ rfl (args:=[(zI r2)]) (u:=[]) (r:=(i6 r26)) rfl rfl (qA r2 r26 hr27) rfl (gp (.bool (r26 != 1)) rfl rfl (gp (.bool (r26 != 1)) rfl rfl ?_))
    cases hb28:(r26 != 1)
    ·have h:=zW hb28 h
     refine zD rfl (zD rfl (zD rfl (gp (.bool false) rfl rfl (gp (.bool false) rfl rfl (zD rfl (zD rfl (zD rfl (gp (.bool false) rfl rfl (vr (.bool false) ?_)))))))))
     refine yJ ?_
     exact jl false h
    ·have h:=zV hb28 h
     refine gp (zI r2) rfl rfl ?_
     obtain ⟨r29,hr30,h⟩:=bind_some h
     refine wQ rfl (args:=[(zI r2)]) (u:=[]) (r:=(i6 r29)) rfl rfl (qA r2 r29 hr30) rfl (gp (.bool (r29 != 3)) rfl rfl (gp (.bool (r29 != 3)) rfl rfl (gp (.bool (r29 != 3)) rfl rfl ?_)))
     cases hb31:(r29 != 3)
     ·have h:=zW hb31 h
      refine zD rfl (zD rfl (zD rfl (gp (.bool false) rfl rfl (vr (.bool false) (yJ ?_)))))
      exact jl false h
     ·have h:=zV hb31 h
      refine gp (zI r2) rfl rfl ?_
      obtain ⟨r32,hr33,h⟩:=bind_some h
      refine wQ rfl (args:=[(zI r2)]) (u:=[]) (r:=(i6 r32)) rfl rfl (qA r2 r32 hr33) rfl (gp (.bool (r32 != 5)) rfl rfl (gp (.bool (r32 != 5)) rfl rfl (vr (.bool (r32 != 5)) (yJ ?_))))
      exact jl (r32 != 5) h
   ·have h:=zV hb25 h
    refine zD rfl (zD rfl (zD rfl (zD rfl (nN rfl (nN rfl (nN rfl (zD rfl (zD rfl (nN rfl ?_)))))))))
    refine nN rfl (nN rfl (zD rfl (vr (.bool true) (yJ ?_))))
    exact jl true h
  ·have h:=zV hb24 h
   refine zD rfl (zD rfl (vr (.bool true) (vr (.bool true) (zD rfl (zD rfl (zD rfl (zD rfl (nN rfl (nN rfl ?_)))))))))
   refine nN rfl (zD rfl (zD rfl (nN rfl (nN rfl (nN rfl (zD rfl (vr (.bool true) (yJ ?_))))))))
   exact jl true h
def zp8:Live:=[(0,[0,1]),(1,[0,3,4])]
noncomputable def uT (a0:Int) (a1:(Vec Int 64)):Option (Int×(List Int)) :=
 (Option.bind (mZ a1) fun r2=>(some (a0,r2)))
theorem kY (a0:Int) (a1:(Vec Int 64)) (r:(Int×(List Int))) (h:uT a0 a1=some r):Den Tryz.prog 32 [(i6 a0),(zJ a1)] { r:=(zK r) }:=by
 refine dd (rs:=[(zK r)]) (L:=zp8) xL [] Tryz.func32 Tryz.ntmps32 ?_
 refine ns ⟨[(0,i6 a0),(1,zJ a1)],[]⟩ ?_
 refine sr (vo 1300 (zJ a1) rfl rfl (vo 1400 (zK (((0:Int),[]))) rfl rfl (nk ⟨[(0,i6 a0),(3,ow 3),(4,ow 4)],[(3,bk (zJ a1)),(4,bk (zK (((0:Int),[]))))]⟩ (sr (vr (i6 a0) (vl (zJ a1) rfl rfl rfl rfl rfl rfl ?_))))))
 obtain ⟨r2,hr3,h⟩:=bind_some h
 refine ca (zdb a1 r2 hr3) (vq (zK (a0,r2)) rfl ⟨rfl,(all_cons ⟨(yS rfl),rfl⟩ (all_cons ⟨(yS rfl),rfl⟩ all_nil))⟩ (vs (zK (a0,r2)) rfl rfl (fun _=>rfl) rfl rfl rfl rfl rfl rfl (nx _ rfl (zU ?_))))
 have hl5:LdOk [] (zK (a0,r2)) [] 2 true (zK (a0,r2)):=(.nil rfl rfl rfl)
 refine ⟨.inr rfl,?_⟩
 rw [Tryz.results32]
 cases h
 exact ⟨_,_,_,_,_,zM (i:=⟨.struct [(0,55),(1,52)],2,32,(zK ((0:Int),[]))⟩) rfl rfl rfl hl5,hl5.c,.inl ⟨rfl,.inl rfl⟩,rfl,rfl⟩
def zrc:Live:=[(0,[0]),(1,[1,2])]
noncomputable def vP (a0:((Vec Int 64)×(Vec Int 64))):Option ((List Int)×(List Int)) :=
 (Option.bind (mZ a0.1) fun r9=>(Option.bind (mZ a0.2) fun r12=>(some (r9,r12))))
theorem jS (a0:((Vec Int 64)×(Vec Int 64))) (r:((List Int)×(List Int))) (h:vP a0=some r):Den Tryz.prog 34 [(zA a0)] { r:=(zC r) }:=by
 refine dd (rs:=[(zC r)]) (L:=zrc) xL [] Tryz.func34 Tryz.ntmps34 ?_
 refine ns ⟨[(0,zA a0)],[]⟩ ?_
 refine sr (vo 1100 (zA a0) rfl rfl (vo 1200 (zC ([],[])) rfl rfl (nk ⟨[(1,ow 1),(2,ow 2)],[(1,bk (zA a0)),(2,bk (zC ([],[])))]⟩ (yC (xH [⟨[1],[],[1],[]⟩,⟨[1],[],[],[0]⟩,⟨[],[],[],[0,1]⟩,⟨[1],[],[1],[]⟩,⟨[1],[],[],[3]⟩,⟨[],[],[],[0,1,2,3,4]⟩,⟨[],[],[],[0,1,2,3,4,5]⟩,⟨[2],[2],[],[0,1,2,3,4,5,6]⟩] (by kernel_rfl) (zH (vb (.own 1 [0] [0]) rfl rfl (dn (zH ?_)))))))))
 have hl8:LdOk [0] (zA a0) [0] 64 true (zJ a0.1):=(.fld rfl rfl rfl rfl (.nil rfl rfl rfl))
 refine vq (zJ a0.1) (zM (i:=⟨.arr 64 5,64,64,(zJ (yH 64 (0:Int)))⟩) rfl rfl rfl hl8) hl8.c (dn (zH ?_))
 obtain ⟨r9,hr10,h⟩:=bind_some h
 refine ca (zdb a0.1 r9 hr10) (dn (zH (vb (.own 1 [1] [64]) rfl rfl (dn (zH ?_)))))
 have hl11:LdOk [1] (zA a0) [64] 64 true (zJ a0.2):=(.fld rfl rfl rfl rfl (.nil rfl rfl rfl))
 refine vq (zJ a0.2) (zM (i:=⟨.arr 64 5,64,64,(zJ (yH 64 (0:Int)))⟩) rfl rfl rfl hl11) hl11.c (dn (zH ?_))
 obtain ⟨r12,hr13,h⟩:=bind_some h
 refine ca (zdb a0.2 r12 hr13) (dn (zH (vq (zC (r9,r12)) rfl ⟨rfl,(all_cons ⟨(yS rfl),rfl⟩ (all_cons ⟨(yS rfl),rfl⟩ all_nil))⟩ (dn (zH (vs (zC (r9,r12)) rfl rfl (fun _=>rfl) rfl rfl rfl rfl rfl rfl (dn (xE (wC rfl ?_)))))))))
 refine zU ?_
 have hl15:LdOk [] (zC (r9,r12)) [] 2 true (zC (r9,r12)):=(.nil rfl rfl rfl)
 refine ⟨.inr rfl,?_⟩
 rw [Tryz.results34]
 cases h
 exact ⟨_,_,_,_,_,zM (i:=⟨.struct [(0,52),(1,52)],2,48,(zC ([],[]))⟩) rfl rfl rfl hl15,hl15.c,.inl ⟨rfl,.inl rfl⟩,rfl,rfl⟩
def zm8:Live:=[(0,[0,1,2]),(1,[0,1,2]),(2,[8])]
noncomputable def kI (a0:Int) (a1:(List Int)) (a2:(List Int)):Option (List Int) :=
 (Option.bind (uU a0 a1 a2) fun r1=>(some r1.2))
theorem zbh (a0:Int) (a1:(List Int)) (a2:(List Int)) (r:(List Int)) (h:kI a0 a1 a2=some r):Den Tryz.prog 78 [(i6 a0),(zI a1),(zI a2)] { r:=(zI r) }:=by
 refine dd (rs:=[(zI r)]) (L:=zm8) xL [(6,1),(7,1),(8,1)] Tryz.func78 Tryz.ntmps78 ?_
 refine ns ⟨[(0,i6 a0),(1,zI a1),(2,zI a2)],[]⟩ ?_
 refine sr (vr (zI ([])) (nk ⟨[(0,i6 a0),(1,zI a1),(2,zI a2)],[]⟩ (sr (vr (i6 a0) (vr (zI a1) (vr (zI a2) ?_))))))
 obtain ⟨r1,hr2,h⟩:=bind_some h
 refine ca (jQ a0 a1 a2 r1 hr2) (vr (.tuple [(zI r1.1),(zI r1.2)]) (vb (zI r1.1) rfl rfl (vb (zI r1.2) rfl rfl (vr (zI r1.1) (vr (zI r1.2) (nk ⟨[(8,zI r1.2)],[]⟩ (sr (vr (zI r1.2) (vr (zI r1.2) ?_)))))))))
 refine nx _ rfl (zU ?_)
 refine ⟨.inr rfl,?_⟩
 rw [Tryz.results78]
 cases h
 exact ⟨_,_,_,_,_,rfl,trivial,.inl ⟨rfl,.inl rfl⟩,rfl,rfl⟩
def zla:Live:=[(0,[0,1]),(1,[2,3])]
noncomputable def uQ (a0:(Int×(List Int))) (a1:((List Int)×(List Int))):Option Bool :=
 (Option.bind (jP a1.1) fun r51=>(if (r51 == 1) then (Option.bind (xF a1.1) fun r60=>(if (decide (r60≤12)) then (Option.bind (xF a1.2) fun r69=>(Option.bind (xF a1.1) fun r72=>(if (decide (r69 < r72)) then (Option.bind (xC a0.1 a1.2 a1.2) fun r85=>(Option.bind (xM a0.1 r85 a0.2 (-1)) fun r88=>(Option.bind (kI a0.1 r88 a1.1) fun r91=>(if ((r91.length:Int) == 0) then (some true) else (Option.bind (zbe a1.1) fun r95=>(if r95 then (some (((a1.2.length:Int) == 0))) else (some false))))))) else (Option.bind (zbe a1.1) fun r76=>(if r76 then (some (((a1.2.length:Int) == 0))) else (some false)))))) else (Option.bind (zbe a1.1) fun r64=>(if r64 then (some (((a1.2.length:Int) == 0))) else (some false))))) else (Option.bind (zbe a1.1) fun r55=>(if r55 then (some (((a1.2.length:Int) == 0))) else (some false)))))
theorem zfe (a0:(Int×(List Int))) (a1:((List Int)×(List Int))) (r:Bool) (h:uQ a0 a1=some r):Den Tryz.prog 44 [(zK a0),(zC a1)] { r:=(.bool r) }:=by
 refine dd (rs:=[(.bool r)]) (L:=zla) xL [] Tryz.func44 Tryz.ntmps44 ?_
 refine ns ⟨[(0,zK a0),(1,zC a1)],[]⟩ ?_
 refine sr (vo 1200 (zK a0) rfl rfl (vo 1300 (zC a1) rfl rfl (vr (.bool false) (nk ⟨[(2,ow 2),(3,ow 3)],[(2,bk (zK a0)),(3,bk (zC a1))]⟩ (yC (xH [⟨[3],[],[3],[]⟩,⟨[3],[],[],[0]⟩,⟨[],[],[],[0,1]⟩,⟨[],[],[],[0,1,2]⟩,⟨[],[],[],[0,1,2,3]⟩,⟨[3],[],[3],[0,1,2,3,4]⟩,⟨[3],[],[],[0,1,2,3,4,5]⟩,⟨[],[],[],[0,1,2,3,4,5,6]⟩,⟨[],[],[],[0,1,2,3,4,5,6,7]⟩,⟨[],[],[],[0,1,2,3,4,5,6,7,8]⟩,⟨[],[],[],[0,1,2,3,4,5,6,7,8,9]⟩,⟨[3],[],[3],[0,1,2,3,4,5,6,7,8,9,10]⟩,⟨[3],[],[],[0,1,2,3,4,5,6,7,8,9,10,11]⟩,⟨[],[],[],[0,1,2,3,4,5,6,7,8,9,10,11,12]⟩,⟨[3],[],[3],[0,1,2,3,4,5,6,7,8,9,10]⟩,⟨[3],[],[],[0,1,2,3,4,5,6,7,8,9,10,14]⟩,⟨[],[],[],[0,1,2,3,4,5,6,7,8,9,10,11,12,13,14,15]⟩,⟨[],[],[],[0,1,2,3,4,5,6,7,8,9,10,11,12,13,14,15,16]⟩,⟨[],[],[],[0,1,2,3,4,5,6,7,8,9,10,11,12,13,14,15,16,17]⟩,⟨[],[],[],[0,1,2,3,4,5,6,7,8,9,10,11,12,13,14,15,16,17,18]⟩,⟨[2],[],[2],[0,1,2,3,4,5,6,7,8,9,10,11,12,13,14,15,16,17,18,19]⟩,⟨[2],[],[],[0,1,2,3,4,5,6,7,8,9,10,11,12,13,14,15,16,17,18,19,20]⟩,⟨[2],[],[2],[0,1,2,3,4,5,6,7,8,9,10,11,12,13,14,15,16,17,18,19]⟩,⟨[2],[],[],[0,1,2,3,4,5,6,7,8,9,10,11,12,13,14,15,16,17,18,19,22]⟩,⟨[2],[],[2],[0,1,2,3,4,5,6,7,8,9,10,11,12,13,14,15,16,17,18,19]⟩,⟨[2],[],[],[0,1,2,3,4,5,6,7,8,9,10,11,12,13,14,15,16,17,18,19,24]⟩,⟨[3],[],[3],[0,1,2,3,4,5,6,7,8,9,10,11,12,13,14,15,16,17,18,19]⟩,⟨[3],[],[],[0,1,2,3,4,5,6,7,8,9,10,11,12,13,14,15,16,17,18,19,26]⟩,⟨[3],[],[3],[0,1,2,3,4,5,6,7,8,9,10,11,12,13,14,15,16,17,18,19]⟩,⟨[3],[],[],[0,1,2,3,4,5,6,7,8,9,10,11,12,13,14,15,16,17,18,19,28]⟩,⟨[],[],[],[0,1,2,3,4,5,6,7,8,9,10,11,12,13,14,15,16,17,18,19,24,25,26,27,28,29]⟩,⟨[2],[],[2],[0,1,2,3,4,5,6,7,8,9,10,11,12,13,14,15,16,17,18,19]⟩,⟨[2],[],[],[0,1,2,3,4,5,6,7,8,9,10,11,12,13,14,15,16,17,18,19,31]⟩,⟨[],[],[],[0,1,2,3,4,5,6,7,8,9,10,11,12,13,14,15,16,17,18,19,22,23,24,25,26,27,28,29,30,31,32]⟩,⟨[3],[],[3],[0,1,2,3,4,5,6,7,8,9,10,11,12,13,14,15,16,17,18,19]⟩,⟨[3],[],[],[0,1,2,3,4,5,6,7,8,9,10,11,12,13,14,15,16,17,18,19,34]⟩,⟨[],[],[],[0,1,2,3,4,5,6,7,8,9,10,11,12,13,14,15,16,17,18,19,20,21,22,23,24,25,26,27,28,29,30,31,32,33,34,35]⟩,⟨[],[],[],[0,1,2,3,4,5,6,7,8,9,10,11,12,13,14,15,16,17,18,19,20,21,22,23,24,25,26,27,28,29,30,31,32,33,34,35,36]⟩,⟨[],[],[],[0,1,2,3,4,5,6,7,8,9,10,11,12,13,14,15,16,17,18,19,20,21,22,23,24,25,26,27,28,29,30,31,32,33,34,35,36,37]⟩,⟨[],[],[],[0,1,2,3,4,5,6,7,8,9,10,11,12,13,14,15,16,17,18,19,20,21,22,23,24,25,26,27,28,29,30,31,32,33,34,35,36,37,38]⟩,⟨[],[],[],[0,1,2,3,4,5,6,7,8,9,10,11,12,13,14,15,16,17,18,19,20,21,22,23,24,25,26,27,28,29,30,31,32,33,34,35,36,37,38,39]⟩,⟨[3],[],[3],[0,1,2,3,4,5,6,7,8,9,10,11,12,13,14,15,16,17,18,19,20,21,22,23,24,25,26,27,28,29,30,31,32,33,34,35,36,37,38,39,40]⟩,⟨[3],[],[],[0,1,2,3,4,5,6,7,8,9,10,11,12,13,14,15,16,17,18,19,20,21,22,23,24,25,26,27,28,29,30,31,32,33,34,35,36,37,38,39,40,41]⟩,⟨[],[],[],[0,1,2,3,4,5,6,7,8,9,10,11,12,13,14,15,16,17,18,19,20,21,22,23,24,25,26,27,28,29,30,31,32,33,34,35,36,37,38,39,40,41,42]⟩,⟨[],[],[],[0,1,2,3,4,5,6,7,8,9,10,11,12,13,14,15,16,17,18,19,20,21,22,23,24,25,26,27,28,29,30,31,32,33,34,35,36,37,38,39,40,41,42,43]⟩,⟨[3],[],[3],[0,1,2,3,4,5,6,7,8,9,10,11,12,13,14,15,16,17,18,19,20,21,22,23,24,25,26,27,28,29,30,31,32,33,34,35,36,37,38,39,40,41,42,43,44]⟩,⟨[3],[],[],[0,1,2,3,4,5,6,7,8,9,10,11,12,13,14,15,16,17,18,19,20,21,22,23,24,25,26,27,28,29,30,31,32,33,34,35,36,37,38,39,40,41,42,43,44,45]⟩,⟨[],[],[],[0,1,2,3,4,5,6,7,8,9,10,11,12,13,14,15,16,17,18,19,20,21,22,23,24,25,26,27,28,29,30,31,32,33,34,35,36,37,38,39,40,41,42,43,44,45,46]⟩,⟨[],[],[],[0,1,2,3,4,5,6,7,8,9,10,11,12,13,14,15,16,17,18,19,20,21,22,23,24,25,26,27,28,29,30,31,32,33,34,35,36,37,38,39,40,41,42,43,44,45,46,47]⟩,⟨[],[],[],[0,1,2,3,4,5,6,7,8,9,10,11,12,13,14,15,16,17,18,19,20,21,22,23,24,25,26,27,28,29,30,31,32,33,34,35,36,37,38,39,40,41,42,43,44,45,46,47,48]⟩,⟨[],[],[],[0,1,2,3,4,5,6,7,8,9,10,11,12,13,14,15,16,17,18,19,20,21,22,23,24,25,26,27,28,29,30,31,32,33,34,35,36,37,38,39,40,41,42,43,44,45,46,47,48,49]⟩,⟨[],[],[],[0,1,2,3,4,5,6,7,8,9,10,11,12,13,14,15,16,17,18,19,20,21,22,23,24,25,26,27,28,29,30,31,32,33,34,35,36,37,38,39,40,41,42,43,44,45,46,47,48,49,50]⟩] (by kernel_rfl) (zH (vb (.own 3 [0] [0]) rfl rfl (dn ?_)))))))))
 refine zH ?_
 have hl50:LdOk [0] (zC a1) [0] 1 false (zI a1.1):=(.fld rfl rfl rfl rfl (.nil rfl rfl rfl))
 refine vq (zI a1.1) (zM (i:=⟨.slice 2,1,24,(zI [])⟩) rfl rfl rfl hl50) hl50.c (dn (zH ?_))
 obtain ⟨r51,hr52,h⟩:=bind_some h
 refine ca (zc0 a1.1 r51 hr52) (dn (dj (.bool (r51 == 1)) rfl (dj (.bool (r51 == 1)) rfl ?_)))
 cases hb53:(r51 == 1)
 ·have h:=zW hb53 h
  refine dk rfl (by kernel_rfl) (dk rfl (by kernel_rfl) (dk rfl (by kernel_rfl) (dk rfl (by kernel_rfl) (dj (.bool false) rfl (dj (.bool false) rfl (dk rfl (by kernel_rfl) (dk rfl (by kernel_rfl) (dk rfl (by kernel_rfl) (dk rfl (by kernel_rfl) ?_)))))))))
  refine dk rfl (by kernel_rfl) (dk rfl (by kernel_rfl) (dk rfl (by kernel_rfl) (dj (.bool false) rfl (dj (.bool false) rfl (dk rfl (by kernel_rfl) (dk rfl (by kernel_rfl) (dk rfl (by kernel_rfl) (dk rfl (by kernel_rfl) (dk rfl (by kernel_rfl) ?_)))))))))
  refine dk rfl (by kernel_rfl) (dk rfl (by kernel_rfl) (dk rfl (by kernel_rfl) (dk rfl (by kernel_rfl) (dk rfl (by kernel_rfl) (dk rfl (by kernel_rfl) (dk rfl (by kernel_rfl) (dk rfl (by kernel_rfl) (dk rfl (by kernel_rfl) (dk rfl (by kernel_rfl) ?_)))))))))
  refine dk rfl (by kernel_rfl) (dk rfl (by kernel_rfl) (dk rfl (by kernel_rfl) (dk rfl (by kernel_rfl) (dj (.bool false) rfl (dj (.bool false) rfl (zH (gq (.own 3 [0] [0]) rfl rfl (yS rfl) (dn (zH ?_)))))))))
  have hl54:LdOk [0] (zC a1) [0] 1 false (zI a1.1):=(.fld rfl rfl rfl rfl (.nil rfl rfl rfl))
  refine gq (zI a1.1) rfl (zM (i:=⟨.slice 2,1,24,(zI [])⟩) rfl rfl rfl hl54) hl54.c (dn (zH ?_))
  obtain ⟨r55,hr56,h⟩:=bind_some h
  refine wQ rfl (args:=[(zI a1.1)]) (u:=[]) (r:=(.bool r55)) rfl rfl (zbq a1.1 r55 hr56) rfl (dn (dg (.bool r55) rfl rfl (by kernel_rfl) ?_))
  cases hb57:r55
  ·have h:=zW hb57 h
   refine dk rfl (by kernel_rfl) (dk rfl (by kernel_rfl) (dk rfl (by kernel_rfl) (dk rfl (by kernel_rfl) (dg (.bool false) rfl rfl (by kernel_rfl) (dj (.bool false) rfl (dj (.bool false) rfl (xE (wC rfl (zU ?_)))))))))
   refine ⟨.inr rfl,?_⟩
   rw [Tryz.results44]
   cases h
   exact ⟨_,_,_,_,_,rfl,trivial,.inl ⟨rfl,.inl rfl⟩,rfl,rfl⟩
  ·have h:=zV hb57 h
   refine zH (gq (.own 3 [1] [1]) rfl rfl (yS rfl) (dn (zH ?_)))
   have hl58:LdOk [1] (zC a1) [1] 1 false (zI a1.2):=(.fld rfl rfl rfl rfl (.nil rfl rfl rfl))
   refine gq (zI a1.2) rfl (zM (i:=⟨.slice 2,1,24,(zI [])⟩) rfl rfl rfl hl58) hl58.c (dn (zH (gq (i6 (a1.2.length:Int)) rfl (xX rfl rfl) trivial (dn (dg (.bool (((a1.2.length:Int) == 0))) rfl rfl (by kernel_rfl) (dg (.bool (((a1.2.length:Int) == 0))) rfl rfl (by kernel_rfl) (dj (.bool (((a1.2.length:Int) == 0))) rfl (dj (.bool (((a1.2.length:Int) == 0))) rfl (xE ?_)))))))))
   refine wC rfl (zU ?_)
   refine ⟨.inr rfl,?_⟩
   rw [Tryz.results44]
   cases h
   exact ⟨_,_,_,_,_,rfl,trivial,.inl ⟨rfl,.inl rfl⟩,rfl,rfl⟩
 ·have h:=zV hb53 h
  refine zH (gq (.own 3 [0] [0]) rfl rfl (yS rfl) (dn (zH ?_)))
  have hl59:LdOk [0] (zC a1) [0] 1 false (zI a1.1):=(.fld rfl rfl rfl rfl (.nil rfl rfl rfl))
  refine gq (zI a1.1) rfl (zM (i:=⟨.slice 2,1,24,(zI [])⟩) rfl rfl rfl hl59) hl59.c (dn (zH ?_))
  obtain ⟨r60,hr61,h⟩:=bind_some h
  refine wQ rfl (args:=[(zI a1.1)]) (u:=[]) (r:=(i6 r60)) rfl rfl (qA a1.1 r60 hr61) rfl (dn (dg (.bool ((decide (r60≤12)))) rfl rfl (by kernel_rfl) (dj (.bool ((decide (r60≤12)))) rfl (dj (.bool ((decide (r60≤12)))) rfl ?_))))
  cases hb62:(decide (r60≤12))
  ·have h:=zW hb62 h
   refine dk rfl (by kernel_rfl) (dk rfl (by kernel_rfl) (dk rfl (by kernel_rfl) (dk rfl (by kernel_rfl) (dk rfl (by kernel_rfl) (dk rfl (by kernel_rfl) (dk rfl (by kernel_rfl) (dj (.bool false) rfl (dj (.bool false) rfl (dk rfl (by kernel_rfl) ?_)))))))))
   refine dk rfl (by kernel_rfl) (dk rfl (by kernel_rfl) (dk rfl (by kernel_rfl) (dk rfl (by kernel_rfl) (dk rfl (by kernel_rfl) (dk rfl (by kernel_rfl) (dk rfl (by kernel_rfl) (dk rfl (by kernel_rfl) (dk rfl (by kernel_rfl) (dk rfl (by kernel_rfl) ?_)))))))))
   refine dk rfl (by kernel_rfl) (dk rfl (by kernel_rfl) (dk rfl (by kernel_rfl) (dk rfl (by kernel_rfl) (dk rfl (by kernel_rfl) (dk rfl (by kernel_rfl) (dk rfl (by kernel_rfl) (dk rfl (by kernel_rfl) (dj (.bool false) rfl (dj (.bool false) rfl ?_)))))))))
   refine zH (gq (.own 3 [0] [0]) rfl rfl (yS rfl) (dn (zH ?_)))
   have hl63:LdOk [0] (zC a1) [0] 1 false (zI a1.1):=(.fld rfl rfl rfl rfl (.nil rfl rfl rfl))
   refine gq (zI a1.1) rfl (zM (i:=⟨.slice 2,1,24,(zI [])⟩) rfl rfl rfl hl63) hl63.c (dn (zH ?_))
   obtain ⟨r64,hr65,h⟩:=bind_some h
   refine wQ rfl (args:=[(zI a1.1)]) (u:=[]) (r:=(.bool r64)) rfl rfl (zbq a1.1 r64 hr65) rfl (dn (dg (.bool r64) rfl rfl (by kernel_rfl) ?_))
   cases hb66:r64
   ·have h:=zW hb66 h
    refine dk rfl (by kernel_rfl) (dk rfl (by kernel_rfl) (dk rfl (by kernel_rfl) (dk rfl (by kernel_rfl) (dg (.bool false) rfl rfl (by kernel_rfl) (dj (.bool false) rfl (dj (.bool false) rfl (xE (wC rfl (zU ?_)))))))))
    refine ⟨.inr rfl,?_⟩
    rw [Tryz.results44]
    cases h
    exact ⟨_,_,_,_,_,rfl,trivial,.inl ⟨rfl,.inl rfl⟩,rfl,rfl⟩
   ·have h:=zV hb66 h
    refine zH (gq (.own 3 [1] [1]) rfl rfl (yS rfl) (dn (zH ?_)))
    have hl67:LdOk [1] (zC a1) [1] 1 false (zI a1.2):=(.fld rfl rfl rfl rfl (.nil rfl rfl rfl))
    refine gq (zI a1.2) rfl (zM (i:=⟨.slice 2,1,24,(zI [])⟩) rfl rfl rfl hl67) hl67.c (dn (zH (gq (i6 (a1.2.length:Int)) rfl (xX rfl rfl) trivial (dn (dg (.bool (((a1.2.length:Int) == 0))) rfl rfl (by kernel_rfl) (dg (.bool (((a1.2.length:Int) == 0))) rfl rfl (by kernel_rfl) (dj (.bool (((a1.2.length:Int) == 0))) rfl (dj (.bool (((a1.2.length:Int) == 0))) rfl (xE ?_)))))))))
    refine wC rfl (zU ?_)
    refine ⟨.inr rfl,?_⟩
    rw [Tryz.results44]
    cases h
    exact ⟨_,_,_,_,_,rfl,trivial,.inl ⟨rfl,.inl rfl⟩,rfl,rfl⟩
  ·have h:=zV hb62 h
   refine zH (gq (.own 3 [1] [1]) rfl rfl (yS rfl) (dn (zH ?_)))
   have hl68:LdOk [1] (zC a1) [1] 1 false (zI a1.2):=(.fld rfl rfl rfl rfl (.nil rfl rfl rfl))
   refine gq (zI a1.2) rfl (zM (i:=⟨.slice 2,1,24,(zI [])⟩) rfl rfl rfl hl68) hl68.c (dn (zH ?_))
   obtain ⟨r69,hr70,h⟩:=bind_some h
   refine wQ rfl (args:=[(zI a1.2)]) (u:=[]) (r:=(i6 r69)) rfl rfl (qA a1.2 r69 hr70) rfl (dn (zH (gq (.own 3 [0] [0]) rfl rfl (yS rfl) (dn (zH ?_)))))
   have hl71:LdOk [0] (zC a1) [0] 1 false (zI a1.1):=(.fld rfl rfl rfl rfl (.nil rfl rfl rfl))
   refine gq (zI a1.1) rfl (zM (i:=⟨.slice 2,1,24,(zI [])⟩) rfl rfl rfl hl71) hl71.c (dn (zH ?_))
   obtain ⟨r72,hr73,h⟩:=bind_some h
   refine wQ rfl (args:=[(zI a1.1)]) (u:=[]) (r:=(i6 r72)) rfl rfl (qA a1.1 r72 hr73) rfl (dn (dg (.bool ((decide (r69 < r72)))) rfl rfl (by kernel_rfl) (dj (.bool ((decide (r69 < r72)))) rfl (dj (.bool ((decide (r69 < r72)))) rfl ?_))))
   cases hb74:(decide (r69 < r72))
   ·have h:=zW hb74 h
    refine dk rfl (by kernel_rfl) (dk rfl (by kernel_rfl) (dk rfl (by kernel_rfl) (dk rfl (by kernel_rfl) (dk rfl (by kernel_rfl) (dk rfl (by kernel_rfl) (dk rfl (by kernel_rfl) (dk rfl (by kernel_rfl) (dk rfl (by kernel_rfl) (dk rfl (by kernel_rfl) ?_)))))))))
    refine dk rfl (by kernel_rfl) (dk rfl (by kernel_rfl) (dk rfl (by kernel_rfl) (dk rfl (by kernel_rfl) (dk rfl (by kernel_rfl) (dk rfl (by kernel_rfl) (dk rfl (by kernel_rfl) (dk rfl (by kernel_rfl) (dk rfl (by kernel_rfl) (dj (.bool false) rfl ?_)))))))))
    refine dj (.bool false) rfl (zH (gq (.own 3 [0] [0]) rfl rfl (yS rfl) (dn (zH ?_))))
    have hl75:LdOk [0] (zC a1) [0] 1 false (zI a1.1):=(.fld rfl rfl rfl rfl (.nil rfl rfl rfl))
    refine gq (zI a1.1) rfl (zM (i:=⟨.slice 2,1,24,(zI [])⟩) rfl rfl rfl hl75) hl75.c (dn (zH ?_))
    obtain ⟨r76,hr77,h⟩:=bind_some h
    refine wQ rfl (args:=[(zI a1.1)]) (u:=[]) (r:=(.bool r76)) rfl rfl (zbq a1.1 r76 hr77) rfl (dn (dg (.bool r76) rfl rfl (by kernel_rfl) ?_))
    cases hb78:r76
    ·have h:=zW hb78 h
     refine dk rfl (by kernel_rfl) (dk rfl (by kernel_rfl) (dk rfl (by kernel_rfl) (dk rfl (by kernel_rfl) (dg (.bool false) rfl rfl (by kernel_rfl) (dj (.bool false) rfl (dj (.bool false) rfl (xE (wC rfl (zU ?_)))))))))
     refine ⟨.inr rfl,?_⟩
     rw [Tryz.results44]
     cases h
     exact ⟨_,_,_,_,_,rfl,trivial,.inl ⟨rfl,.inl rfl⟩,rfl,rfl⟩
    ·have h:=zV hb78 h
     refine zH (gq (.own 3 [1] [1]) rfl rfl (yS rfl) (dn (zH ?_)))
     have hl79:LdOk [1] (zC a1) [1] 1 false (zI a1.2):=(.fld rfl rfl rfl rfl (.nil rfl rfl rfl))
     refine gq (zI a1.2) rfl (zM (i:=⟨.slice 2,1,24,(zI [])⟩) rfl rfl rfl hl79) hl79.c (dn (zH (gq (i6 (a1.2.length:Int)) rfl (xX rfl rfl) trivial (dn (dg (.bool (((a1.2.length:Int) == 0))) rfl rfl (by kernel_rfl) (dg (.bool (((a1.2.length:Int) == 0))) rfl rfl (by kernel_rfl) (dj (.bool (((a1.2.length:Int) == 0))) rfl (dj (.bool (((a1.2.length:Int) == 0))) rfl (xE ?_)))))))))
     refine wC rfl (zU ?_)
     refine ⟨.inr rfl,?_⟩
     rw [Tryz.results44]
     cases h
     exact ⟨_,_,_,_,_,rfl,trivial,.inl ⟨rfl,.inl rfl⟩,rfl,rfl⟩
   ·have h:=zV hb74 h
    refine zH (gq (.own 2 [0] [0]) rfl rfl (yS rfl) (dn (zH ?_)))
    have hl80:LdOk [0] (zK a0) [0] 1 false (i6 a0.1):=(.fld rfl rfl rfl rfl (.nil rfl rfl rfl))
    refine gq (i6 a0.1) rfl (zM (i:=⟨.int .i64,1,8,(.int .i64 0)⟩) rfl rfl rfl hl80) hl80.c (dn (zH (gq (.own 2 [0] [0]) rfl rfl (yS rfl) (dn (zH ?_)))))
    have hl81:LdOk [0] (zK a0) [0] 1 false (i6 a0.1):=(.fld rfl rfl rfl rfl (.nil rfl rfl rfl))
    refine gq (i6 a0.1) rfl (zM (i:=⟨.int .i64,1,8,(.int .i64 0)⟩) rfl rfl rfl hl81) hl81.c (dn (zH (gq (.own 2 [0] [0]) rfl rfl (yS rfl) (dn (zH ?_)))))
    have hl82:LdOk [0] (zK a0) [0] 1 false (i6 a0.1):=(.fld rfl rfl rfl rfl (.nil rfl rfl rfl))
    refine gq (i6 a0.1) rfl (zM (i:=⟨.int .i64,1,8,(.int .i64 0)⟩) rfl rfl rfl hl82) hl82.c (dn (zH (gq (.own 3 [1] [1]) rfl rfl (yS rfl) (dn (zH ?_)))))
    have hl83:LdOk [1] (zC a1) [1] 1 false (zI a1.2):=(.fld rfl rfl rfl rfl (.nil rfl rfl rfl))
    refine gq (zI a1.2) rfl (zM (i:=⟨.slice 2,1,24,(zI [])⟩) rfl rfl rfl hl83) hl83.c (dn (zH (gq (.own 3 [1] [1]) rfl rfl (yS rfl) (dn (zH ?_)))))
    have hl84:LdOk [1] (zC a1) [1] 1 false (zI a1.2):=(.fld rfl rfl rfl rfl (.nil rfl rfl rfl))
    refine gq (zI a1.2) rfl (zM (i:=⟨.slice 2,1,24,(zI [])⟩) rfl rfl rfl hl84) hl84.c (dn (zH ?_))
    obtain ⟨r85,hr86,h⟩:=bind_some h
    refine wQ rfl (args:=[(i6 a0.1),(zI a1.2),(zI a1.2)]) (u:=[]) (r:=(zI r85)) rfl rfl (xN a0.1 a1.2 a1.2 r85 hr86) rfl (dn (zH (gq (.own 2 [1] [1]) rfl rfl (yS rfl) (dn (zH ?_)))))
    have hl87:LdOk [1] (zK a0) [1] 1 false (zI a0.2):=(.fld rfl rfl rfl rfl (.nil rfl rfl rfl))
    refine gq (zI a0.2) rfl (zM (i:=⟨.slice 2,1,24,(zI [])⟩) rfl rfl rfl hl87) hl87.c (dn (zH ?_))
    obtain ⟨r88,hr89,h⟩:=bind_some h
    refine wQ rfl (args:=[(i6 a0.1),(zI r85),(zI a0.2),(i6 (-1))]) (u:=[]) (r:=(zI r88)) rfl rfl (wP a0.1 r85 a0.2 (-1) r88 hr89) rfl (dn (zH (gq (.own 3 [0] [0]) rfl rfl (yS rfl) (dn (zH ?_)))))
    have hl90:LdOk [0] (zC a1) [0] 1 false (zI a1.1):=(.fld rfl rfl rfl rfl (.nil rfl rfl rfl))
    refine gq (zI a1.1) rfl (zM (i:=⟨.slice 2,1,24,(zI [])⟩) rfl rfl rfl hl90) hl90.c (dn (zH ?_))
    obtain ⟨r91,hr92,h⟩:=bind_some h
    refine wQ rfl (args:=[(i6 a0.1),(zI r88),(zI a1.1)]) (u:=[]) (r:=(zI r91)) rfl rfl (zbh a0.1 r88 a1.1 r91 hr92) rfl (dn (zH (gq (i6 (r91.length:Int)) rfl (xX rfl rfl) trivial (dn (dg (.bool (((r91.length:Int) == 0))) rfl rfl (by kernel_rfl) (dj (.bool (((r91.length:Int) == 0))) rfl (dj (.bool (((r91.length:Int) == 0))) rfl ?_)))))))
    cases hb93:((r91.length:Int) == 0)
    ·have h:=zW hb93 h
     refine zH (gq (.own 3 [0] [0]) rfl rfl (yS rfl) (dn (zH ?_)))
     have hl94:LdOk [0] (zC a1) [0] 1 false (zI a1.1):=(.fld rfl rfl rfl rfl (.nil rfl rfl rfl))
     refine gq (zI a1.1) rfl (zM (i:=⟨.slice 2,1,24,(zI [])⟩) rfl rfl rfl hl94) hl94.c (dn (zH ?_))
     obtain ⟨r95,hr96,h⟩:=bind_some h
     refine wQ rfl (args:=[(zI a1.1)]) (u:=[]) (r:=(.bool r95)) rfl rfl (zbq a1.1 r95 hr96) rfl (dn (dg (.bool r95) rfl rfl (by kernel_rfl) ?_))
     cases hb97:r95
     ·have h:=zW hb97 h
      refine dk rfl (by kernel_rfl) (dk rfl (by kernel_rfl) (dk rfl (by kernel_rfl) (dk rfl (by kernel_rfl) (dg (.bool false) rfl rfl (by kernel_rfl) (dj (.bool false) rfl (dj (.bool false) rfl (xE (wC rfl (zU ?_)))))))))
      refine ⟨.inr rfl,?_⟩
      rw [Tryz.results44]
      cases h
      exact ⟨_,_,_,_,_,rfl,trivial,.inl ⟨rfl,.inl rfl⟩,rfl,rfl⟩
     ·have h:=zV hb97 h
      refine zH (gq (.own 3 [1] [1]) rfl rfl (yS rfl) (dn (zH ?_)))
      have hl98:LdOk [1] (zC a1) [1] 1 false (zI a1.2):=(.fld rfl rfl rfl rfl (.nil rfl rfl rfl))
      refine gq (zI a1.2) rfl (zM (i:=⟨.slice 2,1,24,(zI [])⟩) rfl rfl rfl hl98) hl98.c (dn (zH (gq (i6 (a1.2.length:Int)) rfl (xX rfl rfl) trivial (dn (dg (.bool (((a1.2.length:Int) == 0))) rfl rfl (by kernel_rfl) (dg (.bool (((a1.2.length:Int) == 0))) rfl rfl (by kernel_rfl) (dj (.bool (((a1.2.length:Int) == 0))) rfl (dj (.bool (((a1.2.length:Int) == 0))) rfl (xE ?_)))))))))
      refine wC rfl (zU ?_)
      refine ⟨.inr rfl,?_⟩
      rw [Tryz.results44]
      cases h
      exact ⟨_,_,_,_,_,rfl,trivial,.inl ⟨rfl,.inl rfl⟩,rfl,rfl⟩
    ·have h:=zV hb93 h
     refine dk rfl (by kernel_rfl) (dk rfl (by kernel_rfl) (dk rfl (by kernel_rfl) (dk rfl (by kernel_rfl) (zH (nN rfl (dn (zH (nN rfl (dn ?_)))))))))
     refine zH (nN rfl (dn (zH (nN rfl (dn (dk rfl (by kernel_rfl) (dj (.bool true) rfl (dj (.bool true) rfl (xE ?_)))))))))
     refine wC rfl (zU ?_)
     refine ⟨.inr rfl,?_⟩
     rw [Tryz.results44]
     cases h
     exact ⟨_,_,_,_,_,rfl,trivial,.inl ⟨rfl,.inl rfl⟩,rfl,rfl⟩
def zq5:Live:=[(0,[0,1,2]),(1,[0,4,5])]
noncomputable def zd2 (a0:Int) (a1:(Vec Int 64)) (a2:((Vec Int 64)×(Vec Int 64))):Option Bool :=
 (Option.bind (kW a0 a1) fun r22=>(if r22 then (Option.bind (zcc a0 a2.1) fun r26=>(if r26 then (Option.bind (zcc a0 a2.2) fun r30=>(if r30 then (Option.bind (uT a0 a1) fun r34=>(Option.bind (vP a2) fun r37=>(Option.bind (uQ r34 r37) fun r39=>(some r39)))) else (some false))) else (some false))) else (some false)))
theorem zf7 (a0:Int) (a1:(Vec Int 64)) (a2:((Vec Int 64)×(Vec Int 64))) (r:Bool) (h:zd2 a0 a1 a2=some r):Den Tryz.prog 12 [(i6 a0),(zJ a1),(zA a2)] { r:=(.bool r) }:=by
 refine dd (rs:=[(.bool r)]) (L:=zq5) xL [] Tryz.func12 Tryz.ntmps12 ?_
 refine ns ⟨[(0,i6 a0),(1,zJ a1),(2,zA a2)],[]⟩ ?_
 refine sr (vo 1400 (zJ a1) rfl rfl (vo 1500 (zA a2) rfl rfl (vr (.bool false) (nk ⟨[(0,i6 a0),(4,ow 4),(5,ow 5)],[(4,bk (zJ a1)),(5,bk (zA a2))]⟩ (yC (xH [⟨[],[],[],[]⟩,⟨[4],[],[],[]⟩,⟨[],[],[],[0,1]⟩,⟨[],[],[],[0,1,2]⟩,⟨[],[],[],[0,1,2,3]⟩,⟨[5],[],[5],[0,1,2,3]⟩,⟨[5],[],[],[0,1,2,3,5]⟩,⟨[],[],[],[0,1,2,3,4,5,6]⟩,⟨[],[],[],[0,1,2,3,4,5,6,7]⟩,⟨[],[],[],[0,1,2,3,4,5,6,7,8]⟩,⟨[],[],[],[0,1,2,3,4,5,6,7,8,9]⟩,⟨[5],[],[5],[0,1,2,3,4,5,6,7,8,9]⟩,⟨[5],[],[],[0,1,2,3,4,5,6,7,8,9,11]⟩,⟨[],[],[],[0,1,2,3,4,5,6,7,8,9,10,11,12]⟩,⟨[],[],[],[0,1,2,3,4,5,6,7,8,9,10,11,12,13]⟩,⟨[],[],[],[0,1,2,3,4,5,6,7,8,9,10,11,12,13,14]⟩,⟨[],[],[],[0,1,2,3,4,5,6,7,8,9,10,11,12,13,14,15]⟩,⟨[4],[],[],[0,1,2,3,4,5,6,7,8,9,10,11,12,13,14,15]⟩,⟨[],[],[],[0,1,2,3,4,5,6,7,8,9,10,11,12,13,14,15,16,17]⟩,⟨[5],[],[],[0,1,2,3,4,5,6,7,8,9,10,11,12,13,14,15]⟩,⟨[],[],[],[0,1,2,3,4,5,6,7,8,9,10,11,12,13,14,15,16,17,18,19]⟩,⟨[],[],[],[0,1,2,3,4,5,6,7,8,9,10,11,12,13,14,15,16,17,18,19,20]⟩,⟨[],[],[],[0,1,2,3,4,5,6,7,8,9,10,11,12,13,14,15,16,17,18,19,20,21]⟩,⟨[],[],[],[0,1,2,3,4,5,6,7,8,9,10,11,12,13,14,15,16,17,18,19,20,21,22]⟩] (by kernel_rfl) (dj (i6 a0) rfl (zH (vl (zJ a1) rfl rfl rfl rfl rfl rfl ?_)))))))))
 refine dn (zH ?_)
 obtain ⟨r22,hr23,h⟩:=bind_some h
 refine ca (za2 a0 a1 r22 hr23) (dn (dj (.bool r22) rfl ?_))
 cases hb24:r22
 ·have h:=zW hb24 h
  refine dk rfl (by kernel_rfl) (dk rfl (by kernel_rfl) (dk rfl (by kernel_rfl) (dk rfl (by kernel_rfl) (dj (.bool false) rfl (dj (.bool false) rfl (dk rfl (by kernel_rfl) (dk rfl (by kernel_rfl) (dk rfl (by kernel_rfl) (dk rfl (by kernel_rfl) ?_)))))))))
  refine dj (.bool false) rfl (dj (.bool false) rfl (dk rfl (by kernel_rfl) (dk rfl (by kernel_rfl) (dk rfl (by kernel_rfl) (dk rfl (by kernel_rfl) (dk rfl (by kernel_rfl) (dk rfl (by kernel_rfl) (dj (.bool false) rfl (dj (.bool false) rfl ?_)))))))))
  refine xE (wC rfl (zU ?_))
  refine ⟨.inr rfl,?_⟩
  rw [Tryz.results12]
  cases h
  exact ⟨_,_,_,_,_,rfl,trivial,.inl ⟨rfl,.inl rfl⟩,rfl,rfl⟩
 ·have h:=zV hb24 h
  refine dg (i6 a0) rfl rfl (by kernel_rfl) (zH (gq (.own 5 [0] [0]) rfl rfl (yS rfl) (dn (zH ?_))))
  have hl25:LdOk [0] (zA a2) [0] 64 true (zJ a2.1):=(.fld rfl rfl rfl rfl (.nil rfl rfl rfl))
  refine gq (zJ a2.1) rfl (zM (i:=⟨.arr 64 5,64,64,(zJ (yH 64 (0:Int)))⟩) rfl rfl rfl hl25) hl25.c (dn (zH ?_))
  obtain ⟨r26,hr27,h⟩:=bind_some h
  refine wQ rfl (args:=[(i6 a0),(zJ a2.1)]) (u:=[]) (r:=(.bool r26)) rfl rfl (zei a0 a2.1 r26 hr27) rfl (dn (dj (.bool r26) rfl (dj (.bool r26) rfl ?_)))
  cases hb28:r26
  ·have h:=zW hb28 h
   refine dk rfl (by kernel_rfl) (dk rfl (by kernel_rfl) (dk rfl (by kernel_rfl) (dk rfl (by kernel_rfl) (dj (.bool false) rfl (dj (.bool false) rfl (dk rfl (by kernel_rfl) (dk rfl (by kernel_rfl) (dk rfl (by kernel_rfl) (dk rfl (by kernel_rfl) ?_)))))))))
   refine dk rfl (by kernel_rfl) (dk rfl (by kernel_rfl) (dj (.bool false) rfl (dj (.bool false) rfl (xE (wC rfl (zU ?_))))))
   refine ⟨.inr rfl,?_⟩
   rw [Tryz.results12]
   cases h
   exact ⟨_,_,_,_,_,rfl,trivial,.inl ⟨rfl,.inl rfl⟩,rfl,rfl⟩
  ·have h:=zV hb28 h
   refine dg (i6 a0) rfl rfl (by kernel_rfl) (zH (gq (.own 5 [1] [64]) rfl rfl (yS rfl) (dn (zH ?_))))
   have hl29:LdOk [1] (zA a2) [64] 64 true (zJ a2.2):=(.fld rfl rfl rfl rfl (.nil rfl rfl rfl))
   refine gq (zJ a2.2) rfl (zM (i:=⟨.arr 64 5,64,64,(zJ (yH 64 (0:Int)))⟩) rfl rfl rfl hl29) hl29.c (dn (zH ?_))
   obtain ⟨r30,hr31,h⟩:=bind_some h
   refine wQ rfl (args:=[(i6 a0),(zJ a2.2)]) (u:=[]) (r:=(.bool r30)) rfl rfl (zei a0 a2.2 r30 hr31) rfl (dn (dj (.bool r30) rfl (dj (.bool r30) rfl ?_)))
   cases hb32:r30
   ·have h:=zW hb32 h
    refine dk rfl (by kernel_rfl) (dk rfl (by kernel_rfl) (dk rfl (by kernel_rfl) (dk rfl (by kernel_rfl) (dk rfl (by kernel_rfl) (dk rfl (by kernel_rfl) (dj (.bool false) rfl (dj (.bool false) rfl (xE (wC rfl ?_)))))))))
    refine zU ?_
    refine ⟨.inr rfl,?_⟩
    rw [Tryz.results12]
    cases h
    exact ⟨_,_,_,_,_,rfl,trivial,.inl ⟨rfl,.inl rfl⟩,rfl,rfl⟩
   ·have h:=zV hb32 h
    refine dg (i6 a0) rfl rfl (by kernel_rfl) (zH ?_)
    have hl33:LdOk [] (zJ a1) [] 64 true (zJ a1):=(.nil rfl rfl rfl)
    refine gq (zJ a1) rfl (zM (i:=⟨.arr 64 5,64,64,(zJ (yH 64 (0:Int)))⟩) rfl rfl rfl hl33) hl33.c (dn (zH ?_))
    obtain ⟨r34,hr35,h⟩:=bind_some h
    refine wQ rfl (args:=[(i6 a0),(zJ a1)]) (u:=[]) (r:=(zK r34)) rfl rfl (kY a0 a1 r34 hr35) rfl (dn (zH ?_))
    have hl36:LdOk [] (zA a2) [] 128 true (zA a2):=(.nil rfl rfl rfl)
    refine gq (zA a2) rfl (zM (i:=⟨.struct [(0,25),(64,25)],128,128,xA⟩) rfl rfl rfl hl36) hl36.c (dn (zH ?_))
    obtain ⟨r37,hr38,h⟩:=bind_some h
    refine wQ rfl (args:=[(zA a2)]) (u:=[]) (r:=(zC r37)) rfl rfl (jS a2 r37 hr38) rfl (dn (zH ?_))
    obtain ⟨r39,hr40,h⟩:=bind_some h
    refine wQ rfl (args:=[(zK r34),(zC r37)]) (u:=[]) (r:=(.bool r39)) rfl rfl (zfe r34 r37 r39 hr40) rfl (dn (dj (.bool r39) rfl (dj (.bool r39) rfl (xE (wC rfl (zU ?_))))))
    refine ⟨.inr rfl,?_⟩
    rw [Tryz.results12]
    cases h
    exact ⟨_,_,_,_,_,rfl,trivial,.inl ⟨rfl,.inl rfl⟩,rfl,rfl⟩
def zgu:Live:=[(0,[0,1,2]),(1,[1,2,3])]
noncomputable def zar (a0:((Vec Int 64)×(Vec Int 64))) (a1:Int) (a2:(Vec Int 64)):Option Bool :=
 (Option.bind (zd2 a1 a2 a0) fun r4=>(some r4))
theorem zgd (a0:((Vec Int 64)×(Vec Int 64))) (a1:Int) (a2:(Vec Int 64)) (r:Bool) (h:zar a0 a1 a2=some r):Den Tryz.prog 71 [(zA a0),(.ref (i6 a1) [] []),(.ref (zJ a2) [] [])] { r:=(.bool r) }:=by
 refine dd (rs:=[(.bool r)]) (L:=zgu) xL [] Tryz.func71 Tryz.ntmps71 ?_
 refine ns ⟨[(0,zA a0),(1,.ref (i6 a1) [] []),(2,.ref (zJ a2) [] [])],[]⟩ ?_
 refine sr (vo 1300 (zA a0) rfl rfl (vr (.bool false) (nk ⟨[(1,.ref (i6 a1) [] []),(2,.ref (zJ a2) [] []),(3,ow 3)],[(3,bk (zA a0))]⟩ (sr ?_))))
 have hl1:LdOk [] (i6 a1) [] 1 false (i6 a1):=(.nil rfl rfl rfl)
 refine vq (i6 a1) (kC (i:=⟨.int .i64,1,8,(.int .i64 0)⟩) rfl rfl hl1) hl1.c ?_
 have hl2:LdOk [] (zJ a2) [] 64 true (zJ a2):=(.nil rfl rfl rfl)
 refine vq (zJ a2) (kC (i:=⟨.arr 64 5,64,64,(zJ (yH 64 (0:Int)))⟩) rfl rfl hl2) hl2.c (vl (zA a0) rfl rfl rfl rfl rfl rfl ?_)
 obtain ⟨r4,hr5,h⟩:=bind_some h
 refine ca (zf7 a1 a2 a0 r4 hr5) (vr (.bool r4) (nx _ rfl (zU ?_)))
 refine ⟨.inr rfl,?_⟩
 rw [Tryz.results71]
 cases h
 exact ⟨_,_,_,_,_,rfl,trivial,.inl ⟨rfl,.inl rfl⟩,rfl,rfl⟩
def zat:Live:=[(0,[0,1]),(1,[1,2])]
noncomputable def vW (a0:((Vec Int 64)×(Vec Int 64))) (a1c0:Int) (a1c1:(Vec Int 64)):Option Bool :=
 (Option.bind (zar a0 a1c0 a1c1) fun r3=>(some (!r3)))
theorem zaf (a0:((Vec Int 64)×(Vec Int 64))) (a1c0:Int) (a1c1:(Vec Int 64)) (r:Bool) (h:vW a0 a1c0 a1c1=some r):Den Tryz.prog 107 [(zA a0),(.ref (.clo 71 [] [(.ref (i6 a1c0) [] []),(.ref (zJ a1c1) [] [])]) [] [])] { r:=(.bool r) }:=by
 refine dd (rs:=[(.bool r)]) (L:=zat) xL [] Tryz.func107 Tryz.ntmps107 ?_
 refine ns ⟨[(0,zA a0),(1,.ref (.clo 71 [] [(.ref (i6 a1c0) [] []),(.ref (zJ a1c1) [] [])]) [] [])],[]⟩ ?_
 refine sr (vo 1200 (zA a0) rfl rfl (vr (.bool false) (nk ⟨[(1,.ref (.clo 71 [] [(.ref (i6 a1c0) [] []),(.ref (zJ a1c1) [] [])]) [] []),(2,ow 2)],[(2,bk (zA a0))]⟩ (sr ?_))))
 have hl1:LdOk [] (.clo 71 [] [(.ref (i6 a1c0) [] []),(.ref (zJ a1c1) [] [])]) [] 1 false (.clo 71 [] [(.ref (i6 a1c0) [] []),(.ref (zJ a1c1) [] [])]):=(.nil rfl rfl rfl)
 refine vq (.clo 71 [] [(.ref (i6 a1c0) [] []),(.ref (zJ a1c1) [] [])]) (kC (i:=⟨.other,1,8,(.raw .nilFunc)⟩) rfl rfl hl1) hl1.c (vl (zA a0) rfl rfl rfl rfl rfl rfl ?_)
 obtain ⟨r3,hr4,h⟩:=bind_some h
 refine ca (zgd a0 a1c0 a1c1 r3 hr4) (vr (.bool (!r3)) (vr (.bool (!r3)) (nx _ rfl (zU ?_))))
 refine ⟨.inr rfl,?_⟩
 rw [Tryz.results107]
 cases h
 exact ⟨_,_,_,_,_,rfl,trivial,.inl ⟨rfl,.inl rfl⟩,rfl,rfl⟩
def uE:Live:=[(0,[0,1]),(1,[0,1]),(2,[0,1,7,8]),(3,[0,1,7,8]),(4,[0,1,5,7,8]),(5,[5]),(6,[0,1,7,8]),(7,[]),(100009,[0,1,7,8,9]),(100016,[0,1,5,7,8,16])]
noncomputable def zQ (a0:(List ((Vec Int 64)×(Vec Int 64)))) (a1c0c0:Int) (a1c0c1:(Vec Int 64)) (x33:Int):Option (Int⊕(Unit⊕Int)) :=
 (if (decide (x33 < (a0.length:Int))) then (jA (0≤x33∧x33 < ((a0.length:Nat):Int)) ((Option.bind (vW (rd a0 x33.toNat) a1c0c0 a1c0c1) fun r46=>(if r46 then (some (.inr (.inr x33))) else (some (.inl (IntKind.i64.wrap (x33 + 1)))))))) else (some (.inr (((.inl ()))))))
noncomputable def yQ (a0:(List ((Vec Int 64)×(Vec Int 64)))) (a1c0c0:Int) (a1c0c1:(Vec Int 64)):Option Int :=
 (Option.bind (α:=(Unit⊕Int)) ((yK (fun s:Int=>zQ a0 a1c0c0 a1c0c1 s) 0)) fun z=>match z with | .inl _=>(some (-1)) | .inr r50=>(some r50))
theorem uC (a0:(List ((Vec Int 64)×(Vec Int 64)))) (a1c0c0:Int) (a1c0c1:(Vec Int 64)) (r:Int) (h:yQ a0 a1c0c0 a1c0c1=some r):Den Tryz.prog 121 [(zL a0),(.clo 107 [] [(.ref (.clo 71 [] [(.ref (i6 a1c0c0) [] []),(.ref (zJ a1c0c1) [] [])]) [] [])])] { r:=(i6 r) }:=by
 refine dd (rs:=[(i6 r)]) (L:=uE) xL [] Tryz.func121 Tryz.ntmps121 ?_
 refine ns ⟨[(0,zL a0),(1,.clo 107 [] [(.ref (.clo 71 [] [(.ref (i6 a1c0c0) [] []),(.ref (zJ a1c0c1) [] [])]) [] [])])],[]⟩ ?_
 refine sr (vr (i6 0) (nk ⟨[(0,zL a0),(1,.clo 107 [] [(.ref (.clo 71 [] [(.ref (i6 a1c0c0) [] []),(.ref (zJ a1c0c1) [] [])]) [] [])])],[]⟩ ?_))
 obtain ⟨y24,hy25,hk26⟩:=bind_some h
 clear h
 refine yN (emb:=fun (s:Unit)=>⟨[],[]⟩) (kG:=fun s=>(.inl s)=y24) ?_ ?_
 ·rintro _ rfl
  have h:=hk26
  refine ns ⟨[],[]⟩ (sr (vr (i6 (-1)) (nx _ rfl (zU ?_))))
  refine ⟨.inr rfl,?_⟩
  rw [Tryz.results121]
  cases h
  exact ⟨_,_,_,_,_,rfl,trivial,.inl ⟨rfl,.inl rfl⟩,rfl,rfl⟩
 ·have h:=hy25
  refine sr (vr (zL a0) (vq (i6 (a0.length:Int)) (xX rfl rfl) trivial (vr (i6 0) (nk ⟨[(0,zL a0),(1,.clo 107 [] [(.ref (.clo 71 [] [(.ref (i6 a1c0c0) [] []),(.ref (zJ a1c0c1) [] [])]) [] [])]),(7,i6 (a0.length:Int)),(8,i6 0)],[]⟩ (yB ?_)))))
  refine xU (emb:=fun (s:Int)=>⟨[(0,zL a0),(1,.clo 107 [] [(.ref (.clo 71 [] [(.ref (i6 a1c0c0) [] []),(.ref (zJ a1c0c1) [] [])]) [] [])]),(7,i6 (a0.length:Int)),(8,i6 s)],[]⟩) (body:=(fun s:Int=>zQ a0 a1c0c0 a1c0c1 s)) (G:=fun q=>some q=some y24) h rfl ?_ (by kernel_rfl)
  rintro X40 x33 x41 h hX42
  have h:zQ a0 a1c0c0 a1c0c1 x33=some x41:=h
  refine ns ⟨[(0,zL a0),(1,.clo 107 [] [(.ref (.clo 71 [] [(.ref (i6 a1c0c0) [] []),(.ref (zJ a1c0c1) [] [])]) [] [])]),(7,i6 (a0.length:Int)),(8,i6 x33)],[]⟩ (sr (vr (.bool ((decide (x33 < (a0.length:Int))))) (nk ⟨[(0,zL a0),(1,.clo 107 [] [(.ref (.clo 71 [] [(.ref (i6 a1c0c0) [] []),(.ref (zJ a1c0c1) [] [])]) [] [])]),(7,i6 (a0.length:Int)),(8,i6 x33),(9,.bool ((decide (x33 < (a0.length:Int)))))],[]⟩ (yC ?_))))
  cases hb43:(decide (x33 < (a0.length:Int)))
  ·have h:=zW hb43 h
   refine zP rfl (xR (yI ?_))
   cases h
   have h:=hX42
   refine yI (xQ ?_)
   exact jl () h
  ·have h:=zV hb43 h
   refine zO rfl (yG (nj ⟨[(0,zL a0),(1,.clo 107 [] [(.ref (.clo 71 [] [(.ref (i6 a1c0c0) [] []),(.ref (zJ a1c0c1) [] [])]) [] [])]),(7,i6 (a0.length:Int)),(8,i6 x33)],[]⟩ (yC (yB (sr (vr (i6 x33) (vr (i6 x33) (nk ⟨[(0,zL a0),(1,.clo 107 [] [(.ref (.clo 71 [] [(.ref (i6 a1c0c0) [] []),(.ref (zJ a1c0c1) [] [])]) [] [])]),(5,i6 x33),(7,i6 (a0.length:Int)),(8,i6 x33)],[]⟩ (sr ?_)))))))))
   refine vr (.clo 107 [] [(.ref (.clo 71 [] [(.ref (i6 a1c0c0) [] []),(.ref (zJ a1c0c1) [] [])]) [] [])]) (vr (zL a0) (vr (i6 x33) ?_))
   obtain ⟨hc44,h⟩:=zT h
   refine vq (.ref (.row 128 (a0.map zA)) [x33.toNat] [x33.toNat*128]) rfl (zdp hc44) ?_
   have hl45:LdOk [x33.toNat] (.row 128 (a0.map zA)) [x33.toNat*128] 128 true (zA (rd a0 x33.toNat)):=(.row (llt hc44) rfl (.nil rfl rfl rfl))
   refine vq (zA (rd a0 x33.toNat)) (kC (i:=⟨.struct [(0,25),(64,25)],128,128,xA⟩) rfl rfl hl45) hl45.c ?_
   obtain ⟨r46,hr47,h⟩:=bind_some h
   refine ca (zaf (rd a0 x33.toNat) a1c0c0 a1c0c1 r46 hr47) (nk ⟨[(0,zL a0),(1,.clo 107 [] [(.ref (.clo 71 [] [(.ref (i6 a1c0c0) [] []),(.ref (zJ a1c0c1) [] [])]) [] [])]),(5,i6 x33),(7,i6 (a0.length:Int)),(8,i6 x33),(16,.bool r46)],[]⟩ ?_)
   cases hb48:r46
   ·have h:=zW hb48 h
    refine zP rfl (yG (xI (nj ⟨[(0,zL a0),(1,.clo 107 [] [(.ref (.clo 71 [] [(.ref (i6 a1c0c0) [] []),(.ref (zJ a1c0c1) [] [])]) [] [])]),(7,i6 (a0.length:Int)),(8,i6 x33)],[]⟩ (zR (vr (i6 (IntKind.i64.wrap (x33 + 1))) (vr (i6 (IntKind.i64.wrap (x33 + 1))) (yJ ?_)))))))
    cases h
    exact ag hX42
   ·have h:=zV hb48 h
    refine zO rfl (sr (vr (i6 x33) (vr (i6 x33) (nx _ rfl (zU (zaz (xV ?_)))))))
    cases h
    have h:=hX42
    refine xV (zaz (xV ?_))
    cases h
    have h:=hk26
    refine ⟨.inr rfl,?_⟩
    rw [Tryz.results121]
    cases h
    exact ⟨_,_,_,_,_,rfl,trivial,.inl ⟨rfl,.inl rfl⟩,rfl,rfl⟩
def vN:Live:=[(0,[0,1]),(1,[0,1])]
noncomputable def yM (a0:(List ((Vec Int 64)×(Vec Int 64)))) (a1c0c0:Int) (a1c0c1:(Vec Int 64)):Option Bool :=
 (Option.bind (yQ a0 a1c0c0 a1c0c1) fun r1=>(some ((decide (r1 ≥ 0)))))
theorem vK (a0:(List ((Vec Int 64)×(Vec Int 64)))) (a1c0c0:Int) (a1c0c1:(Vec Int 64)) (r:Bool) (h:yM a0 a1c0c0 a1c0c1=some r):Den Tryz.prog 106 [(zL a0),(.clo 107 [] [(.ref (.clo 71 [] [(.ref (i6 a1c0c0) [] []),(.ref (zJ a1c0c1) [] [])]) [] [])])] { r:=(.bool r) }:=by
 refine dd (rs:=[(.bool r)]) (L:=vN) xL [] Tryz.func106 Tryz.ntmps106 ?_
 refine ns ⟨[(0,zL a0),(1,.clo 107 [] [(.ref (.clo 71 [] [(.ref (i6 a1c0c0) [] []),(.ref (zJ a1c0c1) [] [])]) [] [])])],[]⟩ ?_
 refine sr (vr (.bool false) (nk ⟨[(0,zL a0),(1,.clo 107 [] [(.ref (.clo 71 [] [(.ref (i6 a1c0c0) [] []),(.ref (zJ a1c0c1) [] [])]) [] [])])],[]⟩ (sr (vr (zL a0) (vr (.clo 107 [] [(.ref (.clo 71 [] [(.ref (i6 a1c0c0) [] []),(.ref (zJ a1c0c1) [] [])]) [] [])]) ?_)))))
 obtain ⟨r1,hr2,h⟩:=bind_some h
 refine ca (uC a0 a1c0c0 a1c0c1 r1 hr2) (vr (.bool ((decide (r1 ≥ 0)))) (vr (.bool ((decide (r1 ≥ 0)))) (nx _ rfl (zU ?_))))
 refine ⟨.inr rfl,?_⟩
 rw [Tryz.results106]
 cases h
 exact ⟨_,_,_,_,_,rfl,trivial,.inl ⟨rfl,.inl rfl⟩,rfl,rfl⟩
def mR:Live:=[(0,[0,1]),(1,[0,3])]
noncomputable def yY (a0:(List ((Vec Int 64)×(Vec Int 64)))) (a1c0:Int) (a1c1:(Vec Int 64)):Option Bool :=
 (Option.bind (yM a0 a1c0 a1c1) fun r1=>(some (!r1)))
theorem mH (a0:(List ((Vec Int 64)×(Vec Int 64)))) (a1c0:Int) (a1c1:(Vec Int 64)) (r:Bool) (h:yY a0 a1c0 a1c1=some r):Den Tryz.prog 70 [(zL a0),(.clo 71 [] [(.ref (i6 a1c0) [] []),(.ref (zJ a1c1) [] [])])] { r:=(.bool r) }:=by
 refine dd (rs:=[(.bool r)]) (L:=mR) xL [] Tryz.func70 Tryz.ntmps70 ?_
 refine ns ⟨[(0,zL a0),(1,.clo 71 [] [(.ref (i6 a1c0) [] []),(.ref (zJ a1c1) [] [])])],[]⟩ ?_
 refine sr (vo 1300 (.clo 71 [] [(.ref (i6 a1c0) [] []),(.ref (zJ a1c1) [] [])]) rfl rfl (vr (.bool false) (nk ⟨[(0,zL a0),(3,ow 3)],[(3,bk (.clo 71 [] [(.ref (i6 a1c0) [] []),(.ref (zJ a1c1) [] [])]))]⟩ (sr (vr (zL a0) (vu (.clo 107 [] [(.ref (.clo 71 [] [(.ref (i6 a1c0) [] []),(.ref (zJ a1c1) [] [])]) [] [])]) [(3,bf (.clo 71 [] [(.ref (i6 a1c0) [] []),(.ref (zJ a1c1) [] [])]))] rfl trivial rfl ?_))))))
 obtain ⟨r1,hr2,h⟩:=bind_some h
 refine ca (vK a0 a1c0 a1c1 r1 hr2) (vr (.bool (!r1)) (vr (.bool (!r1)) (nx _ rfl (zU ?_))))
 refine ⟨.inr rfl,?_⟩
 rw [Tryz.results70]
 cases h
 exact ⟨_,_,_,_,_,rfl,trivial,.inl ⟨rfl,.inl rfl⟩,rfl,rfl⟩
def zl5:Live:=[(0,[0]),(1,[1])]
noncomputable def qE (a0:(Int×(List Int))):Option Int :=
 (Option.bind (xF a0.2) fun r2=>(some (IntKind.i64.wrap (Int.tdiv (IntKind.i64.wrap (r2 - 1)) 2))))
theorem zfp (a0:(Int×(List Int))) (r:Int) (h:qE a0=some r):Den Tryz.prog 108 [(zK a0)] { r:=(i6 r) }:=by
 refine dd (rs:=[(i6 r)]) (L:=zl5) xL [] Tryz.func108 Tryz.ntmps108 ?_
 refine ns ⟨[(0,zK a0)],[]⟩ ?_
 refine sr (vo 1100 (zK a0) rfl rfl (vr (i6 0) (nk ⟨[(1,ow 1)],[(1,bk (zK a0))]⟩ (sr (vb (.own 1 [1] [1]) rfl rfl ?_)))))
 have hl1:LdOk [1] (zK a0) [1] 1 false (zI a0.2):=(.fld rfl rfl rfl rfl (.nil rfl rfl rfl))
 refine vq (zI a0.2) (zM (i:=⟨.slice 2,1,24,(zI [])⟩) rfl rfl rfl hl1) hl1.c ?_
 obtain ⟨r2,hr3,h⟩:=bind_some h
 refine ca (qA a0.2 r2 hr3) (vr (i6 (IntKind.i64.wrap (r2 - 1))) (vq (i6 (IntKind.i64.wrap (Int.tdiv (IntKind.i64.wrap (r2 - 1)) 2))) rfl (by decide) (vr (i6 (IntKind.i64.wrap (Int.tdiv (IntKind.i64.wrap (r2 - 1)) 2))) (nx _ rfl (zU ?_)))))
 refine ⟨.inr rfl,?_⟩
 rw [Tryz.results108]
 cases h
 exact ⟨_,_,_,_,_,rfl,trivial,.inl ⟨rfl,.inl rfl⟩,rfl,rfl⟩
def zi0:Live:=[(0,[0,1]),(1,[2,3])]
noncomputable def qC (a0:(Int×(List Int))) (a1:((List Int)×(List Int))):Option Bool :=
 (Option.bind (xF a1.1) fun r8=>(Option.bind (qE a0) fun r11=>(some ((decide (r8≤r11))))))
theorem zdu (a0:(Int×(List Int))) (a1:((List Int)×(List Int))) (r:Bool) (h:qC a0 a1=some r):Den Tryz.prog 73 [(zK a0),(zC a1)] { r:=(.bool r) }:=by
 refine dd (rs:=[(.bool r)]) (L:=zi0) xL [] Tryz.func73 Tryz.ntmps73 ?_
 refine ns ⟨[(0,zK a0),(1,zC a1)],[]⟩ ?_
 refine sr (vo 1200 (zK a0) rfl rfl (vo 1300 (zC a1) rfl rfl (vr (.bool false) (nk ⟨[(2,ow 2),(3,ow 3)],[(2,bk (zK a0)),(3,bk (zC a1))]⟩ (yC (xH [⟨[3],[],[3],[]⟩,⟨[3],[],[],[0]⟩,⟨[],[],[],[0,1]⟩,⟨[2],[],[],[]⟩,⟨[],[],[],[0,1,2,3]⟩,⟨[],[],[],[0,1,2,3,4]⟩,⟨[],[],[],[0,1,2,3,4,5]⟩] (by kernel_rfl) (zH (vb (.own 3 [0] [0]) rfl rfl (dn ?_)))))))))
 refine zH ?_
 have hl7:LdOk [0] (zC a1) [0] 1 false (zI a1.1):=(.fld rfl rfl rfl rfl (.nil rfl rfl rfl))
 refine vq (zI a1.1) (zM (i:=⟨.slice 2,1,24,(zI [])⟩) rfl rfl rfl hl7) hl7.c (dn (zH ?_))
 obtain ⟨r8,hr9,h⟩:=bind_some h
 refine ca (qA a1.1 r8 hr9) (dn (zH (vl (zK a0) rfl rfl rfl rfl rfl rfl (dn (zH ?_)))))
 obtain ⟨r11,hr12,h⟩:=bind_some h
 refine ca (zfp a0 r11 hr12) (dn (dj (.bool ((decide (r8≤r11)))) rfl (dj (.bool ((decide (r8≤r11)))) rfl (xE (wC rfl (zU ?_))))))
 refine ⟨.inr rfl,?_⟩
 rw [Tryz.results73]
 cases h
 exact ⟨_,_,_,_,_,rfl,trivial,.inl ⟨rfl,.inl rfl⟩,rfl,rfl⟩
def zgv:Live:=[(0,[0,1,2]),(1,[1,2,3])]
noncomputable def zam (a0:((Vec Int 64)×(Vec Int 64))) (a1:Int) (a2:(Vec Int 64)):Option Bool :=
 (Option.bind (uT a1 a2) fun r12=>(Option.bind (vP a0) fun r15=>(Option.bind (qC r12 r15) fun r17=>(some r17))))
theorem zgb (a0:((Vec Int 64)×(Vec Int 64))) (a1:Int) (a2:(Vec Int 64)) (r:Bool) (h:zam a0 a1 a2=some r):Den Tryz.prog 72 [(zA a0),(.ref (i6 a1) [] []),(.ref (zJ a2) [] [])] { r:=(.bool r) }:=by
 refine dd (rs:=[(.bool r)]) (L:=zgv) xL [] Tryz.func72 Tryz.ntmps72 ?_
 refine ns ⟨[(0,zA a0),(1,.ref (i6 a1) [] []),(2,.ref (zJ a2) [] [])],[]⟩ ?_
 refine sr (vo 1300 (zA a0) rfl rfl (vr (.bool false) (nk ⟨[(1,.ref (i6 a1) [] []),(2,.ref (zJ a2) [] []),(3,ow 3)],[(3,bk (zA a0))]⟩ (yC (xH [⟨[],[],[],[]⟩,⟨[],[],[],[]⟩,⟨[],[],[],[0,1]⟩,⟨[3],[],[],[]⟩,⟨[],[],[],[0,1,2,3]⟩,⟨[],[],[],[0,1,2,3,4]⟩,⟨[],[],[],[0,1,2,3,4,5]⟩] (by kernel_rfl) (zH ?_))))))
 have hl10:LdOk [] (i6 a1) [] 1 false (i6 a1):=(.nil rfl rfl rfl)
 refine vq (i6 a1) (kC (i:=⟨.int .i64,1,8,(.int .i64 0)⟩) rfl rfl hl10) hl10.c (dn (zH ?_))
 have hl11:LdOk [] (zJ a2) [] 64 true (zJ a2):=(.nil rfl rfl rfl)
 refine vq (zJ a2) (kC (i:=⟨.arr 64 5,64,64,(zJ (yH 64 (0:Int)))⟩) rfl rfl hl11) hl11.c (dn (zH ?_))
 obtain ⟨r12,hr13,h⟩:=bind_some h
 refine ca (kY a1 a2 r12 hr13) (dn (zH (vl (zA a0) rfl rfl rfl rfl rfl rfl (dn (zH ?_)))))
 obtain ⟨r15,hr16,h⟩:=bind_some h
 refine ca (jS a0 r15 hr16) (dn (zH ?_))
 obtain ⟨r17,hr18,h⟩:=bind_some h
 refine ca (zdu r12 r15 r17 hr18) (dn (dj (.bool r17) rfl (xE (wC rfl (zU ?_)))))
 refine ⟨.inr rfl,?_⟩
 rw [Tryz.results72]
 cases h
 exact ⟨_,_,_,_,_,rfl,trivial,.inl ⟨rfl,.inl rfl⟩,rfl,rfl⟩
def zap:Live:=[(0,[0,1]),(1,[1,2])]
noncomputable def vX (a0:((Vec Int 64)×(Vec Int 64))) (a1c0:Int) (a1c1:(Vec Int 64)):Option Bool :=
 (Option.bind (zam a0 a1c0 a1c1) fun r3=>(some (!r3)))
theorem zag (a0:((Vec Int 64)×(Vec Int 64))) (a1c0:Int) (a1c1:(Vec Int 64)) (r:Bool) (h:vX a0 a1c0 a1c1=some r):Den Tryz.prog 107 [(zA a0),(.ref (.clo 72 [] [(.ref (i6 a1c0) [] []),(.ref (zJ a1c1) [] [])]) [] [])] { r:=(.bool r) }:=by
 refine dd (rs:=[(.bool r)]) (L:=zap) xL [] Tryz.func107 Tryz.ntmps107 ?_
 refine ns ⟨[(0,zA a0),(1,.ref (.clo 72 [] [(.ref (i6 a1c0) [] []),(.ref (zJ a1c1) [] [])]) [] [])],[]⟩ ?_
 refine sr (vo 1200 (zA a0) rfl rfl (vr (.bool false) (nk ⟨[(1,.ref (.clo 72 [] [(.ref (i6 a1c0) [] []),(.ref (zJ a1c1) [] [])]) [] []),(2,ow 2)],[(2,bk (zA a0))]⟩ (sr ?_))))
 have hl1:LdOk [] (.clo 72 [] [(.ref (i6 a1c0) [] []),(.ref (zJ a1c1) [] [])]) [] 1 false (.clo 72 [] [(.ref (i6 a1c0) [] []),(.ref (zJ a1c1) [] [])]):=(.nil rfl rfl rfl)
 refine vq (.clo 72 [] [(.ref (i6 a1c0) [] []),(.ref (zJ a1c1) [] [])]) (kC (i:=⟨.other,1,8,(.raw .nilFunc)⟩) rfl rfl hl1) hl1.c (vl (zA a0) rfl rfl rfl rfl rfl rfl ?_)
 obtain ⟨r3,hr4,h⟩:=bind_some h
 refine ca (zgb a0 a1c0 a1c1 r3 hr4) (vr (.bool (!r3)) (vr (.bool (!r3)) (nx _ rfl (zU ?_))))
 refine ⟨.inr rfl,?_⟩
 rw [Tryz.results107]
 cases h
 exact ⟨_,_,_,_,_,rfl,trivial,.inl ⟨rfl,.inl rfl⟩,rfl,rfl⟩
def uD:Live:=[(0,[0,1]),(1,[0,1]),(2,[0,1,7,8]),(3,[0,1,7,8]),(4,[0,1,5,7,8]),(5,[5]),(6,[0,1,7,8]),(7,[]),(100009,[0,1,7,8,9]),(100016,[0,1,5,7,8,16])]
noncomputable def yD (a0:(List ((Vec Int 64)×(Vec Int 64)))) (a1c0c0:Int) (a1c0c1:(Vec Int 64)) (x33:Int):Option (Int⊕(Unit⊕Int)) :=
 (if (decide (x33 < (a0.length:Int))) then (jA (0≤x33∧x33 < ((a0.length:Nat):Int)) ((Option.bind (vX (rd a0 x33.toNat) a1c0c0 a1c0c1) fun r46=>(if r46 then (some (.inr (.inr x33))) else (some (.inl (IntKind.i64.wrap (x33 + 1)))))))) else (some (.inr (((.inl ()))))))
noncomputable def yV (a0:(List ((Vec Int 64)×(Vec Int 64)))) (a1c0c0:Int) (a1c0c1:(Vec Int 64)):Option Int :=
 (Option.bind (α:=(Unit⊕Int)) ((yK (fun s:Int=>yD a0 a1c0c0 a1c0c1 s) 0)) fun z=>match z with | .inl _=>(some (-1)) | .inr r50=>(some r50))
theorem uB (a0:(List ((Vec Int 64)×(Vec Int 64)))) (a1c0c0:Int) (a1c0c1:(Vec Int 64)) (r:Int) (h:yV a0 a1c0c0 a1c0c1=some r):Den Tryz.prog 121 [(zL a0),(.clo 107 [] [(.ref (.clo 72 [] [(.ref (i6 a1c0c0) [] []),(.ref (zJ a1c0c1) [] [])]) [] [])])] { r:=(i6 r) }:=by
 refine dd (rs:=[(i6 r)]) (L:=uD) xL [] Tryz.func121 Tryz.ntmps121 ?_
 refine ns ⟨[(0,zL a0),(1,.clo 107 [] [(.ref (.clo 72 [] [(.ref (i6 a1c0c0) [] []),(.ref (zJ a1c0c1) [] [])]) [] [])])],[]⟩ ?_
 refine sr (vr (i6 0) (nk ⟨[(0,zL a0),(1,.clo 107 [] [(.ref (.clo 72 [] [(.ref (i6 a1c0c0) [] []),(.ref (zJ a1c0c1) [] [])]) [] [])])],[]⟩ ?_))
 obtain ⟨y24,hy25,hk26⟩:=bind_some h
 clear h
 refine yN (emb:=fun (s:Unit)=>⟨[],[]⟩) (kG:=fun s=>(.inl s)=y24) ?_ ?_
 ·rintro _ rfl
  have h:=hk26
  refine ns ⟨[],[]⟩ (sr (vr (i6 (-1)) (nx _ rfl (zU ?_))))
  refine ⟨.inr rfl,?_⟩
  rw [Tryz.results121]
  cases h
  exact ⟨_,_,_,_,_,rfl,trivial,.inl ⟨rfl,.inl rfl⟩,rfl,rfl⟩
 ·have h:=hy25
  refine sr (vr (zL a0) (vq (i6 (a0.length:Int)) (xX rfl rfl) trivial (vr (i6 0) (nk ⟨[(0,zL a0),(1,.clo 107 [] [(.ref (.clo 72 [] [(.ref (i6 a1c0c0) [] []),(.ref (zJ a1c0c1) [] [])]) [] [])]),(7,i6 (a0.length:Int)),(8,i6 0)],[]⟩ (yB ?_)))))
  refine xU (emb:=fun (s:Int)=>⟨[(0,zL a0),(1,.clo 107 [] [(.ref (.clo 72 [] [(.ref (i6 a1c0c0) [] []),(.ref (zJ a1c0c1) [] [])]) [] [])]),(7,i6 (a0.length:Int)),(8,i6 s)],[]⟩) (body:=(fun s:Int=>yD a0 a1c0c0 a1c0c1 s)) (G:=fun q=>some q=some y24) h rfl ?_ (by kernel_rfl)
  rintro X40 x33 x41 h hX42
  have h:yD a0 a1c0c0 a1c0c1 x33=some x41:=h
  refine ns ⟨[(0,zL a0),(1,.clo 107 [] [(.ref (.clo 72 [] [(.ref (i6 a1c0c0) [] []),(.ref (zJ a1c0c1) [] [])]) [] [])]),(7,i6 (a0.length:Int)),(8,i6 x33)],[]⟩ (sr (vr (.bool ((decide (x33 < (a0.length:Int))))) (nk ⟨[(0,zL a0),(1,.clo 107 [] [(.ref (.clo 72 [] [(.ref (i6 a1c0c0) [] []),(.ref (zJ a1c0c1) [] [])]) [] [])]),(7,i6 (a0.length:Int)),(8,i6 x33),(9,.bool ((decide (x33 < (a0.length:Int)))))],[]⟩ (yC ?_))))
  cases hb43:(decide (x33 < (a0.length:Int)))
  ·have h:=zW hb43 h
   refine zP rfl (xR (yI ?_))
   cases h
   have h:=hX42
   refine yI (xQ ?_)
   exact jl () h
  ·have h:=zV hb43 h
   refine zO rfl (yG (nj ⟨[(0,zL a0),(1,.clo 107 [] [(.ref (.clo 72 [] [(.ref (i6 a1c0c0) [] []),(.ref (zJ a1c0c1) [] [])]) [] [])]),(7,i6 (a0.length:Int)),(8,i6 x33)],[]⟩ (yC (yB (sr (vr (i6 x33) (vr (i6 x33) (nk ⟨[(0,zL a0),(1,.clo 107 [] [(.ref (.clo 72 [] [(.ref (i6 a1c0c0) [] []),(.ref (zJ a1c0c1) [] [])]) [] [])]),(5,i6 x33),(7,i6 (a0.length:Int)),(8,i6 x33)],[]⟩ (sr ?_)))))))))
   refine vr (.clo 107 [] [(.ref (.clo 72 [] [(.ref (i6 a1c0c0) [] []),(.ref (zJ a1c0c1) [] [])]) [] [])]) (vr (zL a0) (vr (i6 x33) ?_))
   obtain ⟨hc44,h⟩:=zT h
   refine vq (.ref (.row 128 (a0.map zA)) [x33.toNat] [x33.toNat*128]) rfl (zdp hc44) ?_
   have hl45:LdOk [x33.toNat] (.row 128 (a0.map zA)) [x33.toNat*128] 128 true (zA (rd a0 x33.toNat)):=(.row (llt hc44) rfl (.nil rfl rfl rfl))
   refine vq (zA (rd a0 x33.toNat)) (kC (i:=⟨.struct [(0,25),(64,25)],128,128,xA⟩) rfl rfl hl45) hl45.c ?_
   obtain ⟨r46,hr47,h⟩:=bind_some h
   refine ca (zag (rd a0 x33.toNat) a1c0c0 a1c0c1 r46 hr47) (nk ⟨[(0,zL a0),(1,.clo 107 [] [(.ref (.clo 72 [] [(.ref (i6 a1c0c0) [] []),(.ref (zJ a1c0c1) [] [])]) [] [])]),(5,i6 x33),(7,i6 (a0.length:Int)),(8,i6 x33),(16,.bool r46)],[]⟩ ?_)
   cases hb48:r46
   ·have h:=zW hb48 h
    refine zP rfl (yG (xI (nj ⟨[(0,zL a0),(1,.clo 107 [] [(.ref (.clo 72 [] [(.ref (i6 a1c0c0) [] []),(.ref (zJ a1c0c1) [] [])]) [] [])]),(7,i6 (a0.length:Int)),(8,i6 x33)],[]⟩ (zR (vr (i6 (IntKind.i64.wrap (x33 + 1))) (vr (i6 (IntKind.i64.wrap (x33 + 1))) (yJ ?_)))))))
    cases h
    exact ag hX42
   ·have h:=zV hb48 h
    refine zO rfl (sr (vr (i6 x33) (vr (i6 x33) (nx _ rfl (zU (zaz (xV ?_)))))))
    cases h
    have h:=hX42
    refine xV (zaz (xV ?_))
    cases h
    have h:=hk26
    refine ⟨.inr rfl,?_⟩
    rw [Tryz.results121]
    cases h
    exact ⟨_,_,_,_,_,rfl,trivial,.inl ⟨rfl,.inl rfl⟩,rfl,rfl⟩
def vO:Live:=[(0,[0,1]),(1,[0,1])]
noncomputable def yU (a0:(List ((Vec Int 64)×(Vec Int 64)))) (a1c0c0:Int) (a1c0c1:(Vec Int 64)):Option Bool :=
 (Option.bind (yV a0 a1c0c0 a1c0c1) fun r1=>(some ((decide (r1 ≥ 0)))))
theorem vJ (a0:(List ((Vec Int 64)×(Vec Int 64)))) (a1c0c0:Int) (a1c0c1:(Vec Int 64)) (r:Bool) (h:yU a0 a1c0c0 a1c0c1=some r):Den Tryz.prog 106 [(zL a0),(.clo 107 [] [(.ref (.clo 72 [] [(.ref (i6 a1c0c0) [] []),(.ref (zJ a1c0c1) [] [])]) [] [])])] { r:=(.bool r) }:=by
 refine dd (rs:=[(.bool r)]) (L:=vO) xL [] Tryz.func106 Tryz.ntmps106 ?_
 refine ns ⟨[(0,zL a0),(1,.clo 107 [] [(.ref (.clo 72 [] [(.ref (i6 a1c0c0) [] []),(.ref (zJ a1c0c1) [] [])]) [] [])])],[]⟩ ?_
 refine sr (vr (.bool false) (nk ⟨[(0,zL a0),(1,.clo 107 [] [(.ref (.clo 72 [] [(.ref (i6 a1c0c0) [] []),(.ref (zJ a1c0c1) [] [])]) [] [])])],[]⟩ (sr (vr (zL a0) (vr (.clo 107 [] [(.ref (.clo 72 [] [(.ref (i6 a1c0c0) [] []),(.ref (zJ a1c0c1) [] [])]) [] [])]) ?_)))))
 obtain ⟨r1,hr2,h⟩:=bind_some h
 refine ca (uB a0 a1c0c0 a1c0c1 r1 hr2) (vr (.bool ((decide (r1 ≥ 0)))) (vr (.bool ((decide (r1 ≥ 0)))) (nx _ rfl (zU ?_))))
 refine ⟨.inr rfl,?_⟩
 rw [Tryz.results106]
 cases h
 exact ⟨_,_,_,_,_,rfl,trivial,.inl ⟨rfl,.inl rfl⟩,rfl,rfl⟩
def mN:Live:=[(0,[0,1]),(1,[0,3])]
noncomputable def wD (a0:(List ((Vec Int 64)×(Vec Int 64)))) (a1c0:Int) (a1c1:(Vec Int 64)):Option Bool :=
 (Option.bind (yU a0 a1c0 a1c1) fun r1=>(some (!r1)))
theorem mG (a0:(List ((Vec Int 64)×(Vec Int 64)))) (a1c0:Int) (a1c1:(Vec Int 64)) (r:Bool) (h:wD a0 a1c0 a1c1=some r):Den Tryz.prog 70 [(zL a0),(.clo 72 [] [(.ref (i6 a1c0) [] []),(.ref (zJ a1c1) [] [])])] { r:=(.bool r) }:=by
 refine dd (rs:=[(.bool r)]) (L:=mN) xL [] Tryz.func70 Tryz.ntmps70 ?_
 refine ns ⟨[(0,zL a0),(1,.clo 72 [] [(.ref (i6 a1c0) [] []),(.ref (zJ a1c1) [] [])])],[]⟩ ?_
 refine sr (vo 1300 (.clo 72 [] [(.ref (i6 a1c0) [] []),(.ref (zJ a1c1) [] [])]) rfl rfl (vr (.bool false) (nk ⟨[(0,zL a0),(3,ow 3)],[(3,bk (.clo 72 [] [(.ref (i6 a1c0) [] []),(.ref (zJ a1c1) [] [])]))]⟩ (sr (vr (zL a0) (vu (.clo 107 [] [(.ref (.clo 72 [] [(.ref (i6 a1c0) [] []),(.ref (zJ a1c1) [] [])]) [] [])]) [(3,bf (.clo 72 [] [(.ref (i6 a1c0) [] []),(.ref (zJ a1c1) [] [])]))] rfl trivial rfl ?_))))))
 obtain ⟨r1,hr2,h⟩:=bind_some h
 refine ca (vJ a0 a1c0 a1c1 r1 hr2) (vr (.bool (!r1)) (vr (.bool (!r1)) (nx _ rfl (zU ?_))))
 refine ⟨.inr rfl,?_⟩
 rw [Tryz.results70]
 cases h
 exact ⟨_,_,_,_,_,rfl,trivial,.inl ⟨rfl,.inl rfl⟩,rfl,rfl⟩
def zo5:Live:=[(0,[0,1,2,3,4]),(1,[2,3,4,5,6]),(2,[]),(3,[2,3,4,5,6]),(4,[]),(5,[3,4,5,6]),(6,[]),(7,[]),(100011,[2,3,4,5,6,11]),(100022,[3,4,5,6,22]),(100025,[25])]
noncomputable def vF (a0:Int) (a1:(Vec Int 64)) (a2:Bool) (a3:Bool) (a4:(List ((Vec Int 64)×(Vec Int 64)))):Option Int :=
 (Option.bind (kW a0 a1) fun r11=>(if (!r11) then (some 1) else (Option.bind (yY a4 a0 a1) fun r14=>(if (!r14) then (some 1) else (if (!a2) then (some 2) else (Option.bind (α:=Bool) ((if a3 then (Option.bind (wD a4 a0 a1) fun r26=>(some (!r26))) else (some false))) fun x21=>(if x21 then (some 5) else (some 0))))))))
theorem nR (a0:Int) (a1:(Vec Int 64)) (a2:Bool) (a3:Bool) (a4:(List ((Vec Int 64)×(Vec Int 64)))) (r:Int) (h:vF a0 a1 a2 a3 a4=some r):Den Tryz.prog 31 [(i6 a0),(zJ a1),(.bool a2),(.bool a3),(zL a4)] { r:=(i6 r) }:=by
 refine dd (rs:=[(i6 r)]) (L:=zo5) xL [] Tryz.func31 Tryz.ntmps31 ?_
 refine ns ⟨[(0,i6 a0),(1,zJ a1),(2,.bool a2),(3,.bool a3),(4,zL a4)],[]⟩ ?_
 refine sr (vo 1500 (i6 a0) rfl rfl (vo 1600 (zJ a1) rfl rfl (vr (i6 0) (nk ⟨[(2,.bool a2),(3,.bool a3),(4,zL a4),(5,ow 5),(6,ow 6)],[(5,bk (i6 a0)),(6,bk (zJ a1))]⟩ (yC (yB (sr (vl (i6 a0) rfl rfl rfl rfl rfl rfl (vl (zJ a1) rfl rfl rfl rfl rfl rfl ?_)))))))))
 obtain ⟨r11,hr12,h⟩:=bind_some h
 refine ca (za2 a0 a1 r11 hr12) (vr (.bool (!r11)) (vr (.bool (!r11)) ?_))
 cases hb13:(!r11)
 ·have h:=zW hb13 h
  refine gp (zL a4) rfl rfl (zte rfl (v:=(.clo 71 [] [(.ref (i6 a0) [] []),(.ref (zJ a1) [] [])])) (u:=[(5,bf (i6 a0)),(6,bf (zJ a1))]) rfl trivial rfl ?_)
  obtain ⟨r14,hr15,h⟩:=bind_some h
  refine wQ rfl (args:=[(zL a4),(.clo 71 [] [(.ref (i6 a0) [] []),(.ref (zJ a1) [] [])])]) (u:=[]) (r:=(.bool r14)) rfl rfl (mH a4 a0 a1 r14 hr15) rfl (gp (.bool (!r14)) rfl rfl (vr (.bool (!r14)) (vr (.bool (!r14)) (nk ⟨[(2,.bool a2),(3,.bool a3),(4,zL a4),(5,ow 5),(6,ow 6),(11,.bool (!r14))],[(5,bf (i6 a0)),(6,bf (zJ a1))]⟩ ?_))))
  cases hb16:(!r14)
  ·have h:=zW hb16 h
   refine zP rfl (sr (vr (.bool a2) (vr (.bool (!a2)) (vr (.bool (!a2)) (nk ⟨[(3,.bool a3),(4,zL a4),(5,ow 5),(6,ow 6),(22,.bool (!a2))],[(5,bf (i6 a0)),(6,bf (zJ a1))]⟩ ?_)))))
   cases hb17:(!a2)
   ·have h:=zW hb17 h
    refine zP rfl ?_
    obtain ⟨y22,hy23,hk24⟩:=bind_some h
    clear h
    refine yN (emb:=fun (s:Bool)=>⟨[(25,.bool s)],[]⟩) (kG:=fun s=>s=y22) ?_ ?_
    ·rintro x21 rfl
     have h:=hk24
     refine ns ⟨[(25,.bool x21)],[]⟩ ?_
     cases hb28:x21
     ·have h:=zW hb28 h
      refine zP rfl (yG (xI (nj ⟨[],[]⟩ (sr (vr (i6 0) (nx _ rfl (zU ?_)))))))
      refine ⟨.inr rfl,?_⟩
      rw [Tryz.results31]
      cases h
      exact ⟨_,_,_,_,_,rfl,trivial,.inl ⟨rfl,.inl rfl⟩,rfl,rfl⟩
     ·have h:=zV hb28 h
      refine zO rfl (sr (vr (i6 5) (nx _ rfl (zU (zaz (xV ?_))))))
      refine ⟨.inr rfl,?_⟩
      rw [Tryz.results31]
      cases h
      exact ⟨_,_,_,_,_,rfl,trivial,.inl ⟨rfl,.inl rfl⟩,rfl,rfl⟩
    ·have h:=hy23
     refine zR (vr (.bool a3) (vr (.bool a3) ?_))
     cases hb25:a3
     ·have h:=zW hb25 h
      refine zD rfl (zD rfl (zD rfl (zD rfl (vr (.bool false) (vr (.bool false) (yJ ?_))))))
      exact jl false h
     ·have h:=zV hb25 h
      refine gp (zL a4) rfl rfl (zte rfl (v:=(.clo 72 [] [(.ref (i6 a0) [] []),(.ref (zJ a1) [] [])])) (u:=[(5,bf (i6 a0)),(6,bf (zJ a1))]) rfl trivial rfl ?_)
      obtain ⟨r26,hr27,h⟩:=bind_some h
      refine wQ rfl (args:=[(zL a4),(.clo 72 [] [(.ref (i6 a0) [] []),(.ref (zJ a1) [] [])])]) (u:=[]) (r:=(.bool r26)) rfl rfl (mG a4 a0 a1 r26 hr27) rfl (gp (.bool (!r26)) rfl rfl (vr (.bool (!r26)) (vr (.bool (!r26)) (yJ ?_))))
      exact jl (!r26) h
   ·have h:=zV hb17 h
    refine zO rfl (sr (vr (i6 2) (nx _ rfl (zU (zaz (xV ?_))))))
    refine ⟨.inr rfl,?_⟩
    rw [Tryz.results31]
    cases h
    exact ⟨_,_,_,_,_,rfl,trivial,.inl ⟨rfl,.inl rfl⟩,rfl,rfl⟩
  ·have h:=zV hb16 h
   refine zO rfl (sr (vr (i6 1) (nx _ rfl (zU (zaz (xV ?_))))))
   refine ⟨.inr rfl,?_⟩
   rw [Tryz.results31]
   cases h
   exact ⟨_,_,_,_,_,rfl,trivial,.inl ⟨rfl,.inl rfl⟩,rfl,rfl⟩
 ·have h:=zV hb13 h
  refine zD rfl (zD rfl (zD rfl (zD rfl (vr (.bool true) (vr (.bool true) (nk ⟨[(2,.bool a2),(3,.bool a3),(4,zL a4),(5,ow 5),(6,ow 6),(11,.bool true)],[(5,bk (i6 a0)),(6,bk (zJ a1))]⟩ (zO rfl (sr (vr (i6 1) ?_)))))))))
  refine nx _ rfl (zU (zaz (xV ?_)))
  refine ⟨.inr rfl,?_⟩
  rw [Tryz.results31]
  cases h
  exact ⟨_,_,_,_,_,rfl,trivial,.inl ⟨rfl,.inl rfl⟩,rfl,rfl⟩
end Go.Proofs.YtebfhlnfmkhmcaaGreat
