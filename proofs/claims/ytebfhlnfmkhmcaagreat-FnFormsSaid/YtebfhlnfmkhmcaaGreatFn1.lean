/- Functions of the program: plain Lean functions, and that the program computes them. Printed by gen.py. -/
import Derived.Test.YtebfhlnfmkhmcaaGreatFnT
namespace Go.Proofs.YtebfhlnfmkhmcaaGreat
open Go.Abs Go.Proofs
set_option linter.unusedSimpArgs false
set_option linter.unusedVariables false
set_option maxHeartbeats 16000000
attribute [local irreducible] Abs.acode Abs.aops Abs.aopsT Abs.thenK Abs.blockK

def zv6:Live:=[(0,[0]),(1,[0])]
noncomputable def zqk (a0:(List Int)):Option Bool :=
 (some ((decide ((a0.length:Int) > 4096))))
theorem zt5 (a0:(List Int)) (r:Bool) (h:zqk a0=some r):Den Tryz.prog 4 [(xJ a0)] { r:=(.bool r) }:=by
 refine dd (rs:=[(.bool r)]) (L:=zv6) xL [] Tryz.func4 Tryz.ntmps4 ?_
 refine ns ⟨[(0,xJ a0)],[]⟩ ?_
 refine sr (vr (.bool false) (nk ⟨[(0,xJ a0)],[]⟩ (sr (vr (xJ a0) (vq (i6 (a0.length:Int)) (xX rfl rfl) trivial (vr (.bool ((decide ((a0.length:Int) > 4096)))) (vr (.bool ((decide ((a0.length:Int) > 4096)))) (nx _ rfl (zU ?_)))))))))
 refine ⟨.inr rfl,?_⟩
 rw [Tryz.results4]
 cases h
 exact ⟨_,_,_,_,_,rfl,trivial,.inl ⟨rfl,.inl rfl⟩,rfl,rfl⟩
noncomputable def zkc:ACode:=mO [] (Tryz.f27.body.getD .skip)
def zqf:Live:=[(0,[0]),(1,[0]),(2,[0,3]),(3,[0,3,4]),(4,[0,3,4]),(5,[0,3,4]),(6,[3]),(100019,[0,3,4,19])]
noncomputable def uG (a0:(List Int)) (x89:Int) (x90:((List Int)×Int×Int)):Option ((Int×((List Int)×Int×Int))⊕((List Int)×Int×Int)) :=
 (Option.bind (α:=Bool) ((if (decide (x89 < (a0.length:Int))) then (some ((decide (x89 < 4096)))) else (some false))) fun x114=>(if x114 then (jA (0≤x89∧x89 < ((a0.length:Nat):Int)) ((kR (IntKind.u64.wrap ((IntKind.u64.wrap (x90.2.2*1099511628211)) + (IntKind.u64.wrap (rd a0 x89.toNat)))) fun x129=>(some (.inl ((IntKind.i64.wrap (x89 + 1),(x90.1,x90.2.1,IntKind.u64.wrap (x129 + 61))))))))) else (some (.inr x90))))
noncomputable def jO (a0:(List Int)):Option ((List Int)×Int×Int) :=
 (kR (IntKind.u64.wrap (12251 + (IntKind.u64.wrap (a0.length:Int)))) fun x1=>(Option.bind (α:=((List Int)×Int×Int)) ((yK (fun s:(Int×((List Int)×Int×Int))=>uG a0 s.1 s.2) (0,(a0,(0:Int),x1)))) fun x66=>(some x66)))
theorem nE (a0:(List Int)) (r:((List Int)×Int×Int)) (h:jO a0=some r):Den Tryz.prog 27 [(xJ a0)] { r:=(ow 2000000),ms:=[],fs:=[(0,[zB r])] }:=by
 refine zed (rs:=[(ow 2000000)]) (ac:=zkc) (L:=zqf) (n:=38) (m:=[]) (c:=Tryz.f27.body.getD .skip) xL Tryz.func27 (by kernel_rfl) (by kernel_rfl) Tryz.ntmps27 rfl rfl (by kernel_rfl) rfl ?_
 refine ns ⟨[(0,xJ a0)],[]⟩ ?_
 unfold zkc
 refine sr (vr (.raw (.pointer none)) (nk ⟨[(0,xJ a0)],[]⟩ (sr (vr (xJ a0) (vr (xJ a0) (vq (i6 (a0.length:Int)) (xX rfl rfl) trivial (vr (.int .u64 (IntKind.u64.wrap (a0.length:Int))) ?_)))))))
 obtain ⟨x1,hx2,h⟩:=xP h
 refine qI (v:=(.int .u64 (IntKind.u64.wrap (12251 + (IntKind.u64.wrap (a0.length:Int)))))) (v':=(.int .u64 x1)) (u:=[]) (u':=[]) rfl (congrArg (fun z=>((.int .u64 z):AV)) hx2) rfl trivial rfl (vq (zB ((a0,(0:Int),x1))) rfl ⟨rfl,(all_cons ⟨(yS rfl),rfl⟩ (all_cons ⟨(yS rfl),rfl⟩ all_nil))⟩ (vo 2100 (zB ((a0,(0:Int),x1))) rfl rfl (vr (ow 2100) (nk ⟨[(0,xJ a0),(3,ow 3)],[(3,bk (zB ((a0,(0:Int),x1))))]⟩ ?_))))
 obtain ⟨y67,hy68,hk69⟩:=bind_some h
 clear h
 refine yN (emb:=fun (s:((List Int)×Int×Int))=>⟨[(3,ow 3)],[(3,bk (zB s))]⟩) (kG:=fun s=>s=y67) ?_ ?_
 ·rintro x66 rfl
  have h:=hk69
  refine ns ⟨[(3,ow 3)],[(3,bk (zB x66))]⟩ (sr (vr (ow 3) (vr (ow 3) (nx _ rfl (zU ?_)))))
  refine ⟨.inr rfl,?_⟩
  rw [Tryz.results27]
  cases h
  exact ⟨[some 3],⟨_,_,_,_,_,rfl,trivial,rfl,.inr (.inr (.inl ⟨_,_,_,_,rfl,rfl,rfl,rfl,rfl,⟨rfl,rfl,rfl⟩⟩))⟩,rfl,rfl⟩
 ·have h:=hy68
  refine sr (vr (i6 0) (nk ⟨[(0,xJ a0),(3,ow 3),(4,i6 0)],[(3,bk (zB ((a0,(0:Int),x1))))]⟩ (yB ?_)))
  refine xU (emb:=fun (s:(Int×((List Int)×Int×Int)))=>⟨[(0,xJ a0),(3,ow 3),(4,i6 s.1)],[(3,bk (zB s.2))]⟩) (body:=(fun s:(Int×((List Int)×Int×Int))=>uG a0 s.1 s.2)) (G:=fun q=>some q=some y67) h rfl ?_ (by kernel_rfl)
  rintro X110 ⟨x89,x90⟩ x111 h hX112
  have h:uG a0 x89 x90=some x111:=h
  refine ns ⟨[(0,xJ a0),(3,ow 3),(4,i6 x89)],[(3,bk (zB x90))]⟩ (yC ?_)
  obtain ⟨y115,hy116,hk117⟩:=bind_some h
  clear h
  refine yN (emb:=fun (s:Bool)=>⟨[(0,xJ a0),(3,ow 3),(4,i6 x89),(19,.bool s)],[(3,bk (zB x90))]⟩) (kG:=fun s=>s=y115) ?_ ?_
  ·rintro x114 rfl
   have h:=hk117
   refine ns ⟨[(0,xJ a0),(3,ow 3),(4,i6 x89),(19,.bool x114)],[(3,bk (zB x90))]⟩ ?_
   cases hb119:x114
   ·have h:=zW hb119 h
    refine zP rfl (xR (yI ?_))
    cases h
    have h:=hX112
    refine yI (xQ ?_)
    exact jl x90 h
   ·have h:=zV hb119 h
    refine zO rfl (yG (nj ⟨[(0,xJ a0),(3,ow 3),(4,i6 x89)],[(3,bk (zB x90))]⟩ (yC (yB (xH [⟨[],[],[3],[]⟩,⟨[],[],[3],[]⟩,⟨[3],[],[3],[1]⟩,⟨[3],[],[3],[1,2]⟩,⟨[3],[],[],[1,2,3]⟩,⟨[],[],[],[1,2,3,4]⟩,⟨[],[],[],[]⟩,⟨[],[],[],[]⟩,⟨[],[],[],[6,7]⟩,⟨[],[],[],[6,7,8]⟩,⟨[],[],[],[6,7,8,9]⟩,⟨[],[],[],[1,2,3,4,5,6,7,8,9,10]⟩,⟨[],[],[],[1,2,3,4,5,6,7,8,9,10,11]⟩,⟨[3],[],[3],[0,1,2,3,4,5,6,7,8,9,10,11,12]⟩,⟨[3],[],[3],[0,1,2,3,4,5,6,7,8,9,10,11,12,13]⟩,⟨[3],[3],[],[0,1,2,3,4,5,6,7,8,9,10,11,12,13,14]⟩] (by kernel_rfl) (dj (ow 3) rfl (dj (ow 3) rfl (dj (ow 3) rfl (zH ?_)))))))))
    refine vb (.own 3 [2] [2]) rfl rfl (dn (zH ?_))
    have hl126:LdOk [2] (zB x90) [2] 1 false (.int .u64 x90.2.2):=(.fld rfl rfl rfl rfl (.nil rfl rfl rfl))
    refine vq (.int .u64 x90.2.2) (zM (i:=⟨.int .u64,1,8,(.int .u64 0)⟩) rfl rfl rfl hl126) hl126.c (dn (dj (.int .u64 (IntKind.u64.wrap (x90.2.2*1099511628211))) rfl (dj (xJ a0) rfl (dj (i6 x89) rfl (zH ?_)))))
    obtain ⟨hc127,h⟩:=zT h
    refine vq (.ref (.row 1 (a0.map (AV.int .u8))) [x89.toNat] [x89.toNat*1]) rfl (zdp hc127) (dn (zH ?_))
    have hl128:LdOk [x89.toNat] (.row 1 (a0.map (AV.int .u8))) [x89.toNat*1] 1 false (b8 (rd a0 x89.toNat)):=(.row (llt hc127) rfl (.nil rfl rfl rfl))
    refine vq (b8 (rd a0 x89.toNat)) (kC (i:=⟨.int .u8,1,1,(.int .u8 0)⟩) rfl rfl hl128) hl128.c (dn (dj (.int .u64 (IntKind.u64.wrap (rd a0 x89.toNat))) rfl (zH ?_)))
    obtain ⟨x129,hx130,h⟩:=xP h
    refine qI (v:=(.int .u64 (IntKind.u64.wrap ((IntKind.u64.wrap (x90.2.2*1099511628211)) + (IntKind.u64.wrap (rd a0 x89.toNat)))))) (v':=(.int .u64 x129)) (u:=[]) (u':=[]) rfl (congrArg (fun z=>((.int .u64 z):AV)) hx130) rfl trivial rfl (dn (dj (.int .u64 (IntKind.u64.wrap (x129 + 61))) rfl (dj (ow 3) rfl (zH (vb (.own 3 [2] [2]) rfl rfl (dn (zH ?_)))))))
    have hs131:StOk [2] (zB x90) [2] 1 (.int .u64 (IntKind.u64.wrap (x129 + 61))) (zB ((x90.1,x90.2.1,IntKind.u64.wrap (x129 + 61)))):=(.fld rfl rfl rfl rfl (.nil rfl rfl rfl rfl))
    refine vu .top [(3,bk (zB ((x90.1,x90.2.1,IntKind.u64.wrap (x129 + 61)))))] (qG (i:=⟨.int .u64,1,8,(.int .u64 0)⟩) rfl rfl (fun _=>rfl) rfl hs131) (hs131.c rfl) rfl (dn (xE (xI (nj ⟨[(0,xJ a0),(3,ow 3),(4,i6 x89)],[(3,bk (zB ((x90.1,x90.2.1,IntKind.u64.wrap (x129 + 61)))))]⟩ (zR (vr (i6 x89) (vr (i6 (IntKind.i64.wrap (x89 + 1))) (vr (i6 (IntKind.i64.wrap (x89 + 1))) (yJ ?_)))))))))
    cases h
    exact ag hX112
  ·have h:=hy116
   refine zR (vr (i6 x89) (vr (xJ a0) (vq (i6 (a0.length:Int)) (xX rfl rfl) trivial (vr (.bool ((decide (x89 < (a0.length:Int))))) (vr (.bool ((decide (x89 < (a0.length:Int))))) ?_)))))
   cases hb118:(decide (x89 < (a0.length:Int)))
   ·have h:=zW hb118 h
    refine zD rfl (zD rfl (vr (.bool false) (yJ ?_)))
    exact jl false h
   ·have h:=zV hb118 h
    refine gp (i6 x89) rfl rfl (gp (.bool ((decide (x89 < 4096)))) rfl rfl (vr (.bool ((decide (x89 < 4096)))) (yJ ?_)))
    exact jl ((decide (x89 < 4096))) h
noncomputable def zep:ACode:=mO [] (Tryz.f30.body.getD .skip)
def zjk:Live:=[(0,[0,1]),(1,[0,1]),(2,[]),(3,[0,1]),(4,[0,1]),(5,[0,1,5]),(6,[0,1,5]),(7,[0,1,5]),(8,[1,5]),(100007,[0,1,7]),(100033,[0,1,5,33])]
noncomputable def zS (a0:((List Int)×Int×Int)) (a1:Int):Option (Int×((List Int)×Int×Int)) :=
 (if (decide (a1 < 1)) then (some (0,a0)) else (kR (IntKind.u64.wrap ((IntKind.u64.wrap (a0.2.2*6364136223846793005)) + 1442695040888963407)) fun x3=>(kR (IntKind.u64.wrap (BitVec.ofInt IntKind.u64.bits (Int.fdiv x3 (2 ^ (min (33:Int).toNat IntKind.u64.bits))) &&& BitVec.ofInt IntKind.u64.bits 16777215).toNat) fun x7=>(Option.bind (α:=(Int×((List Int)×Int×Int))) ((if (decide (a0.2.1 < (a0.1.length:Int))) then (jA (0≤a0.2.1∧a0.2.1 < ((a0.1.length:Nat):Int)) ((kR (IntKind.i64.wrap ((IntKind.i64.wrap x7) + (IntKind.i64.wrap (rd a0.1 a0.2.1.toNat)))) fun x48=>(some ((x48,(a0.1,IntKind.i64.wrap (a0.2.1 + 1),x3))))))) else (some ((IntKind.i64.wrap x7,(a0.1,a0.2.1,x3)))))) fun ⟨x28,x29⟩=>(jA (a1 ≠ 0) ((some (Int.tmod x28 a1,x29))))))))
theorem yA (a0:((List Int)×Int×Int)) (a1:Int) (r:(Int×((List Int)×Int×Int))) (h:zS a0 a1=some r):Den Tryz.prog 30 [(.mutp (zB a0)),(i6 a1)] { r:=(i6 r.1),ms:=[(zB r.2)],fs:=[] }:=by
 refine zed (rs:=[(i6 r.1)]) (ac:=zep) (L:=zjk) (n:=58) (m:=[]) (c:=Tryz.f30.body.getD .skip) xL Tryz.func30 (by kernel_rfl) (by kernel_rfl) Tryz.ntmps30 rfl rfl (by kernel_rfl) rfl ?_
 refine ns ⟨[(0,ow 1000000),(1,i6 a1)],[(1000000,bk (zB a0))]⟩ ?_
 unfold zep
 refine sr (vr (i6 0) (nk ⟨[(0,ow 1000000),(1,i6 a1)],[(1000000,bk (zB a0))]⟩ (yC (sr (vr (i6 a1) (vr (.bool ((decide (a1 < 1)))) (nk ⟨[(0,ow 1000000),(1,i6 a1),(7,.bool ((decide (a1 < 1))))],[(1000000,bk (zB a0))]⟩ ?_)))))))
 cases hb1:(decide (a1 < 1))
 ·have h:=zW hb1 h
  refine zP rfl (yG (nj ⟨[(0,ow 1000000),(1,i6 a1)],[(1000000,bk (zB a0))]⟩ (sr (vr (ow 1000000) (vr (ow 1000000) (vr (ow 1000000) (vb (.own 1000000 [2] [2]) rfl rfl ?_)))))))
  have hl2:LdOk [2] (zB a0) [2] 1 false (.int .u64 a0.2.2):=(.fld rfl rfl rfl rfl (.nil rfl rfl rfl))
  refine vq (.int .u64 a0.2.2) (zM (i:=⟨.int .u64,1,8,(.int .u64 0)⟩) rfl rfl rfl hl2) hl2.c (vr (.int .u64 (IntKind.u64.wrap (a0.2.2*6364136223846793005))) ?_)
  obtain ⟨x3,hx4,h⟩:=xP h
  refine qI (v:=(.int .u64 (IntKind.u64.wrap ((IntKind.u64.wrap (a0.2.2*6364136223846793005)) + 1442695040888963407)))) (v':=(.int .u64 x3)) (u:=[]) (u':=[]) rfl (congrArg (fun z=>((.int .u64 z):AV)) hx4) rfl trivial rfl (vr (ow 1000000) (vb (.own 1000000 [2] [2]) rfl rfl ?_))
  have hs5:StOk [2] (zB a0) [2] 1 (.int .u64 x3) (zB (a0.1,a0.2.1,x3)):=(.fld rfl rfl rfl rfl (.nil rfl rfl rfl rfl))
  refine vu .top [(1000000,bk (zB (a0.1,a0.2.1,x3)))] (qG (i:=⟨.int .u64,1,8,(.int .u64 0)⟩) rfl rfl (fun _=>rfl) rfl hs5) (hs5.c rfl) rfl (nk ⟨[(0,ow 1000000),(1,i6 a1)],[(1000000,bk (zB (a0.1,a0.2.1,x3)))]⟩ (sr (vr (ow 1000000) (vr (ow 1000000) (vb (.own 1000000 [2] [2]) rfl rfl ?_)))))
  have hl6:LdOk [2] (zB (a0.1,a0.2.1,x3)) [2] 1 false (.int .u64 x3):=(.fld rfl rfl rfl rfl (.nil rfl rfl rfl))
  refine vq (.int .u64 x3) (zM (i:=⟨.int .u64,1,8,(.int .u64 0)⟩) rfl rfl rfl hl6) hl6.c (vq (.int .u64 (Int.fdiv x3 (2 ^ (min (33:Int).toNat IntKind.u64.bits)))) rfl (by decide) ?_)
  obtain ⟨x7,hx8,h⟩:=xP h
  refine qI (v:=(.int .u64 (IntKind.u64.wrap (BitVec.ofInt IntKind.u64.bits (Int.fdiv x3 (2 ^ (min (33:Int).toNat IntKind.u64.bits))) &&& BitVec.ofInt IntKind.u64.bits 16777215).toNat))) (v':=(.int .u64 x7)) (u:=[]) (u':=[]) rfl (congrArg (fun z=>((.int .u64 z):AV)) hx8) rfl trivial rfl (vr (i6 (IntKind.i64.wrap x7)) (vr (i6 (IntKind.i64.wrap x7)) (nk ⟨[(0,ow 1000000),(1,i6 a1),(5,i6 (IntKind.i64.wrap x7))],[(1000000,bk (zB (a0.1,a0.2.1,x3)))]⟩ ?_)))
  obtain ⟨y30,hy31,hk32⟩:=bind_some h
  clear h
  refine yN (emb:=fun (s:(Int×((List Int)×Int×Int)))=>⟨[(1,i6 a1),(5,i6 s.1)],[(1000000,bk (zB s.2))]⟩) (kG:=fun s=>s=y30) ?_ ?_
  ·rintro ⟨x28,x29⟩ rfl
   have h:=hk32
   refine ns ⟨[(1,i6 a1),(5,i6 x28)],[(1000000,bk (zB x29))]⟩ (sr (vr (i6 x28) (vr (i6 a1) ?_)))
   obtain ⟨hc52,h⟩:=zT h
   refine vq (i6 (Int.tmod x28 a1)) rfl hc52 (vr (i6 (Int.tmod x28 a1)) (nx _ rfl (zU ?_)))
   refine ⟨.inr rfl,?_⟩
   rw [Tryz.results30]
   cases h
   exact ⟨[],⟨_,_,_,_,_,rfl,trivial,rfl,.inl ⟨rfl,.inl rfl,⟨rfl,rfl,rfl⟩⟩⟩,rfl,⟨_,_,rfl,rfl,rfl⟩⟩
  ·have h:=hy31
   refine yC (xH [⟨[],[],[1000000],[]⟩,⟨[1000000],[],[1000000],[0]⟩,⟨[1000000],[],[1000000],[0,1]⟩,⟨[1000000],[],[],[0,1,2]⟩,⟨[],[],[1000000],[]⟩,⟨[1000000],[],[1000000],[4]⟩,⟨[1000000],[],[1000000],[4,5]⟩,⟨[1000000],[],[],[4,5,6]⟩,⟨[],[],[],[4,5,6,7]⟩,⟨[],[],[],[0,1,2,3,4,5,6,7,8]⟩] (by kernel_rfl) (dj (ow 1000000) rfl (dj (ow 1000000) rfl (zH (vb (.own 1000000 [1] [1]) rfl rfl (dn (zH ?_)))))))
   have hl35:LdOk [1] (zB (a0.1,a0.2.1,x3)) [1] 1 false (i6 a0.2.1):=(.fld rfl rfl rfl rfl (.nil rfl rfl rfl))
   refine vq (i6 a0.2.1) (zM (i:=⟨.int .i64,1,8,(.int .i64 0)⟩) rfl rfl rfl hl35) hl35.c (dn (dj (ow 1000000) rfl (dj (ow 1000000) rfl (zH (vb (.own 1000000 [0] [0]) rfl rfl (dn (zH ?_)))))))
   have hl36:LdOk [0] (zB (a0.1,a0.2.1,x3)) [0] 1 false (xJ a0.1):=(.fld rfl rfl rfl rfl (.nil rfl rfl rfl))
   refine vq (xJ a0.1) (zM (i:=⟨.slice 5,1,24,(xJ [])⟩) rfl rfl rfl hl36) hl36.c (dn (zH (vq (i6 (a0.1.length:Int)) (xX rfl rfl) trivial (dn (dj (.bool ((decide (a0.2.1 < (a0.1.length:Int))))) rfl (xE (nj ⟨[(0,ow 1000000),(1,i6 a1),(5,i6 (IntKind.i64.wrap x7)),(33,.bool ((decide (a0.2.1 < (a0.1.length:Int)))))],[(1000000,bk (zB (a0.1,a0.2.1,x3)))]⟩ ?_)))))))
   cases hb37:(decide (a0.2.1 < (a0.1.length:Int)))
   ·have h:=zW hb37 h
    refine zP rfl (yG ?_)
    exact jl ((IntKind.i64.wrap x7,(a0.1,a0.2.1,x3))) h
   ·have h:=zV hb37 h
    refine zO rfl (yC (xH [⟨[],[],[],[]⟩,⟨[],[],[1000000],[]⟩,⟨[1000000],[],[1000000],[1]⟩,⟨[1000000],[],[1000000],[1,2]⟩,⟨[1000000],[],[],[1,2,3]⟩,⟨[],[],[1000000],[]⟩,⟨[1000000],[],[1000000],[5]⟩,⟨[1000000],[],[1000000],[5,6]⟩,⟨[1000000],[],[],[5,6,7]⟩,⟨[],[],[],[1,2,3,4,5,6,7,8]⟩,⟨[],[],[],[1,2,3,4,5,6,7,8,9]⟩,⟨[],[],[],[1,2,3,4,5,6,7,8,9,10]⟩,⟨[],[],[],[0,1,2,3,4,5,6,7,8,9,10,11]⟩,⟨[],[],[],[0,1,2,3,4,5,6,7,8,9,10,11,12]⟩] (by kernel_rfl) (dj (i6 (IntKind.i64.wrap x7)) rfl (dj (ow 1000000) rfl (dj (ow 1000000) rfl (zH (vb (.own 1000000 [0] [0]) rfl rfl (dn (zH ?_)))))))))
    have hl44:LdOk [0] (zB (a0.1,a0.2.1,x3)) [0] 1 false (xJ a0.1):=(.fld rfl rfl rfl rfl (.nil rfl rfl rfl))
    refine vq (xJ a0.1) (zM (i:=⟨.slice 5,1,24,(xJ [])⟩) rfl rfl rfl hl44) hl44.c (dn (dj (ow 1000000) rfl (dj (ow 1000000) rfl (zH (vb (.own 1000000 [1] [1]) rfl rfl (dn (zH ?_)))))))
    have hl45:LdOk [1] (zB (a0.1,a0.2.1,x3)) [1] 1 false (i6 a0.2.1):=(.fld rfl rfl rfl rfl (.nil rfl rfl rfl))
    refine vq (i6 a0.2.1) (zM (i:=⟨.int .i64,1,8,(.int .i64 0)⟩) rfl rfl rfl hl45) hl45.c (dn (zH ?_))
    obtain ⟨hc46,h⟩:=zT h
    refine vq (.ref (.row 1 (a0.1.map (AV.int .u8))) [a0.2.1.toNat] [a0.2.1.toNat*1]) rfl (zdp hc46) (dn (zH ?_))
    have hl47:LdOk [a0.2.1.toNat] (.row 1 (a0.1.map (AV.int .u8))) [a0.2.1.toNat*1] 1 false (b8 (rd a0.1 a0.2.1.toNat)):=(.row (llt hc46) rfl (.nil rfl rfl rfl))
    refine vq (b8 (rd a0.1 a0.2.1.toNat)) (kC (i:=⟨.int .u8,1,1,(.int .u8 0)⟩) rfl rfl hl47) hl47.c (dn (dj (i6 (IntKind.i64.wrap (rd a0.1 a0.2.1.toNat))) rfl (zH ?_)))
    obtain ⟨x48,hx49,h⟩:=xP h
    refine qI (v:=(i6 (IntKind.i64.wrap ((IntKind.i64.wrap x7) + (IntKind.i64.wrap (rd a0.1 a0.2.1.toNat)))))) (v':=(i6 x48)) (u:=[]) (u':=[]) rfl (congrArg (fun z=>((i6 z):AV)) hx49) rfl trivial rfl (dn (dj (i6 x48) rfl (xE (nj ⟨[(0,ow 1000000),(1,i6 a1),(5,i6 x48)],[(1000000,bk (zB (a0.1,a0.2.1,x3)))]⟩ (zR (vr (ow 1000000) (vr (ow 1000000) (vr (ow 1000000) (vb (.own 1000000 [1] [1]) rfl rfl ?_)))))))))
    have hl50:LdOk [1] (zB (a0.1,a0.2.1,x3)) [1] 1 false (i6 a0.2.1):=(.fld rfl rfl rfl rfl (.nil rfl rfl rfl))
    refine vq (i6 a0.2.1) (zM (i:=⟨.int .i64,1,8,(.int .i64 0)⟩) rfl rfl rfl hl50) hl50.c (vr (i6 (IntKind.i64.wrap (a0.2.1 + 1))) (vr (ow 1000000) (vb (.own 1000000 [1] [1]) rfl rfl ?_)))
    have hs51:StOk [1] (zB (a0.1,a0.2.1,x3)) [1] 1 (i6 (IntKind.i64.wrap (a0.2.1 + 1))) (zB ((a0.1,IntKind.i64.wrap (a0.2.1 + 1),x3))):=(.fld rfl rfl rfl rfl (.nil rfl rfl rfl rfl))
    refine vu .top [(1000000,bk (zB ((a0.1,IntKind.i64.wrap (a0.2.1 + 1),x3))))] (qG (i:=⟨.int .i64,1,8,(.int .i64 0)⟩) rfl rfl (fun _=>rfl) rfl hs51) (hs51.c rfl) rfl (yJ ?_)
    exact jl ((x48,(a0.1,IntKind.i64.wrap (a0.2.1 + 1),x3))) h
 ·have h:=zV hb1 h
  refine zO rfl (sr (vr (i6 0) (nx _ rfl (zU (xV ?_)))))
  refine ⟨.inr rfl,?_⟩
  rw [Tryz.results30]
  cases h
  exact ⟨[],⟨_,_,_,_,_,rfl,trivial,rfl,.inl ⟨rfl,.inl rfl,⟨rfl,rfl,rfl⟩⟩⟩,rfl,⟨_,_,rfl,rfl,rfl⟩⟩
noncomputable def zeq:ACode:=mO [(9,1)] (Tryz.f47.body.getD .skip)
def zjf:Live:=[(0,[0,1]),(1,[0,1])]
noncomputable def wA (a0:((List Int)×Int×Int)) (a1:(List Int)):Option (Int×((List Int)×Int×Int)) :=
 (Option.bind (zS a0 (a1.length:Int)) fun r1=>(jA (0≤r1.1∧r1.1 < ((a1.length:Nat):Int)) ((some (((rd a1 r1.1.toNat),r1.2))))))
theorem vA (a0:((List Int)×Int×Int)) (a1:(List Int)) (r:(Int×((List Int)×Int×Int))) (h:wA a0 a1=some r):Den Tryz.prog 47 [(.mutp (zB a0)),(zI a1)] { r:=(i6 r.1),ms:=[(zB r.2)],fs:=[] }:=by
 refine zed (rs:=[(i6 r.1)]) (ac:=zeq) (L:=zjf) (n:=12) (m:=[(9,1)]) (c:=Tryz.f47.body.getD .skip) xL Tryz.func47 (by kernel_rfl) (by kernel_rfl) Tryz.ntmps47 rfl rfl (by kernel_rfl) rfl ?_
 refine ns ⟨[(0,ow 1000000),(1,zI a1)],[(1000000,bk (zB a0))]⟩ ?_
 unfold zeq
 refine sr (vr (i6 0) (nk ⟨[(0,ow 1000000),(1,zI a1)],[(1000000,bk (zB a0))]⟩ (sr (vr (zI a1) (vr (ow 1000000) (vr (zI a1) (vq (i6 (a1.length:Int)) (xX rfl rfl) trivial ?_)))))))
 obtain ⟨r1,hr2,h⟩:=bind_some h
 refine xD (args:=[(.mutp (zB a0)),(i6 (a1.length:Int))]) (i:=0) (id:=1000000) (r:=(i6 r1.1)) (c:=(zB r1.2)) rfl rfl (yA a0 (a1.length:Int) r1 hr2) rfl trivial ?_
 obtain ⟨hc4,h⟩:=zT h
 refine vq (.ref (.row 1 (a1.map (AV.int .i64))) [r1.1.toNat] [r1.1.toNat*1]) rfl (zdp hc4) ?_
 have hl5:LdOk [r1.1.toNat] (.row 1 (a1.map (AV.int .i64))) [r1.1.toNat*1] 1 false (i6 (rd a1 r1.1.toNat)):=(.row (llt hc4) rfl (.nil rfl rfl rfl))
 refine vq (i6 (rd a1 r1.1.toNat)) (kC (i:=⟨.int .i64,1,8,(.int .i64 0)⟩) rfl rfl hl5) hl5.c (vr (i6 (rd a1 r1.1.toNat)) (nx _ rfl (zU ?_)))
 refine ⟨.inr rfl,?_⟩
 rw [Tryz.results47]
 cases h
 exact ⟨[],⟨_,_,_,_,_,rfl,trivial,rfl,.inl ⟨rfl,.inl rfl,⟨rfl,rfl,rfl⟩⟩⟩,rfl,⟨_,_,rfl,rfl,rfl⟩⟩
def zo3:Live:=[(0,[0]),(1,[0])]
noncomputable def zbt (a0:Int):Option Bool :=
 (if (a0 == 2) then (some true) else (if (a0 == 3) then (some true) else (if (a0 == 5) then (some true) else (some (a0 == 7)))))
theorem ze0 (a0:Int) (r:Bool) (h:zbt a0=some r):Den Tryz.prog 54 [(i6 a0)] { r:=(.bool r) }:=by
 refine dd (rs:=[(.bool r)]) (L:=zo3) xL [] Tryz.func54 Tryz.ntmps54 ?_
 refine ns ⟨[(0,i6 a0)],[]⟩ ?_
 refine sr (vr (.bool false) (nk ⟨[(0,i6 a0)],[]⟩ (sr (vr (i6 a0) (vr (.bool (a0 == 2)) (vr (.bool (a0 == 2)) ?_))))))
 cases hb1:(a0 == 2)
 ·have h:=zW hb1 h
  refine gp (i6 a0) rfl rfl (gp (.bool (a0 == 3)) rfl rfl (vr (.bool (a0 == 3)) (vr (.bool (a0 == 3)) ?_)))
  cases hb2:(a0 == 3)
  ·have h:=zW hb2 h
   refine gp (i6 a0) rfl rfl (gp (.bool (a0 == 5)) rfl rfl (vr (.bool (a0 == 5)) (vr (.bool (a0 == 5)) ?_)))
   cases hb3:(a0 == 5)
   ·have h:=zW hb3 h
    refine gp (i6 a0) rfl rfl (gp (.bool (a0 == 7)) rfl rfl (vr (.bool (a0 == 7)) (vr (.bool (a0 == 7)) (nx _ rfl (zU ?_)))))
    refine ⟨.inr rfl,?_⟩
    rw [Tryz.results54]
    cases h
    exact ⟨_,_,_,_,_,rfl,trivial,.inl ⟨rfl,.inl rfl⟩,rfl,rfl⟩
   ·have h:=zV hb3 h
    refine zD rfl (zD rfl (vr (.bool true) (vr (.bool true) (nx _ rfl (zU ?_)))))
    refine ⟨.inr rfl,?_⟩
    rw [Tryz.results54]
    cases h
    exact ⟨_,_,_,_,_,rfl,trivial,.inl ⟨rfl,.inl rfl⟩,rfl,rfl⟩
  ·have h:=zV hb2 h
   refine zD rfl (zD rfl (vr (.bool true) (vr (.bool true) (zD rfl (zD rfl (vr (.bool true) (vr (.bool true) (nx _ rfl (zU ?_)))))))))
   refine ⟨.inr rfl,?_⟩
   rw [Tryz.results54]
   cases h
   exact ⟨_,_,_,_,_,rfl,trivial,.inl ⟨rfl,.inl rfl⟩,rfl,rfl⟩
 ·have h:=zV hb1 h
  refine zD rfl (zD rfl (vr (.bool true) (vr (.bool true) (zD rfl (zD rfl (vr (.bool true) (vr (.bool true) (zD rfl (zD rfl ?_)))))))))
  refine vr (.bool true) (vr (.bool true) (nx _ rfl (zU ?_)))
  refine ⟨.inr rfl,?_⟩
  rw [Tryz.results54]
  cases h
  exact ⟨_,_,_,_,_,rfl,trivial,.inl ⟨rfl,.inl rfl⟩,rfl,rfl⟩
def zsj:Live:=[(0,[0,1]),(1,[0,3]),(2,[0,3,5]),(3,[0,3,5]),(4,[0,3,5]),(5,[]),(6,[0]),(100007,[0,3,5,7]),(100015,[0,3,5,15])]
noncomputable def zab (a1:(Vec Int 64)) (a0:Int) (x29:Int):Option (Int⊕(Unit⊕Bool)) :=
 (if (decide (x29 < 64)) then (jA (0≤x29∧x29 < ((64:Nat):Int)) ((if (decide ((IntKind.i64.wrap (rd a1.1 x29.toNat)) ≥ a0)) then (some (.inr (.inr false))) else (some (.inl (IntKind.i64.wrap (x29 + 1))))))) else (some (.inr (((.inl ()))))))
noncomputable def zcn (a0:Int) (a1:(Vec Int 64)):Option Bool :=
 (Option.bind (α:=(Unit⊕Bool)) ((yK (fun s:Int=>zab a1 a0 s) 0)) fun z=>match z with | .inl _=>(Option.bind (zbt a0) fun r42=>(some r42)) | .inr r44=>(some r44))
theorem ze6 (a0:Int) (a1:(Vec Int 64)) (r:Bool) (h:zcn a0 a1=some r):Den Tryz.prog 90 [(i6 a0),(zJ a1)] { r:=(.bool r) }:=by
 refine dd (rs:=[(.bool r)]) (L:=zsj) xL [] Tryz.func90 Tryz.ntmps90 ?_
 refine ns ⟨[(0,i6 a0),(1,zJ a1)],[]⟩ ?_
 refine sr (vo 1300 (zJ a1) rfl rfl (vr (.bool false) (nk ⟨[(0,i6 a0),(3,ow 3)],[(3,bk (zJ a1))]⟩ ?_)))
 obtain ⟨y20,hy21,hk22⟩:=bind_some h
 clear h
 refine yN (emb:=fun (s:Unit)=>⟨[(0,i6 a0)],[]⟩) (kG:=fun s=>(.inl s)=y20) ?_ ?_
 ·rintro _ rfl
  have h:=hk22
  refine ns ⟨[(0,i6 a0)],[]⟩ (sr (vr (i6 a0) ?_))
  obtain ⟨r42,hr43,h⟩:=bind_some h
  refine ca (ze0 a0 r42 hr43) (vr (.bool r42) (nx _ rfl (zU ?_)))
  refine ⟨.inr rfl,?_⟩
  rw [Tryz.results90]
  cases h
  exact ⟨_,_,_,_,_,rfl,trivial,.inl ⟨rfl,.inl rfl⟩,rfl,rfl⟩
 ·have h:=hy21
  refine sr (vr (i6 0) (nk ⟨[(0,i6 a0),(3,ow 3),(5,i6 0)],[(3,bk (zJ a1))]⟩ (yB ?_)))
  refine xU (emb:=fun (s:Int)=>⟨[(0,i6 a0),(3,ow 3),(5,i6 s)],[(3,bk (zJ a1))]⟩) (body:=(fun s:Int=>zab a1 a0 s)) (G:=fun q=>some q=some y20) h rfl ?_ (by kernel_rfl)
  rintro X34 x29 x35 h hX36
  have h:zab a1 a0 x29=some x35:=h
  refine ns ⟨[(0,i6 a0),(3,ow 3),(5,i6 x29)],[(3,bk (zJ a1))]⟩ (yC (sr (vr (i6 x29) (vr (.bool ((decide (x29 < 64)))) (nk ⟨[(0,i6 a0),(3,ow 3),(5,i6 x29),(7,.bool ((decide (x29 < 64))))],[(3,bk (zJ a1))]⟩ ?_)))))
  cases hb37:(decide (x29 < 64))
  ·have h:=zW hb37 h
   refine zP rfl (xR (yI ?_))
   cases h
   have h:=hX36
   refine yI (xQ ?_)
   exact jl () h
  ·have h:=zV hb37 h
   refine zO rfl (yG (nj ⟨[(0,i6 a0),(3,ow 3),(5,i6 x29)],[(3,bk (zJ a1))]⟩ (yC (yB (sr (vr (i6 x29) ?_))))))
   obtain ⟨hc38,h⟩:=zT h
   refine vq (.own 3 [x29.toNat] [x29.toNat*1]) rfl hc38 ?_
   have hl39:LdOk [x29.toNat] (zJ a1) [x29.toNat*1] 1 false (b8 (rd a1.1 x29.toNat)):=(.arr (vlt a1 hc38) rfl (.nil rfl rfl rfl))
   refine vq (b8 (rd a1.1 x29.toNat)) (zM (i:=⟨.int .u8,1,1,(.int .u8 0)⟩) rfl rfl rfl hl39) hl39.c (vr (i6 (IntKind.i64.wrap (rd a1.1 x29.toNat))) (vr (i6 a0) (vr (.bool ((decide ((IntKind.i64.wrap (rd a1.1 x29.toNat)) ≥ a0)))) (nk ⟨[(0,i6 a0),(3,ow 3),(5,i6 x29),(15,.bool ((decide ((IntKind.i64.wrap (rd a1.1 x29.toNat)) ≥ a0))))],[(3,bk (zJ a1))]⟩ ?_))))
   cases hb40:(decide ((IntKind.i64.wrap (rd a1.1 x29.toNat)) ≥ a0))
   ·have h:=zW hb40 h
    refine zP rfl (yG (xI (nj ⟨[(0,i6 a0),(3,ow 3),(5,i6 x29)],[(3,bk (zJ a1))]⟩ (zR (vr (i6 x29) (vr (i6 (IntKind.i64.wrap (x29 + 1))) (vr (i6 (IntKind.i64.wrap (x29 + 1))) (yJ ?_))))))))
    cases h
    exact ag hX36
   ·have h:=zV hb40 h
    refine zO rfl (sr (vr (.bool false) (nx _ rfl (zU (zaz (xV ?_))))))
    cases h
    have h:=hX36
    refine xV (zaz (xV ?_))
    cases h
    have h:=hk22
    refine ⟨.inr rfl,?_⟩
    rw [Tryz.results90]
    cases h
    exact ⟨_,_,_,_,_,rfl,trivial,.inl ⟨rfl,.inl rfl⟩,rfl,rfl⟩
def zq8:Live:=[(0,[0]),(1,[1]),(2,[1,3]),(3,[1,3]),(4,[3]),(100011,[1,3,11])]
noncomputable def nW (a0:(Vec Int 64)) (x54:Int):Option (Int⊕Int) :=
 (Option.bind (α:=Bool) ((if (decide (x54 ≥ 0)) then (jA (0≤x54∧x54 < ((64:Nat):Int)) ((some (((rd a0.1 x54.toNat) == 0))))) else (some false))) fun x72=>(if x72 then (some (.inl (IntKind.i64.wrap (x54 - 1)))) else (some (.inr x54))))
noncomputable def yW (a0:(Vec Int 64)):Option Int :=
 (Option.bind (α:=Int) ((yK (fun s:Int=>nW a0 s) 63)) fun x39=>(some x39))
theorem yZ (a0:(Vec Int 64)) (r:Int) (h:yW a0=some r):Den Tryz.prog 65 [(zJ a0)] { r:=(i6 r) }:=by
 refine dd (rs:=[(i6 r)]) (L:=zq8) xL [] Tryz.func65 Tryz.ntmps65 ?_
 refine ns ⟨[(0,zJ a0)],[]⟩ ?_
 refine sr (vo 1100 (zJ a0) rfl rfl (vr (i6 0) (nk ⟨[(1,ow 1)],[(1,bk (zJ a0))]⟩ (sr (vr (i6 63) (nk ⟨[(1,ow 1),(3,i6 63)],[(1,bk (zJ a0))]⟩ ?_))))))
 obtain ⟨y40,hy41,hk42⟩:=bind_some h
 clear h
 refine yN (emb:=fun (s:Int)=>⟨[(3,i6 s)],[]⟩) (kG:=fun s=>s=y40) ?_ ?_
 ·rintro x39 rfl
  have h:=hk42
  refine ns ⟨[(3,i6 x39)],[]⟩ (sr (vr (i6 x39) (vr (i6 x39) (nx _ rfl (zU ?_)))))
  refine ⟨.inr rfl,?_⟩
  rw [Tryz.results65]
  cases h
  exact ⟨_,_,_,_,_,rfl,trivial,.inl ⟨rfl,.inl rfl⟩,rfl,rfl⟩
 ·have h:=hy41
  refine yB ?_
  refine xU (emb:=fun (s:Int)=>⟨[(1,ow 1),(3,i6 s)],[(1,bk (zJ a0))]⟩) (body:=(fun s:Int=>nW a0 s)) (G:=fun q=>some q=some y40) h rfl ?_ (by kernel_rfl)
  rintro X66 x54 x67 h hX68
  have h:nW a0 x54=some x67:=h
  refine ns ⟨[(1,ow 1),(3,i6 x54)],[(1,bk (zJ a0))]⟩ (yC ?_)
  obtain ⟨y73,hy74,hk75⟩:=bind_some h
  clear h
  refine yN (emb:=fun (s:Bool)=>⟨[(1,ow 1),(3,i6 x54),(11,.bool s)],[(1,bk (zJ a0))]⟩) (kG:=fun s=>s=y73) ?_ ?_
  ·rintro x72 rfl
   have h:=hk75
   refine ns ⟨[(1,ow 1),(3,i6 x54),(11,.bool x72)],[(1,bk (zJ a0))]⟩ ?_
   cases hb79:x72
   ·have h:=zW hb79 h
    refine zP rfl (xR (yI ?_))
    cases h
    have h:=hX68
    refine yI (xQ ?_)
    exact jl x54 h
   ·have h:=zV hb79 h
    refine zO rfl (yG (nj ⟨[(1,ow 1),(3,i6 x54)],[(1,bk (zJ a0))]⟩ (yB (zR (vr (i6 x54) (vr (i6 (IntKind.i64.wrap (x54 - 1))) (vr (i6 (IntKind.i64.wrap (x54 - 1))) (yJ (xI ?_)))))))))
    cases h
    exact ag hX68
  ·have h:=hy74
   refine zR (vr (i6 x54) (vr (.bool ((decide (x54 ≥ 0)))) (vr (.bool ((decide (x54 ≥ 0)))) ?_)))
   cases hb76:(decide (x54 ≥ 0))
   ·have h:=zW hb76 h
    refine zD rfl (zD rfl (zD rfl (zD rfl (vr (.bool false) (yJ ?_)))))
    exact jl false h
   ·have h:=zV hb76 h
    refine gp (i6 x54) rfl rfl ?_
    obtain ⟨hc77,h⟩:=zT h
    refine gq (.own 1 [x54.toNat] [x54.toNat*1]) rfl rfl hc77 ?_
    have hl78:LdOk [x54.toNat] (zJ a0) [x54.toNat*1] 1 false (b8 (rd a0.1 x54.toNat)):=(.arr (vlt a0 hc77) rfl (.nil rfl rfl rfl))
    refine gq (b8 (rd a0.1 x54.toNat)) rfl (zM (i:=⟨.int .u8,1,1,(.int .u8 0)⟩) rfl rfl rfl hl78) hl78.c (gp (.bool (((rd a0.1 x54.toNat) == 0))) rfl rfl (vr (.bool (((rd a0.1 x54.toNat) == 0))) (yJ ?_)))
    exact jl (((rd a0.1 x54.toNat) == 0)) h
def zp4:Live:=[(0,[0,1]),(1,[0,1]),(2,[]),(3,[0,1]),(4,[0,1,5]),(5,[0,1,5]),(6,[0,1,5]),(7,[]),(8,[]),(100008,[0,1,8]),(100012,[0,1,5,12]),(100021,[0,1,5,21])]
noncomputable def nD (a1:(List (Vec Int 64))) (a0:Int) (x36:Int):Option (Int⊕(Unit⊕Int)) :=
 (if (decide (x36 < (a1.length:Int))) then (jA (0≤x36∧x36 < ((a1.length:Nat):Int)) ((Option.bind (zcn a0 (rd a1 x36.toNat)) fun r49=>(if (!r49) then (some (.inr (.inr 1))) else (some (.inl (IntKind.i64.wrap (x36 + 1)))))))) else (some (.inr (((.inl ()))))))
noncomputable def zfs (a0:Int) (a1:(List (Vec Int 64))):Option Int :=
 (Option.bind (zbt a0) fun r1=>(if (!r1) then (some 1) else (Option.bind (α:=(Unit⊕Int)) ((yK (fun s:Int=>nD a1 a0 s) 0)) fun z=>match z with | .inl _=>(some 0) | .inr r53=>(some r53))))
theorem zo1 (a0:Int) (a1:(List (Vec Int 64))) (r:Int) (h:zfs a0 a1=some r):Den Tryz.prog 117 [(i6 a0),(wF a1)] { r:=(i6 r) }:=by
 refine dd (rs:=[(i6 r)]) (L:=zp4) xL [] Tryz.func117 Tryz.ntmps117 ?_
 refine ns ⟨[(0,i6 a0),(1,wF a1)],[]⟩ ?_
 refine sr (vr (i6 0) (nk ⟨[(0,i6 a0),(1,wF a1)],[]⟩ (yC (sr (vr (i6 a0) ?_)))))
 obtain ⟨r1,hr2,h⟩:=bind_some h
 refine ca (ze0 a0 r1 hr2) (vr (.bool (!r1)) (nk ⟨[(0,i6 a0),(1,wF a1),(8,.bool (!r1))],[]⟩ ?_))
 cases hb3:(!r1)
 ·have h:=zW hb3 h
  refine zP rfl (yG (nj ⟨[(0,i6 a0),(1,wF a1)],[]⟩ ?_))
  obtain ⟨y27,hy28,hk29⟩:=bind_some h
  clear h
  refine yN (emb:=fun (s:Unit)=>⟨[],[]⟩) (kG:=fun s=>(.inl s)=y27) ?_ ?_
  ·rintro _ rfl
   have h:=hk29
   refine ns ⟨[],[]⟩ (sr (vr (i6 0) (nx _ rfl (zU ?_))))
   refine ⟨.inr rfl,?_⟩
   rw [Tryz.results117]
   cases h
   exact ⟨_,_,_,_,_,rfl,trivial,.inl ⟨rfl,.inl rfl⟩,rfl,rfl⟩
  ·have h:=hy28
   refine sr (vr (i6 0) (nk ⟨[(0,i6 a0),(1,wF a1),(5,i6 0)],[]⟩ (yB ?_)))
   refine xU (emb:=fun (s:Int)=>⟨[(0,i6 a0),(1,wF a1),(5,i6 s)],[]⟩) (body:=(fun s:Int=>nD a1 a0 s)) (G:=fun q=>some q=some y27) h rfl ?_ (by kernel_rfl)
   rintro X43 x36 x44 h hX45
   have h:nD a1 a0 x36=some x44:=h
   refine ns ⟨[(0,i6 a0),(1,wF a1),(5,i6 x36)],[]⟩ (yC (sr (vr (i6 x36) (vr (wF a1) (vq (i6 (a1.length:Int)) (xX rfl rfl) trivial (vr (.bool ((decide (x36 < (a1.length:Int))))) (nk ⟨[(0,i6 a0),(1,wF a1),(5,i6 x36),(12,.bool ((decide (x36 < (a1.length:Int)))))],[]⟩ ?_)))))))
   cases hb46:(decide (x36 < (a1.length:Int)))
   ·have h:=zW hb46 h
    refine zP rfl (xR (yI ?_))
    cases h
    have h:=hX45
    refine yI (xQ ?_)
    exact jl () h
   ·have h:=zV hb46 h
    refine zO rfl (yG (nj ⟨[(0,i6 a0),(1,wF a1),(5,i6 x36)],[]⟩ (yC (yB (sr (vr (i6 a0) (vr (wF a1) (vr (i6 x36) ?_))))))))
    obtain ⟨hc47,h⟩:=zT h
    refine vq (.ref (.row 64 (a1.map zJ)) [x36.toNat] [x36.toNat*64]) rfl (zdp hc47) ?_
    have hl48:LdOk [x36.toNat] (.row 64 (a1.map zJ)) [x36.toNat*64] 64 true (zJ (rd a1 x36.toNat)):=(.row (llt hc47) rfl (.nil rfl rfl rfl))
    refine vq (zJ (rd a1 x36.toNat)) (kC (i:=⟨.arr 64 5,64,64,(zJ (yH 64 (0:Int)))⟩) rfl rfl hl48) hl48.c ?_
    obtain ⟨r49,hr50,h⟩:=bind_some h
    refine ca (ze6 a0 (rd a1 x36.toNat) r49 hr50) (vr (.bool (!r49)) (nk ⟨[(0,i6 a0),(1,wF a1),(5,i6 x36),(21,.bool (!r49))],[]⟩ ?_))
    cases hb51:(!r49)
    ·have h:=zW hb51 h
     refine zP rfl (yG (xI (nj ⟨[(0,i6 a0),(1,wF a1),(5,i6 x36)],[]⟩ (zR (vr (i6 x36) (vr (i6 (IntKind.i64.wrap (x36 + 1))) (vr (i6 (IntKind.i64.wrap (x36 + 1))) (yJ ?_))))))))
     cases h
     exact ag hX45
    ·have h:=zV hb51 h
     refine zO rfl (sr (vr (i6 1) (nx _ rfl (zU (zaz (xV ?_))))))
     cases h
     have h:=hX45
     refine xV (zaz (xV ?_))
     cases h
     have h:=hk29
     refine ⟨.inr rfl,?_⟩
     rw [Tryz.results117]
     cases h
     exact ⟨_,_,_,_,_,rfl,trivial,.inl ⟨rfl,.inl rfl⟩,rfl,rfl⟩
 ·have h:=zV hb3 h
  refine zO rfl (sr (vr (i6 1) (nx _ rfl (zU (xV ?_)))))
  refine ⟨.inr rfl,?_⟩
  rw [Tryz.results117]
  cases h
  exact ⟨_,_,_,_,_,rfl,trivial,.inl ⟨rfl,.inl rfl⟩,rfl,rfl⟩
def zk1:Live:=[(0,[0,1]),(1,[0,3,4]),(2,[0,3,4,6]),(3,[4,6]),(4,[0,3,4]),(5,[0,3,4,7]),(6,[0,3,4,7,8]),(7,[0,3,4,7,8]),(8,[0,3,4,7,8]),(9,[4,7]),(100014,[0,3,4,6,14]),(100019,[0,3,4,7,8,19])]
noncomputable def vT (a0:Int) (a1:(Vec Int 64)) (x84:Int) (x85:(Vec Int 64)):Option ((Int×(Vec Int 64))⊕(Vec Int 64)) :=
 (if (decide (x84 < 64)) then (jA (a0 ≠ 0) ((jA (0≤x84∧x84 < ((64:Nat):Int)) ((kR (IntKind.i64.wrap ((Int.tmod x84 a0)*(IntKind.i64.wrap (rd a1.1 x84.toNat)))) fun x118=>(jA (a0 ≠ 0) ((jA (0≤IntKind.i64.wrap (x84 - 1)∧IntKind.i64.wrap (x84 - 1) < ((64:Nat):Int)) ((some (.inl ((IntKind.i64.wrap (x84 + 1),(yO x85 (IntKind.i64.wrap (x84 - 1)).toNat (IntKind.u8.wrap (Int.tmod x118 a0)))))))))))))))) else (some (.inr x85)))
noncomputable def zb6 (a0:Int) (a1:(Vec Int 64)):Option ((Vec Int 64)×Int) :=
 (Option.bind (zfs a0 ([a1])) fun r2=>(if (r2 != 0) then (some (((yH 64 (0:Int)),r2))) else (Option.bind (α:=(Vec Int 64)) ((yK (fun s:(Int×(Vec Int 64))=>vT a0 a1 s.1 s.2) (1,yH 64 (0:Int)))) fun x63=>(some (x63,0)))))
theorem zjr (a0:Int) (a1:(Vec Int 64)) (r:((Vec Int 64)×Int)) (h:zb6 a0 a1=some r):Den Tryz.prog 91 [(i6 a0),(zJ a1)] { r:=(.tuple [(zJ r.1),(i6 r.2)]) }:=by
 refine dd (rs:=[(zJ r.1),(i6 r.2)]) (L:=zk1) xL [] Tryz.func91 Tryz.ntmps91 ?_
 refine ns ⟨[(0,i6 a0),(1,zJ a1)],[]⟩ ?_
 refine sr (vo 1300 (zJ a1) rfl rfl (vo 1400 (yF) rfl rfl (vr (i6 0) (nk ⟨[(0,i6 a0),(3,ow 3),(4,ow 4)],[(3,bk (zJ a1)),(4,bk (yF))]⟩ (yC (sr (vr (i6 a0) (vl (zJ a1) rfl rfl rfl rfl rfl rfl (vq (.sl 64 true (([a1]).map zJ)) rfl ⟨(yS rfl),(yS rfl),(all_cons ⟨(yS rfl),rfl⟩ all_nil)⟩ ?_)))))))))
 obtain ⟨r2,hr3,h⟩:=bind_some h
 refine zaa (args:=[(i6 a0),(.sl 64 true (([a1]).map zJ))]) (u:=[]) (r:=(i6 r2)) rfl rfl (Den.args (zo1 a0 ([a1]) r2 hr3) rfl rfl (.cons (.refl _) (.cons (.loose _) .nil))) rfl (vr (i6 r2) (nk ⟨[(0,i6 a0),(3,ow 3),(4,ow 4),(6,i6 r2)],[(3,bk (zJ a1)),(4,bk (yF))]⟩ (sr (vr (i6 r2) (vr (.bool (r2 != 0)) (nk ⟨[(0,i6 a0),(3,ow 3),(4,ow 4),(6,i6 r2),(14,.bool (r2 != 0))],[(3,bk (zJ a1)),(4,bk (yF))]⟩ ?_))))))
 cases hb4:(r2 != 0)
 ·have h:=zW hb4 h
  refine zP rfl (yG (nj ⟨[(0,i6 a0),(3,ow 3),(4,ow 4)],[(3,bk (zJ a1)),(4,bk (yF))]⟩ (sr (vq (yF) rfl ⟨⟨_,rfl,rfl⟩,all_nil⟩ (vo 1700 (yF) rfl rfl (vs (yF) rfl rfl (fun _=>rfl) rfl rfl rfl rfl rfl rfl (nk ⟨[(0,i6 a0),(3,ow 3),(4,ow 4),(7,ow 7)],[(3,bk (zJ a1)),(4,bk (yF)),(7,bk (yF))]⟩ ?_)))))))
  obtain ⟨y64,hy65,hk66⟩:=bind_some h
  clear h
  refine yN (emb:=fun (s:(Vec Int 64))=>⟨[(4,ow 4),(7,ow 7)],[(4,bk (yF)),(7,bk (zJ s))]⟩) (kG:=fun s=>s=y64) ?_ ?_
  ·rintro x63 rfl
   have h:=hk66
   refine ns ⟨[(4,ow 4),(7,ow 7)],[(4,bk (yF)),(7,bk (zJ x63))]⟩ (sr (vl (zJ x63) rfl rfl rfl rfl rfl rfl (vs (zJ x63) rfl rfl (fun _=>rfl) rfl rfl rfl rfl rfl rfl (vr (i6 0) (nx _ rfl (zU ?_))))))
   have hl126:LdOk [] (zJ x63) [] 64 true (zJ x63):=(.nil rfl rfl rfl)
   refine ⟨.inr rfl,?_⟩
   rw [Tryz.results91]
   cases h
   exact ⟨_,_,_,_,_,zM (i:=⟨.arr 64 5,64,64,(zJ (yH 64 (0:Int)))⟩) rfl rfl rfl hl126,hl126.c,.inl ⟨rfl,.inl rfl⟩,rfl,⟨_,_,_,_,_,rfl,trivial,.inl ⟨rfl,.inl rfl⟩,rfl,rfl⟩⟩
  ·have h:=hy65
   refine sr (vr (i6 1) (nk ⟨[(0,i6 a0),(3,ow 3),(4,ow 4),(7,ow 7),(8,i6 1)],[(3,bk (zJ a1)),(4,bk (yF)),(7,bk (yF))]⟩ (yB ?_)))
   refine xU (emb:=fun (s:(Int×(Vec Int 64)))=>⟨[(0,i6 a0),(3,ow 3),(4,ow 4),(7,ow 7),(8,i6 s.1)],[(3,bk (zJ a1)),(4,bk (yF)),(7,bk (zJ s.2))]⟩) (body:=(fun s:(Int×(Vec Int 64))=>vT a0 a1 s.1 s.2)) (G:=fun q=>some q=some y64) h rfl ?_ (by kernel_rfl)
   rintro X103 ⟨x84,x85⟩ x104 h hX105
   have h:vT a0 a1 x84 x85=some x104:=h
   refine ns ⟨[(0,i6 a0),(3,ow 3),(4,ow 4),(7,ow 7),(8,i6 x84)],[(3,bk (zJ a1)),(4,bk (yF)),(7,bk (zJ x85))]⟩ (yC (sr (vr (i6 x84) (vr (.bool ((decide (x84 < 64)))) (nk ⟨[(0,i6 a0),(3,ow 3),(4,ow 4),(7,ow 7),(8,i6 x84),(19,.bool ((decide (x84 < 64))))],[(3,bk (zJ a1)),(4,bk (yF)),(7,bk (zJ x85))]⟩ ?_)))))
   cases hb106:(decide (x84 < 64))
   ·have h:=zW hb106 h
    refine zP rfl (xR (yI ?_))
    cases h
    have h:=hX105
    refine yI (xQ ?_)
    exact jl x85 h
   ·have h:=zV hb106 h
    refine zO rfl (yG (nj ⟨[(0,i6 a0),(3,ow 3),(4,ow 4),(7,ow 7),(8,i6 x84)],[(3,bk (zJ a1)),(4,bk (yF)),(7,bk (zJ x85))]⟩ (yC (yB (xH [⟨[],[],[],[]⟩,⟨[],[],[],[0]⟩,⟨[],[],[],[]⟩,⟨[],[],[],[]⟩,⟨[],[],[],[2,3]⟩,⟨[],[],[],[]⟩,⟨[3],[],[3],[5]⟩,⟨[3],[],[],[5,6]⟩,⟨[],[],[],[5,6,7]⟩,⟨[],[],[],[2,3,4,5,6,7,8]⟩,⟨[],[],[],[]⟩,⟨[],[],[],[2,3,4,5,6,7,8,9,10]⟩,⟨[],[],[],[2,3,4,5,6,7,8,9,10,11]⟩,⟨[7],[],[7],[0,1,2,3,4,5,6,7,8,9,10,11,12]⟩,⟨[7],[7],[],[0,1,2,3,4,5,6,7,8,9,10,11,12,13]⟩] (by kernel_rfl) (dj (i6 x84) rfl (dj (i6 (IntKind.i64.wrap (x84 - 1))) rfl (dj (i6 x84) rfl (dj (i6 a0) rfl ?_)))))))))
    refine zH ?_
    obtain ⟨hc115,h⟩:=zT h
    refine vq (i6 (Int.tmod x84 a0)) rfl hc115 (dn (dj (i6 x84) rfl (zH ?_)))
    obtain ⟨hc116,h⟩:=zT h
    refine vq (.own 3 [x84.toNat] [x84.toNat*1]) rfl hc116 (dn (zH ?_))
    have hl117:LdOk [x84.toNat] (zJ a1) [x84.toNat*1] 1 false (b8 (rd a1.1 x84.toNat)):=(.arr (vlt a1 hc116) rfl (.nil rfl rfl rfl))
    refine vq (b8 (rd a1.1 x84.toNat)) (zM (i:=⟨.int .u8,1,1,(.int .u8 0)⟩) rfl rfl rfl hl117) hl117.c (dn (dj (i6 (IntKind.i64.wrap (rd a1.1 x84.toNat))) rfl (zH ?_)))
    obtain ⟨x118,hx119,h⟩:=xP h
    refine qI (v:=(i6 (IntKind.i64.wrap ((Int.tmod x84 a0)*(IntKind.i64.wrap (rd a1.1 x84.toNat)))))) (v':=(i6 x118)) (u:=[]) (u':=[]) rfl (congrArg (fun z=>((i6 z):AV)) hx119) rfl trivial rfl (dn (dj (i6 a0) rfl (zH ?_)))
    obtain ⟨hc120,h⟩:=zT h
    refine vq (i6 (Int.tmod x118 a0)) rfl hc120 (dn (dj (b8 (IntKind.u8.wrap (Int.tmod x118 a0))) rfl (zH ?_)))
    obtain ⟨hc121,h⟩:=zT h
    refine vq (.own 7 [(IntKind.i64.wrap (x84 - 1)).toNat] [(IntKind.i64.wrap (x84 - 1)).toNat*1]) rfl hc121 (dn (zH ?_))
    have hs122:StOk [(IntKind.i64.wrap (x84 - 1)).toNat] (zJ x85) [(IntKind.i64.wrap (x84 - 1)).toNat*1] 1 (b8 (IntKind.u8.wrap (Int.tmod x118 a0))) (zJ ((yO x85 (IntKind.i64.wrap (x84 - 1)).toNat (IntKind.u8.wrap (Int.tmod x118 a0))))):=(.arr (y:=IntKind.u8.wrap (Int.tmod x118 a0)) (vlt x85 hc121) rfl (.nil rfl rfl rfl rfl))
    refine vu .top [(7,bk (zJ ((yO x85 (IntKind.i64.wrap (x84 - 1)).toNat (IntKind.u8.wrap (Int.tmod x118 a0))))))] (qG (i:=⟨.int .u8,1,1,(.int .u8 0)⟩) rfl rfl (fun _=>rfl) rfl hs122) (hs122.c rfl) rfl (dn (xE (xI (nj ⟨[(0,i6 a0),(3,ow 3),(4,ow 4),(7,ow 7),(8,i6 x84)],[(3,bk (zJ a1)),(4,bk (yF)),(7,bk (zJ ((yO x85 (IntKind.i64.wrap (x84 - 1)).toNat (IntKind.u8.wrap (Int.tmod x118 a0))))))]⟩ (zR (vr (i6 x84) (vr (i6 (IntKind.i64.wrap (x84 + 1))) (vr (i6 (IntKind.i64.wrap (x84 + 1))) (yJ ?_)))))))))
    cases h
    exact ag hX105
 ·have h:=zV hb4 h
  refine zO rfl (sr (vq (yF) rfl ⟨⟨_,rfl,rfl⟩,all_nil⟩ (vr (i6 r2) (vs (yF) rfl rfl (fun _=>rfl) rfl rfl rfl rfl rfl rfl (vr (i6 r2) (nx _ rfl (zU (xV ?_))))))))
  have hl128:LdOk [] (yF) [] 64 true (yF):=(.nil rfl rfl rfl)
  refine ⟨.inr rfl,?_⟩
  rw [Tryz.results91]
  cases h
  exact ⟨_,_,_,_,_,zM (i:=⟨.arr 64 5,64,64,(zJ (yH 64 (0:Int)))⟩) rfl rfl rfl hl128,hl128.c,.inl ⟨rfl,.inl rfl⟩,rfl,⟨_,_,_,_,_,rfl,trivial,.inl ⟨rfl,.inl rfl⟩,rfl,rfl⟩⟩
def zq3:Live:=[(0,[]),(1,[0])]
noncomputable def zay :Option (Vec Int 64) :=
 (some ((yO (yH 64 (0:Int)) 0 1)))
theorem zd4  (r:(Vec Int 64)) (h:zay=some r):Den Tryz.prog 94 [] { r:=(zJ r) }:=by
 refine dd (rs:=[(zJ r)]) (L:=zq3) xL [] Tryz.func94 Tryz.ntmps94 ?_
 refine ns ⟨[],[]⟩ ?_
 refine sr (vo 1000 (yF) rfl rfl (nk ⟨[(0,ow 0)],[(0,bk (yF))]⟩ (sr (vq (zJ ((yO (yH 64 (0:Int)) 0 1))) rfl ⟨⟨_,rfl,rfl⟩,(all_cons ⟨(yS rfl),rfl⟩ all_nil)⟩ (vs (zJ ((yO (yH 64 (0:Int)) 0 1))) rfl rfl (fun _=>rfl) rfl rfl rfl rfl rfl rfl (nx _ rfl (zU ?_)))))))
 have hl2:LdOk [] (zJ ((yO (yH 64 (0:Int)) 0 1))) [] 64 true (zJ ((yO (yH 64 (0:Int)) 0 1))):=(.nil rfl rfl rfl)
 refine ⟨.inr rfl,?_⟩
 rw [Tryz.results94]
 cases h
 exact ⟨_,_,_,_,_,zM (i:=⟨.arr 64 5,64,64,(zJ (yH 64 (0:Int)))⟩) rfl rfl rfl hl2,hl2.c,.inl ⟨rfl,.inl rfl⟩,rfl,rfl⟩
def zmt:Live:=[(0,[0,1]),(1,[0,1]),(2,[0,1,5]),(3,[0,1,5]),(4,[0,1,5]),(5,[5]),(6,[]),(100008,[0,1,5,8]),(100017,[0,1,5,17])]
noncomputable def qB (a0:Int) (a1:Int) (x29:Int):Option (Int⊕(Unit⊕Int)) :=
 (if (decide (x29 < a0)) then (jA (a0 ≠ 0) ((kR (((Int.tmod (IntKind.i64.wrap (x29*(IntKind.i64.wrap a1))) a0) == 1)) fun x40=>(if x40 then (some (.inr ((.inr (IntKind.u8.wrap x29))))) else (some (.inl (IntKind.i64.wrap (x29 + 1)))))))) else (some (.inr (((.inl ()))))))
noncomputable def nI (a0:Int) (a1:Int):Option Int :=
 (Option.bind (α:=(Unit⊕Int)) ((yK (fun s:Int=>qB a0 a1 s) 1)) fun z=>match z with | .inl _=>(some 0) | .inr r44=>(some r44))
theorem za9 (a0:Int) (a1:Int) (r:Int) (h:nI a0 a1=some r):Den Tryz.prog 105 [(i6 a0),(b8 a1)] { r:=(b8 r) }:=by
 refine dd (rs:=[(b8 r)]) (L:=zmt) xL [] Tryz.func105 Tryz.ntmps105 ?_
 refine ns ⟨[(0,i6 a0),(1,b8 a1)],[]⟩ ?_
 refine sr (vr (b8 0) (nk ⟨[(0,i6 a0),(1,b8 a1)],[]⟩ ?_))
 obtain ⟨y21,hy22,hk23⟩:=bind_some h
 clear h
 refine yN (emb:=fun (s:Unit)=>⟨[],[]⟩) (kG:=fun s=>(.inl s)=y21) ?_ ?_
 ·rintro _ rfl
  have h:=hk23
  refine ns ⟨[],[]⟩ (sr (vr (b8 0) (nx _ rfl (zU ?_))))
  refine ⟨.inr rfl,?_⟩
  rw [Tryz.results105]
  cases h
  exact ⟨_,_,_,_,_,rfl,trivial,.inl ⟨rfl,.inl rfl⟩,rfl,rfl⟩
 ·have h:=hy22
  refine sr (vr (i6 1) (nk ⟨[(0,i6 a0),(1,b8 a1),(5,i6 1)],[]⟩ (yB ?_)))
  refine xU (emb:=fun (s:Int)=>⟨[(0,i6 a0),(1,b8 a1),(5,i6 s)],[]⟩) (body:=(fun s:Int=>qB a0 a1 s)) (G:=fun q=>some q=some y21) h rfl ?_ (by kernel_rfl)
  rintro X35 x29 x36 h hX37
  have h:qB a0 a1 x29=some x36:=h
  refine ns ⟨[(0,i6 a0),(1,b8 a1),(5,i6 x29)],[]⟩ (yC (sr (vr (i6 x29) (vr (i6 a0) (vr (.bool ((decide (x29 < a0)))) (nk ⟨[(0,i6 a0),(1,b8 a1),(5,i6 x29),(8,.bool ((decide (x29 < a0))))],[]⟩ ?_))))))
  cases hb38:(decide (x29 < a0))
  ·have h:=zW hb38 h
   refine zP rfl (xR (yI ?_))
   cases h
   have h:=hX37
   refine yI (xQ ?_)
   exact jl () h
  ·have h:=zV hb38 h
   refine zO rfl (yG (nj ⟨[(0,i6 a0),(1,b8 a1),(5,i6 x29)],[]⟩ (yC (yB (sr (vr (i6 x29) (vr (b8 a1) (vr (i6 (IntKind.i64.wrap a1)) (vr (i6 (IntKind.i64.wrap (x29*(IntKind.i64.wrap a1)))) ?_)))))))))
   refine vr (i6 a0) ?_
   obtain ⟨hc39,h⟩:=zT h
   refine vq (i6 (Int.tmod (IntKind.i64.wrap (x29*(IntKind.i64.wrap a1))) a0)) rfl hc39 ?_
   obtain ⟨x40,hx41,h⟩:=xP h
   refine qI (v:=(.bool (((Int.tmod (IntKind.i64.wrap (x29*(IntKind.i64.wrap a1))) a0) == 1)))) (v':=(.bool x40)) (u:=[]) (u':=[]) rfl (congrArg (fun z=>((.bool z):AV)) hx41) rfl trivial rfl (nk ⟨[(0,i6 a0),(1,b8 a1),(5,i6 x29),(17,.bool x40)],[]⟩ ?_)
   cases hb42:x40
   ·have h:=zW hb42 h
    refine zP rfl (yG (xI (nj ⟨[(0,i6 a0),(1,b8 a1),(5,i6 x29)],[]⟩ (zR (vr (i6 x29) (vr (i6 (IntKind.i64.wrap (x29 + 1))) (vr (i6 (IntKind.i64.wrap (x29 + 1))) (yJ ?_))))))))
    cases h
    exact ag hX37
   ·have h:=zV hb42 h
    refine zO rfl (sr (vr (i6 x29) (vr (b8 (IntKind.u8.wrap x29)) (vr (b8 (IntKind.u8.wrap x29)) (nx _ rfl (zU (zaz (xV ?_))))))))
    cases h
    have h:=hX37
    refine xV (zaz (xV ?_))
    cases h
    have h:=hk23
    refine ⟨.inr rfl,?_⟩
    rw [Tryz.results105]
    cases h
    exact ⟨_,_,_,_,_,rfl,trivial,.inl ⟨rfl,.inl rfl⟩,rfl,rfl⟩
def zno:Live:=[(0,[0,1,2]),(1,[0,4,5,6,7]),(2,[0,4,5,6,7,8,9]),(3,[0,4,5,6,7,8,9,10]),(4,[0,4,5,6,7,8,9,10,11]),(5,[0,4,5,6,7,8,9,10,11]),(6,[0,4,5,6,7,8,9,10,11]),(7,[0,4,5,6,7,8,9,10,11,12]),(8,[0,4,5,6,7,8,9,10,11,12]),(9,[0,4,5,6,7,8,9,10,11,12,13]),(10,[0,4,5,6,7,8,9,10,11,12,13]),(11,[0,4,5,6,7,8,9,10,11,12,13]),(12,[4,6,7,8]),(100027,[0,4,5,6,7,8,9,10,11,27]),(100050,[0,4,5,6,7,8,9,10,11,12,13,50])]
noncomputable def uR (r2:Int) (x1405:Int) (a0:Int) (x995:Int) (a2:(Vec Int 64)) (x997:(Vec Int 64)) (x1449:Int) (x1450:(Vec Int 64)):Option ((Int×(Vec Int 64))⊕((Vec Int 64)×(Vec Int 64))) :=
 (Option.bind (α:=Bool) ((if (decide (x1449≤r2)) then (some (((Int.tmod x1405 a0) != 0))) else (some false))) fun x1494=>(if x1494 then (jA (0≤IntKind.i64.wrap ((IntKind.i64.wrap (x995 - r2)) + x1449)∧IntKind.i64.wrap ((IntKind.i64.wrap (x995 - r2)) + x1449) < ((64:Nat):Int)) ((kR ((rd x1450.1 (IntKind.i64.wrap ((IntKind.i64.wrap (x995 - r2)) + x1449)).toNat)) fun x1518=>(jA (0≤x1449∧x1449 < ((64:Nat):Int)) ((kR (IntKind.i64.wrap ((Int.tmod x1405 a0)*(IntKind.i64.wrap (rd a2.1 x1449.toNat)))) fun x1522=>(jA (a0 ≠ 0) ((kR (Int.tmod (IntKind.i64.wrap ((IntKind.i64.wrap x1518) - x1522)) a0) fun x1525=>(jA (a0 ≠ 0) ((kR (IntKind.u8.wrap (Int.tmod (IntKind.i64.wrap (x1525 + a0)) a0)) fun x1528=>(jA (0≤IntKind.i64.wrap ((IntKind.i64.wrap (x995 - r2)) + x1449)∧IntKind.i64.wrap ((IntKind.i64.wrap (x995 - r2)) + x1449) < ((64:Nat):Int)) ((some (.inl ((IntKind.i64.wrap (x1449 + 1),(yO x1450 (IntKind.i64.wrap ((IntKind.i64.wrap (x995 - r2)) + x1449)).toNat x1528))))))))))))))))))) else (some (.inr (((x1450,(yO x997 (IntKind.i64.wrap (x995 - r2)).toNat (IntKind.u8.wrap (Int.tmod x1405 a0))))))))))
noncomputable def vM (r2:Int) (r7:Int) (a0:Int) (a2:(Vec Int 64)) (x995:Int) (x996:(Vec Int 64)) (x997:(Vec Int 64)):Option ((Int×(Vec Int 64)×(Vec Int 64))⊕((Vec Int 64)×(Vec Int 64))) :=
 (if (decide (x995 ≥ r2)) then (Option.bind (α:=((Vec Int 64)×(Vec Int 64))) ((jA (0≤x995∧x995 < ((64:Nat):Int)) ((kR (IntKind.i64.wrap ((IntKind.i64.wrap (rd x996.1 x995.toNat))*(IntKind.i64.wrap r7))) fun x1405=>(jA (a0 ≠ 0) ((jA (0≤IntKind.i64.wrap (x995 - r2)∧IntKind.i64.wrap (x995 - r2) < ((64:Nat):Int)) ((yK (fun s:(Int×(Vec Int 64))=>uR r2 x1405 a0 x995 a2 x997 s.1 s.2) (0,x996)))))))))) fun ⟨x1398,x1399⟩=>(some (.inl ((IntKind.i64.wrap (x995 - 1),x1398,x1399))))) else (some (.inr (x996,x997))))
noncomputable def kF (a0:Int) (a1:(Vec Int 64)) (a2:(Vec Int 64)):Option ((Vec Int 64)×(Vec Int 64)) :=
 (Option.bind (yW a2) fun r2=>(jA (0≤r2∧r2 < ((64:Nat):Int)) ((Option.bind (nI a0 (rd a2.1 r2.toNat)) fun r7=>(Option.bind (α:=((Vec Int 64)×(Vec Int 64))) ((Option.bind (yW a1) fun r751=>(yK (fun s:(Int×(Vec Int 64)×(Vec Int 64))=>vM r2 r7 a0 a2 s.1 s.2.1 s.2.2) (r751,a1,(yH 64 (0:Int)))))) fun ⟨x745,x746⟩=>(some (x746,x745)))))))
theorem mT (a0:Int) (a1:(Vec Int 64)) (a2:(Vec Int 64)) (r:((Vec Int 64)×(Vec Int 64))) (h:kF a0 a1 a2=some r):Den Tryz.prog 81 [(i6 a0),(zJ a1),(zJ a2)] { r:=(.tuple [(zJ r.1),(zJ r.2)]) }:=by
 refine dd (rs:=[(zJ r.1),(zJ r.2)]) (L:=zno) xL [] Tryz.func81 Tryz.ntmps81 ?_
 refine ns ⟨[(0,i6 a0),(1,zJ a1),(2,zJ a2)],[]⟩ ?_
 refine sr (vo 1400 (zJ a1) rfl rfl (vo 1500 (zJ a2) rfl rfl (vo 1600 (yF) rfl rfl (vo 1700 (yF) rfl rfl (nk ⟨[(0,i6 a0),(4,ow 4),(5,ow 5),(6,ow 6),(7,ow 7)],[(4,bk (zJ a1)),(5,bk (zJ a2)),(6,bk (yF)),(7,bk (yF))]⟩ (sr (vq (yF) rfl ⟨⟨_,rfl,rfl⟩,all_nil⟩ (vl (zJ a2) rfl rfl rfl rfl rfl rfl ?_))))))))
 obtain ⟨r2,hr3,h⟩:=bind_some h
 refine ca (yZ a2 r2 hr3) (vo 1800 (yF) rfl rfl (vs (yF) rfl rfl (fun _=>rfl) rfl rfl rfl rfl rfl rfl (vr (i6 r2) (nk ⟨[(0,i6 a0),(4,ow 4),(5,ow 5),(6,ow 6),(7,ow 7),(8,ow 8),(9,i6 r2)],[(4,bk (zJ a1)),(5,bk (zJ a2)),(6,bk (yF)),(7,bk (yF)),(8,bk (yF))]⟩ (sr (vr (i6 a0) (vr (i6 r2) ?_)))))))
 obtain ⟨hc5,h⟩:=zT h
 refine vq (.own 5 [r2.toNat] [r2.toNat*1]) rfl hc5 ?_
 have hl6:LdOk [r2.toNat] (zJ a2) [r2.toNat*1] 1 false (b8 (rd a2.1 r2.toNat)):=(.arr (vlt a2 hc5) rfl (.nil rfl rfl rfl))
 refine vq (b8 (rd a2.1 r2.toNat)) (zM (i:=⟨.int .u8,1,1,(.int .u8 0)⟩) rfl rfl rfl hl6) hl6.c ?_
 obtain ⟨r7,hr8,h⟩:=bind_some h
 refine ca (za9 a0 (rd a2.1 r2.toNat) r7 hr8) (vr (i6 (IntKind.i64.wrap r7)) (vr (i6 (IntKind.i64.wrap r7)) (nk ⟨[(0,i6 a0),(4,ow 4),(5,ow 5),(6,ow 6),(7,ow 7),(8,ow 8),(9,i6 r2),(10,i6 (IntKind.i64.wrap r7))],[(4,bk (zJ a1)),(5,bk (zJ a2)),(6,bk (yF)),(7,bk (yF)),(8,bk (yF))]⟩ ?_)))
 obtain ⟨y747,hy748,hk749⟩:=bind_some h
 clear h
 refine yN (emb:=fun (s:((Vec Int 64)×(Vec Int 64)))=>⟨[(4,ow 4),(6,ow 6),(7,ow 7),(8,ow 8)],[(4,bk (zJ s.1)),(6,bk (yF)),(7,bk (yF)),(8,bk (zJ s.2))]⟩) (kG:=fun s=>s=y747) ?_ ?_
 ·rintro ⟨x745,x746⟩ rfl
  have h:=hk749
  refine ns ⟨[(4,ow 4),(6,ow 6),(7,ow 7),(8,ow 8)],[(4,bk (zJ x745)),(6,bk (yF)),(7,bk (yF)),(8,bk (zJ x746))]⟩ (yC (xH [⟨[8],[],[],[]⟩,⟨[4],[],[],[]⟩,⟨[6],[6],[],[0]⟩,⟨[7],[7],[],[0,1,2]⟩] (by kernel_rfl) (zH (vl (zJ x746) rfl rfl rfl rfl rfl rfl (dn (zH (vl (zJ x745) rfl rfl rfl rfl rfl rfl (dn (zH ?_)))))))))
  refine vs (zJ x746) rfl rfl (fun _=>rfl) rfl rfl rfl rfl rfl rfl (dn (zH (vs (zJ x745) rfl rfl (fun _=>rfl) rfl rfl rfl rfl rfl rfl (dn (xE (wC rfl (zU ?_)))))))
  have hl1542:LdOk [] (zJ x746) [] 64 true (zJ x746):=(.nil rfl rfl rfl)
  have hl1543:LdOk [] (zJ x745) [] 64 true (zJ x745):=(.nil rfl rfl rfl)
  refine ⟨.inr rfl,?_⟩
  rw [Tryz.results81]
  cases h
  exact ⟨_,_,_,_,_,zM (i:=⟨.arr 64 5,64,64,(zJ (yH 64 (0:Int)))⟩) rfl rfl rfl hl1542,hl1542.c,.inl ⟨rfl,.inl rfl⟩,rfl,⟨_,_,_,_,_,zM (i:=⟨.arr 64 5,64,64,(zJ (yH 64 (0:Int)))⟩) rfl rfl rfl hl1543,hl1543.c,.inl ⟨rfl,.inl rfl⟩,rfl,rfl⟩⟩
 ·have h:=hy748
  refine sr (vl (zJ a1) rfl rfl rfl rfl rfl rfl ?_)
  obtain ⟨r751,hr752,h⟩:=bind_some h
  refine ca (yZ a1 r751 hr752) (vr (i6 r751) (nk ⟨[(0,i6 a0),(4,ow 4),(5,ow 5),(6,ow 6),(7,ow 7),(8,ow 8),(9,i6 r2),(10,i6 (IntKind.i64.wrap r7)),(11,i6 r751)],[(4,bk (zJ a1)),(5,bk (zJ a2)),(6,bk (yF)),(7,bk (yF)),(8,bk (yF))]⟩ (yB ?_)))
  refine xU (emb:=fun (s:(Int×(Vec Int 64)×(Vec Int 64)))=>⟨[(0,i6 a0),(4,ow 4),(5,ow 5),(6,ow 6),(7,ow 7),(8,ow 8),(9,i6 r2),(10,i6 (IntKind.i64.wrap r7)),(11,i6 s.1)],[(4,bk (zJ s.2.1)),(5,bk (zJ a2)),(6,bk (yF)),(7,bk (yF)),(8,bk (zJ s.2.2))]⟩) (body:=(fun s:(Int×(Vec Int 64)×(Vec Int 64))=>vM r2 r7 a0 a2 s.1 s.2.1 s.2.2)) (G:=fun q=>some q=some y747) h rfl ?_ (by kernel_rfl)
  rintro X1264 ⟨x995,x996,x997⟩ x1265 h hX1266
  have h:vM r2 r7 a0 a2 x995 x996 x997=some x1265:=h
  refine ns ⟨[(0,i6 a0),(4,ow 4),(5,ow 5),(6,ow 6),(7,ow 7),(8,ow 8),(9,i6 r2),(10,i6 (IntKind.i64.wrap r7)),(11,i6 x995)],[(4,bk (zJ x996)),(5,bk (zJ a2)),(6,bk (yF)),(7,bk (yF)),(8,bk (zJ x997))]⟩ (yC (sr (vr (i6 x995) (vr (i6 r2) (vr (.bool ((decide (x995 ≥ r2)))) (nk ⟨[(0,i6 a0),(4,ow 4),(5,ow 5),(6,ow 6),(7,ow 7),(8,ow 8),(9,i6 r2),(10,i6 (IntKind.i64.wrap r7)),(11,i6 x995),(27,.bool ((decide (x995 ≥ r2))))],[(4,bk (zJ x996)),(5,bk (zJ a2)),(6,bk (yF)),(7,bk (yF)),(8,bk (zJ x997))]⟩ ?_))))))
  cases hb1267:(decide (x995 ≥ r2))
  ·have h:=zW hb1267 h
   refine zP rfl (xR (yI ?_))
   cases h
   have h:=hX1266
   refine yI (xQ ?_)
   exact jl (x996,x997) h
  ·have h:=zV hb1267 h
   refine zO rfl (yG (nj ⟨[(0,i6 a0),(4,ow 4),(5,ow 5),(6,ow 6),(7,ow 7),(8,ow 8),(9,i6 r2),(10,i6 (IntKind.i64.wrap r7)),(11,i6 x995)],[(4,bk (zJ x996)),(5,bk (zJ a2)),(6,bk (yF)),(7,bk (yF)),(8,bk (zJ x997))]⟩ ?_))
   obtain ⟨y1400,hy1401,hk1402⟩:=bind_some h
   clear h
   refine yN (emb:=fun (s:((Vec Int 64)×(Vec Int 64)))=>⟨[(0,i6 a0),(4,ow 4),(5,ow 5),(6,ow 6),(7,ow 7),(8,ow 8),(9,i6 r2),(10,i6 (IntKind.i64.wrap r7)),(11,i6 x995)],[(4,bk (zJ s.1)),(5,bk (zJ a2)),(6,bk (yF)),(7,bk (yF)),(8,bk (zJ s.2))]⟩) (kG:=fun s=>s=y1400) ?_ ?_
   ·rintro ⟨x1398,x1399⟩ rfl
    have h:=hk1402
    refine ns ⟨[(0,i6 a0),(4,ow 4),(5,ow 5),(6,ow 6),(7,ow 7),(8,ow 8),(9,i6 r2),(10,i6 (IntKind.i64.wrap r7)),(11,i6 x995)],[(4,bk (zJ x1398)),(5,bk (zJ a2)),(6,bk (yF)),(7,bk (yF)),(8,bk (zJ x1399))]⟩ (zR (vr (i6 x995) (vr (i6 (IntKind.i64.wrap (x995 - 1))) (vr (i6 (IntKind.i64.wrap (x995 - 1))) (yJ ?_)))))
    cases h
    exact ag hX1266
   ·have h:=hy1401
    refine yB (sr (vr (i6 x995) ?_))
    obtain ⟨hc1403,h⟩:=zT h
    refine vq (.own 4 [x995.toNat] [x995.toNat*1]) rfl hc1403 ?_
    have hl1404:LdOk [x995.toNat] (zJ x996) [x995.toNat*1] 1 false (b8 (rd x996.1 x995.toNat)):=(.arr (vlt x996 hc1403) rfl (.nil rfl rfl rfl))
    refine vq (b8 (rd x996.1 x995.toNat)) (zM (i:=⟨.int .u8,1,1,(.int .u8 0)⟩) rfl rfl rfl hl1404) hl1404.c (vr (i6 (IntKind.i64.wrap (rd x996.1 x995.toNat))) (vr (i6 (IntKind.i64.wrap r7)) ?_))
    obtain ⟨x1405,hx1406,h⟩:=xP h
    refine qI (v:=(i6 (IntKind.i64.wrap ((IntKind.i64.wrap (rd x996.1 x995.toNat))*(IntKind.i64.wrap r7))))) (v':=(i6 x1405)) (u:=[]) (u':=[]) rfl (congrArg (fun z=>((i6 z):AV)) hx1406) rfl trivial rfl (vr (i6 a0) ?_)
    obtain ⟨hc1407,h⟩:=zT h
    refine vq (i6 (Int.tmod x1405 a0)) rfl hc1407 (vr (i6 (Int.tmod x1405 a0)) (nk ⟨[(0,i6 a0),(4,ow 4),(5,ow 5),(6,ow 6),(7,ow 7),(8,ow 8),(9,i6 r2),(10,i6 (IntKind.i64.wrap r7)),(11,i6 x995),(12,i6 (Int.tmod x1405 a0))],[(4,bk (zJ x996)),(5,bk (zJ a2)),(6,bk (yF)),(7,bk (yF)),(8,bk (zJ x997))]⟩ (sr (vr (i6 x995) (vr (i6 r2) (vr (i6 (IntKind.i64.wrap (x995 - r2))) (vr (i6 (Int.tmod x1405 a0)) (vr (b8 (IntKind.u8.wrap (Int.tmod x1405 a0))) ?_))))))))
    obtain ⟨hc1408,h⟩:=zT h
    refine vq (.own 8 [(IntKind.i64.wrap (x995 - r2)).toNat] [(IntKind.i64.wrap (x995 - r2)).toNat*1]) rfl hc1408 ?_
    have hs1409:StOk [(IntKind.i64.wrap (x995 - r2)).toNat] (zJ x997) [(IntKind.i64.wrap (x995 - r2)).toNat*1] 1 (b8 (IntKind.u8.wrap (Int.tmod x1405 a0))) (zJ ((yO x997 (IntKind.i64.wrap (x995 - r2)).toNat (IntKind.u8.wrap (Int.tmod x1405 a0))))):=(.arr (y:=IntKind.u8.wrap (Int.tmod x1405 a0)) (vlt x997 hc1408) rfl (.nil rfl rfl rfl rfl))
    refine vu .top [(8,bk (zJ ((yO x997 (IntKind.i64.wrap (x995 - r2)).toNat (IntKind.u8.wrap (Int.tmod x1405 a0))))))] (qG (i:=⟨.int .u8,1,1,(.int .u8 0)⟩) rfl rfl (fun _=>rfl) rfl hs1409) (hs1409.c rfl) rfl (nk ⟨[(0,i6 a0),(4,ow 4),(5,ow 5),(6,ow 6),(7,ow 7),(8,ow 8),(9,i6 r2),(10,i6 (IntKind.i64.wrap r7)),(11,i6 x995),(12,i6 (Int.tmod x1405 a0))],[(4,bk (zJ x996)),(5,bk (zJ a2)),(6,bk (yF)),(7,bk (yF)),(8,bk (zJ ((yO x997 (IntKind.i64.wrap (x995 - r2)).toNat (IntKind.u8.wrap (Int.tmod x1405 a0))))))]⟩ (sr (vr (i6 0) (nk ⟨[(0,i6 a0),(4,ow 4),(5,ow 5),(6,ow 6),(7,ow 7),(8,ow 8),(9,i6 r2),(10,i6 (IntKind.i64.wrap r7)),(11,i6 x995),(12,i6 (Int.tmod x1405 a0)),(13,i6 0)],[(4,bk (zJ x996)),(5,bk (zJ a2)),(6,bk (yF)),(7,bk (yF)),(8,bk (zJ ((yO x997 (IntKind.i64.wrap (x995 - r2)).toNat (IntKind.u8.wrap (Int.tmod x1405 a0))))))]⟩ (yB ?_)))))
    refine xU (emb:=fun (s:(Int×(Vec Int 64)))=>⟨[(0,i6 a0),(4,ow 4),(5,ow 5),(6,ow 6),(7,ow 7),(8,ow 8),(9,i6 r2),(10,i6 (IntKind.i64.wrap r7)),(11,i6 x995),(12,i6 (Int.tmod x1405 a0)),(13,i6 s.1)],[(4,bk (zJ s.2)),(5,bk (zJ a2)),(6,bk (yF)),(7,bk (yF)),(8,bk (zJ ((yO x997 (IntKind.i64.wrap (x995 - r2)).toNat (IntKind.u8.wrap (Int.tmod x1405 a0))))))]⟩) (body:=(fun s:(Int×(Vec Int 64))=>uR r2 x1405 a0 x995 a2 x997 s.1 s.2)) (G:=fun q=>some q=some y1400) h rfl ?_ (by kernel_rfl)
    rintro X1490 ⟨x1449,x1450⟩ x1491 h hX1492
    have h:uR r2 x1405 a0 x995 a2 x997 x1449 x1450=some x1491:=h
    refine ns ⟨[(0,i6 a0),(4,ow 4),(5,ow 5),(6,ow 6),(7,ow 7),(8,ow 8),(9,i6 r2),(10,i6 (IntKind.i64.wrap r7)),(11,i6 x995),(12,i6 (Int.tmod x1405 a0)),(13,i6 x1449)],[(4,bk (zJ x1450)),(5,bk (zJ a2)),(6,bk (yF)),(7,bk (yF)),(8,bk (zJ ((yO x997 (IntKind.i64.wrap (x995 - r2)).toNat (IntKind.u8.wrap (Int.tmod x1405 a0))))))]⟩ (yC ?_)
    obtain ⟨y1495,hy1496,hk1497⟩:=bind_some h
    clear h
    refine yN (emb:=fun (s:Bool)=>⟨[(0,i6 a0),(4,ow 4),(5,ow 5),(6,ow 6),(7,ow 7),(8,ow 8),(9,i6 r2),(10,i6 (IntKind.i64.wrap r7)),(11,i6 x995),(12,i6 (Int.tmod x1405 a0)),(13,i6 x1449),(50,.bool s)],[(4,bk (zJ x1450)),(5,bk (zJ a2)),(6,bk (yF)),(7,bk (yF)),(8,bk (zJ ((yO x997 (IntKind.i64.wrap (x995 - r2)).toNat (IntKind.u8.wrap (Int.tmod x1405 a0))))))]⟩) (kG:=fun s=>s=y1495) ?_ ?_
    ·rintro x1494 rfl
     have h:=hk1497
     refine ns ⟨[(0,i6 a0),(4,ow 4),(5,ow 5),(6,ow 6),(7,ow 7),(8,ow 8),(9,i6 r2),(10,i6 (IntKind.i64.wrap r7)),(11,i6 x995),(12,i6 (Int.tmod x1405 a0)),(13,i6 x1449),(50,.bool x1494)],[(4,bk (zJ x1450)),(5,bk (zJ a2)),(6,bk (yF)),(7,bk (yF)),(8,bk (zJ ((yO x997 (IntKind.i64.wrap (x995 - r2)).toNat (IntKind.u8.wrap (Int.tmod x1405 a0))))))]⟩ ?_
     cases hb1499:x1494
     ·have h:=zW hb1499 h
      refine zP rfl (xR (yI ?_))
      cases h
      have h:=hX1492
      refine yI (xQ (xI ?_))
      exact jl ((x1450,(yO x997 (IntKind.i64.wrap (x995 - r2)).toNat (IntKind.u8.wrap (Int.tmod x1405 a0))))) h
     ·have h:=zV hb1499 h
      refine zO rfl (yG (nj ⟨[(0,i6 a0),(4,ow 4),(5,ow 5),(6,ow 6),(7,ow 7),(8,ow 8),(9,i6 r2),(10,i6 (IntKind.i64.wrap r7)),(11,i6 x995),(12,i6 (Int.tmod x1405 a0)),(13,i6 x1449)],[(4,bk (zJ x1450)),(5,bk (zJ a2)),(6,bk (yF)),(7,bk (yF)),(8,bk (zJ ((yO x997 (IntKind.i64.wrap (x995 - r2)).toNat (IntKind.u8.wrap (Int.tmod x1405 a0))))))]⟩ (yC (yB (xH [⟨[],[],[],[]⟩,⟨[],[],[],[]⟩,⟨[],[],[],[0,1]⟩,⟨[],[],[],[]⟩,⟨[],[],[],[0,1,2,3]⟩,⟨[],[],[],[]⟩,⟨[],[],[],[]⟩,⟨[],[],[],[5,6]⟩,⟨[],[],[],[]⟩,⟨[],[],[],[5,6,7,8]⟩,⟨[4],[],[4],[5,6,7,8,9]⟩,⟨[4],[],[],[5,6,7,8,9,10]⟩,⟨[],[],[],[5,6,7,8,9,10,11]⟩,⟨[],[],[],[]⟩,⟨[],[],[],[]⟩,⟨[5],[],[5],[14]⟩,⟨[5],[],[],[14,15]⟩,⟨[],[],[],[14,15,16]⟩,⟨[],[],[],[13,14,15,16,17]⟩,⟨[],[],[],[5,6,7,8,9,10,11,12,13,14,15,16,17,18]⟩,⟨[],[],[],[]⟩,⟨[],[],[],[5,6,7,8,9,10,11,12,13,14,15,16,17,18,19,20]⟩,⟨[],[],[],[]⟩,⟨[],[],[],[5,6,7,8,9,10,11,12,13,14,15,16,17,18,19,20,21,22]⟩,⟨[],[],[],[]⟩,⟨[],[],[],[5,6,7,8,9,10,11,12,13,14,15,16,17,18,19,20,21,22,23,24]⟩,⟨[],[],[],[5,6,7,8,9,10,11,12,13,14,15,16,17,18,19,20,21,22,23,24,25]⟩,⟨[4],[],[4],[0,1,2,3,4,5,6,7,8,9,10,11,12,13,14,15,16,17,18,19,20,21,22,23,24,25,26]⟩,⟨[4],[4],[],[0,1,2,3,4,5,6,7,8,9,10,11,12,13,14,15,16,17,18,19,20,21,22,23,24,25,26,27]⟩] (by kernel_rfl) (dj (i6 x995) rfl (dj (i6 r2) rfl (dj (i6 (IntKind.i64.wrap (x995 - r2))) rfl (dj (i6 x1449) rfl ?_)))))))))
      refine dj (i6 (IntKind.i64.wrap ((IntKind.i64.wrap (x995 - r2)) + x1449))) rfl (dj (i6 x995) rfl (dj (i6 r2) rfl (dj (i6 (IntKind.i64.wrap (x995 - r2))) rfl (dj (i6 x1449) rfl (dj (i6 (IntKind.i64.wrap ((IntKind.i64.wrap (x995 - r2)) + x1449))) rfl (zH ?_))))))
      obtain ⟨hc1516,h⟩:=zT h
      refine vq (.own 4 [(IntKind.i64.wrap ((IntKind.i64.wrap (x995 - r2)) + x1449)).toNat] [(IntKind.i64.wrap ((IntKind.i64.wrap (x995 - r2)) + x1449)).toNat*1]) rfl hc1516 (dn (zH ?_))
      have hl1517:LdOk [(IntKind.i64.wrap ((IntKind.i64.wrap (x995 - r2)) + x1449)).toNat] (zJ x1450) [(IntKind.i64.wrap ((IntKind.i64.wrap (x995 - r2)) + x1449)).toNat*1] 1 false (b8 ((rd x1450.1 (IntKind.i64.wrap ((IntKind.i64.wrap (x995 - r2)) + x1449)).toNat))):=(.arr (vlt x1450 hc1516) rfl (.nil rfl rfl rfl))
      obtain ⟨x1518,hx1519,h⟩:=xP h
      refine qI (v:=(b8 ((rd x1450.1 (IntKind.i64.wrap ((IntKind.i64.wrap (x995 - r2)) + x1449)).toNat)))) (v':=(b8 x1518)) (u:=[]) (u':=[]) (zM (i:=⟨.int .u8,1,1,(.int .u8 0)⟩) rfl rfl rfl hl1517) (congrArg (fun z=>((b8 z):AV)) hx1519) rfl hl1517.c rfl (dn (dj (i6 (IntKind.i64.wrap x1518)) rfl (dj (i6 (Int.tmod x1405 a0)) rfl (dj (i6 x1449) rfl (zH ?_)))))
      obtain ⟨hc1520,h⟩:=zT h
      refine vq (.own 5 [x1449.toNat] [x1449.toNat*1]) rfl hc1520 (dn (zH ?_))
      have hl1521:LdOk [x1449.toNat] (zJ a2) [x1449.toNat*1] 1 false (b8 (rd a2.1 x1449.toNat)):=(.arr (vlt a2 hc1520) rfl (.nil rfl rfl rfl))
      refine vq (b8 (rd a2.1 x1449.toNat)) (zM (i:=⟨.int .u8,1,1,(.int .u8 0)⟩) rfl rfl rfl hl1521) hl1521.c (dn (dj (i6 (IntKind.i64.wrap (rd a2.1 x1449.toNat))) rfl (zH ?_)))
      obtain ⟨x1522,hx1523,h⟩:=xP h
      refine qI (v:=(i6 (IntKind.i64.wrap ((Int.tmod x1405 a0)*(IntKind.i64.wrap (rd a2.1 x1449.toNat)))))) (v':=(i6 x1522)) (u:=[]) (u':=[]) rfl (congrArg (fun z=>((i6 z):AV)) hx1523) rfl trivial rfl (dn (dj (i6 (IntKind.i64.wrap ((IntKind.i64.wrap x1518) - x1522))) rfl (dj (i6 a0) rfl (zH ?_))))
      obtain ⟨hc1524,h⟩:=zT h
      obtain ⟨x1525,hx1526,h⟩:=xP h
      refine qI (v:=(i6 (Int.tmod (IntKind.i64.wrap ((IntKind.i64.wrap x1518) - x1522)) a0))) (v':=(i6 x1525)) (u:=[]) (u':=[]) rfl (congrArg (fun z=>((i6 z):AV)) hx1526) rfl hc1524 rfl (dn (dj (i6 a0) rfl (dj (i6 (IntKind.i64.wrap (x1525 + a0))) rfl (dj (i6 a0) rfl (zH ?_)))))
      obtain ⟨hc1527,h⟩:=zT h
      refine vq (i6 (Int.tmod (IntKind.i64.wrap (x1525 + a0)) a0)) rfl hc1527 (dn (zH ?_))
      obtain ⟨x1528,hx1529,h⟩:=xP h
      refine qI (v:=(b8 (IntKind.u8.wrap (Int.tmod (IntKind.i64.wrap (x1525 + a0)) a0)))) (v':=(b8 x1528)) (u:=[]) (u':=[]) rfl (congrArg (fun z=>((b8 z):AV)) hx1529) rfl trivial rfl (dn (zH ?_))
      obtain ⟨hc1530,h⟩:=zT h
      refine vq (.own 4 [(IntKind.i64.wrap ((IntKind.i64.wrap (x995 - r2)) + x1449)).toNat] [(IntKind.i64.wrap ((IntKind.i64.wrap (x995 - r2)) + x1449)).toNat*1]) rfl hc1530 (dn (zH ?_))
      have hs1531:StOk [(IntKind.i64.wrap ((IntKind.i64.wrap (x995 - r2)) + x1449)).toNat] (zJ x1450) [(IntKind.i64.wrap ((IntKind.i64.wrap (x995 - r2)) + x1449)).toNat*1] 1 (b8 x1528) (zJ ((yO x1450 (IntKind.i64.wrap ((IntKind.i64.wrap (x995 - r2)) + x1449)).toNat x1528))):=(.arr (y:=x1528) (vlt x1450 hc1530) rfl (.nil rfl rfl rfl rfl))
      refine vu .top [(4,bk (zJ ((yO x1450 (IntKind.i64.wrap ((IntKind.i64.wrap (x995 - r2)) + x1449)).toNat x1528))))] (qG (i:=⟨.int .u8,1,1,(.int .u8 0)⟩) rfl rfl (fun _=>rfl) rfl hs1531) (hs1531.c rfl) rfl (dn (xE (xI (nj ⟨[(0,i6 a0),(4,ow 4),(5,ow 5),(6,ow 6),(7,ow 7),(8,ow 8),(9,i6 r2),(10,i6 (IntKind.i64.wrap r7)),(11,i6 x995),(12,i6 (Int.tmod x1405 a0)),(13,i6 x1449)],[(4,bk (zJ ((yO x1450 (IntKind.i64.wrap ((IntKind.i64.wrap (x995 - r2)) + x1449)).toNat x1528)))),(5,bk (zJ a2)),(6,bk (yF)),(7,bk (yF)),(8,bk (zJ ((yO x997 (IntKind.i64.wrap (x995 - r2)).toNat (IntKind.u8.wrap (Int.tmod x1405 a0))))))]⟩ (zR (vr (i6 x1449) (vr (i6 (IntKind.i64.wrap (x1449 + 1))) (vr (i6 (IntKind.i64.wrap (x1449 + 1))) (yJ ?_)))))))))
      cases h
      exact ag hX1492
    ·have h:=hy1496
     refine zR (vr (i6 x1449) (vr (i6 r2) (vr (.bool ((decide (x1449≤r2)))) (vr (.bool ((decide (x1449≤r2)))) ?_))))
     cases hb1498:(decide (x1449≤r2))
     ·have h:=zW hb1498 h
      refine zD rfl (zD rfl (vr (.bool false) (yJ ?_)))
      exact jl false h
     ·have h:=zV hb1498 h
      refine gp (i6 (Int.tmod x1405 a0)) rfl rfl (gp (.bool (((Int.tmod x1405 a0) != 0))) rfl rfl (vr (.bool (((Int.tmod x1405 a0) != 0))) (yJ ?_)))
      exact jl (((Int.tmod x1405 a0) != 0)) h
end Go.Proofs.YtebfhlnfmkhmcaaGreat
