/- Functions of the program: plain Lean functions, and that the program computes them. Printed by gen.py. -/
import Derived.Test.YtebfhlnfmkhmcaaGreatFnT
import Derived.Test.YtebfhlnfmkhmcaaGreatFn1
import Derived.Test.YtebfhlnfmkhmcaaGreatFn2
import Derived.Test.YtebfhlnfmkhmcaaGreatFn3
namespace Go.Proofs.YtebfhlnfmkhmcaaGreat
open Go.Abs Go.Proofs
set_option linter.unusedSimpArgs false
set_option linter.unusedVariables false
set_option maxHeartbeats 16000000
attribute [local irreducible] Abs.acode Abs.aops Abs.aopsT Abs.thenK Abs.blockK

noncomputable def zc2:ACode:=mO [(9,1),(29,1),(36,1),(43,1),(90,1),(93,1),(96,1)] (Tryz.f29.body.getD .skip)
def zgt:Live:=[(0,[0,1,2,3]),(1,[0,1,3,6,8]),(2,[8]),(3,[0,1,3,6,8]),(4,[0,1,3,8,9]),(5,[0,1,3,8,9,10]),(6,[0,1,8,9,10]),(7,[0,1,8,10,11]),(8,[0,1,8,10,11,12,13,14]),(9,[1,8,10,11,13,14]),(10,[1,8,10,11,13,14,15]),(11,[0,1,8,10]),(12,[0,1,8,10]),(13,[8,10]),(100020,[0,1,3,6,8,20]),(100038,[0,1,8,9,10,38]),(100058,[0,1,8,10,11,13,14,58]),(100091,[0,1,8,10,91])]
noncomputable def xW (a0:((List Int)×Int×Int)) (a1:Int) (a2:(Vec Int 64)) (a3:Bool):Option (((Vec Int 64)×(Vec Int 64))×((List Int)×Int×Int)) :=
 (Option.bind (za7 a1 a2) fun r2=>(if (!r2) then (Option.bind (jL) fun r192=>(some (r192,a0))) else (Option.bind (zdw a1 a2) fun r6=>(Option.bind (zS a0 (r6.length:Int)) fun r8=>(jA (0≤r8.1∧r8.1 < ((r6.length:Nat):Int)) ((Option.bind (α:=(((List Int)×Int×Int)⊕(((Vec Int 64)×(Vec Int 64))×((List Int)×Int×Int)))) ((Option.bind (α:=(Bool×((List Int)×Int×Int))) ((if (!a3) then (Option.bind (zS r8.2 2) fun r98=>(some (((r98.1 == 0),r98.2)))) else (some (false,r8.2)))) fun ⟨x92,x93⟩=>(if x92 then (Option.bind (zS x93 (r6.length:Int)) fun r102=>(jA (0≤r102.1∧r102.1 < ((r6.length:Nat):Int)) ((Option.bind (kE a1 ((rd r6 r8.1.toNat).1) ((rd r6 r102.1.toNat).1)) fun r110=>(Option.bind (yW r110.1) fun r116=>(if (r116 == 0) then (Option.bind (xO a1 ((rd r6 r8.1.toNat).1) ((rd r6 r102.1.toNat).1)) fun r121=>(Option.bind (nH a1 r110.2.1 ((rd r6 r8.1.toNat).1) ((rd r6 r102.1.toNat).2)) fun r145=>(Option.bind (nH a1 r110.2.2 ((rd r6 r102.1.toNat).1) ((rd r6 r8.1.toNat).2)) fun r150=>(Option.bind (xS a1 r145 r150 1) fun r152=>(Option.bind (vV a1 r152 r121.1) fun r155=>(some (.inr (((r121.1,r155),r102.2))))))))) else (some (.inl r102.2)))))))) else (some (.inl x93))))) fun z=>match z with | .inl x84=>(Option.bind (α:=(((Vec Int 64)×(Vec Int 64))×((List Int)×Int×Int))) ((Option.bind (zS x84 40) fun r176=>(if (r176.1 == 0) then (Option.bind (zS r176.2 3) fun r180=>(Option.bind (zS r180.2 a1) fun r183=>(jA (0≤r180.1∧r180.1 < ((64:Nat):Int)) ((some ((((rd r6 r8.1.toNat).1,(yO ((rd r6 r8.1.toNat).2) r180.1.toNat (IntKind.u8.wrap r183.1))),r183.2))))))) else (some (((rd r6 r8.1.toNat),r176.2)))))) fun ⟨x171,x172⟩=>(some (x171,x172))) | .inr r191=>(some r191))))))))
theorem wM (a0:((List Int)×Int×Int)) (a1:Int) (a2:(Vec Int 64)) (a3:Bool) (r:(((Vec Int 64)×(Vec Int 64))×((List Int)×Int×Int))) (h:xW a0 a1 a2 a3=some r):Den Tryz.prog 29 [(.mutp (zB a0)),(i6 a1),(zJ a2),(.bool a3)] { r:=(zA r.1),ms:=[(zB r.2)],fs:=[] }:=by
 refine zed (rs:=[(zA r.1)]) (ac:=zc2) (L:=zgt) (n:=101) (m:=[(9,1),(29,1),(36,1),(43,1),(90,1),(93,1),(96,1)]) (c:=Tryz.f29.body.getD .skip) xL Tryz.func29 (by kernel_rfl) (by kernel_rfl) Tryz.ntmps29 rfl rfl (by kernel_rfl) rfl ?_
 refine ns ⟨[(0,ow 1000000),(1,i6 a1),(2,zJ a2),(3,.bool a3)],[(1000000,bk (zB a0))]⟩ ?_
 unfold zc2
 refine sr (vo 1600 (zJ a2) rfl rfl (vo 1800 xA rfl rfl (nk ⟨[(0,ow 1000000),(1,i6 a1),(3,.bool a3),(6,ow 6),(8,ow 8)],[(6,bk (zJ a2)),(8,bk xA),(1000000,bk (zB a0))]⟩ (yC (sr (vr (i6 a1) (vl (zJ a2) rfl rfl rfl rfl rfl rfl ?_)))))))
 obtain ⟨r2,hr3,h⟩:=bind_some h
 refine ca (zbs a1 a2 r2 hr3) (vr (.bool (!r2)) (nk ⟨[(0,ow 1000000),(1,i6 a1),(3,.bool a3),(6,ow 6),(8,ow 8),(20,.bool (!r2))],[(6,bk (zJ a2)),(8,bk xA),(1000000,bk (zB a0))]⟩ ?_))
 cases hb4:(!r2)
 ·have h:=zW hb4 h
  refine zP rfl (yG (nj ⟨[(0,ow 1000000),(1,i6 a1),(3,.bool a3),(6,ow 6),(8,ow 8)],[(6,bk (zJ a2)),(8,bk xA),(1000000,bk (zB a0))]⟩ (sr (vr (i6 a1) (vl (zJ a2) rfl rfl rfl rfl rfl rfl ?_)))))
  obtain ⟨r6,hr7,h⟩:=bind_some h
  refine ca (zqi a1 a2 r6 hr7) (vr (zL r6) (nk ⟨[(0,ow 1000000),(1,i6 a1),(3,.bool a3),(8,ow 8),(9,zL r6)],[(8,bk xA),(1000000,bk (zB a0))]⟩ (sr (vr (zL r6) (vr (ow 1000000) (vr (zL r6) (vq (i6 (r6.length:Int)) (xX rfl rfl) trivial ?_)))))))
  obtain ⟨r8,hr9,h⟩:=bind_some h
  refine xD (args:=[(.mutp (zB a0)),(i6 (r6.length:Int))]) (i:=0) (id:=1000000) (r:=(i6 r8.1)) (c:=(zB r8.2)) rfl rfl (yA a0 (r6.length:Int) r8 hr9) rfl trivial ?_
  obtain ⟨hc11,h⟩:=zT h
  refine vq (.ref (.row 128 (r6.map zA)) [r8.1.toNat] [r8.1.toNat*128]) rfl (zdp hc11) ?_
  have hl12:LdOk [r8.1.toNat] (.row 128 (r6.map zA)) [r8.1.toNat*128] 128 true (zA (rd r6 r8.1.toNat)):=(.row (llt hc11) rfl (.nil rfl rfl rfl))
  refine vq (zA (rd r6 r8.1.toNat)) (kC (i:=⟨.struct [(0,25),(64,25)],128,128,xA⟩) rfl rfl hl12) hl12.c (vo 2000 xA rfl rfl (vs (zA (rd r6 r8.1.toNat)) rfl rfl (fun _=>rfl) rfl rfl rfl rfl rfl rfl (nk ⟨[(0,ow 1000000),(1,i6 a1),(3,.bool a3),(8,ow 8),(9,zL r6),(10,ow 10)],[(8,bk xA),(10,bk (zA (rd r6 r8.1.toNat))),(1000000,bk (zB r8.2))]⟩ ?_)))
  obtain ⟨y85,hy86,hk87⟩:=bind_some h
  clear h
  refine yN (emb:=fun (s:((List Int)×Int×Int))=>⟨[(0,ow 1000000),(1,i6 a1),(8,ow 8),(10,ow 10)],[(8,bk xA),(10,bk (zA (rd r6 r8.1.toNat))),(1000000,bk (zB s))]⟩) (kG:=fun s=>(.inl s)=y85) ?_ ?_
  ·rintro x84 rfl
   have h:=hk87
   refine ns ⟨[(0,ow 1000000),(1,i6 a1),(8,ow 8),(10,ow 10)],[(8,bk xA),(10,bk (zA (rd r6 r8.1.toNat))),(1000000,bk (zB x84))]⟩ ?_
   obtain ⟨y173,hy174,hk175⟩:=bind_some h
   clear h
   refine yN (emb:=fun (s:(((Vec Int 64)×(Vec Int 64))×((List Int)×Int×Int)))=>⟨[(8,ow 8),(10,ow 10)],[(8,bk xA),(10,bk (zA s.1)),(1000000,bk (zB s.2))]⟩) (kG:=fun s=>s=y173) ?_ ?_
   ·rintro ⟨x171,x172⟩ rfl
    have h:=hk175
    refine ns ⟨[(8,ow 8),(10,ow 10)],[(8,bk xA),(10,bk (zA x171)),(1000000,bk (zB x172))]⟩ (sr (vl (zA x171) rfl rfl rfl rfl rfl rfl (vs (zA x171) rfl rfl (fun _=>rfl) rfl rfl rfl rfl rfl rfl (nx _ rfl (zU ?_)))))
    have hl190:LdOk [] (zA x171) [] 128 true (zA x171):=(.nil rfl rfl rfl)
    refine ⟨.inr rfl,?_⟩
    rw [Tryz.results29]
    cases h
    exact ⟨[],⟨_,_,_,_,_,zM (i:=⟨.struct [(0,25),(64,25)],128,128,xA⟩) rfl rfl rfl hl190,hl190.c,rfl,.inl ⟨rfl,.inl rfl,⟨rfl,rfl,rfl⟩⟩⟩,rfl,⟨_,_,rfl,rfl,rfl⟩⟩
   ·have h:=hy174
    refine sr (vr (ow 1000000) ?_)
    obtain ⟨r176,hr177,h⟩:=bind_some h
    refine xD (args:=[(.mutp (zB x84)),(i6 40)]) (i:=0) (id:=1000000) (r:=(i6 r176.1)) (c:=(zB r176.2)) rfl rfl (yA x84 40 r176 hr177) rfl trivial (vr (.bool (r176.1 == 0)) (nk ⟨[(0,ow 1000000),(1,i6 a1),(8,ow 8),(10,ow 10),(91,.bool (r176.1 == 0))],[(8,bk xA),(10,bk (zA (rd r6 r8.1.toNat))),(1000000,bk (zB r176.2))]⟩ ?_))
    cases hb179:(r176.1 == 0)
    ·have h:=zW hb179 h
     refine zP rfl (yG ?_)
     exact jl (((rd r6 r8.1.toNat),r176.2)) h
    ·have h:=zV hb179 h
     refine zO rfl (zR (vr (ow 1000000) ?_))
     obtain ⟨r180,hr181,h⟩:=bind_some h
     refine xD (args:=[(.mutp (zB r176.2)),(i6 3)]) (i:=0) (id:=1000000) (r:=(i6 r180.1)) (c:=(zB r180.2)) rfl rfl (yA r176.2 3 r180 hr181) rfl trivial (vr (ow 1000000) (vr (i6 a1) ?_))
     obtain ⟨r183,hr184,h⟩:=bind_some h
     refine xD (args:=[(.mutp (zB r180.2)),(i6 a1)]) (i:=0) (id:=1000000) (r:=(i6 r183.1)) (c:=(zB r183.2)) rfl rfl (yA r180.2 a1 r183 hr184) rfl trivial (vr (b8 (IntKind.u8.wrap r183.1)) (vb (.own 10 [1] [64]) rfl rfl ?_))
     obtain ⟨hc186,h⟩:=zT h
     refine vq (.own 10 [1,r180.1.toNat] [64,r180.1.toNat*1]) rfl hc186 ?_
     have hs187:StOk [1,r180.1.toNat] (zA (rd r6 r8.1.toNat)) [64,r180.1.toNat*1] 1 (b8 (IntKind.u8.wrap r183.1)) (zA (((rd r6 r8.1.toNat).1,(yO ((rd r6 r8.1.toNat).2) r180.1.toNat (IntKind.u8.wrap r183.1))))):=(.fld rfl rfl rfl rfl (.arr (y:=IntKind.u8.wrap r183.1) (vlt ((rd r6 r8.1.toNat).2) hc186) rfl (.nil rfl rfl rfl rfl)))
     refine vu .top [(10,bk (zA (((rd r6 r8.1.toNat).1,(yO ((rd r6 r8.1.toNat).2) r180.1.toNat (IntKind.u8.wrap r183.1))))))] (qG (i:=⟨.int .u8,1,1,(.int .u8 0)⟩) rfl rfl (fun _=>rfl) rfl hs187) (hs187.c rfl) rfl (yJ ?_)
     exact jl ((((rd r6 r8.1.toNat).1,(yO ((rd r6 r8.1.toNat).2) r180.1.toNat (IntKind.u8.wrap r183.1))),r183.2)) h
  ·have h:=hy86
   obtain ⟨y94,hy95,hk96⟩:=bind_some h
   clear h
   refine yN (emb:=fun (s:(Bool×((List Int)×Int×Int)))=>⟨[(0,ow 1000000),(1,i6 a1),(8,ow 8),(9,zL r6),(10,ow 10),(38,.bool s.1)],[(8,bk xA),(10,bk (zA (rd r6 r8.1.toNat))),(1000000,bk (zB s.2))]⟩) (kG:=fun s=>s=y94) ?_ ?_
   ·rintro ⟨x92,x93⟩ rfl
    have h:=hk96
    refine ns ⟨[(0,ow 1000000),(1,i6 a1),(8,ow 8),(9,zL r6),(10,ow 10),(38,.bool x92)],[(8,bk xA),(10,bk (zA (rd r6 r8.1.toNat))),(1000000,bk (zB x93))]⟩ ?_
    cases hb101:x92
    ·have h:=zW hb101 h
     refine zP rfl (yG ?_)
     exact jl x93 h
    ·have h:=zV hb101 h
     refine zO rfl (sr (vr (zL r6) (vr (ow 1000000) (vr (zL r6) (vq (i6 (r6.length:Int)) (xX rfl rfl) trivial ?_)))))
     obtain ⟨r102,hr103,h⟩:=bind_some h
     refine xD (args:=[(.mutp (zB x93)),(i6 (r6.length:Int))]) (i:=0) (id:=1000000) (r:=(i6 r102.1)) (c:=(zB r102.2)) rfl rfl (yA x93 (r6.length:Int) r102 hr103) rfl trivial ?_
     obtain ⟨hc105,h⟩:=zT h
     refine vq (.ref (.row 128 (r6.map zA)) [r102.1.toNat] [r102.1.toNat*128]) rfl (zdp hc105) ?_
     have hl106:LdOk [r102.1.toNat] (.row 128 (r6.map zA)) [r102.1.toNat*128] 128 true (zA (rd r6 r102.1.toNat)):=(.row (llt hc105) rfl (.nil rfl rfl rfl))
     refine vq (zA (rd r6 r102.1.toNat)) (kC (i:=⟨.struct [(0,25),(64,25)],128,128,xA⟩) rfl rfl hl106) hl106.c (vo 2100 xA rfl rfl (vs (zA (rd r6 r102.1.toNat)) rfl rfl (fun _=>rfl) rfl rfl rfl rfl rfl rfl (nk ⟨[(0,ow 1000000),(1,i6 a1),(8,ow 8),(10,ow 10),(11,ow 11)],[(8,bk xA),(10,bk (zA (rd r6 r8.1.toNat))),(11,bk (zA (rd r6 r102.1.toNat))),(1000000,bk (zB r102.2))]⟩ (sr (vr (i6 a1) (vb (.own 10 [0] [0]) rfl rfl ?_))))))
     have hl108:LdOk [0] (zA (rd r6 r8.1.toNat)) [0] 64 true (zJ ((rd r6 r8.1.toNat).1)):=(.fld rfl rfl rfl rfl (.nil rfl rfl rfl))
     refine vq (zJ ((rd r6 r8.1.toNat).1)) (zM (i:=⟨.arr 64 5,64,64,(zJ (yH 64 (0:Int)))⟩) rfl rfl rfl hl108) hl108.c (vb (.own 11 [0] [0]) rfl rfl ?_)
     have hl109:LdOk [0] (zA (rd r6 r102.1.toNat)) [0] 64 true (zJ ((rd r6 r102.1.toNat).1)):=(.fld rfl rfl rfl rfl (.nil rfl rfl rfl))
     refine vq (zJ ((rd r6 r102.1.toNat).1)) (zM (i:=⟨.arr 64 5,64,64,(zJ (yH 64 (0:Int)))⟩) rfl rfl rfl hl109) hl109.c ?_
     obtain ⟨r110,hr111,h⟩:=bind_some h
     refine ca (zb2 a1 ((rd r6 r8.1.toNat).1) ((rd r6 r102.1.toNat).1) r110 hr111) (vr (.tuple [(zJ r110.1),(zJ r110.2.1),(zJ r110.2.2)]) (vb (zJ r110.1) rfl rfl (vb (zJ r110.2.1) rfl rfl (vb (zJ r110.2.2) rfl rfl (vo 2200 (yF) rfl rfl (vo 2300 (yF) rfl rfl (vo 2400 (yF) rfl rfl (vs (zJ r110.1) rfl rfl (fun _=>rfl) rfl rfl rfl rfl rfl rfl (vs (zJ r110.2.1) rfl rfl (fun _=>rfl) rfl rfl rfl rfl rfl rfl ?_)))))))))
     refine vs (zJ r110.2.2) rfl rfl (fun _=>rfl) rfl rfl rfl rfl rfl rfl (nk ⟨[(0,ow 1000000),(1,i6 a1),(8,ow 8),(10,ow 10),(11,ow 11),(12,ow 12),(13,ow 13),(14,ow 14)],[(8,bk xA),(10,bk (zA (rd r6 r8.1.toNat))),(11,bk (zA (rd r6 r102.1.toNat))),(12,bk (zJ r110.1)),(13,bk (zJ r110.2.1)),(14,bk (zJ r110.2.2)),(1000000,bk (zB r102.2))]⟩ (sr (vl (zJ r110.1) rfl rfl rfl rfl rfl rfl ?_)))
     obtain ⟨r116,hr117,h⟩:=bind_some h
     refine ca (yZ r110.1 r116 hr117) (vr (.bool (r116 == 0)) (nk ⟨[(0,ow 1000000),(1,i6 a1),(8,ow 8),(10,ow 10),(11,ow 11),(13,ow 13),(14,ow 14),(58,.bool (r116 == 0))],[(8,bk xA),(10,bk (zA (rd r6 r8.1.toNat))),(11,bk (zA (rd r6 r102.1.toNat))),(13,bk (zJ r110.2.1)),(14,bk (zJ r110.2.2)),(1000000,bk (zB r102.2))]⟩ ?_))
     cases hb118:(r116 == 0)
     ·have h:=zW hb118 h
      refine zP rfl (yG ?_)
      exact jl r102.2 h
     ·have h:=zV hb118 h
      refine zO rfl (sr (vr (i6 a1) (vb (.own 10 [0] [0]) rfl rfl ?_)))
      have hl119:LdOk [0] (zA (rd r6 r8.1.toNat)) [0] 64 true (zJ ((rd r6 r8.1.toNat).1)):=(.fld rfl rfl rfl rfl (.nil rfl rfl rfl))
      refine vq (zJ ((rd r6 r8.1.toNat).1)) (zM (i:=⟨.arr 64 5,64,64,(zJ (yH 64 (0:Int)))⟩) rfl rfl rfl hl119) hl119.c (vb (.own 11 [0] [0]) rfl rfl ?_)
      have hl120:LdOk [0] (zA (rd r6 r102.1.toNat)) [0] 64 true (zJ ((rd r6 r102.1.toNat).1)):=(.fld rfl rfl rfl rfl (.nil rfl rfl rfl))
      refine vq (zJ ((rd r6 r102.1.toNat).1)) (zM (i:=⟨.arr 64 5,64,64,(zJ (yH 64 (0:Int)))⟩) rfl rfl rfl hl120) hl120.c ?_
      obtain ⟨r121,hr122,h⟩:=bind_some h
      refine ca (wX a1 ((rd r6 r8.1.toNat).1) ((rd r6 r102.1.toNat).1) r121 hr122) (vr (.tuple [(zJ r121.1),(.bool r121.2)]) (vb (zJ r121.1) rfl rfl (vb (.bool r121.2) rfl rfl (vo 2500 (yF) rfl rfl (vs (zJ r121.1) rfl rfl (fun _=>rfl) rfl rfl rfl rfl rfl rfl (vr (.bool r121.2) (nk ⟨[(1,i6 a1),(8,ow 8),(10,ow 10),(11,ow 11),(13,ow 13),(14,ow 14),(15,ow 15)],[(8,bk xA),(10,bk (zA (rd r6 r8.1.toNat))),(11,bk (zA (rd r6 r102.1.toNat))),(13,bk (zJ r110.2.1)),(14,bk (zJ r110.2.2)),(15,bk (zJ r121.1)),(1000000,bk (zB r102.2))]⟩ (yC (xH [⟨[15],[],[],[]⟩,⟨[],[],[],[]⟩,⟨[],[],[],[]⟩,⟨[],[],[],[]⟩,⟨[13],[],[],[]⟩,⟨[10],[],[10],[]⟩,⟨[10],[],[],[5]⟩,⟨[11],[],[11],[]⟩,⟨[11],[],[],[7]⟩,⟨[],[],[],[3,4,5,6,7,8]⟩,⟨[],[],[],[]⟩,⟨[14],[],[],[]⟩,⟨[11],[],[11],[]⟩,⟨[11],[],[],[12]⟩,⟨[10],[],[10],[]⟩,⟨[10],[],[],[14]⟩,⟨[],[],[],[3,4,5,6,7,8,9,10,11,12,13,14,15]⟩,⟨[],[],[],[2,3,4,5,6,7,8,9,10,11,12,13,14,15,16]⟩,⟨[15],[],[],[]⟩,⟨[],[],[],[1,2,3,4,5,6,7,8,9,10,11,12,13,14,15,16,17,18]⟩,⟨[],[],[],[0,1,2,3,4,5,6,7,8,9,10,11,12,13,14,15,16,17,18,19]⟩,⟨[8],[8],[],[0,1,2,3,4,5,6,7,8,9,10,11,12,13,14,15,16,17,18,19,20]⟩] (by kernel_rfl) ?_)))))))))
      refine zH (vl (zJ r121.1) rfl rfl rfl rfl rfl rfl (dn (dj (i6 a1) rfl (dj (i6 a1) rfl (dj (i6 a1) rfl (zH (vl (zJ r110.2.1) rfl rfl rfl rfl rfl rfl (dn (zH ?_)))))))))
      refine vb (.own 10 [0] [0]) rfl rfl (dn (zH ?_))
      have hl143:LdOk [0] (zA (rd r6 r8.1.toNat)) [0] 64 true (zJ ((rd r6 r8.1.toNat).1)):=(.fld rfl rfl rfl rfl (.nil rfl rfl rfl))
      refine vq (zJ ((rd r6 r8.1.toNat).1)) (zM (i:=⟨.arr 64 5,64,64,(zJ (yH 64 (0:Int)))⟩) rfl rfl rfl hl143) hl143.c (dn (zH (vb (.own 11 [1] [64]) rfl rfl (dn (zH ?_)))))
      have hl144:LdOk [1] (zA (rd r6 r102.1.toNat)) [64] 64 true (zJ ((rd r6 r102.1.toNat).2)):=(.fld rfl rfl rfl rfl (.nil rfl rfl rfl))
      refine vq (zJ ((rd r6 r102.1.toNat).2)) (zM (i:=⟨.arr 64 5,64,64,(zJ (yH 64 (0:Int)))⟩) rfl rfl rfl hl144) hl144.c (dn (zH ?_))
      obtain ⟨r145,hr146,h⟩:=bind_some h
      refine ca (zba a1 r110.2.1 ((rd r6 r8.1.toNat).1) ((rd r6 r102.1.toNat).2) r145 hr146) (dn (dj (i6 a1) rfl (zH (vl (zJ r110.2.2) rfl rfl rfl rfl rfl rfl (dn (zH (vb (.own 11 [0] [0]) rfl rfl (dn (zH ?_)))))))))
      have hl148:LdOk [0] (zA (rd r6 r102.1.toNat)) [0] 64 true (zJ ((rd r6 r102.1.toNat).1)):=(.fld rfl rfl rfl rfl (.nil rfl rfl rfl))
      refine vq (zJ ((rd r6 r102.1.toNat).1)) (zM (i:=⟨.arr 64 5,64,64,(zJ (yH 64 (0:Int)))⟩) rfl rfl rfl hl148) hl148.c (dn (zH (vb (.own 10 [1] [64]) rfl rfl (dn (zH ?_)))))
      have hl149:LdOk [1] (zA (rd r6 r8.1.toNat)) [64] 64 true (zJ ((rd r6 r8.1.toNat).2)):=(.fld rfl rfl rfl rfl (.nil rfl rfl rfl))
      refine vq (zJ ((rd r6 r8.1.toNat).2)) (zM (i:=⟨.arr 64 5,64,64,(zJ (yH 64 (0:Int)))⟩) rfl rfl rfl hl149) hl149.c (dn (zH ?_))
      obtain ⟨r150,hr151,h⟩:=bind_some h
      refine ca (zba a1 r110.2.2 ((rd r6 r102.1.toNat).1) ((rd r6 r8.1.toNat).2) r150 hr151) (dn (zH ?_))
      obtain ⟨r152,hr153,h⟩:=bind_some h
      refine ca (wO a1 r145 r150 1 r152 hr153) (dn (zH (vl (zJ r121.1) rfl rfl rfl rfl rfl rfl (dn (zH ?_)))))
      obtain ⟨r155,hr156,h⟩:=bind_some h
      refine ca (jR a1 r152 r121.1 r155 hr156) (dn (zH (vq (zA (r121.1,r155)) rfl ⟨rfl,(all_cons ⟨(yS rfl),rfl⟩ (all_cons ⟨(yS rfl),rfl⟩ all_nil))⟩ (dn (zH (vs (zA (r121.1,r155)) rfl rfl (fun _=>rfl) rfl rfl rfl rfl rfl rfl (dn (xE (wC rfl ?_)))))))))
      refine zU (xV ?_)
      cases h
      have h:=hk87
      have hl158:LdOk [] (zA (r121.1,r155)) [] 128 true (zA (r121.1,r155)):=(.nil rfl rfl rfl)
      refine ⟨.inr rfl,?_⟩
      rw [Tryz.results29]
      cases h
      exact ⟨[],⟨_,_,_,_,_,zM (i:=⟨.struct [(0,25),(64,25)],128,128,xA⟩) rfl rfl rfl hl158,hl158.c,rfl,.inl ⟨rfl,.inl rfl,⟨rfl,rfl,rfl⟩⟩⟩,rfl,⟨_,_,rfl,rfl,rfl⟩⟩
   ·have h:=hy95
    refine zR (vr (.bool a3) (vr (.bool (!a3)) (vr (.bool (!a3)) ?_)))
    cases hb97:(!a3)
    ·have h:=zW hb97 h
     refine zD rfl (zD rfl (zD rfl (vr (.bool false) (yJ ?_))))
     exact jl (false,r8.2) h
    ·have h:=zV hb97 h
     refine gp (ow 1000000) rfl rfl ?_
     obtain ⟨r98,hr99,h⟩:=bind_some h
     refine zva rfl (args:=[(.mutp (zB r8.2)),(i6 2)]) (i:=0) (id:=1000000) (r:=(i6 r98.1)) (c:=(zB r98.2)) rfl rfl (yA r8.2 2 r98 hr99) rfl trivial (gp (.bool (r98.1 == 0)) rfl rfl (vr (.bool (r98.1 == 0)) (yJ ?_)))
     exact jl (((r98.1 == 0),r98.2)) h
 ·have h:=zV hb4 h
  refine zO rfl (sr ?_)
  obtain ⟨r192,hr193,h⟩:=bind_some h
  refine ca (zfl r192 hr193) (vs (zA r192) rfl rfl (fun _=>rfl) rfl rfl rfl rfl rfl rfl (nx _ rfl (zU (xV ?_))))
  have hl195:LdOk [] (zA r192) [] 128 true (zA r192):=(.nil rfl rfl rfl)
  refine ⟨.inr rfl,?_⟩
  rw [Tryz.results29]
  cases h
  exact ⟨[],⟨_,_,_,_,_,zM (i:=⟨.struct [(0,25),(64,25)],128,128,xA⟩) rfl rfl rfl hl195,hl195.c,rfl,.inl ⟨rfl,.inl rfl,⟨rfl,rfl,rfl⟩⟩⟩,rfl,⟨_,_,rfl,rfl,rfl⟩⟩
def zhx:Live:=[(0,[0]),(1,[0,3,4,5]),(2,[3,4,5,6]),(3,[3,4,5,6,7,8]),(4,[3,4,5,6,7,8,9]),(5,[3,4,5,7,8,9]),(6,[3,4,5,6,7,8,9]),(100026,[3,4,5,6,7,8,9,26])]
noncomputable def mC (a0:(List Int)):Option (Int×(Vec Int 64)×((Vec Int 64)×(Vec Int 64))×((Vec Int 64)×(Vec Int 64))) :=
 (Option.bind (jO a0) fun r1=>(Option.bind (wS r1) fun r3=>(Option.bind (zS r3.2.2 12) fun r16=>(Option.bind (xW r16.2 r3.1 r3.2.1 ((decide (r16.1 > 0)))) fun r19=>(Option.bind (zS r19.2 5) fun r23=>(if (r23.1 == 0) then (some (r3.1,r3.2.1,r19.1,r19.1)) else (Option.bind (xW r23.2 r3.1 r3.2.1 true) fun r39=>(some (r3.1,r3.2.1,r19.1,r39.1)))))))))
theorem zhj (a0:(List Int)) (r:(Int×(Vec Int 64)×((Vec Int 64)×(Vec Int 64))×((Vec Int 64)×(Vec Int 64)))) (h:mC a0=some r):Den Tryz.prog 5 [(xJ a0)] { r:=(.tuple [(i6 r.1),(zJ r.2.1),(zA r.2.2.1),(zA r.2.2.2)]) }:=by
 refine dd (rs:=[(i6 r.1),(zJ r.2.1),(zA r.2.2.1),(zA r.2.2.2)]) (L:=zhx) xL [(14,1),(21,1),(23,1),(25,1),(37,1)] Tryz.func5 Tryz.ntmps5 ?_
 refine ns ⟨[(0,xJ a0)],[]⟩ ?_
 refine sr (vr (i6 0) (vo 1300 (yF) rfl rfl (vo 1400 xA rfl rfl (vo 1500 xA rfl rfl (nk ⟨[(0,xJ a0),(3,ow 3),(4,ow 4),(5,ow 5)],[(3,bk (yF)),(4,bk xA),(5,bk xA)]⟩ (sr (vr (xJ a0) ?_)))))))
 obtain ⟨r1,hr2,h⟩:=bind_some h
 refine zg4 (args:=[(xJ a0)]) (u:=[]) (u2:=[]) (r:=(ow 2000000)) (fs:=[(0,[zB r1])]) rfl rfl (nE a0 r1 hr2) rfl rfl rfl (.inl rfl) rfl (vr (ow 2100) (nk ⟨[(3,ow 3),(4,ow 4),(5,ow 5),(6,ow 6)],[(3,bk (yF)),(4,bk xA),(5,bk xA),(6,bk (zB r1))]⟩ (sr (vr (ow 6) ?_))))
 obtain ⟨r3,hr4,h⟩:=bind_some h
 refine xD (args:=[(.mutp (zB r1))]) (i:=0) (id:=6) (r:=(.tuple [(i6 r3.1),(zJ r3.2.1)])) (c:=(zB r3.2.2)) rfl rfl (vY r1 r3 hr4) rfl trivial (vr (.tuple [(i6 r3.1),(zJ r3.2.1)]) (vb (i6 r3.1) rfl rfl (vb (zJ r3.2.1) rfl rfl (vo 1800 (yF) rfl rfl (vr (i6 r3.1) (vs (zJ r3.2.1) rfl rfl (fun _=>rfl) rfl rfl rfl rfl rfl rfl (nk ⟨[(3,ow 3),(4,ow 4),(5,ow 5),(6,ow 6),(7,i6 r3.1),(8,ow 8)],[(3,bk (yF)),(4,bk xA),(5,bk xA),(6,bk (zB r3.2.2)),(8,bk (zJ r3.2.1))]⟩ (yC (xH [⟨[],[],[6],[]⟩,⟨[],[],[],[]⟩,⟨[8],[],[],[]⟩,⟨[],[],[6],[]⟩,⟨[6],[6],[],[3]⟩,⟨[],[],[],[3,4]⟩,⟨[6],[6],[],[0,1,2,3,4,5]⟩,⟨[1900],[1900],[1900],[]⟩,⟨[1900],[1900],[],[0,1,2,3,4,5,6,7]⟩] (by kernel_rfl) ?_)))))))))
 refine dj (ow 6) rfl (dj (i6 r3.1) rfl (zH (vl (zJ r3.2.1) rfl rfl rfl rfl rfl rfl (dn (dj (ow 6) rfl (zH ?_))))))
 obtain ⟨r16,hr17,h⟩:=bind_some h
 refine xD (args:=[(.mutp (zB r3.2.2)),(i6 12)]) (i:=0) (id:=6) (r:=(i6 r16.1)) (c:=(zB r16.2)) rfl rfl (yA r3.2.2 12 r16 hr17) rfl trivial (dn (dj (.bool ((decide (r16.1 > 0)))) rfl (zH ?_)))
 obtain ⟨r19,hr20,h⟩:=bind_some h
 refine xD (args:=[(.mutp (zB r16.2)),(i6 r3.1),(zJ r3.2.1),(.bool ((decide (r16.1 > 0))))]) (i:=0) (id:=6) (r:=(zA r19.1)) (c:=(zB r19.2)) rfl rfl (wM r16.2 r3.1 r3.2.1 ((decide (r16.1 > 0))) r19 hr20) rfl trivial (dn (zH (vo 1900 xA rfl rfl (dn (zH (vs (zA r19.1) rfl rfl (fun _=>rfl) rfl rfl rfl rfl rfl rfl (dn (xE (nj ⟨[(3,ow 3),(4,ow 4),(5,ow 5),(6,ow 6),(7,i6 r3.1),(8,ow 8),(9,ow 9)],[(3,bk (yF)),(4,bk xA),(5,bk xA),(6,bk (zB r19.2)),(8,bk (zJ r3.2.1)),(9,bk (zA r19.1))]⟩ ?_)))))))))
 refine yC (sr (vr (ow 6) ?_))
 obtain ⟨r23,hr24,h⟩:=bind_some h
 refine xD (args:=[(.mutp (zB r19.2)),(i6 5)]) (i:=0) (id:=6) (r:=(i6 r23.1)) (c:=(zB r23.2)) rfl rfl (yA r19.2 5 r23 hr24) rfl trivial (vr (.bool (r23.1 == 0)) (nk ⟨[(3,ow 3),(4,ow 4),(5,ow 5),(6,ow 6),(7,i6 r3.1),(8,ow 8),(9,ow 9),(26,.bool (r23.1 == 0))],[(3,bk (yF)),(4,bk xA),(5,bk xA),(6,bk (zB r23.2)),(8,bk (zJ r3.2.1)),(9,bk (zA r19.1))]⟩ ?_))
 cases hb26:(r23.1 == 0)
 ·have h:=zW hb26 h
  refine zP rfl (yG (nj ⟨[(3,ow 3),(4,ow 4),(5,ow 5),(6,ow 6),(7,i6 r3.1),(8,ow 8),(9,ow 9)],[(3,bk (yF)),(4,bk xA),(5,bk xA),(6,bk (zB r23.2)),(8,bk (zJ r3.2.1)),(9,bk (zA r19.1))]⟩ (yC (xH [⟨[],[],[],[]⟩,⟨[8],[],[],[]⟩,⟨[9],[],[],[]⟩,⟨[],[],[6],[]⟩,⟨[],[],[],[]⟩,⟨[8],[],[],[]⟩,⟨[6],[6],[],[3,4,5]⟩,⟨[],[],[],[0,3,4,5,6]⟩,⟨[3],[3],[],[0,1,3,4,5,6,7]⟩,⟨[4],[4],[],[0,1,2,3,4,5,6,7,8]⟩,⟨[5],[5],[],[0,1,2,3,4,5,6,7,8,9]⟩] (by kernel_rfl) (dj (i6 r3.1) rfl (zH (vl (zJ r3.2.1) rfl rfl rfl rfl rfl rfl (dn (zH ?_)))))))))
  refine vl (zA r19.1) rfl rfl rfl rfl rfl rfl (dn (dj (ow 6) rfl (dj (i6 r3.1) rfl (zH (vl (zJ r3.2.1) rfl rfl rfl rfl rfl rfl (dn (zH ?_)))))))
  obtain ⟨r39,hr40,h⟩:=bind_some h
  refine xD (args:=[(.mutp (zB r23.2)),(i6 r3.1),(zJ r3.2.1),(.bool true)]) (i:=0) (id:=6) (r:=(zA r39.1)) (c:=(zB r39.2)) rfl rfl (wM r23.2 r3.1 r3.2.1 true r39 hr40) rfl trivial (dn (dj (i6 r3.1) rfl (zH (vs (zJ r3.2.1) rfl rfl (fun _=>rfl) rfl rfl rfl rfl rfl rfl (dn (zH (vs (zA r19.1) rfl rfl (fun _=>rfl) rfl rfl rfl rfl rfl rfl (dn (zH ?_)))))))))
  refine vs (zA r39.1) rfl rfl (fun _=>rfl) rfl rfl rfl rfl rfl rfl (dn (xE (wC rfl (zU ?_))))
  have hl45:LdOk [] (zJ r3.2.1) [] 64 true (zJ r3.2.1):=(.nil rfl rfl rfl)
  have hl46:LdOk [] (zA r19.1) [] 128 true (zA r19.1):=(.nil rfl rfl rfl)
  have hl47:LdOk [] (zA r39.1) [] 128 true (zA r39.1):=(.nil rfl rfl rfl)
  refine ⟨.inr rfl,?_⟩
  rw [Tryz.results5]
  cases h
  exact ⟨_,_,_,_,_,rfl,trivial,.inl ⟨rfl,.inl rfl⟩,rfl,⟨_,_,_,_,_,zM (i:=⟨.arr 64 5,64,64,(zJ (yH 64 (0:Int)))⟩) rfl rfl rfl hl45,hl45.c,.inl ⟨rfl,.inl rfl⟩,rfl,⟨_,_,_,_,_,zM (i:=⟨.struct [(0,25),(64,25)],128,128,xA⟩) rfl rfl rfl hl46,hl46.c,.inl ⟨rfl,.inl rfl⟩,rfl,⟨_,_,_,_,_,zM (i:=⟨.struct [(0,25),(64,25)],128,128,xA⟩) rfl rfl rfl hl47,hl47.c,.inl ⟨rfl,.inl rfl⟩,rfl,rfl⟩⟩⟩⟩
 ·have h:=zV hb26 h
  refine zO rfl (yC (xH [⟨[],[],[],[]⟩,⟨[8],[],[],[]⟩,⟨[9],[],[],[]⟩,⟨[9],[],[],[]⟩,⟨[],[],[],[0]⟩,⟨[3],[3],[],[0,1,4]⟩,⟨[4],[4],[],[0,1,2,4,5]⟩,⟨[5],[5],[],[0,1,2,3,4,5,6]⟩] (by kernel_rfl) (dj (i6 r3.1) rfl (zH (vl (zJ r3.2.1) rfl rfl rfl rfl rfl rfl (dn (zH (vl (zA r19.1) rfl rfl rfl rfl rfl rfl (dn ?_)))))))))
  refine zH (vl (zA r19.1) rfl rfl rfl rfl rfl rfl (dn (dj (i6 r3.1) rfl (zH (vs (zJ r3.2.1) rfl rfl (fun _=>rfl) rfl rfl rfl rfl rfl rfl (dn (zH (vs (zA r19.1) rfl rfl (fun _=>rfl) rfl rfl rfl rfl rfl rfl (dn ?_)))))))))
  refine zH (vs (zA r19.1) rfl rfl (fun _=>rfl) rfl rfl rfl rfl rfl rfl (dn (xE (wC rfl (zU (xV ?_))))))
  have hl60:LdOk [] (zJ r3.2.1) [] 64 true (zJ r3.2.1):=(.nil rfl rfl rfl)
  have hl61:LdOk [] (zA r19.1) [] 128 true (zA r19.1):=(.nil rfl rfl rfl)
  have hl62:LdOk [] (zA r19.1) [] 128 true (zA r19.1):=(.nil rfl rfl rfl)
  refine ⟨.inr rfl,?_⟩
  rw [Tryz.results5]
  cases h
  exact ⟨_,_,_,_,_,rfl,trivial,.inl ⟨rfl,.inl rfl⟩,rfl,⟨_,_,_,_,_,zM (i:=⟨.arr 64 5,64,64,(zJ (yH 64 (0:Int)))⟩) rfl rfl rfl hl60,hl60.c,.inl ⟨rfl,.inl rfl⟩,rfl,⟨_,_,_,_,_,zM (i:=⟨.struct [(0,25),(64,25)],128,128,xA⟩) rfl rfl rfl hl61,hl61.c,.inl ⟨rfl,.inl rfl⟩,rfl,⟨_,_,_,_,_,zM (i:=⟨.struct [(0,25),(64,25)],128,128,xA⟩) rfl rfl rfl hl62,hl62.c,.inl ⟨rfl,.inl rfl⟩,rfl,rfl⟩⟩⟩⟩
def zmc:Live:=[(0,[0]),(1,[0]),(2,[0,3]),(3,[0,3]),(4,[0,3]),(100015,[0,3,15])]
noncomputable def qN (a0:(List Int)) (x62:Int):Option (Int⊕Int) :=
 (Option.bind (α:=Bool) ((if (decide (x62 > 0)) then (jA (0≤IntKind.i64.wrap (x62 - 1)∧IntKind.i64.wrap (x62 - 1) < ((a0.length:Nat):Int)) ((some ((((rd a0 (IntKind.i64.wrap (x62 - 1)).toNat)) == 0))))) else (some false))) fun x80=>(if x80 then (some (.inl (IntKind.i64.wrap (x62 - 1)))) else (some (.inr x62))))
noncomputable def kP (a0:(List Int)):Option (List Int) :=
 (Option.bind (α:=Int) ((yK (fun s:Int=>qN a0 s) (a0.length:Int))) fun x43=>(jA (0≤x43∧x43≤(a0.length:Int)) ((some (a0.take x43.toNat)))))
theorem nM (a0:(List Int)) (r:(List Int)) (h:kP a0=some r):Den Tryz.prog 100 [(zI a0)] { r:=(zI r) }:=by
 refine dd (rs:=[(zI r)]) (L:=zmc) xL [(2,1)] Tryz.func100 Tryz.ntmps100 ?_
 refine ns ⟨[(0,zI a0)],[]⟩ ?_
 refine sr (vr (zI ([])) (nk ⟨[(0,zI a0)],[]⟩ (sr (vr (zI a0) (vq (i6 (a0.length:Int)) (xX rfl rfl) trivial (vr (i6 (a0.length:Int)) (nk ⟨[(0,zI a0),(3,i6 (a0.length:Int))],[]⟩ ?_)))))))
 obtain ⟨y44,hy45,hk46⟩:=bind_some h
 clear h
 refine yN (emb:=fun (s:Int)=>⟨[(0,zI a0),(3,i6 s)],[]⟩) (kG:=fun s=>s=y44) ?_ ?_
 ·rintro x43 rfl
  have h:=hk46
  refine ns ⟨[(0,zI a0),(3,i6 x43)],[]⟩ (sr (vr (zI a0) (vr (i6 x43) (vr (i6 x43) ?_))))
  obtain ⟨hc89,h⟩:=zT h
  refine vq (.sl 1 true ((a0.take x43.toNat).map (AV.int .i64))) (zzu (f:=(AV.int .i64)) (l:=a0) (i:=⟨.int .i64,1,8,(.int .i64 0)⟩) rfl rfl rfl rfl (fun _=>rfl)) ⟨hc89.1,z2z hc89.2,rfl⟩ (vq (zI (a0.take x43.toNat)) (zn2 (i:=⟨.int .i64,1,8,(.int .i64 0)⟩) (f:=(AV.int .i64)) (l:=(a0.take x43.toNat)) rfl rfl rfl) trivial (nx _ rfl (zU ?_)))
  refine ⟨.inr rfl,?_⟩
  rw [Tryz.results100]
  cases h
  exact ⟨_,_,_,_,_,rfl,trivial,.inl ⟨rfl,.inl rfl⟩,rfl,rfl⟩
 ·have h:=hy45
  refine yB ?_
  refine xU (emb:=fun (s:Int)=>⟨[(0,zI a0),(3,i6 s)],[]⟩) (body:=(fun s:Int=>qN a0 s)) (G:=fun q=>some q=some y44) h rfl ?_ (by kernel_rfl)
  rintro X74 x62 x75 h hX76
  have h:qN a0 x62=some x75:=h
  refine ns ⟨[(0,zI a0),(3,i6 x62)],[]⟩ (yC ?_)
  obtain ⟨y81,hy82,hk83⟩:=bind_some h
  clear h
  refine yN (emb:=fun (s:Bool)=>⟨[(0,zI a0),(3,i6 x62),(15,.bool s)],[]⟩) (kG:=fun s=>s=y81) ?_ ?_
  ·rintro x80 rfl
   have h:=hk83
   refine ns ⟨[(0,zI a0),(3,i6 x62),(15,.bool x80)],[]⟩ ?_
   cases hb87:x80
   ·have h:=zW hb87 h
    refine zP rfl (xR (yI ?_))
    cases h
    have h:=hX76
    refine yI (xQ ?_)
    exact jl x62 h
   ·have h:=zV hb87 h
    refine zO rfl (yG (nj ⟨[(0,zI a0),(3,i6 x62)],[]⟩ (yB (zR (vr (i6 x62) (vr (i6 (IntKind.i64.wrap (x62 - 1))) (vr (i6 (IntKind.i64.wrap (x62 - 1))) (yJ (xI ?_)))))))))
    cases h
    exact ag hX76
  ·have h:=hy82
   refine zR (vr (i6 x62) (vr (.bool ((decide (x62 > 0)))) (vr (.bool ((decide (x62 > 0)))) ?_)))
   cases hb84:(decide (x62 > 0))
   ·have h:=zW hb84 h
    refine zD rfl (zD rfl (zD rfl (zD rfl (zD rfl (zD rfl (vr (.bool false) (yJ ?_)))))))
    exact jl false h
   ·have h:=zV hb84 h
    refine gp (zI a0) rfl rfl (gp (i6 x62) rfl rfl (gp (i6 (IntKind.i64.wrap (x62 - 1))) rfl rfl ?_))
    obtain ⟨hc85,h⟩:=zT h
    refine gq (.ref (.row 1 (a0.map (AV.int .i64))) [(IntKind.i64.wrap (x62 - 1)).toNat] [(IntKind.i64.wrap (x62 - 1)).toNat*1]) rfl rfl (zdp hc85) ?_
    have hl86:LdOk [(IntKind.i64.wrap (x62 - 1)).toNat] (.row 1 (a0.map (AV.int .i64))) [(IntKind.i64.wrap (x62 - 1)).toNat*1] 1 false (i6 ((rd a0 (IntKind.i64.wrap (x62 - 1)).toNat))):=(.row (llt hc85) rfl (.nil rfl rfl rfl))
    refine gq (i6 ((rd a0 (IntKind.i64.wrap (x62 - 1)).toNat))) rfl (kC (i:=⟨.int .i64,1,8,(.int .i64 0)⟩) rfl rfl hl86) hl86.c (gp (.bool ((((rd a0 (IntKind.i64.wrap (x62 - 1)).toNat)) == 0))) rfl rfl (vr (.bool ((((rd a0 (IntKind.i64.wrap (x62 - 1)).toNat)) == 0))) (yJ ?_)))
    exact jl ((((rd a0 (IntKind.i64.wrap (x62 - 1)).toNat)) == 0)) h
def ztn:Live:=[(0,[0]),(1,[1]),(2,[1,3]),(3,[3,6,7]),(4,[3,6,7]),(5,[3,5,6,7]),(6,[3,6,7]),(7,[3]),(100008,[3,6,7,8])]
noncomputable def zbu (a0:(Vec Int 64)) (x25:Int) (x26:(List Int)):Option ((Int×(List Int))⊕(List Int)) :=
 (if (decide (x25 < 64)) then (jA (0≤x25∧x25 < ((64:Nat):Int)) ((jA ((x26.length + ([IntKind.i64.wrap (rd a0.1 x25.toNat)]:List Int).length)*8≤140737488355328) ((some (.inl ((IntKind.i64.wrap (x25 + 1),(x26 ++ ([IntKind.i64.wrap (rd a0.1 x25.toNat)])))))))))) else (some (.inr x26)))
noncomputable def mZ (a0:(Vec Int 64)):Option (List Int) :=
 (Option.bind (α:=(List Int)) ((yK (fun s:(Int×(List Int))=>zbu a0 s.1 s.2) (0,[]))) fun x17=>(Option.bind (kP x17) fun r37=>(some r37)))
theorem zdb (a0:(Vec Int 64)) (r:(List Int)) (h:mZ a0=some r):Den Tryz.prog 57 [(zJ a0)] { r:=(zI r) }:=by
 refine dd (rs:=[(zI r)]) (L:=ztn) xL [(2,1),(3,2)] Tryz.func57 Tryz.ntmps57 ?_
 refine ns ⟨[(0,zJ a0)],[]⟩ ?_
 refine sr (vo 1100 (zJ a0) rfl rfl (vr (zI ([])) (nk ⟨[(1,ow 1)],[(1,bk (zJ a0))]⟩ (sr (vu (.osl 1300) [(1300,bk (.row 1 (([]).map (AV.int .i64))))] rfl trivial rfl (nk ⟨[(1,ow 1),(3,.osl 3)],[(1,bk (zJ a0)),(3,bk (.row 1 (([]).map (AV.int .i64))))]⟩ ?_))))))
 obtain ⟨y18,hy19,hk20⟩:=bind_some h
 clear h
 refine yN (emb:=fun (s:(List Int))=>⟨[(3,.osl 3)],[(3,bk (.row 1 (s.map (AV.int .i64))))]⟩) (kG:=fun s=>s=y18) ?_ ?_
 ·rintro x17 rfl
  have h:=hk20
  refine ns ⟨[(3,.osl 3)],[(3,bk (.row 1 (x17.map (AV.int .i64))))]⟩ (sr (vr (.osl 3) ?_))
  obtain ⟨r37,hr38,h⟩:=bind_some h
  refine zaa (args:=[(zI x17)]) (u:=[(3,bf (.row 1 (x17.map (AV.int .i64))))]) (r:=(zI r37)) rfl rfl (nM x17 r37 hr38) rfl (vr (zI r37) (nx _ rfl (zU ?_)))
  refine ⟨.inr rfl,?_⟩
  rw [Tryz.results57]
  cases h
  exact ⟨_,_,_,_,_,rfl,trivial,.inl ⟨rfl,.inl rfl⟩,rfl,rfl⟩
 ·have h:=hy19
  refine sr (vl (zJ a0) rfl rfl rfl rfl rfl rfl (vr (i6 0) (nk ⟨[(3,.osl 3),(6,zJ a0),(7,i6 0)],[(3,bk (.row 1 (([]).map (AV.int .i64))))]⟩ (yB ?_))))
  refine xU (emb:=fun (s:(Int×(List Int)))=>⟨[(3,.osl 3),(6,zJ a0),(7,i6 s.1)],[(3,bk (.row 1 (s.2.map (AV.int .i64))))]⟩) (body:=(fun s:(Int×(List Int))=>zbu a0 s.1 s.2)) (G:=fun q=>some q=some y18) h rfl ?_ (by kernel_rfl)
  rintro X30 ⟨x25,x26⟩ x31 h hX32
  have h:zbu a0 x25 x26=some x31:=h
  refine ns ⟨[(3,.osl 3),(6,zJ a0),(7,i6 x25)],[(3,bk (.row 1 (x26.map (AV.int .i64))))]⟩ (sr (vr (.bool ((decide (x25 < 64)))) (nk ⟨[(3,.osl 3),(6,zJ a0),(7,i6 x25),(8,.bool ((decide (x25 < 64))))],[(3,bk (.row 1 (x26.map (AV.int .i64))))]⟩ (yC ?_))))
  cases hb33:(decide (x25 < 64))
  ·have h:=zW hb33 h
   refine zP rfl (xR (yI ?_))
   cases h
   have h:=hX32
   refine yI (xQ ?_)
   exact jl x26 h
  ·have h:=zV hb33 h
   refine zO rfl (yG (nj ⟨[(3,.osl 3),(6,zJ a0),(7,i6 x25)],[(3,bk (.row 1 (x26.map (AV.int .i64))))]⟩ (yC (yB (sr ?_)))))
   obtain ⟨hc34,h⟩:=zT h
   refine vq (b8 (rd a0.1 x25.toNat)) (z42 (i:=⟨.int .u8,1,1,(.int .u8 0)⟩) (f:=(AV.int .u8)) rfl rfl rfl rfl (vlt a0 hc34)) ⟨hc34.1,hc34.2,rfl,rfl,rfl,rfl⟩ (vr (b8 (rd a0.1 x25.toNat)) (nk ⟨[(3,.osl 3),(5,b8 (rd a0.1 x25.toNat)),(6,zJ a0),(7,i6 x25)],[(3,bk (.row 1 (x26.map (AV.int .i64))))]⟩ (zR (vr (.osl 3) (vr (b8 (rd a0.1 x25.toNat)) (vr (i6 (IntKind.i64.wrap (rd a0.1 x25.toNat))) (vq (.sl 1 true (([IntKind.i64.wrap (rd a0.1 x25.toNat)]).map (AV.int .i64))) rfl ⟨(yS rfl),(yS rfl),(all_cons ⟨(yS rfl),rfl⟩ all_nil)⟩ ?_)))))))
   obtain ⟨hc35,h⟩:=zT h
   refine vu (.osl 2400) [(2400,bk (.row 1 (((x26 ++ ([IntKind.i64.wrap (rd a0.1 x25.toNat)]))).map (AV.int .i64)))),(3,none)] (zki (i:=⟨.int .i64,1,8,(.int .i64 0)⟩) (f:=(AV.int .i64)) (l:=x26) (l2:=[IntKind.i64.wrap (rd a0.1 x25.toNat)]) rfl rfl rfl rfl (fun _=>rfl) rfl rfl) (zsi (f:=(AV.int .i64)) (s:=1) (sz:=1) (by':=8) (u:=[]) (id:=3) hc35 (.inr rfl) rfl rfl rfl) rfl (vr (.osl 2400) (yJ (xI (nj ⟨[(3,.osl 3),(6,zJ a0),(7,i6 x25)],[(3,bk (.row 1 (((x26 ++ ([IntKind.i64.wrap (rd a0.1 x25.toNat)]))).map (AV.int .i64))))]⟩ (zR (vr (i6 (IntKind.i64.wrap (x25 + 1))) (vr (i6 (IntKind.i64.wrap (x25 + 1))) (yJ ?_))))))))
   cases h
   exact ag hX32
def zqn:Live:=[(0,[0]),(1,[0])]
noncomputable def zef (a0:Int):Option Bool :=
 (if (a0 == 2) then (some true) else (if (a0 == 3) then (some true) else (if (a0 == 5) then (some true) else (some (a0 == 7)))))
theorem zjc (a0:Int) (r:Bool) (h:zef a0=some r):Den Tryz.prog 101 [(i6 a0)] { r:=(.bool r) }:=by
 refine dd (rs:=[(.bool r)]) (L:=zqn) xL [] Tryz.func101 Tryz.ntmps101 ?_
 refine ns ⟨[(0,i6 a0)],[]⟩ ?_
 refine sr (vr (.bool false) (nk ⟨[(0,i6 a0)],[]⟩ (sr (vr (i6 a0) (vr (.bool (a0 == 2)) (vr (.bool (a0 == 2)) ?_))))))
 cases hb1:(a0 == 2)
 ·have h:=zW hb1 h
  refine gp (i6 a0) rfl rfl (gp (.bool (a0 == 3)) rfl rfl (vr (.bool (a0 == 3)) (vr (.bool (a0 == 3)) ?_)))
  cases hb2:(a0 == 3)
  ·have h:=zW hb2 h
   refine gp (i6 a0) rfl rfl (gp (.bool (a0 == 5)) rfl rfl (vr (.bool (a0 == 5)) (vr (.bool (a0 == 5)) ?_)))
   cases hb3:(a0 == 5)
   ·have h:=zW hb3 h
    refine gp (i6 a0) rfl rfl (gp (.bool (a0 == 7)) rfl rfl (vr (.bool (a0 == 7)) (vr (.bool (a0 == 7)) (nx _ rfl (zU ?_)))))
    refine ⟨.inr rfl,?_⟩
    rw [Tryz.results101]
    cases h
    exact ⟨_,_,_,_,_,rfl,trivial,.inl ⟨rfl,.inl rfl⟩,rfl,rfl⟩
   ·have h:=zV hb3 h
    refine zD rfl (zD rfl (vr (.bool true) (vr (.bool true) (nx _ rfl (zU ?_)))))
    refine ⟨.inr rfl,?_⟩
    rw [Tryz.results101]
    cases h
    exact ⟨_,_,_,_,_,rfl,trivial,.inl ⟨rfl,.inl rfl⟩,rfl,rfl⟩
  ·have h:=zV hb2 h
   refine zD rfl (zD rfl (vr (.bool true) (vr (.bool true) (zD rfl (zD rfl (vr (.bool true) (vr (.bool true) (nx _ rfl (zU ?_)))))))))
   refine ⟨.inr rfl,?_⟩
   rw [Tryz.results101]
   cases h
   exact ⟨_,_,_,_,_,rfl,trivial,.inl ⟨rfl,.inl rfl⟩,rfl,rfl⟩
 ·have h:=zV hb1 h
  refine zD rfl (zD rfl (vr (.bool true) (vr (.bool true) (zD rfl (zD rfl (vr (.bool true) (vr (.bool true) (zD rfl (zD rfl ?_)))))))))
  refine vr (.bool true) (vr (.bool true) (nx _ rfl (zU ?_)))
  refine ⟨.inr rfl,?_⟩
  rw [Tryz.results101]
  cases h
  exact ⟨_,_,_,_,_,rfl,trivial,.inl ⟨rfl,.inl rfl⟩,rfl,rfl⟩
def zjl:Live:=[(0,[0,1]),(1,[0,1])]
noncomputable def zc7 (a0:Int) (a1:Int):Option Bool :=
 (some ((decide ((IntKind.i64.wrap a0) < a1))))
theorem zi4 (a0:Int) (a1:Int) (r:Bool) (h:zc7 a0 a1=some r):Den Tryz.prog 85 [(b8 a0),(.ref (i6 a1) [] [])] { r:=(.bool r) }:=by
 refine dd (rs:=[(.bool r)]) (L:=zjl) xL [] Tryz.func85 Tryz.ntmps85 ?_
 refine ns ⟨[(0,b8 a0),(1,.ref (i6 a1) [] [])],[]⟩ ?_
 refine sr (vr (.bool false) (nk ⟨[(0,b8 a0),(1,.ref (i6 a1) [] [])],[]⟩ (sr (vr (b8 a0) (vr (i6 (IntKind.i64.wrap a0)) ?_)))))
 have hl1:LdOk [] (i6 a1) [] 1 false (i6 a1):=(.nil rfl rfl rfl)
 refine vq (i6 a1) (kC (i:=⟨.int .i64,1,8,(.int .i64 0)⟩) rfl rfl hl1) hl1.c (vr (.bool ((decide ((IntKind.i64.wrap a0) < a1)))) (vr (.bool ((decide ((IntKind.i64.wrap a0) < a1)))) (nx _ rfl (zU ?_))))
 refine ⟨.inr rfl,?_⟩
 rw [Tryz.results85]
 cases h
 exact ⟨_,_,_,_,_,rfl,trivial,.inl ⟨rfl,.inl rfl⟩,rfl,rfl⟩
def zft:Live:=[(0,[0,1]),(1,[0,1])]
noncomputable def kZ (a0:Int) (a1c0:Int):Option Bool :=
 (Option.bind (zc7 a0 a1c0) fun r2=>(some (!r2)))
theorem zfk (a0:Int) (a1c0:Int) (r:Bool) (h:kZ a0 a1c0=some r):Den Tryz.prog 116 [(b8 a0),(.ref (.clo 85 [] [(.ref (i6 a1c0) [] [])]) [] [])] { r:=(.bool r) }:=by
 refine dd (rs:=[(.bool r)]) (L:=zft) xL [] Tryz.func116 Tryz.ntmps116 ?_
 refine ns ⟨[(0,b8 a0),(1,.ref (.clo 85 [] [(.ref (i6 a1c0) [] [])]) [] [])],[]⟩ ?_
 refine sr (vr (.bool false) (nk ⟨[(0,b8 a0),(1,.ref (.clo 85 [] [(.ref (i6 a1c0) [] [])]) [] [])],[]⟩ (sr ?_)))
 have hl1:LdOk [] (.clo 85 [] [(.ref (i6 a1c0) [] [])]) [] 1 false (.clo 85 [] [(.ref (i6 a1c0) [] [])]):=(.nil rfl rfl rfl)
 refine vq (.clo 85 [] [(.ref (i6 a1c0) [] [])]) (kC (i:=⟨.other,1,8,(.raw .nilFunc)⟩) rfl rfl hl1) hl1.c (vr (b8 a0) ?_)
 obtain ⟨r2,hr3,h⟩:=bind_some h
 refine ca (zi4 a0 a1c0 r2 hr3) (vr (.bool (!r2)) (vr (.bool (!r2)) (nx _ rfl (zU ?_))))
 refine ⟨.inr rfl,?_⟩
 rw [Tryz.results116]
 cases h
 exact ⟨_,_,_,_,_,rfl,trivial,.inl ⟨rfl,.inl rfl⟩,rfl,rfl⟩
def nC:Live:=[(0,[0,1]),(1,[0,1]),(2,[0,1,7,8]),(3,[0,1,7,8]),(4,[0,1,5,7,8]),(5,[5]),(6,[0,1,7,8]),(7,[]),(100009,[0,1,7,8,9]),(100016,[0,1,5,7,8,16])]
noncomputable def yL (a0:(List Int)) (a1c0c0:Int) (x33:Int):Option (Int⊕(Unit⊕Int)) :=
 (if (decide (x33 < (a0.length:Int))) then (jA (0≤x33∧x33 < ((a0.length:Nat):Int)) ((Option.bind (kZ (rd a0 x33.toNat) a1c0c0) fun r46=>(if r46 then (some (.inr (.inr x33))) else (some (.inl (IntKind.i64.wrap (x33 + 1)))))))) else (some (.inr (((.inl ()))))))
noncomputable def wL (a0:(List Int)) (a1c0c0:Int):Option Int :=
 (Option.bind (α:=(Unit⊕Int)) ((yK (fun s:Int=>yL a0 a1c0c0 s) 0)) fun z=>match z with | .inl _=>(some (-1)) | .inr r50=>(some r50))
theorem jW (a0:(List Int)) (a1c0c0:Int) (r:Int) (h:wL a0 a1c0c0=some r):Den Tryz.prog 122 [(xJ a0),(.clo 116 [] [(.ref (.clo 85 [] [(.ref (i6 a1c0c0) [] [])]) [] [])])] { r:=(i6 r) }:=by
 refine dd (rs:=[(i6 r)]) (L:=nC) xL [] Tryz.func122 Tryz.ntmps122 ?_
 refine ns ⟨[(0,xJ a0),(1,.clo 116 [] [(.ref (.clo 85 [] [(.ref (i6 a1c0c0) [] [])]) [] [])])],[]⟩ ?_
 refine sr (vr (i6 0) (nk ⟨[(0,xJ a0),(1,.clo 116 [] [(.ref (.clo 85 [] [(.ref (i6 a1c0c0) [] [])]) [] [])])],[]⟩ ?_))
 obtain ⟨y24,hy25,hk26⟩:=bind_some h
 clear h
 refine yN (emb:=fun (s:Unit)=>⟨[],[]⟩) (kG:=fun s=>(.inl s)=y24) ?_ ?_
 ·rintro _ rfl
  have h:=hk26
  refine ns ⟨[],[]⟩ (sr (vr (i6 (-1)) (nx _ rfl (zU ?_))))
  refine ⟨.inr rfl,?_⟩
  rw [Tryz.results122]
  cases h
  exact ⟨_,_,_,_,_,rfl,trivial,.inl ⟨rfl,.inl rfl⟩,rfl,rfl⟩
 ·have h:=hy25
  refine sr (vr (xJ a0) (vq (i6 (a0.length:Int)) (xX rfl rfl) trivial (vr (i6 0) (nk ⟨[(0,xJ a0),(1,.clo 116 [] [(.ref (.clo 85 [] [(.ref (i6 a1c0c0) [] [])]) [] [])]),(7,i6 (a0.length:Int)),(8,i6 0)],[]⟩ (yB ?_)))))
  refine xU (emb:=fun (s:Int)=>⟨[(0,xJ a0),(1,.clo 116 [] [(.ref (.clo 85 [] [(.ref (i6 a1c0c0) [] [])]) [] [])]),(7,i6 (a0.length:Int)),(8,i6 s)],[]⟩) (body:=(fun s:Int=>yL a0 a1c0c0 s)) (G:=fun q=>some q=some y24) h rfl ?_ (by kernel_rfl)
  rintro X40 x33 x41 h hX42
  have h:yL a0 a1c0c0 x33=some x41:=h
  refine ns ⟨[(0,xJ a0),(1,.clo 116 [] [(.ref (.clo 85 [] [(.ref (i6 a1c0c0) [] [])]) [] [])]),(7,i6 (a0.length:Int)),(8,i6 x33)],[]⟩ (sr (vr (.bool ((decide (x33 < (a0.length:Int))))) (nk ⟨[(0,xJ a0),(1,.clo 116 [] [(.ref (.clo 85 [] [(.ref (i6 a1c0c0) [] [])]) [] [])]),(7,i6 (a0.length:Int)),(8,i6 x33),(9,.bool ((decide (x33 < (a0.length:Int)))))],[]⟩ (yC ?_))))
  cases hb43:(decide (x33 < (a0.length:Int)))
  ·have h:=zW hb43 h
   refine zP rfl (xR (yI ?_))
   cases h
   have h:=hX42
   refine yI (xQ ?_)
   exact jl () h
  ·have h:=zV hb43 h
   refine zO rfl (yG (nj ⟨[(0,xJ a0),(1,.clo 116 [] [(.ref (.clo 85 [] [(.ref (i6 a1c0c0) [] [])]) [] [])]),(7,i6 (a0.length:Int)),(8,i6 x33)],[]⟩ (yC (yB (sr (vr (i6 x33) (vr (i6 x33) (nk ⟨[(0,xJ a0),(1,.clo 116 [] [(.ref (.clo 85 [] [(.ref (i6 a1c0c0) [] [])]) [] [])]),(5,i6 x33),(7,i6 (a0.length:Int)),(8,i6 x33)],[]⟩ (sr ?_)))))))))
   refine vr (.clo 116 [] [(.ref (.clo 85 [] [(.ref (i6 a1c0c0) [] [])]) [] [])]) (vr (xJ a0) (vr (i6 x33) ?_))
   obtain ⟨hc44,h⟩:=zT h
   refine vq (.ref (.row 1 (a0.map (AV.int .u8))) [x33.toNat] [x33.toNat*1]) rfl (zdp hc44) ?_
   have hl45:LdOk [x33.toNat] (.row 1 (a0.map (AV.int .u8))) [x33.toNat*1] 1 false (b8 (rd a0 x33.toNat)):=(.row (llt hc44) rfl (.nil rfl rfl rfl))
   refine vq (b8 (rd a0 x33.toNat)) (kC (i:=⟨.int .u8,1,1,(.int .u8 0)⟩) rfl rfl hl45) hl45.c ?_
   obtain ⟨r46,hr47,h⟩:=bind_some h
   refine ca (zfk (rd a0 x33.toNat) a1c0c0 r46 hr47) (nk ⟨[(0,xJ a0),(1,.clo 116 [] [(.ref (.clo 85 [] [(.ref (i6 a1c0c0) [] [])]) [] [])]),(5,i6 x33),(7,i6 (a0.length:Int)),(8,i6 x33),(16,.bool r46)],[]⟩ ?_)
   cases hb48:r46
   ·have h:=zW hb48 h
    refine zP rfl (yG (xI (nj ⟨[(0,xJ a0),(1,.clo 116 [] [(.ref (.clo 85 [] [(.ref (i6 a1c0c0) [] [])]) [] [])]),(7,i6 (a0.length:Int)),(8,i6 x33)],[]⟩ (zR (vr (i6 (IntKind.i64.wrap (x33 + 1))) (vr (i6 (IntKind.i64.wrap (x33 + 1))) (yJ ?_)))))))
    cases h
    exact ag hX42
   ·have h:=zV hb48 h
    refine zO rfl (sr (vr (i6 x33) (vr (i6 x33) (nx _ rfl (zU (zaz (xV ?_)))))))
    cases h
    have h:=hX42
    refine xV (zaz (xV ?_))
    cases h
    have h:=hk26
    refine ⟨.inr rfl,?_⟩
    rw [Tryz.results122]
    cases h
    exact ⟨_,_,_,_,_,rfl,trivial,.inl ⟨rfl,.inl rfl⟩,rfl,rfl⟩
def jN:Live:=[(0,[0,1]),(1,[0,1])]
noncomputable def wE (a0:(List Int)) (a1c0c0:Int):Option Bool :=
 (Option.bind (wL a0 a1c0c0) fun r1=>(some ((decide (r1 ≥ 0)))))
theorem jC (a0:(List Int)) (a1c0c0:Int) (r:Bool) (h:wE a0 a1c0c0=some r):Den Tryz.prog 115 [(xJ a0),(.clo 116 [] [(.ref (.clo 85 [] [(.ref (i6 a1c0c0) [] [])]) [] [])])] { r:=(.bool r) }:=by
 refine dd (rs:=[(.bool r)]) (L:=jN) xL [] Tryz.func115 Tryz.ntmps115 ?_
 refine ns ⟨[(0,xJ a0),(1,.clo 116 [] [(.ref (.clo 85 [] [(.ref (i6 a1c0c0) [] [])]) [] [])])],[]⟩ ?_
 refine sr (vr (.bool false) (nk ⟨[(0,xJ a0),(1,.clo 116 [] [(.ref (.clo 85 [] [(.ref (i6 a1c0c0) [] [])]) [] [])])],[]⟩ (sr (vr (xJ a0) (vr (.clo 116 [] [(.ref (.clo 85 [] [(.ref (i6 a1c0c0) [] [])]) [] [])]) ?_)))))
 obtain ⟨r1,hr2,h⟩:=bind_some h
 refine ca (jW a0 a1c0c0 r1 hr2) (vr (.bool ((decide (r1 ≥ 0)))) (vr (.bool ((decide (r1 ≥ 0)))) (nx _ rfl (zU ?_))))
 refine ⟨.inr rfl,?_⟩
 rw [Tryz.results115]
 cases h
 exact ⟨_,_,_,_,_,rfl,trivial,.inl ⟨rfl,.inl rfl⟩,rfl,rfl⟩
def zcb:Live:=[(0,[0,1]),(1,[0,3])]
noncomputable def qT (a0:(List Int)) (a1c0:Int):Option Bool :=
 (Option.bind (wE a0 a1c0) fun r1=>(some (!r1)))
theorem zb9 (a0:(List Int)) (a1c0:Int) (r:Bool) (h:qT a0 a1c0=some r):Den Tryz.prog 84 [(xJ a0),(.clo 85 [] [(.ref (i6 a1c0) [] [])])] { r:=(.bool r) }:=by
 refine dd (rs:=[(.bool r)]) (L:=zcb) xL [] Tryz.func84 Tryz.ntmps84 ?_
 refine ns ⟨[(0,xJ a0),(1,.clo 85 [] [(.ref (i6 a1c0) [] [])])],[]⟩ ?_
 refine sr (vo 1300 (.clo 85 [] [(.ref (i6 a1c0) [] [])]) rfl rfl (vr (.bool false) (nk ⟨[(0,xJ a0),(3,ow 3)],[(3,bk (.clo 85 [] [(.ref (i6 a1c0) [] [])]))]⟩ (sr (vr (xJ a0) (vu (.clo 116 [] [(.ref (.clo 85 [] [(.ref (i6 a1c0) [] [])]) [] [])]) [(3,bf (.clo 85 [] [(.ref (i6 a1c0) [] [])]))] rfl trivial rfl ?_))))))
 obtain ⟨r1,hr2,h⟩:=bind_some h
 refine ca (jC a0 a1c0 r1 hr2) (vr (.bool (!r1)) (vr (.bool (!r1)) (nx _ rfl (zU ?_))))
 refine ⟨.inr rfl,?_⟩
 rw [Tryz.results84]
 cases h
 exact ⟨_,_,_,_,_,rfl,trivial,.inl ⟨rfl,.inl rfl⟩,rfl,rfl⟩
def zq6:Live:=[(0,[0,1]),(1,[2,3])]
noncomputable def zcc (a0:Int) (a1:(Vec Int 64)):Option Bool :=
 (Option.bind (qT a1.1 a0) fun r1=>(some r1))
theorem zei (a0:Int) (a1:(Vec Int 64)) (r:Bool) (h:zcc a0 a1=some r):Den Tryz.prog 43 [(i6 a0),(zJ a1)] { r:=(.bool r) }:=by
 refine dd (rs:=[(.bool r)]) (L:=zq6) xL [] Tryz.func43 Tryz.ntmps43 ?_
 refine ns ⟨[(0,i6 a0),(1,zJ a1)],[]⟩ ?_
 refine sr (vo 1200 (i6 a0) rfl rfl (vo 1300 (zJ a1) rfl rfl (vr (.bool false) (nk ⟨[(2,ow 2),(3,ow 3)],[(2,bk (i6 a0)),(3,bk (zJ a1))]⟩ (sr (vu (.sl 1 true (a1.1.map (AV.int .u8))) [(3,bf (zJ a1))] rfl ⟨rfl,trivial,rfl,rfl⟩ rfl (vu (.clo 85 [] [(.ref (i6 a0) [] [])]) [(2,bf (i6 a0))] rfl trivial rfl ?_)))))))
 obtain ⟨r1,hr2,h⟩:=bind_some h
 refine zaa (args:=[(.sl 1 true (a1.1.map (AV.int .u8))),(.clo 85 [] [(.ref (i6 a0) [] [])])]) (u:=[]) (r:=(.bool r1)) rfl rfl (Den.args (zb9 a1.1 a0 r1 hr2) rfl rfl (.cons (.loose _) (.cons (.refl _) .nil))) rfl (vr (.bool r1) (nx _ rfl (zU ?_)))
 refine ⟨.inr rfl,?_⟩
 rw [Tryz.results43]
 cases h
 exact ⟨_,_,_,_,_,rfl,trivial,.inl ⟨rfl,.inl rfl⟩,rfl,rfl⟩
def zrg:Live:=[(0,[0,1]),(1,[0,3])]
noncomputable def zhc (a0:Int) (a1:(Vec Int 64)):Option Bool :=
 (Option.bind (zef a0) fun r1=>(if r1 then (Option.bind (zcc a0 a1) fun r5=>(some r5)) else (some false)))
theorem zqw (a0:Int) (a1:(Vec Int 64)) (r:Bool) (h:zhc a0 a1=some r):Den Tryz.prog 58 [(i6 a0),(zJ a1)] { r:=(.bool r) }:=by
 refine dd (rs:=[(.bool r)]) (L:=zrg) xL [] Tryz.func58 Tryz.ntmps58 ?_
 refine ns ⟨[(0,i6 a0),(1,zJ a1)],[]⟩ ?_
 refine sr (vo 1300 (zJ a1) rfl rfl (vr (.bool false) (nk ⟨[(0,i6 a0),(3,ow 3)],[(3,bk (zJ a1))]⟩ (sr (vr (i6 a0) ?_)))))
 obtain ⟨r1,hr2,h⟩:=bind_some h
 refine ca (zjc a0 r1 hr2) (vr (.bool r1) ?_)
 cases hb3:r1
 ·have h:=zW hb3 h
  refine zD rfl (zD rfl (zD rfl (vr (.bool false) (vr (.bool false) (nx _ rfl (zU ?_))))))
  refine ⟨.inr rfl,?_⟩
  rw [Tryz.results58]
  cases h
  exact ⟨_,_,_,_,_,rfl,trivial,.inl ⟨rfl,.inl rfl⟩,rfl,rfl⟩
 ·have h:=zV hb3 h
  refine gp (i6 a0) rfl rfl ?_
  have hl4:LdOk [] (zJ a1) [] 64 true (zJ a1):=(.nil rfl rfl rfl)
  refine gq (zJ a1) rfl (zM (i:=⟨.arr 64 5,64,64,(zJ (yH 64 (0:Int)))⟩) rfl rfl rfl hl4) hl4.c ?_
  obtain ⟨r5,hr6,h⟩:=bind_some h
  refine wQ rfl (args:=[(i6 a0),(zJ a1)]) (u:=[]) (r:=(.bool r5)) rfl rfl (zei a0 a1 r5 hr6) rfl (vr (.bool r5) (vr (.bool r5) (nx _ rfl (zU ?_))))
  refine ⟨.inr rfl,?_⟩
  rw [Tryz.results58]
  cases h
  exact ⟨_,_,_,_,_,rfl,trivial,.inl ⟨rfl,.inl rfl⟩,rfl,rfl⟩
def zms:Live:=[(0,[0]),(1,[0])]
noncomputable def xF (a0:(List Int)):Option Int :=
 (some (IntKind.i64.wrap ((a0.length:Int) - 1)))
theorem qA (a0:(List Int)) (r:Int) (h:xF a0=some r):Den Tryz.prog 59 [(zI a0)] { r:=(i6 r) }:=by
 refine dd (rs:=[(i6 r)]) (L:=zms) xL [] Tryz.func59 Tryz.ntmps59 ?_
 refine ns ⟨[(0,zI a0)],[]⟩ ?_
 refine sr (vr (i6 0) (nk ⟨[(0,zI a0)],[]⟩ (sr (vr (zI a0) (vq (i6 (a0.length:Int)) (xX rfl rfl) trivial (vr (i6 (IntKind.i64.wrap ((a0.length:Int) - 1))) (vr (i6 (IntKind.i64.wrap ((a0.length:Int) - 1))) (nx _ rfl (zU ?_)))))))))
 refine ⟨.inr rfl,?_⟩
 rw [Tryz.results59]
 cases h
 exact ⟨_,_,_,_,_,rfl,trivial,.inl ⟨rfl,.inl rfl⟩,rfl,rfl⟩
def zhl:Live:=[(0,[0,1]),(1,[1,2])]
noncomputable def zbg (a0:(Vec Int 64)) (a1:Int):Option Bool :=
 (Option.bind (zcc a1 a0) fun r3=>(some r3))
theorem zgp (a0:(Vec Int 64)) (a1:Int) (r:Bool) (h:zbg a0 a1=some r):Den Tryz.prog 120 [(zJ a0),(.ref (i6 a1) [] [])] { r:=(.bool r) }:=by
 refine dd (rs:=[(.bool r)]) (L:=zhl) xL [] Tryz.func120 Tryz.ntmps120 ?_
 refine ns ⟨[(0,zJ a0),(1,.ref (i6 a1) [] [])],[]⟩ ?_
 refine sr (vo 1200 (zJ a0) rfl rfl (vr (.bool false) (nk ⟨[(1,.ref (i6 a1) [] []),(2,ow 2)],[(2,bk (zJ a0))]⟩ (sr ?_))))
 have hl1:LdOk [] (i6 a1) [] 1 false (i6 a1):=(.nil rfl rfl rfl)
 refine vq (i6 a1) (kC (i:=⟨.int .i64,1,8,(.int .i64 0)⟩) rfl rfl hl1) hl1.c (vl (zJ a0) rfl rfl rfl rfl rfl rfl ?_)
 obtain ⟨r3,hr4,h⟩:=bind_some h
 refine ca (zei a1 a0 r3 hr4) (vr (.bool r3) (nx _ rfl (zU ?_)))
 refine ⟨.inr rfl,?_⟩
 rw [Tryz.results120]
 cases h
 exact ⟨_,_,_,_,_,rfl,trivial,.inl ⟨rfl,.inl rfl⟩,rfl,rfl⟩
def zd6:Live:=[(0,[0,1]),(1,[1,2])]
noncomputable def qJ (a0:(Vec Int 64)) (a1c0:Int):Option Bool :=
 (Option.bind (zbg a0 a1c0) fun r3=>(some (!r3)))
theorem zd3 (a0:(Vec Int 64)) (a1c0:Int) (r:Bool) (h:qJ a0 a1c0=some r):Den Tryz.prog 125 [(zJ a0),(.ref (.clo 120 [] [(.ref (i6 a1c0) [] [])]) [] [])] { r:=(.bool r) }:=by
 refine dd (rs:=[(.bool r)]) (L:=zd6) xL [] Tryz.func125 Tryz.ntmps125 ?_
 refine ns ⟨[(0,zJ a0),(1,.ref (.clo 120 [] [(.ref (i6 a1c0) [] [])]) [] [])],[]⟩ ?_
 refine sr (vo 1200 (zJ a0) rfl rfl (vr (.bool false) (nk ⟨[(1,.ref (.clo 120 [] [(.ref (i6 a1c0) [] [])]) [] []),(2,ow 2)],[(2,bk (zJ a0))]⟩ (sr ?_))))
 have hl1:LdOk [] (.clo 120 [] [(.ref (i6 a1c0) [] [])]) [] 1 false (.clo 120 [] [(.ref (i6 a1c0) [] [])]):=(.nil rfl rfl rfl)
 refine vq (.clo 120 [] [(.ref (i6 a1c0) [] [])]) (kC (i:=⟨.other,1,8,(.raw .nilFunc)⟩) rfl rfl hl1) hl1.c (vl (zJ a0) rfl rfl rfl rfl rfl rfl ?_)
 obtain ⟨r3,hr4,h⟩:=bind_some h
 refine ca (zgp a0 a1c0 r3 hr4) (vr (.bool (!r3)) (vr (.bool (!r3)) (nx _ rfl (zU ?_))))
 refine ⟨.inr rfl,?_⟩
 rw [Tryz.results125]
 cases h
 exact ⟨_,_,_,_,_,rfl,trivial,.inl ⟨rfl,.inl rfl⟩,rfl,rfl⟩
def qY:Live:=[(0,[0,1]),(1,[0,1]),(2,[0,1,7,8]),(3,[0,1,7,8]),(4,[0,1,5,7,8]),(5,[5]),(6,[0,1,7,8]),(7,[]),(100009,[0,1,7,8,9]),(100016,[0,1,5,7,8,16])]
noncomputable def yE (a0:(List (Vec Int 64))) (a1c0c0:Int) (x33:Int):Option (Int⊕(Unit⊕Int)) :=
 (if (decide (x33 < (a0.length:Int))) then (jA (0≤x33∧x33 < ((a0.length:Nat):Int)) ((Option.bind (qJ (rd a0 x33.toNat) a1c0c0) fun r46=>(if r46 then (some (.inr (.inr x33))) else (some (.inl (IntKind.i64.wrap (x33 + 1)))))))) else (some (.inr (((.inl ()))))))
noncomputable def xK (a0:(List (Vec Int 64))) (a1c0c0:Int):Option Int :=
 (Option.bind (α:=(Unit⊕Int)) ((yK (fun s:Int=>yE a0 a1c0c0 s) 0)) fun z=>match z with | .inl _=>(some (-1)) | .inr r50=>(some r50))
theorem qO (a0:(List (Vec Int 64))) (a1c0c0:Int) (r:Int) (h:xK a0 a1c0c0=some r):Den Tryz.prog 127 [(wF a0),(.clo 125 [] [(.ref (.clo 120 [] [(.ref (i6 a1c0c0) [] [])]) [] [])])] { r:=(i6 r) }:=by
 refine dd (rs:=[(i6 r)]) (L:=qY) xL [] Tryz.func127 Tryz.ntmps127 ?_
 refine ns ⟨[(0,wF a0),(1,.clo 125 [] [(.ref (.clo 120 [] [(.ref (i6 a1c0c0) [] [])]) [] [])])],[]⟩ ?_
 refine sr (vr (i6 0) (nk ⟨[(0,wF a0),(1,.clo 125 [] [(.ref (.clo 120 [] [(.ref (i6 a1c0c0) [] [])]) [] [])])],[]⟩ ?_))
 obtain ⟨y24,hy25,hk26⟩:=bind_some h
 clear h
 refine yN (emb:=fun (s:Unit)=>⟨[],[]⟩) (kG:=fun s=>(.inl s)=y24) ?_ ?_
 ·rintro _ rfl
  have h:=hk26
  refine ns ⟨[],[]⟩ (sr (vr (i6 (-1)) (nx _ rfl (zU ?_))))
  refine ⟨.inr rfl,?_⟩
  rw [Tryz.results127]
  cases h
  exact ⟨_,_,_,_,_,rfl,trivial,.inl ⟨rfl,.inl rfl⟩,rfl,rfl⟩
 ·have h:=hy25
  refine sr (vr (wF a0) (vq (i6 (a0.length:Int)) (xX rfl rfl) trivial (vr (i6 0) (nk ⟨[(0,wF a0),(1,.clo 125 [] [(.ref (.clo 120 [] [(.ref (i6 a1c0c0) [] [])]) [] [])]),(7,i6 (a0.length:Int)),(8,i6 0)],[]⟩ (yB ?_)))))
  refine xU (emb:=fun (s:Int)=>⟨[(0,wF a0),(1,.clo 125 [] [(.ref (.clo 120 [] [(.ref (i6 a1c0c0) [] [])]) [] [])]),(7,i6 (a0.length:Int)),(8,i6 s)],[]⟩) (body:=(fun s:Int=>yE a0 a1c0c0 s)) (G:=fun q=>some q=some y24) h rfl ?_ (by kernel_rfl)
  rintro X40 x33 x41 h hX42
  have h:yE a0 a1c0c0 x33=some x41:=h
  refine ns ⟨[(0,wF a0),(1,.clo 125 [] [(.ref (.clo 120 [] [(.ref (i6 a1c0c0) [] [])]) [] [])]),(7,i6 (a0.length:Int)),(8,i6 x33)],[]⟩ (sr (vr (.bool ((decide (x33 < (a0.length:Int))))) (nk ⟨[(0,wF a0),(1,.clo 125 [] [(.ref (.clo 120 [] [(.ref (i6 a1c0c0) [] [])]) [] [])]),(7,i6 (a0.length:Int)),(8,i6 x33),(9,.bool ((decide (x33 < (a0.length:Int)))))],[]⟩ (yC ?_))))
  cases hb43:(decide (x33 < (a0.length:Int)))
  ·have h:=zW hb43 h
   refine zP rfl (xR (yI ?_))
   cases h
   have h:=hX42
   refine yI (xQ ?_)
   exact jl () h
  ·have h:=zV hb43 h
   refine zO rfl (yG (nj ⟨[(0,wF a0),(1,.clo 125 [] [(.ref (.clo 120 [] [(.ref (i6 a1c0c0) [] [])]) [] [])]),(7,i6 (a0.length:Int)),(8,i6 x33)],[]⟩ (yC (yB (sr (vr (i6 x33) (vr (i6 x33) (nk ⟨[(0,wF a0),(1,.clo 125 [] [(.ref (.clo 120 [] [(.ref (i6 a1c0c0) [] [])]) [] [])]),(5,i6 x33),(7,i6 (a0.length:Int)),(8,i6 x33)],[]⟩ (sr ?_)))))))))
   refine vr (.clo 125 [] [(.ref (.clo 120 [] [(.ref (i6 a1c0c0) [] [])]) [] [])]) (vr (wF a0) (vr (i6 x33) ?_))
   obtain ⟨hc44,h⟩:=zT h
   refine vq (.ref (.row 64 (a0.map zJ)) [x33.toNat] [x33.toNat*64]) rfl (zdp hc44) ?_
   have hl45:LdOk [x33.toNat] (.row 64 (a0.map zJ)) [x33.toNat*64] 64 true (zJ (rd a0 x33.toNat)):=(.row (llt hc44) rfl (.nil rfl rfl rfl))
   refine vq (zJ (rd a0 x33.toNat)) (kC (i:=⟨.arr 64 5,64,64,(zJ (yH 64 (0:Int)))⟩) rfl rfl hl45) hl45.c ?_
   obtain ⟨r46,hr47,h⟩:=bind_some h
   refine ca (zd3 (rd a0 x33.toNat) a1c0c0 r46 hr47) (nk ⟨[(0,wF a0),(1,.clo 125 [] [(.ref (.clo 120 [] [(.ref (i6 a1c0c0) [] [])]) [] [])]),(5,i6 x33),(7,i6 (a0.length:Int)),(8,i6 x33),(16,.bool r46)],[]⟩ ?_)
   cases hb48:r46
   ·have h:=zW hb48 h
    refine zP rfl (yG (xI (nj ⟨[(0,wF a0),(1,.clo 125 [] [(.ref (.clo 120 [] [(.ref (i6 a1c0c0) [] [])]) [] [])]),(7,i6 (a0.length:Int)),(8,i6 x33)],[]⟩ (zR (vr (i6 (IntKind.i64.wrap (x33 + 1))) (vr (i6 (IntKind.i64.wrap (x33 + 1))) (yJ ?_)))))))
    cases h
    exact ag hX42
   ·have h:=zV hb48 h
    refine zO rfl (sr (vr (i6 x33) (vr (i6 x33) (nx _ rfl (zU (zaz (xV ?_)))))))
    cases h
    have h:=hX42
    refine xV (zaz (xV ?_))
    cases h
    have h:=hk26
    refine ⟨.inr rfl,?_⟩
    rw [Tryz.results127]
    cases h
    exact ⟨_,_,_,_,_,rfl,trivial,.inl ⟨rfl,.inl rfl⟩,rfl,rfl⟩
def qH:Live:=[(0,[0,1]),(1,[0,1])]
noncomputable def xG (a0:(List (Vec Int 64))) (a1c0c0:Int):Option Bool :=
 (Option.bind (xK a0 a1c0c0) fun r1=>(some ((decide (r1 ≥ 0)))))
theorem qD (a0:(List (Vec Int 64))) (a1c0c0:Int) (r:Bool) (h:xG a0 a1c0c0=some r):Den Tryz.prog 124 [(wF a0),(.clo 125 [] [(.ref (.clo 120 [] [(.ref (i6 a1c0c0) [] [])]) [] [])])] { r:=(.bool r) }:=by
 refine dd (rs:=[(.bool r)]) (L:=qH) xL [] Tryz.func124 Tryz.ntmps124 ?_
 refine ns ⟨[(0,wF a0),(1,.clo 125 [] [(.ref (.clo 120 [] [(.ref (i6 a1c0c0) [] [])]) [] [])])],[]⟩ ?_
 refine sr (vr (.bool false) (nk ⟨[(0,wF a0),(1,.clo 125 [] [(.ref (.clo 120 [] [(.ref (i6 a1c0c0) [] [])]) [] [])])],[]⟩ (sr (vr (wF a0) (vr (.clo 125 [] [(.ref (.clo 120 [] [(.ref (i6 a1c0c0) [] [])]) [] [])]) ?_)))))
 obtain ⟨r1,hr2,h⟩:=bind_some h
 refine ca (qO a0 a1c0c0 r1 hr2) (vr (.bool ((decide (r1 ≥ 0)))) (vr (.bool ((decide (r1 ≥ 0)))) (nx _ rfl (zU ?_))))
 refine ⟨.inr rfl,?_⟩
 rw [Tryz.results124]
 cases h
 exact ⟨_,_,_,_,_,rfl,trivial,.inl ⟨rfl,.inl rfl⟩,rfl,rfl⟩
def mY:Live:=[(0,[0,1]),(1,[0,3])]
noncomputable def wH (a0:(List (Vec Int 64))) (a1c0:Int):Option Bool :=
 (Option.bind (xG a0 a1c0) fun r1=>(some (!r1)))
theorem mK (a0:(List (Vec Int 64))) (a1c0:Int) (r:Bool) (h:wH a0 a1c0=some r):Den Tryz.prog 119 [(wF a0),(.clo 120 [] [(.ref (i6 a1c0) [] [])])] { r:=(.bool r) }:=by
 refine dd (rs:=[(.bool r)]) (L:=mY) xL [] Tryz.func119 Tryz.ntmps119 ?_
 refine ns ⟨[(0,wF a0),(1,.clo 120 [] [(.ref (i6 a1c0) [] [])])],[]⟩ ?_
 refine sr (vo 1300 (.clo 120 [] [(.ref (i6 a1c0) [] [])]) rfl rfl (vr (.bool false) (nk ⟨[(0,wF a0),(3,ow 3)],[(3,bk (.clo 120 [] [(.ref (i6 a1c0) [] [])]))]⟩ (sr (vr (wF a0) (vu (.clo 125 [] [(.ref (.clo 120 [] [(.ref (i6 a1c0) [] [])]) [] [])]) [(3,bf (.clo 120 [] [(.ref (i6 a1c0) [] [])]))] rfl trivial rfl ?_))))))
 obtain ⟨r1,hr2,h⟩:=bind_some h
 refine ca (qD a0 a1c0 r1 hr2) (vr (.bool (!r1)) (vr (.bool (!r1)) (nx _ rfl (zU ?_))))
 refine ⟨.inr rfl,?_⟩
 rw [Tryz.results119]
 cases h
 exact ⟨_,_,_,_,_,rfl,trivial,.inl ⟨rfl,.inl rfl⟩,rfl,rfl⟩
def znp:Live:=[(0,[0,1]),(1,[1,2]),(2,[]),(3,[]),(100013,[13])]
noncomputable def zd7 (a0:Int) (a1:(List (Vec Int 64))):Option Int :=
 (Option.bind (α:=Bool) ((Option.bind (zef a0) fun r12=>(if (!r12) then (some true) else (Option.bind (wH a1 a0) fun r15=>(some (!r15)))))) fun x7=>(if x7 then (some 1) else (some 0)))
theorem znh (a0:Int) (a1:(List (Vec Int 64))) (r:Int) (h:zd7 a0 a1=some r):Den Tryz.prog 102 [(i6 a0),(wF a1)] { r:=(i6 r) }:=by
 refine dd (rs:=[(i6 r)]) (L:=znp) xL [] Tryz.func102 Tryz.ntmps102 ?_
 refine ns ⟨[(0,i6 a0),(1,wF a1)],[]⟩ ?_
 refine sr (vo 1200 (i6 a0) rfl rfl (vr (i6 0) (nk ⟨[(1,wF a1),(2,ow 2)],[(2,bk (i6 a0))]⟩ (yC ?_))))
 obtain ⟨y8,hy9,hk10⟩:=bind_some h
 clear h
 refine yN (emb:=fun (s:Bool)=>⟨[(13,.bool s)],[]⟩) (kG:=fun s=>s=y8) ?_ ?_
 ·rintro x7 rfl
  have h:=hk10
  refine ns ⟨[(13,.bool x7)],[]⟩ ?_
  cases hb17:x7
  ·have h:=zW hb17 h
   refine zP rfl (yG (nj ⟨[],[]⟩ (sr (vr (i6 0) (nx _ rfl (zU ?_))))))
   refine ⟨.inr rfl,?_⟩
   rw [Tryz.results102]
   cases h
   exact ⟨_,_,_,_,_,rfl,trivial,.inl ⟨rfl,.inl rfl⟩,rfl,rfl⟩
  ·have h:=zV hb17 h
   refine zO rfl (sr (vr (i6 1) (nx _ rfl (zU (xV ?_)))))
   refine ⟨.inr rfl,?_⟩
   rw [Tryz.results102]
   cases h
   exact ⟨_,_,_,_,_,rfl,trivial,.inl ⟨rfl,.inl rfl⟩,rfl,rfl⟩
 ·have h:=hy9
  refine zR (vl (i6 a0) rfl rfl rfl rfl rfl rfl ?_)
  obtain ⟨r12,hr13,h⟩:=bind_some h
  refine ca (zjc a0 r12 hr13) (vr (.bool (!r12)) (vr (.bool (!r12)) ?_))
  cases hb14:(!r12)
  ·have h:=zW hb14 h
   refine gp (wF a1) rfl rfl (zte rfl (v:=(.clo 120 [] [(.ref (i6 a0) [] [])])) (u:=[(2,bf (i6 a0))]) rfl trivial rfl ?_)
   obtain ⟨r15,hr16,h⟩:=bind_some h
   refine wQ rfl (args:=[(wF a1),(.clo 120 [] [(.ref (i6 a0) [] [])])]) (u:=[]) (r:=(.bool r15)) rfl rfl (mK a1 a0 r15 hr16) rfl (gp (.bool (!r15)) rfl rfl (vr (.bool (!r15)) (yJ ?_)))
   exact jl (!r15) h
  ·have h:=zV hb14 h
   refine zD rfl (zD rfl (zD rfl (zD rfl (vr (.bool true) (yJ ?_)))))
   exact jl true h
end Go.Proofs.YtebfhlnfmkhmcaaGreat
