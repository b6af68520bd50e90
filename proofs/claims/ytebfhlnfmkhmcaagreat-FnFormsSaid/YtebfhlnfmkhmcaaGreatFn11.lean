/- Functions of the program: plain Lean functions, and that the program computes them. Printed by gen.py. -/
import Derived.Test.YtebfhlnfmkhmcaaGreatFnT
import Derived.Test.YtebfhlnfmkhmcaaGreatFn1
import Derived.Test.YtebfhlnfmkhmcaaGreatFn2
import Derived.Test.YtebfhlnfmkhmcaaGreatFn3
import Derived.Test.YtebfhlnfmkhmcaaGreatFn10
namespace Go.Proofs.YtebfhlnfmkhmcaaGreat
open Go.Abs Go.Proofs
set_option linter.unusedSimpArgs false
set_option linter.unusedVariables false
set_option maxHeartbeats 16000000
attribute [local irreducible] Abs.acode Abs.aops Abs.aopsT Abs.thenK Abs.blockK

noncomputable def zen:ACode:=mO [(13,1),(20,1),(25,1)] (Tryz.f98.body.getD .skip)
def zjq:Live:=[(0,[0,1,2]),(1,[0,1,2,6]),(2,[0,1,2,6,7]),(3,[0,1,6,7,8]),(4,[0,1,6,7,8]),(5,[0,1,6,7,8]),(6,[0,1,6,7,8]),(7,[6,7]),(100016,[0,1,6,7,8,16]),(100021,[0,1,6,7,8,21])]
noncomputable def qK (a1:Int) (x116:Int) (x117:(Vec Int 64)) (x118:((List Int)×Int×Int)):Option ((Int×(Vec Int 64)×((List Int)×Int×Int))⊕((Vec Int 64)×((List Int)×Int×Int))) :=
 (if (decide (x116 ≥ 0)) then (Option.bind (α:=((Vec Int 64)×((List Int)×Int×Int))) ((Option.bind (zS x118 3) fun r161=>(if (decide (r161.1 > 0)) then (Option.bind (zS r161.2 a1) fun r165=>(jA (0≤x116∧x116 < ((64:Nat):Int)) ((some (((yO x117 x116.toNat (IntKind.u8.wrap r165.1)),r165.2)))))) else (some (x117,r161.2))))) fun ⟨x156,x157⟩=>(some (.inl ((IntKind.i64.wrap (x116 - 1),x156,x157))))) else (some (.inr (x117,x118))))
noncomputable def nJ (a0:((List Int)×Int×Int)) (a1:Int) (a2:Int):Option ((Vec Int 64)×((List Int)×Int×Int)) :=
 (Option.bind (α:=((Vec Int 64)×((List Int)×Int×Int))) ((Option.bind (zS a0 (IntKind.i64.wrap (a2 + 2))) fun r89=>(yK (fun s:(Int×(Vec Int 64)×((List Int)×Int×Int))=>qK a1 s.1 s.2.1 s.2.2) (IntKind.i64.wrap (r89.1 - 1),(yH 64 (0:Int)),r89.2)))) fun ⟨x84,x85⟩=>(some (x84,x85)))
theorem zim (a0:((List Int)×Int×Int)) (a1:Int) (a2:Int) (r:((Vec Int 64)×((List Int)×Int×Int))) (h:nJ a0 a1 a2=some r):Den Tryz.prog 98 [(.mutp (zB a0)),(i6 a1),(i6 a2)] { r:=(zJ r.1),ms:=[(zB r.2)],fs:=[] }:=by
 refine zed (rs:=[(zJ r.1)]) (ac:=zen) (L:=zjq) (n:=29) (m:=[(13,1),(20,1),(25,1)]) (c:=Tryz.f98.body.getD .skip) xL Tryz.func98 (by kernel_rfl) (by kernel_rfl) Tryz.ntmps98 rfl rfl (by kernel_rfl) rfl ?_
 refine ns ⟨[(0,ow 1000000),(1,i6 a1),(2,i6 a2)],[(1000000,bk (zB a0))]⟩ ?_
 unfold zen
 refine sr (vo 1600 (yF) rfl rfl (nk ⟨[(0,ow 1000000),(1,i6 a1),(2,i6 a2),(6,ow 6)],[(6,bk (yF)),(1000000,bk (zB a0))]⟩ (sr (vq (yF) rfl ⟨⟨_,rfl,rfl⟩,all_nil⟩ (vo 1700 (yF) rfl rfl (vs (yF) rfl rfl (fun _=>rfl) rfl rfl rfl rfl rfl rfl (nk ⟨[(0,ow 1000000),(1,i6 a1),(2,i6 a2),(6,ow 6),(7,ow 7)],[(6,bk (yF)),(7,bk (yF)),(1000000,bk (zB a0))]⟩ ?_)))))))
 obtain ⟨y86,hy87,hk88⟩:=bind_some h
 clear h
 refine yN (emb:=fun (s:((Vec Int 64)×((List Int)×Int×Int)))=>⟨[(6,ow 6),(7,ow 7)],[(6,bk (yF)),(7,bk (zJ s.1)),(1000000,bk (zB s.2))]⟩) (kG:=fun s=>s=y86) ?_ ?_
 ·rintro ⟨x84,x85⟩ rfl
  have h:=hk88
  refine ns ⟨[(6,ow 6),(7,ow 7)],[(6,bk (yF)),(7,bk (zJ x84)),(1000000,bk (zB x85))]⟩ (sr (vl (zJ x84) rfl rfl rfl rfl rfl rfl (vs (zJ x84) rfl rfl (fun _=>rfl) rfl rfl rfl rfl rfl rfl (nx _ rfl (zU ?_)))))
  have hl173:LdOk [] (zJ x84) [] 64 true (zJ x84):=(.nil rfl rfl rfl)
  refine ⟨.inr rfl,?_⟩
  rw [Tryz.results98]
  cases h
  exact ⟨[],⟨_,_,_,_,_,zM (i:=⟨.arr 64 5,64,64,(zJ (yH 64 (0:Int)))⟩) rfl rfl rfl hl173,hl173.c,rfl,.inl ⟨rfl,.inl rfl,⟨rfl,rfl,rfl⟩⟩⟩,rfl,⟨_,_,rfl,rfl,rfl⟩⟩
 ·have h:=hy87
  refine sr (vr (ow 1000000) (vr (i6 a2) (vr (i6 (IntKind.i64.wrap (a2 + 2))) ?_)))
  obtain ⟨r89,hr90,h⟩:=bind_some h
  refine xD (args:=[(.mutp (zB a0)),(i6 (IntKind.i64.wrap (a2 + 2)))]) (i:=0) (id:=1000000) (r:=(i6 r89.1)) (c:=(zB r89.2)) rfl rfl (yA a0 (IntKind.i64.wrap (a2 + 2)) r89 hr90) rfl trivial (vr (i6 (IntKind.i64.wrap (r89.1 - 1))) (vr (i6 (IntKind.i64.wrap (r89.1 - 1))) (nk ⟨[(0,ow 1000000),(1,i6 a1),(6,ow 6),(7,ow 7),(8,i6 (IntKind.i64.wrap (r89.1 - 1)))],[(6,bk (yF)),(7,bk (yF)),(1000000,bk (zB r89.2))]⟩ (yB ?_))))
  refine xU (emb:=fun (s:(Int×(Vec Int 64)×((List Int)×Int×Int)))=>⟨[(0,ow 1000000),(1,i6 a1),(6,ow 6),(7,ow 7),(8,i6 s.1)],[(6,bk (yF)),(7,bk (zJ s.2.1)),(1000000,bk (zB s.2.2))]⟩) (body:=(fun s:(Int×(Vec Int 64)×((List Int)×Int×Int))=>qK a1 s.1 s.2.1 s.2.2)) (G:=fun q=>some q=some y86) h rfl ?_ (by kernel_rfl)
  rintro X143 ⟨x116,x117,x118⟩ x144 h hX145
  have h:qK a1 x116 x117 x118=some x144:=h
  refine ns ⟨[(0,ow 1000000),(1,i6 a1),(6,ow 6),(7,ow 7),(8,i6 x116)],[(6,bk (yF)),(7,bk (zJ x117)),(1000000,bk (zB x118))]⟩ (yC (sr (vr (i6 x116) (vr (.bool ((decide (x116 ≥ 0)))) (nk ⟨[(0,ow 1000000),(1,i6 a1),(6,ow 6),(7,ow 7),(8,i6 x116),(16,.bool ((decide (x116 ≥ 0))))],[(6,bk (yF)),(7,bk (zJ x117)),(1000000,bk (zB x118))]⟩ ?_)))))
  cases hb146:(decide (x116 ≥ 0))
  ·have h:=zW hb146 h
   refine zP rfl (xR (yI ?_))
   cases h
   have h:=hX145
   refine yI (xQ ?_)
   exact jl (x117,x118) h
  ·have h:=zV hb146 h
   refine zO rfl (yG (nj ⟨[(0,ow 1000000),(1,i6 a1),(6,ow 6),(7,ow 7),(8,i6 x116)],[(6,bk (yF)),(7,bk (zJ x117)),(1000000,bk (zB x118))]⟩ ?_))
   obtain ⟨y158,hy159,hk160⟩:=bind_some h
   clear h
   refine yN (emb:=fun (s:((Vec Int 64)×((List Int)×Int×Int)))=>⟨[(0,ow 1000000),(1,i6 a1),(6,ow 6),(7,ow 7),(8,i6 x116)],[(6,bk (yF)),(7,bk (zJ s.1)),(1000000,bk (zB s.2))]⟩) (kG:=fun s=>s=y158) ?_ ?_
   ·rintro ⟨x156,x157⟩ rfl
    have h:=hk160
    refine ns ⟨[(0,ow 1000000),(1,i6 a1),(6,ow 6),(7,ow 7),(8,i6 x116)],[(6,bk (yF)),(7,bk (zJ x156)),(1000000,bk (zB x157))]⟩ (zR (vr (i6 x116) (vr (i6 (IntKind.i64.wrap (x116 - 1))) (vr (i6 (IntKind.i64.wrap (x116 - 1))) (yJ ?_)))))
    cases h
    exact ag hX145
   ·have h:=hy159
    refine yB (sr (vr (ow 1000000) ?_))
    obtain ⟨r161,hr162,h⟩:=bind_some h
    refine xD (args:=[(.mutp (zB x118)),(i6 3)]) (i:=0) (id:=1000000) (r:=(i6 r161.1)) (c:=(zB r161.2)) rfl rfl (yA x118 3 r161 hr162) rfl trivial (vr (.bool ((decide (r161.1 > 0)))) (nk ⟨[(0,ow 1000000),(1,i6 a1),(6,ow 6),(7,ow 7),(8,i6 x116),(21,.bool ((decide (r161.1 > 0))))],[(6,bk (yF)),(7,bk (zJ x117)),(1000000,bk (zB r161.2))]⟩ ?_))
    cases hb164:(decide (r161.1 > 0))
    ·have h:=zW hb164 h
     refine zP rfl (yG (xI ?_))
     exact jl (x117,r161.2) h
    ·have h:=zV hb164 h
     refine zO rfl (zR (vr (i6 x116) (vr (ow 1000000) (vr (i6 a1) ?_))))
     obtain ⟨r165,hr166,h⟩:=bind_some h
     refine xD (args:=[(.mutp (zB r161.2)),(i6 a1)]) (i:=0) (id:=1000000) (r:=(i6 r165.1)) (c:=(zB r165.2)) rfl rfl (yA r161.2 a1 r165 hr166) rfl trivial (vr (b8 (IntKind.u8.wrap r165.1)) ?_)
     obtain ⟨hc168,h⟩:=zT h
     refine vq (.own 7 [x116.toNat] [x116.toNat*1]) rfl hc168 ?_
     have hs169:StOk [x116.toNat] (zJ x117) [x116.toNat*1] 1 (b8 (IntKind.u8.wrap r165.1)) (zJ ((yO x117 x116.toNat (IntKind.u8.wrap r165.1)))):=(.arr (y:=IntKind.u8.wrap r165.1) (vlt x117 hc168) rfl (.nil rfl rfl rfl rfl))
     refine vu .top [(7,bk (zJ ((yO x117 x116.toNat (IntKind.u8.wrap r165.1)))))] (qG (i:=⟨.int .u8,1,1,(.int .u8 0)⟩) rfl rfl (fun _=>rfl) rfl hs169) (hs169.c rfl) rfl (yJ (xI ?_))
     exact jl (((yO x117 x116.toNat (IntKind.u8.wrap r165.1)),r165.2)) h
noncomputable def zfj:ACode:=mO [(8,1),(11,1),(15,1)] (Tryz.f99.body.getD .skip)
def zj2:Live:=[(0,[0,1,2]),(1,[0,1,5,6]),(2,[0,1,5,6]),(3,[5,6]),(100009,[0,1,5,6,9])]
noncomputable def za0 (a0:((List Int)×Int×Int)) (a1:Int) (a2:(Vec Int 64)):Option ((Vec Int 64)×((List Int)×Int×Int)) :=
 (Option.bind (α:=((Vec Int 64)×((List Int)×Int×Int))) ((Option.bind (zS a0 40) fun r18=>(if (r18.1 == 0) then (Option.bind (zS r18.2 64) fun r22=>(Option.bind (wA r22.2 ([a1,7,255,1])) fun r25=>(jA (0≤r22.1∧r22.1 < ((64:Nat):Int)) ((some (((yO a2 r22.1.toNat (IntKind.u8.wrap r25.1)),r25.2))))))) else (some (a2,r18.2))))) fun ⟨x13,x14⟩=>(some (x13,x14)))
theorem zjh (a0:((List Int)×Int×Int)) (a1:Int) (a2:(Vec Int 64)) (r:((Vec Int 64)×((List Int)×Int×Int))) (h:za0 a0 a1 a2=some r):Den Tryz.prog 99 [(.mutp (zB a0)),(i6 a1),(zJ a2)] { r:=(zJ r.1),ms:=[(zB r.2)],fs:=[] }:=by
 refine zed (rs:=[(zJ r.1)]) (ac:=zfj) (L:=zj2) (n:=19) (m:=[(8,1),(11,1),(15,1)]) (c:=Tryz.f99.body.getD .skip) xL Tryz.func99 (by kernel_rfl) (by kernel_rfl) Tryz.ntmps99 rfl rfl (by kernel_rfl) rfl ?_
 refine ns ⟨[(0,ow 1000000),(1,i6 a1),(2,zJ a2)],[(1000000,bk (zB a0))]⟩ ?_
 unfold zfj
 refine sr (vo 1500 (zJ a2) rfl rfl (vo 1600 (yF) rfl rfl (nk ⟨[(0,ow 1000000),(1,i6 a1),(5,ow 5),(6,ow 6)],[(5,bk (zJ a2)),(6,bk (yF)),(1000000,bk (zB a0))]⟩ ?_)))
 obtain ⟨y15,hy16,hk17⟩:=bind_some h
 clear h
 refine yN (emb:=fun (s:((Vec Int 64)×((List Int)×Int×Int)))=>⟨[(5,ow 5),(6,ow 6)],[(5,bk (zJ s.1)),(6,bk (yF)),(1000000,bk (zB s.2))]⟩) (kG:=fun s=>s=y15) ?_ ?_
 ·rintro ⟨x13,x14⟩ rfl
  have h:=hk17
  refine ns ⟨[(5,ow 5),(6,ow 6)],[(5,bk (zJ x13)),(6,bk (yF)),(1000000,bk (zB x14))]⟩ (sr (vl (zJ x13) rfl rfl rfl rfl rfl rfl (vs (zJ x13) rfl rfl (fun _=>rfl) rfl rfl rfl rfl rfl rfl (nx _ rfl (zU ?_)))))
  have hl32:LdOk [] (zJ x13) [] 64 true (zJ x13):=(.nil rfl rfl rfl)
  refine ⟨.inr rfl,?_⟩
  rw [Tryz.results99]
  cases h
  exact ⟨[],⟨_,_,_,_,_,zM (i:=⟨.arr 64 5,64,64,(zJ (yH 64 (0:Int)))⟩) rfl rfl rfl hl32,hl32.c,rfl,.inl ⟨rfl,.inl rfl,⟨rfl,rfl,rfl⟩⟩⟩,rfl,⟨_,_,rfl,rfl,rfl⟩⟩
 ·have h:=hy16
  refine sr (vr (ow 1000000) ?_)
  obtain ⟨r18,hr19,h⟩:=bind_some h
  refine xD (args:=[(.mutp (zB a0)),(i6 40)]) (i:=0) (id:=1000000) (r:=(i6 r18.1)) (c:=(zB r18.2)) rfl rfl (yA a0 40 r18 hr19) rfl trivial (vr (.bool (r18.1 == 0)) (nk ⟨[(0,ow 1000000),(1,i6 a1),(5,ow 5),(6,ow 6),(9,.bool (r18.1 == 0))],[(5,bk (zJ a2)),(6,bk (yF)),(1000000,bk (zB r18.2))]⟩ ?_))
  cases hb21:(r18.1 == 0)
  ·have h:=zW hb21 h
   refine zP rfl (yG ?_)
   exact jl (a2,r18.2) h
  ·have h:=zV hb21 h
   refine zO rfl (zR (vr (ow 1000000) ?_))
   obtain ⟨r22,hr23,h⟩:=bind_some h
   refine xD (args:=[(.mutp (zB r18.2)),(i6 64)]) (i:=0) (id:=1000000) (r:=(i6 r22.1)) (c:=(zB r22.2)) rfl rfl (yA r18.2 64 r22 hr23) rfl trivial (vr (ow 1000000) (vr (i6 a1) (vq (.sl 1 true (([a1,7,255,1]).map (AV.int .i64))) rfl ⟨(yS rfl),(yS rfl),(all_cons ⟨(yS rfl),rfl⟩ (all_cons ⟨(yS rfl),rfl⟩ (all_cons ⟨(yS rfl),rfl⟩ (all_cons ⟨(yS rfl),rfl⟩ all_nil))))⟩ ?_)))
   obtain ⟨r25,hr26,h⟩:=bind_some h
   refine xD (args:=[(.mutp (zB r22.2)),(.sl 1 true (([a1,7,255,1]).map (AV.int .i64)))]) (i:=0) (id:=1000000) (r:=(i6 r25.1)) (c:=(zB r25.2)) rfl rfl (Den.argsM (vA r22.2 ([a1,7,255,1]) r25 hr26) rfl rfl (.cons (.loose _) .nil)) rfl trivial (vr (b8 (IntKind.u8.wrap r25.1)) ?_)
   obtain ⟨hc28,h⟩:=zT h
   refine vq (.own 5 [r22.1.toNat] [r22.1.toNat*1]) rfl hc28 ?_
   have hs29:StOk [r22.1.toNat] (zJ a2) [r22.1.toNat*1] 1 (b8 (IntKind.u8.wrap r25.1)) (zJ ((yO a2 r22.1.toNat (IntKind.u8.wrap r25.1)))):=(.arr (y:=IntKind.u8.wrap r25.1) (vlt a2 hc28) rfl (.nil rfl rfl rfl rfl))
   refine vu .top [(5,bk (zJ ((yO a2 r22.1.toNat (IntKind.u8.wrap r25.1)))))] (qG (i:=⟨.int .u8,1,1,(.int .u8 0)⟩) rfl rfl (fun _=>rfl) rfl hs29) (hs29.c rfl) rfl (yJ ?_)
   exact jl (((yO a2 r22.1.toNat (IntKind.u8.wrap r25.1)),r25.2)) h
noncomputable def zeg:ACode:=mO [(7,1),(12,1),(13,1),(15,1),(19,1),(25,1)] (Tryz.f56.body.getD .skip)
def ziy:Live:=[(0,[0]),(1,[0,3]),(2,[0,3,4]),(3,[0,3,4,5]),(4,[0,3,5]),(5,[0,3,4,5]),(100016,[0,3,4,5,16])]
noncomputable def mM (a0:((List Int)×Int×Int)):Option (Int×(Vec Int 64)×((List Int)×Int×Int)) :=
 (Option.bind (jM a0) fun r1=>(Option.bind (wA r1.2 ([3,6,9,63])) fun r4=>(Option.bind (nJ r4.2 r1.1 r4.1) fun r7=>(Option.bind (α:=(Int×((List Int)×Int×Int))) ((Option.bind (zS r7.2 40) fun r23=>(if (r23.1 == 0) then (Option.bind (wA r23.2 ([0,1,4,11,-3])) fun r27=>(some (r27.1,r27.2))) else (some (r1.1,r23.2))))) fun ⟨x18,x19⟩=>(Option.bind (za0 x19 (if 1 > x18 then 1 else x18) r7.1) fun r31=>(some (x18,r31.1,r31.2)))))))
theorem zhz (a0:((List Int)×Int×Int)) (r:(Int×(Vec Int 64)×((List Int)×Int×Int))) (h:mM a0=some r):Den Tryz.prog 56 [(.mutp (zB a0))] { r:=(.tuple [(i6 r.1),(zJ r.2.1)]),ms:=[(zB r.2.2)],fs:=[] }:=by
 refine zed (rs:=[(i6 r.1),(zJ r.2.1)]) (ac:=zeg) (L:=ziy) (n:=26) (m:=[(7,1),(12,1),(13,1),(15,1),(19,1),(25,1)]) (c:=Tryz.f56.body.getD .skip) xL Tryz.func56 (by kernel_rfl) (by kernel_rfl) Tryz.ntmps56 rfl rfl (by kernel_rfl) rfl ?_
 refine ns ⟨[(0,ow 1000000)],[(1000000,bk (zB a0))]⟩ ?_
 unfold zeg
 refine sr (vr (i6 0) (vo 1300 (yF) rfl rfl (nk ⟨[(0,ow 1000000),(3,ow 3)],[(3,bk (yF)),(1000000,bk (zB a0))]⟩ (sr (vr (ow 1000000) ?_)))))
 obtain ⟨r1,hr2,h⟩:=bind_some h
 refine xD (args:=[(.mutp (zB a0))]) (i:=0) (id:=1000000) (r:=(i6 r1.1)) (c:=(zB r1.2)) rfl rfl (zfw a0 r1 hr2) rfl trivial (vr (i6 r1.1) (nk ⟨[(0,ow 1000000),(3,ow 3),(4,i6 r1.1)],[(3,bk (yF)),(1000000,bk (zB r1.2))]⟩ (sr (vr (ow 1000000) (vr (i6 r1.1) (vr (ow 1000000) (vq (.sl 1 true (([3,6,9,63]).map (AV.int .i64))) rfl ⟨(yS rfl),(yS rfl),(all_cons ⟨(yS rfl),rfl⟩ (all_cons ⟨(yS rfl),rfl⟩ (all_cons ⟨(yS rfl),rfl⟩ (all_cons ⟨(yS rfl),rfl⟩ all_nil))))⟩ ?_)))))))
 obtain ⟨r4,hr5,h⟩:=bind_some h
 refine xD (args:=[(.mutp (zB r1.2)),(.sl 1 true (([3,6,9,63]).map (AV.int .i64)))]) (i:=0) (id:=1000000) (r:=(i6 r4.1)) (c:=(zB r4.2)) rfl rfl (Den.argsM (vA r1.2 ([3,6,9,63]) r4 hr5) rfl rfl (.cons (.loose _) .nil)) rfl trivial ?_
 obtain ⟨r7,hr8,h⟩:=bind_some h
 refine xD (args:=[(.mutp (zB r4.2)),(i6 r1.1),(i6 r4.1)]) (i:=0) (id:=1000000) (r:=(zJ r7.1)) (c:=(zB r7.2)) rfl rfl (zim r4.2 r1.1 r4.1 r7 hr8) rfl trivial (vo 1500 (yF) rfl rfl (vs (zJ r7.1) rfl rfl (fun _=>rfl) rfl rfl rfl rfl rfl rfl (nk ⟨[(0,ow 1000000),(3,ow 3),(4,i6 r1.1),(5,ow 5)],[(3,bk (yF)),(5,bk (zJ r7.1)),(1000000,bk (zB r7.2))]⟩ ?_)))
 obtain ⟨y20,hy21,hk22⟩:=bind_some h
 clear h
 refine yN (emb:=fun (s:(Int×((List Int)×Int×Int)))=>⟨[(0,ow 1000000),(3,ow 3),(4,i6 s.1),(5,ow 5)],[(3,bk (yF)),(5,bk (zJ r7.1)),(1000000,bk (zB s.2))]⟩) (kG:=fun s=>s=y20) ?_ ?_
 ·rintro ⟨x18,x19⟩ rfl
  have h:=hk22
  refine ns ⟨[(0,ow 1000000),(3,ow 3),(4,i6 x18),(5,ow 5)],[(3,bk (yF)),(5,bk (zJ r7.1)),(1000000,bk (zB x19))]⟩ (sr (vr (i6 x18) (vr (ow 1000000) (vr (i6 x18) (vr (i6 (if 1 > x18 then 1 else x18)) (vl (zJ r7.1) rfl rfl rfl rfl rfl rfl ?_))))))
  obtain ⟨r31,hr32,h⟩:=bind_some h
  refine xD (args:=[(.mutp (zB x19)),(i6 (if 1 > x18 then 1 else x18)),(zJ r7.1)]) (i:=0) (id:=1000000) (r:=(zJ r31.1)) (c:=(zB r31.2)) rfl rfl (zjh x19 (if 1 > x18 then 1 else x18) r7.1 r31 hr32) rfl trivial (vr (i6 x18) (vs (zJ r31.1) rfl rfl (fun _=>rfl) rfl rfl rfl rfl rfl rfl (nx _ rfl (zU ?_))))
  have hl35:LdOk [] (zJ r31.1) [] 64 true (zJ r31.1):=(.nil rfl rfl rfl)
  refine ⟨.inr rfl,?_⟩
  rw [Tryz.results56]
  cases h
  exact ⟨[],⟨_,_,_,_,_,rfl,trivial,rfl,.inl ⟨rfl,.inl rfl,⟨_,_,_,_,_,zM (i:=⟨.arr 64 5,64,64,(zJ (yH 64 (0:Int)))⟩) rfl rfl rfl hl35,hl35.c,rfl,.inl ⟨rfl,.inl rfl,⟨rfl,rfl,rfl⟩⟩⟩⟩⟩,rfl,⟨_,_,rfl,rfl,rfl⟩⟩
 ·have h:=hy21
  refine sr (vr (ow 1000000) ?_)
  obtain ⟨r23,hr24,h⟩:=bind_some h
  refine xD (args:=[(.mutp (zB r7.2)),(i6 40)]) (i:=0) (id:=1000000) (r:=(i6 r23.1)) (c:=(zB r23.2)) rfl rfl (yA r7.2 40 r23 hr24) rfl trivial (vr (.bool (r23.1 == 0)) (nk ⟨[(0,ow 1000000),(3,ow 3),(4,i6 r1.1),(5,ow 5),(16,.bool (r23.1 == 0))],[(3,bk (yF)),(5,bk (zJ r7.1)),(1000000,bk (zB r23.2))]⟩ ?_))
  cases hb26:(r23.1 == 0)
  ·have h:=zW hb26 h
   refine zP rfl (yG ?_)
   exact jl (r1.1,r23.2) h
  ·have h:=zV hb26 h
   refine zO rfl (zR (vr (ow 1000000) (vq (.sl 1 true (([0,1,4,11,-3]).map (AV.int .i64))) rfl ⟨(yS rfl),(yS rfl),(all_cons ⟨(yS rfl),rfl⟩ (all_cons ⟨(yS rfl),rfl⟩ (all_cons ⟨(yS rfl),rfl⟩ (all_cons ⟨(yS rfl),rfl⟩ (all_cons ⟨(yS rfl),rfl⟩ all_nil)))))⟩ ?_)))
   obtain ⟨r27,hr28,h⟩:=bind_some h
   refine xD (args:=[(.mutp (zB r23.2)),(.sl 1 true (([0,1,4,11,-3]).map (AV.int .i64)))]) (i:=0) (id:=1000000) (r:=(i6 r27.1)) (c:=(zB r27.2)) rfl rfl (Den.argsM (vA r23.2 ([0,1,4,11,-3]) r27 hr28) rfl rfl (.cons (.loose _) .nil)) rfl trivial (vr (i6 r27.1) (yJ ?_))
   exact jl (r27.1,r27.2) h
def zgs:Live:=[(0,[0]),(1,[0,3]),(2,[3,4]),(3,[3,4]),(4,[3,5,6]),(5,[3,4]),(6,[3,7,8]),(100013,[3,4,13])]
noncomputable def nB (a0:(List Int)):Option (Int×(Vec Int 64)) :=
 (Option.bind (jO a0) fun r1=>(Option.bind (zS r1 3) fun r3=>(if (r3.1 == 0) then (Option.bind (mM r3.2) fun r16=>(some (r16.1,r16.2.1))) else (Option.bind (wS r3.2) fun r7=>(some (r7.1,r7.2.1))))))
theorem zgm (a0:(List Int)) (r:(Int×(Vec Int 64))) (h:nB a0=some r):Den Tryz.prog 23 [(xJ a0)] { r:=(.tuple [(i6 r.1),(zJ r.2)]) }:=by
 refine dd (rs:=[(i6 r.1),(zJ r.2)]) (L:=zgs) xL [(12,1),(16,1),(23,1)] Tryz.func23 Tryz.ntmps23 ?_
 refine ns ⟨[(0,xJ a0)],[]⟩ ?_
 refine sr (vr (i6 0) (vo 1300 (yF) rfl rfl (nk ⟨[(0,xJ a0),(3,ow 3)],[(3,bk (yF))]⟩ (sr (vr (xJ a0) ?_)))))
 obtain ⟨r1,hr2,h⟩:=bind_some h
 refine zg4 (args:=[(xJ a0)]) (u:=[]) (u2:=[]) (r:=(ow 2000000)) (fs:=[(0,[zB r1])]) rfl rfl (nE a0 r1 hr2) rfl rfl rfl (.inl rfl) rfl (vr (ow 2000) (nk ⟨[(3,ow 3),(4,ow 4)],[(3,bk (yF)),(4,bk (zB r1))]⟩ (yC (sr (vr (ow 4) ?_)))))
 obtain ⟨r3,hr4,h⟩:=bind_some h
 refine xD (args:=[(.mutp (zB r1)),(i6 3)]) (i:=0) (id:=4) (r:=(i6 r3.1)) (c:=(zB r3.2)) rfl rfl (yA r1 3 r3 hr4) rfl trivial (vr (.bool (r3.1 == 0)) (nk ⟨[(3,ow 3),(4,ow 4),(13,.bool (r3.1 == 0))],[(3,bk (yF)),(4,bk (zB r3.2))]⟩ ?_))
 cases hb6:(r3.1 == 0)
 ·have h:=zW hb6 h
  refine zP rfl (yG (nj ⟨[(3,ow 3),(4,ow 4)],[(3,bk (yF)),(4,bk (zB r3.2))]⟩ (sr (vr (ow 4) ?_))))
  obtain ⟨r7,hr8,h⟩:=bind_some h
  refine xD (args:=[(.mutp (zB r3.2))]) (i:=0) (id:=4) (r:=(.tuple [(i6 r7.1),(zJ r7.2.1)])) (c:=(zB r7.2.2)) rfl rfl (vY r3.2 r7 hr8) rfl trivial (vr (.tuple [(i6 r7.1),(zJ r7.2.1)]) (vb (i6 r7.1) rfl rfl (vb (zJ r7.2.1) rfl rfl (vo 1800 (yF) rfl rfl (vr (i6 r7.1) (vs (zJ r7.2.1) rfl rfl (fun _=>rfl) rfl rfl rfl rfl rfl rfl (nk ⟨[(3,ow 3),(7,i6 r7.1),(8,ow 8)],[(3,bk (yF)),(8,bk (zJ r7.2.1))]⟩ (yC (xH [⟨[],[],[],[]⟩,⟨[8],[],[],[]⟩,⟨[],[],[],[0]⟩,⟨[3],[3],[],[0,1,2]⟩] (by kernel_rfl) ?_)))))))))
  refine dj (i6 r7.1) rfl (zH (vl (zJ r7.2.1) rfl rfl rfl rfl rfl rfl (dn (dj (i6 r7.1) rfl (zH (vs (zJ r7.2.1) rfl rfl (fun _=>rfl) rfl rfl rfl rfl rfl rfl (dn (xE (wC rfl ?_)))))))))
  refine zU ?_
  have hl15:LdOk [] (zJ r7.2.1) [] 64 true (zJ r7.2.1):=(.nil rfl rfl rfl)
  refine ⟨.inr rfl,?_⟩
  rw [Tryz.results23]
  cases h
  exact ⟨_,_,_,_,_,rfl,trivial,.inl ⟨rfl,.inl rfl⟩,rfl,⟨_,_,_,_,_,zM (i:=⟨.arr 64 5,64,64,(zJ (yH 64 (0:Int)))⟩) rfl rfl rfl hl15,hl15.c,.inl ⟨rfl,.inl rfl⟩,rfl,rfl⟩⟩
 ·have h:=zV hb6 h
  refine zO rfl (sr (vr (ow 4) ?_))
  obtain ⟨r16,hr17,h⟩:=bind_some h
  refine xD (args:=[(.mutp (zB r3.2))]) (i:=0) (id:=4) (r:=(.tuple [(i6 r16.1),(zJ r16.2.1)])) (c:=(zB r16.2.2)) rfl rfl (zhz r3.2 r16 hr17) rfl trivial (vr (.tuple [(i6 r16.1),(zJ r16.2.1)]) (vb (i6 r16.1) rfl rfl (vb (zJ r16.2.1) rfl rfl (vo 1600 (yF) rfl rfl (vr (i6 r16.1) (vs (zJ r16.2.1) rfl rfl (fun _=>rfl) rfl rfl rfl rfl rfl rfl (nk ⟨[(3,ow 3),(5,i6 r16.1),(6,ow 6)],[(3,bk (yF)),(6,bk (zJ r16.2.1))]⟩ (yC (xH [⟨[],[],[],[]⟩,⟨[6],[],[],[]⟩,⟨[],[],[],[0]⟩,⟨[3],[3],[],[0,1,2]⟩] (by kernel_rfl) ?_)))))))))
  refine dj (i6 r16.1) rfl (zH (vl (zJ r16.2.1) rfl rfl rfl rfl rfl rfl (dn (dj (i6 r16.1) rfl (zH (vs (zJ r16.2.1) rfl rfl (fun _=>rfl) rfl rfl rfl rfl rfl rfl (dn (xE (wC rfl ?_)))))))))
  refine zU (xV ?_)
  have hl24:LdOk [] (zJ r16.2.1) [] 64 true (zJ r16.2.1):=(.nil rfl rfl rfl)
  refine ⟨.inr rfl,?_⟩
  rw [Tryz.results23]
  cases h
  exact ⟨_,_,_,_,_,rfl,trivial,.inl ⟨rfl,.inl rfl⟩,rfl,⟨_,_,_,_,_,zM (i:=⟨.arr 64 5,64,64,(zJ (yH 64 (0:Int)))⟩) rfl rfl rfl hl24,hl24.c,.inl ⟨rfl,.inl rfl⟩,rfl,rfl⟩⟩
def zq2:Live:=[(0,[0,1,2]),(1,[0,4,5])]
noncomputable def zgx (a0:Int) (a1:(Vec Int 64)) (a2:((Vec Int 64)×(Vec Int 64))):Option Bool :=
 (Option.bind (za7 a0 a1) fun r2=>(if r2 then (Option.bind (wZ a0 a1 a2) fun r7=>(some r7)) else (some false)))
theorem zqj (a0:Int) (a1:(Vec Int 64)) (a2:((Vec Int 64)×(Vec Int 64))) (r:Bool) (h:zgx a0 a1 a2=some r):Den Tryz.prog 24 [(i6 a0),(zJ a1),(zA a2)] { r:=(.bool r) }:=by
 refine dd (rs:=[(.bool r)]) (L:=zq2) xL [] Tryz.func24 Tryz.ntmps24 ?_
 refine ns ⟨[(0,i6 a0),(1,zJ a1),(2,zA a2)],[]⟩ ?_
 refine sr (vo 1400 (zJ a1) rfl rfl (vo 1500 (zA a2) rfl rfl (vr (.bool false) (nk ⟨[(0,i6 a0),(4,ow 4),(5,ow 5)],[(4,bk (zJ a1)),(5,bk (zA a2))]⟩ (sr (vr (i6 a0) (vl (zJ a1) rfl rfl rfl rfl rfl rfl ?_)))))))
 obtain ⟨r2,hr3,h⟩:=bind_some h
 refine ca (zbs a0 a1 r2 hr3) (vr (.bool r2) ?_)
 cases hb4:r2
 ·have h:=zW hb4 h
  refine zD rfl (zD rfl (zD rfl (zD rfl (vr (.bool false) (vr (.bool false) (nx _ rfl (zU ?_)))))))
  refine ⟨.inr rfl,?_⟩
  rw [Tryz.results24]
  cases h
  exact ⟨_,_,_,_,_,rfl,trivial,.inl ⟨rfl,.inl rfl⟩,rfl,rfl⟩
 ·have h:=zV hb4 h
  refine gp (i6 a0) rfl rfl ?_
  have hl5:LdOk [] (zJ a1) [] 64 true (zJ a1):=(.nil rfl rfl rfl)
  refine gq (zJ a1) rfl (zM (i:=⟨.arr 64 5,64,64,(zJ (yH 64 (0:Int)))⟩) rfl rfl rfl hl5) hl5.c ?_
  have hl6:LdOk [] (zA a2) [] 128 true (zA a2):=(.nil rfl rfl rfl)
  refine gq (zA a2) rfl (zM (i:=⟨.struct [(0,25),(64,25)],128,128,xA⟩) rfl rfl rfl hl6) hl6.c ?_
  obtain ⟨r7,hr8,h⟩:=bind_some h
  refine wQ rfl (args:=[(i6 a0),(zJ a1),(zA a2)]) (u:=[]) (r:=(.bool r7)) rfl rfl (zdi a0 a1 a2 r7 hr8) rfl (vr (.bool r7) (vr (.bool r7) (nx _ rfl (zU ?_))))
  refine ⟨.inr rfl,?_⟩
  rw [Tryz.results24]
  cases h
  exact ⟨_,_,_,_,_,rfl,trivial,.inl ⟨rfl,.inl rfl⟩,rfl,rfl⟩
def zje:Live:=[(0,[0,1]),(1,[0,3])]
noncomputable def zal (a0:Int) (a1:(Vec Int 64)):Option Bool :=
 (Option.bind (za7 a0 a1) fun r2=>(some r2))
theorem zij (a0:Int) (a1:(Vec Int 64)) (r:Bool) (h:zal a0 a1=some r):Den Tryz.prog 26 [(i6 a0),(zJ a1)] { r:=(.bool r) }:=by
 refine dd (rs:=[(.bool r)]) (L:=zje) xL [] Tryz.func26 Tryz.ntmps26 ?_
 refine ns ⟨[(0,i6 a0),(1,zJ a1)],[]⟩ ?_
 refine sr (vo 1300 (zJ a1) rfl rfl (vr (.bool false) (nk ⟨[(0,i6 a0),(3,ow 3)],[(3,bk (zJ a1))]⟩ (sr (vr (i6 a0) (vl (zJ a1) rfl rfl rfl rfl rfl rfl ?_))))))
 obtain ⟨r2,hr3,h⟩:=bind_some h
 refine ca (zbs a0 a1 r2 hr3) (vr (.bool r2) (nx _ rfl (zU ?_)))
 refine ⟨.inr rfl,?_⟩
 rw [Tryz.results26]
 cases h
 exact ⟨_,_,_,_,_,rfl,trivial,.inl ⟨rfl,.inl rfl⟩,rfl,rfl⟩
end Go.Proofs.YtebfhlnfmkhmcaaGreat
