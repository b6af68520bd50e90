/- Functions of the program: plain Lean functions, and that the program computes them. Printed by gen.py. -/
import Derived.Test.YtebfhlnfmkhmcaaGreatFnT
import Derived.Test.YtebfhlnfmkhmcaaGreatFn1
import Derived.Test.YtebfhlnfmkhmcaaGreatFn2
import Derived.Test.YtebfhlnfmkhmcaaGreatFn3
import Derived.Test.YtebfhlnfmkhmcaaGreatFn5
import Derived.Test.YtebfhlnfmkhmcaaGreatFn6
namespace Go.Proofs.YtebfhlnfmkhmcaaGreat
open Go.Abs Go.Proofs
set_option linter.unusedSimpArgs false
set_option linter.unusedVariables false
set_option maxHeartbeats 16000000
attribute [local irreducible] Abs.acode Abs.aops Abs.aopsT Abs.thenK Abs.blockK

def zkg:Live:=[(0,[0,1]),(1,[2,3,4]),(2,[2,3,4]),(3,[2,3,4,5]),(4,[2,3,4]),(5,[3,4]),(100010,[2,3,4,10])]
noncomputable def qZ (a0:(Int×(List Int))) (x278:((List Int)×(List Int))):Option (((List Int)×(List Int))⊕((List Int)×(List Int))) :=
 (Option.bind (qC a0 x278) fun r351=>(if (!r351) then (Option.bind (xC a0.1 x278.2 x278.2) fun r373=>(Option.bind (xM a0.1 a0.2 r373 (-1)) fun r375=>(Option.bind (uU a0.1 r375 x278.1) fun r378=>(Option.bind (jP r378.1) fun r391=>(Option.bind (kL a0.1 r391) fun r393=>(Option.bind (wY a0.1 r378.1 r393) fun r395=>(Option.bind (wY a0.1 x278.2 (-1)) fun r410=>(Option.bind (kI a0.1 r410 r395) fun r413=>(some (.inl (r395,r413))))))))))) else (some (.inr x278))))
noncomputable def kK (a0:(Int×(List Int))) (a1:((List Int)×(List Int))):Option ((List Int)×(List Int)) :=
 (Option.bind (α:=((List Int)×(List Int))) ((yK (fun s:((List Int)×(List Int))=>qZ a0 s) a1)) fun x207=>(some x207))
theorem zeo (a0:(Int×(List Int))) (a1:((List Int)×(List Int))) (r:((List Int)×(List Int))) (h:kK a0 a1=some r):Den Tryz.prog 45 [(zK a0),(zC a1)] { r:=(zC r) }:=by
 refine dd (rs:=[(zC r)]) (L:=zkg) xL [(5,1),(6,1)] Tryz.func45 Tryz.ntmps45 ?_
 refine ns ⟨[(0,zK a0),(1,zC a1)],[]⟩ ?_
 refine sr (vo 1200 (zK a0) rfl rfl (vo 1300 (zC a1) rfl rfl (vo 1400 (zC ([],[])) rfl rfl (nk ⟨[(2,ow 2),(3,ow 3),(4,ow 4)],[(2,bk (zK a0)),(3,bk (zC a1)),(4,bk (zC ([],[])))]⟩ ?_))))
 obtain ⟨y208,hy209,hk210⟩:=bind_some h
 clear h
 refine yN (emb:=fun (s:((List Int)×(List Int)))=>⟨[(3,ow 3),(4,ow 4)],[(3,bk (zC s)),(4,bk (zC ([],[])))]⟩) (kG:=fun s=>s=y208) ?_ ?_
 ·rintro x207 rfl
  have h:=hk210
  refine ns ⟨[(3,ow 3),(4,ow 4)],[(3,bk (zC x207)),(4,bk (zC ([],[])))]⟩ (sr (vl (zC x207) rfl rfl rfl rfl rfl rfl (vs (zC x207) rfl rfl (fun _=>rfl) rfl rfl rfl rfl rfl rfl (nx _ rfl (zU ?_)))))
  have hl419:LdOk [] (zC x207) [] 2 true (zC x207):=(.nil rfl rfl rfl)
  refine ⟨.inr rfl,?_⟩
  rw [Tryz.results45]
  cases h
  exact ⟨_,_,_,_,_,zM (i:=⟨.struct [(0,52),(1,52)],2,48,(zC ([],[]))⟩) rfl rfl rfl hl419,hl419.c,.inl ⟨rfl,.inl rfl⟩,rfl,rfl⟩
 ·have h:=hy209
  refine yB ?_
  refine xU (emb:=fun (s:((List Int)×(List Int)))=>⟨[(2,ow 2),(3,ow 3),(4,ow 4)],[(2,bk (zK a0)),(3,bk (zC s)),(4,bk (zC ([],[])))]⟩) (body:=(fun s:((List Int)×(List Int))=>qZ a0 s)) (G:=fun q=>some q=some y208) h rfl ?_ (by kernel_rfl)
  rintro X346 x278 x347 h hX348
  have h:qZ a0 x278=some x347:=h
  refine ns ⟨[(2,ow 2),(3,ow 3),(4,ow 4)],[(2,bk (zK a0)),(3,bk (zC x278)),(4,bk (zC ([],[])))]⟩ (yC (sr (vl (zK a0) rfl rfl rfl rfl rfl rfl (vl (zC x278) rfl rfl rfl rfl rfl rfl ?_))))
  obtain ⟨r351,hr352,h⟩:=bind_some h
  refine ca (zdu a0 x278 r351 hr352) (vr (.bool (!r351)) (nk ⟨[(2,ow 2),(3,ow 3),(4,ow 4),(10,.bool (!r351))],[(2,bk (zK a0)),(3,bk (zC x278)),(4,bk (zC ([],[])))]⟩ ?_))
  cases hb353:(!r351)
  ·have h:=zW hb353 h
   refine zP rfl (xR (yI ?_))
   cases h
   have h:=hX348
   refine yI (xQ ?_)
   exact jl x278 h
  ·have h:=zV hb353 h
   refine zO rfl (yG (nj ⟨[(2,ow 2),(3,ow 3),(4,ow 4)],[(2,bk (zK a0)),(3,bk (zC x278)),(4,bk (zC ([],[])))]⟩ (yB (yC (xH [⟨[2],[],[2],[]⟩,⟨[2],[],[],[0]⟩,⟨[2],[],[2],[]⟩,⟨[2],[],[],[2]⟩,⟨[2],[],[2],[]⟩,⟨[2],[],[],[4]⟩,⟨[2],[],[2],[]⟩,⟨[2],[],[],[6]⟩,⟨[3],[],[3],[]⟩,⟨[3],[],[],[8]⟩,⟨[3],[],[3],[]⟩,⟨[3],[],[],[10]⟩,⟨[],[],[],[6,7,8,9,10,11]⟩,⟨[],[],[],[2,3,4,5,6,7,8,9,10,11,12]⟩,⟨[3],[],[3],[]⟩,⟨[3],[],[],[14]⟩,⟨[],[],[],[0,1,2,3,4,5,6,7,8,9,10,11,12,13,14,15]⟩,⟨[],[],[],[0,1,2,3,4,5,6,7,8,9,10,11,12,13,14,15,16]⟩,⟨[],[],[],[0,1,2,3,4,5,6,7,8,9,10,11,12,13,14,15,16,17]⟩,⟨[],[],[],[0,1,2,3,4,5,6,7,8,9,10,11,12,13,14,15,16,17]⟩,⟨[],[],[],[0,1,2,3,4,5,6,7,8,9,10,11,12,13,14,15,16,17,18]⟩,⟨[],[],[],[0,1,2,3,4,5,6,7,8,9,10,11,12,13,14,15,16,17,18,19,20]⟩] (by kernel_rfl) (zH (vb (.own 2 [0] [0]) rfl rfl (dn (zH ?_)))))))))
   have hl367:LdOk [0] (zK a0) [0] 1 false (i6 a0.1):=(.fld rfl rfl rfl rfl (.nil rfl rfl rfl))
   refine vq (i6 a0.1) (zM (i:=⟨.int .i64,1,8,(.int .i64 0)⟩) rfl rfl rfl hl367) hl367.c (dn (zH (vb (.own 2 [0] [0]) rfl rfl (dn (zH ?_)))))
   have hl368:LdOk [0] (zK a0) [0] 1 false (i6 a0.1):=(.fld rfl rfl rfl rfl (.nil rfl rfl rfl))
   refine vq (i6 a0.1) (zM (i:=⟨.int .i64,1,8,(.int .i64 0)⟩) rfl rfl rfl hl368) hl368.c (dn (zH (vb (.own 2 [1] [1]) rfl rfl (dn (zH ?_)))))
   have hl369:LdOk [1] (zK a0) [1] 1 false (zI a0.2):=(.fld rfl rfl rfl rfl (.nil rfl rfl rfl))
   refine vq (zI a0.2) (zM (i:=⟨.slice 2,1,24,(zI [])⟩) rfl rfl rfl hl369) hl369.c (dn (zH (vb (.own 2 [0] [0]) rfl rfl (dn (zH ?_)))))
   have hl370:LdOk [0] (zK a0) [0] 1 false (i6 a0.1):=(.fld rfl rfl rfl rfl (.nil rfl rfl rfl))
   refine vq (i6 a0.1) (zM (i:=⟨.int .i64,1,8,(.int .i64 0)⟩) rfl rfl rfl hl370) hl370.c (dn (zH (vb (.own 3 [1] [1]) rfl rfl (dn (zH ?_)))))
   have hl371:LdOk [1] (zC x278) [1] 1 false (zI x278.2):=(.fld rfl rfl rfl rfl (.nil rfl rfl rfl))
   refine vq (zI x278.2) (zM (i:=⟨.slice 2,1,24,(zI [])⟩) rfl rfl rfl hl371) hl371.c (dn (zH (vb (.own 3 [1] [1]) rfl rfl (dn (zH ?_)))))
   have hl372:LdOk [1] (zC x278) [1] 1 false (zI x278.2):=(.fld rfl rfl rfl rfl (.nil rfl rfl rfl))
   refine vq (zI x278.2) (zM (i:=⟨.slice 2,1,24,(zI [])⟩) rfl rfl rfl hl372) hl372.c (dn (zH ?_))
   obtain ⟨r373,hr374,h⟩:=bind_some h
   refine ca (xN a0.1 x278.2 x278.2 r373 hr374) (dn (zH ?_))
   obtain ⟨r375,hr376,h⟩:=bind_some h
   refine ca (wP a0.1 a0.2 r373 (-1) r375 hr376) (dn (zH (vb (.own 3 [0] [0]) rfl rfl (dn (zH ?_)))))
   have hl377:LdOk [0] (zC x278) [0] 1 false (zI x278.1):=(.fld rfl rfl rfl rfl (.nil rfl rfl rfl))
   refine vq (zI x278.1) (zM (i:=⟨.slice 2,1,24,(zI [])⟩) rfl rfl rfl hl377) hl377.c (dn (zH ?_))
   obtain ⟨r378,hr379,h⟩:=bind_some h
   refine ca (jQ a0.1 r375 x278.1 r378 hr379) (dn (dj (.tuple [(zI r378.1),(zI r378.2)]) rfl (zH (vb (zI r378.1) rfl rfl (dn (zH (vb (zI r378.2) rfl rfl (dn (dj (zI r378.1) rfl ?_)))))))))
   refine dj (zI r378.2) rfl (xE (nj ⟨[(2,ow 2),(3,ow 3),(4,ow 4),(5,zI r378.1)],[(2,bk (zK a0)),(3,bk (zC x278)),(4,bk (zC ([],[])))]⟩ (yC (xH [⟨[2],[],[2],[]⟩,⟨[2],[],[],[0]⟩,⟨[],[],[],[]⟩,⟨[2],[],[2],[]⟩,⟨[2],[],[],[3]⟩,⟨[],[],[],[]⟩,⟨[],[],[],[5]⟩,⟨[],[],[],[3,4,5,6]⟩,⟨[],[],[],[0,1,2,3,4,5,6,7]⟩,⟨[3],[],[3],[0,1,2,3,4,5,6,7,8]⟩,⟨[3],[3],[],[0,1,2,3,4,5,6,7,8,9]⟩] (by kernel_rfl) (zH (vb (.own 2 [0] [0]) rfl rfl (dn (zH ?_))))))))
   have hl389:LdOk [0] (zK a0) [0] 1 false (i6 a0.1):=(.fld rfl rfl rfl rfl (.nil rfl rfl rfl))
   refine vq (i6 a0.1) (zM (i:=⟨.int .i64,1,8,(.int .i64 0)⟩) rfl rfl rfl hl389) hl389.c (dn (dj (zI r378.1) rfl (zH (vb (.own 2 [0] [0]) rfl rfl (dn (zH ?_))))))
   have hl390:LdOk [0] (zK a0) [0] 1 false (i6 a0.1):=(.fld rfl rfl rfl rfl (.nil rfl rfl rfl))
   refine vq (i6 a0.1) (zM (i:=⟨.int .i64,1,8,(.int .i64 0)⟩) rfl rfl rfl hl390) hl390.c (dn (dj (zI r378.1) rfl (zH ?_)))
   obtain ⟨r391,hr392,h⟩:=bind_some h
   refine ca (zc0 r378.1 r391 hr392) (dn (zH ?_))
   obtain ⟨r393,hr394,h⟩:=bind_some h
   refine ca (zby a0.1 r391 r393 hr394) (dn (zH ?_))
   obtain ⟨r395,hr396,h⟩:=bind_some h
   refine ca (kV a0.1 r378.1 r393 r395 hr396) (dn (zH (vb (.own 3 [0] [0]) rfl rfl (dn (zH ?_)))))
   have hs397:StOk [0] (zC x278) [0] 1 (zI r395) (zC (r395,x278.2)):=(.fld rfl rfl rfl rfl (.nil rfl rfl rfl rfl))
   refine vu .top [(3,bk (zC (r395,x278.2)))] (qG (i:=⟨.slice 2,1,24,(zI [])⟩) rfl rfl (fun _=>rfl) rfl hs397) (hs397.c rfl) rfl (dn (xE (nj ⟨[(2,ow 2),(3,ow 3),(4,ow 4)],[(2,bk (zK a0)),(3,bk (zC (r395,x278.2))),(4,bk (zC ([],[])))]⟩ (xH [⟨[2],[],[2],[]⟩,⟨[2],[],[],[0]⟩,⟨[2],[],[2],[]⟩,⟨[2],[],[],[2]⟩,⟨[3],[],[3],[]⟩,⟨[3],[],[],[4]⟩,⟨[],[],[],[2,3,4,5]⟩,⟨[3],[],[3],[]⟩,⟨[3],[],[],[7]⟩,⟨[],[],[],[0,1,2,3,4,5,6,7,8]⟩,⟨[3],[],[3],[0,1,2,3,4,5,6,7,8,9]⟩,⟨[3],[3],[],[0,1,2,3,4,5,6,7,8,9,10]⟩] (by kernel_rfl) (zH (vb (.own 2 [0] [0]) rfl rfl (dn (zH ?_))))))))
   have hl407:LdOk [0] (zK a0) [0] 1 false (i6 a0.1):=(.fld rfl rfl rfl rfl (.nil rfl rfl rfl))
   refine vq (i6 a0.1) (zM (i:=⟨.int .i64,1,8,(.int .i64 0)⟩) rfl rfl rfl hl407) hl407.c (dn (zH (vb (.own 2 [0] [0]) rfl rfl (dn (zH ?_)))))
   have hl408:LdOk [0] (zK a0) [0] 1 false (i6 a0.1):=(.fld rfl rfl rfl rfl (.nil rfl rfl rfl))
   refine vq (i6 a0.1) (zM (i:=⟨.int .i64,1,8,(.int .i64 0)⟩) rfl rfl rfl hl408) hl408.c (dn (zH (vb (.own 3 [1] [1]) rfl rfl (dn (zH ?_)))))
   have hl409:LdOk [1] (zC (r395,x278.2)) [1] 1 false (zI x278.2):=(.fld rfl rfl rfl rfl (.nil rfl rfl rfl))
   refine vq (zI x278.2) (zM (i:=⟨.slice 2,1,24,(zI [])⟩) rfl rfl rfl hl409) hl409.c (dn (zH ?_))
   obtain ⟨r410,hr411,h⟩:=bind_some h
   refine ca (kV a0.1 x278.2 (-1) r410 hr411) (dn (zH (vb (.own 3 [0] [0]) rfl rfl (dn (zH ?_)))))
   have hl412:LdOk [0] (zC (r395,x278.2)) [0] 1 false (zI r395):=(.fld rfl rfl rfl rfl (.nil rfl rfl rfl))
   refine vq (zI r395) (zM (i:=⟨.slice 2,1,24,(zI [])⟩) rfl rfl rfl hl412) hl412.c (dn (zH ?_))
   obtain ⟨r413,hr414,h⟩:=bind_some h
   refine ca (zbh a0.1 r410 r395 r413 hr414) (dn (zH (vb (.own 3 [1] [1]) rfl rfl (dn (zH ?_)))))
   have hs415:StOk [1] (zC (r395,x278.2)) [1] 1 (zI r413) (zC (r395,r413)):=(.fld rfl rfl rfl rfl (.nil rfl rfl rfl rfl))
   refine vu .top [(3,bk (zC (r395,r413)))] (qG (i:=⟨.slice 2,1,24,(zI [])⟩) rfl rfl (fun _=>rfl) rfl hs415) (hs415.c rfl) rfl (dn (xE (xI ?_)))
   cases h
   exact ag hX348
def zka:Live:=[(0,[0,1,2]),(1,[3,4,5,6]),(2,[3,4,5,6,7,8,9]),(3,[3,4,5,6,7,8,9,10]),(4,[3,4,5,6,8,9,11,12,13]),(5,[3,4,5,6,11,13,14,15]),(6,[3,4,5,6,11,13,14,15,16]),(7,[3,4,5,6,11,13,15,16,18]),(8,[3,4,5,6,11,13,16,18]),(9,[3,6,11,16,18]),(10,[3,6,16,18])]
noncomputable def uX (a0:(Int×(List Int))) (a1:((List Int)×(List Int))) (a2:((List Int)×(List Int))):Option ((List Int)×(List Int)) :=
 (Option.bind (qV a0.1 a1.1 a2.1) fun r4=>(Option.bind (xM a0.1 a1.2 a2.2 1) fun r9=>(Option.bind (qV a0.1 r4.1 r9) fun r12=>(Option.bind (xC a0.1 r12.2.1 r4.2.1) fun r21=>(Option.bind (xC a0.1 r12.2.1 r4.2.2) fun r24=>(Option.bind (xC a0.1 a1.1 a2.1) fun r41=>(Option.bind (xC a0.1 r12.1 r12.1) fun r44=>(Option.bind (uU a0.1 r41 r44) fun r46=>(Option.bind (xC a0.1 r21 a1.1) fun r59=>(Option.bind (xC a0.1 r59 a2.2) fun r62=>(Option.bind (xC a0.1 r24 a2.1) fun r79=>(Option.bind (xC a0.1 r79 a1.2) fun r82=>(Option.bind (xM a0.1 r62 r82 1) fun r84=>(Option.bind (xC a0.1 a1.2 a2.2) fun r107=>(Option.bind (xM a0.1 r107 a0.2 1) fun r110=>(Option.bind (xC a0.1 r12.2.2 r110) fun r112=>(Option.bind (xM a0.1 r84 r112 1) fun r114=>(Option.bind (uU a0.1 r114 r12.1) fun r117=>(Option.bind (kI a0.1 r117.1 r46.1) fun r128=>(Option.bind (kK a0 (r46.1,r128)) fun r130=>(some r130)))))))))))))))))))))
theorem nZ (a0:(Int×(List Int))) (a1:((List Int)×(List Int))) (a2:((List Int)×(List Int))) (r:((List Int)×(List Int))) (h:uX a0 a1 a2=some r):Den Tryz.prog 33 [(zK a0),(zC a1),(zC a2)] { r:=(zC r) }:=by
 refine dd (rs:=[(zC r)]) (L:=zka) xL [(7,1),(8,1),(9,1),(10,1),(11,1),(12,1),(13,1),(14,1),(15,1),(16,1),(17,1),(18,1)] Tryz.func33 Tryz.ntmps33 ?_
 refine ns ⟨[(0,zK a0),(1,zC a1),(2,zC a2)],[]⟩ ?_
 refine sr (vo 1300 (zK a0) rfl rfl (vo 1400 (zC a1) rfl rfl (vo 1500 (zC a2) rfl rfl (vo 1600 (zC ([],[])) rfl rfl (nk ⟨[(3,ow 3),(4,ow 4),(5,ow 5),(6,ow 6)],[(3,bk (zK a0)),(4,bk (zC a1)),(5,bk (zC a2)),(6,bk (zC ([],[])))]⟩ (sr (vb (.own 3 [0] [0]) rfl rfl ?_)))))))
 have hl1:LdOk [0] (zK a0) [0] 1 false (i6 a0.1):=(.fld rfl rfl rfl rfl (.nil rfl rfl rfl))
 refine vq (i6 a0.1) (zM (i:=⟨.int .i64,1,8,(.int .i64 0)⟩) rfl rfl rfl hl1) hl1.c (vb (.own 4 [0] [0]) rfl rfl ?_)
 have hl2:LdOk [0] (zC a1) [0] 1 false (zI a1.1):=(.fld rfl rfl rfl rfl (.nil rfl rfl rfl))
 refine vq (zI a1.1) (zM (i:=⟨.slice 2,1,24,(zI [])⟩) rfl rfl rfl hl2) hl2.c (vb (.own 5 [0] [0]) rfl rfl ?_)
 have hl3:LdOk [0] (zC a2) [0] 1 false (zI a2.1):=(.fld rfl rfl rfl rfl (.nil rfl rfl rfl))
 refine vq (zI a2.1) (zM (i:=⟨.slice 2,1,24,(zI [])⟩) rfl rfl rfl hl3) hl3.c ?_
 obtain ⟨r4,hr5,h⟩:=bind_some h
 refine ca (zcd a0.1 a1.1 a2.1 r4 hr5) (vr (.tuple [(zI r4.1),(zI r4.2.1),(zI r4.2.2)]) (vb (zI r4.1) rfl rfl (vb (zI r4.2.1) rfl rfl (vb (zI r4.2.2) rfl rfl (vr (zI r4.1) (vr (zI r4.2.1) (vr (zI r4.2.2) (nk ⟨[(3,ow 3),(4,ow 4),(5,ow 5),(6,ow 6),(7,zI r4.1),(8,zI r4.2.1),(9,zI r4.2.2)],[(3,bk (zK a0)),(4,bk (zC a1)),(5,bk (zC a2)),(6,bk (zC ([],[])))]⟩ (sr ?_)))))))))
 refine vb (.own 3 [0] [0]) rfl rfl ?_
 have hl6:LdOk [0] (zK a0) [0] 1 false (i6 a0.1):=(.fld rfl rfl rfl rfl (.nil rfl rfl rfl))
 refine vq (i6 a0.1) (zM (i:=⟨.int .i64,1,8,(.int .i64 0)⟩) rfl rfl rfl hl6) hl6.c (vb (.own 4 [1] [1]) rfl rfl ?_)
 have hl7:LdOk [1] (zC a1) [1] 1 false (zI a1.2):=(.fld rfl rfl rfl rfl (.nil rfl rfl rfl))
 refine vq (zI a1.2) (zM (i:=⟨.slice 2,1,24,(zI [])⟩) rfl rfl rfl hl7) hl7.c (vb (.own 5 [1] [1]) rfl rfl ?_)
 have hl8:LdOk [1] (zC a2) [1] 1 false (zI a2.2):=(.fld rfl rfl rfl rfl (.nil rfl rfl rfl))
 refine vq (zI a2.2) (zM (i:=⟨.slice 2,1,24,(zI [])⟩) rfl rfl rfl hl8) hl8.c ?_
 obtain ⟨r9,hr10,h⟩:=bind_some h
 refine ca (wP a0.1 a1.2 a2.2 1 r9 hr10) (vr (zI r9) (nk ⟨[(3,ow 3),(4,ow 4),(5,ow 5),(6,ow 6),(7,zI r4.1),(8,zI r4.2.1),(9,zI r4.2.2),(10,zI r9)],[(3,bk (zK a0)),(4,bk (zC a1)),(5,bk (zC a2)),(6,bk (zC ([],[])))]⟩ (sr (vb (.own 3 [0] [0]) rfl rfl ?_))))
 have hl11:LdOk [0] (zK a0) [0] 1 false (i6 a0.1):=(.fld rfl rfl rfl rfl (.nil rfl rfl rfl))
 refine vq (i6 a0.1) (zM (i:=⟨.int .i64,1,8,(.int .i64 0)⟩) rfl rfl rfl hl11) hl11.c (vr (zI r4.1) (vr (zI r9) ?_))
 obtain ⟨r12,hr13,h⟩:=bind_some h
 refine ca (zcd a0.1 r4.1 r9 r12 hr13) (vr (.tuple [(zI r12.1),(zI r12.2.1),(zI r12.2.2)]) (vb (zI r12.1) rfl rfl (vb (zI r12.2.1) rfl rfl (vb (zI r12.2.2) rfl rfl (vr (zI r12.1) (vr (zI r12.2.1) (vr (zI r12.2.2) (nk ⟨[(3,ow 3),(4,ow 4),(5,ow 5),(6,ow 6),(8,zI r4.2.1),(9,zI r4.2.2),(11,zI r12.1),(12,zI r12.2.1),(13,zI r12.2.2)],[(3,bk (zK a0)),(4,bk (zC a1)),(5,bk (zC a2)),(6,bk (zC ([],[])))]⟩ (yC ?_)))))))))
 refine xH [⟨[3],[],[3],[]⟩,⟨[3],[],[],[0]⟩,⟨[],[],[],[]⟩,⟨[],[],[],[]⟩,⟨[],[],[],[0,1,2,3]⟩,⟨[3],[],[3],[]⟩,⟨[3],[],[],[5]⟩,⟨[],[],[],[]⟩,⟨[],[],[],[]⟩,⟨[],[],[],[0,1,2,3,4,5,6,7,8]⟩,⟨[],[],[],[0,1,2,3,4,5,6,7,8,9]⟩,⟨[],[],[],[0,1,2,3,4,5,6,7,8,9,10]⟩] (by kernel_rfl) (zH (vb (.own 3 [0] [0]) rfl rfl (dn (zH ?_))))
 have hl20:LdOk [0] (zK a0) [0] 1 false (i6 a0.1):=(.fld rfl rfl rfl rfl (.nil rfl rfl rfl))
 refine vq (i6 a0.1) (zM (i:=⟨.int .i64,1,8,(.int .i64 0)⟩) rfl rfl rfl hl20) hl20.c (dn (dj (zI r12.2.1) rfl (dj (zI r4.2.1) rfl (zH ?_))))
 obtain ⟨r21,hr22,h⟩:=bind_some h
 refine ca (xN a0.1 r12.2.1 r4.2.1 r21 hr22) (dn (zH (vb (.own 3 [0] [0]) rfl rfl (dn (zH ?_)))))
 have hl23:LdOk [0] (zK a0) [0] 1 false (i6 a0.1):=(.fld rfl rfl rfl rfl (.nil rfl rfl rfl))
 refine vq (i6 a0.1) (zM (i:=⟨.int .i64,1,8,(.int .i64 0)⟩) rfl rfl rfl hl23) hl23.c (dn (dj (zI r12.2.1) rfl (dj (zI r4.2.2) rfl (zH ?_))))
 obtain ⟨r24,hr25,h⟩:=bind_some h
 refine ca (xN a0.1 r12.2.1 r4.2.2 r24 hr25) (dn (dj (zI r21) rfl (dj (zI r24) rfl (xE (nj ⟨[(3,ow 3),(4,ow 4),(5,ow 5),(6,ow 6),(11,zI r12.1),(13,zI r12.2.2),(14,zI r21),(15,zI r24)],[(3,bk (zK a0)),(4,bk (zC a1)),(5,bk (zC a2)),(6,bk (zC ([],[])))]⟩ (yC (xH [⟨[3],[],[3],[]⟩,⟨[3],[],[],[0]⟩,⟨[3],[],[3],[]⟩,⟨[3],[],[],[2]⟩,⟨[4],[],[4],[]⟩,⟨[4],[],[],[4]⟩,⟨[5],[],[5],[]⟩,⟨[5],[],[],[6]⟩,⟨[],[],[],[2,3,4,5,6,7]⟩,⟨[3],[],[3],[]⟩,⟨[3],[],[],[9]⟩,⟨[],[],[],[]⟩,⟨[],[],[],[]⟩,⟨[],[],[],[2,3,4,5,6,7,8,9,10,11,12]⟩,⟨[],[],[],[0,1,2,3,4,5,6,7,8,9,10,11,12,13]⟩,⟨[],[],[],[0,1,2,3,4,5,6,7,8,9,10,11,12,13,14]⟩,⟨[],[],[],[0,1,2,3,4,5,6,7,8,9,10,11,12,13,14,15]⟩,⟨[],[],[],[0,1,2,3,4,5,6,7,8,9,10,11,12,13,14,15]⟩,⟨[],[],[],[0,1,2,3,4,5,6,7,8,9,10,11,12,13,14,15,16]⟩,⟨[],[],[],[0,1,2,3,4,5,6,7,8,9,10,11,12,13,14,15,16,17,18]⟩] (by kernel_rfl) (zH (vb (.own 3 [0] [0]) rfl rfl ?_)))))))))
 refine dn (zH ?_)
 have hl37:LdOk [0] (zK a0) [0] 1 false (i6 a0.1):=(.fld rfl rfl rfl rfl (.nil rfl rfl rfl))
 refine vq (i6 a0.1) (zM (i:=⟨.int .i64,1,8,(.int .i64 0)⟩) rfl rfl rfl hl37) hl37.c (dn (zH (vb (.own 3 [0] [0]) rfl rfl (dn (zH ?_)))))
 have hl38:LdOk [0] (zK a0) [0] 1 false (i6 a0.1):=(.fld rfl rfl rfl rfl (.nil rfl rfl rfl))
 refine vq (i6 a0.1) (zM (i:=⟨.int .i64,1,8,(.int .i64 0)⟩) rfl rfl rfl hl38) hl38.c (dn (zH (vb (.own 4 [0] [0]) rfl rfl (dn (zH ?_)))))
 have hl39:LdOk [0] (zC a1) [0] 1 false (zI a1.1):=(.fld rfl rfl rfl rfl (.nil rfl rfl rfl))
 refine vq (zI a1.1) (zM (i:=⟨.slice 2,1,24,(zI [])⟩) rfl rfl rfl hl39) hl39.c (dn (zH (vb (.own 5 [0] [0]) rfl rfl (dn (zH ?_)))))
 have hl40:LdOk [0] (zC a2) [0] 1 false (zI a2.1):=(.fld rfl rfl rfl rfl (.nil rfl rfl rfl))
 refine vq (zI a2.1) (zM (i:=⟨.slice 2,1,24,(zI [])⟩) rfl rfl rfl hl40) hl40.c (dn (zH ?_))
 obtain ⟨r41,hr42,h⟩:=bind_some h
 refine ca (xN a0.1 a1.1 a2.1 r41 hr42) (dn (zH (vb (.own 3 [0] [0]) rfl rfl (dn (zH ?_)))))
 have hl43:LdOk [0] (zK a0) [0] 1 false (i6 a0.1):=(.fld rfl rfl rfl rfl (.nil rfl rfl rfl))
 refine vq (i6 a0.1) (zM (i:=⟨.int .i64,1,8,(.int .i64 0)⟩) rfl rfl rfl hl43) hl43.c (dn (dj (zI r12.1) rfl (dj (zI r12.1) rfl (zH ?_))))
 obtain ⟨r44,hr45,h⟩:=bind_some h
 refine ca (xN a0.1 r12.1 r12.1 r44 hr45) (dn (zH ?_))
 obtain ⟨r46,hr47,h⟩:=bind_some h
 refine ca (jQ a0.1 r41 r44 r46 hr47) (dn (dj (.tuple [(zI r46.1),(zI r46.2)]) rfl (zH (vb (zI r46.1) rfl rfl (dn (zH (vb (zI r46.2) rfl rfl (dn (dj (zI r46.1) rfl ?_)))))))))
 refine dj (zI r46.2) rfl (xE (nj ⟨[(3,ow 3),(4,ow 4),(5,ow 5),(6,ow 6),(11,zI r12.1),(13,zI r12.2.2),(14,zI r21),(15,zI r24),(16,zI r46.1)],[(3,bk (zK a0)),(4,bk (zC a1)),(5,bk (zC a2)),(6,bk (zC ([],[])))]⟩ (yC (xH [⟨[3],[],[3],[]⟩,⟨[3],[],[],[0]⟩,⟨[3],[],[3],[]⟩,⟨[3],[],[],[2]⟩,⟨[],[],[],[]⟩,⟨[4],[],[4],[]⟩,⟨[4],[],[],[5]⟩,⟨[],[],[],[2,3,4,5,6]⟩,⟨[5],[],[5],[]⟩,⟨[5],[],[],[8]⟩,⟨[],[],[],[0,1,2,3,4,5,6,7,8,9]⟩,⟨[],[],[],[0,1,2,3,4,5,6,7,8,9,10]⟩] (by kernel_rfl) (zH (vb (.own 3 [0] [0]) rfl rfl (dn (zH ?_))))))))
 have hl56:LdOk [0] (zK a0) [0] 1 false (i6 a0.1):=(.fld rfl rfl rfl rfl (.nil rfl rfl rfl))
 refine vq (i6 a0.1) (zM (i:=⟨.int .i64,1,8,(.int .i64 0)⟩) rfl rfl rfl hl56) hl56.c (dn (zH (vb (.own 3 [0] [0]) rfl rfl (dn (zH ?_)))))
 have hl57:LdOk [0] (zK a0) [0] 1 false (i6 a0.1):=(.fld rfl rfl rfl rfl (.nil rfl rfl rfl))
 refine vq (i6 a0.1) (zM (i:=⟨.int .i64,1,8,(.int .i64 0)⟩) rfl rfl rfl hl57) hl57.c (dn (dj (zI r21) rfl (zH (vb (.own 4 [0] [0]) rfl rfl (dn (zH ?_))))))
 have hl58:LdOk [0] (zC a1) [0] 1 false (zI a1.1):=(.fld rfl rfl rfl rfl (.nil rfl rfl rfl))
 refine vq (zI a1.1) (zM (i:=⟨.slice 2,1,24,(zI [])⟩) rfl rfl rfl hl58) hl58.c (dn (zH ?_))
 obtain ⟨r59,hr60,h⟩:=bind_some h
 refine ca (xN a0.1 r21 a1.1 r59 hr60) (dn (zH (vb (.own 5 [1] [1]) rfl rfl (dn (zH ?_)))))
 have hl61:LdOk [1] (zC a2) [1] 1 false (zI a2.2):=(.fld rfl rfl rfl rfl (.nil rfl rfl rfl))
 refine vq (zI a2.2) (zM (i:=⟨.slice 2,1,24,(zI [])⟩) rfl rfl rfl hl61) hl61.c (dn (zH ?_))
 obtain ⟨r62,hr63,h⟩:=bind_some h
 refine ca (xN a0.1 r59 a2.2 r62 hr63) (dn (dj (zI r62) rfl (xE (nj ⟨[(3,ow 3),(4,ow 4),(5,ow 5),(6,ow 6),(11,zI r12.1),(13,zI r12.2.2),(15,zI r24),(16,zI r46.1),(18,zI r62)],[(3,bk (zK a0)),(4,bk (zC a1)),(5,bk (zC a2)),(6,bk (zC ([],[])))]⟩ (yC (xH [⟨[3],[],[3],[]⟩,⟨[3],[],[],[0]⟩,⟨[],[],[],[]⟩,⟨[3],[],[3],[]⟩,⟨[3],[],[],[3]⟩,⟨[3],[],[3],[]⟩,⟨[3],[],[],[5]⟩,⟨[],[],[],[]⟩,⟨[5],[],[5],[]⟩,⟨[5],[],[],[8]⟩,⟨[],[],[],[5,6,7,8,9]⟩,⟨[4],[],[4],[]⟩,⟨[4],[],[],[11]⟩,⟨[],[],[],[3,4,5,6,7,8,9,10,11,12]⟩,⟨[],[],[],[0,1,2,3,4,5,6,7,8,9,10,11,12,13]⟩,⟨[],[],[],[0,1,2,3,4,5,6,7,8,9,10,11,12,13,14]⟩] (by kernel_rfl) (zH (vb (.own 3 [0] [0]) rfl rfl (dn ?_)))))))))
 refine zH ?_
 have hl75:LdOk [0] (zK a0) [0] 1 false (i6 a0.1):=(.fld rfl rfl rfl rfl (.nil rfl rfl rfl))
 refine vq (i6 a0.1) (zM (i:=⟨.int .i64,1,8,(.int .i64 0)⟩) rfl rfl rfl hl75) hl75.c (dn (dj (zI r62) rfl (zH (vb (.own 3 [0] [0]) rfl rfl (dn (zH ?_))))))
 have hl76:LdOk [0] (zK a0) [0] 1 false (i6 a0.1):=(.fld rfl rfl rfl rfl (.nil rfl rfl rfl))
 refine vq (i6 a0.1) (zM (i:=⟨.int .i64,1,8,(.int .i64 0)⟩) rfl rfl rfl hl76) hl76.c (dn (zH (vb (.own 3 [0] [0]) rfl rfl (dn (zH ?_)))))
 have hl77:LdOk [0] (zK a0) [0] 1 false (i6 a0.1):=(.fld rfl rfl rfl rfl (.nil rfl rfl rfl))
 refine vq (i6 a0.1) (zM (i:=⟨.int .i64,1,8,(.int .i64 0)⟩) rfl rfl rfl hl77) hl77.c (dn (dj (zI r24) rfl (zH (vb (.own 5 [0] [0]) rfl rfl (dn (zH ?_))))))
 have hl78:LdOk [0] (zC a2) [0] 1 false (zI a2.1):=(.fld rfl rfl rfl rfl (.nil rfl rfl rfl))
 refine vq (zI a2.1) (zM (i:=⟨.slice 2,1,24,(zI [])⟩) rfl rfl rfl hl78) hl78.c (dn (zH ?_))
 obtain ⟨r79,hr80,h⟩:=bind_some h
 refine ca (xN a0.1 r24 a2.1 r79 hr80) (dn (zH (vb (.own 4 [1] [1]) rfl rfl (dn (zH ?_)))))
 have hl81:LdOk [1] (zC a1) [1] 1 false (zI a1.2):=(.fld rfl rfl rfl rfl (.nil rfl rfl rfl))
 refine vq (zI a1.2) (zM (i:=⟨.slice 2,1,24,(zI [])⟩) rfl rfl rfl hl81) hl81.c (dn (zH ?_))
 obtain ⟨r82,hr83,h⟩:=bind_some h
 refine ca (xN a0.1 r79 a1.2 r82 hr83) (dn (zH ?_))
 obtain ⟨r84,hr85,h⟩:=bind_some h
 refine ca (wP a0.1 r62 r82 1 r84 hr85) (dn (dj (zI r84) rfl (xE (nj ⟨[(3,ow 3),(4,ow 4),(5,ow 5),(6,ow 6),(11,zI r12.1),(13,zI r12.2.2),(16,zI r46.1),(18,zI r84)],[(3,bk (zK a0)),(4,bk (zC a1)),(5,bk (zC a2)),(6,bk (zC ([],[])))]⟩ (yC (xH [⟨[3],[],[3],[]⟩,⟨[3],[],[],[0]⟩,⟨[],[],[],[]⟩,⟨[3],[],[3],[]⟩,⟨[3],[],[],[3]⟩,⟨[],[],[],[]⟩,⟨[3],[],[3],[]⟩,⟨[3],[],[],[6]⟩,⟨[3],[],[3],[]⟩,⟨[3],[],[],[8]⟩,⟨[4],[],[4],[]⟩,⟨[4],[],[],[10]⟩,⟨[5],[],[5],[]⟩,⟨[5],[],[],[12]⟩,⟨[],[],[],[8,9,10,11,12,13]⟩,⟨[3],[],[3],[]⟩,⟨[3],[],[],[15]⟩,⟨[],[],[],[6,7,8,9,10,11,12,13,14,15,16]⟩,⟨[],[],[],[3,4,5,6,7,8,9,10,11,12,13,14,15,16,17]⟩,⟨[],[],[],[0,1,2,3,4,5,6,7,8,9,10,11,12,13,14,15,16,17,18]⟩,⟨[],[],[],[0,1,2,3,4,5,6,7,8,9,10,11,12,13,14,15,16,17,18,19]⟩] (by kernel_rfl) (zH (vb (.own 3 [0] [0]) rfl rfl (dn ?_)))))))))
 refine zH ?_
 have hl101:LdOk [0] (zK a0) [0] 1 false (i6 a0.1):=(.fld rfl rfl rfl rfl (.nil rfl rfl rfl))
 refine vq (i6 a0.1) (zM (i:=⟨.int .i64,1,8,(.int .i64 0)⟩) rfl rfl rfl hl101) hl101.c (dn (dj (zI r84) rfl (zH (vb (.own 3 [0] [0]) rfl rfl (dn (zH ?_))))))
 have hl102:LdOk [0] (zK a0) [0] 1 false (i6 a0.1):=(.fld rfl rfl rfl rfl (.nil rfl rfl rfl))
 refine vq (i6 a0.1) (zM (i:=⟨.int .i64,1,8,(.int .i64 0)⟩) rfl rfl rfl hl102) hl102.c (dn (dj (zI r12.2.2) rfl (zH (vb (.own 3 [0] [0]) rfl rfl (dn (zH ?_))))))
 have hl103:LdOk [0] (zK a0) [0] 1 false (i6 a0.1):=(.fld rfl rfl rfl rfl (.nil rfl rfl rfl))
 refine vq (i6 a0.1) (zM (i:=⟨.int .i64,1,8,(.int .i64 0)⟩) rfl rfl rfl hl103) hl103.c (dn (zH (vb (.own 3 [0] [0]) rfl rfl (dn (zH ?_)))))
 have hl104:LdOk [0] (zK a0) [0] 1 false (i6 a0.1):=(.fld rfl rfl rfl rfl (.nil rfl rfl rfl))
 refine vq (i6 a0.1) (zM (i:=⟨.int .i64,1,8,(.int .i64 0)⟩) rfl rfl rfl hl104) hl104.c (dn (zH (vb (.own 4 [1] [1]) rfl rfl (dn (zH ?_)))))
 have hl105:LdOk [1] (zC a1) [1] 1 false (zI a1.2):=(.fld rfl rfl rfl rfl (.nil rfl rfl rfl))
 refine vq (zI a1.2) (zM (i:=⟨.slice 2,1,24,(zI [])⟩) rfl rfl rfl hl105) hl105.c (dn (zH (vb (.own 5 [1] [1]) rfl rfl (dn (zH ?_)))))
 have hl106:LdOk [1] (zC a2) [1] 1 false (zI a2.2):=(.fld rfl rfl rfl rfl (.nil rfl rfl rfl))
 refine vq (zI a2.2) (zM (i:=⟨.slice 2,1,24,(zI [])⟩) rfl rfl rfl hl106) hl106.c (dn (zH ?_))
 obtain ⟨r107,hr108,h⟩:=bind_some h
 refine ca (xN a0.1 a1.2 a2.2 r107 hr108) (dn (zH (vb (.own 3 [1] [1]) rfl rfl (dn (zH ?_)))))
 have hl109:LdOk [1] (zK a0) [1] 1 false (zI a0.2):=(.fld rfl rfl rfl rfl (.nil rfl rfl rfl))
 refine vq (zI a0.2) (zM (i:=⟨.slice 2,1,24,(zI [])⟩) rfl rfl rfl hl109) hl109.c (dn (zH ?_))
 obtain ⟨r110,hr111,h⟩:=bind_some h
 refine ca (wP a0.1 r107 a0.2 1 r110 hr111) (dn (zH ?_))
 obtain ⟨r112,hr113,h⟩:=bind_some h
 refine ca (xN a0.1 r12.2.2 r110 r112 hr113) (dn (zH ?_))
 obtain ⟨r114,hr115,h⟩:=bind_some h
 refine ca (wP a0.1 r84 r112 1 r114 hr115) (dn (dj (zI r114) rfl (xE (nj ⟨[(3,ow 3),(6,ow 6),(11,zI r12.1),(16,zI r46.1),(18,zI r114)],[(3,bk (zK a0)),(6,bk (zC ([],[])))]⟩ (sr (vb (.own 3 [0] [0]) rfl rfl ?_))))))
 have hl116:LdOk [0] (zK a0) [0] 1 false (i6 a0.1):=(.fld rfl rfl rfl rfl (.nil rfl rfl rfl))
 refine vq (i6 a0.1) (zM (i:=⟨.int .i64,1,8,(.int .i64 0)⟩) rfl rfl rfl hl116) hl116.c (vr (zI r114) (vr (zI r12.1) ?_))
 obtain ⟨r117,hr118,h⟩:=bind_some h
 refine ca (jQ a0.1 r114 r12.1 r117 hr118) (vr (.tuple [(zI r117.1),(zI r117.2)]) (vb (zI r117.1) rfl rfl (vb (zI r117.2) rfl rfl (vr (zI r117.1) (nk ⟨[(3,ow 3),(6,ow 6),(16,zI r46.1),(18,zI r117.1)],[(3,bk (zK a0)),(6,bk (zC ([],[])))]⟩ (yC (xH [⟨[3],[],[],[]⟩,⟨[],[],[],[]⟩,⟨[3],[],[3],[]⟩,⟨[3],[],[],[2]⟩,⟨[],[],[],[]⟩,⟨[],[],[],[]⟩,⟨[],[],[],[2,3,4,5]⟩,⟨[],[],[],[1,2,3,4,5,6]⟩,⟨[],[],[],[0,1,2,3,4,5,6,7]⟩,⟨[6],[6],[],[0,1,2,3,4,5,6,7,8]⟩] (by kernel_rfl) (zH (vl (zK a0) rfl rfl rfl rfl rfl rfl ?_)))))))))
 refine dn (dj (zI r46.1) rfl (zH (vb (.own 3 [0] [0]) rfl rfl (dn (zH ?_)))))
 have hl127:LdOk [0] (zK a0) [0] 1 false (i6 a0.1):=(.fld rfl rfl rfl rfl (.nil rfl rfl rfl))
 refine vq (i6 a0.1) (zM (i:=⟨.int .i64,1,8,(.int .i64 0)⟩) rfl rfl rfl hl127) hl127.c (dn (dj (zI r117.1) rfl (dj (zI r46.1) rfl (zH ?_))))
 obtain ⟨r128,hr129,h⟩:=bind_some h
 refine ca (zbh a0.1 r117.1 r46.1 r128 hr129) (dn (zH (vq (zC (r46.1,r128)) rfl ⟨rfl,(all_cons ⟨(yS rfl),rfl⟩ (all_cons ⟨(yS rfl),rfl⟩ all_nil))⟩ (dn (zH ?_)))))
 obtain ⟨r130,hr131,h⟩:=bind_some h
 refine ca (zeo a0 (r46.1,r128) r130 hr131) (dn (zH (vs (zC r130) rfl rfl (fun _=>rfl) rfl rfl rfl rfl rfl rfl (dn (xE (wC rfl (zU ?_)))))))
 have hl133:LdOk [] (zC r130) [] 2 true (zC r130):=(.nil rfl rfl rfl)
 refine ⟨.inr rfl,?_⟩
 rw [Tryz.results33]
 cases h
 exact ⟨_,_,_,_,_,zM (i:=⟨.struct [(0,52),(1,52)],2,48,(zC ([],[]))⟩) rfl rfl rfl hl133,hl133.c,.inl ⟨rfl,.inl rfl⟩,rfl,rfl⟩
def zou:Live:=[(0,[0]),(1,[0,2]),(2,[0,2,3]),(3,[2,3,6,7,8]),(4,[2,3,6,7,8]),(5,[2,3,4,5,6,7,8]),(6,[2,3,6,7,8]),(7,[2,3]),(100009,[2,3,6,7,8,9])]
noncomputable def nP (a0:(List Int)) (x31:Int) (x32:(Vec Int 64)):Option ((Int×(Vec Int 64))⊕(Vec Int 64)) :=
 (if (decide (x31 < (a0.length:Int))) then (jA (0≤x31∧x31 < ((a0.length:Nat):Int)) ((jA (0≤x31∧x31 < ((64:Nat):Int)) ((some (.inl ((IntKind.i64.wrap (x31 + 1),(yO x32 x31.toNat (IntKind.u8.wrap (rd a0 x31.toNat))))))))))) else (some (.inr x32)))
noncomputable def zbw (a0:(List Int)):Option (Vec Int 64) :=
 (Option.bind (α:=(Vec Int 64)) ((yK (fun s:(Int×(Vec Int 64))=>nP a0 s.1 s.2) (0,yH 64 (0:Int)))) fun x22=>(some x22))
theorem zhv (a0:(List Int)) (r:(Vec Int 64)) (h:zbw a0=some r):Den Tryz.prog 79 [(zI a0)] { r:=(zJ r) }:=by
 refine dd (rs:=[(zJ r)]) (L:=zou) xL [] Tryz.func79 Tryz.ntmps79 ?_
 refine ns ⟨[(0,zI a0)],[]⟩ ?_
 refine sr (vo 1200 (yF) rfl rfl (nk ⟨[(0,zI a0),(2,ow 2)],[(2,bk (yF))]⟩ (sr (vo 1300 (yF) rfl rfl (nk ⟨[(0,zI a0),(2,ow 2),(3,ow 3)],[(2,bk (yF)),(3,bk (yF))]⟩ ?_)))))
 obtain ⟨y23,hy24,hk25⟩:=bind_some h
 clear h
 refine yN (emb:=fun (s:(Vec Int 64))=>⟨[(2,ow 2),(3,ow 3)],[(2,bk (yF)),(3,bk (zJ s))]⟩) (kG:=fun s=>s=y23) ?_ ?_
 ·rintro x22 rfl
  have h:=hk25
  refine ns ⟨[(2,ow 2),(3,ow 3)],[(2,bk (yF)),(3,bk (zJ x22))]⟩ (sr (vl (zJ x22) rfl rfl rfl rfl rfl rfl (vs (zJ x22) rfl rfl (fun _=>rfl) rfl rfl rfl rfl rfl rfl (nx _ rfl (zU ?_)))))
  have hl49:LdOk [] (zJ x22) [] 64 true (zJ x22):=(.nil rfl rfl rfl)
  refine ⟨.inr rfl,?_⟩
  rw [Tryz.results79]
  cases h
  exact ⟨_,_,_,_,_,zM (i:=⟨.arr 64 5,64,64,(zJ (yH 64 (0:Int)))⟩) rfl rfl rfl hl49,hl49.c,.inl ⟨rfl,.inl rfl⟩,rfl,rfl⟩
 ·have h:=hy24
  refine sr (vr (zI a0) (vq (i6 (a0.length:Int)) (xX rfl rfl) trivial (vr (i6 0) (nk ⟨[(2,ow 2),(3,ow 3),(6,zI a0),(7,i6 (a0.length:Int)),(8,i6 0)],[(2,bk (yF)),(3,bk (yF))]⟩ (yB ?_)))))
  refine xU (emb:=fun (s:(Int×(Vec Int 64)))=>⟨[(2,ow 2),(3,ow 3),(6,zI a0),(7,i6 (a0.length:Int)),(8,i6 s.1)],[(2,bk (yF)),(3,bk (zJ s.2))]⟩) (body:=(fun s:(Int×(Vec Int 64))=>nP a0 s.1 s.2)) (G:=fun q=>some q=some y23) h rfl ?_ (by kernel_rfl)
  rintro X38 ⟨x31,x32⟩ x39 h hX40
  have h:nP a0 x31 x32=some x39:=h
  refine ns ⟨[(2,ow 2),(3,ow 3),(6,zI a0),(7,i6 (a0.length:Int)),(8,i6 x31)],[(2,bk (yF)),(3,bk (zJ x32))]⟩ (sr (vr (.bool ((decide (x31 < (a0.length:Int))))) (nk ⟨[(2,ow 2),(3,ow 3),(6,zI a0),(7,i6 (a0.length:Int)),(8,i6 x31),(9,.bool ((decide (x31 < (a0.length:Int)))))],[(2,bk (yF)),(3,bk (zJ x32))]⟩ (yC ?_))))
  cases hb41:(decide (x31 < (a0.length:Int)))
  ·have h:=zW hb41 h
   refine zP rfl (xR (yI ?_))
   cases h
   have h:=hX40
   refine yI (xQ ?_)
   exact jl x32 h
  ·have h:=zV hb41 h
   refine zO rfl (yG (nj ⟨[(2,ow 2),(3,ow 3),(6,zI a0),(7,i6 (a0.length:Int)),(8,i6 x31)],[(2,bk (yF)),(3,bk (zJ x32))]⟩ (yC (yB (sr (vr (i6 x31) ?_))))))
   obtain ⟨hc42,h⟩:=zT h
   refine vq (.ref (.row 1 (a0.map (AV.int .i64))) [x31.toNat] [x31.toNat*1]) rfl (zdp hc42) ?_
   have hl43:LdOk [x31.toNat] (.row 1 (a0.map (AV.int .i64))) [x31.toNat*1] 1 false (i6 (rd a0 x31.toNat)):=(.row (llt hc42) rfl (.nil rfl rfl rfl))
   refine vq (i6 (rd a0 x31.toNat)) (kC (i:=⟨.int .i64,1,8,(.int .i64 0)⟩) rfl rfl hl43) hl43.c (vr (i6 x31) (vr (i6 (rd a0 x31.toNat)) (nk ⟨[(2,ow 2),(3,ow 3),(4,i6 x31),(5,i6 (rd a0 x31.toNat)),(6,zI a0),(7,i6 (a0.length:Int)),(8,i6 x31)],[(2,bk (yF)),(3,bk (zJ x32))]⟩ (zR (vr (i6 x31) (vr (i6 (rd a0 x31.toNat)) (vr (b8 (IntKind.u8.wrap (rd a0 x31.toNat))) ?_)))))))
   obtain ⟨hc44,h⟩:=zT h
   refine vq (.own 3 [x31.toNat] [x31.toNat*1]) rfl hc44 ?_
   have hs45:StOk [x31.toNat] (zJ x32) [x31.toNat*1] 1 (b8 (IntKind.u8.wrap (rd a0 x31.toNat))) (zJ ((yO x32 x31.toNat (IntKind.u8.wrap (rd a0 x31.toNat))))):=(.arr (y:=IntKind.u8.wrap (rd a0 x31.toNat)) (vlt x32 hc44) rfl (.nil rfl rfl rfl rfl))
   refine vu .top [(3,bk (zJ ((yO x32 x31.toNat (IntKind.u8.wrap (rd a0 x31.toNat))))))] (qG (i:=⟨.int .u8,1,1,(.int .u8 0)⟩) rfl rfl (fun _=>rfl) rfl hs45) (hs45.c rfl) rfl (yJ (xI (nj ⟨[(2,ow 2),(3,ow 3),(6,zI a0),(7,i6 (a0.length:Int)),(8,i6 x31)],[(2,bk (yF)),(3,bk (zJ ((yO x32 x31.toNat (IntKind.u8.wrap (rd a0 x31.toNat))))))]⟩ (zR (vr (i6 (IntKind.i64.wrap (x31 + 1))) (vr (i6 (IntKind.i64.wrap (x31 + 1))) (yJ ?_)))))))
   cases h
   exact ag hX40
def zny:Live:=[(0,[0]),(1,[1,2])]
noncomputable def uF (a0:((List Int)×(List Int))):Option ((Vec Int 64)×(Vec Int 64)) :=
 (Option.bind (zbw a0.1) fun r9=>(Option.bind (zbw a0.2) fun r12=>(some (r9,r12))))
theorem mQ (a0:((List Int)×(List Int))) (r:((Vec Int 64)×(Vec Int 64))) (h:uF a0=some r):Den Tryz.prog 35 [(zC a0)] { r:=(zA r) }:=by
 refine dd (rs:=[(zA r)]) (L:=zny) xL [] Tryz.func35 Tryz.ntmps35 ?_
 refine ns ⟨[(0,zC a0)],[]⟩ ?_
 refine sr (vo 1100 (zC a0) rfl rfl (vo 1200 xA rfl rfl (nk ⟨[(1,ow 1),(2,ow 2)],[(1,bk (zC a0)),(2,bk xA)]⟩ (yC (xH [⟨[1],[],[1],[]⟩,⟨[1],[],[],[0]⟩,⟨[],[],[],[0,1]⟩,⟨[1],[],[1],[]⟩,⟨[1],[],[],[3]⟩,⟨[],[],[],[0,1,2,3,4]⟩,⟨[],[],[],[0,1,2,3,4,5]⟩,⟨[2],[2],[],[0,1,2,3,4,5,6]⟩] (by kernel_rfl) (zH (vb (.own 1 [0] [0]) rfl rfl (dn (zH ?_)))))))))
 have hl8:LdOk [0] (zC a0) [0] 1 false (zI a0.1):=(.fld rfl rfl rfl rfl (.nil rfl rfl rfl))
 refine vq (zI a0.1) (zM (i:=⟨.slice 2,1,24,(zI [])⟩) rfl rfl rfl hl8) hl8.c (dn (zH ?_))
 obtain ⟨r9,hr10,h⟩:=bind_some h
 refine ca (zhv a0.1 r9 hr10) (dn (zH (vb (.own 1 [1] [1]) rfl rfl (dn (zH ?_)))))
 have hl11:LdOk [1] (zC a0) [1] 1 false (zI a0.2):=(.fld rfl rfl rfl rfl (.nil rfl rfl rfl))
 refine vq (zI a0.2) (zM (i:=⟨.slice 2,1,24,(zI [])⟩) rfl rfl rfl hl11) hl11.c (dn (zH ?_))
 obtain ⟨r12,hr13,h⟩:=bind_some h
 refine ca (zhv a0.2 r12 hr13) (dn (zH (vq (zA (r9,r12)) rfl ⟨rfl,(all_cons ⟨(yS rfl),rfl⟩ (all_cons ⟨(yS rfl),rfl⟩ all_nil))⟩ (dn (zH (vs (zA (r9,r12)) rfl rfl (fun _=>rfl) rfl rfl rfl rfl rfl rfl (dn (xE (wC rfl ?_)))))))))
 refine zU ?_
 have hl15:LdOk [] (zA (r9,r12)) [] 128 true (zA (r9,r12)):=(.nil rfl rfl rfl)
 refine ⟨.inr rfl,?_⟩
 rw [Tryz.results35]
 cases h
 exact ⟨_,_,_,_,_,zM (i:=⟨.struct [(0,25),(64,25)],128,128,xA⟩) rfl rfl rfl hl15,hl15.c,.inl ⟨rfl,.inl rfl⟩,rfl,rfl⟩
def zk4:Live:=[(0,[0,1,2,3]),(1,[0,5,6,7,8]),(2,[0,5,6,7,8,10]),(3,[8,10]),(4,[0,5,6,7,8]),(100018,[0,5,6,7,8,10,18])]
noncomputable def vB (a0:Int) (a1:(Vec Int 64)) (a2:((Vec Int 64)×(Vec Int 64))) (a3:((Vec Int 64)×(Vec Int 64))):Option (((Vec Int 64)×(Vec Int 64))×Int) :=
 (Option.bind (vF a0 a1 true true ([a2,a3])) fun r4=>(if (r4 != 0) then (some ((((yH 64 (0:Int)),(yH 64 (0:Int))),r4))) else (Option.bind (uT a0 a1) fun r22=>(Option.bind (vP a2) fun r25=>(Option.bind (vP a3) fun r28=>(Option.bind (uX r22 r25 r28) fun r30=>(Option.bind (uF r30) fun r32=>(some (r32,0)))))))))
theorem kQ (a0:Int) (a1:(Vec Int 64)) (a2:((Vec Int 64)×(Vec Int 64))) (a3:((Vec Int 64)×(Vec Int 64))) (r:(((Vec Int 64)×(Vec Int 64))×Int)) (h:vB a0 a1 a2 a3=some r):Den Tryz.prog 6 [(i6 a0),(zJ a1),(zA a2),(zA a3)] { r:=(.tuple [(zA r.1),(i6 r.2)]) }:=by
 refine dd (rs:=[(zA r.1),(i6 r.2)]) (L:=zk4) xL [] Tryz.func6 Tryz.ntmps6 ?_
 refine ns ⟨[(0,i6 a0),(1,zJ a1),(2,zA a2),(3,zA a3)],[]⟩ ?_
 refine sr (vo 1500 (zJ a1) rfl rfl (vo 1600 (zA a2) rfl rfl (vo 1700 (zA a3) rfl rfl (vo 1800 xA rfl rfl (vr (i6 0) (nk ⟨[(0,i6 a0),(5,ow 5),(6,ow 6),(7,ow 7),(8,ow 8)],[(5,bk (zJ a1)),(6,bk (zA a2)),(7,bk (zA a3)),(8,bk xA)]⟩ (yC (sr (vr (i6 a0) ?_)))))))))
 refine vl (zJ a1) rfl rfl rfl rfl rfl rfl (vl (zA a2) rfl rfl rfl rfl rfl rfl (vl (zA a3) rfl rfl rfl rfl rfl rfl (vq (.sl 128 true (([a2,a3]).map zA)) rfl ⟨(yS rfl),(yS rfl),(all_cons ⟨(yS rfl),rfl⟩ (all_cons ⟨(yS rfl),rfl⟩ all_nil))⟩ ?_)))
 obtain ⟨r4,hr5,h⟩:=bind_some h
 refine zaa (args:=[(i6 a0),(zJ a1),(.bool true),(.bool true),(.sl 128 true (([a2,a3]).map zA))]) (u:=[]) (r:=(i6 r4)) rfl rfl (Den.args (nR a0 a1 true true ([a2,a3]) r4 hr5) rfl rfl (.cons (.refl _) (.cons (.refl _) (.cons (.refl _) (.cons (.refl _) (.cons (.loose _) .nil)))))) rfl (vr (i6 r4) (nk ⟨[(0,i6 a0),(5,ow 5),(6,ow 6),(7,ow 7),(8,ow 8),(10,i6 r4)],[(5,bk (zJ a1)),(6,bk (zA a2)),(7,bk (zA a3)),(8,bk xA)]⟩ (sr (vr (i6 r4) (vr (.bool (r4 != 0)) (nk ⟨[(0,i6 a0),(5,ow 5),(6,ow 6),(7,ow 7),(8,ow 8),(10,i6 r4),(18,.bool (r4 != 0))],[(5,bk (zJ a1)),(6,bk (zA a2)),(7,bk (zA a3)),(8,bk xA)]⟩ ?_))))))
 cases hb6:(r4 != 0)
 ·have h:=zW hb6 h
  refine zP rfl (yG (nj ⟨[(0,i6 a0),(5,ow 5),(6,ow 6),(7,ow 7),(8,ow 8)],[(5,bk (zJ a1)),(6,bk (zA a2)),(7,bk (zA a3)),(8,bk xA)]⟩ (yC (xH [⟨[],[],[],[]⟩,⟨[5],[],[],[]⟩,⟨[],[],[],[0,1]⟩,⟨[6],[],[],[]⟩,⟨[],[],[],[0,1,2,3]⟩,⟨[7],[],[],[]⟩,⟨[],[],[],[0,1,2,3,4,5]⟩,⟨[],[],[],[0,1,2,3,4,5,6]⟩,⟨[],[],[],[0,1,2,3,4,5,6,7]⟩,⟨[8],[8],[],[0,1,2,3,4,5,6,7,8]⟩,⟨[],[],[],[0,1,2,3,4,5,6,7,8,9]⟩] (by kernel_rfl) (dj (i6 a0) rfl (zH (vl (zJ a1) rfl rfl rfl rfl rfl rfl (dn (zH ?_)))))))))
  obtain ⟨r22,hr23,h⟩:=bind_some h
  refine ca (kY a0 a1 r22 hr23) (dn (zH (vl (zA a2) rfl rfl rfl rfl rfl rfl (dn (zH ?_)))))
  obtain ⟨r25,hr26,h⟩:=bind_some h
  refine ca (jS a2 r25 hr26) (dn (zH (vl (zA a3) rfl rfl rfl rfl rfl rfl (dn (zH ?_)))))
  obtain ⟨r28,hr29,h⟩:=bind_some h
  refine ca (jS a3 r28 hr29) (dn (zH ?_))
  obtain ⟨r30,hr31,h⟩:=bind_some h
  refine ca (nZ r22 r25 r28 r30 hr31) (dn (zH ?_))
  obtain ⟨r32,hr33,h⟩:=bind_some h
  refine ca (mQ r30 r32 hr33) (dn (zH (vs (zA r32) rfl rfl (fun _=>rfl) rfl rfl rfl rfl rfl rfl (dn (dj (i6 0) rfl (xE (wC rfl (zU ?_))))))))
  have hl35:LdOk [] (zA r32) [] 128 true (zA r32):=(.nil rfl rfl rfl)
  refine ⟨.inr rfl,?_⟩
  rw [Tryz.results6]
  cases h
  exact ⟨_,_,_,_,_,zM (i:=⟨.struct [(0,25),(64,25)],128,128,xA⟩) rfl rfl rfl hl35,hl35.c,.inl ⟨rfl,.inl rfl⟩,rfl,⟨_,_,_,_,_,rfl,trivial,.inl ⟨rfl,.inl rfl⟩,rfl,rfl⟩⟩
 ·have h:=zV hb6 h
  refine zO rfl (sr (vq xA rfl ⟨rfl,all_nil⟩ (vr (i6 r4) (vs xA rfl rfl (fun _=>rfl) rfl rfl rfl rfl rfl rfl (vr (i6 r4) (nx _ rfl (zU (xV ?_))))))))
  have hl37:LdOk [] xA [] 128 true xA:=(.nil rfl rfl rfl)
  refine ⟨.inr rfl,?_⟩
  rw [Tryz.results6]
  cases h
  exact ⟨_,_,_,_,_,zM (i:=⟨.struct [(0,25),(64,25)],128,128,xA⟩) rfl rfl rfl hl37,hl37.c,.inl ⟨rfl,.inl rfl⟩,rfl,⟨_,_,_,_,_,rfl,trivial,.inl ⟨rfl,.inl rfl⟩,rfl,rfl⟩⟩
def zqc:Live:=[(0,[0,1,2,3]),(1,[0,2,3,5]),(2,[]),(3,[0,2,3,5]),(4,[0,2,3,5,9]),(5,[0,2,3,5,9]),(6,[0,2,3,5,9]),(7,[]),(8,[2,3,5]),(9,[2,3,5,10]),(10,[2,3,5,10]),(11,[2,3,5,10]),(12,[]),(13,[]),(100014,[0,2,3,5,14]),(100018,[0,2,3,5,9,18]),(100028,[0,2,3,5,9,28]),(100035,[2,3,5,10,35]),(100046,[2,3,5,10,46])]
noncomputable def mI (a3:(List ((Vec Int 64)×(Vec Int 64)))) (a0:Int) (a1:(Vec Int 64)) (x61:Int):Option (Int⊕(Unit⊕Int)) :=
 (if (decide (x61 < (a3.length:Int))) then (jA (0≤x61∧x61 < ((a3.length:Nat):Int)) ((Option.bind (wZ a0 a1 (rd a3 x61.toNat)) fun r86=>(if (!r86) then (some (.inr (.inr 1))) else (some (.inl (IntKind.i64.wrap (x61 + 1)))))))) else (some (.inr (((.inl ()))))))
noncomputable def kJ (a3:(List ((Vec Int 64)×(Vec Int 64)))) (a2:Bool) (a1:(Vec Int 64)) (x186:Int):Option (Int⊕(Unit⊕Int)) :=
 (Option.bind (α:=Bool) ((if (decide (x186 < (a3.length:Int))) then (some a2) else (some false))) fun x213=>(if x213 then (jA (0≤x186∧x186 < ((a3.length:Nat):Int)) ((Option.bind (yW ((rd a3 x186.toNat).1)) fun r228=>(Option.bind (kS a1) fun r231=>(if (decide (r228 > r231)) then (some (.inr (.inr 5))) else (some (.inl (IntKind.i64.wrap (x186 + 1))))))))) else (some (.inr (((.inl ())))))))
noncomputable def kH (a0:Int) (a1:(Vec Int 64)) (a2:Bool) (a3:(List ((Vec Int 64)×(Vec Int 64)))):Option Int :=
 (Option.bind (za7 a0 a1) fun r2=>(if (!r2) then (some 1) else (Option.bind (α:=(Unit⊕Int)) ((yK (fun s:Int=>mI a3 a0 a1 s) 0)) fun z=>match z with | .inl _=>(Option.bind (α:=(Unit⊕Int)) ((yK (fun s:Int=>kJ a3 a2 a1 s) 0)) fun z=>match z with | .inl _=>(some 0) | .inr r235=>(some r235)) | .inr r236=>(some r236))))
theorem zbp (a0:Int) (a1:(Vec Int 64)) (a2:Bool) (a3:(List ((Vec Int 64)×(Vec Int 64)))) (r:Int) (h:kH a0 a1 a2 a3=some r):Den Tryz.prog 36 [(i6 a0),(zJ a1),(.bool a2),(zL a3)] { r:=(i6 r) }:=by
 refine dd (rs:=[(i6 r)]) (L:=zqc) xL [] Tryz.func36 Tryz.ntmps36 ?_
 refine ns ⟨[(0,i6 a0),(1,zJ a1),(2,.bool a2),(3,zL a3)],[]⟩ ?_
 refine sr (vo 1500 (zJ a1) rfl rfl (vr (i6 0) (nk ⟨[(0,i6 a0),(2,.bool a2),(3,zL a3),(5,ow 5)],[(5,bk (zJ a1))]⟩ (yC (sr (vr (i6 a0) (vl (zJ a1) rfl rfl rfl rfl rfl rfl ?_)))))))
 obtain ⟨r2,hr3,h⟩:=bind_some h
 refine ca (zbs a0 a1 r2 hr3) (vr (.bool (!r2)) (nk ⟨[(0,i6 a0),(2,.bool a2),(3,zL a3),(5,ow 5),(14,.bool (!r2))],[(5,bk (zJ a1))]⟩ ?_))
 cases hb4:(!r2)
 ·have h:=zW hb4 h
  refine zP rfl (yG (nj ⟨[(0,i6 a0),(2,.bool a2),(3,zL a3),(5,ow 5)],[(5,bk (zJ a1))]⟩ ?_))
  obtain ⟨y46,hy47,hk48⟩:=bind_some h
  clear h
  refine yN (emb:=fun (s:Unit)=>⟨[(2,.bool a2),(3,zL a3),(5,ow 5)],[(5,bk (zJ a1))]⟩) (kG:=fun s=>(.inl s)=y46) ?_ ?_
  ·rintro _ rfl
   have h:=hk48
   refine ns ⟨[(2,.bool a2),(3,zL a3),(5,ow 5)],[(5,bk (zJ a1))]⟩ ?_
   obtain ⟨y161,hy162,hk163⟩:=bind_some h
   clear h
   refine yN (emb:=fun (s:Unit)=>⟨[],[]⟩) (kG:=fun s=>(.inl s)=y161) ?_ ?_
   ·rintro _ rfl
    have h:=hk163
    refine ns ⟨[],[]⟩ (sr (vr (i6 0) (nx _ rfl (zU ?_))))
    refine ⟨.inr rfl,?_⟩
    rw [Tryz.results36]
    cases h
    exact ⟨_,_,_,_,_,rfl,trivial,.inl ⟨rfl,.inl rfl⟩,rfl,rfl⟩
   ·have h:=hy162
    refine sr (vr (i6 0) (nk ⟨[(2,.bool a2),(3,zL a3),(5,ow 5),(10,i6 0)],[(5,bk (zJ a1))]⟩ (yB ?_)))
    refine xU (emb:=fun (s:Int)=>⟨[(2,.bool a2),(3,zL a3),(5,ow 5),(10,i6 s)],[(5,bk (zJ a1))]⟩) (body:=(fun s:Int=>kJ a3 a2 a1 s)) (G:=fun q=>some q=some y161) h rfl ?_ (by kernel_rfl)
    rintro X209 x186 x210 h hX211
    have h:kJ a3 a2 a1 x186=some x210:=h
    refine ns ⟨[(2,.bool a2),(3,zL a3),(5,ow 5),(10,i6 x186)],[(5,bk (zJ a1))]⟩ (yC ?_)
    obtain ⟨y214,hy215,hk216⟩:=bind_some h
    clear h
    refine yN (emb:=fun (s:Bool)=>⟨[(2,.bool a2),(3,zL a3),(5,ow 5),(10,i6 x186),(35,.bool s)],[(5,bk (zJ a1))]⟩) (kG:=fun s=>s=y214) ?_ ?_
    ·rintro x213 rfl
     have h:=hk216
     refine ns ⟨[(2,.bool a2),(3,zL a3),(5,ow 5),(10,i6 x186),(35,.bool x213)],[(5,bk (zJ a1))]⟩ ?_
     cases hb218:x213
     ·have h:=zW hb218 h
      refine zP rfl (xR (yI ?_))
      cases h
      have h:=hX211
      refine yI (xQ ?_)
      exact jl () h
     ·have h:=zV hb218 h
      refine zO rfl (yG (nj ⟨[(2,.bool a2),(3,zL a3),(5,ow 5),(10,i6 x186)],[(5,bk (zJ a1))]⟩ (yC (yB (yC (xH [⟨[],[],[],[]⟩,⟨[],[],[],[]⟩,⟨[],[],[],[0,1]⟩,⟨[],[],[],[0,1,2]⟩,⟨[],[],[],[0,1,2,3]⟩,⟨[],[],[],[0,1,2,3,4]⟩,⟨[5],[],[],[]⟩,⟨[],[],[],[0,1,2,3,4,5,6]⟩,⟨[],[],[],[0,1,2,3,4,5,6,7]⟩] (by kernel_rfl) (dj (zL a3) rfl (dj (i6 x186) rfl (zH ?_)))))))))
      obtain ⟨hc226,h⟩:=zT h
      refine vq (.ref (.row 128 (a3.map zA)) [x186.toNat] [x186.toNat*128]) rfl (zdp hc226) (dn (zH (vb (.ref (.row 128 (a3.map zA)) [x186.toNat,0] [x186.toNat*128,0]) rfl rfl (dn (zH ?_)))))
      have hl227:LdOk [x186.toNat,0] (.row 128 (a3.map zA)) [x186.toNat*128,0] 64 true (zJ ((rd a3 x186.toNat).1)):=(.row (llt hc226) rfl (.fld rfl rfl rfl rfl (.nil rfl rfl rfl)))
      refine vq (zJ ((rd a3 x186.toNat).1)) (kC (i:=⟨.arr 64 5,64,64,(zJ (yH 64 (0:Int)))⟩) rfl rfl hl227) hl227.c (dn (zH ?_))
      obtain ⟨r228,hr229,h⟩:=bind_some h
      refine ca (yZ ((rd a3 x186.toNat).1) r228 hr229) (dn (zH (vl (zJ a1) rfl rfl rfl rfl rfl rfl (dn (zH ?_)))))
      obtain ⟨r231,hr232,h⟩:=bind_some h
      refine ca (zes a1 r231 hr232) (dn (dj (.bool ((decide (r228 > r231)))) rfl (xE (nj ⟨[(2,.bool a2),(3,zL a3),(5,ow 5),(10,i6 x186),(46,.bool ((decide (r228 > r231))))],[(5,bk (zJ a1))]⟩ ?_))))
      cases hb233:(decide (r228 > r231))
      ·have h:=zW hb233 h
       refine zP rfl (yG (xI (nj ⟨[(2,.bool a2),(3,zL a3),(5,ow 5),(10,i6 x186)],[(5,bk (zJ a1))]⟩ (zR (vr (i6 x186) (vr (i6 (IntKind.i64.wrap (x186 + 1))) (vr (i6 (IntKind.i64.wrap (x186 + 1))) (yJ ?_))))))))
       cases h
       exact ag hX211
      ·have h:=zV hb233 h
       refine zO rfl (sr (vr (i6 5) (nx _ rfl (zU (zaz (xV ?_))))))
       cases h
       have h:=hX211
       refine xV (zaz (xV ?_))
       cases h
       have h:=hk163
       refine ⟨.inr rfl,?_⟩
       rw [Tryz.results36]
       cases h
       exact ⟨_,_,_,_,_,rfl,trivial,.inl ⟨rfl,.inl rfl⟩,rfl,rfl⟩
    ·have h:=hy215
     refine zR (vr (i6 x186) (vr (zL a3) (vq (i6 (a3.length:Int)) (xX rfl rfl) trivial (vr (.bool ((decide (x186 < (a3.length:Int))))) (vr (.bool ((decide (x186 < (a3.length:Int))))) ?_)))))
     cases hb217:(decide (x186 < (a3.length:Int)))
     ·have h:=zW hb217 h
      refine zD rfl (vr (.bool false) (yJ ?_))
      exact jl false h
     ·have h:=zV hb217 h
      refine gp (.bool a2) rfl rfl (vr (.bool a2) (yJ ?_))
      exact jl a2 h
  ·have h:=hy47
   refine sr (vr (i6 0) (nk ⟨[(0,i6 a0),(2,.bool a2),(3,zL a3),(5,ow 5),(9,i6 0)],[(5,bk (zJ a1))]⟩ (yB ?_)))
   refine xU (emb:=fun (s:Int)=>⟨[(0,i6 a0),(2,.bool a2),(3,zL a3),(5,ow 5),(9,i6 s)],[(5,bk (zJ a1))]⟩) (body:=(fun s:Int=>mI a3 a0 a1 s)) (G:=fun q=>some q=some y46) h rfl ?_ (by kernel_rfl)
   rintro X74 x61 x75 h hX76
   have h:mI a3 a0 a1 x61=some x75:=h
   refine ns ⟨[(0,i6 a0),(2,.bool a2),(3,zL a3),(5,ow 5),(9,i6 x61)],[(5,bk (zJ a1))]⟩ (yC (sr (vr (i6 x61) (vr (zL a3) (vq (i6 (a3.length:Int)) (xX rfl rfl) trivial (vr (.bool ((decide (x61 < (a3.length:Int))))) (nk ⟨[(0,i6 a0),(2,.bool a2),(3,zL a3),(5,ow 5),(9,i6 x61),(18,.bool ((decide (x61 < (a3.length:Int)))))],[(5,bk (zJ a1))]⟩ ?_)))))))
   cases hb77:(decide (x61 < (a3.length:Int)))
   ·have h:=zW hb77 h
    refine zP rfl (xR (yI ?_))
    cases h
    have h:=hX76
    refine yI (xQ ?_)
    exact jl () h
   ·have h:=zV hb77 h
    refine zO rfl (yG (nj ⟨[(0,i6 a0),(2,.bool a2),(3,zL a3),(5,ow 5),(9,i6 x61)],[(5,bk (zJ a1))]⟩ (yC (yB (yC (xH [⟨[],[],[],[]⟩,⟨[5],[],[],[]⟩,⟨[],[],[],[]⟩,⟨[],[],[],[]⟩,⟨[],[],[],[2,3]⟩,⟨[],[],[],[2,3,4]⟩,⟨[],[],[],[0,1,2,3,4,5]⟩,⟨[],[],[],[0,1,2,3,4,5,6]⟩] (by kernel_rfl) (dj (i6 a0) rfl (zH (vl (zJ a1) rfl rfl rfl rfl rfl rfl ?_)))))))))
    refine dn (dj (zL a3) rfl (dj (i6 x61) rfl (zH ?_)))
    obtain ⟨hc84,h⟩:=zT h
    refine vq (.ref (.row 128 (a3.map zA)) [x61.toNat] [x61.toNat*128]) rfl (zdp hc84) (dn (zH ?_))
    have hl85:LdOk [x61.toNat] (.row 128 (a3.map zA)) [x61.toNat*128] 128 true (zA (rd a3 x61.toNat)):=(.row (llt hc84) rfl (.nil rfl rfl rfl))
    refine vq (zA (rd a3 x61.toNat)) (kC (i:=⟨.struct [(0,25),(64,25)],128,128,xA⟩) rfl rfl hl85) hl85.c (dn (zH ?_))
    obtain ⟨r86,hr87,h⟩:=bind_some h
    refine ca (zdi a0 a1 (rd a3 x61.toNat) r86 hr87) (dn (dj (.bool (!r86)) rfl (xE (nj ⟨[(0,i6 a0),(2,.bool a2),(3,zL a3),(5,ow 5),(9,i6 x61),(28,.bool (!r86))],[(5,bk (zJ a1))]⟩ ?_))))
    cases hb88:(!r86)
    ·have h:=zW hb88 h
     refine zP rfl (yG (xI (nj ⟨[(0,i6 a0),(2,.bool a2),(3,zL a3),(5,ow 5),(9,i6 x61)],[(5,bk (zJ a1))]⟩ (zR (vr (i6 x61) (vr (i6 (IntKind.i64.wrap (x61 + 1))) (vr (i6 (IntKind.i64.wrap (x61 + 1))) (yJ ?_))))))))
     cases h
     exact ag hX76
    ·have h:=zV hb88 h
     refine zO rfl (sr (vr (i6 1) (nx _ rfl (zU (zaz (xV ?_))))))
     cases h
     have h:=hX76
     refine xV (zaz (xV ?_))
     cases h
     have h:=hk48
     refine ⟨.inr rfl,?_⟩
     rw [Tryz.results36]
     cases h
     exact ⟨_,_,_,_,_,rfl,trivial,.inl ⟨rfl,.inl rfl⟩,rfl,rfl⟩
 ·have h:=zV hb4 h
  refine zO rfl (sr (vr (i6 1) (nx _ rfl (zU (xV ?_)))))
  refine ⟨.inr rfl,?_⟩
  rw [Tryz.results36]
  cases h
  exact ⟨_,_,_,_,_,rfl,trivial,.inl ⟨rfl,.inl rfl⟩,rfl,rfl⟩
def zox:Live:=[(0,[0,1]),(1,[0,3,4])]
noncomputable def ze9 (a0:Int) (a1:(Vec Int 64)):Option (Vec Int 64) :=
 (Option.bind (yW a1) fun r14=>(jA (0≤r14∧r14 < ((64:Nat):Int)) ((Option.bind (nI a0 (rd a1.1 r14.toNat)) fun r18=>(Option.bind (xS a0 ((yH 64 (0:Int))) a1 (IntKind.i64.wrap r18)) fun r20=>(some r20))))))
theorem znv (a0:Int) (a1:(Vec Int 64)) (r:(Vec Int 64)) (h:ze9 a0 a1=some r):Den Tryz.prog 89 [(i6 a0),(zJ a1)] { r:=(zJ r) }:=by
 refine dd (rs:=[(zJ r)]) (L:=zox) xL [] Tryz.func89 Tryz.ntmps89 ?_
 refine ns ⟨[(0,i6 a0),(1,zJ a1)],[]⟩ ?_
 refine sr (vo 1300 (zJ a1) rfl rfl (vo 1400 (yF) rfl rfl (nk ⟨[(0,i6 a0),(3,ow 3),(4,ow 4)],[(3,bk (zJ a1)),(4,bk (yF))]⟩ (yC (xH [⟨[],[],[],[]⟩,⟨[],[],[],[]⟩,⟨[3],[],[],[]⟩,⟨[],[],[],[]⟩,⟨[3],[],[],[]⟩,⟨[],[],[],[4]⟩,⟨[3],[],[3],[4,5]⟩,⟨[3],[],[],[4,5,6]⟩,⟨[],[],[],[3,4,5,6,7]⟩,⟨[],[],[],[3,4,5,6,7,8]⟩,⟨[],[],[],[0,1,2,3,4,5,6,7,8,9]⟩,⟨[4],[4],[],[0,1,2,3,4,5,6,7,8,9,10]⟩] (by kernel_rfl) (dj (i6 a0) rfl (zH (vq (yF) rfl ⟨⟨_,rfl,rfl⟩,all_nil⟩ (dn ?_)))))))))
 refine zH (vl (zJ a1) rfl rfl rfl rfl rfl rfl (dn (dj (i6 a0) rfl (zH (vl (zJ a1) rfl rfl rfl rfl rfl rfl (dn (zH ?_)))))))
 obtain ⟨r14,hr15,h⟩:=bind_some h
 refine ca (yZ a1 r14 hr15) (dn (zH ?_))
 obtain ⟨hc16,h⟩:=zT h
 refine vq (.own 3 [r14.toNat] [r14.toNat*1]) rfl hc16 (dn (zH ?_))
 have hl17:LdOk [r14.toNat] (zJ a1) [r14.toNat*1] 1 false (b8 (rd a1.1 r14.toNat)):=(.arr (vlt a1 hc16) rfl (.nil rfl rfl rfl))
 refine vq (b8 (rd a1.1 r14.toNat)) (zM (i:=⟨.int .u8,1,1,(.int .u8 0)⟩) rfl rfl rfl hl17) hl17.c (dn (zH ?_))
 obtain ⟨r18,hr19,h⟩:=bind_some h
 refine ca (za9 a0 (rd a1.1 r14.toNat) r18 hr19) (dn (dj (i6 (IntKind.i64.wrap r18)) rfl (zH ?_)))
 obtain ⟨r20,hr21,h⟩:=bind_some h
 refine ca (wO a0 ((yH 64 (0:Int))) a1 (IntKind.i64.wrap r18) r20 hr21) (dn (zH (vs (zJ r20) rfl rfl (fun _=>rfl) rfl rfl rfl rfl rfl rfl (dn (xE (wC rfl (zU ?_)))))))
 have hl23:LdOk [] (zJ r20) [] 64 true (zJ r20):=(.nil rfl rfl rfl)
 refine ⟨.inr rfl,?_⟩
 rw [Tryz.results89]
 cases h
 exact ⟨_,_,_,_,_,zM (i:=⟨.arr 64 5,64,64,(zJ (yH 64 (0:Int)))⟩) rfl rfl rfl hl23,hl23.c,.inl ⟨rfl,.inl rfl⟩,rfl,rfl⟩
def zl6:Live:=[(0,[0,1,2]),(1,[0,4,5,6])]
noncomputable def jF (a0:Int) (a1:(Vec Int 64)) (a2:(Vec Int 64)):Option (Vec Int 64) :=
 (Option.bind (xS a0 ((yH 64 (0:Int))) a1 (-1)) fun r9=>(Option.bind (vV a0 r9 a2) fun r12=>(some r12)))
theorem zc5 (a0:Int) (a1:(Vec Int 64)) (a2:(Vec Int 64)) (r:(Vec Int 64)) (h:jF a0 a1 a2=some r):Den Tryz.prog 51 [(i6 a0),(zJ a1),(zJ a2)] { r:=(zJ r) }:=by
 refine dd (rs:=[(zJ r)]) (L:=zl6) xL [] Tryz.func51 Tryz.ntmps51 ?_
 refine ns ⟨[(0,i6 a0),(1,zJ a1),(2,zJ a2)],[]⟩ ?_
 refine sr (vo 1400 (zJ a1) rfl rfl (vo 1500 (zJ a2) rfl rfl (vo 1600 (yF) rfl rfl (nk ⟨[(0,i6 a0),(4,ow 4),(5,ow 5),(6,ow 6)],[(4,bk (zJ a1)),(5,bk (zJ a2)),(6,bk (yF))]⟩ (yC (xH [⟨[],[],[],[]⟩,⟨[],[],[],[]⟩,⟨[],[],[],[]⟩,⟨[4],[],[],[]⟩,⟨[],[],[],[1,2,3]⟩,⟨[5],[],[],[]⟩,⟨[],[],[],[0,1,2,3,4,5]⟩,⟨[6],[6],[],[0,1,2,3,4,5,6]⟩] (by kernel_rfl) (dj (i6 a0) rfl (dj (i6 a0) rfl (zH ?_)))))))))
 refine vq (yF) rfl ⟨⟨_,rfl,rfl⟩,all_nil⟩ (dn (zH (vl (zJ a1) rfl rfl rfl rfl rfl rfl (dn (zH ?_)))))
 obtain ⟨r9,hr10,h⟩:=bind_some h
 refine ca (wO a0 ((yH 64 (0:Int))) a1 (-1) r9 hr10) (dn (zH (vl (zJ a2) rfl rfl rfl rfl rfl rfl (dn (zH ?_)))))
 obtain ⟨r12,hr13,h⟩:=bind_some h
 refine ca (jR a0 r9 a2 r12 hr13) (dn (zH (vs (zJ r12) rfl rfl (fun _=>rfl) rfl rfl rfl rfl rfl rfl (dn (xE (wC rfl (zU ?_)))))))
 have hl15:LdOk [] (zJ r12) [] 64 true (zJ r12):=(.nil rfl rfl rfl)
 refine ⟨.inr rfl,?_⟩
 rw [Tryz.results51]
 cases h
 exact ⟨_,_,_,_,_,zM (i:=⟨.arr 64 5,64,64,(zJ (yH 64 (0:Int)))⟩) rfl rfl rfl hl15,hl15.c,.inl ⟨rfl,.inl rfl⟩,rfl,rfl⟩
def znr:Live:=[(0,[0,1,2]),(1,[0,4,5,6]),(2,[0,4,5,6]),(3,[0,4,5,6,7]),(4,[0,4,5,6]),(5,[5,6]),(100014,[0,4,5,6,14])]
noncomputable def jX (a1:(Vec Int 64)) (a0:Int) (x170:((Vec Int 64)×(Vec Int 64))):Option (((Vec Int 64)×(Vec Int 64))⊕((Vec Int 64)×(Vec Int 64))) :=
 (Option.bind (yW x170.1) fun r221=>(Option.bind (kS a1) fun r224=>(if (decide (r221 > r224)) then (Option.bind (nX a0 a1 x170.2) fun r238=>(Option.bind (kF a0 r238 x170.1) fun r241=>(Option.bind (ze9 a0 r241.1) fun r246=>(Option.bind (jF a0 x170.2 r246) fun r251=>(some (.inl (r246,r251))))))) else (some (.inr x170)))))
noncomputable def nS (a0:Int) (a1:(Vec Int 64)) (a2:((Vec Int 64)×(Vec Int 64))):Option ((Vec Int 64)×(Vec Int 64)) :=
 (Option.bind (α:=((Vec Int 64)×(Vec Int 64))) ((yK (fun s:((Vec Int 64)×(Vec Int 64))=>jX a1 a0 s) a2)) fun x126=>(some x126))
theorem zg7 (a0:Int) (a1:(Vec Int 64)) (a2:((Vec Int 64)×(Vec Int 64))) (r:((Vec Int 64)×(Vec Int 64))) (h:nS a0 a1 a2=some r):Den Tryz.prog 46 [(i6 a0),(zJ a1),(zA a2)] { r:=(zA r) }:=by
 refine dd (rs:=[(zA r)]) (L:=znr) xL [] Tryz.func46 Tryz.ntmps46 ?_
 refine ns ⟨[(0,i6 a0),(1,zJ a1),(2,zA a2)],[]⟩ ?_
 refine sr (vo 1400 (zJ a1) rfl rfl (vo 1500 (zA a2) rfl rfl (vo 1600 xA rfl rfl (nk ⟨[(0,i6 a0),(4,ow 4),(5,ow 5),(6,ow 6)],[(4,bk (zJ a1)),(5,bk (zA a2)),(6,bk xA)]⟩ ?_))))
 obtain ⟨y127,hy128,hk129⟩:=bind_some h
 clear h
 refine yN (emb:=fun (s:((Vec Int 64)×(Vec Int 64)))=>⟨[(5,ow 5),(6,ow 6)],[(5,bk (zA s)),(6,bk xA)]⟩) (kG:=fun s=>s=y127) ?_ ?_
 ·rintro x126 rfl
  have h:=hk129
  refine ns ⟨[(5,ow 5),(6,ow 6)],[(5,bk (zA x126)),(6,bk xA)]⟩ (sr (vl (zA x126) rfl rfl rfl rfl rfl rfl (vs (zA x126) rfl rfl (fun _=>rfl) rfl rfl rfl rfl rfl rfl (nx _ rfl (zU ?_)))))
  have hl257:LdOk [] (zA x126) [] 128 true (zA x126):=(.nil rfl rfl rfl)
  refine ⟨.inr rfl,?_⟩
  rw [Tryz.results46]
  cases h
  exact ⟨_,_,_,_,_,zM (i:=⟨.struct [(0,25),(64,25)],128,128,xA⟩) rfl rfl rfl hl257,hl257.c,.inl ⟨rfl,.inl rfl⟩,rfl,rfl⟩
 ·have h:=hy128
  refine yB ?_
  refine xU (emb:=fun (s:((Vec Int 64)×(Vec Int 64)))=>⟨[(0,i6 a0),(4,ow 4),(5,ow 5),(6,ow 6)],[(4,bk (zJ a1)),(5,bk (zA s)),(6,bk xA)]⟩) (body:=(fun s:((Vec Int 64)×(Vec Int 64))=>jX a1 a0 s)) (G:=fun q=>some q=some y127) h rfl ?_ (by kernel_rfl)
  rintro X211 x170 x212 h hX213
  have h:jX a1 a0 x170=some x212:=h
  refine ns ⟨[(0,i6 a0),(4,ow 4),(5,ow 5),(6,ow 6)],[(4,bk (zJ a1)),(5,bk (zA x170)),(6,bk xA)]⟩ (yC (yC (xH [⟨[5],[],[5],[]⟩,⟨[5],[],[],[0]⟩,⟨[],[],[],[0,1]⟩,⟨[4],[],[],[]⟩,⟨[],[],[],[0,1,2,3]⟩,⟨[],[],[],[0,1,2,3,4]⟩] (by kernel_rfl) (zH (vb (.own 5 [0] [0]) rfl rfl (dn (zH ?_)))))))
  have hl220:LdOk [0] (zA x170) [0] 64 true (zJ x170.1):=(.fld rfl rfl rfl rfl (.nil rfl rfl rfl))
  refine vq (zJ x170.1) (zM (i:=⟨.arr 64 5,64,64,(zJ (yH 64 (0:Int)))⟩) rfl rfl rfl hl220) hl220.c (dn (zH ?_))
  obtain ⟨r221,hr222,h⟩:=bind_some h
  refine ca (yZ x170.1 r221 hr222) (dn (zH (vl (zJ a1) rfl rfl rfl rfl rfl rfl (dn (zH ?_)))))
  obtain ⟨r224,hr225,h⟩:=bind_some h
  refine ca (zes a1 r224 hr225) (dn (dj (.bool ((decide (r221 > r224)))) rfl (xE (nj ⟨[(0,i6 a0),(4,ow 4),(5,ow 5),(6,ow 6),(14,.bool ((decide (r221 > r224))))],[(4,bk (zJ a1)),(5,bk (zA x170)),(6,bk xA)]⟩ ?_))))
  cases hb226:(decide (r221 > r224))
  ·have h:=zW hb226 h
   refine zP rfl (xR (yI ?_))
   cases h
   have h:=hX213
   refine yI (xQ ?_)
   exact jl x170 h
  ·have h:=zV hb226 h
   refine zO rfl (yG (nj ⟨[(0,i6 a0),(4,ow 4),(5,ow 5),(6,ow 6)],[(4,bk (zJ a1)),(5,bk (zA x170)),(6,bk xA)]⟩ (yB (yC (xH [⟨[],[],[],[]⟩,⟨[],[],[],[]⟩,⟨[4],[],[],[]⟩,⟨[5],[],[5],[]⟩,⟨[5],[],[],[3]⟩,⟨[],[],[],[1,2,3,4]⟩,⟨[5],[],[5],[]⟩,⟨[5],[],[],[6]⟩,⟨[],[],[],[0,1,2,3,4,5,6,7]⟩,⟨[],[],[],[0,1,2,3,4,5,6,7,8]⟩,⟨[],[],[],[0,1,2,3,4,5,6,7,8,9]⟩,⟨[],[],[],[0,1,2,3,4,5,6,7,8,9]⟩,⟨[1700],[1700],[1700],[]⟩,⟨[1800],[1800],[1800],[]⟩,⟨[1700],[1700],[],[0,1,2,3,4,5,6,7,8,9,10,12,13]⟩,⟨[1800],[1800],[],[0,1,2,3,4,5,6,7,8,9,10,11,12,13,14]⟩] (by kernel_rfl) (dj (i6 a0) rfl (dj (i6 a0) rfl (zH (vl (zJ a1) rfl rfl rfl rfl rfl rfl ?_)))))))))
   refine dn (zH (vb (.own 5 [1] [64]) rfl rfl (dn (zH ?_))))
   have hl237:LdOk [1] (zA x170) [64] 64 true (zJ x170.2):=(.fld rfl rfl rfl rfl (.nil rfl rfl rfl))
   refine vq (zJ x170.2) (zM (i:=⟨.arr 64 5,64,64,(zJ (yH 64 (0:Int)))⟩) rfl rfl rfl hl237) hl237.c (dn (zH ?_))
   obtain ⟨r238,hr239,h⟩:=bind_some h
   refine ca (zg2 a0 a1 x170.2 r238 hr239) (dn (zH (vb (.own 5 [0] [0]) rfl rfl (dn (zH ?_)))))
   have hl240:LdOk [0] (zA x170) [0] 64 true (zJ x170.1):=(.fld rfl rfl rfl rfl (.nil rfl rfl rfl))
   refine vq (zJ x170.1) (zM (i:=⟨.arr 64 5,64,64,(zJ (yH 64 (0:Int)))⟩) rfl rfl rfl hl240) hl240.c (dn (zH ?_))
   obtain ⟨r241,hr242,h⟩:=bind_some h
   refine ca (mT a0 r238 x170.1 r241 hr242) (dn (dj (.tuple [(zJ r241.1),(zJ r241.2)]) rfl (zH (vb (zJ r241.1) rfl rfl (dn (zH (vb (zJ r241.2) rfl rfl (dn (zH ?_)))))))))
   refine vo 1700 (yF) rfl rfl (dn (zH (vo 1800 (yF) rfl rfl (dn (zH (vs (zJ r241.1) rfl rfl (fun _=>rfl) rfl rfl rfl rfl rfl rfl (dn (zH (vs (zJ r241.2) rfl rfl (fun _=>rfl) rfl rfl rfl rfl rfl rfl ?_)))))))))
   refine dn (xE (nj ⟨[(0,i6 a0),(4,ow 4),(5,ow 5),(6,ow 6),(7,ow 7)],[(4,bk (zJ a1)),(5,bk (zA x170)),(6,bk xA),(7,bk (zJ r241.1))]⟩ (sr (vr (i6 a0) (vl (zJ r241.1) rfl rfl rfl rfl rfl rfl ?_)))))
   obtain ⟨r246,hr247,h⟩:=bind_some h
   refine ca (znv a0 r241.1 r246 hr247) (vb (.own 5 [0] [0]) rfl rfl ?_)
   have hs248:StOk [0] (zA x170) [0] 64 (zJ r246) (zA (r246,x170.2)):=(.fld rfl rfl rfl rfl (.nil rfl rfl rfl rfl))
   refine vu .top [(5,bk (zA (r246,x170.2)))] (qG (i:=⟨.arr 64 5,64,64,(zJ (yH 64 (0:Int)))⟩) rfl rfl (fun _=>rfl) rfl hs248) (hs248.c rfl) rfl (nk ⟨[(0,i6 a0),(4,ow 4),(5,ow 5),(6,ow 6)],[(4,bk (zJ a1)),(5,bk (zA (r246,x170.2))),(6,bk xA)]⟩ (zR (vr (i6 a0) (vb (.own 5 [1] [64]) rfl rfl ?_))))
   have hl249:LdOk [1] (zA (r246,x170.2)) [64] 64 true (zJ x170.2):=(.fld rfl rfl rfl rfl (.nil rfl rfl rfl))
   refine vq (zJ x170.2) (zM (i:=⟨.arr 64 5,64,64,(zJ (yH 64 (0:Int)))⟩) rfl rfl rfl hl249) hl249.c (vb (.own 5 [0] [0]) rfl rfl ?_)
   have hl250:LdOk [0] (zA (r246,x170.2)) [0] 64 true (zJ r246):=(.fld rfl rfl rfl rfl (.nil rfl rfl rfl))
   refine vq (zJ r246) (zM (i:=⟨.arr 64 5,64,64,(zJ (yH 64 (0:Int)))⟩) rfl rfl rfl hl250) hl250.c ?_
   obtain ⟨r251,hr252,h⟩:=bind_some h
   refine ca (zc5 a0 x170.2 r246 r251 hr252) (vb (.own 5 [1] [64]) rfl rfl ?_)
   have hs253:StOk [1] (zA (r246,x170.2)) [64] 64 (zJ r251) (zA (r246,r251)):=(.fld rfl rfl rfl rfl (.nil rfl rfl rfl rfl))
   refine vu .top [(5,bk (zA (r246,r251)))] (qG (i:=⟨.arr 64 5,64,64,(zJ (yH 64 (0:Int)))⟩) rfl rfl (fun _=>rfl) rfl hs253) (hs253.c rfl) rfl (yJ (xI ?_))
   cases h
   exact ag hX213
end Go.Proofs.YtebfhlnfmkhmcaaGreat
