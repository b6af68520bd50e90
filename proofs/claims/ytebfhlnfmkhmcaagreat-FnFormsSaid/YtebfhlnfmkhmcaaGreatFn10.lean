/- Functions of the program: plain Lean functions, and that the program computes them. Printed by gen.py. -/
import Derived.Test.YtebfhlnfmkhmcaaGreatFnT
import Derived.Test.YtebfhlnfmkhmcaaGreatFn1
import Derived.Test.YtebfhlnfmkhmcaaGreatFn2
import Derived.Test.YtebfhlnfmkhmcaaGreatFn3
import Derived.Test.YtebfhlnfmkhmcaaGreatFn4
import Derived.Test.YtebfhlnfmkhmcaaGreatFn7
namespace Go.Proofs.YtebfhlnfmkhmcaaGreat
open Go.Abs Go.Proofs
set_option linter.unusedSimpArgs false
set_option linter.unusedVariables false
set_option maxHeartbeats 16000000
attribute [local irreducible] Abs.acode Abs.aops Abs.aopsT Abs.thenK Abs.blockK

def zio:Live:=[(0,[0]),(1,[0,3,4]),(2,[3,4,5]),(3,[3,4,5,6,7])]
noncomputable def zch (a0:(List Int)):Option (Int×(Vec Int 64)×((Vec Int 64)×(Vec Int 64))) :=
 (Option.bind (jO a0) fun r1=>(Option.bind (wS r1) fun r3=>(Option.bind (xW r3.2.2 r3.1 r3.2.1 false) fun r16=>(some (r3.1,r3.2.1,r16.1)))))
theorem zh5 (a0:(List Int)) (r:(Int×(Vec Int 64)×((Vec Int 64)×(Vec Int 64)))) (h:zch a0=some r):Den Tryz.prog 20 [(xJ a0)] { r:=(.tuple [(i6 r.1),(zJ r.2.1),(zA r.2.2)]) }:=by
 refine dd (rs:=[(i6 r.1),(zJ r.2.1),(zA r.2.2)]) (L:=zio) xL [(12,1),(20,1)] Tryz.func20 Tryz.ntmps20 ?_
 refine ns ⟨[(0,xJ a0)],[]⟩ ?_
 refine sr (vr (i6 0) (vo 1300 (yF) rfl rfl (vo 1400 xA rfl rfl (nk ⟨[(0,xJ a0),(3,ow 3),(4,ow 4)],[(3,bk (yF)),(4,bk xA)]⟩ (sr (vr (xJ a0) ?_))))))
 obtain ⟨r1,hr2,h⟩:=bind_some h
 refine zg4 (args:=[(xJ a0)]) (u:=[]) (u2:=[]) (r:=(ow 2000000)) (fs:=[(0,[zB r1])]) rfl rfl (nE a0 r1 hr2) rfl rfl rfl (.inl rfl) rfl (vr (ow 1900) (nk ⟨[(3,ow 3),(4,ow 4),(5,ow 5)],[(3,bk (yF)),(4,bk xA),(5,bk (zB r1))]⟩ (sr (vr (ow 5) ?_))))
 obtain ⟨r3,hr4,h⟩:=bind_some h
 refine xD (args:=[(.mutp (zB r1))]) (i:=0) (id:=5) (r:=(.tuple [(i6 r3.1),(zJ r3.2.1)])) (c:=(zB r3.2.2)) rfl rfl (vY r1 r3 hr4) rfl trivial (vr (.tuple [(i6 r3.1),(zJ r3.2.1)]) (vb (i6 r3.1) rfl rfl (vb (zJ r3.2.1) rfl rfl (vo 1700 (yF) rfl rfl (vr (i6 r3.1) (vs (zJ r3.2.1) rfl rfl (fun _=>rfl) rfl rfl rfl rfl rfl rfl (nk ⟨[(3,ow 3),(4,ow 4),(5,ow 5),(6,i6 r3.1),(7,ow 7)],[(3,bk (yF)),(4,bk xA),(5,bk (zB r3.2.2)),(7,bk (zJ r3.2.1))]⟩ (yC (xH [⟨[],[],[],[]⟩,⟨[7],[],[],[]⟩,⟨[],[],[5],[]⟩,⟨[],[],[],[]⟩,⟨[7],[],[],[]⟩,⟨[5],[5],[],[2,3,4]⟩,⟨[],[],[],[0,2,3,4,5]⟩,⟨[3],[3],[],[0,1,2,3,4,5,6]⟩,⟨[4],[4],[],[0,1,2,3,4,5,6,7]⟩] (by kernel_rfl) ?_)))))))))
 refine dj (i6 r3.1) rfl (zH (vl (zJ r3.2.1) rfl rfl rfl rfl rfl rfl (dn (dj (ow 5) rfl (dj (i6 r3.1) rfl (zH (vl (zJ r3.2.1) rfl rfl rfl rfl rfl rfl (dn (zH ?_)))))))))
 obtain ⟨r16,hr17,h⟩:=bind_some h
 refine xD (args:=[(.mutp (zB r3.2.2)),(i6 r3.1),(zJ r3.2.1),(.bool false)]) (i:=0) (id:=5) (r:=(zA r16.1)) (c:=(zB r16.2)) rfl rfl (wM r3.2.2 r3.1 r3.2.1 false r16 hr17) rfl trivial (dn (dj (i6 r3.1) rfl (zH (vs (zJ r3.2.1) rfl rfl (fun _=>rfl) rfl rfl rfl rfl rfl rfl (dn (zH (vs (zA r16.1) rfl rfl (fun _=>rfl) rfl rfl rfl rfl rfl rfl (dn (xE ?_)))))))))
 refine wC rfl (zU ?_)
 have hl21:LdOk [] (zJ r3.2.1) [] 64 true (zJ r3.2.1):=(.nil rfl rfl rfl)
 have hl22:LdOk [] (zA r16.1) [] 128 true (zA r16.1):=(.nil rfl rfl rfl)
 refine ⟨.inr rfl,?_⟩
 rw [Tryz.results20]
 cases h
 exact ⟨_,_,_,_,_,rfl,trivial,.inl ⟨rfl,.inl rfl⟩,rfl,⟨_,_,_,_,_,zM (i:=⟨.arr 64 5,64,64,(zJ (yH 64 (0:Int)))⟩) rfl rfl rfl hl21,hl21.c,.inl ⟨rfl,.inl rfl⟩,rfl,⟨_,_,_,_,_,zM (i:=⟨.struct [(0,25),(64,25)],128,128,xA⟩) rfl rfl rfl hl22,hl22.c,.inl ⟨rfl,.inl rfl⟩,rfl,rfl⟩⟩⟩
def zll:Live:=[(0,[0,1,2]),(1,[0,4,5,6]),(2,[0,5,6,8]),(3,[6,8]),(4,[0,5,6]),(100015,[0,5,6,8,15])]
noncomputable def zan (a0:Int) (a1:(Vec Int 64)) (a2:((Vec Int 64)×(Vec Int 64))):Option (((Vec Int 64)×(Vec Int 64))×Int) :=
 (Option.bind (kH a0 a1 false ([a2])) fun r3=>(if (r3 != 0) then (some ((((yH 64 (0:Int)),(yH 64 (0:Int))),r3))) else (Option.bind (jF a0 a2.2 a2.1) fun r15=>(some (((a2.1,r15),0))))))
theorem zlb (a0:Int) (a1:(Vec Int 64)) (a2:((Vec Int 64)×(Vec Int 64))) (r:(((Vec Int 64)×(Vec Int 64))×Int)) (h:zan a0 a1 a2=some r):Den Tryz.prog 21 [(i6 a0),(zJ a1),(zA a2)] { r:=(.tuple [(zA r.1),(i6 r.2)]) }:=by
 refine dd (rs:=[(zA r.1),(i6 r.2)]) (L:=zll) xL [] Tryz.func21 Tryz.ntmps21 ?_
 refine ns ⟨[(0,i6 a0),(1,zJ a1),(2,zA a2)],[]⟩ ?_
 refine sr (vo 1400 (zJ a1) rfl rfl (vo 1500 (zA a2) rfl rfl (vo 1600 xA rfl rfl (vr (i6 0) (nk ⟨[(0,i6 a0),(4,ow 4),(5,ow 5),(6,ow 6)],[(4,bk (zJ a1)),(5,bk (zA a2)),(6,bk xA)]⟩ (yC (sr (vr (i6 a0) (vl (zJ a1) rfl rfl rfl rfl rfl rfl ?_)))))))))
 refine vl (zA a2) rfl rfl rfl rfl rfl rfl (vq (.sl 128 true (([a2]).map zA)) rfl ⟨(yS rfl),(yS rfl),(all_cons ⟨(yS rfl),rfl⟩ all_nil)⟩ ?_)
 obtain ⟨r3,hr4,h⟩:=bind_some h
 refine zaa (args:=[(i6 a0),(zJ a1),(.bool false),(.sl 128 true (([a2]).map zA))]) (u:=[]) (r:=(i6 r3)) rfl rfl (Den.args (zbp a0 a1 false ([a2]) r3 hr4) rfl rfl (.cons (.refl _) (.cons (.refl _) (.cons (.refl _) (.cons (.loose _) .nil))))) rfl (vr (i6 r3) (nk ⟨[(0,i6 a0),(5,ow 5),(6,ow 6),(8,i6 r3)],[(5,bk (zA a2)),(6,bk xA)]⟩ (sr (vr (i6 r3) (vr (.bool (r3 != 0)) (nk ⟨[(0,i6 a0),(5,ow 5),(6,ow 6),(8,i6 r3),(15,.bool (r3 != 0))],[(5,bk (zA a2)),(6,bk xA)]⟩ ?_))))))
 cases hb5:(r3 != 0)
 ·have h:=zW hb5 h
  refine zP rfl (yG (nj ⟨[(0,i6 a0),(5,ow 5),(6,ow 6)],[(5,bk (zA a2)),(6,bk xA)]⟩ (yC (xH [⟨[5],[],[5],[]⟩,⟨[5],[],[],[0]⟩,⟨[],[],[],[]⟩,⟨[5],[],[5],[]⟩,⟨[5],[],[],[3]⟩,⟨[5],[],[5],[]⟩,⟨[5],[],[],[5]⟩,⟨[],[],[],[2,3,4,5,6]⟩,⟨[],[],[],[0,1,2,3,4,5,6,7]⟩,⟨[6],[6],[],[0,1,2,3,4,5,6,7,8]⟩,⟨[],[],[],[0,1,2,3,4,5,6,7,8,9]⟩] (by kernel_rfl) (zH (vb (.own 5 [0] [0]) rfl rfl (dn (zH ?_))))))))
  have hl12:LdOk [0] (zA a2) [0] 64 true (zJ a2.1):=(.fld rfl rfl rfl rfl (.nil rfl rfl rfl))
  refine vq (zJ a2.1) (zM (i:=⟨.arr 64 5,64,64,(zJ (yH 64 (0:Int)))⟩) rfl rfl rfl hl12) hl12.c (dn (dj (i6 a0) rfl (zH (vb (.own 5 [1] [64]) rfl rfl (dn (zH ?_))))))
  have hl13:LdOk [1] (zA a2) [64] 64 true (zJ a2.2):=(.fld rfl rfl rfl rfl (.nil rfl rfl rfl))
  refine vq (zJ a2.2) (zM (i:=⟨.arr 64 5,64,64,(zJ (yH 64 (0:Int)))⟩) rfl rfl rfl hl13) hl13.c (dn (zH (vb (.own 5 [0] [0]) rfl rfl (dn (zH ?_)))))
  have hl14:LdOk [0] (zA a2) [0] 64 true (zJ a2.1):=(.fld rfl rfl rfl rfl (.nil rfl rfl rfl))
  refine vq (zJ a2.1) (zM (i:=⟨.arr 64 5,64,64,(zJ (yH 64 (0:Int)))⟩) rfl rfl rfl hl14) hl14.c (dn (zH ?_))
  obtain ⟨r15,hr16,h⟩:=bind_some h
  refine ca (zc5 a0 a2.2 a2.1 r15 hr16) (dn (zH (vq (zA (a2.1,r15)) rfl ⟨rfl,(all_cons ⟨(yS rfl),rfl⟩ (all_cons ⟨(yS rfl),rfl⟩ all_nil))⟩ (dn (zH (vs (zA (a2.1,r15)) rfl rfl (fun _=>rfl) rfl rfl rfl rfl rfl rfl (dn (dj (i6 0) rfl (xE ?_)))))))))
  refine wC rfl (zU ?_)
  have hl18:LdOk [] (zA (a2.1,r15)) [] 128 true (zA (a2.1,r15)):=(.nil rfl rfl rfl)
  refine ⟨.inr rfl,?_⟩
  rw [Tryz.results21]
  cases h
  exact ⟨_,_,_,_,_,zM (i:=⟨.struct [(0,25),(64,25)],128,128,xA⟩) rfl rfl rfl hl18,hl18.c,.inl ⟨rfl,.inl rfl⟩,rfl,⟨_,_,_,_,_,rfl,trivial,.inl ⟨rfl,.inl rfl⟩,rfl,rfl⟩⟩
 ·have h:=zV hb5 h
  refine zO rfl (sr (vq xA rfl ⟨rfl,all_nil⟩ (vr (i6 r3) (vs xA rfl rfl (fun _=>rfl) rfl rfl rfl rfl rfl rfl (vr (i6 r3) (nx _ rfl (zU (xV ?_))))))))
  have hl20:LdOk [] xA [] 128 true xA:=(.nil rfl rfl rfl)
  refine ⟨.inr rfl,?_⟩
  rw [Tryz.results21]
  cases h
  exact ⟨_,_,_,_,_,zM (i:=⟨.struct [(0,25),(64,25)],128,128,xA⟩) rfl rfl rfl hl20,hl20.c,.inl ⟨rfl,.inl rfl⟩,rfl,⟨_,_,_,_,_,rfl,trivial,.inl ⟨rfl,.inl rfl⟩,rfl,rfl⟩⟩
def zuj:Live:=[(0,[]),(1,[0])]
noncomputable def zez :Option (Vec Int 64) :=
 (some ((yO (yO (yH 64 (0:Int)) 0 0) 1 1)))
theorem zi1  (r:(Vec Int 64)) (h:zez=some r):Den Tryz.prog 95 [] { r:=(zJ r) }:=by
 refine dd (rs:=[(zJ r)]) (L:=zuj) xL [] Tryz.func95 Tryz.ntmps95 ?_
 refine ns ⟨[],[]⟩ ?_
 refine sr (vo 1000 (yF) rfl rfl (nk ⟨[(0,ow 0)],[(0,bk (yF))]⟩ (sr (vq (zJ ((yO (yO (yH 64 (0:Int)) 0 0) 1 1))) rfl ⟨⟨_,rfl,rfl⟩,(all_cons ⟨(yS rfl),rfl⟩ (all_cons ⟨(yS rfl),rfl⟩ all_nil))⟩ (vs (zJ ((yO (yO (yH 64 (0:Int)) 0 0) 1 1))) rfl rfl (fun _=>rfl) rfl rfl rfl rfl rfl rfl (nx _ rfl (zU ?_)))))))
 have hl2:LdOk [] (zJ ((yO (yO (yH 64 (0:Int)) 0 0) 1 1))) [] 64 true (zJ ((yO (yO (yH 64 (0:Int)) 0 0) 1 1))):=(.nil rfl rfl rfl)
 refine ⟨.inr rfl,?_⟩
 rw [Tryz.results95]
 cases h
 exact ⟨_,_,_,_,_,zM (i:=⟨.arr 64 5,64,64,(zJ (yH 64 (0:Int)))⟩) rfl rfl rfl hl2,hl2.c,.inl ⟨rfl,.inl rfl⟩,rfl,rfl⟩
def ztg:Live:=[(0,[0,1,2]),(1,[0,4,5,6]),(2,[0,4,5,6,7]),(3,[6]),(4,[0,4,5,6,7]),(5,[0,4,5,6,7,8,9]),(6,[0,4,5,6,7,8,9,10]),(7,[0,4,5,6,7,8,9,10]),(8,[0,4,5,6,7,8,9,10]),(9,[0,5,6,7,8,9]),(10,[0,5,6,7,9,11]),(11,[0,5,6,7,9,11,12]),(12,[0,5,6,7,9,11,12]),(13,[0,5,6,7,9,11,12]),(14,[6,9]),(100016,[0,4,5,6,7,16]),(100026,[0,4,5,6,7,8,9,10,26]),(100047,[0,5,6,7,9,11,12,47])]
noncomputable def mW (r2:Int) (a1:(Vec Int 64)) (x40:Int) (x41:(Vec Int 64)):Option ((Int×(Vec Int 64))⊕(Vec Int 64)) :=
 (if (decide (x40 < r2)) then (jA (0≤IntKind.i64.wrap (x40 - 1)∧IntKind.i64.wrap (x40 - 1) < ((64:Nat):Int)) ((jA (0≤x40∧x40 < ((64:Nat):Int)) ((some (.inl ((IntKind.i64.wrap (x40 + 1),(yO x41 x40.toNat ((rd a1.1 (IntKind.i64.wrap (x40 - 1)).toNat))))))))))) else (some (.inr x41)))
noncomputable def zac (r2:Int) (x7:Int) (r58:Int) (a0:Int) (a2:(Vec Int 64)) (x187:Int) (x188:(Vec Int 64)):Option ((Int×(Vec Int 64))⊕(Vec Int 64)) :=
 (if (decide (x187 < r2)) then (jA (0≤x187∧x187 < ((64:Nat):Int)) ((jA (0≤x187∧x187 < ((64:Nat):Int)) ((kR (IntKind.i64.wrap ((Int.tmod (IntKind.i64.wrap (x7*(IntKind.i64.wrap r58))) a0)*(IntKind.i64.wrap (rd a2.1 x187.toNat)))) fun x240=>(kR (IntKind.i64.wrap ((IntKind.i64.wrap (rd x188.1 x187.toNat)) - x240)) fun x242=>(jA (a0 ≠ 0) ((jA (a0 ≠ 0) ((kR (IntKind.u8.wrap (Int.tmod (IntKind.i64.wrap ((Int.tmod x242 a0) + a0)) a0)) fun x246=>(jA (0≤x187∧x187 < ((64:Nat):Int)) ((some (.inl ((IntKind.i64.wrap (x187 + 1),(yO x188 x187.toNat x246)))))))))))))))))) else (some (.inr x188)))
noncomputable def zi2 (a0:Int) (a1:(Vec Int 64)) (a2:(Vec Int 64)):Option (Vec Int 64) :=
 (Option.bind (yW a2) fun r2=>(if (r2 == 0) then (some ((yH 64 (0:Int)))) else (jA (0≤IntKind.i64.wrap (r2 - 1)∧IntKind.i64.wrap (r2 - 1) < ((64:Nat):Int)) ((kR (IntKind.i64.wrap ((rd a1.1 (IntKind.i64.wrap (r2 - 1)).toNat))) fun x7=>(Option.bind (α:=(Vec Int 64)) ((yK (fun s:(Int×(Vec Int 64))=>mW r2 a1 s.1 s.2) (1,yH 64 (0:Int)))) fun x31=>(jA (0≤r2∧r2 < ((64:Nat):Int)) ((Option.bind (nI a0 (rd a2.1 r2.toNat)) fun r58=>(jA (a0 ≠ 0) ((Option.bind (α:=(Vec Int 64)) ((yK (fun s:(Int×(Vec Int 64))=>zac r2 x7 r58 a0 a2 s.1 s.2) (0,x31))) fun x154=>(some x154)))))))))))))
theorem zrj (a0:Int) (a1:(Vec Int 64)) (a2:(Vec Int 64)) (r:(Vec Int 64)) (h:zi2 a0 a1 a2=some r):Den Tryz.prog 126 [(i6 a0),(zJ a1),(zJ a2)] { r:=(zJ r) }:=by
 refine dd (rs:=[(zJ r)]) (L:=ztg) xL [] Tryz.func126 Tryz.ntmps126 ?_
 refine ns ⟨[(0,i6 a0),(1,zJ a1),(2,zJ a2)],[]⟩ ?_
 refine sr (vo 1400 (zJ a1) rfl rfl (vo 1500 (zJ a2) rfl rfl (vo 1600 (yF) rfl rfl (nk ⟨[(0,i6 a0),(4,ow 4),(5,ow 5),(6,ow 6)],[(4,bk (zJ a1)),(5,bk (zJ a2)),(6,bk (yF))]⟩ (sr (vl (zJ a2) rfl rfl rfl rfl rfl rfl ?_))))))
 obtain ⟨r2,hr3,h⟩:=bind_some h
 refine ca (yZ a2 r2 hr3) (vr (i6 r2) (nk ⟨[(0,i6 a0),(4,ow 4),(5,ow 5),(6,ow 6),(7,i6 r2)],[(4,bk (zJ a1)),(5,bk (zJ a2)),(6,bk (yF))]⟩ (yC (sr (vr (i6 r2) (vr (.bool (r2 == 0)) (nk ⟨[(0,i6 a0),(4,ow 4),(5,ow 5),(6,ow 6),(7,i6 r2),(16,.bool (r2 == 0))],[(4,bk (zJ a1)),(5,bk (zJ a2)),(6,bk (yF))]⟩ ?_)))))))
 cases hb4:(r2 == 0)
 ·have h:=zW hb4 h
  refine zP rfl (yG (nj ⟨[(0,i6 a0),(4,ow 4),(5,ow 5),(6,ow 6),(7,i6 r2)],[(4,bk (zJ a1)),(5,bk (zJ a2)),(6,bk (yF))]⟩ (sr (vr (i6 r2) (vr (i6 (IntKind.i64.wrap (r2 - 1))) ?_)))))
  obtain ⟨hc5,h⟩:=zT h
  refine vq (.own 4 [(IntKind.i64.wrap (r2 - 1)).toNat] [(IntKind.i64.wrap (r2 - 1)).toNat*1]) rfl hc5 ?_
  have hl6:LdOk [(IntKind.i64.wrap (r2 - 1)).toNat] (zJ a1) [(IntKind.i64.wrap (r2 - 1)).toNat*1] 1 false (b8 ((rd a1.1 (IntKind.i64.wrap (r2 - 1)).toNat))):=(.arr (vlt a1 hc5) rfl (.nil rfl rfl rfl))
  refine vq (b8 ((rd a1.1 (IntKind.i64.wrap (r2 - 1)).toNat))) (zM (i:=⟨.int .u8,1,1,(.int .u8 0)⟩) rfl rfl rfl hl6) hl6.c ?_
  obtain ⟨x7,hx8,h⟩:=xP h
  refine qI (v:=(i6 (IntKind.i64.wrap ((rd a1.1 (IntKind.i64.wrap (r2 - 1)).toNat))))) (v':=(i6 x7)) (u:=[]) (u':=[]) rfl (congrArg (fun z=>((i6 z):AV)) hx8) rfl trivial rfl (vq (yF) rfl ⟨⟨_,rfl,rfl⟩,all_nil⟩ (vo 1900 (yF) rfl rfl (vr (i6 x7) (vs (yF) rfl rfl (fun _=>rfl) rfl rfl rfl rfl rfl rfl (nk ⟨[(0,i6 a0),(4,ow 4),(5,ow 5),(6,ow 6),(7,i6 r2),(8,i6 x7),(9,ow 9)],[(4,bk (zJ a1)),(5,bk (zJ a2)),(6,bk (yF)),(9,bk (yF))]⟩ ?_)))))
  obtain ⟨y32,hy33,hk34⟩:=bind_some h
  clear h
  refine yN (emb:=fun (s:(Vec Int 64))=>⟨[(0,i6 a0),(5,ow 5),(6,ow 6),(7,i6 r2),(8,i6 x7),(9,ow 9)],[(5,bk (zJ a2)),(6,bk (yF)),(9,bk (zJ s))]⟩) (kG:=fun s=>s=y32) ?_ ?_
  ·rintro x31 rfl
   have h:=hk34
   refine ns ⟨[(0,i6 a0),(5,ow 5),(6,ow 6),(7,i6 r2),(8,i6 x7),(9,ow 9)],[(5,bk (zJ a2)),(6,bk (yF)),(9,bk (zJ x31))]⟩ (sr (vr (i6 x7) (vr (i6 a0) (vr (i6 r2) ?_))))
   obtain ⟨hc56,h⟩:=zT h
   refine vq (.own 5 [r2.toNat] [r2.toNat*1]) rfl hc56 ?_
   have hl57:LdOk [r2.toNat] (zJ a2) [r2.toNat*1] 1 false (b8 (rd a2.1 r2.toNat)):=(.arr (vlt a2 hc56) rfl (.nil rfl rfl rfl))
   refine vq (b8 (rd a2.1 r2.toNat)) (zM (i:=⟨.int .u8,1,1,(.int .u8 0)⟩) rfl rfl rfl hl57) hl57.c ?_
   obtain ⟨r58,hr59,h⟩:=bind_some h
   refine ca (za9 a0 (rd a2.1 r2.toNat) r58 hr59) (vr (i6 (IntKind.i64.wrap r58)) (vr (i6 (IntKind.i64.wrap (x7*(IntKind.i64.wrap r58)))) (vr (i6 a0) ?_)))
   obtain ⟨hc60,h⟩:=zT h
   refine vq (i6 (Int.tmod (IntKind.i64.wrap (x7*(IntKind.i64.wrap r58))) a0)) rfl hc60 (vr (i6 (Int.tmod (IntKind.i64.wrap (x7*(IntKind.i64.wrap r58))) a0)) (nk ⟨[(0,i6 a0),(5,ow 5),(6,ow 6),(7,i6 r2),(9,ow 9),(11,i6 (Int.tmod (IntKind.i64.wrap (x7*(IntKind.i64.wrap r58))) a0))],[(5,bk (zJ a2)),(6,bk (yF)),(9,bk (zJ x31))]⟩ ?_))
   obtain ⟨y155,hy156,hk157⟩:=bind_some h
   clear h
   refine yN (emb:=fun (s:(Vec Int 64))=>⟨[(6,ow 6),(9,ow 9)],[(6,bk (yF)),(9,bk (zJ s))]⟩) (kG:=fun s=>s=y155) ?_ ?_
   ·rintro x154 rfl
    have h:=hk157
    refine ns ⟨[(6,ow 6),(9,ow 9)],[(6,bk (yF)),(9,bk (zJ x154))]⟩ (sr (vl (zJ x154) rfl rfl rfl rfl rfl rfl (vs (zJ x154) rfl rfl (fun _=>rfl) rfl rfl rfl rfl rfl rfl (nx _ rfl (zU ?_)))))
    have hl253:LdOk [] (zJ x154) [] 64 true (zJ x154):=(.nil rfl rfl rfl)
    refine ⟨.inr rfl,?_⟩
    rw [Tryz.results126]
    cases h
    exact ⟨_,_,_,_,_,zM (i:=⟨.arr 64 5,64,64,(zJ (yH 64 (0:Int)))⟩) rfl rfl rfl hl253,hl253.c,.inl ⟨rfl,.inl rfl⟩,rfl,rfl⟩
   ·have h:=hy156
    refine sr (vr (i6 0) (nk ⟨[(0,i6 a0),(5,ow 5),(6,ow 6),(7,i6 r2),(9,ow 9),(11,i6 (Int.tmod (IntKind.i64.wrap (x7*(IntKind.i64.wrap r58))) a0)),(12,i6 0)],[(5,bk (zJ a2)),(6,bk (yF)),(9,bk (zJ x31))]⟩ (yB ?_)))
    refine xU (emb:=fun (s:(Int×(Vec Int 64)))=>⟨[(0,i6 a0),(5,ow 5),(6,ow 6),(7,i6 r2),(9,ow 9),(11,i6 (Int.tmod (IntKind.i64.wrap (x7*(IntKind.i64.wrap r58))) a0)),(12,i6 s.1)],[(5,bk (zJ a2)),(6,bk (yF)),(9,bk (zJ s.2))]⟩) (body:=(fun s:(Int×(Vec Int 64))=>zac r2 x7 r58 a0 a2 s.1 s.2)) (G:=fun q=>some q=some y155) h rfl ?_ (by kernel_rfl)
    rintro X218 ⟨x187,x188⟩ x219 h hX220
    have h:zac r2 x7 r58 a0 a2 x187 x188=some x219:=h
    refine ns ⟨[(0,i6 a0),(5,ow 5),(6,ow 6),(7,i6 r2),(9,ow 9),(11,i6 (Int.tmod (IntKind.i64.wrap (x7*(IntKind.i64.wrap r58))) a0)),(12,i6 x187)],[(5,bk (zJ a2)),(6,bk (yF)),(9,bk (zJ x188))]⟩ (yC (sr (vr (i6 x187) (vr (i6 r2) (vr (.bool ((decide (x187 < r2)))) (nk ⟨[(0,i6 a0),(5,ow 5),(6,ow 6),(7,i6 r2),(9,ow 9),(11,i6 (Int.tmod (IntKind.i64.wrap (x7*(IntKind.i64.wrap r58))) a0)),(12,i6 x187),(47,.bool ((decide (x187 < r2))))],[(5,bk (zJ a2)),(6,bk (yF)),(9,bk (zJ x188))]⟩ ?_))))))
    cases hb221:(decide (x187 < r2))
    ·have h:=zW hb221 h
     refine zP rfl (xR (yI ?_))
     cases h
     have h:=hX220
     refine yI (xQ ?_)
     exact jl x188 h
    ·have h:=zV hb221 h
     refine zO rfl (yG (nj ⟨[(0,i6 a0),(5,ow 5),(6,ow 6),(7,i6 r2),(9,ow 9),(11,i6 (Int.tmod (IntKind.i64.wrap (x7*(IntKind.i64.wrap r58))) a0)),(12,i6 x187)],[(5,bk (zJ a2)),(6,bk (yF)),(9,bk (zJ x188))]⟩ (yC (yB (xH [⟨[],[],[],[]⟩,⟨[],[],[],[]⟩,⟨[9],[],[9],[1]⟩,⟨[9],[],[],[1,2]⟩,⟨[],[],[],[1,2,3]⟩,⟨[],[],[],[]⟩,⟨[],[],[],[]⟩,⟨[5],[],[5],[6]⟩,⟨[5],[],[],[6,7]⟩,⟨[],[],[],[6,7,8]⟩,⟨[],[],[],[5,6,7,8,9]⟩,⟨[],[],[],[1,2,3,4,5,6,7,8,9,10]⟩,⟨[],[],[],[]⟩,⟨[],[],[],[1,2,3,4,5,6,7,8,9,10,11,12]⟩,⟨[],[],[],[]⟩,⟨[],[],[],[1,2,3,4,5,6,7,8,9,10,11,12,13,14]⟩,⟨[],[],[],[]⟩,⟨[],[],[],[1,2,3,4,5,6,7,8,9,10,11,12,13,14,15,16]⟩,⟨[],[],[],[1,2,3,4,5,6,7,8,9,10,11,12,13,14,15,16,17]⟩,⟨[9],[],[9],[0,1,2,3,4,5,6,7,8,9,10,11,12,13,14,15,16,17,18]⟩,⟨[9],[9],[],[0,1,2,3,4,5,6,7,8,9,10,11,12,13,14,15,16,17,18,19]⟩] (by kernel_rfl) (dj (i6 x187) rfl (dj (i6 x187) rfl (zH ?_))))))))
     obtain ⟨hc236,h⟩:=zT h
     refine vq (.own 9 [x187.toNat] [x187.toNat*1]) rfl hc236 (dn (zH ?_))
     have hl237:LdOk [x187.toNat] (zJ x188) [x187.toNat*1] 1 false (b8 (rd x188.1 x187.toNat)):=(.arr (vlt x188 hc236) rfl (.nil rfl rfl rfl))
     refine vq (b8 (rd x188.1 x187.toNat)) (zM (i:=⟨.int .u8,1,1,(.int .u8 0)⟩) rfl rfl rfl hl237) hl237.c (dn (dj (i6 (IntKind.i64.wrap (rd x188.1 x187.toNat))) rfl (dj (i6 (Int.tmod (IntKind.i64.wrap (x7*(IntKind.i64.wrap r58))) a0)) rfl (dj (i6 x187) rfl (zH ?_)))))
     obtain ⟨hc238,h⟩:=zT h
     refine vq (.own 5 [x187.toNat] [x187.toNat*1]) rfl hc238 (dn (zH ?_))
     have hl239:LdOk [x187.toNat] (zJ a2) [x187.toNat*1] 1 false (b8 (rd a2.1 x187.toNat)):=(.arr (vlt a2 hc238) rfl (.nil rfl rfl rfl))
     refine vq (b8 (rd a2.1 x187.toNat)) (zM (i:=⟨.int .u8,1,1,(.int .u8 0)⟩) rfl rfl rfl hl239) hl239.c (dn (dj (i6 (IntKind.i64.wrap (rd a2.1 x187.toNat))) rfl (zH ?_)))
     obtain ⟨x240,hx241,h⟩:=xP h
     refine qI (v:=(i6 (IntKind.i64.wrap ((Int.tmod (IntKind.i64.wrap (x7*(IntKind.i64.wrap r58))) a0)*(IntKind.i64.wrap (rd a2.1 x187.toNat)))))) (v':=(i6 x240)) (u:=[]) (u':=[]) rfl (congrArg (fun z=>((i6 z):AV)) hx241) rfl trivial rfl (dn (zH ?_))
     obtain ⟨x242,hx243,h⟩:=xP h
     refine qI (v:=(i6 (IntKind.i64.wrap ((IntKind.i64.wrap (rd x188.1 x187.toNat)) - x240)))) (v':=(i6 x242)) (u:=[]) (u':=[]) rfl (congrArg (fun z=>((i6 z):AV)) hx243) rfl trivial rfl (dn (dj (i6 a0) rfl (zH ?_)))
     obtain ⟨hc244,h⟩:=zT h
     refine vq (i6 (Int.tmod x242 a0)) rfl hc244 (dn (dj (i6 a0) rfl (dj (i6 (IntKind.i64.wrap ((Int.tmod x242 a0) + a0))) rfl (dj (i6 a0) rfl (zH ?_)))))
     obtain ⟨hc245,h⟩:=zT h
     refine vq (i6 (Int.tmod (IntKind.i64.wrap ((Int.tmod x242 a0) + a0)) a0)) rfl hc245 (dn (zH ?_))
     obtain ⟨x246,hx247,h⟩:=xP h
     refine qI (v:=(b8 (IntKind.u8.wrap (Int.tmod (IntKind.i64.wrap ((Int.tmod x242 a0) + a0)) a0)))) (v':=(b8 x246)) (u:=[]) (u':=[]) rfl (congrArg (fun z=>((b8 z):AV)) hx247) rfl trivial rfl (dn (zH ?_))
     obtain ⟨hc248,h⟩:=zT h
     refine vq (.own 9 [x187.toNat] [x187.toNat*1]) rfl hc248 (dn (zH ?_))
     have hs249:StOk [x187.toNat] (zJ x188) [x187.toNat*1] 1 (b8 x246) (zJ (yO x188 x187.toNat x246)):=(.arr (y:=x246) (vlt x188 hc248) rfl (.nil rfl rfl rfl rfl))
     refine vu .top [(9,bk (zJ (yO x188 x187.toNat x246)))] (qG (i:=⟨.int .u8,1,1,(.int .u8 0)⟩) rfl rfl (fun _=>rfl) rfl hs249) (hs249.c rfl) rfl (dn (xE (xI (nj ⟨[(0,i6 a0),(5,ow 5),(6,ow 6),(7,i6 r2),(9,ow 9),(11,i6 (Int.tmod (IntKind.i64.wrap (x7*(IntKind.i64.wrap r58))) a0)),(12,i6 x187)],[(5,bk (zJ a2)),(6,bk (yF)),(9,bk (zJ (yO x188 x187.toNat x246)))]⟩ (zR (vr (i6 x187) (vr (i6 (IntKind.i64.wrap (x187 + 1))) (vr (i6 (IntKind.i64.wrap (x187 + 1))) (yJ ?_)))))))))
     cases h
     exact ag hX220
  ·have h:=hy33
   refine sr (vr (i6 1) (nk ⟨[(0,i6 a0),(4,ow 4),(5,ow 5),(6,ow 6),(7,i6 r2),(8,i6 x7),(9,ow 9),(10,i6 1)],[(4,bk (zJ a1)),(5,bk (zJ a2)),(6,bk (yF)),(9,bk (yF))]⟩ (yB ?_)))
   refine xU (emb:=fun (s:(Int×(Vec Int 64)))=>⟨[(0,i6 a0),(4,ow 4),(5,ow 5),(6,ow 6),(7,i6 r2),(8,i6 x7),(9,ow 9),(10,i6 s.1)],[(4,bk (zJ a1)),(5,bk (zJ a2)),(6,bk (yF)),(9,bk (zJ s.2))]⟩) (body:=(fun s:(Int×(Vec Int 64))=>mW r2 a1 s.1 s.2)) (G:=fun q=>some q=some y32) h rfl ?_ (by kernel_rfl)
   rintro X47 ⟨x40,x41⟩ x48 h hX49
   have h:mW r2 a1 x40 x41=some x48:=h
   refine ns ⟨[(0,i6 a0),(4,ow 4),(5,ow 5),(6,ow 6),(7,i6 r2),(8,i6 x7),(9,ow 9),(10,i6 x40)],[(4,bk (zJ a1)),(5,bk (zJ a2)),(6,bk (yF)),(9,bk (zJ x41))]⟩ (yC (sr (vr (i6 x40) (vr (i6 r2) (vr (.bool ((decide (x40 < r2)))) (nk ⟨[(0,i6 a0),(4,ow 4),(5,ow 5),(6,ow 6),(7,i6 r2),(8,i6 x7),(9,ow 9),(10,i6 x40),(26,.bool ((decide (x40 < r2))))],[(4,bk (zJ a1)),(5,bk (zJ a2)),(6,bk (yF)),(9,bk (zJ x41))]⟩ ?_))))))
   cases hb50:(decide (x40 < r2))
   ·have h:=zW hb50 h
    refine zP rfl (xR (yI ?_))
    cases h
    have h:=hX49
    refine yI (xQ ?_)
    exact jl x41 h
   ·have h:=zV hb50 h
    refine zO rfl (yG (nj ⟨[(0,i6 a0),(4,ow 4),(5,ow 5),(6,ow 6),(7,i6 r2),(8,i6 x7),(9,ow 9),(10,i6 x40)],[(4,bk (zJ a1)),(5,bk (zJ a2)),(6,bk (yF)),(9,bk (zJ x41))]⟩ (yC (yB (zR (vr (i6 x40) (vr (i6 x40) (vr (i6 (IntKind.i64.wrap (x40 - 1))) ?_))))))))
    obtain ⟨hc51,h⟩:=zT h
    refine vq (.own 4 [(IntKind.i64.wrap (x40 - 1)).toNat] [(IntKind.i64.wrap (x40 - 1)).toNat*1]) rfl hc51 ?_
    have hl52:LdOk [(IntKind.i64.wrap (x40 - 1)).toNat] (zJ a1) [(IntKind.i64.wrap (x40 - 1)).toNat*1] 1 false (b8 ((rd a1.1 (IntKind.i64.wrap (x40 - 1)).toNat))):=(.arr (vlt a1 hc51) rfl (.nil rfl rfl rfl))
    refine vq (b8 ((rd a1.1 (IntKind.i64.wrap (x40 - 1)).toNat))) (zM (i:=⟨.int .u8,1,1,(.int .u8 0)⟩) rfl rfl rfl hl52) hl52.c ?_
    obtain ⟨hc53,h⟩:=zT h
    refine vq (.own 9 [x40.toNat] [x40.toNat*1]) rfl hc53 ?_
    have hs54:StOk [x40.toNat] (zJ x41) [x40.toNat*1] 1 (b8 ((rd a1.1 (IntKind.i64.wrap (x40 - 1)).toNat))) (zJ ((yO x41 x40.toNat ((rd a1.1 (IntKind.i64.wrap (x40 - 1)).toNat))))):=(.arr (y:=(rd a1.1 (IntKind.i64.wrap (x40 - 1)).toNat)) (vlt x41 hc53) rfl (.nil rfl rfl rfl rfl))
    refine vu .top [(9,bk (zJ ((yO x41 x40.toNat ((rd a1.1 (IntKind.i64.wrap (x40 - 1)).toNat))))))] (qG (i:=⟨.int .u8,1,1,(.int .u8 0)⟩) rfl rfl (fun _=>rfl) rfl hs54) (hs54.c rfl) rfl (yJ (xI (nj ⟨[(0,i6 a0),(4,ow 4),(5,ow 5),(6,ow 6),(7,i6 r2),(8,i6 x7),(9,ow 9),(10,i6 x40)],[(4,bk (zJ a1)),(5,bk (zJ a2)),(6,bk (yF)),(9,bk (zJ ((yO x41 x40.toNat ((rd a1.1 (IntKind.i64.wrap (x40 - 1)).toNat))))))]⟩ (zR (vr (i6 x40) (vr (i6 (IntKind.i64.wrap (x40 + 1))) (vr (i6 (IntKind.i64.wrap (x40 + 1))) (yJ ?_))))))))
    cases h
    exact ag hX49
 ·have h:=zV hb4 h
  refine zO rfl (sr (vq (yF) rfl ⟨⟨_,rfl,rfl⟩,all_nil⟩ (vs (yF) rfl rfl (fun _=>rfl) rfl rfl rfl rfl rfl rfl (nx _ rfl (zU (xV ?_))))))
  have hl255:LdOk [] (yF) [] 64 true (yF):=(.nil rfl rfl rfl)
  refine ⟨.inr rfl,?_⟩
  rw [Tryz.results126]
  cases h
  exact ⟨_,_,_,_,_,zM (i:=⟨.arr 64 5,64,64,(zJ (yH 64 (0:Int)))⟩) rfl rfl rfl hl255,hl255.c,.inl ⟨rfl,.inl rfl⟩,rfl,rfl⟩
def znm:Live:=[(0,[0,1,2,3]),(1,[0,5,6,7,8]),(2,[0,5,6,7,8,9]),(3,[0,5,6,7,8,9,10]),(4,[0,5,6,7,8,9,10]),(5,[0,5,6,7,8,9,10]),(6,[0,5,6,7,8,9,10]),(7,[8,9]),(100015,[0,5,6,7,8,9,10,15])]
noncomputable def qX (a0:Int) (a3:(Vec Int 64)) (a1:(Vec Int 64)) (a2:(Vec Int 64)) (x122:Int) (x123:(Vec Int 64)):Option ((Int×(Vec Int 64))⊕(Vec Int 64)) :=
 (if (decide (x122 ≥ 0)) then (Option.bind (zi2 a0 x123 a3) fun r156=>(jA (0≤x122∧x122 < ((64:Nat):Int)) ((Option.bind (xS a0 r156 a1 (IntKind.i64.wrap (rd a2.1 x122.toNat))) fun r173=>(Option.bind (vV a0 r173 a3) fun r176=>(some (.inl ((IntKind.i64.wrap (x122 - 1),r176))))))))) else (some (.inr x123)))
noncomputable def nT (a0:Int) (a1:(Vec Int 64)) (a2:(Vec Int 64)) (a3:(Vec Int 64)):Option (Vec Int 64) :=
 (Option.bind (α:=(Vec Int 64)) ((Option.bind (yW a2) fun r94=>(yK (fun s:(Int×(Vec Int 64))=>qX a0 a3 a1 a2 s.1 s.2) (r94,(yH 64 (0:Int)))))) fun x89=>(some x89))
theorem zg3 (a0:Int) (a1:(Vec Int 64)) (a2:(Vec Int 64)) (a3:(Vec Int 64)) (r:(Vec Int 64)) (h:nT a0 a1 a2 a3=some r):Den Tryz.prog 123 [(i6 a0),(zJ a1),(zJ a2),(zJ a3)] { r:=(zJ r) }:=by
 refine dd (rs:=[(zJ r)]) (L:=znm) xL [] Tryz.func123 Tryz.ntmps123 ?_
 refine ns ⟨[(0,i6 a0),(1,zJ a1),(2,zJ a2),(3,zJ a3)],[]⟩ ?_
 refine sr (vo 1500 (zJ a1) rfl rfl (vo 1600 (zJ a2) rfl rfl (vo 1700 (zJ a3) rfl rfl (vo 1800 (yF) rfl rfl (nk ⟨[(0,i6 a0),(5,ow 5),(6,ow 6),(7,ow 7),(8,ow 8)],[(5,bk (zJ a1)),(6,bk (zJ a2)),(7,bk (zJ a3)),(8,bk (yF))]⟩ (sr (vq (yF) rfl ⟨⟨_,rfl,rfl⟩,all_nil⟩ (vo 1900 (yF) rfl rfl (vs (yF) rfl rfl (fun _=>rfl) rfl rfl rfl rfl rfl rfl ?_)))))))))
 refine nk ⟨[(0,i6 a0),(5,ow 5),(6,ow 6),(7,ow 7),(8,ow 8),(9,ow 9)],[(5,bk (zJ a1)),(6,bk (zJ a2)),(7,bk (zJ a3)),(8,bk (yF)),(9,bk (yF))]⟩ ?_
 obtain ⟨y90,hy91,hk92⟩:=bind_some h
 clear h
 refine yN (emb:=fun (s:(Vec Int 64))=>⟨[(8,ow 8),(9,ow 9)],[(8,bk (yF)),(9,bk (zJ s))]⟩) (kG:=fun s=>s=y90) ?_ ?_
 ·rintro x89 rfl
  have h:=hk92
  refine ns ⟨[(8,ow 8),(9,ow 9)],[(8,bk (yF)),(9,bk (zJ x89))]⟩ (sr (vl (zJ x89) rfl rfl rfl rfl rfl rfl (vs (zJ x89) rfl rfl (fun _=>rfl) rfl rfl rfl rfl rfl rfl (nx _ rfl (zU ?_)))))
  have hl182:LdOk [] (zJ x89) [] 64 true (zJ x89):=(.nil rfl rfl rfl)
  refine ⟨.inr rfl,?_⟩
  rw [Tryz.results123]
  cases h
  exact ⟨_,_,_,_,_,zM (i:=⟨.arr 64 5,64,64,(zJ (yH 64 (0:Int)))⟩) rfl rfl rfl hl182,hl182.c,.inl ⟨rfl,.inl rfl⟩,rfl,rfl⟩
 ·have h:=hy91
  refine sr (vl (zJ a2) rfl rfl rfl rfl rfl rfl ?_)
  obtain ⟨r94,hr95,h⟩:=bind_some h
  refine ca (yZ a2 r94 hr95) (vr (i6 r94) (nk ⟨[(0,i6 a0),(5,ow 5),(6,ow 6),(7,ow 7),(8,ow 8),(9,ow 9),(10,i6 r94)],[(5,bk (zJ a1)),(6,bk (zJ a2)),(7,bk (zJ a3)),(8,bk (yF)),(9,bk (yF))]⟩ (yB ?_)))
  refine xU (emb:=fun (s:(Int×(Vec Int 64)))=>⟨[(0,i6 a0),(5,ow 5),(6,ow 6),(7,ow 7),(8,ow 8),(9,ow 9),(10,i6 s.1)],[(5,bk (zJ a1)),(6,bk (zJ a2)),(7,bk (zJ a3)),(8,bk (yF)),(9,bk (zJ s.2))]⟩) (body:=(fun s:(Int×(Vec Int 64))=>qX a0 a3 a1 a2 s.1 s.2)) (G:=fun q=>some q=some y90) h rfl ?_ (by kernel_rfl)
  rintro X150 ⟨x122,x123⟩ x151 h hX152
  have h:qX a0 a3 a1 a2 x122 x123=some x151:=h
  refine ns ⟨[(0,i6 a0),(5,ow 5),(6,ow 6),(7,ow 7),(8,ow 8),(9,ow 9),(10,i6 x122)],[(5,bk (zJ a1)),(6,bk (zJ a2)),(7,bk (zJ a3)),(8,bk (yF)),(9,bk (zJ x123))]⟩ (yC (sr (vr (i6 x122) (vr (.bool ((decide (x122 ≥ 0)))) (nk ⟨[(0,i6 a0),(5,ow 5),(6,ow 6),(7,ow 7),(8,ow 8),(9,ow 9),(10,i6 x122),(15,.bool ((decide (x122 ≥ 0))))],[(5,bk (zJ a1)),(6,bk (zJ a2)),(7,bk (zJ a3)),(8,bk (yF)),(9,bk (zJ x123))]⟩ ?_)))))
  cases hb153:(decide (x122 ≥ 0))
  ·have h:=zW hb153 h
   refine zP rfl (xR (yI ?_))
   cases h
   have h:=hX152
   refine yI (xQ ?_)
   exact jl x123 h
  ·have h:=zV hb153 h
   refine zO rfl (yG (nj ⟨[(0,i6 a0),(5,ow 5),(6,ow 6),(7,ow 7),(8,ow 8),(9,ow 9),(10,i6 x122)],[(5,bk (zJ a1)),(6,bk (zJ a2)),(7,bk (zJ a3)),(8,bk (yF)),(9,bk (zJ x123))]⟩ (yC (yB (sr (vr (i6 a0) (vl (zJ x123) rfl rfl rfl rfl rfl rfl (vl (zJ a3) rfl rfl rfl rfl rfl rfl ?_))))))))
   obtain ⟨r156,hr157,h⟩:=bind_some h
   refine ca (zrj a0 x123 a3 r156 hr157) (vs (zJ r156) rfl rfl (fun _=>rfl) rfl rfl rfl rfl rfl rfl (nk ⟨[(0,i6 a0),(5,ow 5),(6,ow 6),(7,ow 7),(8,ow 8),(9,ow 9),(10,i6 x122)],[(5,bk (zJ a1)),(6,bk (zJ a2)),(7,bk (zJ a3)),(8,bk (yF)),(9,bk (zJ r156))]⟩ (xH [⟨[],[],[],[]⟩,⟨[],[],[],[]⟩,⟨[9],[],[],[]⟩,⟨[5],[],[],[]⟩,⟨[],[],[],[]⟩,⟨[6],[],[6],[4]⟩,⟨[6],[],[],[4,5]⟩,⟨[],[],[],[4,5,6]⟩,⟨[],[],[],[1,2,3,4,5,6,7]⟩,⟨[7],[],[],[]⟩,⟨[],[],[],[0,1,2,3,4,5,6,7,8,9]⟩,⟨[9],[9],[],[0,1,2,3,4,5,6,7,8,9,10]⟩] (by kernel_rfl) (dj (i6 a0) rfl (dj (i6 a0) rfl (zH (vl (zJ r156) rfl rfl rfl rfl rfl rfl (dn (zH ?_)))))))))
   refine vl (zJ a1) rfl rfl rfl rfl rfl rfl (dn (dj (i6 x122) rfl (zH ?_)))
   obtain ⟨hc171,h⟩:=zT h
   refine vq (.own 6 [x122.toNat] [x122.toNat*1]) rfl hc171 (dn (zH ?_))
   have hl172:LdOk [x122.toNat] (zJ a2) [x122.toNat*1] 1 false (b8 (rd a2.1 x122.toNat)):=(.arr (vlt a2 hc171) rfl (.nil rfl rfl rfl))
   refine vq (b8 (rd a2.1 x122.toNat)) (zM (i:=⟨.int .u8,1,1,(.int .u8 0)⟩) rfl rfl rfl hl172) hl172.c (dn (dj (i6 (IntKind.i64.wrap (rd a2.1 x122.toNat))) rfl (zH ?_)))
   obtain ⟨r173,hr174,h⟩:=bind_some h
   refine ca (wO a0 r156 a1 (IntKind.i64.wrap (rd a2.1 x122.toNat)) r173 hr174) (dn (zH (vl (zJ a3) rfl rfl rfl rfl rfl rfl (dn (zH ?_)))))
   obtain ⟨r176,hr177,h⟩:=bind_some h
   refine ca (jR a0 r173 a3 r176 hr177) (dn (zH (vs (zJ r176) rfl rfl (fun _=>rfl) rfl rfl rfl rfl rfl rfl (dn (xE (xI (nj ⟨[(0,i6 a0),(5,ow 5),(6,ow 6),(7,ow 7),(8,ow 8),(9,ow 9),(10,i6 x122)],[(5,bk (zJ a1)),(6,bk (zJ a2)),(7,bk (zJ a3)),(8,bk (yF)),(9,bk (zJ r176))]⟩ (zR (vr (i6 x122) ?_)))))))))
   refine vr (i6 (IntKind.i64.wrap (x122 - 1))) (vr (i6 (IntKind.i64.wrap (x122 - 1))) (yJ ?_))
   cases h
   exact ag hX152
def znk:Live:=[(0,[0,1,2,3]),(1,[0,2,5,7,8]),(2,[0,2,7,8,9,10]),(3,[0,2,7,8,9,10]),(4,[0,2,7,8,9,10]),(5,[0,2,7,8,9,10]),(6,[0,2,7,8,9,10]),(7,[8,9]),(100020,[0,2,7,8,9,10,20]),(100025,[0,2,7,8,9,10,25])]
noncomputable def vL (a0:Int) (a3:(Vec Int 64)) (x134:Int) (x135:(Vec Int 64)) (x136:(Vec Int 64)):Option ((Int×(Vec Int 64)×(Vec Int 64))⊕(Vec Int 64)) :=
 (if (decide (x134 > 0)) then (Option.bind (α:=(Vec Int 64)) ((if ((Int.tmod x134 2) == 1) then (Option.bind (nT a0 x135 x136 a3) fun r181=>(some r181)) else (some x135))) fun x173=>(Option.bind (nT a0 x136 x136 a3) fun r187=>(some (.inl ((IntKind.i64.wrap (Int.tdiv x134 2),x173,r187)))))) else (some (.inr x135)))
noncomputable def zcm (a0:Int) (a1:(Vec Int 64)) (a2:Int) (a3:(Vec Int 64)):Option (Vec Int 64) :=
 (Option.bind (zay) fun r12=>(Option.bind (vV a0 r12 a3) fun r15=>(Option.bind (vV a0 a1 a3) fun r19=>(Option.bind (α:=(Vec Int 64)) ((yK (fun s:(Int×(Vec Int 64)×(Vec Int 64))=>vL a0 a3 s.1 s.2.1 s.2.2) (a2,r15,r19))) fun x105=>(some x105)))))
theorem zmg (a0:Int) (a1:(Vec Int 64)) (a2:Int) (a3:(Vec Int 64)) (r:(Vec Int 64)) (h:zcm a0 a1 a2 a3=some r):Den Tryz.prog 118 [(i6 a0),(zJ a1),(i6 a2),(zJ a3)] { r:=(zJ r) }:=by
 refine dd (rs:=[(zJ r)]) (L:=znk) xL [] Tryz.func118 Tryz.ntmps118 ?_
 refine ns ⟨[(0,i6 a0),(1,zJ a1),(2,i6 a2),(3,zJ a3)],[]⟩ ?_
 refine sr (vo 1500 (zJ a1) rfl rfl (vo 1700 (zJ a3) rfl rfl (vo 1800 (yF) rfl rfl (nk ⟨[(0,i6 a0),(2,i6 a2),(5,ow 5),(7,ow 7),(8,ow 8)],[(5,bk (zJ a1)),(7,bk (zJ a3)),(8,bk (yF))]⟩ (yC (xH [⟨[],[],[],[]⟩,⟨[],[],[],[]⟩,⟨[7],[],[],[]⟩,⟨[],[],[],[0,1,2]⟩,⟨[],[],[],[]⟩,⟨[5],[],[],[]⟩,⟨[7],[],[],[]⟩,⟨[],[],[],[0,1,2,3,4,5,6]⟩,⟨[1900],[1900],[1900],[]⟩,⟨[2000],[2000],[2000],[]⟩,⟨[1900],[1900],[],[0,1,2,3,4,5,6,7,8,9]⟩,⟨[2000],[2000],[],[0,1,2,3,4,5,6,7,8,9,10]⟩] (by kernel_rfl) (dj (i6 a0) rfl (zH ?_))))))))
 obtain ⟨r12,hr13,h⟩:=bind_some h
 refine ca (zd4 r12 hr13) (dn (zH (vl (zJ a3) rfl rfl rfl rfl rfl rfl (dn (zH ?_)))))
 obtain ⟨r15,hr16,h⟩:=bind_some h
 refine ca (jR a0 r12 a3 r15 hr16) (dn (dj (i6 a0) rfl (zH (vl (zJ a1) rfl rfl rfl rfl rfl rfl (dn (zH (vl (zJ a3) rfl rfl rfl rfl rfl rfl (dn (zH ?_)))))))))
 obtain ⟨r19,hr20,h⟩:=bind_some h
 refine ca (jR a0 a1 a3 r19 hr20) (dn (zH (vo 1900 (yF) rfl rfl (dn (zH (vo 2000 (yF) rfl rfl (dn (zH (vs (zJ r15) rfl rfl (fun _=>rfl) rfl rfl rfl rfl rfl rfl ?_)))))))))
 refine dn (zH (vs (zJ r19) rfl rfl (fun _=>rfl) rfl rfl rfl rfl rfl rfl (dn (xE (nj ⟨[(0,i6 a0),(2,i6 a2),(7,ow 7),(8,ow 8),(9,ow 9),(10,ow 10)],[(7,bk (zJ a3)),(8,bk (yF)),(9,bk (zJ r15)),(10,bk (zJ r19))]⟩ ?_)))))
 obtain ⟨y106,hy107,hk108⟩:=bind_some h
 clear h
 refine yN (emb:=fun (s:(Vec Int 64))=>⟨[(8,ow 8),(9,ow 9)],[(8,bk (yF)),(9,bk (zJ s))]⟩) (kG:=fun s=>s=y106) ?_ ?_
 ·rintro x105 rfl
  have h:=hk108
  refine ns ⟨[(8,ow 8),(9,ow 9)],[(8,bk (yF)),(9,bk (zJ x105))]⟩ (sr (vl (zJ x105) rfl rfl rfl rfl rfl rfl (vs (zJ x105) rfl rfl (fun _=>rfl) rfl rfl rfl rfl rfl rfl (nx _ rfl (zU ?_)))))
  have hl193:LdOk [] (zJ x105) [] 64 true (zJ x105):=(.nil rfl rfl rfl)
  refine ⟨.inr rfl,?_⟩
  rw [Tryz.results118]
  cases h
  exact ⟨_,_,_,_,_,zM (i:=⟨.arr 64 5,64,64,(zJ (yH 64 (0:Int)))⟩) rfl rfl rfl hl193,hl193.c,.inl ⟨rfl,.inl rfl⟩,rfl,rfl⟩
 ·have h:=hy107
  refine yB ?_
  refine xU (emb:=fun (s:(Int×(Vec Int 64)×(Vec Int 64)))=>⟨[(0,i6 a0),(2,i6 s.1),(7,ow 7),(8,ow 8),(9,ow 9),(10,ow 10)],[(7,bk (zJ a3)),(8,bk (yF)),(9,bk (zJ s.2.1)),(10,bk (zJ s.2.2))]⟩) (body:=(fun s:(Int×(Vec Int 64)×(Vec Int 64))=>vL a0 a3 s.1 s.2.1 s.2.2)) (G:=fun q=>some q=some y106) h rfl ?_ (by kernel_rfl)
  rintro X162 ⟨x134,x135,x136⟩ x163 h hX164
  have h:vL a0 a3 x134 x135 x136=some x163:=h
  refine ns ⟨[(0,i6 a0),(2,i6 x134),(7,ow 7),(8,ow 8),(9,ow 9),(10,ow 10)],[(7,bk (zJ a3)),(8,bk (yF)),(9,bk (zJ x135)),(10,bk (zJ x136))]⟩ (yC (sr (vr (i6 x134) (vr (.bool ((decide (x134 > 0)))) (nk ⟨[(0,i6 a0),(2,i6 x134),(7,ow 7),(8,ow 8),(9,ow 9),(10,ow 10),(20,.bool ((decide (x134 > 0))))],[(7,bk (zJ a3)),(8,bk (yF)),(9,bk (zJ x135)),(10,bk (zJ x136))]⟩ ?_)))))
  cases hb165:(decide (x134 > 0))
  ·have h:=zW hb165 h
   refine zP rfl (xR (yI ?_))
   cases h
   have h:=hX164
   refine yI (xQ ?_)
   exact jl x135 h
  ·have h:=zV hb165 h
   refine zO rfl (yG (nj ⟨[(0,i6 a0),(2,i6 x134),(7,ow 7),(8,ow 8),(9,ow 9),(10,ow 10)],[(7,bk (zJ a3)),(8,bk (yF)),(9,bk (zJ x135)),(10,bk (zJ x136))]⟩ (yC (yB ?_))))
   obtain ⟨y174,hy175,hk176⟩:=bind_some h
   clear h
   refine yN (emb:=fun (s:(Vec Int 64))=>⟨[(0,i6 a0),(2,i6 x134),(7,ow 7),(8,ow 8),(9,ow 9),(10,ow 10)],[(7,bk (zJ a3)),(8,bk (yF)),(9,bk (zJ s)),(10,bk (zJ x136))]⟩) (kG:=fun s=>s=y174) ?_ ?_
   ·rintro x173 rfl
    have h:=hk176
    refine ns ⟨[(0,i6 a0),(2,i6 x134),(7,ow 7),(8,ow 8),(9,ow 9),(10,ow 10)],[(7,bk (zJ a3)),(8,bk (yF)),(9,bk (zJ x173)),(10,bk (zJ x136))]⟩ (zR (vr (i6 a0) (vl (zJ x136) rfl rfl rfl rfl rfl rfl (vl (zJ x136) rfl rfl rfl rfl rfl rfl (vl (zJ a3) rfl rfl rfl rfl rfl rfl ?_)))))
    obtain ⟨r187,hr188,h⟩:=bind_some h
    refine ca (zg3 a0 x136 x136 a3 r187 hr188) (vs (zJ r187) rfl rfl (fun _=>rfl) rfl rfl rfl rfl rfl rfl (yJ (xI (nj ⟨[(0,i6 a0),(2,i6 x134),(7,ow 7),(8,ow 8),(9,ow 9),(10,ow 10)],[(7,bk (zJ a3)),(8,bk (yF)),(9,bk (zJ x173)),(10,bk (zJ r187))]⟩ (zR (vr (i6 x134) (vq (i6 (IntKind.i64.wrap (Int.tdiv x134 2))) rfl (by decide) (vr (i6 (IntKind.i64.wrap (Int.tdiv x134 2))) (yJ ?_)))))))))
    cases h
    exact ag hX164
   ·have h:=hy175
    refine sr (vr (i6 x134) (vq (i6 (Int.tmod x134 2)) rfl (by decide) (vr (.bool (((Int.tmod x134 2) == 1))) (nk ⟨[(0,i6 a0),(2,i6 x134),(7,ow 7),(8,ow 8),(9,ow 9),(10,ow 10),(25,.bool (((Int.tmod x134 2) == 1)))],[(7,bk (zJ a3)),(8,bk (yF)),(9,bk (zJ x135)),(10,bk (zJ x136))]⟩ ?_))))
    cases hb177:((Int.tmod x134 2) == 1)
    ·have h:=zW hb177 h
     refine zP rfl (yG ?_)
     exact jl x135 h
    ·have h:=zV hb177 h
     refine zO rfl (zR (vr (i6 a0) (vl (zJ x135) rfl rfl rfl rfl rfl rfl (vl (zJ x136) rfl rfl rfl rfl rfl rfl (vl (zJ a3) rfl rfl rfl rfl rfl rfl ?_)))))
     obtain ⟨r181,hr182,h⟩:=bind_some h
     refine ca (zg3 a0 x135 x136 a3 r181 hr182) (vs (zJ r181) rfl rfl (fun _=>rfl) rfl rfl rfl rfl rfl rfl (yJ ?_))
     exact jl r181 h
def zjg:Live:=[(0,[0,1]),(1,[0,3]),(2,[0,3,5,6]),(3,[]),(4,[0,3,5,6]),(5,[0,3,5,6,7]),(6,[0,3,5,6,7]),(7,[0,3,5,6,7]),(8,[0,3,5,6,7]),(9,[]),(10,[]),(100015,[0,3,5,6,15]),(100019,[0,3,5,6,7,19]),(100035,[0,3,5,6,7,35])]
noncomputable def xT (r11:Int) (a0:Int) (a1:(Vec Int 64)) (x137:Int) (x138:(Vec Int 64)):Option ((Int×(Vec Int 64))⊕(Unit⊕Bool)) :=
 (if (decide ((IntKind.i64.wrap (2*x137))≤r11)) then (Option.bind (zcm a0 x138 a0 a1) fun r172=>(Option.bind (zez) fun r187=>(Option.bind (xS a0 r172 r187 (-1)) fun r189=>(Option.bind (zcj a0 a1 r189) fun r191=>(Option.bind (yW r191) fun r193=>(if (r193 != 0) then (some (.inr (.inr false))) else (some (.inl ((IntKind.i64.wrap (x137 + 1),r172)))))))))) else (some (.inr (((.inl ()))))))
noncomputable def nK (a0:Int) (a1:(Vec Int 64)):Option Bool :=
 (Option.bind (yW a1) fun r11=>(Option.bind (zez) fun r13=>(Option.bind (vV a0 r13 a1) fun r16=>(if (decide (r11 < 1)) then (some false) else (Option.bind (α:=(Unit⊕Bool)) ((yK (fun s:(Int×(Vec Int 64))=>xT r11 a0 a1 s.1 s.2) (1,r16))) fun z=>match z with | .inl _=>(some true) | .inr r197=>(some r197))))))
theorem zi9 (a0:Int) (a1:(Vec Int 64)) (r:Bool) (h:nK a0 a1=some r):Den Tryz.prog 96 [(i6 a0),(zJ a1)] { r:=(.bool r) }:=by
 refine dd (rs:=[(.bool r)]) (L:=zjg) xL [] Tryz.func96 Tryz.ntmps96 ?_
 refine ns ⟨[(0,i6 a0),(1,zJ a1)],[]⟩ ?_
 refine sr (vo 1300 (zJ a1) rfl rfl (vr (.bool false) (nk ⟨[(0,i6 a0),(3,ow 3)],[(3,bk (zJ a1))]⟩ (yC (xH [⟨[3],[],[],[]⟩,⟨[],[],[],[0]⟩,⟨[],[],[],[]⟩,⟨[],[],[],[0,1]⟩,⟨[3],[],[],[]⟩,⟨[],[],[],[0,1,2,3,4]⟩,⟨[1600],[1600],[1600],[]⟩,⟨[],[],[],[0,1,2,3,4,5,6]⟩,⟨[1600],[1600],[],[0,1,2,3,4,5,6,7]⟩] (by kernel_rfl) (zH (vl (zJ a1) rfl rfl rfl rfl rfl rfl (dn (zH ?_)))))))))
 obtain ⟨r11,hr12,h⟩:=bind_some h
 refine ca (yZ a1 r11 hr12) (dn (dj (i6 a0) rfl (zH ?_)))
 obtain ⟨r13,hr14,h⟩:=bind_some h
 refine ca (zi1 r13 hr14) (dn (zH (vl (zJ a1) rfl rfl rfl rfl rfl rfl (dn (zH ?_)))))
 obtain ⟨r16,hr17,h⟩:=bind_some h
 refine ca (jR a0 r13 a1 r16 hr17) (dn (zH (vo 1600 (yF) rfl rfl (dn (dj (i6 r11) rfl (zH (vs (zJ r16) rfl rfl (fun _=>rfl) rfl rfl rfl rfl rfl rfl (dn (xE ?_)))))))))
 refine nj ⟨[(0,i6 a0),(3,ow 3),(5,i6 r11),(6,ow 6)],[(3,bk (zJ a1)),(6,bk (zJ r16))]⟩ (yC (sr (vr (i6 r11) (vr (.bool ((decide (r11 < 1)))) (nk ⟨[(0,i6 a0),(3,ow 3),(5,i6 r11),(6,ow 6),(15,.bool ((decide (r11 < 1))))],[(3,bk (zJ a1)),(6,bk (zJ r16))]⟩ ?_)))))
 cases hb19:(decide (r11 < 1))
 ·have h:=zW hb19 h
  refine zP rfl (yG (nj ⟨[(0,i6 a0),(3,ow 3),(5,i6 r11),(6,ow 6)],[(3,bk (zJ a1)),(6,bk (zJ r16))]⟩ ?_))
  obtain ⟨y107,hy108,hk109⟩:=bind_some h
  clear h
  refine yN (emb:=fun (s:Unit)=>⟨[],[]⟩) (kG:=fun s=>(.inl s)=y107) ?_ ?_
  ·rintro _ rfl
   have h:=hk109
   refine ns ⟨[],[]⟩ (sr (vr (.bool true) (nx _ rfl (zU ?_))))
   refine ⟨.inr rfl,?_⟩
   rw [Tryz.results96]
   cases h
   exact ⟨_,_,_,_,_,rfl,trivial,.inl ⟨rfl,.inl rfl⟩,rfl,rfl⟩
  ·have h:=hy108
   refine sr (vr (i6 1) (nk ⟨[(0,i6 a0),(3,ow 3),(5,i6 r11),(6,ow 6),(7,i6 1)],[(3,bk (zJ a1)),(6,bk (zJ r16))]⟩ (yB ?_)))
   refine xU (emb:=fun (s:(Int×(Vec Int 64)))=>⟨[(0,i6 a0),(3,ow 3),(5,i6 r11),(6,ow 6),(7,i6 s.1)],[(3,bk (zJ a1)),(6,bk (zJ s.2))]⟩) (body:=(fun s:(Int×(Vec Int 64))=>xT r11 a0 a1 s.1 s.2)) (G:=fun q=>some q=some y107) h rfl ?_ (by kernel_rfl)
   rintro X166 ⟨x137,x138⟩ x167 h hX168
   have h:xT r11 a0 a1 x137 x138=some x167:=h
   refine ns ⟨[(0,i6 a0),(3,ow 3),(5,i6 r11),(6,ow 6),(7,i6 x137)],[(3,bk (zJ a1)),(6,bk (zJ x138))]⟩ (yC (sr (vr (i6 x137) (vr (i6 (IntKind.i64.wrap (2*x137))) (vr (i6 r11) (vr (.bool ((decide ((IntKind.i64.wrap (2*x137))≤r11)))) (nk ⟨[(0,i6 a0),(3,ow 3),(5,i6 r11),(6,ow 6),(7,i6 x137),(19,.bool ((decide ((IntKind.i64.wrap (2*x137))≤r11))))],[(3,bk (zJ a1)),(6,bk (zJ x138))]⟩ ?_)))))))
   cases hb169:(decide ((IntKind.i64.wrap (2*x137))≤r11))
   ·have h:=zW hb169 h
    refine zP rfl (xR (yI ?_))
    cases h
    have h:=hX168
    refine yI (xQ ?_)
    exact jl () h
   ·have h:=zV hb169 h
    refine zO rfl (yG (nj ⟨[(0,i6 a0),(3,ow 3),(5,i6 r11),(6,ow 6),(7,i6 x137)],[(3,bk (zJ a1)),(6,bk (zJ x138))]⟩ (yC (yB (sr (vr (i6 a0) (vl (zJ x138) rfl rfl rfl rfl rfl rfl (vr (i6 a0) (vl (zJ a1) rfl rfl rfl rfl rfl rfl ?_)))))))))
    obtain ⟨r172,hr173,h⟩:=bind_some h
    refine ca (zmg a0 x138 a0 a1 r172 hr173) (vs (zJ r172) rfl rfl (fun _=>rfl) rfl rfl rfl rfl rfl rfl (nk ⟨[(0,i6 a0),(3,ow 3),(5,i6 r11),(6,ow 6),(7,i6 x137)],[(3,bk (zJ a1)),(6,bk (zJ r172))]⟩ (yC (xH [⟨[],[],[],[]⟩,⟨[3],[],[],[]⟩,⟨[],[],[],[]⟩,⟨[6],[],[],[]⟩,⟨[],[],[],[]⟩,⟨[],[],[],[2,3,4]⟩,⟨[],[],[],[0,1,2,3,4,5]⟩,⟨[],[],[],[0,1,2,3,4,5,6]⟩,⟨[],[],[],[0,1,2,3,4,5,6,7]⟩] (by kernel_rfl) (dj (i6 a0) rfl (zH (vl (zJ a1) rfl rfl rfl rfl rfl rfl (dn (dj (i6 a0) rfl ?_)))))))))
    refine zH (vl (zJ r172) rfl rfl rfl rfl rfl rfl (dn (zH ?_)))
    obtain ⟨r187,hr188,h⟩:=bind_some h
    refine ca (zi1 r187 hr188) (dn (zH ?_))
    obtain ⟨r189,hr190,h⟩:=bind_some h
    refine ca (wO a0 r172 r187 (-1) r189 hr190) (dn (zH ?_))
    obtain ⟨r191,hr192,h⟩:=bind_some h
    refine ca (zjy a0 a1 r189 r191 hr192) (dn (zH ?_))
    obtain ⟨r193,hr194,h⟩:=bind_some h
    refine ca (yZ r191 r193 hr194) (dn (dj (.bool (r193 != 0)) rfl (xE (nj ⟨[(0,i6 a0),(3,ow 3),(5,i6 r11),(6,ow 6),(7,i6 x137),(35,.bool (r193 != 0))],[(3,bk (zJ a1)),(6,bk (zJ r172))]⟩ ?_))))
    cases hb195:(r193 != 0)
    ·have h:=zW hb195 h
     refine zP rfl (yG (xI (nj ⟨[(0,i6 a0),(3,ow 3),(5,i6 r11),(6,ow 6),(7,i6 x137)],[(3,bk (zJ a1)),(6,bk (zJ r172))]⟩ (zR (vr (i6 x137) (vr (i6 (IntKind.i64.wrap (x137 + 1))) (vr (i6 (IntKind.i64.wrap (x137 + 1))) (yJ ?_))))))))
     cases h
     exact ag hX168
    ·have h:=zV hb195 h
     refine zO rfl (sr (vr (.bool false) (nx _ rfl (zU (zaz (xV ?_))))))
     cases h
     have h:=hX168
     refine xV (zaz (xV ?_))
     cases h
     have h:=hk109
     refine ⟨.inr rfl,?_⟩
     rw [Tryz.results96]
     cases h
     exact ⟨_,_,_,_,_,rfl,trivial,.inl ⟨rfl,.inl rfl⟩,rfl,rfl⟩
 ·have h:=zV hb19 h
  refine zO rfl (sr (vr (.bool false) (nx _ rfl (zU (xV ?_)))))
  refine ⟨.inr rfl,?_⟩
  rw [Tryz.results96]
  cases h
  exact ⟨_,_,_,_,_,rfl,trivial,.inl ⟨rfl,.inl rfl⟩,rfl,rfl⟩
noncomputable def zc9:ACode:=mO [(18,1),(29,1),(35,1)] (Tryz.f55.body.getD .skip)
def zhg:Live:=[(0,[0,1,2]),(1,[0,1,2,6]),(2,[0,1,2,6,7]),(3,[0,1,2,6,7,8]),(4,[0,1,2,6,7,8]),(5,[0,1,2,6,7,8]),(6,[0,1,2,6,7,8,9]),(7,[0,1,2,6,7,8,9]),(8,[0,1,2,6,7,8,9,10]),(9,[0,1,2,6,7,8,9,10]),(10,[0,1,2,6,7,8,9,10]),(11,[0,1,2,6,7,8,9]),(12,[0,1,2,6,7,8]),(13,[6,7]),(14,[6,7]),(100013,[0,1,2,6,7,8,13]),(100023,[0,1,2,6,7,8,9,10,23]),(100041,[0,1,2,6,7,8,41])]
noncomputable def wV (r443:(Int×((List Int)×Int×Int))) (a1:Int) (x483:Int) (x484:(Vec Int 64)) (x485:((List Int)×Int×Int)):Option ((Int×(Vec Int 64)×((List Int)×Int×Int))⊕((Vec Int 64)×((List Int)×Int×Int))) :=
 (if (decide (x483 < (IntKind.i64.wrap (1 + r443.1)))) then (Option.bind (zS x485 a1) fun r496=>(jA (0≤x483∧x483 < ((64:Nat):Int)) ((some (.inl ((IntKind.i64.wrap (x483 + 1),(yO x484 x483.toNat (IntKind.u8.wrap r496.1)),r496.2))))))) else (some (.inr (x484,x485))))
noncomputable def wI (a2:Int) (a1:Int) (x352:Int) (x353:(Vec Int 64)) (x354:((List Int)×Int×Int)):Option ((Int×(Vec Int 64)×((List Int)×Int×Int))⊕(((Vec Int 64)×((List Int)×Int×Int))⊕((Vec Int 64)×((List Int)×Int×Int)))) :=
 (if (decide (x352 < 4)) then (Option.bind (zS x354 a2) fun r443=>(Option.bind (α:=((Vec Int 64)×((List Int)×Int×Int))) ((yK (fun s:(Int×(Vec Int 64)×((List Int)×Int×Int))=>wV r443 a1 s.1 s.2.1 s.2.2) (0,(yH 64 (0:Int)),r443.2))) fun ⟨x472,x473⟩=>(jA (0≤IntKind.i64.wrap (1 + r443.1)∧IntKind.i64.wrap (1 + r443.1) < ((64:Nat):Int)) ((Option.bind (α:=(Bool×((List Int)×Int×Int))) ((Option.bind (zS x473 3) fun r516=>(if (r516.1 == 0) then (some (true,r516.2)) else (Option.bind (nK a1 ((yO x472 (IntKind.i64.wrap (1 + r443.1)).toNat 1))) fun r521=>(some (r521,r516.2)))))) fun ⟨x511,x512⟩=>(if x511 then (some (.inr ((.inr (((yO x472 (IntKind.i64.wrap (1 + r443.1)).toNat 1),x512)))))) else (some (.inl ((IntKind.i64.wrap (x352 + 1),(yO x472 (IntKind.i64.wrap (1 + r443.1)).toNat 1),x512)))))))))) else (some (.inr (((.inl (x353,x354)))))))
noncomputable def kU (a0:((List Int)×Int×Int)) (a1:Int) (a2:Int):Option ((Vec Int 64)×((List Int)×Int×Int)) :=
 (Option.bind (zez) fun r1=>(Option.bind (α:=(((Vec Int 64)×((List Int)×Int×Int))⊕((Vec Int 64)×((List Int)×Int×Int)))) ((yK (fun s:(Int×(Vec Int 64)×((List Int)×Int×Int))=>wI a2 a1 s.1 s.2.1 s.2.2) (0,r1,a0))) fun z=>match z with | .inl ⟨x263,x264⟩=>(some (x263,x264)) | .inr r531=>(some r531)))
theorem zgq (a0:((List Int)×Int×Int)) (a1:Int) (a2:Int) (r:((Vec Int 64)×((List Int)×Int×Int))) (h:kU a0 a1 a2=some r):Den Tryz.prog 55 [(.mutp (zB a0)),(i6 a1),(i6 a2)] { r:=(zJ r.1),ms:=[(zB r.2)],fs:=[] }:=by
 refine zed (rs:=[(zJ r.1)]) (ac:=zc9) (L:=zhg) (n:=44) (m:=[(18,1),(29,1),(35,1)]) (c:=Tryz.f55.body.getD .skip) xL Tryz.func55 (by kernel_rfl) (by kernel_rfl) Tryz.ntmps55 rfl rfl (by kernel_rfl) rfl ?_
 refine ns ⟨[(0,ow 1000000),(1,i6 a1),(2,i6 a2)],[(1000000,bk (zB a0))]⟩ ?_
 unfold zc9
 refine sr (vo 1600 (yF) rfl rfl (nk ⟨[(0,ow 1000000),(1,i6 a1),(2,i6 a2),(6,ow 6)],[(6,bk (yF)),(1000000,bk (zB a0))]⟩ (sr ?_)))
 obtain ⟨r1,hr2,h⟩:=bind_some h
 refine ca (zi1 r1 hr2) (vo 1700 (yF) rfl rfl (vs (zJ r1) rfl rfl (fun _=>rfl) rfl rfl rfl rfl rfl rfl (nk ⟨[(0,ow 1000000),(1,i6 a1),(2,i6 a2),(6,ow 6),(7,ow 7)],[(6,bk (yF)),(7,bk (zJ r1)),(1000000,bk (zB a0))]⟩ ?_)))
 obtain ⟨y265,hy266,hk267⟩:=bind_some h
 clear h
 refine yN (emb:=fun (s:((Vec Int 64)×((List Int)×Int×Int)))=>⟨[(6,ow 6),(7,ow 7)],[(6,bk (yF)),(7,bk (zJ s.1)),(1000000,bk (zB s.2))]⟩) (kG:=fun s=>(.inl s)=y265) ?_ ?_
 ·rintro ⟨x263,x264⟩ rfl
  have h:=hk267
  refine ns ⟨[(6,ow 6),(7,ow 7)],[(6,bk (yF)),(7,bk (zJ x263)),(1000000,bk (zB x264))]⟩ (sr (vl (zJ x263) rfl rfl rfl rfl rfl rfl (vs (zJ x263) rfl rfl (fun _=>rfl) rfl rfl rfl rfl rfl rfl (nx _ rfl (zU ?_)))))
  have hl530:LdOk [] (zJ x263) [] 64 true (zJ x263):=(.nil rfl rfl rfl)
  refine ⟨.inr rfl,?_⟩
  rw [Tryz.results55]
  cases h
  exact ⟨[],⟨_,_,_,_,_,zM (i:=⟨.arr 64 5,64,64,(zJ (yH 64 (0:Int)))⟩) rfl rfl rfl hl530,hl530.c,rfl,.inl ⟨rfl,.inl rfl,⟨rfl,rfl,rfl⟩⟩⟩,rfl,⟨_,_,rfl,rfl,rfl⟩⟩
 ·have h:=hy266
  refine sr (vr (i6 0) (nk ⟨[(0,ow 1000000),(1,i6 a1),(2,i6 a2),(6,ow 6),(7,ow 7),(8,i6 0)],[(6,bk (yF)),(7,bk (zJ r1)),(1000000,bk (zB a0))]⟩ (yB ?_)))
  refine xU (emb:=fun (s:(Int×(Vec Int 64)×((List Int)×Int×Int)))=>⟨[(0,ow 1000000),(1,i6 a1),(2,i6 a2),(6,ow 6),(7,ow 7),(8,i6 s.1)],[(6,bk (yF)),(7,bk (zJ s.2.1)),(1000000,bk (zB s.2.2))]⟩) (body:=(fun s:(Int×(Vec Int 64)×((List Int)×Int×Int))=>wI a2 a1 s.1 s.2.1 s.2.2)) (G:=fun q=>some q=some y265) h rfl ?_ (by kernel_rfl)
  rintro X439 ⟨x352,x353,x354⟩ x440 h hX441
  have h:wI a2 a1 x352 x353 x354=some x440:=h
  refine ns ⟨[(0,ow 1000000),(1,i6 a1),(2,i6 a2),(6,ow 6),(7,ow 7),(8,i6 x352)],[(6,bk (yF)),(7,bk (zJ x353)),(1000000,bk (zB x354))]⟩ (yC (sr (vr (i6 x352) (vr (.bool ((decide (x352 < 4)))) (nk ⟨[(0,ow 1000000),(1,i6 a1),(2,i6 a2),(6,ow 6),(7,ow 7),(8,i6 x352),(13,.bool ((decide (x352 < 4))))],[(6,bk (yF)),(7,bk (zJ x353)),(1000000,bk (zB x354))]⟩ ?_)))))
  cases hb442:(decide (x352 < 4))
  ·have h:=zW hb442 h
   refine zP rfl (xR (yI ?_))
   cases h
   have h:=hX441
   refine yI (xQ ?_)
   exact jl (x353,x354) h
  ·have h:=zV hb442 h
   refine zO rfl (yG (nj ⟨[(0,ow 1000000),(1,i6 a1),(2,i6 a2),(6,ow 6),(7,ow 7),(8,i6 x352)],[(6,bk (yF)),(7,bk (zJ x353)),(1000000,bk (zB x354))]⟩ (yC (yB (sr (vr (ow 1000000) (vr (i6 a2) ?_)))))))
   obtain ⟨r443,hr444,h⟩:=bind_some h
   refine xD (args:=[(.mutp (zB x354)),(i6 a2)]) (i:=0) (id:=1000000) (r:=(i6 r443.1)) (c:=(zB r443.2)) rfl rfl (yA x354 a2 r443 hr444) rfl trivial (vr (i6 (IntKind.i64.wrap (1 + r443.1))) (vr (i6 (IntKind.i64.wrap (1 + r443.1))) (nk ⟨[(0,ow 1000000),(1,i6 a1),(2,i6 a2),(6,ow 6),(7,ow 7),(8,i6 x352),(9,i6 (IntKind.i64.wrap (1 + r443.1)))],[(6,bk (yF)),(7,bk (zJ x353)),(1000000,bk (zB r443.2))]⟩ (sr (vq (yF) rfl ⟨⟨_,rfl,rfl⟩,all_nil⟩ (vs (yF) rfl rfl (fun _=>rfl) rfl rfl rfl rfl rfl rfl (nk ⟨[(0,ow 1000000),(1,i6 a1),(2,i6 a2),(6,ow 6),(7,ow 7),(8,i6 x352),(9,i6 (IntKind.i64.wrap (1 + r443.1)))],[(6,bk (yF)),(7,bk (yF)),(1000000,bk (zB r443.2))]⟩ ?_)))))))
   obtain ⟨y474,hy475,hk476⟩:=bind_some h
   clear h
   refine yN (emb:=fun (s:((Vec Int 64)×((List Int)×Int×Int)))=>⟨[(0,ow 1000000),(1,i6 a1),(2,i6 a2),(6,ow 6),(7,ow 7),(8,i6 x352),(9,i6 (IntKind.i64.wrap (1 + r443.1)))],[(6,bk (yF)),(7,bk (zJ s.1)),(1000000,bk (zB s.2))]⟩) (kG:=fun s=>s=y474) ?_ ?_
   ·rintro ⟨x472,x473⟩ rfl
    have h:=hk476
    refine ns ⟨[(0,ow 1000000),(1,i6 a1),(2,i6 a2),(6,ow 6),(7,ow 7),(8,i6 x352),(9,i6 (IntKind.i64.wrap (1 + r443.1)))],[(6,bk (yF)),(7,bk (zJ x472)),(1000000,bk (zB x473))]⟩ (sr (vr (i6 (IntKind.i64.wrap (1 + r443.1))) ?_))
    obtain ⟨hc502,h⟩:=zT h
    refine vq (.own 7 [(IntKind.i64.wrap (1 + r443.1)).toNat] [(IntKind.i64.wrap (1 + r443.1)).toNat*1]) rfl hc502 ?_
    have hs503:StOk [(IntKind.i64.wrap (1 + r443.1)).toNat] (zJ x472) [(IntKind.i64.wrap (1 + r443.1)).toNat*1] 1 (b8 1) (zJ ((yO x472 (IntKind.i64.wrap (1 + r443.1)).toNat 1))):=(.arr (y:=1) (vlt x472 hc502) rfl (.nil rfl rfl rfl rfl))
    refine vu .top [(7,bk (zJ ((yO x472 (IntKind.i64.wrap (1 + r443.1)).toNat 1))))] (qG (i:=⟨.int .u8,1,1,(.int .u8 0)⟩) rfl rfl (fun _=>rfl) rfl hs503) (hs503.c rfl) rfl (nk ⟨[(0,ow 1000000),(1,i6 a1),(2,i6 a2),(6,ow 6),(7,ow 7),(8,i6 x352)],[(6,bk (yF)),(7,bk (zJ ((yO x472 (IntKind.i64.wrap (1 + r443.1)).toNat 1)))),(1000000,bk (zB x473))]⟩ ?_)
    obtain ⟨y513,hy514,hk515⟩:=bind_some h
    clear h
    refine yN (emb:=fun (s:(Bool×((List Int)×Int×Int)))=>⟨[(0,ow 1000000),(1,i6 a1),(2,i6 a2),(6,ow 6),(7,ow 7),(8,i6 x352),(41,.bool s.1)],[(6,bk (yF)),(7,bk (zJ ((yO x472 (IntKind.i64.wrap (1 + r443.1)).toNat 1)))),(1000000,bk (zB s.2))]⟩) (kG:=fun s=>s=y513) ?_ ?_
    ·rintro ⟨x511,x512⟩ rfl
     have h:=hk515
     refine ns ⟨[(0,ow 1000000),(1,i6 a1),(2,i6 a2),(6,ow 6),(7,ow 7),(8,i6 x352),(41,.bool x511)],[(6,bk (yF)),(7,bk (zJ ((yO x472 (IntKind.i64.wrap (1 + r443.1)).toNat 1)))),(1000000,bk (zB x512))]⟩ ?_
     cases hb523:x511
     ·have h:=zW hb523 h
      refine zP rfl (yG (xI (nj ⟨[(0,ow 1000000),(1,i6 a1),(2,i6 a2),(6,ow 6),(7,ow 7),(8,i6 x352)],[(6,bk (yF)),(7,bk (zJ ((yO x472 (IntKind.i64.wrap (1 + r443.1)).toNat 1)))),(1000000,bk (zB x512))]⟩ (zR (vr (i6 x352) (vr (i6 (IntKind.i64.wrap (x352 + 1))) (vr (i6 (IntKind.i64.wrap (x352 + 1))) (yJ ?_))))))))
      cases h
      exact ag hX441
     ·have h:=zV hb523 h
      refine zO rfl (sr (vl (zJ ((yO x472 (IntKind.i64.wrap (1 + r443.1)).toNat 1))) rfl rfl rfl rfl rfl rfl (vs (zJ ((yO x472 (IntKind.i64.wrap (1 + r443.1)).toNat 1))) rfl rfl (fun _=>rfl) rfl rfl rfl rfl rfl rfl (nx _ rfl (zU (zaz (xV ?_)))))))
      cases h
      have h:=hX441
      refine xV (zaz (xV ?_))
      cases h
      have h:=hk267
      have hl526:LdOk [] (zJ ((yO x472 (IntKind.i64.wrap (1 + r443.1)).toNat 1))) [] 64 true (zJ ((yO x472 (IntKind.i64.wrap (1 + r443.1)).toNat 1))):=(.nil rfl rfl rfl)
      refine ⟨.inr rfl,?_⟩
      rw [Tryz.results55]
      cases h
      exact ⟨[],⟨_,_,_,_,_,zM (i:=⟨.arr 64 5,64,64,(zJ (yH 64 (0:Int)))⟩) rfl rfl rfl hl526,hl526.c,rfl,.inl ⟨rfl,.inl rfl,⟨rfl,rfl,rfl⟩⟩⟩,rfl,⟨_,_,rfl,rfl,rfl⟩⟩
    ·have h:=hy514
     refine zR (vr (ow 1000000) ?_)
     obtain ⟨r516,hr517,h⟩:=bind_some h
     refine xD (args:=[(.mutp (zB x473)),(i6 3)]) (i:=0) (id:=1000000) (r:=(i6 r516.1)) (c:=(zB r516.2)) rfl rfl (yA x473 3 r516 hr517) rfl trivial (vr (.bool (r516.1 == 0)) (vr (.bool (r516.1 == 0)) ?_))
     cases hb519:(r516.1 == 0)
     ·have h:=zW hb519 h
      refine gp (i6 a1) rfl rfl ?_
      have hl520:LdOk [] (zJ ((yO x472 (IntKind.i64.wrap (1 + r443.1)).toNat 1))) [] 64 true (zJ ((yO x472 (IntKind.i64.wrap (1 + r443.1)).toNat 1))):=(.nil rfl rfl rfl)
      refine gq (zJ ((yO x472 (IntKind.i64.wrap (1 + r443.1)).toNat 1))) rfl (zM (i:=⟨.arr 64 5,64,64,(zJ (yH 64 (0:Int)))⟩) rfl rfl rfl hl520) hl520.c ?_
      obtain ⟨r521,hr522,h⟩:=bind_some h
      refine wQ rfl (args:=[(i6 a1),(zJ ((yO x472 (IntKind.i64.wrap (1 + r443.1)).toNat 1)))]) (u:=[]) (r:=(.bool r521)) rfl rfl (zi9 a1 ((yO x472 (IntKind.i64.wrap (1 + r443.1)).toNat 1)) r521 hr522) rfl (vr (.bool r521) (yJ ?_))
      exact jl (r521,r516.2) h
     ·have h:=zV hb519 h
      refine zD rfl (zD rfl (zD rfl (vr (.bool true) (yJ ?_))))
      exact jl (true,r516.2) h
   ·have h:=hy475
    refine sr (vr (i6 0) (nk ⟨[(0,ow 1000000),(1,i6 a1),(2,i6 a2),(6,ow 6),(7,ow 7),(8,i6 x352),(9,i6 (IntKind.i64.wrap (1 + r443.1))),(10,i6 0)],[(6,bk (yF)),(7,bk (yF)),(1000000,bk (zB r443.2))]⟩ (yB ?_)))
    refine xU (emb:=fun (s:(Int×(Vec Int 64)×((List Int)×Int×Int)))=>⟨[(0,ow 1000000),(1,i6 a1),(2,i6 a2),(6,ow 6),(7,ow 7),(8,i6 x352),(9,i6 (IntKind.i64.wrap (1 + r443.1))),(10,i6 s.1)],[(6,bk (yF)),(7,bk (zJ s.2.1)),(1000000,bk (zB s.2.2))]⟩) (body:=(fun s:(Int×(Vec Int 64)×((List Int)×Int×Int))=>wV r443 a1 s.1 s.2.1 s.2.2)) (G:=fun q=>some q=some y474) h rfl ?_ (by kernel_rfl)
    rintro X492 ⟨x483,x484,x485⟩ x493 h hX494
    have h:wV r443 a1 x483 x484 x485=some x493:=h
    refine ns ⟨[(0,ow 1000000),(1,i6 a1),(2,i6 a2),(6,ow 6),(7,ow 7),(8,i6 x352),(9,i6 (IntKind.i64.wrap (1 + r443.1))),(10,i6 x483)],[(6,bk (yF)),(7,bk (zJ x484)),(1000000,bk (zB x485))]⟩ (yC (sr (vr (i6 x483) (vr (i6 (IntKind.i64.wrap (1 + r443.1))) (vr (.bool ((decide (x483 < (IntKind.i64.wrap (1 + r443.1)))))) (nk ⟨[(0,ow 1000000),(1,i6 a1),(2,i6 a2),(6,ow 6),(7,ow 7),(8,i6 x352),(9,i6 (IntKind.i64.wrap (1 + r443.1))),(10,i6 x483),(23,.bool ((decide (x483 < (IntKind.i64.wrap (1 + r443.1))))))],[(6,bk (yF)),(7,bk (zJ x484)),(1000000,bk (zB x485))]⟩ ?_))))))
    cases hb495:(decide (x483 < (IntKind.i64.wrap (1 + r443.1))))
    ·have h:=zW hb495 h
     refine zP rfl (xR (yI ?_))
     cases h
     have h:=hX494
     refine yI (xQ ?_)
     exact jl (x484,x485) h
    ·have h:=zV hb495 h
     refine zO rfl (yG (nj ⟨[(0,ow 1000000),(1,i6 a1),(2,i6 a2),(6,ow 6),(7,ow 7),(8,i6 x352),(9,i6 (IntKind.i64.wrap (1 + r443.1))),(10,i6 x483)],[(6,bk (yF)),(7,bk (zJ x484)),(1000000,bk (zB x485))]⟩ (yC (yB (zR (vr (i6 x483) (vr (ow 1000000) (vr (i6 a1) ?_))))))))
     obtain ⟨r496,hr497,h⟩:=bind_some h
     refine xD (args:=[(.mutp (zB x485)),(i6 a1)]) (i:=0) (id:=1000000) (r:=(i6 r496.1)) (c:=(zB r496.2)) rfl rfl (yA x485 a1 r496 hr497) rfl trivial (vr (b8 (IntKind.u8.wrap r496.1)) ?_)
     obtain ⟨hc499,h⟩:=zT h
     refine vq (.own 7 [x483.toNat] [x483.toNat*1]) rfl hc499 ?_
     have hs500:StOk [x483.toNat] (zJ x484) [x483.toNat*1] 1 (b8 (IntKind.u8.wrap r496.1)) (zJ ((yO x484 x483.toNat (IntKind.u8.wrap r496.1)))):=(.arr (y:=IntKind.u8.wrap r496.1) (vlt x484 hc499) rfl (.nil rfl rfl rfl rfl))
     refine vu .top [(7,bk (zJ ((yO x484 x483.toNat (IntKind.u8.wrap r496.1)))))] (qG (i:=⟨.int .u8,1,1,(.int .u8 0)⟩) rfl rfl (fun _=>rfl) rfl hs500) (hs500.c rfl) rfl (yJ (xI (nj ⟨[(0,ow 1000000),(1,i6 a1),(2,i6 a2),(6,ow 6),(7,ow 7),(8,i6 x352),(9,i6 (IntKind.i64.wrap (1 + r443.1))),(10,i6 x483)],[(6,bk (yF)),(7,bk (zJ ((yO x484 x483.toNat (IntKind.u8.wrap r496.1))))),(1000000,bk (zB r496.2))]⟩ (zR (vr (i6 x483) (vr (i6 (IntKind.i64.wrap (x483 + 1))) (vr (i6 (IntKind.i64.wrap (x483 + 1))) (yJ ?_))))))))
     cases h
     exact ag hX494
def zml:Live:=[(0,[0]),(1,[0,3,4]),(2,[3,4,5]),(3,[3,4,5,6,7]),(4,[3,4,5,6,7,8]),(5,[3,4,5,6,7,8]),(6,[3,4,6,7,8]),(100026,[3,4,5,6,7,8,26])]
noncomputable def zdk (a0:(List Int)):Option (Int×(Vec Int 64)×((Vec Int 64)×(Vec Int 64))) :=
 (Option.bind (jO a0) fun r1=>(Option.bind (wS r1) fun r3=>(Option.bind (xW r3.2.2 r3.1 r3.2.1 false) fun r8=>(Option.bind (α:=((Vec Int 64)×(Vec Int 64))) ((Option.bind (α:=(Bool×((List Int)×Int×Int))) ((Option.bind (zS r8.2 4) fun r49=>(if (r49.1 == 0) then (Option.bind (zbt r3.1) fun r53=>(some (r53,r49.2))) else (some (false,r49.2))))) fun ⟨x44,x45⟩=>(if x44 then (Option.bind (kU x45 r3.1 3) fun r56=>(some (r56.1,r8.1.2))) else (some r8.1)))) fun x34=>(some (r3.1,r3.2.1,x34))))))
theorem zl2 (a0:(List Int)) (r:(Int×(Vec Int 64)×((Vec Int 64)×(Vec Int 64)))) (h:zdk a0=some r):Den Tryz.prog 22 [(xJ a0)] { r:=(.tuple [(i6 r.1),(zJ r.2.1),(zA r.2.2)]) }:=by
 refine dd (rs:=[(i6 r.1),(zJ r.2.1),(zA r.2.2)]) (L:=zml) xL [(13,1),(19,1),(21,1),(29,1)] Tryz.func22 Tryz.ntmps22 ?_
 refine ns ⟨[(0,xJ a0)],[]⟩ ?_
 refine sr (vr (i6 0) (vo 1300 (yF) rfl rfl (vo 1400 xA rfl rfl (nk ⟨[(0,xJ a0),(3,ow 3),(4,ow 4)],[(3,bk (yF)),(4,bk xA)]⟩ (sr (vr (xJ a0) ?_))))))
 obtain ⟨r1,hr2,h⟩:=bind_some h
 refine zg4 (args:=[(xJ a0)]) (u:=[]) (u2:=[]) (r:=(ow 2000000)) (fs:=[(0,[zB r1])]) rfl rfl (nE a0 r1 hr2) rfl rfl rfl (.inl rfl) rfl (vr (ow 2000) (nk ⟨[(3,ow 3),(4,ow 4),(5,ow 5)],[(3,bk (yF)),(4,bk xA),(5,bk (zB r1))]⟩ (sr (vr (ow 5) ?_))))
 obtain ⟨r3,hr4,h⟩:=bind_some h
 refine xD (args:=[(.mutp (zB r1))]) (i:=0) (id:=5) (r:=(.tuple [(i6 r3.1),(zJ r3.2.1)])) (c:=(zB r3.2.2)) rfl rfl (vY r1 r3 hr4) rfl trivial (vr (.tuple [(i6 r3.1),(zJ r3.2.1)]) (vb (i6 r3.1) rfl rfl (vb (zJ r3.2.1) rfl rfl (vo 1700 (yF) rfl rfl (vr (i6 r3.1) (vs (zJ r3.2.1) rfl rfl (fun _=>rfl) rfl rfl rfl rfl rfl rfl (nk ⟨[(3,ow 3),(4,ow 4),(5,ow 5),(6,i6 r3.1),(7,ow 7)],[(3,bk (yF)),(4,bk xA),(5,bk (zB r3.2.2)),(7,bk (zJ r3.2.1))]⟩ (sr (vr (ow 5) ?_)))))))))
 refine vr (i6 r3.1) (vl (zJ r3.2.1) rfl rfl rfl rfl rfl rfl ?_)
 obtain ⟨r8,hr9,h⟩:=bind_some h
 refine xD (args:=[(.mutp (zB r3.2.2)),(i6 r3.1),(zJ r3.2.1),(.bool false)]) (i:=0) (id:=5) (r:=(zA r8.1)) (c:=(zB r8.2)) rfl rfl (wM r3.2.2 r3.1 r3.2.1 false r8 hr9) rfl trivial (vo 1800 xA rfl rfl (vs (zA r8.1) rfl rfl (fun _=>rfl) rfl rfl rfl rfl rfl rfl (nk ⟨[(3,ow 3),(4,ow 4),(5,ow 5),(6,i6 r3.1),(7,ow 7),(8,ow 8)],[(3,bk (yF)),(4,bk xA),(5,bk (zB r8.2)),(7,bk (zJ r3.2.1)),(8,bk (zA r8.1))]⟩ ?_)))
 obtain ⟨y35,hy36,hk37⟩:=bind_some h
 clear h
 refine yN (emb:=fun (s:((Vec Int 64)×(Vec Int 64)))=>⟨[(3,ow 3),(4,ow 4),(6,i6 r3.1),(7,ow 7),(8,ow 8)],[(3,bk (yF)),(4,bk xA),(7,bk (zJ r3.2.1)),(8,bk (zA s))]⟩) (kG:=fun s=>s=y35) ?_ ?_
 ·rintro x34 rfl
  have h:=hk37
  refine ns ⟨[(3,ow 3),(4,ow 4),(6,i6 r3.1),(7,ow 7),(8,ow 8)],[(3,bk (yF)),(4,bk xA),(7,bk (zJ r3.2.1)),(8,bk (zA x34))]⟩ (yC (xH [⟨[],[],[],[]⟩,⟨[7],[],[],[]⟩,⟨[8],[],[],[]⟩,⟨[],[],[],[0]⟩,⟨[3],[3],[],[0,1,3]⟩,⟨[4],[4],[],[0,1,2,3,4]⟩] (by kernel_rfl) (dj (i6 r3.1) rfl (zH (vl (zJ r3.2.1) rfl rfl rfl rfl rfl rfl (dn (zH (vl (zA x34) rfl rfl rfl rfl rfl rfl (dn ?_)))))))))
  refine dj (i6 r3.1) rfl (zH (vs (zJ r3.2.1) rfl rfl (fun _=>rfl) rfl rfl rfl rfl rfl rfl (dn (zH (vs (zA x34) rfl rfl (fun _=>rfl) rfl rfl rfl rfl rfl rfl (dn (xE (wC rfl (zU ?_)))))))))
  have hl68:LdOk [] (zJ r3.2.1) [] 64 true (zJ r3.2.1):=(.nil rfl rfl rfl)
  have hl69:LdOk [] (zA x34) [] 128 true (zA x34):=(.nil rfl rfl rfl)
  refine ⟨.inr rfl,?_⟩
  rw [Tryz.results22]
  cases h
  exact ⟨_,_,_,_,_,rfl,trivial,.inl ⟨rfl,.inl rfl⟩,rfl,⟨_,_,_,_,_,zM (i:=⟨.arr 64 5,64,64,(zJ (yH 64 (0:Int)))⟩) rfl rfl rfl hl68,hl68.c,.inl ⟨rfl,.inl rfl⟩,rfl,⟨_,_,_,_,_,zM (i:=⟨.struct [(0,25),(64,25)],128,128,xA⟩) rfl rfl rfl hl69,hl69.c,.inl ⟨rfl,.inl rfl⟩,rfl,rfl⟩⟩⟩
 ·have h:=hy36
  obtain ⟨y46,hy47,hk48⟩:=bind_some h
  clear h
  refine yN (emb:=fun (s:(Bool×((List Int)×Int×Int)))=>⟨[(3,ow 3),(4,ow 4),(5,ow 5),(6,i6 r3.1),(7,ow 7),(8,ow 8),(26,.bool s.1)],[(3,bk (yF)),(4,bk xA),(5,bk (zB s.2)),(7,bk (zJ r3.2.1)),(8,bk (zA r8.1))]⟩) (kG:=fun s=>s=y46) ?_ ?_
  ·rintro ⟨x44,x45⟩ rfl
   have h:=hk48
   refine ns ⟨[(3,ow 3),(4,ow 4),(5,ow 5),(6,i6 r3.1),(7,ow 7),(8,ow 8),(26,.bool x44)],[(3,bk (yF)),(4,bk xA),(5,bk (zB x45)),(7,bk (zJ r3.2.1)),(8,bk (zA r8.1))]⟩ ?_
   cases hb55:x44
   ·have h:=zW hb55 h
    refine zP rfl (yG ?_)
    exact jl r8.1 h
   ·have h:=zV hb55 h
    refine zO rfl (zR (vr (ow 5) (vr (i6 r3.1) ?_)))
    obtain ⟨r56,hr57,h⟩:=bind_some h
    refine xD (args:=[(.mutp (zB x45)),(i6 r3.1),(i6 3)]) (i:=0) (id:=5) (r:=(zJ r56.1)) (c:=(zB r56.2)) rfl rfl (zgq x45 r3.1 3 r56 hr57) rfl trivial (vb (.own 8 [0] [0]) rfl rfl ?_)
    have hs59:StOk [0] (zA r8.1) [0] 64 (zJ r56.1) (zA (r56.1,r8.1.2)):=(.fld rfl rfl rfl rfl (.nil rfl rfl rfl rfl))
    refine vu .top [(8,bk (zA (r56.1,r8.1.2)))] (qG (i:=⟨.arr 64 5,64,64,(zJ (yH 64 (0:Int)))⟩) rfl rfl (fun _=>rfl) rfl hs59) (hs59.c rfl) rfl (yJ ?_)
    exact jl (r56.1,r8.1.2) h
  ·have h:=hy47
   refine zR (vr (ow 5) ?_)
   obtain ⟨r49,hr50,h⟩:=bind_some h
   refine xD (args:=[(.mutp (zB r8.2)),(i6 4)]) (i:=0) (id:=5) (r:=(i6 r49.1)) (c:=(zB r49.2)) rfl rfl (yA r8.2 4 r49 hr50) rfl trivial (vr (.bool (r49.1 == 0)) (vr (.bool (r49.1 == 0)) ?_))
   cases hb52:(r49.1 == 0)
   ·have h:=zW hb52 h
    refine zD rfl (zD rfl (vr (.bool false) (yJ ?_)))
    exact jl (false,r49.2) h
   ·have h:=zV hb52 h
    refine gp (i6 r3.1) rfl rfl ?_
    obtain ⟨r53,hr54,h⟩:=bind_some h
    refine wQ rfl (args:=[(i6 r3.1)]) (u:=[]) (r:=(.bool r53)) rfl rfl (ze0 r3.1 r53 hr54) rfl (vr (.bool r53) (yJ ?_))
    exact jl (r53,r49.2) h
noncomputable def zca:ACode:=mO [(5,1)] (Tryz.f97.body.getD .skip)
def zge:Live:=[(0,[0]),(1,[0])]
noncomputable def jM (a0:((List Int)×Int×Int)):Option (Int×((List Int)×Int×Int)) :=
 (Option.bind (wA a0 ([2,2,3,3,5,7])) fun r1=>(some (r1.1,r1.2)))
theorem zfw (a0:((List Int)×Int×Int)) (r:(Int×((List Int)×Int×Int))) (h:jM a0=some r):Den Tryz.prog 97 [(.mutp (zB a0))] { r:=(i6 r.1),ms:=[(zB r.2)],fs:=[] }:=by
 refine zed (rs:=[(i6 r.1)]) (ac:=zca) (L:=zge) (n:=6) (m:=[(5,1)]) (c:=Tryz.f97.body.getD .skip) xL Tryz.func97 (by kernel_rfl) (by kernel_rfl) Tryz.ntmps97 rfl rfl (by kernel_rfl) rfl ?_
 refine ns ⟨[(0,ow 1000000)],[(1000000,bk (zB a0))]⟩ ?_
 unfold zca
 refine sr (vr (i6 0) (nk ⟨[(0,ow 1000000)],[(1000000,bk (zB a0))]⟩ (sr (vr (ow 1000000) (vq (.sl 1 true (([2,2,3,3,5,7]).map (AV.int .i64))) rfl ⟨(yS rfl),(yS rfl),(all_cons ⟨(yS rfl),rfl⟩ (all_cons ⟨(yS rfl),rfl⟩ (all_cons ⟨(yS rfl),rfl⟩ (all_cons ⟨(yS rfl),rfl⟩ (all_cons ⟨(yS rfl),rfl⟩ (all_cons ⟨(yS rfl),rfl⟩ all_nil))))))⟩ ?_)))))
 obtain ⟨r1,hr2,h⟩:=bind_some h
 refine xD (args:=[(.mutp (zB a0)),(.sl 1 true (([2,2,3,3,5,7]).map (AV.int .i64)))]) (i:=0) (id:=1000000) (r:=(i6 r1.1)) (c:=(zB r1.2)) rfl rfl (Den.argsM (vA a0 ([2,2,3,3,5,7]) r1 hr2) rfl rfl (.cons (.loose _) .nil)) rfl trivial (vr (i6 r1.1) (nx _ rfl (zU ?_)))
 refine ⟨.inr rfl,?_⟩
 rw [Tryz.results97]
 cases h
 exact ⟨[],⟨_,_,_,_,_,rfl,trivial,rfl,.inl ⟨rfl,.inl rfl,⟨rfl,rfl,rfl⟩⟩⟩,rfl,⟨_,_,rfl,rfl,rfl⟩⟩
end Go.Proofs.YtebfhlnfmkhmcaaGreat
