/- Functions of the program: plain Lean functions, and that the program computes them. Printed by gen.py. -/
import Derived.Test.YtebfhlnfmkhmcaaGreatFnT
import Derived.Test.YtebfhlnfmkhmcaaGreatFn1
import Derived.Test.YtebfhlnfmkhmcaaGreatFn2
import Derived.Test.YtebfhlnfmkhmcaaGreatFn3
import Derived.Test.YtebfhlnfmkhmcaaGreatFn5
import Derived.Test.YtebfhlnfmkhmcaaGreatFn6
import Derived.Test.YtebfhlnfmkhmcaaGreatFn7
namespace Go.Proofs.YtebfhlnfmkhmcaaGreat
open Go.Abs Go.Proofs
set_option linter.unusedSimpArgs false
set_option linter.unusedVariables false
set_option maxHeartbeats 16000000
attribute [local irreducible] Abs.acode Abs.aops Abs.aopsT Abs.thenK Abs.blockK

def zmi:Live:=[(0,[0,1,2,3]),(1,[0,5,6,7,8]),(2,[0,5,6,7,8,9]),(3,[0,5,6,7,8,9,10,11,12]),(4,[0,5,6,7,8,11,12,13,14,15]),(5,[0,5,6,7,8,12,13,14,15,16]),(6,[0,5,6,7,8,13,15,16,18]),(7,[0,5,6,7,8,13,15,16,18,20]),(8,[0,5,6,7,8,13,15,16,18,20,22]),(9,[0,5,6,7,8,13,15,16,18,24]),(10,[0,5,6,7,8,13,15,16,18,24,26]),(11,[0,5,8,13,15,24,26,28]),(12,[0,5,8,13,24,28,29]),(13,[0,5,8,24,31])]
noncomputable def kX (a0:Int) (a1:(Vec Int 64)) (a2:((Vec Int 64)×(Vec Int 64))) (a3:((Vec Int 64)×(Vec Int 64))):Option ((Vec Int 64)×(Vec Int 64)) :=
 (Option.bind (xS a0 a2.2 a3.2 1) fun r3=>(Option.bind (kE a0 a2.1 a3.1) fun r8=>(Option.bind (kE a0 r8.1 r3) fun r15=>(Option.bind (xO a0 r15.2.1 r8.2.1) fun r22=>(Option.bind (xO a0 r15.2.1 r8.2.2) fun r27=>(Option.bind (xO a0 r15.1 r15.1) fun r32=>(Option.bind (xO a0 a2.1 a3.1) fun r37=>(Option.bind (kF a0 r37.1 r32.1) fun r42=>(Option.bind (xO a0 a2.2 a3.2) fun r48=>(Option.bind (nH a0 r22.1 a2.1 a3.2) fun r67=>(Option.bind (nH a0 r27.1 a3.1 a2.2) fun r72=>(Option.bind (xS a0 r67 r72 1) fun r74=>(Option.bind (xS a0 r48.1 a1 1) fun r88=>(Option.bind (xO a0 r15.2.2 r88) fun r90=>(Option.bind (xS a0 r74 r90.1 1) fun r104=>(Option.bind (kF a0 r104 r15.1) fun r107=>(Option.bind (vV a0 r107.1 r42.1) fun r124=>(Option.bind (nS a0 a1 (r42.1,r124)) fun r126=>(some r126)))))))))))))))))))
theorem za6 (a0:Int) (a1:(Vec Int 64)) (a2:((Vec Int 64)×(Vec Int 64))) (a3:((Vec Int 64)×(Vec Int 64))) (r:((Vec Int 64)×(Vec Int 64))) (h:kX a0 a1 a2 a3=some r):Den Tryz.prog 37 [(i6 a0),(zJ a1),(zA a2),(zA a3)] { r:=(zA r) }:=by
 refine dd (rs:=[(zA r)]) (L:=zmi) xL [] Tryz.func37 Tryz.ntmps37 ?_
 refine ns ⟨[(0,i6 a0),(1,zJ a1),(2,zA a2),(3,zA a3)],[]⟩ ?_
 refine sr (vo 1500 (zJ a1) rfl rfl (vo 1600 (zA a2) rfl rfl (vo 1700 (zA a3) rfl rfl (vo 1800 xA rfl rfl (nk ⟨[(0,i6 a0),(5,ow 5),(6,ow 6),(7,ow 7),(8,ow 8)],[(5,bk (zJ a1)),(6,bk (zA a2)),(7,bk (zA a3)),(8,bk xA)]⟩ (sr (vr (i6 a0) (vb (.own 6 [1] [64]) rfl rfl ?_))))))))
 have hl1:LdOk [1] (zA a2) [64] 64 true (zJ a2.2):=(.fld rfl rfl rfl rfl (.nil rfl rfl rfl))
 refine vq (zJ a2.2) (zM (i:=⟨.arr 64 5,64,64,(zJ (yH 64 (0:Int)))⟩) rfl rfl rfl hl1) hl1.c (vb (.own 7 [1] [64]) rfl rfl ?_)
 have hl2:LdOk [1] (zA a3) [64] 64 true (zJ a3.2):=(.fld rfl rfl rfl rfl (.nil rfl rfl rfl))
 refine vq (zJ a3.2) (zM (i:=⟨.arr 64 5,64,64,(zJ (yH 64 (0:Int)))⟩) rfl rfl rfl hl2) hl2.c ?_
 obtain ⟨r3,hr4,h⟩:=bind_some h
 refine ca (wO a0 a2.2 a3.2 1 r3 hr4) (vo 1900 (yF) rfl rfl (vs (zJ r3) rfl rfl (fun _=>rfl) rfl rfl rfl rfl rfl rfl (nk ⟨[(0,i6 a0),(5,ow 5),(6,ow 6),(7,ow 7),(8,ow 8),(9,ow 9)],[(5,bk (zJ a1)),(6,bk (zA a2)),(7,bk (zA a3)),(8,bk xA),(9,bk (zJ r3))]⟩ (sr (vr (i6 a0) (vb (.own 6 [0] [0]) rfl rfl ?_))))))
 have hl6:LdOk [0] (zA a2) [0] 64 true (zJ a2.1):=(.fld rfl rfl rfl rfl (.nil rfl rfl rfl))
 refine vq (zJ a2.1) (zM (i:=⟨.arr 64 5,64,64,(zJ (yH 64 (0:Int)))⟩) rfl rfl rfl hl6) hl6.c (vb (.own 7 [0] [0]) rfl rfl ?_)
 have hl7:LdOk [0] (zA a3) [0] 64 true (zJ a3.1):=(.fld rfl rfl rfl rfl (.nil rfl rfl rfl))
 refine vq (zJ a3.1) (zM (i:=⟨.arr 64 5,64,64,(zJ (yH 64 (0:Int)))⟩) rfl rfl rfl hl7) hl7.c ?_
 obtain ⟨r8,hr9,h⟩:=bind_some h
 refine ca (zb2 a0 a2.1 a3.1 r8 hr9) (vr (.tuple [(zJ r8.1),(zJ r8.2.1),(zJ r8.2.2)]) (vb (zJ r8.1) rfl rfl (vb (zJ r8.2.1) rfl rfl (vb (zJ r8.2.2) rfl rfl (vo 2000 (yF) rfl rfl (vo 2100 (yF) rfl rfl (vo 2200 (yF) rfl rfl (vs (zJ r8.1) rfl rfl (fun _=>rfl) rfl rfl rfl rfl rfl rfl (vs (zJ r8.2.1) rfl rfl (fun _=>rfl) rfl rfl rfl rfl rfl rfl ?_)))))))))
 refine vs (zJ r8.2.2) rfl rfl (fun _=>rfl) rfl rfl rfl rfl rfl rfl (nk ⟨[(0,i6 a0),(5,ow 5),(6,ow 6),(7,ow 7),(8,ow 8),(9,ow 9),(10,ow 10),(11,ow 11),(12,ow 12)],[(5,bk (zJ a1)),(6,bk (zA a2)),(7,bk (zA a3)),(8,bk xA),(9,bk (zJ r3)),(10,bk (zJ r8.1)),(11,bk (zJ r8.2.1)),(12,bk (zJ r8.2.2))]⟩ (sr (vr (i6 a0) (vl (zJ r8.1) rfl rfl rfl rfl rfl rfl (vl (zJ r3) rfl rfl rfl rfl rfl rfl ?_)))))
 obtain ⟨r15,hr16,h⟩:=bind_some h
 refine ca (zb2 a0 r8.1 r3 r15 hr16) (vr (.tuple [(zJ r15.1),(zJ r15.2.1),(zJ r15.2.2)]) (vb (zJ r15.1) rfl rfl (vb (zJ r15.2.1) rfl rfl (vb (zJ r15.2.2) rfl rfl (vo 2300 (yF) rfl rfl (vo 2400 (yF) rfl rfl (vo 2500 (yF) rfl rfl (vs (zJ r15.1) rfl rfl (fun _=>rfl) rfl rfl rfl rfl rfl rfl (vs (zJ r15.2.1) rfl rfl (fun _=>rfl) rfl rfl rfl rfl rfl rfl ?_)))))))))
 refine vs (zJ r15.2.2) rfl rfl (fun _=>rfl) rfl rfl rfl rfl rfl rfl (nk ⟨[(0,i6 a0),(5,ow 5),(6,ow 6),(7,ow 7),(8,ow 8),(11,ow 11),(12,ow 12),(13,ow 13),(14,ow 14),(15,ow 15)],[(5,bk (zJ a1)),(6,bk (zA a2)),(7,bk (zA a3)),(8,bk xA),(11,bk (zJ r8.2.1)),(12,bk (zJ r8.2.2)),(13,bk (zJ r15.1)),(14,bk (zJ r15.2.1)),(15,bk (zJ r15.2.2))]⟩ (sr (vr (i6 a0) (vl (zJ r15.2.1) rfl rfl rfl rfl rfl rfl (vl (zJ r8.2.1) rfl rfl rfl rfl rfl rfl ?_)))))
 obtain ⟨r22,hr23,h⟩:=bind_some h
 refine ca (wX a0 r15.2.1 r8.2.1 r22 hr23) (vr (.tuple [(zJ r22.1),(.bool r22.2)]) (vb (zJ r22.1) rfl rfl (vb (.bool r22.2) rfl rfl (vo 2600 (yF) rfl rfl (vs (zJ r22.1) rfl rfl (fun _=>rfl) rfl rfl rfl rfl rfl rfl (vr (.bool r22.2) (nk ⟨[(0,i6 a0),(5,ow 5),(6,ow 6),(7,ow 7),(8,ow 8),(12,ow 12),(13,ow 13),(14,ow 14),(15,ow 15),(16,ow 16)],[(5,bk (zJ a1)),(6,bk (zA a2)),(7,bk (zA a3)),(8,bk xA),(12,bk (zJ r8.2.2)),(13,bk (zJ r15.1)),(14,bk (zJ r15.2.1)),(15,bk (zJ r15.2.2)),(16,bk (zJ r22.1))]⟩ (sr (vr (i6 a0) ?_)))))))))
 refine vl (zJ r15.2.1) rfl rfl rfl rfl rfl rfl (vl (zJ r8.2.2) rfl rfl rfl rfl rfl rfl ?_)
 obtain ⟨r27,hr28,h⟩:=bind_some h
 refine ca (wX a0 r15.2.1 r8.2.2 r27 hr28) (vr (.tuple [(zJ r27.1),(.bool r27.2)]) (vb (zJ r27.1) rfl rfl (vb (.bool r27.2) rfl rfl (vo 2800 (yF) rfl rfl (vs (zJ r27.1) rfl rfl (fun _=>rfl) rfl rfl rfl rfl rfl rfl (vr (.bool r27.2) (nk ⟨[(0,i6 a0),(5,ow 5),(6,ow 6),(7,ow 7),(8,ow 8),(13,ow 13),(15,ow 15),(16,ow 16),(18,ow 18)],[(5,bk (zJ a1)),(6,bk (zA a2)),(7,bk (zA a3)),(8,bk xA),(13,bk (zJ r15.1)),(15,bk (zJ r15.2.2)),(16,bk (zJ r22.1)),(18,bk (zJ r27.1))]⟩ (sr (vr (i6 a0) ?_)))))))))
 refine vl (zJ r15.1) rfl rfl rfl rfl rfl rfl (vl (zJ r15.1) rfl rfl rfl rfl rfl rfl ?_)
 obtain ⟨r32,hr33,h⟩:=bind_some h
 refine ca (wX a0 r15.1 r15.1 r32 hr33) (vr (.tuple [(zJ r32.1),(.bool r32.2)]) (vb (zJ r32.1) rfl rfl (vb (.bool r32.2) rfl rfl (vo 3000 (yF) rfl rfl (vs (zJ r32.1) rfl rfl (fun _=>rfl) rfl rfl rfl rfl rfl rfl (vr (.bool r32.2) (nk ⟨[(0,i6 a0),(5,ow 5),(6,ow 6),(7,ow 7),(8,ow 8),(13,ow 13),(15,ow 15),(16,ow 16),(18,ow 18),(20,ow 20)],[(5,bk (zJ a1)),(6,bk (zA a2)),(7,bk (zA a3)),(8,bk xA),(13,bk (zJ r15.1)),(15,bk (zJ r15.2.2)),(16,bk (zJ r22.1)),(18,bk (zJ r27.1)),(20,bk (zJ r32.1))]⟩ (sr (vr (i6 a0) ?_)))))))))
 refine vb (.own 6 [0] [0]) rfl rfl ?_
 have hl35:LdOk [0] (zA a2) [0] 64 true (zJ a2.1):=(.fld rfl rfl rfl rfl (.nil rfl rfl rfl))
 refine vq (zJ a2.1) (zM (i:=⟨.arr 64 5,64,64,(zJ (yH 64 (0:Int)))⟩) rfl rfl rfl hl35) hl35.c (vb (.own 7 [0] [0]) rfl rfl ?_)
 have hl36:LdOk [0] (zA a3) [0] 64 true (zJ a3.1):=(.fld rfl rfl rfl rfl (.nil rfl rfl rfl))
 refine vq (zJ a3.1) (zM (i:=⟨.arr 64 5,64,64,(zJ (yH 64 (0:Int)))⟩) rfl rfl rfl hl36) hl36.c ?_
 obtain ⟨r37,hr38,h⟩:=bind_some h
 refine ca (wX a0 a2.1 a3.1 r37 hr38) (vr (.tuple [(zJ r37.1),(.bool r37.2)]) (vb (zJ r37.1) rfl rfl (vb (.bool r37.2) rfl rfl (vo 3200 (yF) rfl rfl (vs (zJ r37.1) rfl rfl (fun _=>rfl) rfl rfl rfl rfl rfl rfl (vr (.bool r37.2) (nk ⟨[(0,i6 a0),(5,ow 5),(6,ow 6),(7,ow 7),(8,ow 8),(13,ow 13),(15,ow 15),(16,ow 16),(18,ow 18),(20,ow 20),(22,ow 22)],[(5,bk (zJ a1)),(6,bk (zA a2)),(7,bk (zA a3)),(8,bk xA),(13,bk (zJ r15.1)),(15,bk (zJ r15.2.2)),(16,bk (zJ r22.1)),(18,bk (zJ r27.1)),(20,bk (zJ r32.1)),(22,bk (zJ r37.1))]⟩ (sr (vr (i6 a0) ?_)))))))))
 refine vl (zJ r37.1) rfl rfl rfl rfl rfl rfl (vl (zJ r32.1) rfl rfl rfl rfl rfl rfl ?_)
 obtain ⟨r42,hr43,h⟩:=bind_some h
 refine ca (mT a0 r37.1 r32.1 r42 hr43) (vr (.tuple [(zJ r42.1),(zJ r42.2)]) (vb (zJ r42.1) rfl rfl (vb (zJ r42.2) rfl rfl (vo 3400 (yF) rfl rfl (vo 3500 (yF) rfl rfl (vs (zJ r42.1) rfl rfl (fun _=>rfl) rfl rfl rfl rfl rfl rfl (vs (zJ r42.2) rfl rfl (fun _=>rfl) rfl rfl rfl rfl rfl rfl (nk ⟨[(0,i6 a0),(5,ow 5),(6,ow 6),(7,ow 7),(8,ow 8),(13,ow 13),(15,ow 15),(16,ow 16),(18,ow 18),(24,ow 24)],[(5,bk (zJ a1)),(6,bk (zA a2)),(7,bk (zA a3)),(8,bk xA),(13,bk (zJ r15.1)),(15,bk (zJ r15.2.2)),(16,bk (zJ r22.1)),(18,bk (zJ r27.1)),(24,bk (zJ r42.1))]⟩ (sr ?_)))))))))
 refine vr (i6 a0) (vb (.own 6 [1] [64]) rfl rfl ?_)
 have hl46:LdOk [1] (zA a2) [64] 64 true (zJ a2.2):=(.fld rfl rfl rfl rfl (.nil rfl rfl rfl))
 refine vq (zJ a2.2) (zM (i:=⟨.arr 64 5,64,64,(zJ (yH 64 (0:Int)))⟩) rfl rfl rfl hl46) hl46.c (vb (.own 7 [1] [64]) rfl rfl ?_)
 have hl47:LdOk [1] (zA a3) [64] 64 true (zJ a3.2):=(.fld rfl rfl rfl rfl (.nil rfl rfl rfl))
 refine vq (zJ a3.2) (zM (i:=⟨.arr 64 5,64,64,(zJ (yH 64 (0:Int)))⟩) rfl rfl rfl hl47) hl47.c ?_
 obtain ⟨r48,hr49,h⟩:=bind_some h
 refine ca (wX a0 a2.2 a3.2 r48 hr49) (vr (.tuple [(zJ r48.1),(.bool r48.2)]) (vb (zJ r48.1) rfl rfl (vb (.bool r48.2) rfl rfl (vo 3600 (yF) rfl rfl (vs (zJ r48.1) rfl rfl (fun _=>rfl) rfl rfl rfl rfl rfl rfl (vr (.bool r48.2) (nk ⟨[(0,i6 a0),(5,ow 5),(6,ow 6),(7,ow 7),(8,ow 8),(13,ow 13),(15,ow 15),(16,ow 16),(18,ow 18),(24,ow 24),(26,ow 26)],[(5,bk (zJ a1)),(6,bk (zA a2)),(7,bk (zA a3)),(8,bk xA),(13,bk (zJ r15.1)),(15,bk (zJ r15.2.2)),(16,bk (zJ r22.1)),(18,bk (zJ r27.1)),(24,bk (zJ r42.1)),(26,bk (zJ r48.1))]⟩ (yC (xH [⟨[],[],[],[]⟩,⟨[],[],[],[]⟩,⟨[16],[],[],[]⟩,⟨[6],[],[6],[]⟩,⟨[6],[],[],[3]⟩,⟨[7],[],[7],[]⟩,⟨[7],[],[],[5]⟩,⟨[],[],[],[1,2,3,4,5,6]⟩,⟨[],[],[],[]⟩,⟨[18],[],[],[]⟩,⟨[7],[],[7],[]⟩,⟨[7],[],[],[10]⟩,⟨[6],[],[6],[]⟩,⟨[6],[],[],[12]⟩,⟨[],[],[],[1,2,3,4,5,6,7,8,9,10,11,12,13]⟩,⟨[],[],[],[0,1,2,3,4,5,6,7,8,9,10,11,12,13,14]⟩,⟨[3800],[3800],[3800],[]⟩,⟨[3800],[3800],[],[0,1,2,3,4,5,6,7,8,9,10,11,12,13,14,15,16]⟩] (by kernel_rfl) ?_)))))))))
 refine dj (i6 a0) rfl (dj (i6 a0) rfl (zH (vl (zJ r22.1) rfl rfl rfl rfl rfl rfl (dn (zH (vb (.own 6 [0] [0]) rfl rfl (dn (zH ?_))))))))
 have hl65:LdOk [0] (zA a2) [0] 64 true (zJ a2.1):=(.fld rfl rfl rfl rfl (.nil rfl rfl rfl))
 refine vq (zJ a2.1) (zM (i:=⟨.arr 64 5,64,64,(zJ (yH 64 (0:Int)))⟩) rfl rfl rfl hl65) hl65.c (dn (zH (vb (.own 7 [1] [64]) rfl rfl (dn (zH ?_)))))
 have hl66:LdOk [1] (zA a3) [64] 64 true (zJ a3.2):=(.fld rfl rfl rfl rfl (.nil rfl rfl rfl))
 refine vq (zJ a3.2) (zM (i:=⟨.arr 64 5,64,64,(zJ (yH 64 (0:Int)))⟩) rfl rfl rfl hl66) hl66.c (dn (zH ?_))
 obtain ⟨r67,hr68,h⟩:=bind_some h
 refine ca (zba a0 r22.1 a2.1 a3.2 r67 hr68) (dn (dj (i6 a0) rfl (zH (vl (zJ r27.1) rfl rfl rfl rfl rfl rfl (dn (zH (vb (.own 7 [0] [0]) rfl rfl (dn (zH ?_)))))))))
 have hl70:LdOk [0] (zA a3) [0] 64 true (zJ a3.1):=(.fld rfl rfl rfl rfl (.nil rfl rfl rfl))
 refine vq (zJ a3.1) (zM (i:=⟨.arr 64 5,64,64,(zJ (yH 64 (0:Int)))⟩) rfl rfl rfl hl70) hl70.c (dn (zH (vb (.own 6 [1] [64]) rfl rfl (dn (zH ?_)))))
 have hl71:LdOk [1] (zA a2) [64] 64 true (zJ a2.2):=(.fld rfl rfl rfl rfl (.nil rfl rfl rfl))
 refine vq (zJ a2.2) (zM (i:=⟨.arr 64 5,64,64,(zJ (yH 64 (0:Int)))⟩) rfl rfl rfl hl71) hl71.c (dn (zH ?_))
 obtain ⟨r72,hr73,h⟩:=bind_some h
 refine ca (zba a0 r27.1 a3.1 a2.2 r72 hr73) (dn (zH ?_))
 obtain ⟨r74,hr75,h⟩:=bind_some h
 refine ca (wO a0 r67 r72 1 r74 hr75) (dn (zH (vo 3800 (yF) rfl rfl (dn (zH (vs (zJ r74) rfl rfl (fun _=>rfl) rfl rfl rfl rfl rfl rfl (dn (xE (nj ⟨[(0,i6 a0),(5,ow 5),(8,ow 8),(13,ow 13),(15,ow 15),(24,ow 24),(26,ow 26),(28,ow 28)],[(5,bk (zJ a1)),(8,bk xA),(13,bk (zJ r15.1)),(15,bk (zJ r15.2.2)),(24,bk (zJ r42.1)),(26,bk (zJ r48.1)),(28,bk (zJ r74))]⟩ ?_)))))))))
 refine yC (xH [⟨[],[],[],[]⟩,⟨[15],[],[],[]⟩,⟨[],[],[],[]⟩,⟨[26],[],[],[]⟩,⟨[5],[],[],[]⟩,⟨[],[],[],[2,3,4]⟩,⟨[],[],[],[0,1,2,3,4,5]⟩,⟨[],[],[],[0,1,2,3,4,5,6]⟩,⟨[],[],[],[0,1,2,3,4,5,6,7]⟩,⟨[],[],[],[0,1,2,3,4,5,6,7]⟩,⟨[3900],[3900],[3900],[]⟩,⟨[3900],[3900],[],[0,1,2,3,4,5,6,7,8,10]⟩,⟨[],[],[],[0,1,2,3,4,5,6,7,8,9,10,11]⟩] (by kernel_rfl) (dj (i6 a0) rfl (zH (vl (zJ r15.2.2) rfl rfl rfl rfl rfl rfl (dn (dj (i6 a0) rfl (zH (vl (zJ r48.1) rfl rfl rfl rfl rfl rfl (dn ?_)))))))))
 refine zH (vl (zJ a1) rfl rfl rfl rfl rfl rfl (dn (zH ?_)))
 obtain ⟨r88,hr89,h⟩:=bind_some h
 refine ca (wO a0 r48.1 a1 1 r88 hr89) (dn (zH ?_))
 obtain ⟨r90,hr91,h⟩:=bind_some h
 refine ca (wX a0 r15.2.2 r88 r90 hr91) (dn (dj (.tuple [(zJ r90.1),(.bool r90.2)]) rfl (zH (vb (zJ r90.1) rfl rfl (dn (zH (vb (.bool r90.2) rfl rfl (dn (zH ?_)))))))))
 refine vo 3900 (yF) rfl rfl (dn (zH (vs (zJ r90.1) rfl rfl (fun _=>rfl) rfl rfl rfl rfl rfl rfl (dn (dj (.bool r90.2) rfl (xE (nj ⟨[(0,i6 a0),(5,ow 5),(8,ow 8),(13,ow 13),(24,ow 24),(28,ow 28),(29,ow 29)],[(5,bk (zJ a1)),(8,bk xA),(13,bk (zJ r15.1)),(24,bk (zJ r42.1)),(28,bk (zJ r74)),(29,bk (zJ r90.1))]⟩ (yC (xH [⟨[],[],[],[]⟩,⟨[],[],[],[]⟩,⟨[28],[],[],[]⟩,⟨[29],[],[],[]⟩,⟨[],[],[],[1,2,3]⟩,⟨[13],[],[],[]⟩,⟨[],[],[],[0,1,2,3,4,5]⟩,⟨[],[],[],[0,1,2,3,4,5,6]⟩,⟨[],[],[],[0,1,2,3,4,5,6,7]⟩,⟨[],[],[],[0,1,2,3,4,5,6,7]⟩,⟨[4100],[4100],[4100],[]⟩,⟨[4200],[4200],[4200],[]⟩,⟨[4100],[4100],[],[0,1,2,3,4,5,6,7,8,10,11]⟩,⟨[4200],[4200],[],[0,1,2,3,4,5,6,7,8,9,10,11,12]⟩] (by kernel_rfl) ?_)))))))))
 refine dj (i6 a0) rfl (dj (i6 a0) rfl (zH (vl (zJ r74) rfl rfl rfl rfl rfl rfl (dn (zH (vl (zJ r90.1) rfl rfl rfl rfl rfl rfl (dn (zH ?_))))))))
 obtain ⟨r104,hr105,h⟩:=bind_some h
 refine ca (wO a0 r74 r90.1 1 r104 hr105) (dn (zH (vl (zJ r15.1) rfl rfl rfl rfl rfl rfl (dn (zH ?_)))))
 obtain ⟨r107,hr108,h⟩:=bind_some h
 refine ca (mT a0 r104 r15.1 r107 hr108) (dn (dj (.tuple [(zJ r107.1),(zJ r107.2)]) rfl (zH (vb (zJ r107.1) rfl rfl (dn (zH (vb (zJ r107.2) rfl rfl (dn (zH ?_)))))))))
 refine vo 4100 (yF) rfl rfl (dn (zH (vo 4200 (yF) rfl rfl (dn (zH (vs (zJ r107.1) rfl rfl (fun _=>rfl) rfl rfl rfl rfl rfl rfl (dn (zH (vs (zJ r107.2) rfl rfl (fun _=>rfl) rfl rfl rfl rfl rfl rfl ?_)))))))))
 refine dn (xE (nj ⟨[(0,i6 a0),(5,ow 5),(8,ow 8),(24,ow 24),(31,ow 31)],[(5,bk (zJ a1)),(8,bk xA),(24,bk (zJ r42.1)),(31,bk (zJ r107.1))]⟩ (yC (xH [⟨[],[],[],[]⟩,⟨[5],[],[],[]⟩,⟨[24],[],[],[]⟩,⟨[],[],[],[]⟩,⟨[31],[],[],[]⟩,⟨[24],[],[],[]⟩,⟨[],[],[],[3,4,5]⟩,⟨[],[],[],[2,3,4,5,6]⟩,⟨[],[],[],[0,1,2,3,4,5,6,7]⟩,⟨[8],[8],[],[0,1,2,3,4,5,6,7,8]⟩] (by kernel_rfl) (dj (i6 a0) rfl (zH (vl (zJ a1) rfl rfl rfl rfl rfl rfl (dn (zH ?_)))))))))
 refine vl (zJ r42.1) rfl rfl rfl rfl rfl rfl (dn (dj (i6 a0) rfl (zH (vl (zJ r107.1) rfl rfl rfl rfl rfl rfl (dn (zH (vl (zJ r42.1) rfl rfl rfl rfl rfl rfl (dn (zH ?_)))))))))
 obtain ⟨r124,hr125,h⟩:=bind_some h
 refine ca (jR a0 r107.1 r42.1 r124 hr125) (dn (zH (vq (zA (r42.1,r124)) rfl ⟨rfl,(all_cons ⟨(yS rfl),rfl⟩ (all_cons ⟨(yS rfl),rfl⟩ all_nil))⟩ (dn (zH ?_)))))
 obtain ⟨r126,hr127,h⟩:=bind_some h
 refine ca (zg7 a0 a1 (r42.1,r124) r126 hr127) (dn (zH (vs (zA r126) rfl rfl (fun _=>rfl) rfl rfl rfl rfl rfl rfl (dn (xE (wC rfl (zU ?_)))))))
 have hl129:LdOk [] (zA r126) [] 128 true (zA r126):=(.nil rfl rfl rfl)
 refine ⟨.inr rfl,?_⟩
 rw [Tryz.results37]
 cases h
 exact ⟨_,_,_,_,_,zM (i:=⟨.struct [(0,25),(64,25)],128,128,xA⟩) rfl rfl rfl hl129,hl129.c,.inl ⟨rfl,.inl rfl⟩,rfl,rfl⟩
def zlc:Live:=[(0,[0,1,2,3]),(1,[0,5,6,7,8]),(2,[0,5,6,7,8,10]),(3,[8,10]),(4,[0,5,6,7,8]),(100018,[0,5,6,7,8,10,18])]
noncomputable def jY (a0:Int) (a1:(Vec Int 64)) (a2:((Vec Int 64)×(Vec Int 64))) (a3:((Vec Int 64)×(Vec Int 64))):Option (((Vec Int 64)×(Vec Int 64))×Int) :=
 (Option.bind (kH a0 a1 true ([a2,a3])) fun r4=>(if (r4 != 0) then (some ((((yH 64 (0:Int)),(yH 64 (0:Int))),r4))) else (Option.bind (kX a0 a1 a2 a3) fun r10=>(some (r10,0)))))
theorem zkb (a0:Int) (a1:(Vec Int 64)) (a2:((Vec Int 64)×(Vec Int 64))) (a3:((Vec Int 64)×(Vec Int 64))) (r:(((Vec Int 64)×(Vec Int 64))×Int)) (h:jY a0 a1 a2 a3=some r):Den Tryz.prog 7 [(i6 a0),(zJ a1),(zA a2),(zA a3)] { r:=(.tuple [(zA r.1),(i6 r.2)]) }:=by
 refine dd (rs:=[(zA r.1),(i6 r.2)]) (L:=zlc) xL [] Tryz.func7 Tryz.ntmps7 ?_
 refine ns ⟨[(0,i6 a0),(1,zJ a1),(2,zA a2),(3,zA a3)],[]⟩ ?_
 refine sr (vo 1500 (zJ a1) rfl rfl (vo 1600 (zA a2) rfl rfl (vo 1700 (zA a3) rfl rfl (vo 1800 xA rfl rfl (vr (i6 0) (nk ⟨[(0,i6 a0),(5,ow 5),(6,ow 6),(7,ow 7),(8,ow 8)],[(5,bk (zJ a1)),(6,bk (zA a2)),(7,bk (zA a3)),(8,bk xA)]⟩ (yC (sr (vr (i6 a0) ?_)))))))))
 refine vl (zJ a1) rfl rfl rfl rfl rfl rfl (vl (zA a2) rfl rfl rfl rfl rfl rfl (vl (zA a3) rfl rfl rfl rfl rfl rfl (vq (.sl 128 true (([a2,a3]).map zA)) rfl ⟨(yS rfl),(yS rfl),(all_cons ⟨(yS rfl),rfl⟩ (all_cons ⟨(yS rfl),rfl⟩ all_nil))⟩ ?_)))
 obtain ⟨r4,hr5,h⟩:=bind_some h
 refine zaa (args:=[(i6 a0),(zJ a1),(.bool true),(.sl 128 true (([a2,a3]).map zA))]) (u:=[]) (r:=(i6 r4)) rfl rfl (Den.args (zbp a0 a1 true ([a2,a3]) r4 hr5) rfl rfl (.cons (.refl _) (.cons (.refl _) (.cons (.refl _) (.cons (.loose _) .nil))))) rfl (vr (i6 r4) (nk ⟨[(0,i6 a0),(5,ow 5),(6,ow 6),(7,ow 7),(8,ow 8),(10,i6 r4)],[(5,bk (zJ a1)),(6,bk (zA a2)),(7,bk (zA a3)),(8,bk xA)]⟩ (sr (vr (i6 r4) (vr (.bool (r4 != 0)) (nk ⟨[(0,i6 a0),(5,ow 5),(6,ow 6),(7,ow 7),(8,ow 8),(10,i6 r4),(18,.bool (r4 != 0))],[(5,bk (zJ a1)),(6,bk (zA a2)),(7,bk (zA a3)),(8,bk xA)]⟩ ?_))))))
 cases hb6:(r4 != 0)
 ·have h:=zW hb6 h
  refine zP rfl (yG (nj ⟨[(0,i6 a0),(5,ow 5),(6,ow 6),(7,ow 7),(8,ow 8)],[(5,bk (zJ a1)),(6,bk (zA a2)),(7,bk (zA a3)),(8,bk xA)]⟩ (sr (vr (i6 a0) (vl (zJ a1) rfl rfl rfl rfl rfl rfl (vl (zA a2) rfl rfl rfl rfl rfl rfl (vl (zA a3) rfl rfl rfl rfl rfl rfl ?_)))))))
  obtain ⟨r10,hr11,h⟩:=bind_some h
  refine ca (za6 a0 a1 a2 a3 r10 hr11) (vs (zA r10) rfl rfl (fun _=>rfl) rfl rfl rfl rfl rfl rfl (vr (i6 0) (nx _ rfl (zU ?_))))
  have hl13:LdOk [] (zA r10) [] 128 true (zA r10):=(.nil rfl rfl rfl)
  refine ⟨.inr rfl,?_⟩
  rw [Tryz.results7]
  cases h
  exact ⟨_,_,_,_,_,zM (i:=⟨.struct [(0,25),(64,25)],128,128,xA⟩) rfl rfl rfl hl13,hl13.c,.inl ⟨rfl,.inl rfl⟩,rfl,⟨_,_,_,_,_,rfl,trivial,.inl ⟨rfl,.inl rfl⟩,rfl,rfl⟩⟩
 ·have h:=zV hb6 h
  refine zO rfl (sr (vq xA rfl ⟨rfl,all_nil⟩ (vr (i6 r4) (vs xA rfl rfl (fun _=>rfl) rfl rfl rfl rfl rfl rfl (vr (i6 r4) (nx _ rfl (zU (xV ?_))))))))
  have hl15:LdOk [] xA [] 128 true xA:=(.nil rfl rfl rfl)
  refine ⟨.inr rfl,?_⟩
  rw [Tryz.results7]
  cases h
  exact ⟨_,_,_,_,_,zM (i:=⟨.struct [(0,25),(64,25)],128,128,xA⟩) rfl rfl rfl hl15,hl15.c,.inl ⟨rfl,.inl rfl⟩,rfl,⟨_,_,_,_,_,rfl,trivial,.inl ⟨rfl,.inl rfl⟩,rfl,rfl⟩⟩
def zjp:Live:=[(0,[0,1]),(1,[2,3,4])]
noncomputable def uL (a0:(Int×(List Int))) (a1:((List Int)×(List Int))):Option ((List Int)×(List Int)) :=
 (Option.bind (wY a0.1 a1.2 (-1)) fun r15=>(Option.bind (kI a0.1 r15 a1.1) fun r18=>(some (a1.1,r18))))
theorem zej (a0:(Int×(List Int))) (a1:((List Int)×(List Int))) (r:((List Int)×(List Int))) (h:uL a0 a1=some r):Den Tryz.prog 38 [(zK a0),(zC a1)] { r:=(zC r) }:=by
 refine dd (rs:=[(zC r)]) (L:=zjp) xL [] Tryz.func38 Tryz.ntmps38 ?_
 refine ns ⟨[(0,zK a0),(1,zC a1)],[]⟩ ?_
 refine sr (vo 1200 (zK a0) rfl rfl (vo 1300 (zC a1) rfl rfl (vo 1400 (zC ([],[])) rfl rfl (nk ⟨[(2,ow 2),(3,ow 3),(4,ow 4)],[(2,bk (zK a0)),(3,bk (zC a1)),(4,bk (zC ([],[])))]⟩ (yC (xH [⟨[3],[],[3],[]⟩,⟨[3],[],[],[0]⟩,⟨[2],[],[2],[]⟩,⟨[2],[],[],[2]⟩,⟨[2],[],[2],[]⟩,⟨[2],[],[],[4]⟩,⟨[3],[],[3],[]⟩,⟨[3],[],[],[6]⟩,⟨[],[],[],[4,5,6,7]⟩,⟨[3],[],[3],[]⟩,⟨[3],[],[],[9]⟩,⟨[],[],[],[2,3,4,5,6,7,8,9,10]⟩,⟨[],[],[],[0,1,2,3,4,5,6,7,8,9,10,11]⟩,⟨[4],[4],[],[0,1,2,3,4,5,6,7,8,9,10,11,12]⟩] (by kernel_rfl) (zH (vb (.own 3 [0] [0]) rfl rfl (dn ?_)))))))))
 refine zH ?_
 have hl11:LdOk [0] (zC a1) [0] 1 false (zI a1.1):=(.fld rfl rfl rfl rfl (.nil rfl rfl rfl))
 refine vq (zI a1.1) (zM (i:=⟨.slice 2,1,24,(zI [])⟩) rfl rfl rfl hl11) hl11.c (dn (zH (vb (.own 2 [0] [0]) rfl rfl (dn (zH ?_)))))
 have hl12:LdOk [0] (zK a0) [0] 1 false (i6 a0.1):=(.fld rfl rfl rfl rfl (.nil rfl rfl rfl))
 refine vq (i6 a0.1) (zM (i:=⟨.int .i64,1,8,(.int .i64 0)⟩) rfl rfl rfl hl12) hl12.c (dn (zH (vb (.own 2 [0] [0]) rfl rfl (dn (zH ?_)))))
 have hl13:LdOk [0] (zK a0) [0] 1 false (i6 a0.1):=(.fld rfl rfl rfl rfl (.nil rfl rfl rfl))
 refine vq (i6 a0.1) (zM (i:=⟨.int .i64,1,8,(.int .i64 0)⟩) rfl rfl rfl hl13) hl13.c (dn (zH (vb (.own 3 [1] [1]) rfl rfl (dn (zH ?_)))))
 have hl14:LdOk [1] (zC a1) [1] 1 false (zI a1.2):=(.fld rfl rfl rfl rfl (.nil rfl rfl rfl))
 refine vq (zI a1.2) (zM (i:=⟨.slice 2,1,24,(zI [])⟩) rfl rfl rfl hl14) hl14.c (dn (zH ?_))
 obtain ⟨r15,hr16,h⟩:=bind_some h
 refine ca (kV a0.1 a1.2 (-1) r15 hr16) (dn (zH (vb (.own 3 [0] [0]) rfl rfl (dn (zH ?_)))))
 have hl17:LdOk [0] (zC a1) [0] 1 false (zI a1.1):=(.fld rfl rfl rfl rfl (.nil rfl rfl rfl))
 refine vq (zI a1.1) (zM (i:=⟨.slice 2,1,24,(zI [])⟩) rfl rfl rfl hl17) hl17.c (dn (zH ?_))
 obtain ⟨r18,hr19,h⟩:=bind_some h
 refine ca (zbh a0.1 r15 a1.1 r18 hr19) (dn (zH (vq (zC (a1.1,r18)) rfl ⟨rfl,(all_cons ⟨(yS rfl),rfl⟩ (all_cons ⟨(yS rfl),rfl⟩ all_nil))⟩ (dn (zH (vs (zC (a1.1,r18)) rfl rfl (fun _=>rfl) rfl rfl rfl rfl rfl rfl (dn (xE (wC rfl ?_)))))))))
 refine zU ?_
 have hl21:LdOk [] (zC (a1.1,r18)) [] 2 true (zC (a1.1,r18)):=(.nil rfl rfl rfl)
 refine ⟨.inr rfl,?_⟩
 rw [Tryz.results38]
 cases h
 exact ⟨_,_,_,_,_,zM (i:=⟨.struct [(0,52),(1,52)],2,48,(zC ([],[]))⟩) rfl rfl rfl hl21,hl21.c,.inl ⟨rfl,.inl rfl⟩,rfl,rfl⟩
def zlr:Live:=[(0,[0,1,2]),(1,[0,4,5,6]),(2,[0,4,5,6,8]),(3,[6,8]),(4,[0,4,5,6]),(100015,[0,4,5,6,8,15])]
noncomputable def kO (a0:Int) (a1:(Vec Int 64)) (a2:((Vec Int 64)×(Vec Int 64))):Option (((Vec Int 64)×(Vec Int 64))×Int) :=
 (Option.bind (vF a0 a1 true false ([a2])) fun r3=>(if (r3 != 0) then (some ((((yH 64 (0:Int)),(yH 64 (0:Int))),r3))) else (Option.bind (uT a0 a1) fun r18=>(Option.bind (vP a2) fun r21=>(Option.bind (uL r18 r21) fun r23=>(Option.bind (uF r23) fun r25=>(some (r25,0))))))))
theorem zfq (a0:Int) (a1:(Vec Int 64)) (a2:((Vec Int 64)×(Vec Int 64))) (r:(((Vec Int 64)×(Vec Int 64))×Int)) (h:kO a0 a1 a2=some r):Den Tryz.prog 8 [(i6 a0),(zJ a1),(zA a2)] { r:=(.tuple [(zA r.1),(i6 r.2)]) }:=by
 refine dd (rs:=[(zA r.1),(i6 r.2)]) (L:=zlr) xL [] Tryz.func8 Tryz.ntmps8 ?_
 refine ns ⟨[(0,i6 a0),(1,zJ a1),(2,zA a2)],[]⟩ ?_
 refine sr (vo 1400 (zJ a1) rfl rfl (vo 1500 (zA a2) rfl rfl (vo 1600 xA rfl rfl (vr (i6 0) (nk ⟨[(0,i6 a0),(4,ow 4),(5,ow 5),(6,ow 6)],[(4,bk (zJ a1)),(5,bk (zA a2)),(6,bk xA)]⟩ (yC (sr (vr (i6 a0) (vl (zJ a1) rfl rfl rfl rfl rfl rfl ?_)))))))))
 refine vl (zA a2) rfl rfl rfl rfl rfl rfl (vq (.sl 128 true (([a2]).map zA)) rfl ⟨(yS rfl),(yS rfl),(all_cons ⟨(yS rfl),rfl⟩ all_nil)⟩ ?_)
 obtain ⟨r3,hr4,h⟩:=bind_some h
 refine zaa (args:=[(i6 a0),(zJ a1),(.bool true),(.bool false),(.sl 128 true (([a2]).map zA))]) (u:=[]) (r:=(i6 r3)) rfl rfl (Den.args (nR a0 a1 true false ([a2]) r3 hr4) rfl rfl (.cons (.refl _) (.cons (.refl _) (.cons (.refl _) (.cons (.refl _) (.cons (.loose _) .nil)))))) rfl (vr (i6 r3) (nk ⟨[(0,i6 a0),(4,ow 4),(5,ow 5),(6,ow 6),(8,i6 r3)],[(4,bk (zJ a1)),(5,bk (zA a2)),(6,bk xA)]⟩ (sr (vr (i6 r3) (vr (.bool (r3 != 0)) (nk ⟨[(0,i6 a0),(4,ow 4),(5,ow 5),(6,ow 6),(8,i6 r3),(15,.bool (r3 != 0))],[(4,bk (zJ a1)),(5,bk (zA a2)),(6,bk xA)]⟩ ?_))))))
 cases hb5:(r3 != 0)
 ·have h:=zW hb5 h
  refine zP rfl (yG (nj ⟨[(0,i6 a0),(4,ow 4),(5,ow 5),(6,ow 6)],[(4,bk (zJ a1)),(5,bk (zA a2)),(6,bk xA)]⟩ (yC (xH [⟨[],[],[],[]⟩,⟨[4],[],[],[]⟩,⟨[],[],[],[0,1]⟩,⟨[5],[],[],[]⟩,⟨[],[],[],[0,1,2,3]⟩,⟨[],[],[],[0,1,2,3,4]⟩,⟨[],[],[],[0,1,2,3,4,5]⟩,⟨[6],[6],[],[0,1,2,3,4,5,6]⟩,⟨[],[],[],[0,1,2,3,4,5,6,7]⟩] (by kernel_rfl) (dj (i6 a0) rfl (zH (vl (zJ a1) rfl rfl rfl rfl rfl rfl (dn (zH ?_)))))))))
  obtain ⟨r18,hr19,h⟩:=bind_some h
  refine ca (kY a0 a1 r18 hr19) (dn (zH (vl (zA a2) rfl rfl rfl rfl rfl rfl (dn (zH ?_)))))
  obtain ⟨r21,hr22,h⟩:=bind_some h
  refine ca (jS a2 r21 hr22) (dn (zH ?_))
  obtain ⟨r23,hr24,h⟩:=bind_some h
  refine ca (zej r18 r21 r23 hr24) (dn (zH ?_))
  obtain ⟨r25,hr26,h⟩:=bind_some h
  refine ca (mQ r23 r25 hr26) (dn (zH (vs (zA r25) rfl rfl (fun _=>rfl) rfl rfl rfl rfl rfl rfl (dn (dj (i6 0) rfl (xE (wC rfl (zU ?_))))))))
  have hl28:LdOk [] (zA r25) [] 128 true (zA r25):=(.nil rfl rfl rfl)
  refine ⟨.inr rfl,?_⟩
  rw [Tryz.results8]
  cases h
  exact ⟨_,_,_,_,_,zM (i:=⟨.struct [(0,25),(64,25)],128,128,xA⟩) rfl rfl rfl hl28,hl28.c,.inl ⟨rfl,.inl rfl⟩,rfl,⟨_,_,_,_,_,rfl,trivial,.inl ⟨rfl,.inl rfl⟩,rfl,rfl⟩⟩
 ·have h:=zV hb5 h
  refine zO rfl (sr (vq xA rfl ⟨rfl,all_nil⟩ (vr (i6 r3) (vs xA rfl rfl (fun _=>rfl) rfl rfl rfl rfl rfl rfl (vr (i6 r3) (nx _ rfl (zU (xV ?_))))))))
  have hl30:LdOk [] xA [] 128 true xA:=(.nil rfl rfl rfl)
  refine ⟨.inr rfl,?_⟩
  rw [Tryz.results8]
  cases h
  exact ⟨_,_,_,_,_,zM (i:=⟨.struct [(0,25),(64,25)],128,128,xA⟩) rfl rfl rfl hl30,hl30.c,.inl ⟨rfl,.inl rfl⟩,rfl,⟨_,_,_,_,_,rfl,trivial,.inl ⟨rfl,.inl rfl⟩,rfl,rfl⟩⟩
def zj0:Live:=[(0,[0,1]),(1,[2,3]),(2,[2,3,5]),(3,[2,3,5,6]),(4,[2,3,5,6]),(5,[2,3,5,6]),(6,[2,3,5,6]),(7,[2,3,5,18]),(8,[5]),(100011,[2,3,5,6,11])]
noncomputable def uP (a0:(Int×(List Int))) (a1:((List Int)×(List Int))) (x63:Int) (x64:((List Int)×(List Int))):Option ((Int×((List Int)×(List Int)))⊕Int) :=
 (Option.bind (zbe x64.1) fun r81=>(if (!r81) then (Option.bind (uX a0 x64 a1) fun r89=>(some (.inl ((IntKind.i64.wrap (x63 + 1),r89))))) else (some (.inr x63))))
noncomputable def zbd (a0:(Int×(List Int))) (a1:((List Int)×(List Int))):Option Int :=
 (Option.bind (α:=Int) ((yK (fun s:(Int×((List Int)×(List Int)))=>uP a0 a1 s.1 s.2) (1,a1))) fun x45=>(some x45))
theorem zji (a0:(Int×(List Int))) (a1:((List Int)×(List Int))) (r:Int) (h:zbd a0 a1=some r):Den Tryz.prog 39 [(zK a0),(zC a1)] { r:=(i6 r) }:=by
 refine dd (rs:=[(i6 r)]) (L:=zj0) xL [] Tryz.func39 Tryz.ntmps39 ?_
 refine ns ⟨[(0,zK a0),(1,zC a1)],[]⟩ ?_
 refine sr (vo 1200 (zK a0) rfl rfl (vo 1300 (zC a1) rfl rfl (vr (i6 0) (nk ⟨[(2,ow 2),(3,ow 3)],[(2,bk (zK a0)),(3,bk (zC a1))]⟩ (sr (vr (i6 1) (nk ⟨[(2,ow 2),(3,ow 3),(5,i6 1)],[(2,bk (zK a0)),(3,bk (zC a1))]⟩ ?_)))))))
 obtain ⟨y46,hy47,hk48⟩:=bind_some h
 clear h
 refine yN (emb:=fun (s:Int)=>⟨[(5,i6 s)],[]⟩) (kG:=fun s=>s=y46) ?_ ?_
 ·rintro x45 rfl
  have h:=hk48
  refine ns ⟨[(5,i6 x45)],[]⟩ (sr (vr (i6 x45) (vr (i6 x45) (nx _ rfl (zU ?_)))))
  refine ⟨.inr rfl,?_⟩
  rw [Tryz.results39]
  cases h
  exact ⟨_,_,_,_,_,rfl,trivial,.inl ⟨rfl,.inl rfl⟩,rfl,rfl⟩
 ·have h:=hy47
  refine sr (vl (zC a1) rfl rfl rfl rfl rfl rfl (vo 1600 (zC ([],[])) rfl rfl (vs (zC a1) rfl rfl (fun _=>rfl) rfl rfl rfl rfl rfl rfl (nk ⟨[(2,ow 2),(3,ow 3),(5,i6 1),(6,ow 6)],[(2,bk (zK a0)),(3,bk (zC a1)),(6,bk (zC a1))]⟩ (yB ?_)))))
  refine xU (emb:=fun (s:(Int×((List Int)×(List Int))))=>⟨[(2,ow 2),(3,ow 3),(5,i6 s.1),(6,ow 6)],[(2,bk (zK a0)),(3,bk (zC a1)),(6,bk (zC s.2))]⟩) (body:=(fun s:(Int×((List Int)×(List Int)))=>uP a0 a1 s.1 s.2)) (G:=fun q=>some q=some y46) h rfl ?_ (by kernel_rfl)
  rintro X77 ⟨x63,x64⟩ x78 h hX79
  have h:uP a0 a1 x63 x64=some x78:=h
  refine ns ⟨[(2,ow 2),(3,ow 3),(5,i6 x63),(6,ow 6)],[(2,bk (zK a0)),(3,bk (zC a1)),(6,bk (zC x64))]⟩ (yC (sr (vb (.own 6 [0] [0]) rfl rfl ?_)))
  have hl80:LdOk [0] (zC x64) [0] 1 false (zI x64.1):=(.fld rfl rfl rfl rfl (.nil rfl rfl rfl))
  refine vq (zI x64.1) (zM (i:=⟨.slice 2,1,24,(zI [])⟩) rfl rfl rfl hl80) hl80.c ?_
  obtain ⟨r81,hr82,h⟩:=bind_some h
  refine ca (zbq x64.1 r81 hr82) (vr (.bool (!r81)) (nk ⟨[(2,ow 2),(3,ow 3),(5,i6 x63),(6,ow 6),(11,.bool (!r81))],[(2,bk (zK a0)),(3,bk (zC a1)),(6,bk (zC x64))]⟩ ?_))
  cases hb83:(!r81)
  ·have h:=zW hb83 h
   refine zP rfl (xR (yI ?_))
   cases h
   have h:=hX79
   refine yI (xQ ?_)
   exact jl x63 h
  ·have h:=zV hb83 h
   refine zO rfl (yG (nj ⟨[(2,ow 2),(3,ow 3),(5,i6 x63),(6,ow 6)],[(2,bk (zK a0)),(3,bk (zC a1)),(6,bk (zC x64))]⟩ (yC (yB (zR (vr (i6 x63) (vr (i6 (IntKind.i64.wrap (x63 + 1))) (vr (i6 (IntKind.i64.wrap (x63 + 1))) (yJ ?_)))))))))
   refine xI (nj ⟨[(2,ow 2),(3,ow 3),(5,i6 (IntKind.i64.wrap (x63 + 1))),(6,ow 6)],[(2,bk (zK a0)),(3,bk (zC a1)),(6,bk (zC x64))]⟩ (yC (sr (vl (zC x64) rfl rfl rfl rfl rfl rfl (nk ⟨[(2,ow 2),(3,ow 3),(5,i6 (IntKind.i64.wrap (x63 + 1))),(18,zC x64)],[(2,bk (zK a0)),(3,bk (zC a1))]⟩ (zR (vo 1600 (zC ([],[])) rfl rfl (vs (zC x64) rfl rfl (fun _=>rfl) rfl rfl rfl rfl rfl rfl (nk ⟨[(2,ow 2),(3,ow 3),(5,i6 (IntKind.i64.wrap (x63 + 1))),(6,ow 6)],[(2,bk (zK a0)),(3,bk (zC a1)),(6,bk (zC x64))]⟩ ?_)))))))))
   refine zR (vl (zK a0) rfl rfl rfl rfl rfl rfl (vl (zC x64) rfl rfl rfl rfl rfl rfl (vl (zC a1) rfl rfl rfl rfl rfl rfl ?_)))
   obtain ⟨r89,hr90,h⟩:=bind_some h
   refine ca (nZ a0 x64 a1 r89 hr90) (vs (zC r89) rfl rfl (fun _=>rfl) rfl rfl rfl rfl rfl rfl (yJ ?_))
   cases h
   exact ag hX79
def zlu:Live:=[(0,[0,1,2]),(1,[0,4,5]),(2,[0,4,5,8]),(3,[8]),(4,[0,4,5]),(100015,[0,4,5,8,15])]
noncomputable def jH (a0:Int) (a1:(Vec Int 64)) (a2:((Vec Int 64)×(Vec Int 64))):Option (Int×Int) :=
 (Option.bind (vF a0 a1 true true ([a2])) fun r3=>(if (r3 != 0) then (some (0,r3)) else (Option.bind (uT a0 a1) fun r15=>(Option.bind (vP a2) fun r18=>(Option.bind (zbd r15 r18) fun r20=>(some (r20,0)))))))
theorem zfm (a0:Int) (a1:(Vec Int 64)) (a2:((Vec Int 64)×(Vec Int 64))) (r:(Int×Int)) (h:jH a0 a1 a2=some r):Den Tryz.prog 9 [(i6 a0),(zJ a1),(zA a2)] { r:=(.tuple [(i6 r.1),(i6 r.2)]) }:=by
 refine dd (rs:=[(i6 r.1),(i6 r.2)]) (L:=zlu) xL [] Tryz.func9 Tryz.ntmps9 ?_
 refine ns ⟨[(0,i6 a0),(1,zJ a1),(2,zA a2)],[]⟩ ?_
 refine sr (vo 1400 (zJ a1) rfl rfl (vo 1500 (zA a2) rfl rfl (vr (i6 0) (vr (i6 0) (nk ⟨[(0,i6 a0),(4,ow 4),(5,ow 5)],[(4,bk (zJ a1)),(5,bk (zA a2))]⟩ (yC (sr (vr (i6 a0) (vl (zJ a1) rfl rfl rfl rfl rfl rfl ?_)))))))))
 refine vl (zA a2) rfl rfl rfl rfl rfl rfl (vq (.sl 128 true (([a2]).map zA)) rfl ⟨(yS rfl),(yS rfl),(all_cons ⟨(yS rfl),rfl⟩ all_nil)⟩ ?_)
 obtain ⟨r3,hr4,h⟩:=bind_some h
 refine zaa (args:=[(i6 a0),(zJ a1),(.bool true),(.bool true),(.sl 128 true (([a2]).map zA))]) (u:=[]) (r:=(i6 r3)) rfl rfl (Den.args (nR a0 a1 true true ([a2]) r3 hr4) rfl rfl (.cons (.refl _) (.cons (.refl _) (.cons (.refl _) (.cons (.refl _) (.cons (.loose _) .nil)))))) rfl (vr (i6 r3) (nk ⟨[(0,i6 a0),(4,ow 4),(5,ow 5),(8,i6 r3)],[(4,bk (zJ a1)),(5,bk (zA a2))]⟩ (sr (vr (i6 r3) (vr (.bool (r3 != 0)) (nk ⟨[(0,i6 a0),(4,ow 4),(5,ow 5),(8,i6 r3),(15,.bool (r3 != 0))],[(4,bk (zJ a1)),(5,bk (zA a2))]⟩ ?_))))))
 cases hb5:(r3 != 0)
 ·have h:=zW hb5 h
  refine zP rfl (yG (nj ⟨[(0,i6 a0),(4,ow 4),(5,ow 5)],[(4,bk (zJ a1)),(5,bk (zA a2))]⟩ (yC (xH [⟨[],[],[],[]⟩,⟨[4],[],[],[]⟩,⟨[],[],[],[0,1]⟩,⟨[5],[],[],[]⟩,⟨[],[],[],[0,1,2,3]⟩,⟨[],[],[],[0,1,2,3,4]⟩,⟨[],[],[],[0,1,2,3,4,5]⟩,⟨[],[],[],[0,1,2,3,4,5,6]⟩] (by kernel_rfl) (dj (i6 a0) rfl (zH (vl (zJ a1) rfl rfl rfl rfl rfl rfl (dn (zH ?_)))))))))
  obtain ⟨r15,hr16,h⟩:=bind_some h
  refine ca (kY a0 a1 r15 hr16) (dn (zH (vl (zA a2) rfl rfl rfl rfl rfl rfl (dn (zH ?_)))))
  obtain ⟨r18,hr19,h⟩:=bind_some h
  refine ca (jS a2 r18 hr19) (dn (zH ?_))
  obtain ⟨r20,hr21,h⟩:=bind_some h
  refine ca (zji r15 r18 r20 hr21) (dn (dj (i6 r20) rfl (dj (i6 0) rfl (xE (wC rfl (zU ?_))))))
  refine ⟨.inr rfl,?_⟩
  rw [Tryz.results9]
  cases h
  exact ⟨_,_,_,_,_,rfl,trivial,.inl ⟨rfl,.inl rfl⟩,rfl,⟨_,_,_,_,_,rfl,trivial,.inl ⟨rfl,.inl rfl⟩,rfl,rfl⟩⟩
 ·have h:=zV hb5 h
  refine zO rfl (sr (vr (i6 r3) (vr (i6 0) (vr (i6 r3) (nx _ rfl (zU (xV ?_)))))))
  refine ⟨.inr rfl,?_⟩
  rw [Tryz.results9]
  cases h
  exact ⟨_,_,_,_,_,rfl,trivial,.inl ⟨rfl,.inl rfl⟩,rfl,⟨_,_,_,_,_,rfl,trivial,.inl ⟨rfl,.inl rfl⟩,rfl,rfl⟩⟩
def zmx:Live:=[(0,[0,1,2]),(1,[0,1,2]),(2,[0,1,2,7]),(3,[0,2,7,8,9]),(4,[0,2,7,8,9]),(5,[0,2,7,8,9]),(6,[0,2,7,8,9]),(7,[7]),(100010,[0,2,7,8,9,10]),(100013,[0,2,7,8,9,13])]
noncomputable def wN (a1:Int) (a2:Int) (a0:Int) (x19:Int) (x20:Int):Option ((Int×Int)⊕Int) :=
 (if (decide (x20 < a1)) then (if (decide (x19 > a2)) then (some (.inr x19)) else (some (.inl ((IntKind.i64.wrap (x19*a0),IntKind.i64.wrap (x20 + 1)))))) else (some (.inr x19)))
noncomputable def nF (a0:Int) (a1:Int) (a2:Int):Option Int :=
 (Option.bind (α:=Int) ((yK (fun s:(Int×Int)=>wN a1 a2 a0 s.1 s.2) (1,0))) fun x13=>(some x13))
theorem zgj (a0:Int) (a1:Int) (a2:Int) (r:Int) (h:nF a0 a1 a2=some r):Den Tryz.prog 113 [(i6 a0),(i6 a1),(i6 a2)] { r:=(i6 r) }:=by
 refine dd (rs:=[(i6 r)]) (L:=zmx) xL [] Tryz.func113 Tryz.ntmps113 ?_
 refine ns ⟨[(0,i6 a0),(1,i6 a1),(2,i6 a2)],[]⟩ ?_
 refine sr (vr (i6 0) (nk ⟨[(0,i6 a0),(1,i6 a1),(2,i6 a2)],[]⟩ (sr (vr (i6 1) (nk ⟨[(0,i6 a0),(1,i6 a1),(2,i6 a2),(7,i6 1)],[]⟩ ?_)))))
 obtain ⟨y14,hy15,hk16⟩:=bind_some h
 clear h
 refine yN (emb:=fun (s:Int)=>⟨[(7,i6 s)],[]⟩) (kG:=fun s=>s=y14) ?_ ?_
 ·rintro x13 rfl
  have h:=hk16
  refine ns ⟨[(7,i6 x13)],[]⟩ (sr (vr (i6 x13) (vr (i6 x13) (nx _ rfl (zU ?_)))))
  refine ⟨.inr rfl,?_⟩
  rw [Tryz.results113]
  cases h
  exact ⟨_,_,_,_,_,rfl,trivial,.inl ⟨rfl,.inl rfl⟩,rfl,rfl⟩
 ·have h:=hy15
  refine sr (vr (i6 a1) (vr (i6 0) (nk ⟨[(0,i6 a0),(2,i6 a2),(7,i6 1),(8,i6 a1),(9,i6 0)],[]⟩ (yB ?_))))
  refine xU (emb:=fun (s:(Int×Int))=>⟨[(0,i6 a0),(2,i6 a2),(7,i6 s.1),(8,i6 a1),(9,i6 s.2)],[]⟩) (body:=(fun s:(Int×Int)=>wN a1 a2 a0 s.1 s.2)) (G:=fun q=>some q=some y14) h rfl ?_ (by kernel_rfl)
  rintro X23 ⟨x19,x20⟩ x24 h hX25
  have h:wN a1 a2 a0 x19 x20=some x24:=h
  refine ns ⟨[(0,i6 a0),(2,i6 a2),(7,i6 x19),(8,i6 a1),(9,i6 x20)],[]⟩ (sr (vr (.bool ((decide (x20 < a1)))) (nk ⟨[(0,i6 a0),(2,i6 a2),(7,i6 x19),(8,i6 a1),(9,i6 x20),(10,.bool ((decide (x20 < a1))))],[]⟩ (yC ?_))))
  cases hb26:(decide (x20 < a1))
  ·have h:=zW hb26 h
   refine zP rfl (xR (yI ?_))
   cases h
   have h:=hX25
   refine yI (xQ ?_)
   exact jl x19 h
  ·have h:=zV hb26 h
   refine zO rfl (yG (nj ⟨[(0,i6 a0),(2,i6 a2),(7,i6 x19),(8,i6 a1),(9,i6 x20)],[]⟩ (yC (yB (yC (sr (vr (i6 x19) (vr (i6 a2) (vr (.bool ((decide (x19 > a2)))) ?_)))))))))
   refine nk ⟨[(0,i6 a0),(2,i6 a2),(7,i6 x19),(8,i6 a1),(9,i6 x20),(13,.bool ((decide (x19 > a2))))],[]⟩ ?_
   cases hb27:(decide (x19 > a2))
   ·have h:=zW hb27 h
    refine zP rfl (yG (nj ⟨[(0,i6 a0),(2,i6 a2),(7,i6 x19),(8,i6 a1),(9,i6 x20)],[]⟩ (zR (vr (i6 x19) (vr (i6 a0) (vr (i6 (IntKind.i64.wrap (x19*a0))) (vr (i6 (IntKind.i64.wrap (x19*a0))) (yJ (xI ?_)))))))))
    refine nj ⟨[(0,i6 a0),(2,i6 a2),(7,i6 (IntKind.i64.wrap (x19*a0))),(8,i6 a1),(9,i6 x20)],[]⟩ (zR (vr (i6 (IntKind.i64.wrap (x20 + 1))) (vr (i6 (IntKind.i64.wrap (x20 + 1))) (yJ ?_))))
    cases h
    exact ag hX25
   ·have h:=zV hb27 h
    refine zO rfl (xR (yI (zx8 rfl (yI ?_))))
    cases h
    have h:=hX25
    refine yI (xQ ?_)
    exact jl x19 h
def zjj:Live:=[(0,[0,1]),(1,[0,1]),(2,[0,1,5]),(3,[0,1,5]),(4,[0,1,5]),(5,[5]),(100007,[0,1,5,7])]
noncomputable def qF (a0:Int) (x27:Int) (x28:(List Int)):Option ((Int×(List Int))⊕(List Int)) :=
 (if (decide (x27 > 0)) then (jA (a0 ≠ 0) ((jA ((x28.length + ([Int.tmod x27 a0]:List Int).length)*8≤140737488355328) ((jA (a0 ≠ 0) ((some (.inl ((IntKind.i64.wrap (Int.tdiv x27 a0),(x28 ++ ([Int.tmod x27 a0])))))))))))) else (some (.inr x28)))
noncomputable def nL (a0:Int) (a1:Int):Option (List Int) :=
 (Option.bind (α:=(List Int)) ((yK (fun s:(Int×(List Int))=>qF a0 s.1 s.2) (a1,[]))) fun x19=>(some x19))
theorem zec (a0:Int) (a1:Int) (r:(List Int)) (h:nL a0 a1=some r):Den Tryz.prog 114 [(i6 a0),(i6 a1)] { r:=(zI r) }:=by
 refine dd (rs:=[(zI r)]) (L:=zjj) xL [(4,1),(5,2)] Tryz.func114 Tryz.ntmps114 ?_
 refine ns ⟨[(0,i6 a0),(1,i6 a1)],[]⟩ ?_
 refine sr (vr (zI ([])) (nk ⟨[(0,i6 a0),(1,i6 a1)],[]⟩ (sr (vu (.osl 1500) [(1500,bk (.row 1 (([]).map (AV.int .i64))))] rfl trivial rfl (nk ⟨[(0,i6 a0),(1,i6 a1),(5,.osl 5)],[(5,bk (.row 1 (([]).map (AV.int .i64))))]⟩ ?_)))))
 obtain ⟨y20,hy21,hk22⟩:=bind_some h
 clear h
 refine yN (emb:=fun (s:(List Int))=>⟨[(5,.osl 5)],[(5,bk (.row 1 (s.map (AV.int .i64))))]⟩) (kG:=fun s=>s=y20) ?_ ?_
 ·rintro x19 rfl
  have h:=hk22
  refine ns ⟨[(5,.osl 5)],[(5,bk (.row 1 (x19.map (AV.int .i64))))]⟩ (sr (vr (.osl 5) (vu (zI x19) [(5,bf (.row 1 (x19.map (AV.int .i64))))] rfl trivial rfl (nx _ rfl (zU ?_)))))
  refine ⟨.inr rfl,?_⟩
  rw [Tryz.results114]
  cases h
  exact ⟨_,_,_,_,_,rfl,trivial,.inl ⟨rfl,.inl rfl⟩,rfl,rfl⟩
 ·have h:=hy21
  refine yB ?_
  refine xU (emb:=fun (s:(Int×(List Int)))=>⟨[(0,i6 a0),(1,i6 s.1),(5,.osl 5)],[(5,bk (.row 1 (s.2.map (AV.int .i64))))]⟩) (body:=(fun s:(Int×(List Int))=>qF a0 s.1 s.2)) (G:=fun q=>some q=some y20) h rfl ?_ (by kernel_rfl)
  rintro X33 ⟨x27,x28⟩ x34 h hX35
  have h:qF a0 x27 x28=some x34:=h
  refine ns ⟨[(0,i6 a0),(1,i6 x27),(5,.osl 5)],[(5,bk (.row 1 (x28.map (AV.int .i64))))]⟩ (yC (sr (vr (i6 x27) (vr (.bool ((decide (x27 > 0)))) (nk ⟨[(0,i6 a0),(1,i6 x27),(5,.osl 5),(7,.bool ((decide (x27 > 0))))],[(5,bk (.row 1 (x28.map (AV.int .i64))))]⟩ ?_)))))
  cases hb36:(decide (x27 > 0))
  ·have h:=zW hb36 h
   refine zP rfl (xR (yI ?_))
   cases h
   have h:=hX35
   refine yI (xQ ?_)
   exact jl x28 h
  ·have h:=zV hb36 h
   refine zO rfl (yG (nj ⟨[(0,i6 a0),(1,i6 x27),(5,.osl 5)],[(5,bk (.row 1 (x28.map (AV.int .i64))))]⟩ (yC (yB (zR (vr (.osl 5) (vr (i6 x27) (vr (i6 a0) ?_))))))))
   obtain ⟨hc37,h⟩:=zT h
   refine vq (i6 (Int.tmod x27 a0)) rfl hc37 (vq (.sl 1 true (([Int.tmod x27 a0]).map (AV.int .i64))) rfl ⟨(yS rfl),(yS rfl),(all_cons ⟨(yS rfl),rfl⟩ all_nil)⟩ ?_)
   obtain ⟨hc38,h⟩:=zT h
   refine vu (.osl 2600) [(2600,bk (.row 1 (((x28 ++ ([Int.tmod x27 a0]))).map (AV.int .i64)))),(5,none)] (zki (i:=⟨.int .i64,1,8,(.int .i64 0)⟩) (f:=(AV.int .i64)) (l:=x28) (l2:=[Int.tmod x27 a0]) rfl rfl rfl rfl (fun _=>rfl) rfl rfl) (zsi (f:=(AV.int .i64)) (s:=1) (sz:=1) (by':=8) (u:=[]) (id:=5) hc38 (.inr rfl) rfl rfl rfl) rfl (vr (.osl 2600) (yJ (xI (nj ⟨[(0,i6 a0),(1,i6 x27),(5,.osl 5)],[(5,bk (.row 1 (((x28 ++ ([Int.tmod x27 a0]))).map (AV.int .i64))))]⟩ (zR (vr (i6 x27) (vr (i6 a0) ?_)))))))
   obtain ⟨hc39,h⟩:=zT h
   refine vq (i6 (IntKind.i64.wrap (Int.tdiv x27 a0))) rfl hc39 (vr (i6 (IntKind.i64.wrap (Int.tdiv x27 a0))) (yJ ?_))
   cases h
   exact ag hX35
def zle:Live:=[(0,[0,1]),(1,[0,1]),(2,[0,5]),(3,[0,5,6]),(4,[0,5,6,11,12]),(5,[0,5,6,11,12]),(6,[0,5,6,7,11,12]),(7,[0,5,6,11,12]),(8,[6]),(100013,[0,5,6,11,12,13])]
noncomputable def uZ (r1:Int) (a0:Int) (x29:Int) (x30:(List (List Int))):Option ((Int×(List (List Int)))⊕(List (List Int))) :=
 (if (decide (x29 < r1)) then (Option.bind (nL a0 (IntKind.i64.wrap (r1 + x29))) fun r39=>(jA ((x30.length + ([r39]:List (List Int)).length)*24≤140737488355328) ((some (.inl ((IntKind.i64.wrap (x29 + 1),(x30 ++ ([r39]))))))))) else (some (.inr x30)))
noncomputable def zb1 (a0:Int) (a1:Int):Option (List (List Int)) :=
 (Option.bind (nF a0 a1 343) fun r1=>(Option.bind (α:=(List (List Int))) ((yK (fun s:(Int×(List (List Int)))=>uZ r1 a0 s.1 s.2) (0,[]))) fun x21=>(some x21)))
theorem zjv (a0:Int) (a1:Int) (r:(List (List Int))) (h:zb1 a0 a1=some r):Den Tryz.prog 112 [(i6 a0),(i6 a1)] { r:=(nY r) }:=by
 refine dd (rs:=[(nY r)]) (L:=zle) xL [(4,1),(6,2)] Tryz.func112 Tryz.ntmps112 ?_
 refine ns ⟨[(0,i6 a0),(1,i6 a1)],[]⟩ ?_
 refine sr (vr (nY ([])) (nk ⟨[(0,i6 a0),(1,i6 a1)],[]⟩ (sr (vr (i6 a0) (vr (i6 a1) ?_)))))
 obtain ⟨r1,hr2,h⟩:=bind_some h
 refine ca (zgj a0 a1 343 r1 hr2) (vr (i6 r1) (nk ⟨[(0,i6 a0),(5,i6 r1)],[]⟩ (sr (vu (.osl 1600) [(1600,bk (.row 1 (([]).map zI)))] rfl trivial rfl (nk ⟨[(0,i6 a0),(5,i6 r1),(6,.osl 6)],[(6,bk (.row 1 (([]).map zI)))]⟩ ?_)))))
 obtain ⟨y22,hy23,hk24⟩:=bind_some h
 clear h
 refine yN (emb:=fun (s:(List (List Int)))=>⟨[(6,.osl 6)],[(6,bk (.row 1 (s.map zI)))]⟩) (kG:=fun s=>s=y22) ?_ ?_
 ·rintro x21 rfl
  have h:=hk24
  refine ns ⟨[(6,.osl 6)],[(6,bk (.row 1 (x21.map zI)))]⟩ (sr (vr (.osl 6) (vu (nY x21) [(6,bf (.row 1 (x21.map zI)))] rfl trivial rfl (nx _ rfl (zU ?_)))))
  refine ⟨.inr rfl,?_⟩
  rw [Tryz.results112]
  cases h
  exact ⟨_,_,_,_,_,rfl,trivial,.inl ⟨rfl,.inl rfl⟩,rfl,rfl⟩
 ·have h:=hy23
  refine sr (vr (i6 r1) (vr (i6 0) (nk ⟨[(0,i6 a0),(5,i6 r1),(6,.osl 6),(11,i6 r1),(12,i6 0)],[(6,bk (.row 1 (([]).map zI)))]⟩ (yB ?_))))
  refine xU (emb:=fun (s:(Int×(List (List Int))))=>⟨[(0,i6 a0),(5,i6 r1),(6,.osl 6),(11,i6 r1),(12,i6 s.1)],[(6,bk (.row 1 (s.2.map zI)))]⟩) (body:=(fun s:(Int×(List (List Int)))=>uZ r1 a0 s.1 s.2)) (G:=fun q=>some q=some y22) h rfl ?_ (by kernel_rfl)
  rintro X35 ⟨x29,x30⟩ x36 h hX37
  have h:uZ r1 a0 x29 x30=some x36:=h
  refine ns ⟨[(0,i6 a0),(5,i6 r1),(6,.osl 6),(11,i6 r1),(12,i6 x29)],[(6,bk (.row 1 (x30.map zI)))]⟩ (sr (vr (.bool ((decide (x29 < r1)))) (nk ⟨[(0,i6 a0),(5,i6 r1),(6,.osl 6),(11,i6 r1),(12,i6 x29),(13,.bool ((decide (x29 < r1))))],[(6,bk (.row 1 (x30.map zI)))]⟩ (yC ?_))))
  cases hb38:(decide (x29 < r1))
  ·have h:=zW hb38 h
   refine zP rfl (xR (yI ?_))
   cases h
   have h:=hX37
   refine yI (xQ ?_)
   exact jl x30 h
  ·have h:=zV hb38 h
   refine zO rfl (yG (nj ⟨[(0,i6 a0),(5,i6 r1),(6,.osl 6),(11,i6 r1),(12,i6 x29)],[(6,bk (.row 1 (x30.map zI)))]⟩ (yC (yB (sr (vr (i6 x29) (vr (i6 x29) (nk ⟨[(0,i6 a0),(5,i6 r1),(6,.osl 6),(7,i6 x29),(11,i6 r1),(12,i6 x29)],[(6,bk (.row 1 (x30.map zI)))]⟩ (zR ?_)))))))))
   refine vr (.osl 6) (vr (i6 a0) (vr (i6 r1) (vr (i6 x29) (vr (i6 (IntKind.i64.wrap (r1 + x29))) ?_))))
   obtain ⟨r39,hr40,h⟩:=bind_some h
   refine ca (zec a0 (IntKind.i64.wrap (r1 + x29)) r39 hr40) (vq (.sl 1 true (([r39]).map zI)) rfl ⟨(yS rfl),(yS rfl),(all_cons ⟨(yS rfl),rfl⟩ all_nil)⟩ ?_)
   obtain ⟨hc41,h⟩:=zT h
   refine vu (.osl 3200) [(3200,bk (.row 1 (((x30 ++ ([r39]))).map zI))),(6,none)] (zki (i:=⟨.slice 2,1,24,(zI [])⟩) (f:=zI) (l:=x30) (l2:=[r39]) rfl rfl rfl rfl (fun _=>rfl) rfl rfl) (zsi (f:=zI) (s:=1) (sz:=1) (by':=24) (u:=[]) (id:=6) hc41 (.inr rfl) rfl rfl rfl) rfl (vr (.osl 3200) (yJ (xI (nj ⟨[(0,i6 a0),(5,i6 r1),(6,.osl 6),(11,i6 r1),(12,i6 x29)],[(6,bk (.row 1 (((x30 ++ ([r39]))).map zI)))]⟩ (zR (vr (i6 (IntKind.i64.wrap (x29 + 1))) (vr (i6 (IntKind.i64.wrap (x29 + 1))) (yJ ?_))))))))
   cases h
   exact ag hX37
def zl3:Live:=[(0,[0]),(1,[1]),(2,[1,3]),(3,[1,3,11,12]),(4,[1,3,11,12]),(5,[1,3,4,11,12]),(6,[1,3,4,11,12,18,19,20]),(7,[1,3,4,11,12,18,19,20]),(8,[1,3,4,6,11,12,18,19,20]),(9,[1,3,4,6,11,12,18,19,20,27,28]),(10,[1,3,4,6,11,12,18,19,20,27,28]),(11,[1,3,4,6,7,11,12,18,19,20,27,28]),(12,[1,3,4,6,8,11,12,18,19,20,27,28]),(13,[1,3,4,6,8,11,12,18,19,20,27,28]),(14,[1,3,4,6,11,12,18,19,20,27,28]),(15,[1,3,4,11,12,18,19,20]),(16,[1,3,11,12]),(17,[3]),(100013,[1,3,11,12,13]),(100021,[1,3,4,11,12,18,19,20,21]),(100029,[1,3,4,6,11,12,18,19,20,27,28,29]),(100039,[1,3,4,6,8,11,12,18,19,20,27,28,39])]
noncomputable def uJ (r6874:Int) (a0:(Int×(List Int))) (r6389:(List (List Int))) (x6580:Int) (x6903:Int) (x6904:(List ((List Int)×(List Int)))):Option ((Int×(List ((List Int)×(List Int))))⊕(List ((List Int)×(List Int)))) :=
 (if (decide (x6903 < r6874)) then (Option.bind (α:=(List ((List Int)×(List Int)))) ((Option.bind (nL a0.1 x6903) fun r6952=>(Option.bind (uQ a0 (((rd r6389 x6580.toNat),r6952))) fun r6957=>(if r6957 then (jA ((x6904.length + ([((rd r6389 x6580.toNat),r6952)]:List ((List Int)×(List Int))).length)*48≤140737488355328) ((some ((x6904 ++ ([((rd r6389 x6580.toNat),r6952)])))))) else (some x6904))))) fun x6947=>(some (.inl ((IntKind.i64.wrap (x6903 + 1),x6947))))) else (some (.inr x6904)))
noncomputable def uK (r6389:(List (List Int))) (a0:(Int×(List Int))) (x4645:Int) (x6580:Int) (x6581:(List ((List Int)×(List Int)))):Option ((Int×(List ((List Int)×(List Int))))⊕(List ((List Int)×(List Int)))) :=
 (if (decide (x6580 < (r6389.length:Int))) then (Option.bind (α:=(List ((List Int)×(List Int)))) ((jA (0≤x6580∧x6580 < ((r6389.length:Nat):Int)) ((Option.bind (nF a0.1 x4645 1099511627776) fun r6874=>(yK (fun s:(Int×(List ((List Int)×(List Int))))=>uJ r6874 a0 r6389 x6580 s.1 s.2) (0,x6581)))))) fun x6867=>(some (.inl ((IntKind.i64.wrap (x6580 + 1),x6867))))) else (some (.inr x6581)))
noncomputable def qS (r3486:Int) (a0:(Int×(List Int))) (x4645:Int) (x4646:(List ((List Int)×(List Int)))):Option ((Int×(List ((List Int)×(List Int))))⊕(List ((List Int)×(List Int)))) :=
 (if (decide (x4645 < (IntKind.i64.wrap (r3486 + 1)))) then (Option.bind (α:=(List ((List Int)×(List Int)))) ((Option.bind (zb1 a0.1 x4645) fun r6389=>(yK (fun s:(Int×(List ((List Int)×(List Int))))=>uK r6389 a0 x4645 s.1 s.2) (0,x4646)))) fun x6384=>(some (.inl ((IntKind.i64.wrap (x4645 + 1),x6384))))) else (some (.inr x4646)))
noncomputable def zcw (a0:(Int×(List Int))):Option (List ((List Int)×(List Int))) :=
 (Option.bind (α:=(List ((List Int)×(List Int)))) ((Option.bind (qE a0) fun r3486=>(yK (fun s:(Int×(List ((List Int)×(List Int))))=>qS r3486 a0 s.1 s.2) (0,[])))) fun x3481=>(some x3481))
theorem zk3 (a0:(Int×(List Int))) (r:(List ((List Int)×(List Int)))) (h:zcw a0=some r):Den Tryz.prog 83 [(zK a0)] { r:=(vG r) }:=by
 refine dd (rs:=[(vG r)]) (L:=zl3) xL [(2,1),(3,2),(6,1)] Tryz.func83 Tryz.ntmps83 ?_
 refine ns ⟨[(0,zK a0)],[]⟩ ?_
 refine sr (vo 1100 (zK a0) rfl rfl (vr (vG ([])) (nk ⟨[(1,ow 1)],[(1,bk (zK a0))]⟩ (sr (vu (.osl 1300) [(1300,bk (.row 2 (([]).map zC)))] rfl trivial rfl (nk ⟨[(1,ow 1),(3,.osl 3)],[(1,bk (zK a0)),(3,bk (.row 2 (([]).map zC)))]⟩ ?_))))))
 obtain ⟨y3482,hy3483,hk3484⟩:=bind_some h
 clear h
 refine yN (emb:=fun (s:(List ((List Int)×(List Int))))=>⟨[(3,.osl 3)],[(3,bk (.row 2 (s.map zC)))]⟩) (kG:=fun s=>s=y3482) ?_ ?_
 ·rintro x3481 rfl
  have h:=hk3484
  refine ns ⟨[(3,.osl 3)],[(3,bk (.row 2 (x3481.map zC)))]⟩ (sr (vr (.osl 3) (vu (vG x3481) [(3,bf (.row 2 (x3481.map zC)))] rfl trivial rfl (nx _ rfl (zU ?_)))))
  refine ⟨.inr rfl,?_⟩
  rw [Tryz.results83]
  cases h
  exact ⟨_,_,_,_,_,rfl,trivial,.inl ⟨rfl,.inl rfl⟩,rfl,rfl⟩
 ·have h:=hy3483
  refine sr (vl (zK a0) rfl rfl rfl rfl rfl rfl ?_)
  obtain ⟨r3486,hr3487,h⟩:=bind_some h
  refine ca (zfp a0 r3486 hr3487) (vr (i6 (IntKind.i64.wrap (r3486 + 1))) (vr (i6 0) (nk ⟨[(1,ow 1),(3,.osl 3),(11,i6 (IntKind.i64.wrap (r3486 + 1))),(12,i6 0)],[(1,bk (zK a0)),(3,bk (.row 2 (([]).map zC)))]⟩ (yB ?_))))
  refine xU (emb:=fun (s:(Int×(List ((List Int)×(List Int)))))=>⟨[(1,ow 1),(3,.osl 3),(11,i6 (IntKind.i64.wrap (r3486 + 1))),(12,i6 s.1)],[(1,bk (zK a0)),(3,bk (.row 2 (s.2.map zC)))]⟩) (body:=(fun s:(Int×(List ((List Int)×(List Int))))=>qS r3486 a0 s.1 s.2)) (G:=fun q=>some q=some y3482) h rfl ?_ (by kernel_rfl)
  rintro X5804 ⟨x4645,x4646⟩ x5805 h hX5806
  have h:qS r3486 a0 x4645 x4646=some x5805:=h
  refine ns ⟨[(1,ow 1),(3,.osl 3),(11,i6 (IntKind.i64.wrap (r3486 + 1))),(12,i6 x4645)],[(1,bk (zK a0)),(3,bk (.row 2 (x4646.map zC)))]⟩ (sr (vr (.bool ((decide (x4645 < (IntKind.i64.wrap (r3486 + 1)))))) (nk ⟨[(1,ow 1),(3,.osl 3),(11,i6 (IntKind.i64.wrap (r3486 + 1))),(12,i6 x4645),(13,.bool ((decide (x4645 < (IntKind.i64.wrap (r3486 + 1))))))],[(1,bk (zK a0)),(3,bk (.row 2 (x4646.map zC)))]⟩ (yC ?_))))
  cases hb5807:(decide (x4645 < (IntKind.i64.wrap (r3486 + 1))))
  ·have h:=zW hb5807 h
   refine zP rfl (xR (yI ?_))
   cases h
   have h:=hX5806
   refine yI (xQ ?_)
   exact jl x4646 h
  ·have h:=zV hb5807 h
   refine zO rfl (yG (nj ⟨[(1,ow 1),(3,.osl 3),(11,i6 (IntKind.i64.wrap (r3486 + 1))),(12,i6 x4645)],[(1,bk (zK a0)),(3,bk (.row 2 (x4646.map zC)))]⟩ ?_))
   obtain ⟨y6385,hy6386,hk6387⟩:=bind_some h
   clear h
   refine yN (emb:=fun (s:(List ((List Int)×(List Int))))=>⟨[(1,ow 1),(3,.osl 3),(11,i6 (IntKind.i64.wrap (r3486 + 1))),(12,i6 x4645)],[(1,bk (zK a0)),(3,bk (.row 2 (s.map zC)))]⟩) (kG:=fun s=>s=y6385) ?_ ?_
   ·rintro x6384 rfl
    have h:=hk6387
    refine ns ⟨[(1,ow 1),(3,.osl 3),(11,i6 (IntKind.i64.wrap (r3486 + 1))),(12,i6 x4645)],[(1,bk (zK a0)),(3,bk (.row 2 (x6384.map zC)))]⟩ (zR (vr (i6 (IntKind.i64.wrap (x4645 + 1))) (vr (i6 (IntKind.i64.wrap (x4645 + 1))) (yJ ?_))))
    cases h
    exact ag hX5806
   ·have h:=hy6386
    refine yB (sr (vr (i6 x4645) (vr (i6 x4645) (nk ⟨[(1,ow 1),(3,.osl 3),(4,i6 x4645),(11,i6 (IntKind.i64.wrap (r3486 + 1))),(12,i6 x4645)],[(1,bk (zK a0)),(3,bk (.row 2 (x4646.map zC)))]⟩ (sr (vb (.own 1 [0] [0]) rfl rfl ?_))))))
    have hl6388:LdOk [0] (zK a0) [0] 1 false (i6 a0.1):=(.fld rfl rfl rfl rfl (.nil rfl rfl rfl))
    refine vq (i6 a0.1) (zM (i:=⟨.int .i64,1,8,(.int .i64 0)⟩) rfl rfl rfl hl6388) hl6388.c (vr (i6 x4645) ?_)
    obtain ⟨r6389,hr6390,h⟩:=bind_some h
    refine ca (zjv a0.1 x4645 r6389 hr6390) (vq (i6 (r6389.length:Int)) (xX rfl rfl) trivial (vr (i6 0) (nk ⟨[(1,ow 1),(3,.osl 3),(4,i6 x4645),(11,i6 (IntKind.i64.wrap (r3486 + 1))),(12,i6 x4645),(18,nY r6389),(19,i6 (r6389.length:Int)),(20,i6 0)],[(1,bk (zK a0)),(3,bk (.row 2 (x4646.map zC)))]⟩ (yB ?_))))
    refine xU (emb:=fun (s:(Int×(List ((List Int)×(List Int)))))=>⟨[(1,ow 1),(3,.osl 3),(4,i6 x4645),(11,i6 (IntKind.i64.wrap (r3486 + 1))),(12,i6 x4645),(18,nY r6389),(19,i6 (r6389.length:Int)),(20,i6 s.1)],[(1,bk (zK a0)),(3,bk (.row 2 (s.2.map zC)))]⟩) (body:=(fun s:(Int×(List ((List Int)×(List Int))))=>uK r6389 a0 x4645 s.1 s.2)) (G:=fun q=>some q=some y6385) h rfl ?_ (by kernel_rfl)
    rintro X6771 ⟨x6580,x6581⟩ x6772 h hX6773
    have h:uK r6389 a0 x4645 x6580 x6581=some x6772:=h
    refine ns ⟨[(1,ow 1),(3,.osl 3),(4,i6 x4645),(11,i6 (IntKind.i64.wrap (r3486 + 1))),(12,i6 x4645),(18,nY r6389),(19,i6 (r6389.length:Int)),(20,i6 x6580)],[(1,bk (zK a0)),(3,bk (.row 2 (x6581.map zC)))]⟩ (sr (vr (.bool ((decide (x6580 < (r6389.length:Int))))) (nk ⟨[(1,ow 1),(3,.osl 3),(4,i6 x4645),(11,i6 (IntKind.i64.wrap (r3486 + 1))),(12,i6 x4645),(18,nY r6389),(19,i6 (r6389.length:Int)),(20,i6 x6580),(21,.bool ((decide (x6580 < (r6389.length:Int)))))],[(1,bk (zK a0)),(3,bk (.row 2 (x6581.map zC)))]⟩ (yC ?_))))
    cases hb6774:(decide (x6580 < (r6389.length:Int)))
    ·have h:=zW hb6774 h
     refine zP rfl (xR (yI ?_))
     cases h
     have h:=hX6773
     refine yI (xQ (xI ?_))
     exact jl x6581 h
    ·have h:=zV hb6774 h
     refine zO rfl (yG (nj ⟨[(1,ow 1),(3,.osl 3),(4,i6 x4645),(11,i6 (IntKind.i64.wrap (r3486 + 1))),(12,i6 x4645),(18,nY r6389),(19,i6 (r6389.length:Int)),(20,i6 x6580)],[(1,bk (zK a0)),(3,bk (.row 2 (x6581.map zC)))]⟩ ?_))
     obtain ⟨y6868,hy6869,hk6870⟩:=bind_some h
     clear h
     refine yN (emb:=fun (s:(List ((List Int)×(List Int))))=>⟨[(1,ow 1),(3,.osl 3),(4,i6 x4645),(11,i6 (IntKind.i64.wrap (r3486 + 1))),(12,i6 x4645),(18,nY r6389),(19,i6 (r6389.length:Int)),(20,i6 x6580)],[(1,bk (zK a0)),(3,bk (.row 2 (s.map zC)))]⟩) (kG:=fun s=>s=y6868) ?_ ?_
     ·rintro x6867 rfl
      have h:=hk6870
      refine ns ⟨[(1,ow 1),(3,.osl 3),(4,i6 x4645),(11,i6 (IntKind.i64.wrap (r3486 + 1))),(12,i6 x4645),(18,nY r6389),(19,i6 (r6389.length:Int)),(20,i6 x6580)],[(1,bk (zK a0)),(3,bk (.row 2 (x6867.map zC)))]⟩ (zR (vr (i6 (IntKind.i64.wrap (x6580 + 1))) (vr (i6 (IntKind.i64.wrap (x6580 + 1))) (yJ ?_))))
      cases h
      exact ag hX6773
     ·have h:=hy6869
      refine yB (sr ?_)
      obtain ⟨hc6871,h⟩:=zT h
      refine vq (.ref (.row 1 (r6389.map zI)) [x6580.toNat] [x6580.toNat*1]) rfl (zdp hc6871) ?_
      have hl6872:LdOk [x6580.toNat] (.row 1 (r6389.map zI)) [x6580.toNat*1] 1 false (zI (rd r6389 x6580.toNat)):=(.row (llt hc6871) rfl (.nil rfl rfl rfl))
      refine vq (zI (rd r6389 x6580.toNat)) (kC (i:=⟨.slice 2,1,24,(zI [])⟩) rfl rfl hl6872) hl6872.c (vr (zI (rd r6389 x6580.toNat)) (nk ⟨[(1,ow 1),(3,.osl 3),(4,i6 x4645),(6,zI (rd r6389 x6580.toNat)),(11,i6 (IntKind.i64.wrap (r3486 + 1))),(12,i6 x4645),(18,nY r6389),(19,i6 (r6389.length:Int)),(20,i6 x6580)],[(1,bk (zK a0)),(3,bk (.row 2 (x6581.map zC)))]⟩ (sr (vb (.own 1 [0] [0]) rfl rfl ?_))))
      have hl6873:LdOk [0] (zK a0) [0] 1 false (i6 a0.1):=(.fld rfl rfl rfl rfl (.nil rfl rfl rfl))
      refine vq (i6 a0.1) (zM (i:=⟨.int .i64,1,8,(.int .i64 0)⟩) rfl rfl rfl hl6873) hl6873.c (vr (i6 x4645) ?_)
      obtain ⟨r6874,hr6875,h⟩:=bind_some h
      refine ca (zgj a0.1 x4645 1099511627776 r6874 hr6875) (vr (i6 0) (nk ⟨[(1,ow 1),(3,.osl 3),(4,i6 x4645),(6,zI (rd r6389 x6580.toNat)),(11,i6 (IntKind.i64.wrap (r3486 + 1))),(12,i6 x4645),(18,nY r6389),(19,i6 (r6389.length:Int)),(20,i6 x6580),(27,i6 r6874),(28,i6 0)],[(1,bk (zK a0)),(3,bk (.row 2 (x6581.map zC)))]⟩ (yB ?_)))
      refine xU (emb:=fun (s:(Int×(List ((List Int)×(List Int)))))=>⟨[(1,ow 1),(3,.osl 3),(4,i6 x4645),(6,zI (rd r6389 x6580.toNat)),(11,i6 (IntKind.i64.wrap (r3486 + 1))),(12,i6 x4645),(18,nY r6389),(19,i6 (r6389.length:Int)),(20,i6 x6580),(27,i6 r6874),(28,i6 s.1)],[(1,bk (zK a0)),(3,bk (.row 2 (s.2.map zC)))]⟩) (body:=(fun s:(Int×(List ((List Int)×(List Int))))=>uJ r6874 a0 r6389 x6580 s.1 s.2)) (G:=fun q=>some q=some y6868) h rfl ?_ (by kernel_rfl)
      rintro X6932 ⟨x6903,x6904⟩ x6933 h hX6934
      have h:uJ r6874 a0 r6389 x6580 x6903 x6904=some x6933:=h
      refine ns ⟨[(1,ow 1),(3,.osl 3),(4,i6 x4645),(6,zI (rd r6389 x6580.toNat)),(11,i6 (IntKind.i64.wrap (r3486 + 1))),(12,i6 x4645),(18,nY r6389),(19,i6 (r6389.length:Int)),(20,i6 x6580),(27,i6 r6874),(28,i6 x6903)],[(1,bk (zK a0)),(3,bk (.row 2 (x6904.map zC)))]⟩ (sr (vr (.bool ((decide (x6903 < r6874)))) (nk ⟨[(1,ow 1),(3,.osl 3),(4,i6 x4645),(6,zI (rd r6389 x6580.toNat)),(11,i6 (IntKind.i64.wrap (r3486 + 1))),(12,i6 x4645),(18,nY r6389),(19,i6 (r6389.length:Int)),(20,i6 x6580),(27,i6 r6874),(28,i6 x6903),(29,.bool ((decide (x6903 < r6874))))],[(1,bk (zK a0)),(3,bk (.row 2 (x6904.map zC)))]⟩ (yC ?_))))
      cases hb6935:(decide (x6903 < r6874))
      ·have h:=zW hb6935 h
       refine zP rfl (xR (yI ?_))
       cases h
       have h:=hX6934
       refine yI (xQ (xI ?_))
       exact jl x6904 h
      ·have h:=zV hb6935 h
       refine zO rfl (yG (nj ⟨[(1,ow 1),(3,.osl 3),(4,i6 x4645),(6,zI (rd r6389 x6580.toNat)),(11,i6 (IntKind.i64.wrap (r3486 + 1))),(12,i6 x4645),(18,nY r6389),(19,i6 (r6389.length:Int)),(20,i6 x6580),(27,i6 r6874),(28,i6 x6903)],[(1,bk (zK a0)),(3,bk (.row 2 (x6904.map zC)))]⟩ ?_))
       obtain ⟨y6948,hy6949,hk6950⟩:=bind_some h
       clear h
       refine yN (emb:=fun (s:(List ((List Int)×(List Int))))=>⟨[(1,ow 1),(3,.osl 3),(4,i6 x4645),(6,zI (rd r6389 x6580.toNat)),(11,i6 (IntKind.i64.wrap (r3486 + 1))),(12,i6 x4645),(18,nY r6389),(19,i6 (r6389.length:Int)),(20,i6 x6580),(27,i6 r6874),(28,i6 x6903)],[(1,bk (zK a0)),(3,bk (.row 2 (s.map zC)))]⟩) (kG:=fun s=>s=y6948) ?_ ?_
       ·rintro x6947 rfl
        have h:=hk6950
        refine ns ⟨[(1,ow 1),(3,.osl 3),(4,i6 x4645),(6,zI (rd r6389 x6580.toNat)),(11,i6 (IntKind.i64.wrap (r3486 + 1))),(12,i6 x4645),(18,nY r6389),(19,i6 (r6389.length:Int)),(20,i6 x6580),(27,i6 r6874),(28,i6 x6903)],[(1,bk (zK a0)),(3,bk (.row 2 (x6947.map zC)))]⟩ (zR (vr (i6 (IntKind.i64.wrap (x6903 + 1))) (vr (i6 (IntKind.i64.wrap (x6903 + 1))) (yJ ?_))))
        cases h
        exact ag hX6934
       ·have h:=hy6949
        refine yB (sr (vr (i6 x6903) (vr (i6 x6903) (nk ⟨[(1,ow 1),(3,.osl 3),(4,i6 x4645),(6,zI (rd r6389 x6580.toNat)),(7,i6 x6903),(11,i6 (IntKind.i64.wrap (r3486 + 1))),(12,i6 x4645),(18,nY r6389),(19,i6 (r6389.length:Int)),(20,i6 x6580),(27,i6 r6874),(28,i6 x6903)],[(1,bk (zK a0)),(3,bk (.row 2 (x6904.map zC)))]⟩ (sr (vr (zI (rd r6389 x6580.toNat)) (vb (.own 1 [0] [0]) rfl rfl ?_)))))))
        have hl6951:LdOk [0] (zK a0) [0] 1 false (i6 a0.1):=(.fld rfl rfl rfl rfl (.nil rfl rfl rfl))
        refine vq (i6 a0.1) (zM (i:=⟨.int .i64,1,8,(.int .i64 0)⟩) rfl rfl rfl hl6951) hl6951.c (vr (i6 x6903) ?_)
        obtain ⟨r6952,hr6953,h⟩:=bind_some h
        refine ca (zec a0.1 x6903 r6952 hr6953) (vq (zC (((rd r6389 x6580.toNat),r6952))) rfl ⟨rfl,(all_cons ⟨(yS rfl),rfl⟩ (all_cons ⟨(yS rfl),rfl⟩ all_nil))⟩ (vo 1800 (zC ([],[])) rfl rfl (vs (zC (((rd r6389 x6580.toNat),r6952))) rfl rfl (fun _=>rfl) rfl rfl rfl rfl rfl rfl (nk ⟨[(1,ow 1),(3,.osl 3),(4,i6 x4645),(6,zI (rd r6389 x6580.toNat)),(8,ow 8),(11,i6 (IntKind.i64.wrap (r3486 + 1))),(12,i6 x4645),(18,nY r6389),(19,i6 (r6389.length:Int)),(20,i6 x6580),(27,i6 r6874),(28,i6 x6903)],[(1,bk (zK a0)),(3,bk (.row 2 (x6904.map zC))),(8,bk (zC (((rd r6389 x6580.toNat),r6952))))]⟩ (sr (vl (zK a0) rfl rfl rfl rfl rfl rfl (vl (zC (((rd r6389 x6580.toNat),r6952))) rfl rfl rfl rfl rfl rfl ?_)))))))
        obtain ⟨r6957,hr6958,h⟩:=bind_some h
        refine ca (zfe a0 (((rd r6389 x6580.toNat),r6952)) r6957 hr6958) (nk ⟨[(1,ow 1),(3,.osl 3),(4,i6 x4645),(6,zI (rd r6389 x6580.toNat)),(8,ow 8),(11,i6 (IntKind.i64.wrap (r3486 + 1))),(12,i6 x4645),(18,nY r6389),(19,i6 (r6389.length:Int)),(20,i6 x6580),(27,i6 r6874),(28,i6 x6903),(39,.bool r6957)],[(1,bk (zK a0)),(3,bk (.row 2 (x6904.map zC))),(8,bk (zC (((rd r6389 x6580.toNat),r6952))))]⟩ ?_)
        cases hb6959:r6957
        ·have h:=zW hb6959 h
         refine zP rfl (yG (xI ?_))
         exact jl x6904 h
        ·have h:=zV hb6959 h
         refine zO rfl (zR (vr (.osl 3) (vl (zC (((rd r6389 x6580.toNat),r6952))) rfl rfl rfl rfl rfl rfl (vq (.sl 2 true (([((rd r6389 x6580.toNat),r6952)]).map zC)) rfl ⟨(yS rfl),(yS rfl),(all_cons ⟨(yS rfl),rfl⟩ all_nil)⟩ ?_))))
         obtain ⟨hc6961,h⟩:=zT h
         refine vu (.osl 5300) [(5300,bk (.row 2 (((x6904 ++ ([((rd r6389 x6580.toNat),r6952)]))).map zC))),(3,none)] (zki (i:=⟨.struct [(0,52),(1,52)],2,48,(zC ([],[]))⟩) (f:=zC) (l:=x6904) (l2:=[((rd r6389 x6580.toNat),r6952)]) rfl rfl rfl rfl (fun _=>rfl) rfl rfl) (zsi (f:=zC) (s:=2) (sz:=2) (by':=48) (u:=[]) (id:=3) hc6961 (.inr rfl) rfl rfl rfl) rfl (vr (.osl 5300) (yJ (xI ?_)))
         exact jl ((x6904 ++ ([((rd r6389 x6580.toNat),r6952)]))) h
end Go.Proofs.YtebfhlnfmkhmcaaGreat
