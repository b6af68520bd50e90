/- Functions of the program: plain Lean functions, and that the program computes them. Printed by gen.py. -/
import Derived.Test.YtebfhlnfmkhmcaaGreatFnT
import Derived.Test.YtebfhlnfmkhmcaaGreatFn1
import Derived.Test.YtebfhlnfmkhmcaaGreatFn4
import Derived.Test.YtebfhlnfmkhmcaaGreatFn6
import Derived.Test.YtebfhlnfmkhmcaaGreatFn7
import Derived.Test.YtebfhlnfmkhmcaaGreatFn8
import Derived.Test.YtebfhlnfmkhmcaaGreatFn9
import Derived.Test.YtebfhlnfmkhmcaaGreatFn10
import Derived.Test.YtebfhlnfmkhmcaaGreatFn11
namespace Go.Proofs.YtebfhlnfmkhmcaaGreat
open Go.Abs Go.Proofs
set_option linter.unusedSimpArgs false
set_option linter.unusedVariables false
set_option maxHeartbeats 16000000
attribute [local irreducible] Abs.acode Abs.aops Abs.aopsT Abs.thenK Abs.blockK

def zpu:Live:=[(0,[0]),(1,[0]),(2,[]),(3,[0]),(4,[0,3,4,5,6]),(5,[0,3,4,5,6,7,8]),(6,[0,3,4,5,6,7,8,9,10]),(7,[]),(8,[0,3,4,5,6,7,8]),(9,[0,3,4,5,6,7]),(10,[0,3,4,5,6,7,11,12]),(11,[0,3,4,5,6,7,11,12,13,14]),(12,[0,3,4,5,7,11,12,13,14,15,16]),(13,[0,3,4,5,7,11,12,13,14,16,17,18]),(14,[0,3,4,5,7,11,12,13,14,16,17,18,19,20]),(15,[0,3,4,5,7,11,12,13,14,16,17,18,20,21,22]),(16,[0,3,4,5,7,11,12,13,14,16,17,18,20,21,22,23,24]),(17,[0,3,4,5,7,11,12,13,14,16,17,18,20,21,22,23,24,25,26]),(18,[0,3,4,7,11,12,13,14,16,17,18,20,21,22,23,24,25,26,27,28]),(19,[]),(20,[0]),(21,[0,29,30,31]),(22,[0,29,30,31,32,33]),(23,[0,32,33,34,35]),(24,[0,32,33,34,35,36,37,38,39]),(25,[0,32,33,34,35,36,37,38,39,40,41]),(26,[0,32,33,34,35,40,41,42,43]),(27,[0,32,33,34,35,40,41,42,43,44,45,46]),(28,[0,32,33,34,35,40,41,42,43,44,45,46,47,48]),(29,[0,32,33,34,35,40,41,42,43,47,48,49,50]),(30,[0,32,33,34,35,40,41,42,43,47,48,49,50,51,52,53]),(31,[0,32,33,34,35,40,41,42,43,47,48,49,50,51,52,53,54,55]),(32,[0,32,33,34,35,40,41,42,43,47,48,49,50,54,55,56,57]),(33,[0,32,33,34,35,40,41,42,43,47,48,49,50,54,55,56,57,58,59,60]),(34,[32,33,34,35,40,41,42,43,47,48,49,50,54,55,56,57,58,59,60,61,62]),(100064,[0,64]),(100095,[0,3,4,5,6,7,8,95]),(100097,[0,3,4,5,6,7,97]),(100237,[0,237])]
noncomputable def zea (a0:(List Int)):Option Bool :=
 (Option.bind (zqk a0) fun r1=>(if r1 then (some true) else (Option.bind (mC a0) fun r4=>(Option.bind (vB r4.1 r4.2.1 r4.2.2.1 r4.2.2.2) fun r12=>(Option.bind (jY r4.1 r4.2.1 r4.2.2.1 r4.2.2.2) fun r18=>(Option.bind (α:=Bool) ((if (r12.2 != r18.2) then (some true) else (some ((!decide (r12.1=r18.1)))))) fun x24=>(if x24 then (some false) else (Option.bind (α:=(Unit⊕Bool)) ((if (r12.2 == 0) then (Option.bind (vB r4.1 r4.2.1 r4.2.2.2 r4.2.2.1) fun r146=>(Option.bind (vB r4.1 r4.2.1 r12.1 r4.2.2.1) fun r152=>(Option.bind (vB r4.1 r4.2.1 r4.2.2.2 r4.2.2.1) fun r158=>(Option.bind (vB r4.1 r4.2.1 r4.2.2.1 r158.1) fun r164=>(Option.bind (kO r4.1 r4.2.1 r4.2.2.1) fun r169=>(Option.bind (vB r4.1 r4.2.1 r4.2.2.1 r169.1) fun r175=>(Option.bind (jH r4.1 r4.2.1 r4.2.2.1) fun r180=>(Option.bind (zcz r4.1 r4.2.1) fun r183=>(Option.bind (vI r4.1 r4.2.1 r4.2.2.1 r180.1) fun r187=>(Option.bind (α:=Bool) ((if (r146.2 != 0) then (some true) else (if (r152.2 != 0) then (some true) else (if (r158.2 != 0) then (some true) else (if (r164.2 != 0) then (some true) else (if (r169.2 != 0) then (some true) else (if (r175.2 != 0) then (some true) else (if (r180.2 != 0) then (some true) else (if (r183.2 != 0) then (some true) else (if (r187.2 != 0) then (some true) else (if (!decide (r146.1=r12.1)) then (some true) else (if (!decide (r152.1=r164.1)) then (some true) else (if (!decide (r175.1=(((yO (yH 64 (0:Int)) 0 1),(yH 64 (0:Int)))))) then (some true) else (if (decide (r180.1 < 1)) then (some true) else (jA (r180.1 ≠ 0) ((if ((Int.tmod r183.1 r180.1) != 0) then (some true) else (if (!decide (r187.1=r175.1)) then (some true) else (Option.bind (zd2 r4.1 r4.2.1 r12.1) fun r246=>(some (!r246))))))))))))))))))))) fun x217=>(if x217 then (some (.inr false)) else (some ((.inl ())))))))))))))) else (some ((.inl ()))))) fun z=>match z with | .inl _=>(Option.bind (zai a0) fun r249=>(Option.bind (zbl r249.1 r249.2.1 r249.2.2) fun r255=>(Option.bind (zbo r249.1 r249.2.1 r249.2.2) fun r260=>(Option.bind (mL a0) fun r263=>(Option.bind (vI r263.1 r263.2.1 r263.2.2.1 r263.2.2.2) fun r269=>(Option.bind (uI r263.1 r263.2.1 r263.2.2.1 r263.2.2.2) fun r274=>(Option.bind (mS a0) fun r277=>(Option.bind (jH r277.1 r277.2.1 r277.2.2) fun r283=>(Option.bind (nQ r277.1 r277.2.1 r277.2.2) fun r287=>(Option.bind (zch a0) fun r289=>(Option.bind (kO r289.1 r289.2.1 r289.2.2) fun r295=>(Option.bind (zan r289.1 r289.2.1 r289.2.2) fun r300=>(Option.bind (zdk a0) fun r303=>(Option.bind (nB a0) fun r307=>(if (r255.2 == r260.2) then (if (decide (r255.1=r260.1)) then (if (r269.2 == r274.2) then (if (decide (r269.1=r274.1)) then (if (r283.2 == r287.2) then (if (r283.1 == r287.1) then (if (r295.2 == r300.2) then (if (decide (r295.1=r300.1)) then (Option.bind (zd2 r303.1 r303.2.1 r303.2.2) fun r355=>(Option.bind (zgx r303.1 r303.2.1 r303.2.2) fun r359=>(if (r355 == r359) then (Option.bind (kW r307.1 r307.2) fun r363=>(Option.bind (zal r307.1 r307.2) fun r366=>(some (r363 == r366)))) else (some false)))) else (some false)) else (some false)) else (some false)) else (some false)) else (some false)) else (some false)) else (some false)) else (some false)))))))))))))))) | .inr r368=>(some r368)))))))))
theorem zos (a0:(List Int)) (r:Bool) (h:zea a0=some r):Den Tryz.prog 3 [(xJ a0)] { r:=(.bool r) }:=by
 refine dd (rs:=[(.bool r)]) (L:=zpu) xL [] Tryz.func3 Tryz.ntmps3 ?_
 refine ns ⟨[(0,xJ a0)],[]⟩ ?_
 refine sr (vr (.bool false) (nk ⟨[(0,xJ a0)],[]⟩ (yC (sr (vr (xJ a0) ?_)))))
 obtain ⟨r1,hr2,h⟩:=bind_some h
 refine ca (zt5 a0 r1 hr2) (nk ⟨[(0,xJ a0),(64,.bool r1)],[]⟩ ?_)
 cases hb3:r1
 ·have h:=zW hb3 h
  refine zP rfl (yG (nj ⟨[(0,xJ a0)],[]⟩ (sr (vr (xJ a0) ?_))))
  obtain ⟨r4,hr5,h⟩:=bind_some h
  refine ca (zhj a0 r4 hr5) (vr (.tuple [(i6 r4.1),(zJ r4.2.1),(zA r4.2.2.1),(zA r4.2.2.2)]) (vb (i6 r4.1) rfl rfl (vb (zJ r4.2.1) rfl rfl (vb (zA r4.2.2.1) rfl rfl (vb (zA r4.2.2.2) rfl rfl (vo 1400 (yF) rfl rfl (vo 1500 xA rfl rfl (vo 1600 xA rfl rfl (vr (i6 r4.1) ?_)))))))))
  refine vs (zJ r4.2.1) rfl rfl (fun _=>rfl) rfl rfl rfl rfl rfl rfl (vs (zA r4.2.2.1) rfl rfl (fun _=>rfl) rfl rfl rfl rfl rfl rfl (vs (zA r4.2.2.2) rfl rfl (fun _=>rfl) rfl rfl rfl rfl rfl rfl (nk ⟨[(0,xJ a0),(3,i6 r4.1),(4,ow 4),(5,ow 5),(6,ow 6)],[(4,bk (zJ r4.2.1)),(5,bk (zA r4.2.2.1)),(6,bk (zA r4.2.2.2))]⟩ (sr (vr (i6 r4.1) (vl (zJ r4.2.1) rfl rfl rfl rfl rfl rfl (vl (zA r4.2.2.1) rfl rfl rfl rfl rfl rfl (vl (zA r4.2.2.2) rfl rfl rfl rfl rfl rfl ?_))))))))
  obtain ⟨r12,hr13,h⟩:=bind_some h
  refine ca (kQ r4.1 r4.2.1 r4.2.2.1 r4.2.2.2 r12 hr13) (vr (.tuple [(zA r12.1),(i6 r12.2)]) (vb (zA r12.1) rfl rfl (vb (i6 r12.2) rfl rfl (vo 1700 xA rfl rfl (vs (zA r12.1) rfl rfl (fun _=>rfl) rfl rfl rfl rfl rfl rfl (vr (i6 r12.2) (nk ⟨[(0,xJ a0),(3,i6 r4.1),(4,ow 4),(5,ow 5),(6,ow 6),(7,ow 7),(8,i6 r12.2)],[(4,bk (zJ r4.2.1)),(5,bk (zA r4.2.2.1)),(6,bk (zA r4.2.2.2)),(7,bk (zA r12.1))]⟩ (sr (vr (i6 r4.1) ?_)))))))))
  refine vl (zJ r4.2.1) rfl rfl rfl rfl rfl rfl (vl (zA r4.2.2.1) rfl rfl rfl rfl rfl rfl (vl (zA r4.2.2.2) rfl rfl rfl rfl rfl rfl ?_))
  obtain ⟨r18,hr19,h⟩:=bind_some h
  refine ca (zkb r4.1 r4.2.1 r4.2.2.1 r4.2.2.2 r18 hr19) (vr (.tuple [(zA r18.1),(i6 r18.2)]) (vb (zA r18.1) rfl rfl (vb (i6 r18.2) rfl rfl (vo 1900 xA rfl rfl (vs (zA r18.1) rfl rfl (fun _=>rfl) rfl rfl rfl rfl rfl rfl (vr (i6 r18.2) (nk ⟨[(0,xJ a0),(3,i6 r4.1),(4,ow 4),(5,ow 5),(6,ow 6),(7,ow 7),(8,i6 r12.2),(9,ow 9),(10,i6 r18.2)],[(4,bk (zJ r4.2.1)),(5,bk (zA r4.2.2.1)),(6,bk (zA r4.2.2.2)),(7,bk (zA r12.1)),(9,bk (zA r18.1))]⟩ (yC ?_))))))))
  obtain ⟨y25,hy26,hk27⟩:=bind_some h
  clear h
  refine yN (emb:=fun (s:Bool)=>⟨[(0,xJ a0),(3,i6 r4.1),(4,ow 4),(5,ow 5),(6,ow 6),(7,ow 7),(8,i6 r12.2),(95,.bool s)],[(4,bk (zJ r4.2.1)),(5,bk (zA r4.2.2.1)),(6,bk (zA r4.2.2.2)),(7,bk (zA r12.1))]⟩) (kG:=fun s=>s=y25) ?_ ?_
  ·rintro x24 rfl
   have h:=hk27
   refine ns ⟨[(0,xJ a0),(3,i6 r4.1),(4,ow 4),(5,ow 5),(6,ow 6),(7,ow 7),(8,i6 r12.2),(95,.bool x24)],[(4,bk (zJ r4.2.1)),(5,bk (zA r4.2.2.1)),(6,bk (zA r4.2.2.2)),(7,bk (zA r12.1))]⟩ ?_
   cases hb31:x24
   ·have h:=zW hb31 h
    refine zP rfl (yG (nj ⟨[(0,xJ a0),(3,i6 r4.1),(4,ow 4),(5,ow 5),(6,ow 6),(7,ow 7),(8,i6 r12.2)],[(4,bk (zJ r4.2.1)),(5,bk (zA r4.2.2.1)),(6,bk (zA r4.2.2.2)),(7,bk (zA r12.1))]⟩ ?_))
    obtain ⟨y139,hy140,hk141⟩:=bind_some h
    clear h
    refine yN (emb:=fun (s:Unit)=>⟨[(0,xJ a0)],[]⟩) (kG:=fun s=>(.inl s)=y139) ?_ ?_
    ·rintro _ rfl
     have h:=hk141
     refine ns ⟨[(0,xJ a0)],[]⟩ (sr (vr (xJ a0) ?_))
     obtain ⟨r249,hr250,h⟩:=bind_some h
     refine ca (zit a0 r249 hr250) (vr (.tuple [(i6 r249.1),(zJ r249.2.1),(zA r249.2.2)]) (vb (i6 r249.1) rfl rfl (vb (zJ r249.2.1) rfl rfl (vb (zA r249.2.2) rfl rfl (vo 4000 (yF) rfl rfl (vo 4100 xA rfl rfl (vr (i6 r249.1) (vs (zJ r249.2.1) rfl rfl (fun _=>rfl) rfl rfl rfl rfl rfl rfl (vs (zA r249.2.2) rfl rfl (fun _=>rfl) rfl rfl rfl rfl rfl rfl ?_)))))))))
     refine nk ⟨[(0,xJ a0),(29,i6 r249.1),(30,ow 30),(31,ow 31)],[(30,bk (zJ r249.2.1)),(31,bk (zA r249.2.2))]⟩ (sr (vr (i6 r249.1) (vl (zJ r249.2.1) rfl rfl rfl rfl rfl rfl (vl (zA r249.2.2) rfl rfl rfl rfl rfl rfl ?_))))
     obtain ⟨r255,hr256,h⟩:=bind_some h
     refine ca (zma r249.1 r249.2.1 r249.2.2 r255 hr256) (vr (.tuple [(zA r255.1),(i6 r255.2)]) (vb (zA r255.1) rfl rfl (vb (i6 r255.2) rfl rfl (vo 4200 xA rfl rfl (vs (zA r255.1) rfl rfl (fun _=>rfl) rfl rfl rfl rfl rfl rfl (vr (i6 r255.2) (nk ⟨[(0,xJ a0),(29,i6 r249.1),(30,ow 30),(31,ow 31),(32,ow 32),(33,i6 r255.2)],[(30,bk (zJ r249.2.1)),(31,bk (zA r249.2.2)),(32,bk (zA r255.1))]⟩ (sr (vr (i6 r249.1) ?_)))))))))
     refine vl (zJ r249.2.1) rfl rfl rfl rfl rfl rfl (vl (zA r249.2.2) rfl rfl rfl rfl rfl rfl ?_)
     obtain ⟨r260,hr261,h⟩:=bind_some h
     refine ca (zl7 r249.1 r249.2.1 r249.2.2 r260 hr261) (vr (.tuple [(zA r260.1),(i6 r260.2)]) (vb (zA r260.1) rfl rfl (vb (i6 r260.2) rfl rfl (vo 4400 xA rfl rfl (vs (zA r260.1) rfl rfl (fun _=>rfl) rfl rfl rfl rfl rfl rfl (vr (i6 r260.2) (nk ⟨[(0,xJ a0),(32,ow 32),(33,i6 r255.2),(34,ow 34),(35,i6 r260.2)],[(32,bk (zA r255.1)),(34,bk (zA r260.1))]⟩ (sr (vr (xJ a0) ?_)))))))))
     obtain ⟨r263,hr264,h⟩:=bind_some h
     refine ca (zh3 a0 r263 hr264) (vr (.tuple [(i6 r263.1),(zJ r263.2.1),(zA r263.2.2.1),(i6 r263.2.2.2)]) (vb (i6 r263.1) rfl rfl (vb (zJ r263.2.1) rfl rfl (vb (zA r263.2.2.1) rfl rfl (vb (i6 r263.2.2.2) rfl rfl (vo 4700 (yF) rfl rfl (vo 4800 xA rfl rfl (vr (i6 r263.1) (vs (zJ r263.2.1) rfl rfl (fun _=>rfl) rfl rfl rfl rfl rfl rfl ?_)))))))))
     refine vs (zA r263.2.2.1) rfl rfl (fun _=>rfl) rfl rfl rfl rfl rfl rfl (vr (i6 r263.2.2.2) (nk ⟨[(0,xJ a0),(32,ow 32),(33,i6 r255.2),(34,ow 34),(35,i6 r260.2),(36,i6 r263.1),(37,ow 37),(38,ow 38),(39,i6 r263.2.2.2)],[(32,bk (zA r255.1)),(34,bk (zA r260.1)),(37,bk (zJ r263.2.1)),(38,bk (zA r263.2.2.1))]⟩ (sr (vr (i6 r263.1) (vl (zJ r263.2.1) rfl rfl rfl rfl rfl rfl (vl (zA r263.2.2.1) rfl rfl rfl rfl rfl rfl (vr (i6 r263.2.2.2) ?_)))))))
     obtain ⟨r269,hr270,h⟩:=bind_some h
     refine ca (zfo r263.1 r263.2.1 r263.2.2.1 r263.2.2.2 r269 hr270) (vr (.tuple [(zA r269.1),(i6 r269.2)]) (vb (zA r269.1) rfl rfl (vb (i6 r269.2) rfl rfl (vo 5000 xA rfl rfl (vs (zA r269.1) rfl rfl (fun _=>rfl) rfl rfl rfl rfl rfl rfl (vr (i6 r269.2) (nk ⟨[(0,xJ a0),(32,ow 32),(33,i6 r255.2),(34,ow 34),(35,i6 r260.2),(36,i6 r263.1),(37,ow 37),(38,ow 38),(39,i6 r263.2.2.2),(40,ow 40),(41,i6 r269.2)],[(32,bk (zA r255.1)),(34,bk (zA r260.1)),(37,bk (zJ r263.2.1)),(38,bk (zA r263.2.2.1)),(40,bk (zA r269.1))]⟩ (sr (vr (i6 r263.1) ?_)))))))))
     refine vl (zJ r263.2.1) rfl rfl rfl rfl rfl rfl (vl (zA r263.2.2.1) rfl rfl rfl rfl rfl rfl (vr (i6 r263.2.2.2) ?_))
     obtain ⟨r274,hr275,h⟩:=bind_some h
     refine ca (zk2 r263.1 r263.2.1 r263.2.2.1 r263.2.2.2 r274 hr275) (vr (.tuple [(zA r274.1),(i6 r274.2)]) (vb (zA r274.1) rfl rfl (vb (i6 r274.2) rfl rfl (vo 5200 xA rfl rfl (vs (zA r274.1) rfl rfl (fun _=>rfl) rfl rfl rfl rfl rfl rfl (vr (i6 r274.2) (nk ⟨[(0,xJ a0),(32,ow 32),(33,i6 r255.2),(34,ow 34),(35,i6 r260.2),(40,ow 40),(41,i6 r269.2),(42,ow 42),(43,i6 r274.2)],[(32,bk (zA r255.1)),(34,bk (zA r260.1)),(40,bk (zA r269.1)),(42,bk (zA r274.1))]⟩ (sr (vr (xJ a0) ?_)))))))))
     obtain ⟨r277,hr278,h⟩:=bind_some h
     refine ca (zh6 a0 r277 hr278) (vr (.tuple [(i6 r277.1),(zJ r277.2.1),(zA r277.2.2)]) (vb (i6 r277.1) rfl rfl (vb (zJ r277.2.1) rfl rfl (vb (zA r277.2.2) rfl rfl (vo 5500 (yF) rfl rfl (vo 5600 xA rfl rfl (vr (i6 r277.1) (vs (zJ r277.2.1) rfl rfl (fun _=>rfl) rfl rfl rfl rfl rfl rfl (vs (zA r277.2.2) rfl rfl (fun _=>rfl) rfl rfl rfl rfl rfl rfl ?_)))))))))
     refine nk ⟨[(0,xJ a0),(32,ow 32),(33,i6 r255.2),(34,ow 34),(35,i6 r260.2),(40,ow 40),(41,i6 r269.2),(42,ow 42),(43,i6 r274.2),(44,i6 r277.1),(45,ow 45),(46,ow 46)],[(32,bk (zA r255.1)),(34,bk (zA r260.1)),(40,bk (zA r269.1)),(42,bk (zA r274.1)),(45,bk (zJ r277.2.1)),(46,bk (zA r277.2.2))]⟩ (sr (vr (i6 r277.1) (vl (zJ r277.2.1) rfl rfl rfl rfl rfl rfl (vl (zA r277.2.2) rfl rfl rfl rfl rfl rfl ?_))))
     obtain ⟨r283,hr284,h⟩:=bind_some h
     refine ca (zfm r277.1 r277.2.1 r277.2.2 r283 hr284) (vr (.tuple [(i6 r283.1),(i6 r283.2)]) (vb (i6 r283.1) rfl rfl (vb (i6 r283.2) rfl rfl (vr (i6 r283.1) (vr (i6 r283.2) (nk ⟨[(0,xJ a0),(32,ow 32),(33,i6 r255.2),(34,ow 34),(35,i6 r260.2),(40,ow 40),(41,i6 r269.2),(42,ow 42),(43,i6 r274.2),(44,i6 r277.1),(45,ow 45),(46,ow 46),(47,i6 r283.1),(48,i6 r283.2)],[(32,bk (zA r255.1)),(34,bk (zA r260.1)),(40,bk (zA r269.1)),(42,bk (zA r274.1)),(45,bk (zJ r277.2.1)),(46,bk (zA r277.2.2))]⟩ (sr (vr (i6 r277.1) (vl (zJ r277.2.1) rfl rfl rfl rfl rfl rfl ?_)))))))))
     refine vl (zA r277.2.2) rfl rfl rfl rfl rfl rfl ?_
     obtain ⟨r287,hr288,h⟩:=bind_some h
     refine ca (zk0 r277.1 r277.2.1 r277.2.2 r287 hr288) (vr (.tuple [(i6 r287.1),(i6 r287.2)]) (vb (i6 r287.1) rfl rfl (vb (i6 r287.2) rfl rfl (vr (i6 r287.1) (vr (i6 r287.2) (nk ⟨[(0,xJ a0),(32,ow 32),(33,i6 r255.2),(34,ow 34),(35,i6 r260.2),(40,ow 40),(41,i6 r269.2),(42,ow 42),(43,i6 r274.2),(47,i6 r283.1),(48,i6 r283.2),(49,i6 r287.1),(50,i6 r287.2)],[(32,bk (zA r255.1)),(34,bk (zA r260.1)),(40,bk (zA r269.1)),(42,bk (zA r274.1))]⟩ (sr (vr (xJ a0) ?_))))))))
     obtain ⟨r289,hr290,h⟩:=bind_some h
     refine ca (zh5 a0 r289 hr290) (vr (.tuple [(i6 r289.1),(zJ r289.2.1),(zA r289.2.2)]) (vb (i6 r289.1) rfl rfl (vb (zJ r289.2.1) rfl rfl (vb (zA r289.2.2) rfl rfl (vo 6200 (yF) rfl rfl (vo 6300 xA rfl rfl (vr (i6 r289.1) (vs (zJ r289.2.1) rfl rfl (fun _=>rfl) rfl rfl rfl rfl rfl rfl (vs (zA r289.2.2) rfl rfl (fun _=>rfl) rfl rfl rfl rfl rfl rfl ?_)))))))))
     refine nk ⟨[(0,xJ a0),(32,ow 32),(33,i6 r255.2),(34,ow 34),(35,i6 r260.2),(40,ow 40),(41,i6 r269.2),(42,ow 42),(43,i6 r274.2),(47,i6 r283.1),(48,i6 r283.2),(49,i6 r287.1),(50,i6 r287.2),(51,i6 r289.1),(52,ow 52),(53,ow 53)],[(32,bk (zA r255.1)),(34,bk (zA r260.1)),(40,bk (zA r269.1)),(42,bk (zA r274.1)),(52,bk (zJ r289.2.1)),(53,bk (zA r289.2.2))]⟩ (sr (vr (i6 r289.1) (vl (zJ r289.2.1) rfl rfl rfl rfl rfl rfl (vl (zA r289.2.2) rfl rfl rfl rfl rfl rfl ?_))))
     obtain ⟨r295,hr296,h⟩:=bind_some h
     refine ca (zfq r289.1 r289.2.1 r289.2.2 r295 hr296) (vr (.tuple [(zA r295.1),(i6 r295.2)]) (vb (zA r295.1) rfl rfl (vb (i6 r295.2) rfl rfl (vo 6400 xA rfl rfl (vs (zA r295.1) rfl rfl (fun _=>rfl) rfl rfl rfl rfl rfl rfl (vr (i6 r295.2) (nk ⟨[(0,xJ a0),(32,ow 32),(33,i6 r255.2),(34,ow 34),(35,i6 r260.2),(40,ow 40),(41,i6 r269.2),(42,ow 42),(43,i6 r274.2),(47,i6 r283.1),(48,i6 r283.2),(49,i6 r287.1),(50,i6 r287.2),(51,i6 r289.1),(52,ow 52),(53,ow 53),(54,ow 54),(55,i6 r295.2)],[(32,bk (zA r255.1)),(34,bk (zA r260.1)),(40,bk (zA r269.1)),(42,bk (zA r274.1)),(52,bk (zJ r289.2.1)),(53,bk (zA r289.2.2)),(54,bk (zA r295.1))]⟩ (sr (vr (i6 r289.1) ?_)))))))))
     refine vl (zJ r289.2.1) rfl rfl rfl rfl rfl rfl (vl (zA r289.2.2) rfl rfl rfl rfl rfl rfl ?_)
     obtain ⟨r300,hr301,h⟩:=bind_some h
     refine ca (zlb r289.1 r289.2.1 r289.2.2 r300 hr301) (vr (.tuple [(zA r300.1),(i6 r300.2)]) (vb (zA r300.1) rfl rfl (vb (i6 r300.2) rfl rfl (vo 6600 xA rfl rfl (vs (zA r300.1) rfl rfl (fun _=>rfl) rfl rfl rfl rfl rfl rfl (vr (i6 r300.2) (nk ⟨[(0,xJ a0),(32,ow 32),(33,i6 r255.2),(34,ow 34),(35,i6 r260.2),(40,ow 40),(41,i6 r269.2),(42,ow 42),(43,i6 r274.2),(47,i6 r283.1),(48,i6 r283.2),(49,i6 r287.1),(50,i6 r287.2),(54,ow 54),(55,i6 r295.2),(56,ow 56),(57,i6 r300.2)],[(32,bk (zA r255.1)),(34,bk (zA r260.1)),(40,bk (zA r269.1)),(42,bk (zA r274.1)),(54,bk (zA r295.1)),(56,bk (zA r300.1))]⟩ (sr (vr (xJ a0) ?_)))))))))
     obtain ⟨r303,hr304,h⟩:=bind_some h
     refine ca (zl2 a0 r303 hr304) (vr (.tuple [(i6 r303.1),(zJ r303.2.1),(zA r303.2.2)]) (vb (i6 r303.1) rfl rfl (vb (zJ r303.2.1) rfl rfl (vb (zA r303.2.2) rfl rfl (vo 6900 (yF) rfl rfl (vo 7000 xA rfl rfl (vr (i6 r303.1) (vs (zJ r303.2.1) rfl rfl (fun _=>rfl) rfl rfl rfl rfl rfl rfl (vs (zA r303.2.2) rfl rfl (fun _=>rfl) rfl rfl rfl rfl rfl rfl ?_)))))))))
     refine nk ⟨[(0,xJ a0),(32,ow 32),(33,i6 r255.2),(34,ow 34),(35,i6 r260.2),(40,ow 40),(41,i6 r269.2),(42,ow 42),(43,i6 r274.2),(47,i6 r283.1),(48,i6 r283.2),(49,i6 r287.1),(50,i6 r287.2),(54,ow 54),(55,i6 r295.2),(56,ow 56),(57,i6 r300.2),(58,i6 r303.1),(59,ow 59),(60,ow 60)],[(32,bk (zA r255.1)),(34,bk (zA r260.1)),(40,bk (zA r269.1)),(42,bk (zA r274.1)),(54,bk (zA r295.1)),(56,bk (zA r300.1)),(59,bk (zJ r303.2.1)),(60,bk (zA r303.2.2))]⟩ (sr (vr (xJ a0) ?_))
     obtain ⟨r307,hr308,h⟩:=bind_some h
     refine ca (zgm a0 r307 hr308) (vr (.tuple [(i6 r307.1),(zJ r307.2)]) (vb (i6 r307.1) rfl rfl (vb (zJ r307.2) rfl rfl (vo 7200 (yF) rfl rfl (vr (i6 r307.1) (vs (zJ r307.2) rfl rfl (fun _=>rfl) rfl rfl rfl rfl rfl rfl (nk ⟨[(32,ow 32),(33,i6 r255.2),(34,ow 34),(35,i6 r260.2),(40,ow 40),(41,i6 r269.2),(42,ow 42),(43,i6 r274.2),(47,i6 r283.1),(48,i6 r283.2),(49,i6 r287.1),(50,i6 r287.2),(54,ow 54),(55,i6 r295.2),(56,ow 56),(57,i6 r300.2),(58,i6 r303.1),(59,ow 59),(60,ow 60),(61,i6 r307.1),(62,ow 62)],[(32,bk (zA r255.1)),(34,bk (zA r260.1)),(40,bk (zA r269.1)),(42,bk (zA r274.1)),(54,bk (zA r295.1)),(56,bk (zA r300.1)),(59,bk (zJ r303.2.1)),(60,bk (zA r303.2.2)),(62,bk (zJ r307.2))]⟩ (yC (xH [⟨[],[],[],[]⟩,⟨[],[],[],[]⟩,⟨[],[],[],[0,1]⟩,⟨[],[],[],[0,1,2]⟩,⟨[32],[],[],[0,1,2,3]⟩,⟨[34],[],[],[0,1,2,3]⟩,⟨[],[],[],[0,1,2,3,4,5]⟩,⟨[],[],[],[0,1,2,3,4,5,6]⟩,⟨[],[],[],[0,1,2,3,4,5,6,7]⟩,⟨[],[],[],[0,1,2,3,4,5,6,7,8]⟩,⟨[],[],[],[0,1,2,3,4,5,6,7,8]⟩,⟨[],[],[],[0,1,2,3,4,5,6,7,8,9,10]⟩,⟨[],[],[],[0,1,2,3,4,5,6,7,8,9,10,11]⟩,⟨[],[],[],[0,1,2,3,4,5,6,7,8,9,10,11,12]⟩,⟨[40],[],[],[0,1,2,3,4,5,6,7,8,9,10,11,12,13]⟩,⟨[42],[],[],[0,1,2,3,4,5,6,7,8,9,10,11,12,13]⟩,⟨[],[],[],[0,1,2,3,4,5,6,7,8,9,10,11,12,13,14,15]⟩,⟨[],[],[],[0,1,2,3,4,5,6,7,8,9,10,11,12,13,14,15,16]⟩,⟨[],[],[],[0,1,2,3,4,5,6,7,8,9,10,11,12,13,14,15,16,17]⟩,⟨[],[],[],[0,1,2,3,4,5,6,7,8,9,10,11,12,13,14,15,16,17,18]⟩,⟨[],[],[],[0,1,2,3,4,5,6,7,8,9,10,11,12,13,14,15,16,17,18]⟩,⟨[],[],[],[0,1,2,3,4,5,6,7,8,9,10,11,12,13,14,15,16,17,18,19,20]⟩,⟨[],[],[],[0,1,2,3,4,5,6,7,8,9,10,11,12,13,14,15,16,17,18,19,20,21]⟩,⟨[],[],[],[0,1,2,3,4,5,6,7,8,9,10,11,12,13,14,15,16,17,18,19,20,21,22]⟩,⟨[],[],[],[0,1,2,3,4,5,6,7,8,9,10,11,12,13,14,15,16,17,18,19,20,21,22,23]⟩,⟨[],[],[],[0,1,2,3,4,5,6,7,8,9,10,11,12,13,14,15,16,17,18,19,20,21,22,23]⟩,⟨[],[],[],[0,1,2,3,4,5,6,7,8,9,10,11,12,13,14,15,16,17,18,19,20,21,22,23,24,25]⟩,⟨[],[],[],[0,1,2,3,4,5,6,7,8,9,10,11,12,13,14,15,16,17,18,19,20,21,22,23,24,25,26]⟩,⟨[],[],[],[0,1,2,3,4,5,6,7,8,9,10,11,12,13,14,15,16,17,18,19,20,21,22,23,24,25,26,27]⟩,⟨[],[],[],[0,1,2,3,4,5,6,7,8,9,10,11,12,13,14,15,16,17,18,19,20,21,22,23,24,25,26,27,28]⟩,⟨[],[],[],[0,1,2,3,4,5,6,7,8,9,10,11,12,13,14,15,16,17,18,19,20,21,22,23,24,25,26,27,28]⟩,⟨[],[],[],[0,1,2,3,4,5,6,7,8,9,10,11,12,13,14,15,16,17,18,19,20,21,22,23,24,25,26,27,28,29,30]⟩,⟨[],[],[],[0,1,2,3,4,5,6,7,8,9,10,11,12,13,14,15,16,17,18,19,20,21,22,23,24,25,26,27,28,29,30,31]⟩,⟨[],[],[],[0,1,2,3,4,5,6,7,8,9,10,11,12,13,14,15,16,17,18,19,20,21,22,23,24,25,26,27,28,29,30,31,32]⟩,⟨[54],[],[],[0,1,2,3,4,5,6,7,8,9,10,11,12,13,14,15,16,17,18,19,20,21,22,23,24,25,26,27,28,29,30,31,32,33]⟩,⟨[56],[],[],[0,1,2,3,4,5,6,7,8,9,10,11,12,13,14,15,16,17,18,19,20,21,22,23,24,25,26,27,28,29,30,31,32,33]⟩,⟨[],[],[],[0,1,2,3,4,5,6,7,8,9,10,11,12,13,14,15,16,17,18,19,20,21,22,23,24,25,26,27,28,29,30,31,32,33,34,35]⟩,⟨[],[],[],[0,1,2,3,4,5,6,7,8,9,10,11,12,13,14,15,16,17,18,19,20,21,22,23,24,25,26,27,28,29,30,31,32,33,34,35,36]⟩,⟨[],[],[],[0,1,2,3,4,5,6,7,8,9,10,11,12,13,14,15,16,17,18,19,20,21,22,23,24,25,26,27,28,29,30,31,32,33,34,35,36,37]⟩,⟨[],[],[],[0,1,2,3,4,5,6,7,8,9,10,11,12,13,14,15,16,17,18,19,20,21,22,23,24,25,26,27,28,29,30,31,32,33,34,35,36,37,38]⟩,⟨[59],[],[],[0,1,2,3,4,5,6,7,8,9,10,11,12,13,14,15,16,17,18,19,20,21,22,23,24,25,26,27,28,29,30,31,32,33,34,35,36,37,38]⟩,⟨[60],[],[],[0,1,2,3,4,5,6,7,8,9,10,11,12,13,14,15,16,17,18,19,20,21,22,23,24,25,26,27,28,29,30,31,32,33,34,35,36,37,38]⟩,⟨[],[],[],[0,1,2,3,4,5,6,7,8,9,10,11,12,13,14,15,16,17,18,19,20,21,22,23,24,25,26,27,28,29,30,31,32,33,34,35,36,37,38,39,40,41]⟩,⟨[],[],[],[0,1,2,3,4,5,6,7,8,9,10,11,12,13,14,15,16,17,18,19,20,21,22,23,24,25,26,27,28,29,30,31,32,33,34,35,36,37,38]⟩,⟨[59],[],[],[0,1,2,3,4,5,6,7,8,9,10,11,12,13,14,15,16,17,18,19,20,21,22,23,24,25,26,27,28,29,30,31,32,33,34,35,36,37,38]⟩,⟨[60],[],[],[0,1,2,3,4,5,6,7,8,9,10,11,12,13,14,15,16,17,18,19,20,21,22,23,24,25,26,27,28,29,30,31,32,33,34,35,36,37,38]⟩,⟨[],[],[],[0,1,2,3,4,5,6,7,8,9,10,11,12,13,14,15,16,17,18,19,20,21,22,23,24,25,26,27,28,29,30,31,32,33,34,35,36,37,38,39,40,41,42,43,44,45]⟩,⟨[],[],[],[0,1,2,3,4,5,6,7,8,9,10,11,12,13,14,15,16,17,18,19,20,21,22,23,24,25,26,27,28,29,30,31,32,33,34,35,36,37,38,39,40,41,42,43,44,45,46]⟩,⟨[],[],[],[0,1,2,3,4,5,6,7,8,9,10,11,12,13,14,15,16,17,18,19,20,21,22,23,24,25,26,27,28,29,30,31,32,33,34,35,36,37,38,39,40,41,42,43,44,45,46,47]⟩,⟨[],[],[],[0,1,2,3,4,5,6,7,8,9,10,11,12,13,14,15,16,17,18,19,20,21,22,23,24,25,26,27,28,29,30,31,32,33,34,35,36,37,38,39,40,41,42,43,44,45,46,47,48]⟩,⟨[],[],[],[0,1,2,3,4,5,6,7,8,9,10,11,12,13,14,15,16,17,18,19,20,21,22,23,24,25,26,27,28,29,30,31,32,33,34,35,36,37,38,39,40,41,42,43,44,45,46,47,48,49]⟩,⟨[62],[],[],[0,1,2,3,4,5,6,7,8,9,10,11,12,13,14,15,16,17,18,19,20,21,22,23,24,25,26,27,28,29,30,31,32,33,34,35,36,37,38,39,40,41,42,43,44,45,46,47,48,49]⟩,⟨[],[],[],[0,1,2,3,4,5,6,7,8,9,10,11,12,13,14,15,16,17,18,19,20,21,22,23,24,25,26,27,28,29,30,31,32,33,34,35,36,37,38,39,40,41,42,43,44,45,46,47,48,49,50,51]⟩,⟨[],[],[],[0,1,2,3,4,5,6,7,8,9,10,11,12,13,14,15,16,17,18,19,20,21,22,23,24,25,26,27,28,29,30,31,32,33,34,35,36,37,38,39,40,41,42,43,44,45,46,47,48,49]⟩,⟨[62],[],[],[0,1,2,3,4,5,6,7,8,9,10,11,12,13,14,15,16,17,18,19,20,21,22,23,24,25,26,27,28,29,30,31,32,33,34,35,36,37,38,39,40,41,42,43,44,45,46,47,48,49]⟩,⟨[],[],[],[0,1,2,3,4,5,6,7,8,9,10,11,12,13,14,15,16,17,18,19,20,21,22,23,24,25,26,27,28,29,30,31,32,33,34,35,36,37,38,39,40,41,42,43,44,45,46,47,48,49,50,51,52,53,54]⟩,⟨[],[],[],[0,1,2,3,4,5,6,7,8,9,10,11,12,13,14,15,16,17,18,19,20,21,22,23,24,25,26,27,28,29,30,31,32,33,34,35,36,37,38,39,40,41,42,43,44,45,46,47,48,49,50,51,52,53,54,55]⟩,⟨[],[],[],[0,1,2,3,4,5,6,7,8,9,10,11,12,13,14,15,16,17,18,19,20,21,22,23,24,25,26,27,28,29,30,31,32,33,34,35,36,37,38,39,40,41,42,43,44,45,46,47,48,49,50,51,52,53,54,55,56]⟩,⟨[],[],[],[0,1,2,3,4,5,6,7,8,9,10,11,12,13,14,15,16,17,18,19,20,21,22,23,24,25,26,27,28,29,30,31,32,33,34,35,36,37,38,39,40,41,42,43,44,45,46,47,48,49,50,51,52,53,54,55,56,57]⟩] (by kernel_rfl) ?_)))))))))
     refine dj (i6 r255.2) rfl (dj (i6 r260.2) rfl (dj (.bool (r255.2 == r260.2)) rfl (dj (.bool (r255.2 == r260.2)) rfl ?_)))
     cases hb339:(r255.2 == r260.2)
     ·have h:=zW hb339 h
      refine dk rfl (by kernel_rfl) (dk rfl (by kernel_rfl) (dk rfl (by kernel_rfl) (dj (.bool false) rfl (dj (.bool false) rfl (dk rfl (by kernel_rfl) (dk rfl (by kernel_rfl) (dk rfl (by kernel_rfl) (dj (.bool false) rfl (dj (.bool false) rfl ?_)))))))))
      refine dk rfl (by kernel_rfl) (dk rfl (by kernel_rfl) (dk rfl (by kernel_rfl) (dj (.bool false) rfl (dj (.bool false) rfl (dk rfl (by kernel_rfl) (dk rfl (by kernel_rfl) (dk rfl (by kernel_rfl) (dj (.bool false) rfl (dj (.bool false) rfl ?_)))))))))
      refine dk rfl (by kernel_rfl) (dk rfl (by kernel_rfl) (dk rfl (by kernel_rfl) (dj (.bool false) rfl (dj (.bool false) rfl (dk rfl (by kernel_rfl) (dk rfl (by kernel_rfl) (dk rfl (by kernel_rfl) (dj (.bool false) rfl (dj (.bool false) rfl ?_)))))))))
      refine dk rfl (by kernel_rfl) (dk rfl (by kernel_rfl) (dk rfl (by kernel_rfl) (dj (.bool false) rfl (dj (.bool false) rfl (dk rfl (by kernel_rfl) (dk rfl (by kernel_rfl) (dk rfl (by kernel_rfl) (dk rfl (by kernel_rfl) (dk rfl (by kernel_rfl) ?_)))))))))
      refine dk rfl (by kernel_rfl) (dk rfl (by kernel_rfl) (dk rfl (by kernel_rfl) (dk rfl (by kernel_rfl) (dj (.bool false) rfl (dj (.bool false) rfl (dk rfl (by kernel_rfl) (dk rfl (by kernel_rfl) (dk rfl (by kernel_rfl) (dk rfl (by kernel_rfl) ?_)))))))))
      refine dk rfl (by kernel_rfl) (dk rfl (by kernel_rfl) (dk rfl (by kernel_rfl) (dj (.bool false) rfl (dj (.bool false) rfl (xE (wC rfl (zU ?_)))))))
      refine ⟨.inr rfl,?_⟩
      rw [Tryz.results3]
      cases h
      exact ⟨_,_,_,_,_,rfl,trivial,.inl ⟨rfl,.inl rfl⟩,rfl,rfl⟩
     ·have h:=zV hb339 h
      refine zH ?_
      have hl340:LdOk [] (zA r255.1) [] 128 true (zA r255.1):=(.nil rfl rfl rfl)
      refine gq (zA r255.1) rfl (zM (i:=⟨.struct [(0,25),(64,25)],128,128,xA⟩) rfl rfl rfl hl340) hl340.c (dn (zH ?_))
      have hl341:LdOk [] (zA r260.1) [] 128 true (zA r260.1):=(.nil rfl rfl rfl)
      refine gq (zA r260.1) rfl (zM (i:=⟨.struct [(0,25),(64,25)],128,128,xA⟩) rfl rfl rfl hl341) hl341.c (dn (zH (gq (.bool ((decide (r255.1=r260.1)))) rfl (zs4 rfl rfl (zct (f:=zJ) (a:=r255.1) (b:=r260.1) (fun a b=>mD (f:=(AV.int .u8)) (fun _ _=>mA _ _) a b) (zd5 (f:=zJ) (fun a b=>mD (f:=(AV.int .u8)) (fun _ _=>mA _ _) a b) r255.1.2 r260.1.2))) (za4 (g:=8) rfl rfl rfl rfl (by kernel_rfl) ⟨(mB (g:=7) (f:=(AV.int .u8)) (x:=r255.1.1) (y:=r260.1.1) rfl rfl rfl (fun _ _=>rfl) (fun _ _=>(mE rfl))),⟨(mB (g:=7) (f:=(AV.int .u8)) (x:=r255.1.2) (y:=r260.1.2) rfl rfl rfl (fun _ _=>rfl) (fun _ _=>(mE rfl))),trivial⟩⟩) (dn (dj (.bool ((decide (r255.1=r260.1)))) rfl (dj (.bool ((decide (r255.1=r260.1)))) rfl ?_))))))
      cases hb342:(decide (r255.1=r260.1))
      ·have h:=zW hb342 h
       refine dk rfl (by kernel_rfl) (dk rfl (by kernel_rfl) (dk rfl (by kernel_rfl) (dj (.bool false) rfl (dj (.bool false) rfl (dk rfl (by kernel_rfl) (dk rfl (by kernel_rfl) (dk rfl (by kernel_rfl) (dj (.bool false) rfl (dj (.bool false) rfl ?_)))))))))
       refine dk rfl (by kernel_rfl) (dk rfl (by kernel_rfl) (dk rfl (by kernel_rfl) (dj (.bool false) rfl (dj (.bool false) rfl (dk rfl (by kernel_rfl) (dk rfl (by kernel_rfl) (dk rfl (by kernel_rfl) (dj (.bool false) rfl (dj (.bool false) rfl ?_)))))))))
       refine dk rfl (by kernel_rfl) (dk rfl (by kernel_rfl) (dk rfl (by kernel_rfl) (dj (.bool false) rfl (dj (.bool false) rfl (dk rfl (by kernel_rfl) (dk rfl (by kernel_rfl) (dk rfl (by kernel_rfl) (dj (.bool false) rfl (dj (.bool false) rfl ?_)))))))))
       refine dk rfl (by kernel_rfl) (dk rfl (by kernel_rfl) (dk rfl (by kernel_rfl) (dk rfl (by kernel_rfl) (dk rfl (by kernel_rfl) (dk rfl (by kernel_rfl) (dk rfl (by kernel_rfl) (dk rfl (by kernel_rfl) (dk rfl (by kernel_rfl) (dj (.bool false) rfl ?_)))))))))
       refine dj (.bool false) rfl (dk rfl (by kernel_rfl) (dk rfl (by kernel_rfl) (dk rfl (by kernel_rfl) (dk rfl (by kernel_rfl) (dk rfl (by kernel_rfl) (dk rfl (by kernel_rfl) (dk rfl (by kernel_rfl) (dj (.bool false) rfl (dj (.bool false) rfl ?_)))))))))
       refine xE (wC rfl (zU ?_))
       refine ⟨.inr rfl,?_⟩
       rw [Tryz.results3]
       cases h
       exact ⟨_,_,_,_,_,rfl,trivial,.inl ⟨rfl,.inl rfl⟩,rfl,rfl⟩
      ·have h:=zV hb342 h
       refine dg (i6 r269.2) rfl rfl (by kernel_rfl) (dg (i6 r274.2) rfl rfl (by kernel_rfl) (dg (.bool (r269.2 == r274.2)) rfl rfl (by kernel_rfl) (dj (.bool (r269.2 == r274.2)) rfl (dj (.bool (r269.2 == r274.2)) rfl ?_))))
       cases hb343:(r269.2 == r274.2)
       ·have h:=zW hb343 h
        refine dk rfl (by kernel_rfl) (dk rfl (by kernel_rfl) (dk rfl (by kernel_rfl) (dj (.bool false) rfl (dj (.bool false) rfl (dk rfl (by kernel_rfl) (dk rfl (by kernel_rfl) (dk rfl (by kernel_rfl) (dj (.bool false) rfl (dj (.bool false) rfl ?_)))))))))
        refine dk rfl (by kernel_rfl) (dk rfl (by kernel_rfl) (dk rfl (by kernel_rfl) (dj (.bool false) rfl (dj (.bool false) rfl (dk rfl (by kernel_rfl) (dk rfl (by kernel_rfl) (dk rfl (by kernel_rfl) (dj (.bool false) rfl (dj (.bool false) rfl ?_)))))))))
        refine dk rfl (by kernel_rfl) (dk rfl (by kernel_rfl) (dk rfl (by kernel_rfl) (dj (.bool false) rfl (dj (.bool false) rfl (dk rfl (by kernel_rfl) (dk rfl (by kernel_rfl) (dk rfl (by kernel_rfl) (dk rfl (by kernel_rfl) (dk rfl (by kernel_rfl) ?_)))))))))
        refine dk rfl (by kernel_rfl) (dk rfl (by kernel_rfl) (dk rfl (by kernel_rfl) (dk rfl (by kernel_rfl) (dj (.bool false) rfl (dj (.bool false) rfl (dk rfl (by kernel_rfl) (dk rfl (by kernel_rfl) (dk rfl (by kernel_rfl) (dk rfl (by kernel_rfl) ?_)))))))))
        refine dk rfl (by kernel_rfl) (dk rfl (by kernel_rfl) (dk rfl (by kernel_rfl) (dj (.bool false) rfl (dj (.bool false) rfl (xE (wC rfl (zU ?_)))))))
        refine ⟨.inr rfl,?_⟩
        rw [Tryz.results3]
        cases h
        exact ⟨_,_,_,_,_,rfl,trivial,.inl ⟨rfl,.inl rfl⟩,rfl,rfl⟩
       ·have h:=zV hb343 h
        refine zH ?_
        have hl344:LdOk [] (zA r269.1) [] 128 true (zA r269.1):=(.nil rfl rfl rfl)
        refine gq (zA r269.1) rfl (zM (i:=⟨.struct [(0,25),(64,25)],128,128,xA⟩) rfl rfl rfl hl344) hl344.c (dn (zH ?_))
        have hl345:LdOk [] (zA r274.1) [] 128 true (zA r274.1):=(.nil rfl rfl rfl)
        refine gq (zA r274.1) rfl (zM (i:=⟨.struct [(0,25),(64,25)],128,128,xA⟩) rfl rfl rfl hl345) hl345.c (dn (zH (gq (.bool ((decide (r269.1=r274.1)))) rfl (zs4 rfl rfl (zct (f:=zJ) (a:=r269.1) (b:=r274.1) (fun a b=>mD (f:=(AV.int .u8)) (fun _ _=>mA _ _) a b) (zd5 (f:=zJ) (fun a b=>mD (f:=(AV.int .u8)) (fun _ _=>mA _ _) a b) r269.1.2 r274.1.2))) (za4 (g:=8) rfl rfl rfl rfl (by kernel_rfl) ⟨(mB (g:=7) (f:=(AV.int .u8)) (x:=r269.1.1) (y:=r274.1.1) rfl rfl rfl (fun _ _=>rfl) (fun _ _=>(mE rfl))),⟨(mB (g:=7) (f:=(AV.int .u8)) (x:=r269.1.2) (y:=r274.1.2) rfl rfl rfl (fun _ _=>rfl) (fun _ _=>(mE rfl))),trivial⟩⟩) (dn (dj (.bool ((decide (r269.1=r274.1)))) rfl (dj (.bool ((decide (r269.1=r274.1)))) rfl ?_))))))
        cases hb346:(decide (r269.1=r274.1))
        ·have h:=zW hb346 h
         refine dk rfl (by kernel_rfl) (dk rfl (by kernel_rfl) (dk rfl (by kernel_rfl) (dj (.bool false) rfl (dj (.bool false) rfl (dk rfl (by kernel_rfl) (dk rfl (by kernel_rfl) (dk rfl (by kernel_rfl) (dj (.bool false) rfl (dj (.bool false) rfl ?_)))))))))
         refine dk rfl (by kernel_rfl) (dk rfl (by kernel_rfl) (dk rfl (by kernel_rfl) (dj (.bool false) rfl (dj (.bool false) rfl (dk rfl (by kernel_rfl) (dk rfl (by kernel_rfl) (dk rfl (by kernel_rfl) (dj (.bool false) rfl (dj (.bool false) rfl ?_)))))))))
         refine dk rfl (by kernel_rfl) (dk rfl (by kernel_rfl) (dk rfl (by kernel_rfl) (dk rfl (by kernel_rfl) (dk rfl (by kernel_rfl) (dk rfl (by kernel_rfl) (dk rfl (by kernel_rfl) (dk rfl (by kernel_rfl) (dk rfl (by kernel_rfl) (dj (.bool false) rfl ?_)))))))))
         refine dj (.bool false) rfl (dk rfl (by kernel_rfl) (dk rfl (by kernel_rfl) (dk rfl (by kernel_rfl) (dk rfl (by kernel_rfl) (dk rfl (by kernel_rfl) (dk rfl (by kernel_rfl) (dk rfl (by kernel_rfl) (dj (.bool false) rfl (dj (.bool false) rfl ?_)))))))))
         refine xE (wC rfl (zU ?_))
         refine ⟨.inr rfl,?_⟩
         rw [Tryz.results3]
         cases h
         exact ⟨_,_,_,_,_,rfl,trivial,.inl ⟨rfl,.inl rfl⟩,rfl,rfl⟩
        ·have h:=zV hb346 h
         refine dg (i6 r283.2) rfl rfl (by kernel_rfl) (dg (i6 r287.2) rfl rfl (by kernel_rfl) (dg (.bool (r283.2 == r287.2)) rfl rfl (by kernel_rfl) (dj (.bool (r283.2 == r287.2)) rfl (dj (.bool (r283.2 == r287.2)) rfl ?_))))
         cases hb347:(r283.2 == r287.2)
         ·have h:=zW hb347 h
          refine dk rfl (by kernel_rfl) (dk rfl (by kernel_rfl) (dk rfl (by kernel_rfl) (dj (.bool false) rfl (dj (.bool false) rfl (dk rfl (by kernel_rfl) (dk rfl (by kernel_rfl) (dk rfl (by kernel_rfl) (dj (.bool false) rfl (dj (.bool false) rfl ?_)))))))))
          refine dk rfl (by kernel_rfl) (dk rfl (by kernel_rfl) (dk rfl (by kernel_rfl) (dj (.bool false) rfl (dj (.bool false) rfl (dk rfl (by kernel_rfl) (dk rfl (by kernel_rfl) (dk rfl (by kernel_rfl) (dk rfl (by kernel_rfl) (dk rfl (by kernel_rfl) ?_)))))))))
          refine dk rfl (by kernel_rfl) (dk rfl (by kernel_rfl) (dk rfl (by kernel_rfl) (dk rfl (by kernel_rfl) (dj (.bool false) rfl (dj (.bool false) rfl (dk rfl (by kernel_rfl) (dk rfl (by kernel_rfl) (dk rfl (by kernel_rfl) (dk rfl (by kernel_rfl) ?_)))))))))
          refine dk rfl (by kernel_rfl) (dk rfl (by kernel_rfl) (dk rfl (by kernel_rfl) (dj (.bool false) rfl (dj (.bool false) rfl (xE (wC rfl (zU ?_)))))))
          refine ⟨.inr rfl,?_⟩
          rw [Tryz.results3]
          cases h
          exact ⟨_,_,_,_,_,rfl,trivial,.inl ⟨rfl,.inl rfl⟩,rfl,rfl⟩
         ·have h:=zV hb347 h
          refine dg (i6 r283.1) rfl rfl (by kernel_rfl) (dg (i6 r287.1) rfl rfl (by kernel_rfl) (dg (.bool (r283.1 == r287.1)) rfl rfl (by kernel_rfl) (dj (.bool (r283.1 == r287.1)) rfl (dj (.bool (r283.1 == r287.1)) rfl ?_))))
          cases hb348:(r283.1 == r287.1)
          ·have h:=zW hb348 h
           refine dk rfl (by kernel_rfl) (dk rfl (by kernel_rfl) (dk rfl (by kernel_rfl) (dj (.bool false) rfl (dj (.bool false) rfl (dk rfl (by kernel_rfl) (dk rfl (by kernel_rfl) (dk rfl (by kernel_rfl) (dj (.bool false) rfl (dj (.bool false) rfl ?_)))))))))
           refine dk rfl (by kernel_rfl) (dk rfl (by kernel_rfl) (dk rfl (by kernel_rfl) (dk rfl (by kernel_rfl) (dk rfl (by kernel_rfl) (dk rfl (by kernel_rfl) (dk rfl (by kernel_rfl) (dk rfl (by kernel_rfl) (dk rfl (by kernel_rfl) (dj (.bool false) rfl ?_)))))))))
           refine dj (.bool false) rfl (dk rfl (by kernel_rfl) (dk rfl (by kernel_rfl) (dk rfl (by kernel_rfl) (dk rfl (by kernel_rfl) (dk rfl (by kernel_rfl) (dk rfl (by kernel_rfl) (dk rfl (by kernel_rfl) (dj (.bool false) rfl (dj (.bool false) rfl ?_)))))))))
           refine xE (wC rfl (zU ?_))
           refine ⟨.inr rfl,?_⟩
           rw [Tryz.results3]
           cases h
           exact ⟨_,_,_,_,_,rfl,trivial,.inl ⟨rfl,.inl rfl⟩,rfl,rfl⟩
          ·have h:=zV hb348 h
           refine dg (i6 r295.2) rfl rfl (by kernel_rfl) (dg (i6 r300.2) rfl rfl (by kernel_rfl) (dg (.bool (r295.2 == r300.2)) rfl rfl (by kernel_rfl) (dj (.bool (r295.2 == r300.2)) rfl (dj (.bool (r295.2 == r300.2)) rfl ?_))))
           cases hb349:(r295.2 == r300.2)
           ·have h:=zW hb349 h
            refine dk rfl (by kernel_rfl) (dk rfl (by kernel_rfl) (dk rfl (by kernel_rfl) (dj (.bool false) rfl (dj (.bool false) rfl (dk rfl (by kernel_rfl) (dk rfl (by kernel_rfl) (dk rfl (by kernel_rfl) (dk rfl (by kernel_rfl) (dk rfl (by kernel_rfl) ?_)))))))))
            refine dk rfl (by kernel_rfl) (dk rfl (by kernel_rfl) (dk rfl (by kernel_rfl) (dk rfl (by kernel_rfl) (dj (.bool false) rfl (dj (.bool false) rfl (dk rfl (by kernel_rfl) (dk rfl (by kernel_rfl) (dk rfl (by kernel_rfl) (dk rfl (by kernel_rfl) ?_)))))))))
            refine dk rfl (by kernel_rfl) (dk rfl (by kernel_rfl) (dk rfl (by kernel_rfl) (dj (.bool false) rfl (dj (.bool false) rfl (xE (wC rfl (zU ?_)))))))
            refine ⟨.inr rfl,?_⟩
            rw [Tryz.results3]
            cases h
            exact ⟨_,_,_,_,_,rfl,trivial,.inl ⟨rfl,.inl rfl⟩,rfl,rfl⟩
           ·have h:=zV hb349 h
            refine zH ?_
            have hl350:LdOk [] (zA r295.1) [] 128 true (zA r295.1):=(.nil rfl rfl rfl)
            refine gq (zA r295.1) rfl (zM (i:=⟨.struct [(0,25),(64,25)],128,128,xA⟩) rfl rfl rfl hl350) hl350.c (dn (zH ?_))
            have hl351:LdOk [] (zA r300.1) [] 128 true (zA r300.1):=(.nil rfl rfl rfl)
            refine gq (zA r300.1) rfl (zM (i:=⟨.struct [(0,25),(64,25)],128,128,xA⟩) rfl rfl rfl hl351) hl351.c (dn (zH (gq (.bool ((decide (r295.1=r300.1)))) rfl (zs4 rfl rfl (zct (f:=zJ) (a:=r295.1) (b:=r300.1) (fun a b=>mD (f:=(AV.int .u8)) (fun _ _=>mA _ _) a b) (zd5 (f:=zJ) (fun a b=>mD (f:=(AV.int .u8)) (fun _ _=>mA _ _) a b) r295.1.2 r300.1.2))) (za4 (g:=8) rfl rfl rfl rfl (by kernel_rfl) ⟨(mB (g:=7) (f:=(AV.int .u8)) (x:=r295.1.1) (y:=r300.1.1) rfl rfl rfl (fun _ _=>rfl) (fun _ _=>(mE rfl))),⟨(mB (g:=7) (f:=(AV.int .u8)) (x:=r295.1.2) (y:=r300.1.2) rfl rfl rfl (fun _ _=>rfl) (fun _ _=>(mE rfl))),trivial⟩⟩) (dn (dj (.bool ((decide (r295.1=r300.1)))) rfl (dj (.bool ((decide (r295.1=r300.1)))) rfl ?_))))))
            cases hb352:(decide (r295.1=r300.1))
            ·have h:=zW hb352 h
             refine dk rfl (by kernel_rfl) (dk rfl (by kernel_rfl) (dk rfl (by kernel_rfl) (dk rfl (by kernel_rfl) (dk rfl (by kernel_rfl) (dk rfl (by kernel_rfl) (dk rfl (by kernel_rfl) (dk rfl (by kernel_rfl) (dk rfl (by kernel_rfl) (dj (.bool false) rfl ?_)))))))))
             refine dj (.bool false) rfl (dk rfl (by kernel_rfl) (dk rfl (by kernel_rfl) (dk rfl (by kernel_rfl) (dk rfl (by kernel_rfl) (dk rfl (by kernel_rfl) (dk rfl (by kernel_rfl) (dk rfl (by kernel_rfl) (dj (.bool false) rfl (dj (.bool false) rfl ?_)))))))))
             refine xE (wC rfl (zU ?_))
             refine ⟨.inr rfl,?_⟩
             rw [Tryz.results3]
             cases h
             exact ⟨_,_,_,_,_,rfl,trivial,.inl ⟨rfl,.inl rfl⟩,rfl,rfl⟩
            ·have h:=zV hb352 h
             refine dg (i6 r303.1) rfl rfl (by kernel_rfl) (zH ?_)
             have hl353:LdOk [] (zJ r303.2.1) [] 64 true (zJ r303.2.1):=(.nil rfl rfl rfl)
             refine gq (zJ r303.2.1) rfl (zM (i:=⟨.arr 64 5,64,64,(zJ (yH 64 (0:Int)))⟩) rfl rfl rfl hl353) hl353.c (dn (zH ?_))
             have hl354:LdOk [] (zA r303.2.2) [] 128 true (zA r303.2.2):=(.nil rfl rfl rfl)
             refine gq (zA r303.2.2) rfl (zM (i:=⟨.struct [(0,25),(64,25)],128,128,xA⟩) rfl rfl rfl hl354) hl354.c (dn (zH ?_))
             obtain ⟨r355,hr356,h⟩:=bind_some h
             refine wQ rfl (args:=[(i6 r303.1),(zJ r303.2.1),(zA r303.2.2)]) (u:=[]) (r:=(.bool r355)) rfl rfl (zf7 r303.1 r303.2.1 r303.2.2 r355 hr356) rfl (dn (dg (i6 r303.1) rfl rfl (by kernel_rfl) (zH ?_)))
             have hl357:LdOk [] (zJ r303.2.1) [] 64 true (zJ r303.2.1):=(.nil rfl rfl rfl)
             refine gq (zJ r303.2.1) rfl (zM (i:=⟨.arr 64 5,64,64,(zJ (yH 64 (0:Int)))⟩) rfl rfl rfl hl357) hl357.c (dn (zH ?_))
             have hl358:LdOk [] (zA r303.2.2) [] 128 true (zA r303.2.2):=(.nil rfl rfl rfl)
             refine gq (zA r303.2.2) rfl (zM (i:=⟨.struct [(0,25),(64,25)],128,128,xA⟩) rfl rfl rfl hl358) hl358.c (dn (zH ?_))
             obtain ⟨r359,hr360,h⟩:=bind_some h
             refine wQ rfl (args:=[(i6 r303.1),(zJ r303.2.1),(zA r303.2.2)]) (u:=[]) (r:=(.bool r359)) rfl rfl (zqj r303.1 r303.2.1 r303.2.2 r359 hr360) rfl (dn (dg (.bool (r355 == r359)) rfl rfl (by kernel_rfl) (dj (.bool (r355 == r359)) rfl (dj (.bool (r355 == r359)) rfl ?_))))
             cases hb361:(r355 == r359)
             ·have h:=zW hb361 h
              refine dk rfl (by kernel_rfl) (dk rfl (by kernel_rfl) (dk rfl (by kernel_rfl) (dk rfl (by kernel_rfl) (dk rfl (by kernel_rfl) (dk rfl (by kernel_rfl) (dk rfl (by kernel_rfl) (dj (.bool false) rfl (dj (.bool false) rfl (xE ?_)))))))))
              refine wC rfl (zU ?_)
              refine ⟨.inr rfl,?_⟩
              rw [Tryz.results3]
              cases h
              exact ⟨_,_,_,_,_,rfl,trivial,.inl ⟨rfl,.inl rfl⟩,rfl,rfl⟩
             ·have h:=zV hb361 h
              refine dg (i6 r307.1) rfl rfl (by kernel_rfl) (zH ?_)
              have hl362:LdOk [] (zJ r307.2) [] 64 true (zJ r307.2):=(.nil rfl rfl rfl)
              refine gq (zJ r307.2) rfl (zM (i:=⟨.arr 64 5,64,64,(zJ (yH 64 (0:Int)))⟩) rfl rfl rfl hl362) hl362.c (dn (zH ?_))
              obtain ⟨r363,hr364,h⟩:=bind_some h
              refine wQ rfl (args:=[(i6 r307.1),(zJ r307.2)]) (u:=[]) (r:=(.bool r363)) rfl rfl (za2 r307.1 r307.2 r363 hr364) rfl (dn (dg (i6 r307.1) rfl rfl (by kernel_rfl) (zH ?_)))
              have hl365:LdOk [] (zJ r307.2) [] 64 true (zJ r307.2):=(.nil rfl rfl rfl)
              refine gq (zJ r307.2) rfl (zM (i:=⟨.arr 64 5,64,64,(zJ (yH 64 (0:Int)))⟩) rfl rfl rfl hl365) hl365.c (dn (zH ?_))
              obtain ⟨r366,hr367,h⟩:=bind_some h
              refine wQ rfl (args:=[(i6 r307.1),(zJ r307.2)]) (u:=[]) (r:=(.bool r366)) rfl rfl (zij r307.1 r307.2 r366 hr367) rfl (dn (dg (.bool (r363 == r366)) rfl rfl (by kernel_rfl) (dj (.bool (r363 == r366)) rfl (dj (.bool (r363 == r366)) rfl (xE (wC rfl (zU ?_)))))))
              refine ⟨.inr rfl,?_⟩
              rw [Tryz.results3]
              cases h
              exact ⟨_,_,_,_,_,rfl,trivial,.inl ⟨rfl,.inl rfl⟩,rfl,rfl⟩
    ·have h:=hy140
     refine sr (vr (i6 r12.2) (vr (.bool (r12.2 == 0)) (nk ⟨[(0,xJ a0),(3,i6 r4.1),(4,ow 4),(5,ow 5),(6,ow 6),(7,ow 7),(97,.bool (r12.2 == 0))],[(4,bk (zJ r4.2.1)),(5,bk (zA r4.2.2.1)),(6,bk (zA r4.2.2.2)),(7,bk (zA r12.1))]⟩ ?_)))
     cases hb142:(r12.2 == 0)
     ·have h:=zW hb142 h
      refine zP rfl (yG ?_)
      exact jl () h
     ·have h:=zV hb142 h
      refine zO rfl (sr (vr (i6 r4.1) (vl (zJ r4.2.1) rfl rfl rfl rfl rfl rfl (vl (zA r4.2.2.2) rfl rfl rfl rfl rfl rfl (vl (zA r4.2.2.1) rfl rfl rfl rfl rfl rfl ?_)))))
      obtain ⟨r146,hr147,h⟩:=bind_some h
      refine ca (kQ r4.1 r4.2.1 r4.2.2.2 r4.2.2.1 r146 hr147) (vr (.tuple [(zA r146.1),(i6 r146.2)]) (vb (zA r146.1) rfl rfl (vb (i6 r146.2) rfl rfl (vo 2100 xA rfl rfl (vs (zA r146.1) rfl rfl (fun _=>rfl) rfl rfl rfl rfl rfl rfl (vr (i6 r146.2) (nk ⟨[(0,xJ a0),(3,i6 r4.1),(4,ow 4),(5,ow 5),(6,ow 6),(7,ow 7),(11,ow 11),(12,i6 r146.2)],[(4,bk (zJ r4.2.1)),(5,bk (zA r4.2.2.1)),(6,bk (zA r4.2.2.2)),(7,bk (zA r12.1)),(11,bk (zA r146.1))]⟩ (sr (vr (i6 r4.1) ?_)))))))))
      refine vl (zJ r4.2.1) rfl rfl rfl rfl rfl rfl (vl (zA r12.1) rfl rfl rfl rfl rfl rfl (vl (zA r4.2.2.1) rfl rfl rfl rfl rfl rfl ?_))
      obtain ⟨r152,hr153,h⟩:=bind_some h
      refine ca (kQ r4.1 r4.2.1 r12.1 r4.2.2.1 r152 hr153) (vr (.tuple [(zA r152.1),(i6 r152.2)]) (vb (zA r152.1) rfl rfl (vb (i6 r152.2) rfl rfl (vo 2300 xA rfl rfl (vs (zA r152.1) rfl rfl (fun _=>rfl) rfl rfl rfl rfl rfl rfl (vr (i6 r152.2) (nk ⟨[(0,xJ a0),(3,i6 r4.1),(4,ow 4),(5,ow 5),(6,ow 6),(7,ow 7),(11,ow 11),(12,i6 r146.2),(13,ow 13),(14,i6 r152.2)],[(4,bk (zJ r4.2.1)),(5,bk (zA r4.2.2.1)),(6,bk (zA r4.2.2.2)),(7,bk (zA r12.1)),(11,bk (zA r146.1)),(13,bk (zA r152.1))]⟩ (sr (vr (i6 r4.1) ?_)))))))))
      refine vl (zJ r4.2.1) rfl rfl rfl rfl rfl rfl (vl (zA r4.2.2.2) rfl rfl rfl rfl rfl rfl (vl (zA r4.2.2.1) rfl rfl rfl rfl rfl rfl ?_))
      obtain ⟨r158,hr159,h⟩:=bind_some h
      refine ca (kQ r4.1 r4.2.1 r4.2.2.2 r4.2.2.1 r158 hr159) (vr (.tuple [(zA r158.1),(i6 r158.2)]) (vb (zA r158.1) rfl rfl (vb (i6 r158.2) rfl rfl (vo 2500 xA rfl rfl (vs (zA r158.1) rfl rfl (fun _=>rfl) rfl rfl rfl rfl rfl rfl (vr (i6 r158.2) (nk ⟨[(0,xJ a0),(3,i6 r4.1),(4,ow 4),(5,ow 5),(7,ow 7),(11,ow 11),(12,i6 r146.2),(13,ow 13),(14,i6 r152.2),(15,ow 15),(16,i6 r158.2)],[(4,bk (zJ r4.2.1)),(5,bk (zA r4.2.2.1)),(7,bk (zA r12.1)),(11,bk (zA r146.1)),(13,bk (zA r152.1)),(15,bk (zA r158.1))]⟩ (sr (vr (i6 r4.1) ?_)))))))))
      refine vl (zJ r4.2.1) rfl rfl rfl rfl rfl rfl (vl (zA r4.2.2.1) rfl rfl rfl rfl rfl rfl (vl (zA r158.1) rfl rfl rfl rfl rfl rfl ?_))
      obtain ⟨r164,hr165,h⟩:=bind_some h
      refine ca (kQ r4.1 r4.2.1 r4.2.2.1 r158.1 r164 hr165) (vr (.tuple [(zA r164.1),(i6 r164.2)]) (vb (zA r164.1) rfl rfl (vb (i6 r164.2) rfl rfl (vo 2700 xA rfl rfl (vs (zA r164.1) rfl rfl (fun _=>rfl) rfl rfl rfl rfl rfl rfl (vr (i6 r164.2) (nk ⟨[(0,xJ a0),(3,i6 r4.1),(4,ow 4),(5,ow 5),(7,ow 7),(11,ow 11),(12,i6 r146.2),(13,ow 13),(14,i6 r152.2),(16,i6 r158.2),(17,ow 17),(18,i6 r164.2)],[(4,bk (zJ r4.2.1)),(5,bk (zA r4.2.2.1)),(7,bk (zA r12.1)),(11,bk (zA r146.1)),(13,bk (zA r152.1)),(17,bk (zA r164.1))]⟩ (sr (vr (i6 r4.1) ?_)))))))))
      refine vl (zJ r4.2.1) rfl rfl rfl rfl rfl rfl (vl (zA r4.2.2.1) rfl rfl rfl rfl rfl rfl ?_)
      obtain ⟨r169,hr170,h⟩:=bind_some h
      refine ca (zfq r4.1 r4.2.1 r4.2.2.1 r169 hr170) (vr (.tuple [(zA r169.1),(i6 r169.2)]) (vb (zA r169.1) rfl rfl (vb (i6 r169.2) rfl rfl (vo 2900 xA rfl rfl (vs (zA r169.1) rfl rfl (fun _=>rfl) rfl rfl rfl rfl rfl rfl (vr (i6 r169.2) (nk ⟨[(0,xJ a0),(3,i6 r4.1),(4,ow 4),(5,ow 5),(7,ow 7),(11,ow 11),(12,i6 r146.2),(13,ow 13),(14,i6 r152.2),(16,i6 r158.2),(17,ow 17),(18,i6 r164.2),(19,ow 19),(20,i6 r169.2)],[(4,bk (zJ r4.2.1)),(5,bk (zA r4.2.2.1)),(7,bk (zA r12.1)),(11,bk (zA r146.1)),(13,bk (zA r152.1)),(17,bk (zA r164.1)),(19,bk (zA r169.1))]⟩ (sr (vr (i6 r4.1) ?_)))))))))
      refine vl (zJ r4.2.1) rfl rfl rfl rfl rfl rfl (vl (zA r4.2.2.1) rfl rfl rfl rfl rfl rfl (vl (zA r169.1) rfl rfl rfl rfl rfl rfl ?_))
      obtain ⟨r175,hr176,h⟩:=bind_some h
      refine ca (kQ r4.1 r4.2.1 r4.2.2.1 r169.1 r175 hr176) (vr (.tuple [(zA r175.1),(i6 r175.2)]) (vb (zA r175.1) rfl rfl (vb (i6 r175.2) rfl rfl (vo 3100 xA rfl rfl (vs (zA r175.1) rfl rfl (fun _=>rfl) rfl rfl rfl rfl rfl rfl (vr (i6 r175.2) (nk ⟨[(0,xJ a0),(3,i6 r4.1),(4,ow 4),(5,ow 5),(7,ow 7),(11,ow 11),(12,i6 r146.2),(13,ow 13),(14,i6 r152.2),(16,i6 r158.2),(17,ow 17),(18,i6 r164.2),(20,i6 r169.2),(21,ow 21),(22,i6 r175.2)],[(4,bk (zJ r4.2.1)),(5,bk (zA r4.2.2.1)),(7,bk (zA r12.1)),(11,bk (zA r146.1)),(13,bk (zA r152.1)),(17,bk (zA r164.1)),(21,bk (zA r175.1))]⟩ (sr (vr (i6 r4.1) ?_)))))))))
      refine vl (zJ r4.2.1) rfl rfl rfl rfl rfl rfl (vl (zA r4.2.2.1) rfl rfl rfl rfl rfl rfl ?_)
      obtain ⟨r180,hr181,h⟩:=bind_some h
      refine ca (zfm r4.1 r4.2.1 r4.2.2.1 r180 hr181) (vr (.tuple [(i6 r180.1),(i6 r180.2)]) (vb (i6 r180.1) rfl rfl (vb (i6 r180.2) rfl rfl (vr (i6 r180.1) (vr (i6 r180.2) (nk ⟨[(0,xJ a0),(3,i6 r4.1),(4,ow 4),(5,ow 5),(7,ow 7),(11,ow 11),(12,i6 r146.2),(13,ow 13),(14,i6 r152.2),(16,i6 r158.2),(17,ow 17),(18,i6 r164.2),(20,i6 r169.2),(21,ow 21),(22,i6 r175.2),(23,i6 r180.1),(24,i6 r180.2)],[(4,bk (zJ r4.2.1)),(5,bk (zA r4.2.2.1)),(7,bk (zA r12.1)),(11,bk (zA r146.1)),(13,bk (zA r152.1)),(17,bk (zA r164.1)),(21,bk (zA r175.1))]⟩ (sr (vr (i6 r4.1) (vl (zJ r4.2.1) rfl rfl rfl rfl rfl rfl ?_)))))))))
      obtain ⟨r183,hr184,h⟩:=bind_some h
      refine ca (zk6 r4.1 r4.2.1 r183 hr184) (vr (.tuple [(i6 r183.1),(i6 r183.2)]) (vb (i6 r183.1) rfl rfl (vb (i6 r183.2) rfl rfl (vr (i6 r183.1) (vr (i6 r183.2) (nk ⟨[(0,xJ a0),(3,i6 r4.1),(4,ow 4),(5,ow 5),(7,ow 7),(11,ow 11),(12,i6 r146.2),(13,ow 13),(14,i6 r152.2),(16,i6 r158.2),(17,ow 17),(18,i6 r164.2),(20,i6 r169.2),(21,ow 21),(22,i6 r175.2),(23,i6 r180.1),(24,i6 r180.2),(25,i6 r183.1),(26,i6 r183.2)],[(4,bk (zJ r4.2.1)),(5,bk (zA r4.2.2.1)),(7,bk (zA r12.1)),(11,bk (zA r146.1)),(13,bk (zA r152.1)),(17,bk (zA r164.1)),(21,bk (zA r175.1))]⟩ (sr (vr (i6 r4.1) (vl (zJ r4.2.1) rfl rfl rfl rfl rfl rfl ?_)))))))))
      refine vl (zA r4.2.2.1) rfl rfl rfl rfl rfl rfl (vr (i6 r180.1) ?_)
      obtain ⟨r187,hr188,h⟩:=bind_some h
      refine ca (zfo r4.1 r4.2.1 r4.2.2.1 r180.1 r187 hr188) (vr (.tuple [(zA r187.1),(i6 r187.2)]) (vb (zA r187.1) rfl rfl (vb (i6 r187.2) rfl rfl (vo 3700 xA rfl rfl (vs (zA r187.1) rfl rfl (fun _=>rfl) rfl rfl rfl rfl rfl rfl (vr (i6 r187.2) (nk ⟨[(0,xJ a0),(3,i6 r4.1),(4,ow 4),(7,ow 7),(11,ow 11),(12,i6 r146.2),(13,ow 13),(14,i6 r152.2),(16,i6 r158.2),(17,ow 17),(18,i6 r164.2),(20,i6 r169.2),(21,ow 21),(22,i6 r175.2),(23,i6 r180.1),(24,i6 r180.2),(25,i6 r183.1),(26,i6 r183.2),(27,ow 27),(28,i6 r187.2)],[(4,bk (zJ r4.2.1)),(7,bk (zA r12.1)),(11,bk (zA r146.1)),(13,bk (zA r152.1)),(17,bk (zA r164.1)),(21,bk (zA r175.1)),(27,bk (zA r187.1))]⟩ ?_)))))))
      obtain ⟨y218,hy219,hk220⟩:=bind_some h
      clear h
      refine yN (emb:=fun (s:Bool)=>⟨[(0,xJ a0),(237,.bool s)],[]⟩) (kG:=fun s=>s=y218) ?_ ?_
      ·rintro x217 rfl
       have h:=hk220
       refine ns ⟨[(0,xJ a0),(237,.bool x217)],[]⟩ ?_
       cases hb248:x217
       ·have h:=zW hb248 h
        refine zP rfl (yG ?_)
        exact jl () h
       ·have h:=zV hb248 h
        refine zO rfl (sr (vr (.bool false) (nx _ rfl (zU (xV ?_)))))
        cases h
        have h:=hk141
        refine ⟨.inr rfl,?_⟩
        rw [Tryz.results3]
        cases h
        exact ⟨_,_,_,_,_,rfl,trivial,.inl ⟨rfl,.inl rfl⟩,rfl,rfl⟩
      ·have h:=hy219
       refine zR (vr (i6 r146.2) (vr (.bool (r146.2 != 0)) (vr (.bool (r146.2 != 0)) ?_)))
       cases hb221:(r146.2 != 0)
       ·have h:=zW hb221 h
        refine gp (i6 r152.2) rfl rfl (gp (.bool (r152.2 != 0)) rfl rfl (vr (.bool (r152.2 != 0)) (vr (.bool (r152.2 != 0)) ?_)))
        cases hb222:(r152.2 != 0)
        ·have h:=zW hb222 h
         refine gp (i6 r158.2) rfl rfl (gp (.bool (r158.2 != 0)) rfl rfl (vr (.bool (r158.2 != 0)) (vr (.bool (r158.2 != 0)) ?_)))
         cases hb223:(r158.2 != 0)
         ·have h:=zW hb223 h
          refine gp (i6 r164.2) rfl rfl (gp (.bool (r164.2 != 0)) rfl rfl (vr (.bool (r164.2 != 0)) (vr (.bool (r164.2 != 0)) ?_)))
          cases hb224:(r164.2 != 0)
          ·have h:=zW hb224 h
           refine gp (i6 r169.2) rfl rfl (gp (.bool (r169.2 != 0)) rfl rfl (vr (.bool (r169.2 != 0)) (vr (.bool (r169.2 != 0)) ?_)))
           cases hb225:(r169.2 != 0)
           ·have h:=zW hb225 h
            refine gp (i6 r175.2) rfl rfl (gp (.bool (r175.2 != 0)) rfl rfl (vr (.bool (r175.2 != 0)) (vr (.bool (r175.2 != 0)) ?_)))
            cases hb226:(r175.2 != 0)
            ·have h:=zW hb226 h
             refine gp (i6 r180.2) rfl rfl (gp (.bool (r180.2 != 0)) rfl rfl (vr (.bool (r180.2 != 0)) (vr (.bool (r180.2 != 0)) ?_)))
             cases hb227:(r180.2 != 0)
             ·have h:=zW hb227 h
              refine gp (i6 r183.2) rfl rfl (gp (.bool (r183.2 != 0)) rfl rfl (vr (.bool (r183.2 != 0)) (vr (.bool (r183.2 != 0)) ?_)))
              cases hb228:(r183.2 != 0)
              ·have h:=zW hb228 h
               refine gp (i6 r187.2) rfl rfl (gp (.bool (r187.2 != 0)) rfl rfl (vr (.bool (r187.2 != 0)) (vr (.bool (r187.2 != 0)) ?_)))
               cases hb229:(r187.2 != 0)
               ·have h:=zW hb229 h
                have hl230:LdOk [] (zA r146.1) [] 128 true (zA r146.1):=(.nil rfl rfl rfl)
                refine gq (zA r146.1) rfl (zM (i:=⟨.struct [(0,25),(64,25)],128,128,xA⟩) rfl rfl rfl hl230) hl230.c ?_
                have hl231:LdOk [] (zA r12.1) [] 128 true (zA r12.1):=(.nil rfl rfl rfl)
                refine gq (zA r12.1) rfl (zM (i:=⟨.struct [(0,25),(64,25)],128,128,xA⟩) rfl rfl rfl hl231) hl231.c (gq (.bool ((!decide (r146.1=r12.1)))) rfl (zkn rfl rfl (zct (f:=zJ) (a:=r146.1) (b:=r12.1) (fun a b=>mD (f:=(AV.int .u8)) (fun _ _=>mA _ _) a b) (zd5 (f:=zJ) (fun a b=>mD (f:=(AV.int .u8)) (fun _ _=>mA _ _) a b) r146.1.2 r12.1.2))) (za4 (g:=8) rfl rfl rfl rfl (by kernel_rfl) ⟨(mB (g:=7) (f:=(AV.int .u8)) (x:=r146.1.1) (y:=r12.1.1) rfl rfl rfl (fun _ _=>rfl) (fun _ _=>(mE rfl))),⟨(mB (g:=7) (f:=(AV.int .u8)) (x:=r146.1.2) (y:=r12.1.2) rfl rfl rfl (fun _ _=>rfl) (fun _ _=>(mE rfl))),trivial⟩⟩) (vr (.bool ((!decide (r146.1=r12.1)))) (vr (.bool ((!decide (r146.1=r12.1)))) ?_)))
                cases hb232:(!decide (r146.1=r12.1))
                ·have h:=zW hb232 h
                 have hl233:LdOk [] (zA r152.1) [] 128 true (zA r152.1):=(.nil rfl rfl rfl)
                 refine gq (zA r152.1) rfl (zM (i:=⟨.struct [(0,25),(64,25)],128,128,xA⟩) rfl rfl rfl hl233) hl233.c ?_
                 have hl234:LdOk [] (zA r164.1) [] 128 true (zA r164.1):=(.nil rfl rfl rfl)
                 refine gq (zA r164.1) rfl (zM (i:=⟨.struct [(0,25),(64,25)],128,128,xA⟩) rfl rfl rfl hl234) hl234.c (gq (.bool ((!decide (r152.1=r164.1)))) rfl (zkn rfl rfl (zct (f:=zJ) (a:=r152.1) (b:=r164.1) (fun a b=>mD (f:=(AV.int .u8)) (fun _ _=>mA _ _) a b) (zd5 (f:=zJ) (fun a b=>mD (f:=(AV.int .u8)) (fun _ _=>mA _ _) a b) r152.1.2 r164.1.2))) (za4 (g:=8) rfl rfl rfl rfl (by kernel_rfl) ⟨(mB (g:=7) (f:=(AV.int .u8)) (x:=r152.1.1) (y:=r164.1.1) rfl rfl rfl (fun _ _=>rfl) (fun _ _=>(mE rfl))),⟨(mB (g:=7) (f:=(AV.int .u8)) (x:=r152.1.2) (y:=r164.1.2) rfl rfl rfl (fun _ _=>rfl) (fun _ _=>(mE rfl))),trivial⟩⟩) (vr (.bool ((!decide (r152.1=r164.1)))) (vr (.bool ((!decide (r152.1=r164.1)))) ?_)))
                 cases hb235:(!decide (r152.1=r164.1))
                 ·have h:=zW hb235 h
                  have hl236:LdOk [] (zA r175.1) [] 128 true (zA r175.1):=(.nil rfl rfl rfl)
                  refine gq (zA r175.1) rfl (zM (i:=⟨.struct [(0,25),(64,25)],128,128,xA⟩) rfl rfl rfl hl236) hl236.c (gq (zJ ((yO (yH 64 (0:Int)) 0 1))) rfl rfl ⟨⟨_,rfl,rfl⟩,(all_cons ⟨(yS rfl),rfl⟩ all_nil)⟩ (gq (zA (((yO (yH 64 (0:Int)) 0 1),(yH 64 (0:Int))))) rfl rfl ⟨rfl,(all_cons ⟨(yS rfl),rfl⟩ all_nil)⟩ (gq (.bool ((!decide (r175.1=(((yO (yH 64 (0:Int)) 0 1),(yH 64 (0:Int)))))))) rfl (zkn rfl rfl (zct (f:=zJ) (a:=r175.1) (b:=(((yO (yH 64 (0:Int)) 0 1),(yH 64 (0:Int))))) (fun a b=>mD (f:=(AV.int .u8)) (fun _ _=>mA _ _) a b) (zd5 (f:=zJ) (fun a b=>mD (f:=(AV.int .u8)) (fun _ _=>mA _ _) a b) r175.1.2 (((yO (yH 64 (0:Int)) 0 1),(yH 64 (0:Int)))).2))) (za4 (g:=8) rfl rfl rfl rfl (by kernel_rfl) ⟨(mB (g:=7) (f:=(AV.int .u8)) (x:=r175.1.1) (y:=(yO (yH 64 (0:Int)) 0 1)) rfl rfl rfl (fun _ _=>rfl) (fun _ _=>(mE rfl))),⟨(mB (g:=7) (f:=(AV.int .u8)) (x:=r175.1.2) (y:=(yH 64 (0:Int))) rfl rfl rfl (fun _ _=>rfl) (fun _ _=>(mE rfl))),trivial⟩⟩) (vr (.bool ((!decide (r175.1=(((yO (yH 64 (0:Int)) 0 1),(yH 64 (0:Int)))))))) (vr (.bool ((!decide (r175.1=(((yO (yH 64 (0:Int)) 0 1),(yH 64 (0:Int)))))))) ?_)))))
                  cases hb237:(!decide (r175.1=(((yO (yH 64 (0:Int)) 0 1),(yH 64 (0:Int))))))
                  ·have h:=zW hb237 h
                   refine gp (i6 r180.1) rfl rfl (gp (.bool ((decide (r180.1 < 1)))) rfl rfl (vr (.bool ((decide (r180.1 < 1)))) (vr (.bool ((decide (r180.1 < 1)))) ?_)))
                   cases hb238:(decide (r180.1 < 1))
                   ·have h:=zW hb238 h
                    refine gp (i6 r183.1) rfl rfl (gp (i6 r180.1) rfl rfl ?_)
                    obtain ⟨hc239,h⟩:=zT h
                    refine gq (i6 (Int.tmod r183.1 r180.1)) rfl rfl hc239 (gp (.bool (((Int.tmod r183.1 r180.1) != 0))) rfl rfl (vr (.bool (((Int.tmod r183.1 r180.1) != 0))) (vr (.bool (((Int.tmod r183.1 r180.1) != 0))) ?_)))
                    cases hb240:((Int.tmod r183.1 r180.1) != 0)
                    ·have h:=zW hb240 h
                     have hl241:LdOk [] (zA r187.1) [] 128 true (zA r187.1):=(.nil rfl rfl rfl)
                     refine gq (zA r187.1) rfl (zM (i:=⟨.struct [(0,25),(64,25)],128,128,xA⟩) rfl rfl rfl hl241) hl241.c ?_
                     have hl242:LdOk [] (zA r175.1) [] 128 true (zA r175.1):=(.nil rfl rfl rfl)
                     refine gq (zA r175.1) rfl (zM (i:=⟨.struct [(0,25),(64,25)],128,128,xA⟩) rfl rfl rfl hl242) hl242.c (gq (.bool ((!decide (r187.1=r175.1)))) rfl (zkn rfl rfl (zct (f:=zJ) (a:=r187.1) (b:=r175.1) (fun a b=>mD (f:=(AV.int .u8)) (fun _ _=>mA _ _) a b) (zd5 (f:=zJ) (fun a b=>mD (f:=(AV.int .u8)) (fun _ _=>mA _ _) a b) r187.1.2 r175.1.2))) (za4 (g:=8) rfl rfl rfl rfl (by kernel_rfl) ⟨(mB (g:=7) (f:=(AV.int .u8)) (x:=r187.1.1) (y:=r175.1.1) rfl rfl rfl (fun _ _=>rfl) (fun _ _=>(mE rfl))),⟨(mB (g:=7) (f:=(AV.int .u8)) (x:=r187.1.2) (y:=r175.1.2) rfl rfl rfl (fun _ _=>rfl) (fun _ _=>(mE rfl))),trivial⟩⟩) (vr (.bool ((!decide (r187.1=r175.1)))) (vr (.bool ((!decide (r187.1=r175.1)))) ?_)))
                     cases hb243:(!decide (r187.1=r175.1))
                     ·have h:=zW hb243 h
                      refine gp (i6 r4.1) rfl rfl ?_
                      have hl244:LdOk [] (zJ r4.2.1) [] 64 true (zJ r4.2.1):=(.nil rfl rfl rfl)
                      refine gq (zJ r4.2.1) rfl (zM (i:=⟨.arr 64 5,64,64,(zJ (yH 64 (0:Int)))⟩) rfl rfl rfl hl244) hl244.c ?_
                      have hl245:LdOk [] (zA r12.1) [] 128 true (zA r12.1):=(.nil rfl rfl rfl)
                      refine gq (zA r12.1) rfl (zM (i:=⟨.struct [(0,25),(64,25)],128,128,xA⟩) rfl rfl rfl hl245) hl245.c ?_
                      obtain ⟨r246,hr247,h⟩:=bind_some h
                      refine wQ rfl (args:=[(i6 r4.1),(zJ r4.2.1),(zA r12.1)]) (u:=[]) (r:=(.bool r246)) rfl rfl (zf7 r4.1 r4.2.1 r12.1 r246 hr247) rfl (gp (.bool (!r246)) rfl rfl (vr (.bool (!r246)) (yJ ?_)))
                      exact jl (!r246) h
                     ·have h:=zV hb243 h
                      refine zD rfl (zD rfl (zD rfl (zD rfl (zD rfl (vr (.bool true) (yJ ?_))))))
                      exact jl true h
                    ·have h:=zV hb240 h
                     refine zD rfl (zD rfl (zD rfl (vr (.bool true) (vr (.bool true) (zD rfl (zD rfl (zD rfl (zD rfl (zD rfl ?_)))))))))
                     refine vr (.bool true) (yJ ?_)
                     exact jl true h
                   ·have h:=zV hb238 h
                    refine zD rfl (zD rfl (zD rfl (zD rfl (vr (.bool true) (vr (.bool true) (zD rfl (zD rfl (zD rfl (vr (.bool true) ?_)))))))))
                    refine vr (.bool true) (zD rfl (zD rfl (zD rfl (zD rfl (zD rfl (vr (.bool true) (yJ ?_)))))))
                    exact jl true h
                  ·have h:=zV hb237 h
                   refine zD rfl (zD rfl (vr (.bool true) (vr (.bool true) (zD rfl (zD rfl (zD rfl (zD rfl (vr (.bool true) (vr (.bool true) ?_)))))))))
                   refine zD rfl (zD rfl (zD rfl (vr (.bool true) (vr (.bool true) (zD rfl (zD rfl (zD rfl (zD rfl (zD rfl ?_)))))))))
                   refine vr (.bool true) (yJ ?_)
                   exact jl true h
                 ·have h:=zV hb235 h
                  refine zD rfl (zD rfl (zD rfl (zD rfl (vr (.bool true) (vr (.bool true) (zD rfl (zD rfl (vr (.bool true) (vr (.bool true) ?_)))))))))
                  refine zD rfl (zD rfl (zD rfl (zD rfl (vr (.bool true) (vr (.bool true) (zD rfl (zD rfl (zD rfl (vr (.bool true) ?_)))))))))
                  refine vr (.bool true) (zD rfl (zD rfl (zD rfl (zD rfl (zD rfl (vr (.bool true) (yJ ?_)))))))
                  exact jl true h
                ·have h:=zV hb232 h
                 refine zD rfl (zD rfl (zD rfl (vr (.bool true) (vr (.bool true) (zD rfl (zD rfl (zD rfl (zD rfl (vr (.bool true) ?_)))))))))
                 refine vr (.bool true) (zD rfl (zD rfl (vr (.bool true) (vr (.bool true) (zD rfl (zD rfl (zD rfl (zD rfl (vr (.bool true) ?_)))))))))
                 refine vr (.bool true) (zD rfl (zD rfl (zD rfl (vr (.bool true) (vr (.bool true) (zD rfl (zD rfl (zD rfl (zD rfl ?_)))))))))
                 refine zD rfl (vr (.bool true) (yJ ?_))
                 exact jl true h
               ·have h:=zV hb229 h
                refine zD rfl (zD rfl (zD rfl (vr (.bool true) (vr (.bool true) (zD rfl (zD rfl (zD rfl (vr (.bool true) (vr (.bool true) ?_)))))))))
                refine zD rfl (zD rfl (zD rfl (zD rfl (vr (.bool true) (vr (.bool true) (zD rfl (zD rfl (vr (.bool true) (vr (.bool true) ?_)))))))))
                refine zD rfl (zD rfl (zD rfl (zD rfl (vr (.bool true) (vr (.bool true) (zD rfl (zD rfl (zD rfl (vr (.bool true) ?_)))))))))
                refine vr (.bool true) (zD rfl (zD rfl (zD rfl (zD rfl (zD rfl (vr (.bool true) (yJ ?_)))))))
                exact jl true h
              ·have h:=zV hb228 h
               refine zD rfl (zD rfl (vr (.bool true) (vr (.bool true) (zD rfl (zD rfl (zD rfl (vr (.bool true) (vr (.bool true) (zD rfl ?_)))))))))
               refine zD rfl (zD rfl (vr (.bool true) (vr (.bool true) (zD rfl (zD rfl (zD rfl (zD rfl (vr (.bool true) (vr (.bool true) ?_)))))))))
               refine zD rfl (zD rfl (vr (.bool true) (vr (.bool true) (zD rfl (zD rfl (zD rfl (zD rfl (vr (.bool true) (vr (.bool true) ?_)))))))))
               refine zD rfl (zD rfl (zD rfl (vr (.bool true) (vr (.bool true) (zD rfl (zD rfl (zD rfl (zD rfl (zD rfl ?_)))))))))
               refine vr (.bool true) (yJ ?_)
               exact jl true h
             ·have h:=zV hb227 h
              refine zD rfl (zD rfl (vr (.bool true) (vr (.bool true) (zD rfl (zD rfl (vr (.bool true) (vr (.bool true) (zD rfl (zD rfl ?_)))))))))
              refine zD rfl (vr (.bool true) (vr (.bool true) (zD rfl (zD rfl (zD rfl (vr (.bool true) (vr (.bool true) (zD rfl (zD rfl ?_)))))))))
              refine zD rfl (zD rfl (vr (.bool true) (vr (.bool true) (zD rfl (zD rfl (vr (.bool true) (vr (.bool true) (zD rfl (zD rfl ?_)))))))))
              refine zD rfl (zD rfl (vr (.bool true) (vr (.bool true) (zD rfl (zD rfl (zD rfl (vr (.bool true) (vr (.bool true) (zD rfl ?_)))))))))
              refine zD rfl (zD rfl (zD rfl (zD rfl (vr (.bool true) (yJ ?_)))))
              exact jl true h
            ·have h:=zV hb226 h
             refine zD rfl (zD rfl (vr (.bool true) (vr (.bool true) (zD rfl (zD rfl (vr (.bool true) (vr (.bool true) (zD rfl (zD rfl ?_)))))))))
             refine vr (.bool true) (vr (.bool true) (zD rfl (zD rfl (zD rfl (vr (.bool true) (vr (.bool true) (zD rfl (zD rfl (zD rfl ?_)))))))))
             refine vr (.bool true) (vr (.bool true) (zD rfl (zD rfl (zD rfl (zD rfl (vr (.bool true) (vr (.bool true) (zD rfl (zD rfl ?_)))))))))
             refine vr (.bool true) (vr (.bool true) (zD rfl (zD rfl (zD rfl (zD rfl (vr (.bool true) (vr (.bool true) (zD rfl (zD rfl ?_)))))))))
             refine zD rfl (vr (.bool true) (vr (.bool true) (zD rfl (zD rfl (zD rfl (zD rfl (zD rfl (vr (.bool true) (yJ ?_)))))))))
             exact jl true h
           ·have h:=zV hb225 h
            refine zD rfl (zD rfl (vr (.bool true) (vr (.bool true) (zD rfl (zD rfl (vr (.bool true) (vr (.bool true) (zD rfl (zD rfl ?_)))))))))
            refine vr (.bool true) (vr (.bool true) (zD rfl (zD rfl (vr (.bool true) (vr (.bool true) (zD rfl (zD rfl (zD rfl (vr (.bool true) ?_)))))))))
            refine vr (.bool true) (zD rfl (zD rfl (zD rfl (vr (.bool true) (vr (.bool true) (zD rfl (zD rfl (zD rfl (zD rfl ?_)))))))))
            refine vr (.bool true) (vr (.bool true) (zD rfl (zD rfl (vr (.bool true) (vr (.bool true) (zD rfl (zD rfl (zD rfl (zD rfl ?_)))))))))
            refine vr (.bool true) (vr (.bool true) (zD rfl (zD rfl (zD rfl (vr (.bool true) (vr (.bool true) (zD rfl (zD rfl (zD rfl ?_)))))))))
            refine zD rfl (zD rfl (vr (.bool true) (yJ ?_)))
            exact jl true h
          ·have h:=zV hb224 h
           refine zD rfl (zD rfl (vr (.bool true) (vr (.bool true) (zD rfl (zD rfl (vr (.bool true) (vr (.bool true) (zD rfl (zD rfl ?_)))))))))
           refine vr (.bool true) (vr (.bool true) (zD rfl (zD rfl (vr (.bool true) (vr (.bool true) (zD rfl (zD rfl (vr (.bool true) (vr (.bool true) ?_)))))))))
           refine zD rfl (zD rfl (zD rfl (vr (.bool true) (vr (.bool true) (zD rfl (zD rfl (zD rfl (vr (.bool true) (vr (.bool true) ?_)))))))))
           refine zD rfl (zD rfl (zD rfl (zD rfl (vr (.bool true) (vr (.bool true) (zD rfl (zD rfl (vr (.bool true) (vr (.bool true) ?_)))))))))
           refine zD rfl (zD rfl (zD rfl (zD rfl (vr (.bool true) (vr (.bool true) (zD rfl (zD rfl (zD rfl (vr (.bool true) ?_)))))))))
           refine vr (.bool true) (zD rfl (zD rfl (zD rfl (zD rfl (zD rfl (vr (.bool true) (yJ ?_)))))))
           exact jl true h
         ·have h:=zV hb223 h
          refine zD rfl (zD rfl (vr (.bool true) (vr (.bool true) (zD rfl (zD rfl (vr (.bool true) (vr (.bool true) (zD rfl (zD rfl ?_)))))))))
          refine vr (.bool true) (vr (.bool true) (zD rfl (zD rfl (vr (.bool true) (vr (.bool true) (zD rfl (zD rfl (vr (.bool true) (vr (.bool true) ?_)))))))))
          refine zD rfl (zD rfl (vr (.bool true) (vr (.bool true) (zD rfl (zD rfl (zD rfl (vr (.bool true) (vr (.bool true) (zD rfl ?_)))))))))
          refine zD rfl (zD rfl (vr (.bool true) (vr (.bool true) (zD rfl (zD rfl (zD rfl (zD rfl (vr (.bool true) (vr (.bool true) ?_)))))))))
          refine zD rfl (zD rfl (vr (.bool true) (vr (.bool true) (zD rfl (zD rfl (zD rfl (zD rfl (vr (.bool true) (vr (.bool true) ?_)))))))))
          refine zD rfl (zD rfl (zD rfl (vr (.bool true) (vr (.bool true) (zD rfl (zD rfl (zD rfl (zD rfl (zD rfl ?_)))))))))
          refine vr (.bool true) (yJ ?_)
          exact jl true h
        ·have h:=zV hb222 h
         refine zD rfl (zD rfl (vr (.bool true) (vr (.bool true) (zD rfl (zD rfl (vr (.bool true) (vr (.bool true) (zD rfl (zD rfl ?_)))))))))
         refine vr (.bool true) (vr (.bool true) (zD rfl (zD rfl (vr (.bool true) (vr (.bool true) (zD rfl (zD rfl (vr (.bool true) (vr (.bool true) ?_)))))))))
         refine zD rfl (zD rfl (vr (.bool true) (vr (.bool true) (zD rfl (zD rfl (vr (.bool true) (vr (.bool true) (zD rfl (zD rfl ?_)))))))))
         refine zD rfl (vr (.bool true) (vr (.bool true) (zD rfl (zD rfl (zD rfl (vr (.bool true) (vr (.bool true) (zD rfl (zD rfl ?_)))))))))
         refine zD rfl (zD rfl (vr (.bool true) (vr (.bool true) (zD rfl (zD rfl (vr (.bool true) (vr (.bool true) (zD rfl (zD rfl ?_)))))))))
         refine zD rfl (zD rfl (vr (.bool true) (vr (.bool true) (zD rfl (zD rfl (zD rfl (vr (.bool true) (vr (.bool true) (zD rfl ?_)))))))))
         refine zD rfl (zD rfl (zD rfl (zD rfl (vr (.bool true) (yJ ?_)))))
         exact jl true h
       ·have h:=zV hb221 h
        refine zD rfl (zD rfl (vr (.bool true) (vr (.bool true) (zD rfl (zD rfl (vr (.bool true) (vr (.bool true) (zD rfl (zD rfl ?_)))))))))
        refine vr (.bool true) (vr (.bool true) (zD rfl (zD rfl (vr (.bool true) (vr (.bool true) (zD rfl (zD rfl (vr (.bool true) (vr (.bool true) ?_)))))))))
        refine zD rfl (zD rfl (vr (.bool true) (vr (.bool true) (zD rfl (zD rfl (vr (.bool true) (vr (.bool true) (zD rfl (zD rfl ?_)))))))))
        refine vr (.bool true) (vr (.bool true) (zD rfl (zD rfl (zD rfl (vr (.bool true) (vr (.bool true) (zD rfl (zD rfl (zD rfl ?_)))))))))
        refine vr (.bool true) (vr (.bool true) (zD rfl (zD rfl (zD rfl (zD rfl (vr (.bool true) (vr (.bool true) (zD rfl (zD rfl ?_)))))))))
        refine vr (.bool true) (vr (.bool true) (zD rfl (zD rfl (zD rfl (zD rfl (vr (.bool true) (vr (.bool true) (zD rfl (zD rfl ?_)))))))))
        refine zD rfl (vr (.bool true) (vr (.bool true) (zD rfl (zD rfl (zD rfl (zD rfl (zD rfl (vr (.bool true) (yJ ?_)))))))))
        exact jl true h
   ·have h:=zV hb31 h
    refine zO rfl (sr (vr (.bool false) (nx _ rfl (zU (xV ?_)))))
    refine ⟨.inr rfl,?_⟩
    rw [Tryz.results3]
    cases h
    exact ⟨_,_,_,_,_,rfl,trivial,.inl ⟨rfl,.inl rfl⟩,rfl,rfl⟩
  ·have h:=hy26
   refine zR (vr (i6 r12.2) (vr (i6 r18.2) (vr (.bool (r12.2 != r18.2)) (vr (.bool (r12.2 != r18.2)) ?_))))
   cases hb28:(r12.2 != r18.2)
   ·have h:=zW hb28 h
    have hl29:LdOk [] (zA r12.1) [] 128 true (zA r12.1):=(.nil rfl rfl rfl)
    refine gq (zA r12.1) rfl (zM (i:=⟨.struct [(0,25),(64,25)],128,128,xA⟩) rfl rfl rfl hl29) hl29.c ?_
    have hl30:LdOk [] (zA r18.1) [] 128 true (zA r18.1):=(.nil rfl rfl rfl)
    refine gq (zA r18.1) rfl (zM (i:=⟨.struct [(0,25),(64,25)],128,128,xA⟩) rfl rfl rfl hl30) hl30.c (gq (.bool ((!decide (r12.1=r18.1)))) rfl (zkn rfl rfl (zct (f:=zJ) (a:=r12.1) (b:=r18.1) (fun a b=>mD (f:=(AV.int .u8)) (fun _ _=>mA _ _) a b) (zd5 (f:=zJ) (fun a b=>mD (f:=(AV.int .u8)) (fun _ _=>mA _ _) a b) r12.1.2 r18.1.2))) (za4 (g:=8) rfl rfl rfl rfl (by kernel_rfl) ⟨(mB (g:=7) (f:=(AV.int .u8)) (x:=r12.1.1) (y:=r18.1.1) rfl rfl rfl (fun _ _=>rfl) (fun _ _=>(mE rfl))),⟨(mB (g:=7) (f:=(AV.int .u8)) (x:=r12.1.2) (y:=r18.1.2) rfl rfl rfl (fun _ _=>rfl) (fun _ _=>(mE rfl))),trivial⟩⟩) (vr (.bool ((!decide (r12.1=r18.1)))) (yJ ?_)))
    exact jl ((!decide (r12.1=r18.1))) h
   ·have h:=zV hb28 h
    refine zD rfl (zD rfl (zD rfl (vr (.bool true) (yJ ?_))))
    exact jl true h
 ·have h:=zV hb3 h
  refine zO rfl (sr (vr (.bool true) (nx _ rfl (zU (xV ?_)))))
  refine ⟨.inr rfl,?_⟩
  rw [Tryz.results3]
  cases h
  exact ⟨_,_,_,_,_,rfl,trivial,.inl ⟨rfl,.inl rfl⟩,rfl,rfl⟩
end Go.Proofs.YtebfhlnfmkhmcaaGreat
