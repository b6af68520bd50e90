/- Functions of the program: plain Lean functions, and that the program computes them. Printed by gen.py. -/
import Derived.Test.YtkbnegemdlnncaaGreatFnT
import Derived.Test.YtkbnegemdlnncaaGreatFn1
import Derived.Test.YtkbnegemdlnncaaGreatFn3
import Derived.Test.YtkbnegemdlnncaaGreatFn4
import Derived.Test.YtkbnegemdlnncaaGreatFn6
import Derived.Test.YtkbnegemdlnncaaGreatFn8
import Derived.Test.YtkbnegemdlnncaaGreatFn9
namespace Go.Proofs.YtkbnegemdlnncaaGreat
open Go.Abs Go.Proofs
set_option linter.unusedSimpArgs false
set_option linter.unusedVariables false
set_option maxHeartbeats 16000000
attribute [local irreducible] Abs.acode Abs.aops Abs.aopsT Abs.thenK Abs.blockK

def laws_FnRootsAndSeries_L:Live:=[(0,[0]),(1,[0]),(2,[]),(3,[0]),(4,[0,3,4]),(5,[0,3,4,5,6]),(6,[0,3,4,5,6,7,8]),(7,[]),(8,[0,3,4,5]),(9,[0,3,4,5,9,10]),(10,[0,3,4,5,9,10,11,12]),(11,[]),(12,[0,3,4,5,9,10]),(13,[0,3,4,5,9,10,13,14,15]),(14,[0,3,4,5,9,10,13,14,15,16,17]),(15,[0,3,4,5,9,10,13,14,16,17,18,19]),(16,[]),(17,[0,3,4,5,9,10,13,14,16,17]),(18,[3,4,5,9,10,13,14,16,17,20,21,22,23]),(19,[3,4,5,9,10,13,14,16,17,20,21,22,23,24,25,26]),(20,[3,4,5,9,10,13,14,16,17,20,21,22,23,24,25,26,27,28,29]),(21,[]),(22,[3,4,5,9,10,13,14,16,17,20,21,22,23,24,25,26]),(23,[3,4,5,9,10,13,14,16,17,20,21,22,23,24,25,26,30,31,32]),(24,[3,4,5,9,10,13,14,16,17,20,21,22,23,24,25,26,30,31,32,33,34,35]),(25,[]),(26,[3,4,5,9,10,13,14,16,17,20,21,22,23,24,25,26]),(27,[3,4,5,9,10,13,14,16,20,21,22,23,24,25,26]),(28,[3,4,5,9,10,16,20,21,22,23,24,25,26,36,37]),(29,[]),(30,[3,4,5,9,10,20,21,22,23,24,25,26]),(31,[3,4,5,9,20,21,22,23,24,25,26]),(32,[3,4,5,9,20,21,22,23,24,25,26,38,39]),(33,[3,5,9,20,21,22,23,24,25,26,39,40,41]),(34,[3,5,9,20,21,22,23,24,25,26,39,41,42,43]),(35,[5,20,21,22,23,24,25,26,39,41,42,43,44,45]),(36,[]),(37,[20,21,22,23,24,25,26]),(38,[24,25]),(39,[20,21,22,23,24,25]),(40,[20,22,23,24,25,46,47]),(41,[20,24,25,47,48,49,50]),(42,[]),(43,[20,24,25,48,49]),(44,[20,25,48,49,51,52]),(45,[20,25,48,52,53,54]),(46,[52,53,54,55,56]),(100058,[0,58]),(100083,[0,3,4,5,83]),(100103,[0,3,4,5,9,10,103]),(100132,[0,3,4,5,9,10,13,14,16,17,132]),(100170,[3,4,5,9,10,13,14,16,17,20,21,22,23,24,25,26,170]),(100201,[3,4,5,9,10,13,14,16,17,20,21,22,23,24,25,26,201]),(100203,[3,4,5,9,10,13,14,16,20,21,22,23,24,25,26,203]),(100219,[3,4,5,9,10,20,21,22,23,24,25,26,219]),(100221,[3,4,5,9,20,21,22,23,24,25,26,221]),(100276,[20,21,22,23,24,25,26,276]),(100278,[20,21,22,23,24,25,278]),(100308,[20,24,25,48,49,308])]
noncomputable def laws_FnRootsAndSeries (a0:(List Int)):Option Bool :=
 (Option.bind (laws_big a0) fun r1=>(if r1 then (some true) else (Option.bind (spec_DrawIsSquarePoly a0) fun r4=>(Option.bind (impl_IsSquarePoly r4.1 r4.2) fun r8=>(Option.bind (spec_IsSquarePoly r4.1 r4.2) fun r11=>(Option.bind (α:=Bool) ((if (r8.2 != r11.2) then (some true) else (some ((!(r8.1 == r11.1)))))) fun x14=>(if x14 then (some false) else (Option.bind (impl_RootPart r4.1 r4.2) fun r21=>(Option.bind (spec_RootPart r4.1 r4.2) fun r25=>(Option.bind (α:=Bool) ((if (r21.2 != r25.2) then (some true) else (some ((!decide (r21.1=r25.1)))))) fun x31=>(if x31 then (some false) else (Option.bind (spec_DrawDigitsOfRoot a0) fun r39=>(Option.bind (impl_DigitsOfRoot r39.1 r39.2.1 r39.2.2) fun r43=>(Option.bind (spec_DigitsOfRoot r39.1 r39.2.1 r39.2.2) fun r46=>(Option.bind (α:=Bool) ((if (r43.2 != r46.2) then (some true) else (Option.bind (laws_likeInts r43.1 r46.1) fun r56=>(some (!r56))))) fun x51=>(if x51 then (some false) else (Option.bind (spec_DrawExponentialUpTo a0) fun r59=>(Option.bind (impl_ExponentialUpTo r59.1 r59.2.1 r59.2.2.1 r59.2.2.2) fun r65=>(Option.bind (spec_ExponentialUpTo r59.1 r59.2.1 r59.2.2.1 r59.2.2.2) fun r71=>(Option.bind (α:=Bool) ((if (r65.2.2 != r71.2.2) then (some true) else (if (!decide (r65.1=r71.1)) then (some true) else (some ((!decide (r65.2.1=r71.2.1))))))) fun x81=>(if x81 then (some false) else (Option.bind (impl_LogarithmUpTo r59.1 r59.2.1 r59.2.2.1 r59.2.2.2) fun r94=>(Option.bind (spec_LogarithmUpTo r59.1 r59.2.1 r59.2.2.1 r59.2.2.2) fun r100=>(Option.bind (α:=Bool) ((if (r94.2.2 != r100.2.2) then (some true) else (if (!decide (r94.1=r100.1)) then (some true) else (some ((!decide (r94.2.1=r100.2.1))))))) fun x110=>(if x110 then (some false) else (Option.bind (α:=(Unit⊕Bool)) ((if (r43.2 == 0) then (Option.bind (impl_IsSquarePoly r39.1 r39.2.1) fun r143=>(Option.bind (α:=Bool) ((if (r143.2 != 0) then (some true) else (if r143.1 then (Option.bind (laws_sum r43.1) fun r155=>(some (r155 != 0))) else (some false)))) fun x149=>(if x149 then (some (.inr false)) else (some ((.inl ())))))) else (some ((.inl ()))))) fun z=>match z with | .inl _=>(Option.bind (α:=(Unit⊕Bool)) ((if (r21.2 == 0) then (Option.bind (impl_MultiplyPolys r4.1 r21.1 r21.1) fun r198=>(Option.bind (impl_SubtractPolys r4.1 r4.2 r198.1) fun r203=>(Option.bind (impl_DegreeOf r4.1 r203.1) fun r207=>(Option.bind (impl_DegreeOf r4.1 r21.1) fun r210=>(Option.bind (α:=Bool) ((if (r198.2 != 0) then (some true) else (if (r203.2 != 0) then (some true) else (if (r207.2 != 0) then (some true) else (if (r210.2 != 0) then (some true) else (if (decide (r207.1 ≥ r210.1)) then (if (decide (r210.1 > 0)) then (some true) else (some ((!(r8.1 == ((decide (r207.1 < 0)))))))) else (some ((!(r8.1 == ((decide (r207.1 < 0))))))))))))) fun x218=>(if x218 then (some (.inr false)) else (some ((.inl ()))))))))) else (some ((.inl ()))))) fun z=>match z with | .inl _=>(if (r65.2.2 != 0) then (if (decide (r65.1=((vrep 64 (0:Int))))) then (some ((decide (r65.2.1=((vrep 64 (0:Int))))))) else (some false)) else (Option.bind (impl_AddPolys r59.1 r59.2.1 r59.2.1) fun r232=>(Option.bind (impl_ExponentialUpTo r59.1 r232.1 r59.2.2.1 r59.2.2.2) fun r237=>(Option.bind (α:=Bool) ((if (r232.2 != 0) then (some true) else (some (r237.2.2 != 0)))) fun x242=>(if x242 then (some false) else (Option.bind (impl_AddPolys r59.1 r65.1 r65.1) fun r250=>(Option.bind (impl_MultiplyPolys r59.1 r250.1 r237.2.1) fun r255=>(Option.bind (impl_MultiplyPolys r59.1 r237.1 r65.2.1) fun r260=>(if (r250.2 == 0) then (if (r255.2 != 0) then (some true) else (if (r260.2 != 0) then (some true) else (some ((decide (r255.1=r260.1)))))) else (some false)))))))))) | .inr r271=>(some r271)) | .inr r272=>(some r272)))))))))))))))))))))))))))
theorem laws_FnRootsAndSeries_ok (a0:(List Int)) (r:Bool) (h:laws_FnRootsAndSeries a0=some r):Den Tryz.prog 3 [(eSu8 a0)] { r:=(.bool r) }:=by
 refine dd (rs:=[(.bool r)]) (L:=laws_FnRootsAndSeries_L) good [(16,1),(18,1)] Tryz.func3 Tryz.ntmps3 ?_
 refine ns ⟨[(0,eSu8 a0)],[]⟩ ?_
 refine sr (vr (.bool false) (nk ⟨[(0,eSu8 a0)],[]⟩ (a_seq (sr (vr (eSu8 a0) ?_)))))
 obtain ⟨r1,hr2,h⟩:=bind_some h
 refine ca (laws_big_ok a0 r1 hr2) (nk ⟨[(0,eSu8 a0),(58,.bool r1)],[]⟩ ?_)
 cases hb3:r1
 ·have h:=ite_f hb3 h
  refine a_cond_f rfl (a_skip (nj ⟨[(0,eSu8 a0)],[]⟩ (sr (vr (eSu8 a0) ?_))))
  obtain ⟨r4,hr5,h⟩:=bind_some h
  refine ca (spec_DrawIsSquarePoly_ok a0 r4 hr5) (vr (.tuple [(i6 r4.1),(eVb r4.2)]) (vb (i6 r4.1) rfl rfl (vb (eVb r4.2) rfl rfl (vo 1400 (eV0) rfl rfl (vr (i6 r4.1) (vs (eVb r4.2) rfl rfl (fun _=>rfl) rfl rfl rfl rfl rfl rfl (nk ⟨[(0,eSu8 a0),(3,i6 r4.1),(4,ow 4)],[(4,bk (eVb r4.2))]⟩ (sr (vr (i6 r4.1) ?_)))))))))
  refine vl (eVb r4.2) rfl rfl rfl rfl rfl rfl ?_
  obtain ⟨r8,hr9,h⟩:=bind_some h
  refine ca (impl_IsSquarePoly_ok r4.1 r4.2 r8 hr9) (vr (.tuple [(.bool r8.1),(i6 r8.2)]) (vb (.bool r8.1) rfl rfl (vb (i6 r8.2) rfl rfl (vr (.bool r8.1) (vr (i6 r8.2) (nk ⟨[(0,eSu8 a0),(3,i6 r4.1),(4,ow 4),(5,.bool r8.1),(6,i6 r8.2)],[(4,bk (eVb r4.2))]⟩ (a_seq (sr (vr (i6 r4.1) ?_)))))))))
  refine vl (eVb r4.2) rfl rfl rfl rfl rfl rfl ?_
  obtain ⟨r11,hr12,h⟩:=bind_some h
  refine ca (spec_IsSquarePoly_ok r4.1 r4.2 r11 hr12) (vr (.tuple [(.bool r11.1),(i6 r11.2)]) (vb (.bool r11.1) rfl rfl (vb (i6 r11.2) rfl rfl (vr (.bool r11.1) (vr (i6 r11.2) (nk ⟨[(0,eSu8 a0),(3,i6 r4.1),(4,ow 4),(5,.bool r8.1),(6,i6 r8.2),(7,.bool r11.1),(8,i6 r11.2)],[(4,bk (eVb r4.2))]⟩ ?_))))))
  obtain ⟨y15,hy16,hk17⟩:=bind_some h
  clear h
  refine a_join (emb:=fun (s:Bool)=>⟨[(0,eSu8 a0),(3,i6 r4.1),(4,ow 4),(5,.bool r8.1),(83,.bool s)],[(4,bk (eVb r4.2))]⟩) (pre:=fun s=>s=y15) ?_ ?_
  ·rintro x14 rfl
   have h:=hk17
   refine ns ⟨[(0,eSu8 a0),(3,i6 r4.1),(4,ow 4),(5,.bool r8.1),(83,.bool x14)],[(4,bk (eVb r4.2))]⟩ ?_
   cases hb19:x14
   ·have h:=ite_f hb19 h
    refine a_cond_f rfl (a_skip (nj ⟨[(0,eSu8 a0),(3,i6 r4.1),(4,ow 4),(5,.bool r8.1)],[(4,bk (eVb r4.2))]⟩ (sr (vr (i6 r4.1) (vl (eVb r4.2) rfl rfl rfl rfl rfl rfl ?_)))))
    obtain ⟨r21,hr22,h⟩:=bind_some h
    refine ca (impl_RootPart_ok r4.1 r4.2 r21 hr22) (vr (.tuple [(eVb r21.1),(i6 r21.2)]) (vb (eVb r21.1) rfl rfl (vb (i6 r21.2) rfl rfl (vo 1900 (eV0) rfl rfl (vs (eVb r21.1) rfl rfl (fun _=>rfl) rfl rfl rfl rfl rfl rfl (vr (i6 r21.2) (nk ⟨[(0,eSu8 a0),(3,i6 r4.1),(4,ow 4),(5,.bool r8.1),(9,ow 9),(10,i6 r21.2)],[(4,bk (eVb r4.2)),(9,bk (eVb r21.1))]⟩ (a_seq (sr ?_)))))))))
    refine vr (i6 r4.1) (vl (eVb r4.2) rfl rfl rfl rfl rfl rfl ?_)
    obtain ⟨r25,hr26,h⟩:=bind_some h
    refine ca (spec_RootPart_ok r4.1 r4.2 r25 hr26) (vr (.tuple [(eVb r25.1),(i6 r25.2)]) (vb (eVb r25.1) rfl rfl (vb (i6 r25.2) rfl rfl (vo 2100 (eV0) rfl rfl (vs (eVb r25.1) rfl rfl (fun _=>rfl) rfl rfl rfl rfl rfl rfl (vr (i6 r25.2) (nk ⟨[(0,eSu8 a0),(3,i6 r4.1),(4,ow 4),(5,.bool r8.1),(9,ow 9),(10,i6 r21.2),(11,ow 11),(12,i6 r25.2)],[(4,bk (eVb r4.2)),(9,bk (eVb r21.1)),(11,bk (eVb r25.1))]⟩ ?_)))))))
    obtain ⟨y32,hy33,hk34⟩:=bind_some h
    clear h
    refine a_join (emb:=fun (s:Bool)=>⟨[(0,eSu8 a0),(3,i6 r4.1),(4,ow 4),(5,.bool r8.1),(9,ow 9),(10,i6 r21.2),(103,.bool s)],[(4,bk (eVb r4.2)),(9,bk (eVb r21.1))]⟩) (pre:=fun s=>s=y32) ?_ ?_
    ·rintro x31 rfl
     have h:=hk34
     refine ns ⟨[(0,eSu8 a0),(3,i6 r4.1),(4,ow 4),(5,.bool r8.1),(9,ow 9),(10,i6 r21.2),(103,.bool x31)],[(4,bk (eVb r4.2)),(9,bk (eVb r21.1))]⟩ ?_
     cases hb38:x31
     ·have h:=ite_f hb38 h
      refine a_cond_f rfl (a_skip (nj ⟨[(0,eSu8 a0),(3,i6 r4.1),(4,ow 4),(5,.bool r8.1),(9,ow 9),(10,i6 r21.2)],[(4,bk (eVb r4.2)),(9,bk (eVb r21.1))]⟩ (sr (vr (eSu8 a0) ?_))))
      obtain ⟨r39,hr40,h⟩:=bind_some h
      refine ca (spec_DrawDigitsOfRoot_ok a0 r39 hr40) (vr (.tuple [(i6 r39.1),(eVb r39.2.1),(i6 r39.2.2)]) (vb (i6 r39.1) rfl rfl (vb (eVb r39.2.1) rfl rfl (vb (i6 r39.2.2) rfl rfl (vo 2400 (eV0) rfl rfl (vr (i6 r39.1) (vs (eVb r39.2.1) rfl rfl (fun _=>rfl) rfl rfl rfl rfl rfl rfl (vr (i6 r39.2.2) (nk ⟨[(0,eSu8 a0),(3,i6 r4.1),(4,ow 4),(5,.bool r8.1),(9,ow 9),(10,i6 r21.2),(13,i6 r39.1),(14,ow 14),(15,i6 r39.2.2)],[(4,bk (eVb r4.2)),(9,bk (eVb r21.1)),(14,bk (eVb r39.2.1))]⟩ ?_)))))))))
      refine sr (vr (i6 r39.1) (vl (eVb r39.2.1) rfl rfl rfl rfl rfl rfl (vr (i6 r39.2.2) ?_)))
      obtain ⟨r43,hr44,h⟩:=bind_some h
      refine ca (impl_DigitsOfRoot_ok r39.1 r39.2.1 r39.2.2 r43 hr44) (vr (.tuple [(eSi64 r43.1),(i6 r43.2)]) (vb (eSi64 r43.1) rfl rfl (vb (i6 r43.2) rfl rfl (vr (eSi64 r43.1) (vr (i6 r43.2) (nk ⟨[(0,eSu8 a0),(3,i6 r4.1),(4,ow 4),(5,.bool r8.1),(9,ow 9),(10,i6 r21.2),(13,i6 r39.1),(14,ow 14),(15,i6 r39.2.2),(16,eSi64 r43.1),(17,i6 r43.2)],[(4,bk (eVb r4.2)),(9,bk (eVb r21.1)),(14,bk (eVb r39.2.1))]⟩ (a_seq (sr (vr (i6 r39.1) ?_)))))))))
      refine vl (eVb r39.2.1) rfl rfl rfl rfl rfl rfl (vr (i6 r39.2.2) ?_)
      obtain ⟨r46,hr47,h⟩:=bind_some h
      refine ca (spec_DigitsOfRoot_ok r39.1 r39.2.1 r39.2.2 r46 hr47) (vr (.tuple [(eSi64 r46.1),(i6 r46.2)]) (vb (eSi64 r46.1) rfl rfl (vb (i6 r46.2) rfl rfl (vr (eSi64 r46.1) (vr (i6 r46.2) (nk ⟨[(0,eSu8 a0),(3,i6 r4.1),(4,ow 4),(5,.bool r8.1),(9,ow 9),(10,i6 r21.2),(13,i6 r39.1),(14,ow 14),(16,eSi64 r43.1),(17,i6 r43.2),(18,eSi64 r46.1),(19,i6 r46.2)],[(4,bk (eVb r4.2)),(9,bk (eVb r21.1)),(14,bk (eVb r39.2.1))]⟩ ?_))))))
      obtain ⟨y52,hy53,hk54⟩:=bind_some h
      clear h
      refine a_join (emb:=fun (s:Bool)=>⟨[(0,eSu8 a0),(3,i6 r4.1),(4,ow 4),(5,.bool r8.1),(9,ow 9),(10,i6 r21.2),(13,i6 r39.1),(14,ow 14),(16,eSi64 r43.1),(17,i6 r43.2),(132,.bool s)],[(4,bk (eVb r4.2)),(9,bk (eVb r21.1)),(14,bk (eVb r39.2.1))]⟩) (pre:=fun s=>s=y52) ?_ ?_
      ·rintro x51 rfl
       have h:=hk54
       refine ns ⟨[(0,eSu8 a0),(3,i6 r4.1),(4,ow 4),(5,.bool r8.1),(9,ow 9),(10,i6 r21.2),(13,i6 r39.1),(14,ow 14),(16,eSi64 r43.1),(17,i6 r43.2),(132,.bool x51)],[(4,bk (eVb r4.2)),(9,bk (eVb r21.1)),(14,bk (eVb r39.2.1))]⟩ ?_
       cases hb58:x51
       ·have h:=ite_f hb58 h
        refine a_cond_f rfl (a_skip (nj ⟨[(0,eSu8 a0),(3,i6 r4.1),(4,ow 4),(5,.bool r8.1),(9,ow 9),(10,i6 r21.2),(13,i6 r39.1),(14,ow 14),(16,eSi64 r43.1),(17,i6 r43.2)],[(4,bk (eVb r4.2)),(9,bk (eVb r21.1)),(14,bk (eVb r39.2.1))]⟩ (sr (vr (eSu8 a0) ?_))))
        obtain ⟨r59,hr60,h⟩:=bind_some h
        refine ca (spec_DrawExponentialUpTo_ok a0 r59 hr60) (vr (.tuple [(i6 r59.1),(eVb r59.2.1),(eVb r59.2.2.1),(i6 r59.2.2.2)]) (vb (i6 r59.1) rfl rfl (vb (eVb r59.2.1) rfl rfl (vb (eVb r59.2.2.1) rfl rfl (vb (i6 r59.2.2.2) rfl rfl (vo 3100 (eV0) rfl rfl (vo 3200 (eV0) rfl rfl (vr (i6 r59.1) (vs (eVb r59.2.1) rfl rfl (fun _=>rfl) rfl rfl rfl rfl rfl rfl ?_)))))))))
        refine vs (eVb r59.2.2.1) rfl rfl (fun _=>rfl) rfl rfl rfl rfl rfl rfl (vr (i6 r59.2.2.2) (nk ⟨[(3,i6 r4.1),(4,ow 4),(5,.bool r8.1),(9,ow 9),(10,i6 r21.2),(13,i6 r39.1),(14,ow 14),(16,eSi64 r43.1),(17,i6 r43.2),(20,i6 r59.1),(21,ow 21),(22,ow 22),(23,i6 r59.2.2.2)],[(4,bk (eVb r4.2)),(9,bk (eVb r21.1)),(14,bk (eVb r39.2.1)),(21,bk (eVb r59.2.1)),(22,bk (eVb r59.2.2.1))]⟩ (sr (vr (i6 r59.1) (vl (eVb r59.2.1) rfl rfl rfl rfl rfl rfl (vl (eVb r59.2.2.1) rfl rfl rfl rfl rfl rfl (vr (i6 r59.2.2.2) ?_)))))))
        obtain ⟨r65,hr66,h⟩:=bind_some h
        refine ca (impl_ExponentialUpTo_ok r59.1 r59.2.1 r59.2.2.1 r59.2.2.2 r65 hr66) (vr (.tuple [(eVb r65.1),(eVb r65.2.1),(i6 r65.2.2)]) (vb (eVb r65.1) rfl rfl (vb (eVb r65.2.1) rfl rfl (vb (i6 r65.2.2) rfl rfl (vo 3400 (eV0) rfl rfl (vo 3500 (eV0) rfl rfl (vs (eVb r65.1) rfl rfl (fun _=>rfl) rfl rfl rfl rfl rfl rfl (vs (eVb r65.2.1) rfl rfl (fun _=>rfl) rfl rfl rfl rfl rfl rfl (vr (i6 r65.2.2) ?_)))))))))
        refine nk ⟨[(3,i6 r4.1),(4,ow 4),(5,.bool r8.1),(9,ow 9),(10,i6 r21.2),(13,i6 r39.1),(14,ow 14),(16,eSi64 r43.1),(17,i6 r43.2),(20,i6 r59.1),(21,ow 21),(22,ow 22),(23,i6 r59.2.2.2),(24,ow 24),(25,ow 25),(26,i6 r65.2.2)],[(4,bk (eVb r4.2)),(9,bk (eVb r21.1)),(14,bk (eVb r39.2.1)),(21,bk (eVb r59.2.1)),(22,bk (eVb r59.2.2.1)),(24,bk (eVb r65.1)),(25,bk (eVb r65.2.1))]⟩ (a_seq (sr (vr (i6 r59.1) (vl (eVb r59.2.1) rfl rfl rfl rfl rfl rfl (vl (eVb r59.2.2.1) rfl rfl rfl rfl rfl rfl (vr (i6 r59.2.2.2) ?_))))))
        obtain ⟨r71,hr72,h⟩:=bind_some h
        refine ca (spec_ExponentialUpTo_ok r59.1 r59.2.1 r59.2.2.1 r59.2.2.2 r71 hr72) (vr (.tuple [(eVb r71.1),(eVb r71.2.1),(i6 r71.2.2)]) (vb (eVb r71.1) rfl rfl (vb (eVb r71.2.1) rfl rfl (vb (i6 r71.2.2) rfl rfl (vo 3700 (eV0) rfl rfl (vo 3800 (eV0) rfl rfl (vs (eVb r71.1) rfl rfl (fun _=>rfl) rfl rfl rfl rfl rfl rfl (vs (eVb r71.2.1) rfl rfl (fun _=>rfl) rfl rfl rfl rfl rfl rfl (vr (i6 r71.2.2) ?_)))))))))
        refine nk ⟨[(3,i6 r4.1),(4,ow 4),(5,.bool r8.1),(9,ow 9),(10,i6 r21.2),(13,i6 r39.1),(14,ow 14),(16,eSi64 r43.1),(17,i6 r43.2),(20,i6 r59.1),(21,ow 21),(22,ow 22),(23,i6 r59.2.2.2),(24,ow 24),(25,ow 25),(26,i6 r65.2.2),(27,ow 27),(28,ow 28),(29,i6 r71.2.2)],[(4,bk (eVb r4.2)),(9,bk (eVb r21.1)),(14,bk (eVb r39.2.1)),(21,bk (eVb r59.2.1)),(22,bk (eVb r59.2.2.1)),(24,bk (eVb r65.1)),(25,bk (eVb r65.2.1)),(27,bk (eVb r71.1)),(28,bk (eVb r71.2.1))]⟩ ?_
        obtain ⟨y82,hy83,hk84⟩:=bind_some h
        clear h
        refine a_join (emb:=fun (s:Bool)=>⟨[(3,i6 r4.1),(4,ow 4),(5,.bool r8.1),(9,ow 9),(10,i6 r21.2),(13,i6 r39.1),(14,ow 14),(16,eSi64 r43.1),(17,i6 r43.2),(20,i6 r59.1),(21,ow 21),(22,ow 22),(23,i6 r59.2.2.2),(24,ow 24),(25,ow 25),(26,i6 r65.2.2),(170,.bool s)],[(4,bk (eVb r4.2)),(9,bk (eVb r21.1)),(14,bk (eVb r39.2.1)),(21,bk (eVb r59.2.1)),(22,bk (eVb r59.2.2.1)),(24,bk (eVb r65.1)),(25,bk (eVb r65.2.1))]⟩) (pre:=fun s=>s=y82) ?_ ?_
        ·rintro x81 rfl
         have h:=hk84
         refine ns ⟨[(3,i6 r4.1),(4,ow 4),(5,.bool r8.1),(9,ow 9),(10,i6 r21.2),(13,i6 r39.1),(14,ow 14),(16,eSi64 r43.1),(17,i6 r43.2),(20,i6 r59.1),(21,ow 21),(22,ow 22),(23,i6 r59.2.2.2),(24,ow 24),(25,ow 25),(26,i6 r65.2.2),(170,.bool x81)],[(4,bk (eVb r4.2)),(9,bk (eVb r21.1)),(14,bk (eVb r39.2.1)),(21,bk (eVb r59.2.1)),(22,bk (eVb r59.2.2.1)),(24,bk (eVb r65.1)),(25,bk (eVb r65.2.1))]⟩ ?_
         cases hb91:x81
         ·have h:=ite_f hb91 h
          refine a_cond_f rfl (a_skip (nj ⟨[(3,i6 r4.1),(4,ow 4),(5,.bool r8.1),(9,ow 9),(10,i6 r21.2),(13,i6 r39.1),(14,ow 14),(16,eSi64 r43.1),(17,i6 r43.2),(20,i6 r59.1),(21,ow 21),(22,ow 22),(23,i6 r59.2.2.2),(24,ow 24),(25,ow 25),(26,i6 r65.2.2)],[(4,bk (eVb r4.2)),(9,bk (eVb r21.1)),(14,bk (eVb r39.2.1)),(21,bk (eVb r59.2.1)),(22,bk (eVb r59.2.2.1)),(24,bk (eVb r65.1)),(25,bk (eVb r65.2.1))]⟩ (sr (vr (i6 r59.1) (vl (eVb r59.2.1) rfl rfl rfl rfl rfl rfl (vl (eVb r59.2.2.1) rfl rfl rfl rfl rfl rfl (vr (i6 r59.2.2.2) ?_)))))))
          obtain ⟨r94,hr95,h⟩:=bind_some h
          refine ca (impl_LogarithmUpTo_ok r59.1 r59.2.1 r59.2.2.1 r59.2.2.2 r94 hr95) (vr (.tuple [(eVb r94.1),(eVb r94.2.1),(i6 r94.2.2)]) (vb (eVb r94.1) rfl rfl (vb (eVb r94.2.1) rfl rfl (vb (i6 r94.2.2) rfl rfl (vo 4000 (eV0) rfl rfl (vo 4100 (eV0) rfl rfl (vs (eVb r94.1) rfl rfl (fun _=>rfl) rfl rfl rfl rfl rfl rfl (vs (eVb r94.2.1) rfl rfl (fun _=>rfl) rfl rfl rfl rfl rfl rfl (vr (i6 r94.2.2) ?_)))))))))
          refine nk ⟨[(3,i6 r4.1),(4,ow 4),(5,.bool r8.1),(9,ow 9),(10,i6 r21.2),(13,i6 r39.1),(14,ow 14),(16,eSi64 r43.1),(17,i6 r43.2),(20,i6 r59.1),(21,ow 21),(22,ow 22),(23,i6 r59.2.2.2),(24,ow 24),(25,ow 25),(26,i6 r65.2.2),(30,ow 30),(31,ow 31),(32,i6 r94.2.2)],[(4,bk (eVb r4.2)),(9,bk (eVb r21.1)),(14,bk (eVb r39.2.1)),(21,bk (eVb r59.2.1)),(22,bk (eVb r59.2.2.1)),(24,bk (eVb r65.1)),(25,bk (eVb r65.2.1)),(30,bk (eVb r94.1)),(31,bk (eVb r94.2.1))]⟩ (a_seq (sr (vr (i6 r59.1) (vl (eVb r59.2.1) rfl rfl rfl rfl rfl rfl (vl (eVb r59.2.2.1) rfl rfl rfl rfl rfl rfl (vr (i6 r59.2.2.2) ?_))))))
          obtain ⟨r100,hr101,h⟩:=bind_some h
          refine ca (spec_LogarithmUpTo_ok r59.1 r59.2.1 r59.2.2.1 r59.2.2.2 r100 hr101) (vr (.tuple [(eVb r100.1),(eVb r100.2.1),(i6 r100.2.2)]) (vb (eVb r100.1) rfl rfl (vb (eVb r100.2.1) rfl rfl (vb (i6 r100.2.2) rfl rfl (vo 4300 (eV0) rfl rfl (vo 4400 (eV0) rfl rfl (vs (eVb r100.1) rfl rfl (fun _=>rfl) rfl rfl rfl rfl rfl rfl (vs (eVb r100.2.1) rfl rfl (fun _=>rfl) rfl rfl rfl rfl rfl rfl (vr (i6 r100.2.2) ?_)))))))))
          refine nk ⟨[(3,i6 r4.1),(4,ow 4),(5,.bool r8.1),(9,ow 9),(10,i6 r21.2),(13,i6 r39.1),(14,ow 14),(16,eSi64 r43.1),(17,i6 r43.2),(20,i6 r59.1),(21,ow 21),(22,ow 22),(23,i6 r59.2.2.2),(24,ow 24),(25,ow 25),(26,i6 r65.2.2),(30,ow 30),(31,ow 31),(32,i6 r94.2.2),(33,ow 33),(34,ow 34),(35,i6 r100.2.2)],[(4,bk (eVb r4.2)),(9,bk (eVb r21.1)),(14,bk (eVb r39.2.1)),(21,bk (eVb r59.2.1)),(22,bk (eVb r59.2.2.1)),(24,bk (eVb r65.1)),(25,bk (eVb r65.2.1)),(30,bk (eVb r94.1)),(31,bk (eVb r94.2.1)),(33,bk (eVb r100.1)),(34,bk (eVb r100.2.1))]⟩ ?_
          obtain ⟨y111,hy112,hk113⟩:=bind_some h
          clear h
          refine a_join (emb:=fun (s:Bool)=>⟨[(3,i6 r4.1),(4,ow 4),(5,.bool r8.1),(9,ow 9),(10,i6 r21.2),(13,i6 r39.1),(14,ow 14),(16,eSi64 r43.1),(17,i6 r43.2),(20,i6 r59.1),(21,ow 21),(22,ow 22),(23,i6 r59.2.2.2),(24,ow 24),(25,ow 25),(26,i6 r65.2.2),(201,.bool s)],[(4,bk (eVb r4.2)),(9,bk (eVb r21.1)),(14,bk (eVb r39.2.1)),(21,bk (eVb r59.2.1)),(22,bk (eVb r59.2.2.1)),(24,bk (eVb r65.1)),(25,bk (eVb r65.2.1))]⟩) (pre:=fun s=>s=y111) ?_ ?_
          ·rintro x110 rfl
           have h:=hk113
           refine ns ⟨[(3,i6 r4.1),(4,ow 4),(5,.bool r8.1),(9,ow 9),(10,i6 r21.2),(13,i6 r39.1),(14,ow 14),(16,eSi64 r43.1),(17,i6 r43.2),(20,i6 r59.1),(21,ow 21),(22,ow 22),(23,i6 r59.2.2.2),(24,ow 24),(25,ow 25),(26,i6 r65.2.2),(201,.bool x110)],[(4,bk (eVb r4.2)),(9,bk (eVb r21.1)),(14,bk (eVb r39.2.1)),(21,bk (eVb r59.2.1)),(22,bk (eVb r59.2.2.1)),(24,bk (eVb r65.1)),(25,bk (eVb r65.2.1))]⟩ ?_
           cases hb120:x110
           ·have h:=ite_f hb120 h
            refine a_cond_f rfl (a_skip (nj ⟨[(3,i6 r4.1),(4,ow 4),(5,.bool r8.1),(9,ow 9),(10,i6 r21.2),(13,i6 r39.1),(14,ow 14),(16,eSi64 r43.1),(17,i6 r43.2),(20,i6 r59.1),(21,ow 21),(22,ow 22),(23,i6 r59.2.2.2),(24,ow 24),(25,ow 25),(26,i6 r65.2.2)],[(4,bk (eVb r4.2)),(9,bk (eVb r21.1)),(14,bk (eVb r39.2.1)),(21,bk (eVb r59.2.1)),(22,bk (eVb r59.2.2.1)),(24,bk (eVb r65.1)),(25,bk (eVb r65.2.1))]⟩ ?_))
            obtain ⟨y138,hy139,hk140⟩:=bind_some h
            clear h
            refine a_join (emb:=fun (s:Unit)=>⟨[(3,i6 r4.1),(4,ow 4),(5,.bool r8.1),(9,ow 9),(10,i6 r21.2),(20,i6 r59.1),(21,ow 21),(22,ow 22),(23,i6 r59.2.2.2),(24,ow 24),(25,ow 25),(26,i6 r65.2.2)],[(4,bk (eVb r4.2)),(9,bk (eVb r21.1)),(21,bk (eVb r59.2.1)),(22,bk (eVb r59.2.2.1)),(24,bk (eVb r65.1)),(25,bk (eVb r65.2.1))]⟩) (pre:=fun s=>(.inl s)=y138) ?_ ?_
            ·rintro _ rfl
             have h:=hk140
             refine ns ⟨[(3,i6 r4.1),(4,ow 4),(5,.bool r8.1),(9,ow 9),(10,i6 r21.2),(20,i6 r59.1),(21,ow 21),(22,ow 22),(23,i6 r59.2.2.2),(24,ow 24),(25,ow 25),(26,i6 r65.2.2)],[(4,bk (eVb r4.2)),(9,bk (eVb r21.1)),(21,bk (eVb r59.2.1)),(22,bk (eVb r59.2.2.1)),(24,bk (eVb r65.1)),(25,bk (eVb r65.2.1))]⟩ ?_
             obtain ⟨y192,hy193,hk194⟩:=bind_some h
             clear h
             refine a_join (emb:=fun (s:Unit)=>⟨[(20,i6 r59.1),(21,ow 21),(22,ow 22),(23,i6 r59.2.2.2),(24,ow 24),(25,ow 25),(26,i6 r65.2.2)],[(21,bk (eVb r59.2.1)),(22,bk (eVb r59.2.2.1)),(24,bk (eVb r65.1)),(25,bk (eVb r65.2.1))]⟩) (pre:=fun s=>(.inl s)=y192) ?_ ?_
             ·rintro _ rfl
              have h:=hk194
              refine ns ⟨[(20,i6 r59.1),(21,ow 21),(22,ow 22),(23,i6 r59.2.2.2),(24,ow 24),(25,ow 25),(26,i6 r65.2.2)],[(21,bk (eVb r59.2.1)),(22,bk (eVb r59.2.2.1)),(24,bk (eVb r65.1)),(25,bk (eVb r65.2.1))]⟩ (a_seq (sr (vr (i6 r65.2.2) (vr (.bool (r65.2.2 != 0)) (nk ⟨[(20,i6 r59.1),(21,ow 21),(22,ow 22),(23,i6 r59.2.2.2),(24,ow 24),(25,ow 25),(278,.bool (r65.2.2 != 0))],[(21,bk (eVb r59.2.1)),(22,bk (eVb r59.2.2.1)),(24,bk (eVb r65.1)),(25,bk (eVb r65.2.1))]⟩ ?_)))))
              cases hb229:(r65.2.2 != 0)
              ·have h:=ite_f hb229 h
               refine a_cond_f rfl (a_skip (nj ⟨[(20,i6 r59.1),(21,ow 21),(22,ow 22),(23,i6 r59.2.2.2),(24,ow 24),(25,ow 25)],[(21,bk (eVb r59.2.1)),(22,bk (eVb r59.2.2.1)),(24,bk (eVb r65.1)),(25,bk (eVb r65.2.1))]⟩ (sr (vr (i6 r59.1) (vl (eVb r59.2.1) rfl rfl rfl rfl rfl rfl (vl (eVb r59.2.1) rfl rfl rfl rfl rfl rfl ?_))))))
               obtain ⟨r232,hr233,h⟩:=bind_some h
               refine ca (impl_AddPolys_ok r59.1 r59.2.1 r59.2.1 r232 hr233) (vr (.tuple [(eVb r232.1),(i6 r232.2)]) (vb (eVb r232.1) rfl rfl (vb (i6 r232.2) rfl rfl (vo 5600 (eV0) rfl rfl (vs (eVb r232.1) rfl rfl (fun _=>rfl) rfl rfl rfl rfl rfl rfl (vr (i6 r232.2) (nk ⟨[(20,i6 r59.1),(22,ow 22),(23,i6 r59.2.2.2),(24,ow 24),(25,ow 25),(46,ow 46),(47,i6 r232.2)],[(22,bk (eVb r59.2.2.1)),(24,bk (eVb r65.1)),(25,bk (eVb r65.2.1)),(46,bk (eVb r232.1))]⟩ (sr (vr (i6 r59.1) ?_)))))))))
               refine vl (eVb r232.1) rfl rfl rfl rfl rfl rfl (vl (eVb r59.2.2.1) rfl rfl rfl rfl rfl rfl (vr (i6 r59.2.2.2) ?_))
               obtain ⟨r237,hr238,h⟩:=bind_some h
               refine ca (impl_ExponentialUpTo_ok r59.1 r232.1 r59.2.2.1 r59.2.2.2 r237 hr238) (vr (.tuple [(eVb r237.1),(eVb r237.2.1),(i6 r237.2.2)]) (vb (eVb r237.1) rfl rfl (vb (eVb r237.2.1) rfl rfl (vb (i6 r237.2.2) rfl rfl (vo 5800 (eV0) rfl rfl (vo 5900 (eV0) rfl rfl (vs (eVb r237.1) rfl rfl (fun _=>rfl) rfl rfl rfl rfl rfl rfl (vs (eVb r237.2.1) rfl rfl (fun _=>rfl) rfl rfl rfl rfl rfl rfl (vr (i6 r237.2.2) ?_)))))))))
               refine nk ⟨[(20,i6 r59.1),(24,ow 24),(25,ow 25),(47,i6 r232.2),(48,ow 48),(49,ow 49),(50,i6 r237.2.2)],[(24,bk (eVb r65.1)),(25,bk (eVb r65.2.1)),(48,bk (eVb r237.1)),(49,bk (eVb r237.2.1))]⟩ (a_seq ?_)
               obtain ⟨y243,hy244,hk245⟩:=bind_some h
               clear h
               refine a_join (emb:=fun (s:Bool)=>⟨[(20,i6 r59.1),(24,ow 24),(25,ow 25),(48,ow 48),(49,ow 49),(308,.bool s)],[(24,bk (eVb r65.1)),(25,bk (eVb r65.2.1)),(48,bk (eVb r237.1)),(49,bk (eVb r237.2.1))]⟩) (pre:=fun s=>s=y243) ?_ ?_
               ·rintro x242 rfl
                have h:=hk245
                refine ns ⟨[(20,i6 r59.1),(24,ow 24),(25,ow 25),(48,ow 48),(49,ow 49),(308,.bool x242)],[(24,bk (eVb r65.1)),(25,bk (eVb r65.2.1)),(48,bk (eVb r237.1)),(49,bk (eVb r237.2.1))]⟩ ?_
                cases hb247:x242
                ·have h:=ite_f hb247 h
                 refine a_cond_f rfl (a_skip (nj ⟨[(20,i6 r59.1),(24,ow 24),(25,ow 25),(48,ow 48),(49,ow 49)],[(24,bk (eVb r65.1)),(25,bk (eVb r65.2.1)),(48,bk (eVb r237.1)),(49,bk (eVb r237.2.1))]⟩ (sr (vr (i6 r59.1) (vl (eVb r65.1) rfl rfl rfl rfl rfl rfl (vl (eVb r65.1) rfl rfl rfl rfl rfl rfl ?_))))))
                 obtain ⟨r250,hr251,h⟩:=bind_some h
                 refine ca (impl_AddPolys_ok r59.1 r65.1 r65.1 r250 hr251) (vr (.tuple [(eVb r250.1),(i6 r250.2)]) (vb (eVb r250.1) rfl rfl (vb (i6 r250.2) rfl rfl (vo 6100 (eV0) rfl rfl (vs (eVb r250.1) rfl rfl (fun _=>rfl) rfl rfl rfl rfl rfl rfl (vr (i6 r250.2) (nk ⟨[(20,i6 r59.1),(25,ow 25),(48,ow 48),(49,ow 49),(51,ow 51),(52,i6 r250.2)],[(25,bk (eVb r65.2.1)),(48,bk (eVb r237.1)),(49,bk (eVb r237.2.1)),(51,bk (eVb r250.1))]⟩ (sr (vr (i6 r59.1) ?_)))))))))
                 refine vl (eVb r250.1) rfl rfl rfl rfl rfl rfl (vl (eVb r237.2.1) rfl rfl rfl rfl rfl rfl ?_)
                 obtain ⟨r255,hr256,h⟩:=bind_some h
                 refine ca (impl_MultiplyPolys_ok r59.1 r250.1 r237.2.1 r255 hr256) (vr (.tuple [(eVb r255.1),(i6 r255.2)]) (vb (eVb r255.1) rfl rfl (vb (i6 r255.2) rfl rfl (vo 6300 (eV0) rfl rfl (vs (eVb r255.1) rfl rfl (fun _=>rfl) rfl rfl rfl rfl rfl rfl (vr (i6 r255.2) (nk ⟨[(20,i6 r59.1),(25,ow 25),(48,ow 48),(52,i6 r250.2),(53,ow 53),(54,i6 r255.2)],[(25,bk (eVb r65.2.1)),(48,bk (eVb r237.1)),(53,bk (eVb r255.1))]⟩ (sr (vr (i6 r59.1) ?_)))))))))
                 refine vl (eVb r237.1) rfl rfl rfl rfl rfl rfl (vl (eVb r65.2.1) rfl rfl rfl rfl rfl rfl ?_)
                 obtain ⟨r260,hr261,h⟩:=bind_some h
                 refine ca (impl_MultiplyPolys_ok r59.1 r237.1 r65.2.1 r260 hr261) (vr (.tuple [(eVb r260.1),(i6 r260.2)]) (vb (eVb r260.1) rfl rfl (vb (i6 r260.2) rfl rfl (vo 6500 (eV0) rfl rfl (vs (eVb r260.1) rfl rfl (fun _=>rfl) rfl rfl rfl rfl rfl rfl (vr (i6 r260.2) (nk ⟨[(52,i6 r250.2),(53,ow 53),(54,i6 r255.2),(55,ow 55),(56,i6 r260.2)],[(53,bk (eVb r255.1)),(55,bk (eVb r260.1))]⟩ (sr (vr (i6 r250.2) ?_)))))))))
                 refine vr (.bool (r250.2 == 0)) (vr (.bool (r250.2 == 0)) ?_)
                 cases hb263:(r250.2 == 0)
                 ·have h:=ite_f hb263 h
                  refine a_gskip rfl (a_gskip rfl (a_gskip rfl (a_gskip0 rfl (a_gskip0 rfl (a_gskip rfl (a_gskip rfl (a_gskip0 rfl (a_gskip0 rfl (a_gskip0 rfl ?_)))))))))
                  refine a_gskip rfl (vr (.bool false) (vr (.bool false) (nx _ rfl (a_ret ?_))))
                  refine ⟨.inr rfl,?_⟩
                  rw [Tryz.results3]
                  cases h
                  exact ⟨_,_,_,_,_,rfl,trivial,.inl ⟨rfl,.inl rfl⟩,rfl,rfl⟩
                 ·have h:=ite_t hb263 h
                  refine gp (i6 r255.2) rfl rfl (gp (.bool (r255.2 != 0)) rfl rfl (gp (.bool (r255.2 != 0)) rfl rfl ?_))
                  cases hb264:(r255.2 != 0)
                  ·have h:=ite_f hb264 h
                   refine gp (i6 r260.2) rfl rfl (gp (.bool (r260.2 != 0)) rfl rfl (gp (.bool (r260.2 != 0)) rfl rfl (gp (.bool (r260.2 != 0)) rfl rfl ?_)))
                   cases hb265:(r260.2 != 0)
                   ·have h:=ite_f hb265 h
                    have hl266:LdOk [] (eVb r255.1) [] 64 true (eVb r255.1):=(.nil rfl rfl rfl)
                    refine gq (eVb r255.1) rfl (ld_own (i:=⟨.arr 64 5,64,64,(eVb (vrep 64 (0:Int)))⟩) rfl rfl rfl hl266) hl266.c ?_
                    have hl267:LdOk [] (eVb r260.1) [] 64 true (eVb r260.1):=(.nil rfl rfl rfl)
                    refine gq (eVb r260.1) rfl (ld_own (i:=⟨.arr 64 5,64,64,(eVb (vrep 64 (0:Int)))⟩) rfl rfl rfl hl267) hl267.c (gq (.bool ((decide (r255.1=r260.1)))) rfl (eqa_run (f:=(AV.int .u8)) (a:=r255.1.1) (b:=r260.1.1) rfl rfl (eqb_vec (fun _ _=>eqb_int _ _) r255.1 r260.1)) (cmp_arr (g:=8) (f:=(AV.int .u8)) (x:=r255.1) (y:=r260.1) rfl rfl rfl (fun _ _=>rfl) (fun _ _=>cmp_int rfl)) (gp (.bool ((decide (r255.1=r260.1)))) rfl rfl (vr (.bool ((decide (r255.1=r260.1)))) (vr (.bool ((decide (r255.1=r260.1)))) (nx _ rfl (a_ret ?_))))))
                    refine ⟨.inr rfl,?_⟩
                    rw [Tryz.results3]
                    cases h
                    exact ⟨_,_,_,_,_,rfl,trivial,.inl ⟨rfl,.inl rfl⟩,rfl,rfl⟩
                   ·have h:=ite_t hb265 h
                    refine a_gskip rfl (a_gskip rfl (a_gskip rfl (gp (.bool true) rfl rfl (vr (.bool true) (vr (.bool true) (nx _ rfl (a_ret ?_)))))))
                    refine ⟨.inr rfl,?_⟩
                    rw [Tryz.results3]
                    cases h
                    exact ⟨_,_,_,_,_,rfl,trivial,.inl ⟨rfl,.inl rfl⟩,rfl,rfl⟩
                  ·have h:=ite_t hb264 h
                   refine a_gskip rfl (a_gskip rfl (gp (.bool true) rfl rfl (gp (.bool true) rfl rfl (a_gskip rfl (a_gskip rfl (a_gskip rfl (gp (.bool true) rfl rfl (vr (.bool true) (vr (.bool true) ?_)))))))))
                   refine nx _ rfl (a_ret ?_)
                   refine ⟨.inr rfl,?_⟩
                   rw [Tryz.results3]
                   cases h
                   exact ⟨_,_,_,_,_,rfl,trivial,.inl ⟨rfl,.inl rfl⟩,rfl,rfl⟩
                ·have h:=ite_t hb247 h
                 refine a_cond_t rfl (sr (vr (.bool false) (nx _ rfl (a_ret (t_ret ?_)))))
                 refine ⟨.inr rfl,?_⟩
                 rw [Tryz.results3]
                 cases h
                 exact ⟨_,_,_,_,_,rfl,trivial,.inl ⟨rfl,.inl rfl⟩,rfl,rfl⟩
               ·have h:=hy244
                refine a_region (vr (i6 r232.2) (vr (.bool (r232.2 != 0)) (vr (.bool (r232.2 != 0)) ?_)))
                cases hb246:(r232.2 != 0)
                ·have h:=ite_f hb246 h
                 refine gp (i6 r237.2.2) rfl rfl (gp (.bool (r237.2.2 != 0)) rfl rfl (vr (.bool (r237.2.2 != 0)) (a_nil ?_)))
                 exact jl (r237.2.2 != 0) h
                ·have h:=ite_t hb246 h
                 refine a_gskip rfl (a_gskip rfl (vr (.bool true) (a_nil ?_)))
                 exact jl true h
              ·have h:=ite_t hb229 h
               refine a_cond_t rfl (sr (vl (eVb r65.1) rfl rfl rfl rfl rfl rfl (vq (eV0) rfl ⟨⟨_,rfl,rfl⟩,all_nil⟩ (vq (.bool ((decide (r65.1=((vrep 64 (0:Int))))))) (eqa_run (f:=(AV.int .u8)) (a:=r65.1.1) (b:=((vrep 64 (0:Int))).1) rfl rfl (eqb_vec (fun _ _=>eqb_int _ _) r65.1 ((vrep 64 (0:Int))))) (cmp_arr (g:=8) (f:=(AV.int .u8)) (x:=r65.1) (y:=((vrep 64 (0:Int)))) rfl rfl rfl (fun _ _=>rfl) (fun _ _=>cmp_int rfl)) (vr (.bool ((decide (r65.1=((vrep 64 (0:Int))))))) ?_)))))
               cases hb269:(decide (r65.1=((vrep 64 (0:Int)))))
               ·have h:=ite_f hb269 h
                refine a_gskip rfl (a_gskip rfl (a_gskip rfl (vr (.bool false) (vr (.bool false) (nx _ rfl (a_ret (t_ret ?_)))))))
                refine ⟨.inr rfl,?_⟩
                rw [Tryz.results3]
                cases h
                exact ⟨_,_,_,_,_,rfl,trivial,.inl ⟨rfl,.inl rfl⟩,rfl,rfl⟩
               ·have h:=ite_t hb269 h
                have hl270:LdOk [] (eVb r65.2.1) [] 64 true (eVb r65.2.1):=(.nil rfl rfl rfl)
                refine gq (eVb r65.2.1) rfl (ld_own (i:=⟨.arr 64 5,64,64,(eVb (vrep 64 (0:Int)))⟩) rfl rfl rfl hl270) hl270.c (gq (eV0) rfl rfl ⟨⟨_,rfl,rfl⟩,all_nil⟩ (gq (.bool ((decide (r65.2.1=((vrep 64 (0:Int))))))) rfl (eqa_run (f:=(AV.int .u8)) (a:=r65.2.1.1) (b:=((vrep 64 (0:Int))).1) rfl rfl (eqb_vec (fun _ _=>eqb_int _ _) r65.2.1 ((vrep 64 (0:Int))))) (cmp_arr (g:=8) (f:=(AV.int .u8)) (x:=r65.2.1) (y:=((vrep 64 (0:Int)))) rfl rfl rfl (fun _ _=>rfl) (fun _ _=>cmp_int rfl)) (vr (.bool ((decide (r65.2.1=((vrep 64 (0:Int))))))) (vr (.bool ((decide (r65.2.1=((vrep 64 (0:Int))))))) (nx _ rfl (a_ret (t_ret ?_)))))))
                refine ⟨.inr rfl,?_⟩
                rw [Tryz.results3]
                cases h
                exact ⟨_,_,_,_,_,rfl,trivial,.inl ⟨rfl,.inl rfl⟩,rfl,rfl⟩
             ·have h:=hy193
              refine sr (vr (i6 r21.2) (vr (.bool (r21.2 == 0)) (nk ⟨[(3,i6 r4.1),(4,ow 4),(5,.bool r8.1),(9,ow 9),(20,i6 r59.1),(21,ow 21),(22,ow 22),(23,i6 r59.2.2.2),(24,ow 24),(25,ow 25),(26,i6 r65.2.2),(221,.bool (r21.2 == 0))],[(4,bk (eVb r4.2)),(9,bk (eVb r21.1)),(21,bk (eVb r59.2.1)),(22,bk (eVb r59.2.2.1)),(24,bk (eVb r65.1)),(25,bk (eVb r65.2.1))]⟩ ?_)))
              cases hb195:(r21.2 == 0)
              ·have h:=ite_f hb195 h
               refine a_cond_f rfl (a_skip ?_)
               exact jl () h
              ·have h:=ite_t hb195 h
               refine a_cond_t rfl (sr (vr (i6 r4.1) (vl (eVb r21.1) rfl rfl rfl rfl rfl rfl (vl (eVb r21.1) rfl rfl rfl rfl rfl rfl ?_))))
               obtain ⟨r198,hr199,h⟩:=bind_some h
               refine ca (impl_MultiplyPolys_ok r4.1 r21.1 r21.1 r198 hr199) (vr (.tuple [(eVb r198.1),(i6 r198.2)]) (vb (eVb r198.1) rfl rfl (vb (i6 r198.2) rfl rfl (vo 4800 (eV0) rfl rfl (vs (eVb r198.1) rfl rfl (fun _=>rfl) rfl rfl rfl rfl rfl rfl (vr (i6 r198.2) (nk ⟨[(3,i6 r4.1),(4,ow 4),(5,.bool r8.1),(9,ow 9),(20,i6 r59.1),(21,ow 21),(22,ow 22),(23,i6 r59.2.2.2),(24,ow 24),(25,ow 25),(26,i6 r65.2.2),(38,ow 38),(39,i6 r198.2)],[(4,bk (eVb r4.2)),(9,bk (eVb r21.1)),(21,bk (eVb r59.2.1)),(22,bk (eVb r59.2.2.1)),(24,bk (eVb r65.1)),(25,bk (eVb r65.2.1)),(38,bk (eVb r198.1))]⟩ (sr (vr (i6 r4.1) ?_)))))))))
               refine vl (eVb r4.2) rfl rfl rfl rfl rfl rfl (vl (eVb r198.1) rfl rfl rfl rfl rfl rfl ?_)
               obtain ⟨r203,hr204,h⟩:=bind_some h
               refine ca (impl_SubtractPolys_ok r4.1 r4.2 r198.1 r203 hr204) (vr (.tuple [(eVb r203.1),(i6 r203.2)]) (vb (eVb r203.1) rfl rfl (vb (i6 r203.2) rfl rfl (vo 5000 (eV0) rfl rfl (vs (eVb r203.1) rfl rfl (fun _=>rfl) rfl rfl rfl rfl rfl rfl (vr (i6 r203.2) (nk ⟨[(3,i6 r4.1),(5,.bool r8.1),(9,ow 9),(20,i6 r59.1),(21,ow 21),(22,ow 22),(23,i6 r59.2.2.2),(24,ow 24),(25,ow 25),(26,i6 r65.2.2),(39,i6 r198.2),(40,ow 40),(41,i6 r203.2)],[(9,bk (eVb r21.1)),(21,bk (eVb r59.2.1)),(22,bk (eVb r59.2.2.1)),(24,bk (eVb r65.1)),(25,bk (eVb r65.2.1)),(40,bk (eVb r203.1))]⟩ (sr (vr (i6 r4.1) ?_)))))))))
               refine vl (eVb r203.1) rfl rfl rfl rfl rfl rfl ?_
               obtain ⟨r207,hr208,h⟩:=bind_some h
               refine ca (impl_DegreeOf_ok r4.1 r203.1 r207 hr208) (vr (.tuple [(i6 r207.1),(i6 r207.2)]) (vb (i6 r207.1) rfl rfl (vb (i6 r207.2) rfl rfl (vr (i6 r207.1) (vr (i6 r207.2) (nk ⟨[(3,i6 r4.1),(5,.bool r8.1),(9,ow 9),(20,i6 r59.1),(21,ow 21),(22,ow 22),(23,i6 r59.2.2.2),(24,ow 24),(25,ow 25),(26,i6 r65.2.2),(39,i6 r198.2),(41,i6 r203.2),(42,i6 r207.1),(43,i6 r207.2)],[(9,bk (eVb r21.1)),(21,bk (eVb r59.2.1)),(22,bk (eVb r59.2.2.1)),(24,bk (eVb r65.1)),(25,bk (eVb r65.2.1))]⟩ (sr (vr (i6 r4.1) (vl (eVb r21.1) rfl rfl rfl rfl rfl rfl ?_)))))))))
               obtain ⟨r210,hr211,h⟩:=bind_some h
               refine ca (impl_DegreeOf_ok r4.1 r21.1 r210 hr211) (vr (.tuple [(i6 r210.1),(i6 r210.2)]) (vb (i6 r210.1) rfl rfl (vb (i6 r210.2) rfl rfl (vr (i6 r210.1) (vr (i6 r210.2) (nk ⟨[(5,.bool r8.1),(20,i6 r59.1),(21,ow 21),(22,ow 22),(23,i6 r59.2.2.2),(24,ow 24),(25,ow 25),(26,i6 r65.2.2),(39,i6 r198.2),(41,i6 r203.2),(42,i6 r207.1),(43,i6 r207.2),(44,i6 r210.1),(45,i6 r210.2)],[(21,bk (eVb r59.2.1)),(22,bk (eVb r59.2.2.1)),(24,bk (eVb r65.1)),(25,bk (eVb r65.2.1))]⟩ ?_))))))
               obtain ⟨y219,hy220,hk221⟩:=bind_some h
               clear h
               refine a_join (emb:=fun (s:Bool)=>⟨[(20,i6 r59.1),(21,ow 21),(22,ow 22),(23,i6 r59.2.2.2),(24,ow 24),(25,ow 25),(26,i6 r65.2.2),(276,.bool s)],[(21,bk (eVb r59.2.1)),(22,bk (eVb r59.2.2.1)),(24,bk (eVb r65.1)),(25,bk (eVb r65.2.1))]⟩) (pre:=fun s=>s=y219) ?_ ?_
               ·rintro x218 rfl
                have h:=hk221
                refine ns ⟨[(20,i6 r59.1),(21,ow 21),(22,ow 22),(23,i6 r59.2.2.2),(24,ow 24),(25,ow 25),(26,i6 r65.2.2),(276,.bool x218)],[(21,bk (eVb r59.2.1)),(22,bk (eVb r59.2.2.1)),(24,bk (eVb r65.1)),(25,bk (eVb r65.2.1))]⟩ ?_
                cases hb228:x218
                ·have h:=ite_f hb228 h
                 refine a_cond_f rfl (a_skip ?_)
                 exact jl () h
                ·have h:=ite_t hb228 h
                 refine a_cond_t rfl (sr (vr (.bool false) (nx _ rfl (a_ret (t_ret ?_)))))
                 cases h
                 have h:=hk194
                 refine ⟨.inr rfl,?_⟩
                 rw [Tryz.results3]
                 cases h
                 exact ⟨_,_,_,_,_,rfl,trivial,.inl ⟨rfl,.inl rfl⟩,rfl,rfl⟩
               ·have h:=hy220
                refine a_region (vr (i6 r198.2) (vr (.bool (r198.2 != 0)) (vr (.bool (r198.2 != 0)) ?_)))
                cases hb222:(r198.2 != 0)
                ·have h:=ite_f hb222 h
                 refine gp (i6 r203.2) rfl rfl (gp (.bool (r203.2 != 0)) rfl rfl (vr (.bool (r203.2 != 0)) (vr (.bool (r203.2 != 0)) ?_)))
                 cases hb223:(r203.2 != 0)
                 ·have h:=ite_f hb223 h
                  refine gp (i6 r207.2) rfl rfl (gp (.bool (r207.2 != 0)) rfl rfl (vr (.bool (r207.2 != 0)) (vr (.bool (r207.2 != 0)) ?_)))
                  cases hb224:(r207.2 != 0)
                  ·have h:=ite_f hb224 h
                   refine gp (i6 r210.2) rfl rfl (gp (.bool (r210.2 != 0)) rfl rfl (vr (.bool (r210.2 != 0)) (vr (.bool (r210.2 != 0)) ?_)))
                   cases hb225:(r210.2 != 0)
                   ·have h:=ite_f hb225 h
                    refine gp (i6 r207.1) rfl rfl (gp (i6 r210.1) rfl rfl (gp (.bool ((decide (r207.1 ≥ r210.1)))) rfl rfl (gp (.bool ((decide (r207.1 ≥ r210.1)))) rfl rfl ?_)))
                    cases hb226:(decide (r207.1 ≥ r210.1))
                    ·have h:=ite_f hb226 h
                     refine a_gskip rfl (a_gskip rfl (gp (.bool false) rfl rfl (vr (.bool false) (vr (.bool false) (gp (.bool r8.1) rfl rfl (gp (i6 r207.1) rfl rfl (gp (.bool ((decide (r207.1 < 0)))) rfl rfl (gp (.bool ((!(r8.1 == ((decide (r207.1 < 0))))))) rfl rfl (vr (.bool ((!(r8.1 == ((decide (r207.1 < 0))))))) ?_)))))))))
                     refine a_nil ?_
                     exact jl ((!(r8.1 == ((decide (r207.1 < 0)))))) h
                    ·have h:=ite_t hb226 h
                     refine gp (i6 r210.1) rfl rfl (gp (.bool ((decide (r210.1 > 0)))) rfl rfl (gp (.bool ((decide (r210.1 > 0)))) rfl rfl (vr (.bool ((decide (r210.1 > 0)))) (vr (.bool ((decide (r210.1 > 0)))) ?_))))
                     cases hb227:(decide (r210.1 > 0))
                     ·have h:=ite_f hb227 h
                      refine gp (.bool r8.1) rfl rfl (gp (i6 r207.1) rfl rfl (gp (.bool ((decide (r207.1 < 0)))) rfl rfl (gp (.bool ((!(r8.1 == ((decide (r207.1 < 0))))))) rfl rfl (vr (.bool ((!(r8.1 == ((decide (r207.1 < 0))))))) (a_nil ?_)))))
                      exact jl ((!(r8.1 == ((decide (r207.1 < 0)))))) h
                     ·have h:=ite_t hb227 h
                      refine a_gskip rfl (a_gskip rfl (a_gskip rfl (a_gskip rfl (vr (.bool true) (a_nil ?_)))))
                      exact jl true h
                   ·have h:=ite_t hb225 h
                    refine a_gskip rfl (a_gskip rfl (a_gskip rfl (a_gskip rfl (a_gskip0 rfl (a_gskip0 rfl (a_gskip rfl (vr (.bool true) (vr (.bool true) (a_gskip rfl ?_)))))))))
                    refine a_gskip rfl (a_gskip rfl (a_gskip rfl (vr (.bool true) (a_nil ?_))))
                    exact jl true h
                  ·have h:=ite_t hb224 h
                   refine a_gskip rfl (a_gskip rfl (vr (.bool true) (vr (.bool true) (a_gskip rfl (a_gskip rfl (a_gskip rfl (a_gskip rfl (a_gskip0 rfl (a_gskip0 rfl ?_)))))))))
                   refine a_gskip rfl (vr (.bool true) (vr (.bool true) (a_gskip rfl (a_gskip rfl (a_gskip rfl (a_gskip rfl (vr (.bool true) (a_nil ?_))))))))
                   exact jl true h
                 ·have h:=ite_t hb223 h
                  refine a_gskip rfl (a_gskip rfl (vr (.bool true) (vr (.bool true) (a_gskip rfl (a_gskip rfl (vr (.bool true) (vr (.bool true) (a_gskip rfl (a_gskip rfl ?_)))))))))
                  refine a_gskip rfl (a_gskip rfl (a_gskip0 rfl (a_gskip0 rfl (a_gskip rfl (vr (.bool true) (vr (.bool true) (a_gskip rfl (a_gskip rfl (a_gskip rfl ?_)))))))))
                  refine a_gskip rfl (vr (.bool true) (a_nil ?_))
                  exact jl true h
                ·have h:=ite_t hb222 h
                 refine a_gskip rfl (a_gskip rfl (vr (.bool true) (vr (.bool true) (a_gskip rfl (a_gskip rfl (vr (.bool true) (vr (.bool true) (a_gskip rfl (a_gskip rfl ?_)))))))))
                 refine vr (.bool true) (vr (.bool true) (a_gskip rfl (a_gskip rfl (a_gskip rfl (a_gskip rfl (a_gskip0 rfl (a_gskip0 rfl (a_gskip rfl (vr (.bool true) ?_)))))))))
                 refine vr (.bool true) (a_gskip rfl (a_gskip rfl (a_gskip rfl (a_gskip rfl (vr (.bool true) (a_nil ?_))))))
                 exact jl true h
            ·have h:=hy139
             refine sr (vr (i6 r43.2) (vr (.bool (r43.2 == 0)) (nk ⟨[(3,i6 r4.1),(4,ow 4),(5,.bool r8.1),(9,ow 9),(10,i6 r21.2),(13,i6 r39.1),(14,ow 14),(16,eSi64 r43.1),(20,i6 r59.1),(21,ow 21),(22,ow 22),(23,i6 r59.2.2.2),(24,ow 24),(25,ow 25),(26,i6 r65.2.2),(203,.bool (r43.2 == 0))],[(4,bk (eVb r4.2)),(9,bk (eVb r21.1)),(14,bk (eVb r39.2.1)),(21,bk (eVb r59.2.1)),(22,bk (eVb r59.2.2.1)),(24,bk (eVb r65.1)),(25,bk (eVb r65.2.1))]⟩ ?_)))
             cases hb141:(r43.2 == 0)
             ·have h:=ite_f hb141 h
              refine a_cond_f rfl (a_skip ?_)
              exact jl () h
             ·have h:=ite_t hb141 h
              refine a_cond_t rfl (sr (vr (i6 r39.1) (vl (eVb r39.2.1) rfl rfl rfl rfl rfl rfl ?_)))
              obtain ⟨r143,hr144,h⟩:=bind_some h
              refine ca (impl_IsSquarePoly_ok r39.1 r39.2.1 r143 hr144) (vr (.tuple [(.bool r143.1),(i6 r143.2)]) (vb (.bool r143.1) rfl rfl (vb (i6 r143.2) rfl rfl (vr (.bool r143.1) (vr (i6 r143.2) (nk ⟨[(3,i6 r4.1),(4,ow 4),(5,.bool r8.1),(9,ow 9),(10,i6 r21.2),(16,eSi64 r43.1),(20,i6 r59.1),(21,ow 21),(22,ow 22),(23,i6 r59.2.2.2),(24,ow 24),(25,ow 25),(26,i6 r65.2.2),(36,.bool r143.1),(37,i6 r143.2)],[(4,bk (eVb r4.2)),(9,bk (eVb r21.1)),(21,bk (eVb r59.2.1)),(22,bk (eVb r59.2.2.1)),(24,bk (eVb r65.1)),(25,bk (eVb r65.2.1))]⟩ ?_))))))
              obtain ⟨y150,hy151,hk152⟩:=bind_some h
              clear h
              refine a_join (emb:=fun (s:Bool)=>⟨[(3,i6 r4.1),(4,ow 4),(5,.bool r8.1),(9,ow 9),(10,i6 r21.2),(20,i6 r59.1),(21,ow 21),(22,ow 22),(23,i6 r59.2.2.2),(24,ow 24),(25,ow 25),(26,i6 r65.2.2),(219,.bool s)],[(4,bk (eVb r4.2)),(9,bk (eVb r21.1)),(21,bk (eVb r59.2.1)),(22,bk (eVb r59.2.2.1)),(24,bk (eVb r65.1)),(25,bk (eVb r65.2.1))]⟩) (pre:=fun s=>s=y150) ?_ ?_
              ·rintro x149 rfl
               have h:=hk152
               refine ns ⟨[(3,i6 r4.1),(4,ow 4),(5,.bool r8.1),(9,ow 9),(10,i6 r21.2),(20,i6 r59.1),(21,ow 21),(22,ow 22),(23,i6 r59.2.2.2),(24,ow 24),(25,ow 25),(26,i6 r65.2.2),(219,.bool x149)],[(4,bk (eVb r4.2)),(9,bk (eVb r21.1)),(21,bk (eVb r59.2.1)),(22,bk (eVb r59.2.2.1)),(24,bk (eVb r65.1)),(25,bk (eVb r65.2.1))]⟩ ?_
               cases hb157:x149
               ·have h:=ite_f hb157 h
                refine a_cond_f rfl (a_skip ?_)
                exact jl () h
               ·have h:=ite_t hb157 h
                refine a_cond_t rfl (sr (vr (.bool false) (nx _ rfl (a_ret (t_ret ?_)))))
                cases h
                have h:=hk140
                refine ⟨.inr rfl,?_⟩
                rw [Tryz.results3]
                cases h
                exact ⟨_,_,_,_,_,rfl,trivial,.inl ⟨rfl,.inl rfl⟩,rfl,rfl⟩
              ·have h:=hy151
               refine a_region (vr (i6 r143.2) (vr (.bool (r143.2 != 0)) (vr (.bool (r143.2 != 0)) ?_)))
               cases hb153:(r143.2 != 0)
               ·have h:=ite_f hb153 h
                refine gp (.bool r143.1) rfl rfl (gp (.bool r143.1) rfl rfl ?_)
                cases hb154:r143.1
                ·have h:=ite_f hb154 h
                 refine a_gskip rfl (a_gskip rfl (a_gskip rfl (gp (.bool false) rfl rfl (vr (.bool false) (a_nil ?_)))))
                 exact jl false h
                ·have h:=ite_t hb154 h
                 refine gp (eSi64 r43.1) rfl rfl ?_
                 obtain ⟨r155,hr156,h⟩:=bind_some h
                 refine a_gcall rfl (args:=[(eSi64 r43.1)]) (u:=[]) (r:=(i6 r155)) rfl rfl (laws_sum_ok r43.1 r155 hr156) rfl (gp (.bool (r155 != 0)) rfl rfl (gp (.bool (r155 != 0)) rfl rfl (vr (.bool (r155 != 0)) (a_nil ?_))))
                 exact jl (r155 != 0) h
               ·have h:=ite_t hb153 h
                refine a_gskip rfl (a_gskip rfl (a_gskip0 rfl (a_gskip0 rfl (a_gskip0 rfl (a_gskip rfl (vr (.bool true) (a_nil ?_)))))))
                exact jl true h
           ·have h:=ite_t hb120 h
            refine a_cond_t rfl (sr (vr (.bool false) (nx _ rfl (a_ret (t_ret ?_)))))
            refine ⟨.inr rfl,?_⟩
            rw [Tryz.results3]
            cases h
            exact ⟨_,_,_,_,_,rfl,trivial,.inl ⟨rfl,.inl rfl⟩,rfl,rfl⟩
          ·have h:=hy112
           refine a_region (vr (i6 r94.2.2) (vr (i6 r100.2.2) (vr (.bool (r94.2.2 != r100.2.2)) (vr (.bool (r94.2.2 != r100.2.2)) ?_))))
           cases hb114:(r94.2.2 != r100.2.2)
           ·have h:=ite_f hb114 h
            have hl115:LdOk [] (eVb r94.1) [] 64 true (eVb r94.1):=(.nil rfl rfl rfl)
            refine gq (eVb r94.1) rfl (ld_own (i:=⟨.arr 64 5,64,64,(eVb (vrep 64 (0:Int)))⟩) rfl rfl rfl hl115) hl115.c ?_
            have hl116:LdOk [] (eVb r100.1) [] 64 true (eVb r100.1):=(.nil rfl rfl rfl)
            refine gq (eVb r100.1) rfl (ld_own (i:=⟨.arr 64 5,64,64,(eVb (vrep 64 (0:Int)))⟩) rfl rfl rfl hl116) hl116.c (gq (.bool ((!decide (r94.1=r100.1)))) rfl (nea_run (f:=(AV.int .u8)) (a:=r94.1.1) (b:=r100.1.1) rfl rfl (eqb_vec (fun _ _=>eqb_int _ _) r94.1 r100.1)) (cmp_arr (g:=8) (f:=(AV.int .u8)) (x:=r94.1) (y:=r100.1) rfl rfl rfl (fun _ _=>rfl) (fun _ _=>cmp_int rfl)) (vr (.bool ((!decide (r94.1=r100.1)))) (vr (.bool ((!decide (r94.1=r100.1)))) ?_)))
            cases hb117:(!decide (r94.1=r100.1))
            ·have h:=ite_f hb117 h
             have hl118:LdOk [] (eVb r94.2.1) [] 64 true (eVb r94.2.1):=(.nil rfl rfl rfl)
             refine gq (eVb r94.2.1) rfl (ld_own (i:=⟨.arr 64 5,64,64,(eVb (vrep 64 (0:Int)))⟩) rfl rfl rfl hl118) hl118.c ?_
             have hl119:LdOk [] (eVb r100.2.1) [] 64 true (eVb r100.2.1):=(.nil rfl rfl rfl)
             refine gq (eVb r100.2.1) rfl (ld_own (i:=⟨.arr 64 5,64,64,(eVb (vrep 64 (0:Int)))⟩) rfl rfl rfl hl119) hl119.c (gq (.bool ((!decide (r94.2.1=r100.2.1)))) rfl (nea_run (f:=(AV.int .u8)) (a:=r94.2.1.1) (b:=r100.2.1.1) rfl rfl (eqb_vec (fun _ _=>eqb_int _ _) r94.2.1 r100.2.1)) (cmp_arr (g:=8) (f:=(AV.int .u8)) (x:=r94.2.1) (y:=r100.2.1) rfl rfl rfl (fun _ _=>rfl) (fun _ _=>cmp_int rfl)) (vr (.bool ((!decide (r94.2.1=r100.2.1)))) (a_nil ?_)))
             exact jl ((!decide (r94.2.1=r100.2.1))) h
            ·have h:=ite_t hb117 h
             refine a_gskip rfl (a_gskip rfl (a_gskip rfl (vr (.bool true) (a_nil ?_))))
             exact jl true h
           ·have h:=ite_t hb114 h
            refine a_gskip rfl (a_gskip rfl (a_gskip rfl (vr (.bool true) (vr (.bool true) (a_gskip rfl (a_gskip rfl (a_gskip rfl (vr (.bool true) (a_nil ?_)))))))))
            exact jl true h
         ·have h:=ite_t hb91 h
          refine a_cond_t rfl (sr (vr (.bool false) (nx _ rfl (a_ret (t_ret ?_)))))
          refine ⟨.inr rfl,?_⟩
          rw [Tryz.results3]
          cases h
          exact ⟨_,_,_,_,_,rfl,trivial,.inl ⟨rfl,.inl rfl⟩,rfl,rfl⟩
        ·have h:=hy83
         refine a_region (vr (i6 r65.2.2) (vr (i6 r71.2.2) (vr (.bool (r65.2.2 != r71.2.2)) (vr (.bool (r65.2.2 != r71.2.2)) ?_))))
         cases hb85:(r65.2.2 != r71.2.2)
         ·have h:=ite_f hb85 h
          have hl86:LdOk [] (eVb r65.1) [] 64 true (eVb r65.1):=(.nil rfl rfl rfl)
          refine gq (eVb r65.1) rfl (ld_own (i:=⟨.arr 64 5,64,64,(eVb (vrep 64 (0:Int)))⟩) rfl rfl rfl hl86) hl86.c ?_
          have hl87:LdOk [] (eVb r71.1) [] 64 true (eVb r71.1):=(.nil rfl rfl rfl)
          refine gq (eVb r71.1) rfl (ld_own (i:=⟨.arr 64 5,64,64,(eVb (vrep 64 (0:Int)))⟩) rfl rfl rfl hl87) hl87.c (gq (.bool ((!decide (r65.1=r71.1)))) rfl (nea_run (f:=(AV.int .u8)) (a:=r65.1.1) (b:=r71.1.1) rfl rfl (eqb_vec (fun _ _=>eqb_int _ _) r65.1 r71.1)) (cmp_arr (g:=8) (f:=(AV.int .u8)) (x:=r65.1) (y:=r71.1) rfl rfl rfl (fun _ _=>rfl) (fun _ _=>cmp_int rfl)) (vr (.bool ((!decide (r65.1=r71.1)))) (vr (.bool ((!decide (r65.1=r71.1)))) ?_)))
          cases hb88:(!decide (r65.1=r71.1))
          ·have h:=ite_f hb88 h
           have hl89:LdOk [] (eVb r65.2.1) [] 64 true (eVb r65.2.1):=(.nil rfl rfl rfl)
           refine gq (eVb r65.2.1) rfl (ld_own (i:=⟨.arr 64 5,64,64,(eVb (vrep 64 (0:Int)))⟩) rfl rfl rfl hl89) hl89.c ?_
           have hl90:LdOk [] (eVb r71.2.1) [] 64 true (eVb r71.2.1):=(.nil rfl rfl rfl)
           refine gq (eVb r71.2.1) rfl (ld_own (i:=⟨.arr 64 5,64,64,(eVb (vrep 64 (0:Int)))⟩) rfl rfl rfl hl90) hl90.c (gq (.bool ((!decide (r65.2.1=r71.2.1)))) rfl (nea_run (f:=(AV.int .u8)) (a:=r65.2.1.1) (b:=r71.2.1.1) rfl rfl (eqb_vec (fun _ _=>eqb_int _ _) r65.2.1 r71.2.1)) (cmp_arr (g:=8) (f:=(AV.int .u8)) (x:=r65.2.1) (y:=r71.2.1) rfl rfl rfl (fun _ _=>rfl) (fun _ _=>cmp_int rfl)) (vr (.bool ((!decide (r65.2.1=r71.2.1)))) (a_nil ?_)))
           exact jl ((!decide (r65.2.1=r71.2.1))) h
          ·have h:=ite_t hb88 h
           refine a_gskip rfl (a_gskip rfl (a_gskip rfl (vr (.bool true) (a_nil ?_))))
           exact jl true h
         ·have h:=ite_t hb85 h
          refine a_gskip rfl (a_gskip rfl (a_gskip rfl (vr (.bool true) (vr (.bool true) (a_gskip rfl (a_gskip rfl (a_gskip rfl (vr (.bool true) (a_nil ?_)))))))))
          exact jl true h
       ·have h:=ite_t hb58 h
        refine a_cond_t rfl (sr (vr (.bool false) (nx _ rfl (a_ret (t_ret ?_)))))
        refine ⟨.inr rfl,?_⟩
        rw [Tryz.results3]
        cases h
        exact ⟨_,_,_,_,_,rfl,trivial,.inl ⟨rfl,.inl rfl⟩,rfl,rfl⟩
      ·have h:=hy53
       refine a_region (vr (i6 r43.2) (vr (i6 r46.2) (vr (.bool (r43.2 != r46.2)) (vr (.bool (r43.2 != r46.2)) ?_))))
       cases hb55:(r43.2 != r46.2)
       ·have h:=ite_f hb55 h
        refine gp (eSi64 r43.1) rfl rfl (gp (eSi64 r46.1) rfl rfl ?_)
        obtain ⟨r56,hr57,h⟩:=bind_some h
        refine a_gcall rfl (args:=[(eSi64 r43.1),(eSi64 r46.1)]) (u:=[]) (r:=(.bool r56)) rfl rfl (laws_likeInts_ok r43.1 r46.1 r56 hr57) rfl (gp (.bool (!r56)) rfl rfl (vr (.bool (!r56)) (a_nil ?_)))
        exact jl (!r56) h
       ·have h:=ite_t hb55 h
        refine a_gskip rfl (a_gskip rfl (a_gskip rfl (a_gskip rfl (vr (.bool true) (a_nil ?_)))))
        exact jl true h
     ·have h:=ite_t hb38 h
      refine a_cond_t rfl (sr (vr (.bool false) (nx _ rfl (a_ret (t_ret ?_)))))
      refine ⟨.inr rfl,?_⟩
      rw [Tryz.results3]
      cases h
      exact ⟨_,_,_,_,_,rfl,trivial,.inl ⟨rfl,.inl rfl⟩,rfl,rfl⟩
    ·have h:=hy33
     refine a_region (vr (i6 r21.2) (vr (i6 r25.2) (vr (.bool (r21.2 != r25.2)) (vr (.bool (r21.2 != r25.2)) ?_))))
     cases hb35:(r21.2 != r25.2)
     ·have h:=ite_f hb35 h
      have hl36:LdOk [] (eVb r21.1) [] 64 true (eVb r21.1):=(.nil rfl rfl rfl)
      refine gq (eVb r21.1) rfl (ld_own (i:=⟨.arr 64 5,64,64,(eVb (vrep 64 (0:Int)))⟩) rfl rfl rfl hl36) hl36.c ?_
      have hl37:LdOk [] (eVb r25.1) [] 64 true (eVb r25.1):=(.nil rfl rfl rfl)
      refine gq (eVb r25.1) rfl (ld_own (i:=⟨.arr 64 5,64,64,(eVb (vrep 64 (0:Int)))⟩) rfl rfl rfl hl37) hl37.c (gq (.bool ((!decide (r21.1=r25.1)))) rfl (nea_run (f:=(AV.int .u8)) (a:=r21.1.1) (b:=r25.1.1) rfl rfl (eqb_vec (fun _ _=>eqb_int _ _) r21.1 r25.1)) (cmp_arr (g:=8) (f:=(AV.int .u8)) (x:=r21.1) (y:=r25.1) rfl rfl rfl (fun _ _=>rfl) (fun _ _=>cmp_int rfl)) (vr (.bool ((!decide (r21.1=r25.1)))) (a_nil ?_)))
      exact jl ((!decide (r21.1=r25.1))) h
     ·have h:=ite_t hb35 h
      refine a_gskip rfl (a_gskip rfl (a_gskip rfl (vr (.bool true) (a_nil ?_))))
      exact jl true h
   ·have h:=ite_t hb19 h
    refine a_cond_t rfl (sr (vr (.bool false) (nx _ rfl (a_ret (t_ret ?_)))))
    refine ⟨.inr rfl,?_⟩
    rw [Tryz.results3]
    cases h
    exact ⟨_,_,_,_,_,rfl,trivial,.inl ⟨rfl,.inl rfl⟩,rfl,rfl⟩
  ·have h:=hy16
   refine a_region (vr (i6 r8.2) (vr (i6 r11.2) (vr (.bool (r8.2 != r11.2)) (vr (.bool (r8.2 != r11.2)) ?_))))
   cases hb18:(r8.2 != r11.2)
   ·have h:=ite_f hb18 h
    refine gp (.bool r8.1) rfl rfl (gp (.bool r11.1) rfl rfl (gp (.bool ((!(r8.1 == r11.1)))) rfl rfl (vr (.bool ((!(r8.1 == r11.1)))) (a_nil ?_))))
    exact jl ((!(r8.1 == r11.1))) h
   ·have h:=ite_t hb18 h
    refine a_gskip rfl (a_gskip rfl (a_gskip rfl (vr (.bool true) (a_nil ?_))))
    exact jl true h
 ·have h:=ite_t hb3 h
  refine a_cond_t rfl (sr (vr (.bool true) (nx _ rfl (a_ret (t_ret ?_)))))
  refine ⟨.inr rfl,?_⟩
  rw [Tryz.results3]
  cases h
  exact ⟨_,_,_,_,_,rfl,trivial,.inl ⟨rfl,.inl rfl⟩,rfl,rfl⟩
end Go.Proofs.YtkbnegemdlnncaaGreat
