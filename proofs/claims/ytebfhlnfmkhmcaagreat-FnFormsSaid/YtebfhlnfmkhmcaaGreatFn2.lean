/- Functions of the program: plain Lean functions, and that the program computes them. Printed by gen.py. -/
import Derived.Test.YtebfhlnfmkhmcaaGreatFnT
import Derived.Test.YtebfhlnfmkhmcaaGreatFn1
namespace Go.Proofs.YtebfhlnfmkhmcaaGreat
open Go.Abs Go.Proofs
set_option linter.unusedSimpArgs false
set_option linter.unusedVariables false
set_option maxHeartbeats 16000000
attribute [local irreducible] Abs.acode Abs.aops Abs.aopsT Abs.thenK Abs.blockK

def zo2:Live:=[(0,[0,1,2]),(1,[0,4,5,6]),(2,[0,4,5,6,8,9,10]),(3,[6,10]),(4,[0,4,5,6,8,9,10]),(5,[6,10]),(6,[0,4,5,6,8,9,10]),(7,[0,4,5,6,8,9,10,11]),(8,[0,4,5,6,8,9,10,11]),(9,[0,4,5,6,8,9,10,11]),(10,[0,4,5,6,8,9,10,11,12]),(11,[0,4,5,6,8,9,10,11,12]),(12,[0,4,5,6,8,9,10,11,12]),(13,[6,10]),(100023,[0,4,5,6,8,9,10,23]),(100028,[0,4,5,6,8,9,10,28]),(100032,[0,4,5,6,8,9,10,11,32]),(100043,[0,4,5,6,8,9,10,11,12,43])]
noncomputable def kM (r12:Int) (x1081:Int) (a1:(Vec Int 64)) (a2:(Vec Int 64)) (a0:Int) (x1524:Int) (x1525:(Vec Int 64)):Option ((Int×(Vec Int 64))⊕(Vec Int 64)) :=
 (Option.bind (α:=Bool) ((if (decide (x1524≤r12)) then (jA (0≤x1081∧x1081 < ((64:Nat):Int)) ((some (((rd a1.1 x1081.toNat) != 0))))) else (some false))) fun x1573=>(if x1573 then (jA (0≤IntKind.i64.wrap (x1081 + x1524)∧IntKind.i64.wrap (x1081 + x1524) < ((64:Nat):Int)) ((kR (IntKind.i64.wrap ((rd x1525.1 (IntKind.i64.wrap (x1081 + x1524)).toNat))) fun x1598=>(jA (0≤x1081∧x1081 < ((64:Nat):Int)) ((jA (0≤x1524∧x1524 < ((64:Nat):Int)) ((kR (IntKind.i64.wrap ((IntKind.i64.wrap (rd a1.1 x1081.toNat))*(IntKind.i64.wrap (rd a2.1 x1524.toNat)))) fun x1604=>(jA (a0 ≠ 0) ((kR (IntKind.u8.wrap (Int.tmod (IntKind.i64.wrap (x1598 + x1604)) a0)) fun x1607=>(jA (0≤IntKind.i64.wrap (x1081 + x1524)∧IntKind.i64.wrap (x1081 + x1524) < ((64:Nat):Int)) ((some (.inl ((IntKind.i64.wrap (x1524 + 1),(yO x1525 (IntKind.i64.wrap (x1081 + x1524)).toNat x1607)))))))))))))))))) else (some (.inr x1525))))
noncomputable def jG (r9:Int) (r12:Int) (a1:(Vec Int 64)) (a2:(Vec Int 64)) (a0:Int) (x1081:Int) (x1082:(Vec Int 64)):Option ((Int×(Vec Int 64))⊕(Vec Int 64)) :=
 (if (decide (x1081≤r9)) then (Option.bind (α:=(Vec Int 64)) ((yK (fun s:(Int×(Vec Int 64))=>kM r12 x1081 a1 a2 a0 s.1 s.2) (0,x1082))) fun x1479=>(some (.inl ((IntKind.i64.wrap (x1081 + 1),x1479))))) else (some (.inr x1082)))
noncomputable def xO (a0:Int) (a1:(Vec Int 64)) (a2:(Vec Int 64)):Option ((Vec Int 64)×Bool) :=
 (Option.bind (yW a1) fun r9=>(Option.bind (yW a2) fun r12=>(Option.bind (α:=Bool) ((if (decide (r9 < 0)) then (some true) else (some ((decide (r12 < 0)))))) fun x16=>(if x16 then (some (((yH 64 (0:Int)),true))) else (if (decide ((IntKind.i64.wrap (r9 + r12)) > 63)) then (some (((yH 64 (0:Int)),false))) else (Option.bind (α:=(Vec Int 64)) ((yK (fun s:(Int×(Vec Int 64))=>jG r9 r12 a1 a2 a0 s.1 s.2) (0,yH 64 (0:Int)))) fun x814=>(some (x814,true))))))))
theorem wX (a0:Int) (a1:(Vec Int 64)) (a2:(Vec Int 64)) (r:((Vec Int 64)×Bool)) (h:xO a0 a1 a2=some r):Den Tryz.prog 66 [(i6 a0),(zJ a1),(zJ a2)] { r:=(.tuple [(zJ r.1),(.bool r.2)]) }:=by
 refine dd (rs:=[(zJ r.1),(.bool r.2)]) (L:=zo2) xL [] Tryz.func66 Tryz.ntmps66 ?_
 refine ns ⟨[(0,i6 a0),(1,zJ a1),(2,zJ a2)],[]⟩ ?_
 refine sr (vo 1400 (zJ a1) rfl rfl (vo 1500 (zJ a2) rfl rfl (vo 1600 (yF) rfl rfl (vr (.bool false) (nk ⟨[(0,i6 a0),(4,ow 4),(5,ow 5),(6,ow 6)],[(4,bk (zJ a1)),(5,bk (zJ a2)),(6,bk (yF))]⟩ (yC (xH [⟨[4],[],[],[]⟩,⟨[],[],[],[0]⟩,⟨[5],[],[],[]⟩,⟨[],[],[],[0,1,2]⟩,⟨[],[],[],[]⟩,⟨[2000],[2000],[2000],[]⟩,⟨[],[],[],[0,1,2,3,5]⟩,⟨[],[],[],[0,1,2,3,5,6]⟩,⟨[2000],[2000],[],[0,1,2,3,4,5,6,7]⟩] (by kernel_rfl) (zH (vl (zJ a1) rfl rfl rfl rfl rfl rfl ?_)))))))))
 refine dn (zH ?_)
 obtain ⟨r9,hr10,h⟩:=bind_some h
 refine ca (yZ a1 r9 hr10) (dn (zH (vl (zJ a2) rfl rfl rfl rfl rfl rfl (dn (zH ?_)))))
 obtain ⟨r12,hr13,h⟩:=bind_some h
 refine ca (yZ a2 r12 hr13) (dn (zH (vq (yF) rfl ⟨⟨_,rfl,rfl⟩,all_nil⟩ (dn (zH (vo 2000 (yF) rfl rfl (dn (dj (i6 r9) rfl (dj (i6 r12) rfl ?_)))))))))
 refine zH (vs (yF) rfl rfl (fun _=>rfl) rfl rfl rfl rfl rfl rfl (dn (xE (nj ⟨[(0,i6 a0),(4,ow 4),(5,ow 5),(6,ow 6),(8,i6 r9),(9,i6 r12),(10,ow 10)],[(4,bk (zJ a1)),(5,bk (zJ a2)),(6,bk (yF)),(10,bk (yF))]⟩ (yC ?_)))))
 obtain ⟨y17,hy18,hk19⟩:=bind_some h
 clear h
 refine yN (emb:=fun (s:Bool)=>⟨[(0,i6 a0),(4,ow 4),(5,ow 5),(6,ow 6),(8,i6 r9),(9,i6 r12),(10,ow 10),(23,.bool s)],[(4,bk (zJ a1)),(5,bk (zJ a2)),(6,bk (yF)),(10,bk (yF))]⟩) (kG:=fun s=>s=y17) ?_ ?_
 ·rintro x16 rfl
  have h:=hk19
  refine ns ⟨[(0,i6 a0),(4,ow 4),(5,ow 5),(6,ow 6),(8,i6 r9),(9,i6 r12),(10,ow 10),(23,.bool x16)],[(4,bk (zJ a1)),(5,bk (zJ a2)),(6,bk (yF)),(10,bk (yF))]⟩ ?_
  cases hb21:x16
  ·have h:=zW hb21 h
   refine zP rfl (yG (nj ⟨[(0,i6 a0),(4,ow 4),(5,ow 5),(6,ow 6),(8,i6 r9),(9,i6 r12),(10,ow 10)],[(4,bk (zJ a1)),(5,bk (zJ a2)),(6,bk (yF)),(10,bk (yF))]⟩ (yC (sr (vr (i6 r9) (vr (i6 r12) (vr (i6 (IntKind.i64.wrap (r9 + r12))) (vr (.bool ((decide ((IntKind.i64.wrap (r9 + r12)) > 63)))) (nk ⟨[(0,i6 a0),(4,ow 4),(5,ow 5),(6,ow 6),(8,i6 r9),(9,i6 r12),(10,ow 10),(28,.bool ((decide ((IntKind.i64.wrap (r9 + r12)) > 63))))],[(4,bk (zJ a1)),(5,bk (zJ a2)),(6,bk (yF)),(10,bk (yF))]⟩ ?_)))))))))
   cases hb22:(decide ((IntKind.i64.wrap (r9 + r12)) > 63))
   ·have h:=zW hb22 h
    refine zP rfl (yG (nj ⟨[(0,i6 a0),(4,ow 4),(5,ow 5),(6,ow 6),(8,i6 r9),(9,i6 r12),(10,ow 10)],[(4,bk (zJ a1)),(5,bk (zJ a2)),(6,bk (yF)),(10,bk (yF))]⟩ ?_))
    obtain ⟨y815,hy816,hk817⟩:=bind_some h
    clear h
    refine yN (emb:=fun (s:(Vec Int 64))=>⟨[(6,ow 6),(10,ow 10)],[(6,bk (yF)),(10,bk (zJ s))]⟩) (kG:=fun s=>s=y815) ?_ ?_
    ·rintro x814 rfl
     have h:=hk817
     refine ns ⟨[(6,ow 6),(10,ow 10)],[(6,bk (yF)),(10,bk (zJ x814))]⟩ (sr (vl (zJ x814) rfl rfl rfl rfl rfl rfl (vs (zJ x814) rfl rfl (fun _=>rfl) rfl rfl rfl rfl rfl rfl (vr (.bool true) (nx _ rfl (zU ?_))))))
     have hl1615:LdOk [] (zJ x814) [] 64 true (zJ x814):=(.nil rfl rfl rfl)
     refine ⟨.inr rfl,?_⟩
     rw [Tryz.results66]
     cases h
     exact ⟨_,_,_,_,_,zM (i:=⟨.arr 64 5,64,64,(zJ (yH 64 (0:Int)))⟩) rfl rfl rfl hl1615,hl1615.c,.inl ⟨rfl,.inl rfl⟩,rfl,⟨_,_,_,_,_,rfl,trivial,.inl ⟨rfl,.inl rfl⟩,rfl,rfl⟩⟩
    ·have h:=hy816
     refine sr (vr (i6 0) (nk ⟨[(0,i6 a0),(4,ow 4),(5,ow 5),(6,ow 6),(8,i6 r9),(9,i6 r12),(10,ow 10),(11,i6 0)],[(4,bk (zJ a1)),(5,bk (zJ a2)),(6,bk (yF)),(10,bk (yF))]⟩ (yB ?_)))
     refine xU (emb:=fun (s:(Int×(Vec Int 64)))=>⟨[(0,i6 a0),(4,ow 4),(5,ow 5),(6,ow 6),(8,i6 r9),(9,i6 r12),(10,ow 10),(11,i6 s.1)],[(4,bk (zJ a1)),(5,bk (zJ a2)),(6,bk (yF)),(10,bk (zJ s.2))]⟩) (body:=(fun s:(Int×(Vec Int 64))=>jG r9 r12 a1 a2 a0 s.1 s.2)) (G:=fun q=>some q=some y815) h rfl ?_ (by kernel_rfl)
     rintro X1346 ⟨x1081,x1082⟩ x1347 h hX1348
     have h:jG r9 r12 a1 a2 a0 x1081 x1082=some x1347:=h
     refine ns ⟨[(0,i6 a0),(4,ow 4),(5,ow 5),(6,ow 6),(8,i6 r9),(9,i6 r12),(10,ow 10),(11,i6 x1081)],[(4,bk (zJ a1)),(5,bk (zJ a2)),(6,bk (yF)),(10,bk (zJ x1082))]⟩ (yC (sr (vr (i6 x1081) (vr (i6 r9) (vr (.bool ((decide (x1081≤r9)))) (nk ⟨[(0,i6 a0),(4,ow 4),(5,ow 5),(6,ow 6),(8,i6 r9),(9,i6 r12),(10,ow 10),(11,i6 x1081),(32,.bool ((decide (x1081≤r9))))],[(4,bk (zJ a1)),(5,bk (zJ a2)),(6,bk (yF)),(10,bk (zJ x1082))]⟩ ?_))))))
     cases hb1349:(decide (x1081≤r9))
     ·have h:=zW hb1349 h
      refine zP rfl (xR (yI ?_))
      cases h
      have h:=hX1348
      refine yI (xQ ?_)
      exact jl x1082 h
     ·have h:=zV hb1349 h
      refine zO rfl (yG (nj ⟨[(0,i6 a0),(4,ow 4),(5,ow 5),(6,ow 6),(8,i6 r9),(9,i6 r12),(10,ow 10),(11,i6 x1081)],[(4,bk (zJ a1)),(5,bk (zJ a2)),(6,bk (yF)),(10,bk (zJ x1082))]⟩ ?_))
      obtain ⟨y1480,hy1481,hk1482⟩:=bind_some h
      clear h
      refine yN (emb:=fun (s:(Vec Int 64))=>⟨[(0,i6 a0),(4,ow 4),(5,ow 5),(6,ow 6),(8,i6 r9),(9,i6 r12),(10,ow 10),(11,i6 x1081)],[(4,bk (zJ a1)),(5,bk (zJ a2)),(6,bk (yF)),(10,bk (zJ s))]⟩) (kG:=fun s=>s=y1480) ?_ ?_
      ·rintro x1479 rfl
       have h:=hk1482
       refine ns ⟨[(0,i6 a0),(4,ow 4),(5,ow 5),(6,ow 6),(8,i6 r9),(9,i6 r12),(10,ow 10),(11,i6 x1081)],[(4,bk (zJ a1)),(5,bk (zJ a2)),(6,bk (yF)),(10,bk (zJ x1479))]⟩ (zR (vr (i6 x1081) (vr (i6 (IntKind.i64.wrap (x1081 + 1))) (vr (i6 (IntKind.i64.wrap (x1081 + 1))) (yJ ?_)))))
       cases h
       exact ag hX1348
      ·have h:=hy1481
       refine yB (sr (vr (i6 0) (nk ⟨[(0,i6 a0),(4,ow 4),(5,ow 5),(6,ow 6),(8,i6 r9),(9,i6 r12),(10,ow 10),(11,i6 x1081),(12,i6 0)],[(4,bk (zJ a1)),(5,bk (zJ a2)),(6,bk (yF)),(10,bk (zJ x1082))]⟩ (yB ?_))))
       refine xU (emb:=fun (s:(Int×(Vec Int 64)))=>⟨[(0,i6 a0),(4,ow 4),(5,ow 5),(6,ow 6),(8,i6 r9),(9,i6 r12),(10,ow 10),(11,i6 x1081),(12,i6 s.1)],[(4,bk (zJ a1)),(5,bk (zJ a2)),(6,bk (yF)),(10,bk (zJ s.2))]⟩) (body:=(fun s:(Int×(Vec Int 64))=>kM r12 x1081 a1 a2 a0 s.1 s.2)) (G:=fun q=>some q=some y1480) h rfl ?_ (by kernel_rfl)
       rintro X1567 ⟨x1524,x1525⟩ x1568 h hX1569
       have h:kM r12 x1081 a1 a2 a0 x1524 x1525=some x1568:=h
       refine ns ⟨[(0,i6 a0),(4,ow 4),(5,ow 5),(6,ow 6),(8,i6 r9),(9,i6 r12),(10,ow 10),(11,i6 x1081),(12,i6 x1524)],[(4,bk (zJ a1)),(5,bk (zJ a2)),(6,bk (yF)),(10,bk (zJ x1525))]⟩ (yC ?_)
       obtain ⟨y1574,hy1575,hk1576⟩:=bind_some h
       clear h
       refine yN (emb:=fun (s:Bool)=>⟨[(0,i6 a0),(4,ow 4),(5,ow 5),(6,ow 6),(8,i6 r9),(9,i6 r12),(10,ow 10),(11,i6 x1081),(12,i6 x1524),(43,.bool s)],[(4,bk (zJ a1)),(5,bk (zJ a2)),(6,bk (yF)),(10,bk (zJ x1525))]⟩) (kG:=fun s=>s=y1574) ?_ ?_
       ·rintro x1573 rfl
        have h:=hk1576
        refine ns ⟨[(0,i6 a0),(4,ow 4),(5,ow 5),(6,ow 6),(8,i6 r9),(9,i6 r12),(10,ow 10),(11,i6 x1081),(12,i6 x1524),(43,.bool x1573)],[(4,bk (zJ a1)),(5,bk (zJ a2)),(6,bk (yF)),(10,bk (zJ x1525))]⟩ ?_
        cases hb1580:x1573
        ·have h:=zW hb1580 h
         refine zP rfl (xR (yI ?_))
         cases h
         have h:=hX1569
         refine yI (xQ (xI ?_))
         exact jl x1525 h
        ·have h:=zV hb1580 h
         refine zO rfl (yG (nj ⟨[(0,i6 a0),(4,ow 4),(5,ow 5),(6,ow 6),(8,i6 r9),(9,i6 r12),(10,ow 10),(11,i6 x1081),(12,i6 x1524)],[(4,bk (zJ a1)),(5,bk (zJ a2)),(6,bk (yF)),(10,bk (zJ x1525))]⟩ (yC (yB (xH [⟨[],[],[],[]⟩,⟨[],[],[],[]⟩,⟨[],[],[],[0,1]⟩,⟨[],[],[],[]⟩,⟨[],[],[],[]⟩,⟨[],[],[],[3,4]⟩,⟨[10],[],[10],[3,4,5]⟩,⟨[10],[],[],[3,4,5,6]⟩,⟨[],[],[],[3,4,5,6,7]⟩,⟨[],[],[],[]⟩,⟨[4],[],[4],[9]⟩,⟨[4],[],[],[9,10]⟩,⟨[],[],[],[9,10,11]⟩,⟨[],[],[],[]⟩,⟨[5],[],[5],[13]⟩,⟨[5],[],[],[13,14]⟩,⟨[],[],[],[13,14,15]⟩,⟨[],[],[],[9,10,11,12,13,14,15,16]⟩,⟨[],[],[],[3,4,5,6,7,8,9,10,11,12,13,14,15,16,17]⟩,⟨[],[],[],[]⟩,⟨[],[],[],[3,4,5,6,7,8,9,10,11,12,13,14,15,16,17,18,19]⟩,⟨[],[],[],[3,4,5,6,7,8,9,10,11,12,13,14,15,16,17,18,19,20]⟩,⟨[10],[],[10],[0,1,2,3,4,5,6,7,8,9,10,11,12,13,14,15,16,17,18,19,20,21]⟩,⟨[10],[10],[],[0,1,2,3,4,5,6,7,8,9,10,11,12,13,14,15,16,17,18,19,20,21,22]⟩] (by kernel_rfl) (dj (i6 x1081) rfl (dj (i6 x1524) rfl (dj (i6 (IntKind.i64.wrap (x1081 + x1524))) rfl (dj (i6 x1081) rfl ?_)))))))))
         refine dj (i6 x1524) rfl (dj (i6 (IntKind.i64.wrap (x1081 + x1524))) rfl (zH ?_))
         obtain ⟨hc1596,h⟩:=zT h
         refine vq (.own 10 [(IntKind.i64.wrap (x1081 + x1524)).toNat] [(IntKind.i64.wrap (x1081 + x1524)).toNat*1]) rfl hc1596 (dn (zH ?_))
         have hl1597:LdOk [(IntKind.i64.wrap (x1081 + x1524)).toNat] (zJ x1525) [(IntKind.i64.wrap (x1081 + x1524)).toNat*1] 1 false (b8 ((rd x1525.1 (IntKind.i64.wrap (x1081 + x1524)).toNat))):=(.arr (vlt x1525 hc1596) rfl (.nil rfl rfl rfl))
         refine vq (b8 ((rd x1525.1 (IntKind.i64.wrap (x1081 + x1524)).toNat))) (zM (i:=⟨.int .u8,1,1,(.int .u8 0)⟩) rfl rfl rfl hl1597) hl1597.c (dn (zH ?_))
         obtain ⟨x1598,hx1599,h⟩:=xP h
         refine qI (v:=(i6 (IntKind.i64.wrap ((rd x1525.1 (IntKind.i64.wrap (x1081 + x1524)).toNat))))) (v':=(i6 x1598)) (u:=[]) (u':=[]) rfl (congrArg (fun z=>((i6 z):AV)) hx1599) rfl trivial rfl (dn (dj (i6 x1081) rfl (zH ?_)))
         obtain ⟨hc1600,h⟩:=zT h
         refine vq (.own 4 [x1081.toNat] [x1081.toNat*1]) rfl hc1600 (dn (zH ?_))
         have hl1601:LdOk [x1081.toNat] (zJ a1) [x1081.toNat*1] 1 false (b8 (rd a1.1 x1081.toNat)):=(.arr (vlt a1 hc1600) rfl (.nil rfl rfl rfl))
         refine vq (b8 (rd a1.1 x1081.toNat)) (zM (i:=⟨.int .u8,1,1,(.int .u8 0)⟩) rfl rfl rfl hl1601) hl1601.c (dn (dj (i6 (IntKind.i64.wrap (rd a1.1 x1081.toNat))) rfl (dj (i6 x1524) rfl (zH ?_))))
         obtain ⟨hc1602,h⟩:=zT h
         refine vq (.own 5 [x1524.toNat] [x1524.toNat*1]) rfl hc1602 (dn (zH ?_))
         have hl1603:LdOk [x1524.toNat] (zJ a2) [x1524.toNat*1] 1 false (b8 (rd a2.1 x1524.toNat)):=(.arr (vlt a2 hc1602) rfl (.nil rfl rfl rfl))
         refine vq (b8 (rd a2.1 x1524.toNat)) (zM (i:=⟨.int .u8,1,1,(.int .u8 0)⟩) rfl rfl rfl hl1603) hl1603.c (dn (dj (i6 (IntKind.i64.wrap (rd a2.1 x1524.toNat))) rfl (zH ?_)))
         obtain ⟨x1604,hx1605,h⟩:=xP h
         refine qI (v:=(i6 (IntKind.i64.wrap ((IntKind.i64.wrap (rd a1.1 x1081.toNat))*(IntKind.i64.wrap (rd a2.1 x1524.toNat)))))) (v':=(i6 x1604)) (u:=[]) (u':=[]) rfl (congrArg (fun z=>((i6 z):AV)) hx1605) rfl trivial rfl (dn (dj (i6 (IntKind.i64.wrap (x1598 + x1604))) rfl (dj (i6 a0) rfl (zH ?_))))
         obtain ⟨hc1606,h⟩:=zT h
         refine vq (i6 (Int.tmod (IntKind.i64.wrap (x1598 + x1604)) a0)) rfl hc1606 (dn (zH ?_))
         obtain ⟨x1607,hx1608,h⟩:=xP h
         refine qI (v:=(b8 (IntKind.u8.wrap (Int.tmod (IntKind.i64.wrap (x1598 + x1604)) a0)))) (v':=(b8 x1607)) (u:=[]) (u':=[]) rfl (congrArg (fun z=>((b8 z):AV)) hx1608) rfl trivial rfl (dn (zH ?_))
         obtain ⟨hc1609,h⟩:=zT h
         refine vq (.own 10 [(IntKind.i64.wrap (x1081 + x1524)).toNat] [(IntKind.i64.wrap (x1081 + x1524)).toNat*1]) rfl hc1609 (dn (zH ?_))
         have hs1610:StOk [(IntKind.i64.wrap (x1081 + x1524)).toNat] (zJ x1525) [(IntKind.i64.wrap (x1081 + x1524)).toNat*1] 1 (b8 x1607) (zJ ((yO x1525 (IntKind.i64.wrap (x1081 + x1524)).toNat x1607))):=(.arr (y:=x1607) (vlt x1525 hc1609) rfl (.nil rfl rfl rfl rfl))
         refine vu .top [(10,bk (zJ ((yO x1525 (IntKind.i64.wrap (x1081 + x1524)).toNat x1607))))] (qG (i:=⟨.int .u8,1,1,(.int .u8 0)⟩) rfl rfl (fun _=>rfl) rfl hs1610) (hs1610.c rfl) rfl (dn (xE (xI (nj ⟨[(0,i6 a0),(4,ow 4),(5,ow 5),(6,ow 6),(8,i6 r9),(9,i6 r12),(10,ow 10),(11,i6 x1081),(12,i6 x1524)],[(4,bk (zJ a1)),(5,bk (zJ a2)),(6,bk (yF)),(10,bk (zJ ((yO x1525 (IntKind.i64.wrap (x1081 + x1524)).toNat x1607))))]⟩ (zR (vr (i6 x1524) (vr (i6 (IntKind.i64.wrap (x1524 + 1))) (vr (i6 (IntKind.i64.wrap (x1524 + 1))) (yJ ?_)))))))))
         cases h
         exact ag hX1569
       ·have h:=hy1575
        refine zR (vr (i6 x1524) (vr (i6 r12) (vr (.bool ((decide (x1524≤r12)))) (vr (.bool ((decide (x1524≤r12)))) ?_))))
        cases hb1577:(decide (x1524≤r12))
        ·have h:=zW hb1577 h
         refine zD rfl (zD rfl (zD rfl (zD rfl (vr (.bool false) (yJ ?_)))))
         exact jl false h
        ·have h:=zV hb1577 h
         refine gp (i6 x1081) rfl rfl ?_
         obtain ⟨hc1578,h⟩:=zT h
         refine gq (.own 4 [x1081.toNat] [x1081.toNat*1]) rfl rfl hc1578 ?_
         have hl1579:LdOk [x1081.toNat] (zJ a1) [x1081.toNat*1] 1 false (b8 (rd a1.1 x1081.toNat)):=(.arr (vlt a1 hc1578) rfl (.nil rfl rfl rfl))
         refine gq (b8 (rd a1.1 x1081.toNat)) rfl (zM (i:=⟨.int .u8,1,1,(.int .u8 0)⟩) rfl rfl rfl hl1579) hl1579.c (gp (.bool (((rd a1.1 x1081.toNat) != 0))) rfl rfl (vr (.bool (((rd a1.1 x1081.toNat) != 0))) (yJ ?_)))
         exact jl (((rd a1.1 x1081.toNat) != 0)) h
   ·have h:=zV hb22 h
    refine zO rfl (sr (vl (yF) rfl rfl rfl rfl rfl rfl (vs (yF) rfl rfl (fun _=>rfl) rfl rfl rfl rfl rfl rfl (vr (.bool false) (nx _ rfl (zU (xV ?_)))))))
    have hl1618:LdOk [] (yF) [] 64 true (yF):=(.nil rfl rfl rfl)
    refine ⟨.inr rfl,?_⟩
    rw [Tryz.results66]
    cases h
    exact ⟨_,_,_,_,_,zM (i:=⟨.arr 64 5,64,64,(zJ (yH 64 (0:Int)))⟩) rfl rfl rfl hl1618,hl1618.c,.inl ⟨rfl,.inl rfl⟩,rfl,⟨_,_,_,_,_,rfl,trivial,.inl ⟨rfl,.inl rfl⟩,rfl,rfl⟩⟩
  ·have h:=zV hb21 h
   refine zO rfl (sr (vl (yF) rfl rfl rfl rfl rfl rfl (vs (yF) rfl rfl (fun _=>rfl) rfl rfl rfl rfl rfl rfl (vr (.bool true) (nx _ rfl (zU (xV ?_)))))))
   have hl1621:LdOk [] (yF) [] 64 true (yF):=(.nil rfl rfl rfl)
   refine ⟨.inr rfl,?_⟩
   rw [Tryz.results66]
   cases h
   exact ⟨_,_,_,_,_,zM (i:=⟨.arr 64 5,64,64,(zJ (yH 64 (0:Int)))⟩) rfl rfl rfl hl1621,hl1621.c,.inl ⟨rfl,.inl rfl⟩,rfl,⟨_,_,_,_,_,rfl,trivial,.inl ⟨rfl,.inl rfl⟩,rfl,rfl⟩⟩
 ·have h:=hy18
  refine zR (vr (i6 r9) (vr (.bool ((decide (r9 < 0)))) (vr (.bool ((decide (r9 < 0)))) ?_)))
  cases hb20:(decide (r9 < 0))
  ·have h:=zW hb20 h
   refine gp (i6 r12) rfl rfl (gp (.bool ((decide (r12 < 0)))) rfl rfl (vr (.bool ((decide (r12 < 0)))) (yJ ?_)))
   exact jl ((decide (r12 < 0))) h
  ·have h:=zV hb20 h
   refine zD rfl (zD rfl (vr (.bool true) (yJ ?_)))
   exact jl true h
def zrk:Live:=[(0,[0,1,2,3]),(1,[0,3,5,6,8]),(2,[0,3,5,6,8,9]),(3,[0,3,5,6,8,9]),(4,[0,3,5,6,8,9]),(5,[5,8]),(100011,[0,3,5,6,8,9,11])]
noncomputable def nV (a3:Int) (a2:(Vec Int 64)) (a0:Int) (x127:Int) (x128:(Vec Int 64)):Option ((Int×(Vec Int 64))⊕(Vec Int 64)) :=
 (if (decide (x127 < 64)) then (jA (0≤x127∧x127 < ((64:Nat):Int)) ((jA (0≤x127∧x127 < ((64:Nat):Int)) ((kR (IntKind.i64.wrap (a3*(IntKind.i64.wrap (rd a2.1 x127.toNat)))) fun x180=>(kR (IntKind.i64.wrap ((IntKind.i64.wrap (rd x128.1 x127.toNat)) + x180)) fun x182=>(jA (a0 ≠ 0) ((jA (a0 ≠ 0) ((kR (IntKind.u8.wrap (Int.tmod (IntKind.i64.wrap ((Int.tmod x182 a0) + a0)) a0)) fun x186=>(jA (0≤x127∧x127 < ((64:Nat):Int)) ((some (.inl ((IntKind.i64.wrap (x127 + 1),(yO x128 x127.toNat x186)))))))))))))))))) else (some (.inr x128)))
noncomputable def xS (a0:Int) (a1:(Vec Int 64)) (a2:(Vec Int 64)) (a3:Int):Option (Vec Int 64) :=
 (Option.bind (α:=(Vec Int 64)) ((yK (fun s:(Int×(Vec Int 64))=>nV a3 a2 a0 s.1 s.2) (0,a1))) fun x94=>(some x94))
theorem wO (a0:Int) (a1:(Vec Int 64)) (a2:(Vec Int 64)) (a3:Int) (r:(Vec Int 64)) (h:xS a0 a1 a2 a3=some r):Den Tryz.prog 68 [(i6 a0),(zJ a1),(zJ a2),(i6 a3)] { r:=(zJ r) }:=by
 refine dd (rs:=[(zJ r)]) (L:=zrk) xL [] Tryz.func68 Tryz.ntmps68 ?_
 refine ns ⟨[(0,i6 a0),(1,zJ a1),(2,zJ a2),(3,i6 a3)],[]⟩ ?_
 refine sr (vo 1500 (zJ a1) rfl rfl (vo 1600 (zJ a2) rfl rfl (vo 1800 (yF) rfl rfl (nk ⟨[(0,i6 a0),(3,i6 a3),(5,ow 5),(6,ow 6),(8,ow 8)],[(5,bk (zJ a1)),(6,bk (zJ a2)),(8,bk (yF))]⟩ ?_))))
 obtain ⟨y95,hy96,hk97⟩:=bind_some h
 clear h
 refine yN (emb:=fun (s:(Vec Int 64))=>⟨[(5,ow 5),(8,ow 8)],[(5,bk (zJ s)),(8,bk (yF))]⟩) (kG:=fun s=>s=y95) ?_ ?_
 ·rintro x94 rfl
  have h:=hk97
  refine ns ⟨[(5,ow 5),(8,ow 8)],[(5,bk (zJ x94)),(8,bk (yF))]⟩ (sr (vl (zJ x94) rfl rfl rfl rfl rfl rfl (vs (zJ x94) rfl rfl (fun _=>rfl) rfl rfl rfl rfl rfl rfl (nx _ rfl (zU ?_)))))
  have hl193:LdOk [] (zJ x94) [] 64 true (zJ x94):=(.nil rfl rfl rfl)
  refine ⟨.inr rfl,?_⟩
  rw [Tryz.results68]
  cases h
  exact ⟨_,_,_,_,_,zM (i:=⟨.arr 64 5,64,64,(zJ (yH 64 (0:Int)))⟩) rfl rfl rfl hl193,hl193.c,.inl ⟨rfl,.inl rfl⟩,rfl,rfl⟩
 ·have h:=hy96
  refine sr (vr (i6 0) (nk ⟨[(0,i6 a0),(3,i6 a3),(5,ow 5),(6,ow 6),(8,ow 8),(9,i6 0)],[(5,bk (zJ a1)),(6,bk (zJ a2)),(8,bk (yF))]⟩ (yB ?_)))
  refine xU (emb:=fun (s:(Int×(Vec Int 64)))=>⟨[(0,i6 a0),(3,i6 a3),(5,ow 5),(6,ow 6),(8,ow 8),(9,i6 s.1)],[(5,bk (zJ s.2)),(6,bk (zJ a2)),(8,bk (yF))]⟩) (body:=(fun s:(Int×(Vec Int 64))=>nV a3 a2 a0 s.1 s.2)) (G:=fun q=>some q=some y95) h rfl ?_ (by kernel_rfl)
  rintro X158 ⟨x127,x128⟩ x159 h hX160
  have h:nV a3 a2 a0 x127 x128=some x159:=h
  refine ns ⟨[(0,i6 a0),(3,i6 a3),(5,ow 5),(6,ow 6),(8,ow 8),(9,i6 x127)],[(5,bk (zJ x128)),(6,bk (zJ a2)),(8,bk (yF))]⟩ (yC (sr (vr (i6 x127) (vr (.bool ((decide (x127 < 64)))) (nk ⟨[(0,i6 a0),(3,i6 a3),(5,ow 5),(6,ow 6),(8,ow 8),(9,i6 x127),(11,.bool ((decide (x127 < 64))))],[(5,bk (zJ x128)),(6,bk (zJ a2)),(8,bk (yF))]⟩ ?_)))))
  cases hb161:(decide (x127 < 64))
  ·have h:=zW hb161 h
   refine zP rfl (xR (yI ?_))
   cases h
   have h:=hX160
   refine yI (xQ ?_)
   exact jl x128 h
  ·have h:=zV hb161 h
   refine zO rfl (yG (nj ⟨[(0,i6 a0),(3,i6 a3),(5,ow 5),(6,ow 6),(8,ow 8),(9,i6 x127)],[(5,bk (zJ x128)),(6,bk (zJ a2)),(8,bk (yF))]⟩ (yC (yB (xH [⟨[],[],[],[]⟩,⟨[],[],[],[]⟩,⟨[5],[],[5],[1]⟩,⟨[5],[],[],[1,2]⟩,⟨[],[],[],[1,2,3]⟩,⟨[],[],[],[]⟩,⟨[],[],[],[]⟩,⟨[6],[],[6],[6]⟩,⟨[6],[],[],[6,7]⟩,⟨[],[],[],[6,7,8]⟩,⟨[],[],[],[5,6,7,8,9]⟩,⟨[],[],[],[1,2,3,4,5,6,7,8,9,10]⟩,⟨[],[],[],[]⟩,⟨[],[],[],[1,2,3,4,5,6,7,8,9,10,11,12]⟩,⟨[],[],[],[]⟩,⟨[],[],[],[1,2,3,4,5,6,7,8,9,10,11,12,13,14]⟩,⟨[],[],[],[]⟩,⟨[],[],[],[1,2,3,4,5,6,7,8,9,10,11,12,13,14,15,16]⟩,⟨[],[],[],[1,2,3,4,5,6,7,8,9,10,11,12,13,14,15,16,17]⟩,⟨[5],[],[5],[0,1,2,3,4,5,6,7,8,9,10,11,12,13,14,15,16,17,18]⟩,⟨[5],[5],[],[0,1,2,3,4,5,6,7,8,9,10,11,12,13,14,15,16,17,18,19]⟩] (by kernel_rfl) (dj (i6 x127) rfl (dj (i6 x127) rfl (zH ?_))))))))
   obtain ⟨hc176,h⟩:=zT h
   refine vq (.own 5 [x127.toNat] [x127.toNat*1]) rfl hc176 (dn (zH ?_))
   have hl177:LdOk [x127.toNat] (zJ x128) [x127.toNat*1] 1 false (b8 (rd x128.1 x127.toNat)):=(.arr (vlt x128 hc176) rfl (.nil rfl rfl rfl))
   refine vq (b8 (rd x128.1 x127.toNat)) (zM (i:=⟨.int .u8,1,1,(.int .u8 0)⟩) rfl rfl rfl hl177) hl177.c (dn (dj (i6 (IntKind.i64.wrap (rd x128.1 x127.toNat))) rfl (dj (i6 a3) rfl (dj (i6 x127) rfl (zH ?_)))))
   obtain ⟨hc178,h⟩:=zT h
   refine vq (.own 6 [x127.toNat] [x127.toNat*1]) rfl hc178 (dn (zH ?_))
   have hl179:LdOk [x127.toNat] (zJ a2) [x127.toNat*1] 1 false (b8 (rd a2.1 x127.toNat)):=(.arr (vlt a2 hc178) rfl (.nil rfl rfl rfl))
   refine vq (b8 (rd a2.1 x127.toNat)) (zM (i:=⟨.int .u8,1,1,(.int .u8 0)⟩) rfl rfl rfl hl179) hl179.c (dn (dj (i6 (IntKind.i64.wrap (rd a2.1 x127.toNat))) rfl (zH ?_)))
   obtain ⟨x180,hx181,h⟩:=xP h
   refine qI (v:=(i6 (IntKind.i64.wrap (a3*(IntKind.i64.wrap (rd a2.1 x127.toNat)))))) (v':=(i6 x180)) (u:=[]) (u':=[]) rfl (congrArg (fun z=>((i6 z):AV)) hx181) rfl trivial rfl (dn (zH ?_))
   obtain ⟨x182,hx183,h⟩:=xP h
   refine qI (v:=(i6 (IntKind.i64.wrap ((IntKind.i64.wrap (rd x128.1 x127.toNat)) + x180)))) (v':=(i6 x182)) (u:=[]) (u':=[]) rfl (congrArg (fun z=>((i6 z):AV)) hx183) rfl trivial rfl (dn (dj (i6 a0) rfl (zH ?_)))
   obtain ⟨hc184,h⟩:=zT h
   refine vq (i6 (Int.tmod x182 a0)) rfl hc184 (dn (dj (i6 a0) rfl (dj (i6 (IntKind.i64.wrap ((Int.tmod x182 a0) + a0))) rfl (dj (i6 a0) rfl (zH ?_)))))
   obtain ⟨hc185,h⟩:=zT h
   refine vq (i6 (Int.tmod (IntKind.i64.wrap ((Int.tmod x182 a0) + a0)) a0)) rfl hc185 (dn (zH ?_))
   obtain ⟨x186,hx187,h⟩:=xP h
   refine qI (v:=(b8 (IntKind.u8.wrap (Int.tmod (IntKind.i64.wrap ((Int.tmod x182 a0) + a0)) a0)))) (v':=(b8 x186)) (u:=[]) (u':=[]) rfl (congrArg (fun z=>((b8 z):AV)) hx187) rfl trivial rfl (dn (zH ?_))
   obtain ⟨hc188,h⟩:=zT h
   refine vq (.own 5 [x127.toNat] [x127.toNat*1]) rfl hc188 (dn (zH ?_))
   have hs189:StOk [x127.toNat] (zJ x128) [x127.toNat*1] 1 (b8 x186) (zJ (yO x128 x127.toNat x186)):=(.arr (y:=x186) (vlt x128 hc188) rfl (.nil rfl rfl rfl rfl))
   refine vu .top [(5,bk (zJ (yO x128 x127.toNat x186)))] (qG (i:=⟨.int .u8,1,1,(.int .u8 0)⟩) rfl rfl (fun _=>rfl) rfl hs189) (hs189.c rfl) rfl (dn (xE (xI (nj ⟨[(0,i6 a0),(3,i6 a3),(5,ow 5),(6,ow 6),(8,ow 8),(9,i6 x127)],[(5,bk (zJ (yO x128 x127.toNat x186))),(6,bk (zJ a2)),(8,bk (yF))]⟩ (zR (vr (i6 x127) (vr (i6 (IntKind.i64.wrap (x127 + 1))) (vr (i6 (IntKind.i64.wrap (x127 + 1))) (yJ ?_)))))))))
   cases h
   exact ag hX160
def znq:Live:=[(0,[0,1,2]),(1,[0,4,5,6,7,8]),(2,[0,4,5,6,7,8,9,10,11,12]),(3,[0,4,5,6,7,8,9,10,11,12]),(4,[0,4,5,6,7,8,9,10,11,12,13,14]),(5,[0,4,5,6,7,8,9,10,11,12,13,14,15]),(6,[0,4,5,6,7,8,9,10,11,12,14,15,17]),(7,[0,4,5,6,7,8,9,10,11,12,14,19,20]),(8,[0,4,5,6,7,8,9,10,11,12,14,19,20]),(9,[0,4,5,6,7,8,9,10,11,12,19,20]),(10,[0,4,5,6,7,8,9,10,11,12,19,20]),(11,[0,4,5,6,7,8,9,10,11,12,19,20]),(12,[0,4,5,6,7,8,9,10,11,12,20]),(13,[0,4,6,7,8,9,11]),(14,[0,4,6,7,8,9,11,21]),(100028,[0,4,5,6,7,8,9,10,11,12,28])]
noncomputable def vC (a0:Int) (x233:(Vec Int 64)) (x234:(Vec Int 64)) (x235:(Vec Int 64)) (x236:(Vec Int 64)) (x237:(Vec Int 64)) (x238:(Vec Int 64)):Option (((Vec Int 64)×(Vec Int 64)×(Vec Int 64)×(Vec Int 64)×(Vec Int 64)×(Vec Int 64))⊕((Vec Int 64)×(Vec Int 64)×(Vec Int 64))) :=
 (Option.bind (yW x234) fun r295=>(if (decide (r295 ≥ 0)) then (Option.bind (kF a0 x233 x234) fun r300=>(Option.bind (xO a0 r300.1 x236) fun r306=>(Option.bind (xO a0 r300.1 x238) fun r311=>(Option.bind (xS a0 x235 r306.1 (-1)) fun r326=>(Option.bind (xS a0 x237 r311.1 (-1)) fun r330=>(some (.inl (x234,r300.2,x236,r326,x238,r330)))))))) else (some (.inr (x233,x235,x237)))))
noncomputable def kE (a0:Int) (a1:(Vec Int 64)) (a2:(Vec Int 64)):Option ((Vec Int 64)×(Vec Int 64)×(Vec Int 64)) :=
 (Option.bind (zay) fun r1=>(Option.bind (zay) fun r3=>(Option.bind (α:=((Vec Int 64)×(Vec Int 64)×(Vec Int 64))) ((yK (fun s:((Vec Int 64)×(Vec Int 64)×(Vec Int 64)×(Vec Int 64)×(Vec Int 64)×(Vec Int 64))=>vC a0 s.1 s.2.1 s.2.2.1 s.2.2.2.1 s.2.2.2.2.1 s.2.2.2.2.2) (a1,a2,r1,(yH 64 (0:Int)),(yH 64 (0:Int)),r3))) fun ⟨x175,x176,x177⟩=>(Option.bind (yW x175) fun r348=>(jA (0≤r348∧r348 < ((64:Nat):Int)) ((Option.bind (nI a0 (rd x175.1 r348.toNat)) fun r352=>(Option.bind (xS a0 ((yH 64 (0:Int))) x175 (IntKind.i64.wrap r352)) fun r367=>(Option.bind (xS a0 ((yH 64 (0:Int))) x176 (IntKind.i64.wrap r352)) fun r370=>(Option.bind (xS a0 ((yH 64 (0:Int))) x177 (IntKind.i64.wrap r352)) fun r373=>(some (r367,r370,r373))))))))))))
theorem zb2 (a0:Int) (a1:(Vec Int 64)) (a2:(Vec Int 64)) (r:((Vec Int 64)×(Vec Int 64)×(Vec Int 64))) (h:kE a0 a1 a2=some r):Den Tryz.prog 64 [(i6 a0),(zJ a1),(zJ a2)] { r:=(.tuple [(zJ r.1),(zJ r.2.1),(zJ r.2.2)]) }:=by
 refine dd (rs:=[(zJ r.1),(zJ r.2.1),(zJ r.2.2)]) (L:=znq) xL [] Tryz.func64 Tryz.ntmps64 ?_
 refine ns ⟨[(0,i6 a0),(1,zJ a1),(2,zJ a2)],[]⟩ ?_
 refine sr (vo 1400 (zJ a1) rfl rfl (vo 1500 (zJ a2) rfl rfl (vo 1600 (yF) rfl rfl (vo 1700 (yF) rfl rfl (vo 1800 (yF) rfl rfl (nk ⟨[(0,i6 a0),(4,ow 4),(5,ow 5),(6,ow 6),(7,ow 7),(8,ow 8)],[(4,bk (zJ a1)),(5,bk (zJ a2)),(6,bk (yF)),(7,bk (yF)),(8,bk (yF))]⟩ (sr ?_)))))))
 obtain ⟨r1,hr2,h⟩:=bind_some h
 refine ca (zd4 r1 hr2) (vq (yF) rfl ⟨⟨_,rfl,rfl⟩,all_nil⟩ (vq (yF) rfl ⟨⟨_,rfl,rfl⟩,all_nil⟩ ?_))
 obtain ⟨r3,hr4,h⟩:=bind_some h
 refine ca (zd4 r3 hr4) (vo 1900 (yF) rfl rfl (vo 2000 (yF) rfl rfl (vo 2100 (yF) rfl rfl (vo 2200 (yF) rfl rfl (vs (zJ r1) rfl rfl (fun _=>rfl) rfl rfl rfl rfl rfl rfl (vs (yF) rfl rfl (fun _=>rfl) rfl rfl rfl rfl rfl rfl (vs (yF) rfl rfl (fun _=>rfl) rfl rfl rfl rfl rfl rfl (vs (zJ r3) rfl rfl (fun _=>rfl) rfl rfl rfl rfl rfl rfl (nk ⟨[(0,i6 a0),(4,ow 4),(5,ow 5),(6,ow 6),(7,ow 7),(8,ow 8),(9,ow 9),(10,ow 10),(11,ow 11),(12,ow 12)],[(4,bk (zJ a1)),(5,bk (zJ a2)),(6,bk (yF)),(7,bk (yF)),(8,bk (yF)),(9,bk (zJ r1)),(10,bk (yF)),(11,bk (yF)),(12,bk (zJ r3))]⟩ ?_)))))))))
 obtain ⟨y178,hy179,hk180⟩:=bind_some h
 clear h
 refine yN (emb:=fun (s:((Vec Int 64)×(Vec Int 64)×(Vec Int 64)))=>⟨[(0,i6 a0),(4,ow 4),(6,ow 6),(7,ow 7),(8,ow 8),(9,ow 9),(11,ow 11)],[(4,bk (zJ s.1)),(6,bk (yF)),(7,bk (yF)),(8,bk (yF)),(9,bk (zJ s.2.1)),(11,bk (zJ s.2.2))]⟩) (kG:=fun s=>s=y178) ?_ ?_
 ·rintro ⟨x175,x176,x177⟩ rfl
  have h:=hk180
  refine ns ⟨[(0,i6 a0),(4,ow 4),(6,ow 6),(7,ow 7),(8,ow 8),(9,ow 9),(11,ow 11)],[(4,bk (zJ x175)),(6,bk (yF)),(7,bk (yF)),(8,bk (yF)),(9,bk (zJ x176)),(11,bk (zJ x177))]⟩ (sr (vr (i6 a0) (vl (zJ x175) rfl rfl rfl rfl rfl rfl ?_)))
  obtain ⟨r348,hr349,h⟩:=bind_some h
  refine ca (yZ x175 r348 hr349) ?_
  obtain ⟨hc350,h⟩:=zT h
  refine vq (.own 4 [r348.toNat] [r348.toNat*1]) rfl hc350 ?_
  have hl351:LdOk [r348.toNat] (zJ x175) [r348.toNat*1] 1 false (b8 (rd x175.1 r348.toNat)):=(.arr (vlt x175 hc350) rfl (.nil rfl rfl rfl))
  refine vq (b8 (rd x175.1 r348.toNat)) (zM (i:=⟨.int .u8,1,1,(.int .u8 0)⟩) rfl rfl rfl hl351) hl351.c ?_
  obtain ⟨r352,hr353,h⟩:=bind_some h
  refine ca (za9 a0 (rd x175.1 r348.toNat) r352 hr353) (vr (i6 (IntKind.i64.wrap r352)) (vr (i6 (IntKind.i64.wrap r352)) (nk ⟨[(0,i6 a0),(4,ow 4),(6,ow 6),(7,ow 7),(8,ow 8),(9,ow 9),(11,ow 11),(21,i6 (IntKind.i64.wrap r352))],[(4,bk (zJ x175)),(6,bk (yF)),(7,bk (yF)),(8,bk (yF)),(9,bk (zJ x176)),(11,bk (zJ x177))]⟩ (yC (xH [⟨[],[],[],[]⟩,⟨[],[],[],[]⟩,⟨[4],[],[],[]⟩,⟨[],[],[],[]⟩,⟨[],[],[],[0,1,2,3]⟩,⟨[],[],[],[]⟩,⟨[],[],[],[]⟩,⟨[9],[],[],[]⟩,⟨[],[],[],[]⟩,⟨[],[],[],[0,1,2,3,4,5,6,7,8]⟩,⟨[],[],[],[]⟩,⟨[],[],[],[]⟩,⟨[11],[],[],[]⟩,⟨[],[],[],[]⟩,⟨[],[],[],[0,1,2,3,4,5,6,7,8,9,10,11,12,13]⟩,⟨[6],[6],[],[0,1,2,3,4,5,6,7,8,9,10,11,12,13,14]⟩,⟨[7],[7],[],[0,1,2,3,4,5,6,7,8,9,10,11,12,13,14,15]⟩,⟨[8],[8],[],[0,1,2,3,4,5,6,7,8,9,10,11,12,13,14,15,16]⟩] (by kernel_rfl) (dj (i6 a0) rfl (zH (vq (yF) rfl ⟨⟨_,rfl,rfl⟩,all_nil⟩ (dn ?_)))))))))
  refine zH (vl (zJ x175) rfl rfl rfl rfl rfl rfl (dn (dj (i6 (IntKind.i64.wrap r352)) rfl (zH ?_))))
  obtain ⟨r367,hr368,h⟩:=bind_some h
  refine ca (wO a0 ((yH 64 (0:Int))) x175 (IntKind.i64.wrap r352) r367 hr368) (dn (dj (i6 a0) rfl (zH (vq (yF) rfl ⟨⟨_,rfl,rfl⟩,all_nil⟩ (dn (zH (vl (zJ x176) rfl rfl rfl rfl rfl rfl (dn (dj (i6 (IntKind.i64.wrap r352)) rfl ?_)))))))))
  refine zH ?_
  obtain ⟨r370,hr371,h⟩:=bind_some h
  refine ca (wO a0 ((yH 64 (0:Int))) x176 (IntKind.i64.wrap r352) r370 hr371) (dn (dj (i6 a0) rfl (zH (vq (yF) rfl ⟨⟨_,rfl,rfl⟩,all_nil⟩ (dn (zH (vl (zJ x177) rfl rfl rfl rfl rfl rfl (dn (dj (i6 (IntKind.i64.wrap r352)) rfl ?_)))))))))
  refine zH ?_
  obtain ⟨r373,hr374,h⟩:=bind_some h
  refine ca (wO a0 ((yH 64 (0:Int))) x177 (IntKind.i64.wrap r352) r373 hr374) (dn (zH (vs (zJ r367) rfl rfl (fun _=>rfl) rfl rfl rfl rfl rfl rfl (dn (zH (vs (zJ r370) rfl rfl (fun _=>rfl) rfl rfl rfl rfl rfl rfl (dn (zH (vs (zJ r373) rfl rfl (fun _=>rfl) rfl rfl rfl rfl rfl rfl ?_)))))))))
  refine dn (xE (wC rfl (zU ?_)))
  have hl378:LdOk [] (zJ r367) [] 64 true (zJ r367):=(.nil rfl rfl rfl)
  have hl379:LdOk [] (zJ r370) [] 64 true (zJ r370):=(.nil rfl rfl rfl)
  have hl380:LdOk [] (zJ r373) [] 64 true (zJ r373):=(.nil rfl rfl rfl)
  refine ⟨.inr rfl,?_⟩
  rw [Tryz.results64]
  cases h
  exact ⟨_,_,_,_,_,zM (i:=⟨.arr 64 5,64,64,(zJ (yH 64 (0:Int)))⟩) rfl rfl rfl hl378,hl378.c,.inl ⟨rfl,.inl rfl⟩,rfl,⟨_,_,_,_,_,zM (i:=⟨.arr 64 5,64,64,(zJ (yH 64 (0:Int)))⟩) rfl rfl rfl hl379,hl379.c,.inl ⟨rfl,.inl rfl⟩,rfl,⟨_,_,_,_,_,zM (i:=⟨.arr 64 5,64,64,(zJ (yH 64 (0:Int)))⟩) rfl rfl rfl hl380,hl380.c,.inl ⟨rfl,.inl rfl⟩,rfl,rfl⟩⟩⟩
 ·have h:=hy179
  refine yB ?_
  refine xU (emb:=fun (s:((Vec Int 64)×(Vec Int 64)×(Vec Int 64)×(Vec Int 64)×(Vec Int 64)×(Vec Int 64)))=>⟨[(0,i6 a0),(4,ow 4),(5,ow 5),(6,ow 6),(7,ow 7),(8,ow 8),(9,ow 9),(10,ow 10),(11,ow 11),(12,ow 12)],[(4,bk (zJ s.1)),(5,bk (zJ s.2.1)),(6,bk (yF)),(7,bk (yF)),(8,bk (yF)),(9,bk (zJ s.2.2.1)),(10,bk (zJ s.2.2.2.1)),(11,bk (zJ s.2.2.2.2.1)),(12,bk (zJ s.2.2.2.2.2))]⟩) (body:=(fun s:((Vec Int 64)×(Vec Int 64)×(Vec Int 64)×(Vec Int 64)×(Vec Int 64)×(Vec Int 64))=>vC a0 s.1 s.2.1 s.2.2.1 s.2.2.2.1 s.2.2.2.2.1 s.2.2.2.2.2)) (G:=fun q=>some q=some y178) h rfl ?_ (by kernel_rfl)
  rintro X291 ⟨x233,x234,x235,x236,x237,x238⟩ x292 h hX293
  have h:vC a0 x233 x234 x235 x236 x237 x238=some x292:=h
  refine ns ⟨[(0,i6 a0),(4,ow 4),(5,ow 5),(6,ow 6),(7,ow 7),(8,ow 8),(9,ow 9),(10,ow 10),(11,ow 11),(12,ow 12)],[(4,bk (zJ x233)),(5,bk (zJ x234)),(6,bk (yF)),(7,bk (yF)),(8,bk (yF)),(9,bk (zJ x235)),(10,bk (zJ x236)),(11,bk (zJ x237)),(12,bk (zJ x238))]⟩ (yC (sr (vl (zJ x234) rfl rfl rfl rfl rfl rfl ?_)))
  obtain ⟨r295,hr296,h⟩:=bind_some h
  refine ca (yZ x234 r295 hr296) (vr (.bool ((decide (r295 ≥ 0)))) (nk ⟨[(0,i6 a0),(4,ow 4),(5,ow 5),(6,ow 6),(7,ow 7),(8,ow 8),(9,ow 9),(10,ow 10),(11,ow 11),(12,ow 12),(28,.bool ((decide (r295 ≥ 0))))],[(4,bk (zJ x233)),(5,bk (zJ x234)),(6,bk (yF)),(7,bk (yF)),(8,bk (yF)),(9,bk (zJ x235)),(10,bk (zJ x236)),(11,bk (zJ x237)),(12,bk (zJ x238))]⟩ ?_))
  cases hb297:(decide (r295 ≥ 0))
  ·have h:=zW hb297 h
   refine zP rfl (xR (yI ?_))
   cases h
   have h:=hX293
   refine yI (xQ ?_)
   exact jl (x233,x235,x237) h
  ·have h:=zV hb297 h
   refine zO rfl (yG (nj ⟨[(0,i6 a0),(4,ow 4),(5,ow 5),(6,ow 6),(7,ow 7),(8,ow 8),(9,ow 9),(10,ow 10),(11,ow 11),(12,ow 12)],[(4,bk (zJ x233)),(5,bk (zJ x234)),(6,bk (yF)),(7,bk (yF)),(8,bk (yF)),(9,bk (zJ x235)),(10,bk (zJ x236)),(11,bk (zJ x237)),(12,bk (zJ x238))]⟩ (yB (sr (vr (i6 a0) (vl (zJ x233) rfl rfl rfl rfl rfl rfl (vl (zJ x234) rfl rfl rfl rfl rfl rfl ?_)))))))
   obtain ⟨r300,hr301,h⟩:=bind_some h
   refine ca (mT a0 x233 x234 r300 hr301) (vr (.tuple [(zJ r300.1),(zJ r300.2)]) (vb (zJ r300.1) rfl rfl (vb (zJ r300.2) rfl rfl (vo 2300 (yF) rfl rfl (vo 2400 (yF) rfl rfl (vs (zJ r300.1) rfl rfl (fun _=>rfl) rfl rfl rfl rfl rfl rfl (vs (zJ r300.2) rfl rfl (fun _=>rfl) rfl rfl rfl rfl rfl rfl (nk ⟨[(0,i6 a0),(4,ow 4),(5,ow 5),(6,ow 6),(7,ow 7),(8,ow 8),(9,ow 9),(10,ow 10),(11,ow 11),(12,ow 12),(13,ow 13),(14,ow 14)],[(4,bk (zJ x233)),(5,bk (zJ x234)),(6,bk (yF)),(7,bk (yF)),(8,bk (yF)),(9,bk (zJ x235)),(10,bk (zJ x236)),(11,bk (zJ x237)),(12,bk (zJ x238)),(13,bk (zJ r300.1)),(14,bk (zJ r300.2))]⟩ (sr ?_)))))))))
   refine vr (i6 a0) (vl (zJ r300.1) rfl rfl rfl rfl rfl rfl (vl (zJ x236) rfl rfl rfl rfl rfl rfl ?_))
   obtain ⟨r306,hr307,h⟩:=bind_some h
   refine ca (wX a0 r300.1 x236 r306 hr307) (vr (.tuple [(zJ r306.1),(.bool r306.2)]) (vb (zJ r306.1) rfl rfl (vb (.bool r306.2) rfl rfl (vo 2500 (yF) rfl rfl (vs (zJ r306.1) rfl rfl (fun _=>rfl) rfl rfl rfl rfl rfl rfl (vr (.bool r306.2) (nk ⟨[(0,i6 a0),(4,ow 4),(5,ow 5),(6,ow 6),(7,ow 7),(8,ow 8),(9,ow 9),(10,ow 10),(11,ow 11),(12,ow 12),(13,ow 13),(14,ow 14),(15,ow 15)],[(4,bk (zJ x233)),(5,bk (zJ x234)),(6,bk (yF)),(7,bk (yF)),(8,bk (yF)),(9,bk (zJ x235)),(10,bk (zJ x236)),(11,bk (zJ x237)),(12,bk (zJ x238)),(13,bk (zJ r300.1)),(14,bk (zJ r300.2)),(15,bk (zJ r306.1))]⟩ (sr (vr (i6 a0) ?_)))))))))
   refine vl (zJ r300.1) rfl rfl rfl rfl rfl rfl (vl (zJ x238) rfl rfl rfl rfl rfl rfl ?_)
   obtain ⟨r311,hr312,h⟩:=bind_some h
   refine ca (wX a0 r300.1 x238 r311 hr312) (vr (.tuple [(zJ r311.1),(.bool r311.2)]) (vb (zJ r311.1) rfl rfl (vb (.bool r311.2) rfl rfl (vo 2700 (yF) rfl rfl (vs (zJ r311.1) rfl rfl (fun _=>rfl) rfl rfl rfl rfl rfl rfl (vr (.bool r311.2) (nk ⟨[(0,i6 a0),(4,ow 4),(5,ow 5),(6,ow 6),(7,ow 7),(8,ow 8),(9,ow 9),(10,ow 10),(11,ow 11),(12,ow 12),(14,ow 14),(15,ow 15),(17,ow 17)],[(4,bk (zJ x233)),(5,bk (zJ x234)),(6,bk (yF)),(7,bk (yF)),(8,bk (yF)),(9,bk (zJ x235)),(10,bk (zJ x236)),(11,bk (zJ x237)),(12,bk (zJ x238)),(14,bk (zJ r300.2)),(15,bk (zJ r306.1)),(17,bk (zJ r311.1))]⟩ (yC (xH [⟨[],[],[],[]⟩,⟨[9],[],[],[]⟩,⟨[15],[],[],[]⟩,⟨[],[],[],[0,1,2]⟩,⟨[],[],[],[]⟩,⟨[11],[],[],[]⟩,⟨[17],[],[],[]⟩,⟨[],[],[],[0,1,2,3,4,5,6]⟩,⟨[2900],[2900],[2900],[]⟩,⟨[3000],[3000],[3000],[]⟩,⟨[2900],[2900],[],[0,1,2,3,4,5,6,7,8,9]⟩,⟨[3000],[3000],[],[0,1,2,3,4,5,6,7,8,9,10]⟩] (by kernel_rfl) ?_)))))))))
   refine dj (i6 a0) rfl (zH (vl (zJ x235) rfl rfl rfl rfl rfl rfl (dn (zH (vl (zJ r306.1) rfl rfl rfl rfl rfl rfl (dn (zH ?_)))))))
   obtain ⟨r326,hr327,h⟩:=bind_some h
   refine ca (wO a0 x235 r306.1 (-1) r326 hr327) (dn (dj (i6 a0) rfl (zH (vl (zJ x237) rfl rfl rfl rfl rfl rfl (dn (zH (vl (zJ r311.1) rfl rfl rfl rfl rfl rfl (dn (zH ?_)))))))))
   obtain ⟨r330,hr331,h⟩:=bind_some h
   refine ca (wO a0 x237 r311.1 (-1) r330 hr331) (dn (zH (vo 2900 (yF) rfl rfl (dn (zH (vo 3000 (yF) rfl rfl (dn (zH (vs (zJ r326) rfl rfl (fun _=>rfl) rfl rfl rfl rfl rfl rfl ?_)))))))))
   refine dn (zH (vs (zJ r330) rfl rfl (fun _=>rfl) rfl rfl rfl rfl rfl rfl (dn (xE (nj ⟨[(0,i6 a0),(4,ow 4),(5,ow 5),(6,ow 6),(7,ow 7),(8,ow 8),(9,ow 9),(10,ow 10),(11,ow 11),(12,ow 12),(14,ow 14),(19,ow 19),(20,ow 20)],[(4,bk (zJ x233)),(5,bk (zJ x234)),(6,bk (yF)),(7,bk (yF)),(8,bk (yF)),(9,bk (zJ x235)),(10,bk (zJ x236)),(11,bk (zJ x237)),(12,bk (zJ x238)),(14,bk (zJ r300.2)),(19,bk (zJ r326)),(20,bk (zJ r330))]⟩ (sr (vl (zJ x234) rfl rfl rfl rfl rfl rfl (vs (zJ x234) rfl rfl (fun _=>rfl) rfl rfl rfl rfl rfl rfl (nk ⟨[(0,i6 a0),(4,ow 4),(5,ow 5),(6,ow 6),(7,ow 7),(8,ow 8),(9,ow 9),(10,ow 10),(11,ow 11),(12,ow 12),(14,ow 14),(19,ow 19),(20,ow 20)],[(4,bk (zJ x234)),(5,bk (zJ x234)),(6,bk (yF)),(7,bk (yF)),(8,bk (yF)),(9,bk (zJ x235)),(10,bk (zJ x236)),(11,bk (zJ x237)),(12,bk (zJ x238)),(14,bk (zJ r300.2)),(19,bk (zJ r326)),(20,bk (zJ r330))]⟩ ?_)))))))))
   refine sr (vl (zJ r300.2) rfl rfl rfl rfl rfl rfl (vs (zJ r300.2) rfl rfl (fun _=>rfl) rfl rfl rfl rfl rfl rfl (nk ⟨[(0,i6 a0),(4,ow 4),(5,ow 5),(6,ow 6),(7,ow 7),(8,ow 8),(9,ow 9),(10,ow 10),(11,ow 11),(12,ow 12),(19,ow 19),(20,ow 20)],[(4,bk (zJ x234)),(5,bk (zJ r300.2)),(6,bk (yF)),(7,bk (yF)),(8,bk (yF)),(9,bk (zJ x235)),(10,bk (zJ x236)),(11,bk (zJ x237)),(12,bk (zJ x238)),(19,bk (zJ r326)),(20,bk (zJ r330))]⟩ (sr (vl (zJ x236) rfl rfl rfl rfl rfl rfl (vs (zJ x236) rfl rfl (fun _=>rfl) rfl rfl rfl rfl rfl rfl (nk ⟨[(0,i6 a0),(4,ow 4),(5,ow 5),(6,ow 6),(7,ow 7),(8,ow 8),(9,ow 9),(10,ow 10),(11,ow 11),(12,ow 12),(19,ow 19),(20,ow 20)],[(4,bk (zJ x234)),(5,bk (zJ r300.2)),(6,bk (yF)),(7,bk (yF)),(8,bk (yF)),(9,bk (zJ x236)),(10,bk (zJ x236)),(11,bk (zJ x237)),(12,bk (zJ x238)),(19,bk (zJ r326)),(20,bk (zJ r330))]⟩ (sr (vl (zJ x238) rfl rfl rfl rfl rfl rfl ?_)))))))))
   refine vs (zJ x238) rfl rfl (fun _=>rfl) rfl rfl rfl rfl rfl rfl (nk ⟨[(0,i6 a0),(4,ow 4),(5,ow 5),(6,ow 6),(7,ow 7),(8,ow 8),(9,ow 9),(10,ow 10),(11,ow 11),(12,ow 12),(19,ow 19),(20,ow 20)],[(4,bk (zJ x234)),(5,bk (zJ r300.2)),(6,bk (yF)),(7,bk (yF)),(8,bk (yF)),(9,bk (zJ x236)),(10,bk (zJ x236)),(11,bk (zJ x238)),(12,bk (zJ x238)),(19,bk (zJ r326)),(20,bk (zJ r330))]⟩ (sr (vl (zJ r326) rfl rfl rfl rfl rfl rfl (vs (zJ r326) rfl rfl (fun _=>rfl) rfl rfl rfl rfl rfl rfl (nk ⟨[(0,i6 a0),(4,ow 4),(5,ow 5),(6,ow 6),(7,ow 7),(8,ow 8),(9,ow 9),(10,ow 10),(11,ow 11),(12,ow 12),(20,ow 20)],[(4,bk (zJ x234)),(5,bk (zJ r300.2)),(6,bk (yF)),(7,bk (yF)),(8,bk (yF)),(9,bk (zJ x236)),(10,bk (zJ r326)),(11,bk (zJ x238)),(12,bk (zJ x238)),(20,bk (zJ r330))]⟩ (zR (vl (zJ r330) rfl rfl rfl rfl rfl rfl (vs (zJ r330) rfl rfl (fun _=>rfl) rfl rfl rfl rfl rfl rfl (yJ ?_)))))))))
   refine xI ?_
   cases h
   exact ag hX293
def zra:Live:=[(0,[0,1,2]),(1,[0,4,5,6]),(2,[6]),(3,[0,4,5,6]),(4,[6,7]),(100017,[0,4,5,6,17])]
noncomputable def zcj (a0:Int) (a1:(Vec Int 64)) (a2:(Vec Int 64)):Option (Vec Int 64) :=
 (Option.bind (α:=Bool) ((Option.bind (yW a1) fun r13=>(if (decide (r13 < 0)) then (Option.bind (yW a2) fun r17=>(some ((decide (r17 < 0))))) else (some false)))) fun x8=>(if x8 then (some ((yH 64 (0:Int)))) else (Option.bind (kE a0 a1 a2) fun r22=>(some r22.1))))
theorem zjy (a0:Int) (a1:(Vec Int 64)) (a2:(Vec Int 64)) (r:(Vec Int 64)) (h:zcj a0 a1 a2=some r):Den Tryz.prog 92 [(i6 a0),(zJ a1),(zJ a2)] { r:=(zJ r) }:=by
 refine dd (rs:=[(zJ r)]) (L:=zra) xL [] Tryz.func92 Tryz.ntmps92 ?_
 refine ns ⟨[(0,i6 a0),(1,zJ a1),(2,zJ a2)],[]⟩ ?_
 refine sr (vo 1400 (zJ a1) rfl rfl (vo 1500 (zJ a2) rfl rfl (vo 1600 (yF) rfl rfl (nk ⟨[(0,i6 a0),(4,ow 4),(5,ow 5),(6,ow 6)],[(4,bk (zJ a1)),(5,bk (zJ a2)),(6,bk (yF))]⟩ (yC ?_)))))
 obtain ⟨y9,hy10,hk11⟩:=bind_some h
 clear h
 refine yN (emb:=fun (s:Bool)=>⟨[(0,i6 a0),(4,ow 4),(5,ow 5),(6,ow 6),(17,.bool s)],[(4,bk (zJ a1)),(5,bk (zJ a2)),(6,bk (yF))]⟩) (kG:=fun s=>s=y9) ?_ ?_
 ·rintro x8 rfl
  have h:=hk11
  refine ns ⟨[(0,i6 a0),(4,ow 4),(5,ow 5),(6,ow 6),(17,.bool x8)],[(4,bk (zJ a1)),(5,bk (zJ a2)),(6,bk (yF))]⟩ ?_
  cases hb19:x8
  ·have h:=zW hb19 h
   refine zP rfl (yG (nj ⟨[(0,i6 a0),(4,ow 4),(5,ow 5),(6,ow 6)],[(4,bk (zJ a1)),(5,bk (zJ a2)),(6,bk (yF))]⟩ (sr (vr (i6 a0) (vl (zJ a1) rfl rfl rfl rfl rfl rfl (vl (zJ a2) rfl rfl rfl rfl rfl rfl ?_))))))
   obtain ⟨r22,hr23,h⟩:=bind_some h
   refine ca (zb2 a0 a1 a2 r22 hr23) (vr (.tuple [(zJ r22.1),(zJ r22.2.1),(zJ r22.2.2)]) (vb (zJ r22.1) rfl rfl (vb (zJ r22.2.1) rfl rfl (vb (zJ r22.2.2) rfl rfl (vo 1700 (yF) rfl rfl (vo 1800 (yF) rfl rfl (vo 1900 (yF) rfl rfl (vs (zJ r22.1) rfl rfl (fun _=>rfl) rfl rfl rfl rfl rfl rfl (vs (zJ r22.2.1) rfl rfl (fun _=>rfl) rfl rfl rfl rfl rfl rfl ?_)))))))))
   refine vs (zJ r22.2.2) rfl rfl (fun _=>rfl) rfl rfl rfl rfl rfl rfl (nk ⟨[(6,ow 6),(7,ow 7)],[(6,bk (yF)),(7,bk (zJ r22.1))]⟩ (sr (vl (zJ r22.1) rfl rfl rfl rfl rfl rfl (vs (zJ r22.1) rfl rfl (fun _=>rfl) rfl rfl rfl rfl rfl rfl (nx _ rfl (zU ?_))))))
   have hl29:LdOk [] (zJ r22.1) [] 64 true (zJ r22.1):=(.nil rfl rfl rfl)
   refine ⟨.inr rfl,?_⟩
   rw [Tryz.results92]
   cases h
   exact ⟨_,_,_,_,_,zM (i:=⟨.arr 64 5,64,64,(zJ (yH 64 (0:Int)))⟩) rfl rfl rfl hl29,hl29.c,.inl ⟨rfl,.inl rfl⟩,rfl,rfl⟩
  ·have h:=zV hb19 h
   refine zO rfl (sr (vq (yF) rfl ⟨⟨_,rfl,rfl⟩,all_nil⟩ (vs (yF) rfl rfl (fun _=>rfl) rfl rfl rfl rfl rfl rfl (nx _ rfl (zU (xV ?_))))))
   have hl31:LdOk [] (yF) [] 64 true (yF):=(.nil rfl rfl rfl)
   refine ⟨.inr rfl,?_⟩
   rw [Tryz.results92]
   cases h
   exact ⟨_,_,_,_,_,zM (i:=⟨.arr 64 5,64,64,(zJ (yH 64 (0:Int)))⟩) rfl rfl rfl hl31,hl31.c,.inl ⟨rfl,.inl rfl⟩,rfl,rfl⟩
 ·have h:=hy10
  refine zR (vl (zJ a1) rfl rfl rfl rfl rfl rfl ?_)
  obtain ⟨r13,hr14,h⟩:=bind_some h
  refine ca (yZ a1 r13 hr14) (vr (.bool ((decide (r13 < 0)))) (vr (.bool ((decide (r13 < 0)))) ?_))
  cases hb15:(decide (r13 < 0))
  ·have h:=zW hb15 h
   refine zD rfl (zD rfl (zD rfl (vr (.bool false) (yJ ?_))))
   exact jl false h
  ·have h:=zV hb15 h
   have hl16:LdOk [] (zJ a2) [] 64 true (zJ a2):=(.nil rfl rfl rfl)
   refine gq (zJ a2) rfl (zM (i:=⟨.arr 64 5,64,64,(zJ (yH 64 (0:Int)))⟩) rfl rfl rfl hl16) hl16.c ?_
   obtain ⟨r17,hr18,h⟩:=bind_some h
   refine wQ rfl (args:=[(zJ a2)]) (u:=[]) (r:=(i6 r17)) rfl rfl (yZ a2 r17 hr18) rfl (gp (.bool ((decide (r17 < 0)))) rfl rfl (vr (.bool ((decide (r17 < 0)))) (yJ ?_)))
   exact jl ((decide (r17 < 0))) h
def ztd:Live:=[(0,[0,1]),(1,[0,3]),(2,[]),(3,[0,3]),(4,[0,3,5]),(5,[]),(6,[0,3]),(7,[0,3,6]),(100015,[0,3,15]),(100027,[0,3,27])]
noncomputable def za7 (a0:Int) (a1:(Vec Int 64)):Option Bool :=
 (Option.bind (α:=Bool) ((Option.bind (zcn a0 a1) fun r10=>(if (!r10) then (some true) else (some (a0 == 2))))) fun x5=>(if x5 then (some false) else (Option.bind (yW a1) fun r15=>(Option.bind (α:=Bool) ((if (r15 != 1) then (if (r15 != 3) then (some (r15 != 5)) else (some false)) else (some false))) fun x19=>(if x19 then (some false) else (Option.bind (zb6 a0 a1) fun r27=>(Option.bind (zcj a0 a1 r27.1) fun r32=>(Option.bind (yW r32) fun r34=>(some (r34 == 0))))))))))
theorem zbs (a0:Int) (a1:(Vec Int 64)) (r:Bool) (h:za7 a0 a1=some r):Den Tryz.prog 48 [(i6 a0),(zJ a1)] { r:=(.bool r) }:=by
 refine dd (rs:=[(.bool r)]) (L:=ztd) xL [] Tryz.func48 Tryz.ntmps48 ?_
 refine ns ⟨[(0,i6 a0),(1,zJ a1)],[]⟩ ?_
 refine sr (vo 1300 (zJ a1) rfl rfl (vr (.bool false) (nk ⟨[(0,i6 a0),(3,ow 3)],[(3,bk (zJ a1))]⟩ (yC ?_))))
 obtain ⟨y6,hy7,hk8⟩:=bind_some h
 clear h
 refine yN (emb:=fun (s:Bool)=>⟨[(0,i6 a0),(3,ow 3),(15,.bool s)],[(3,bk (zJ a1))]⟩) (kG:=fun s=>s=y6) ?_ ?_
 ·rintro x5 rfl
  have h:=hk8
  refine ns ⟨[(0,i6 a0),(3,ow 3),(15,.bool x5)],[(3,bk (zJ a1))]⟩ ?_
  cases hb13:x5
  ·have h:=zW hb13 h
   refine zP rfl (yG (nj ⟨[(0,i6 a0),(3,ow 3)],[(3,bk (zJ a1))]⟩ (sr (vl (zJ a1) rfl rfl rfl rfl rfl rfl ?_))))
   obtain ⟨r15,hr16,h⟩:=bind_some h
   refine ca (yZ a1 r15 hr16) (vr (i6 r15) (nk ⟨[(0,i6 a0),(3,ow 3),(5,i6 r15)],[(3,bk (zJ a1))]⟩ (yC ?_)))
   obtain ⟨y20,hy21,hk22⟩:=bind_some h
   clear h
   refine yN (emb:=fun (s:Bool)=>⟨[(0,i6 a0),(3,ow 3),(27,.bool s)],[(3,bk (zJ a1))]⟩) (kG:=fun s=>s=y20) ?_ ?_
   ·rintro x19 rfl
    have h:=hk22
    refine ns ⟨[(0,i6 a0),(3,ow 3),(27,.bool x19)],[(3,bk (zJ a1))]⟩ ?_
    cases hb25:x19
    ·have h:=zW hb25 h
     refine zP rfl (yG (nj ⟨[(0,i6 a0),(3,ow 3)],[(3,bk (zJ a1))]⟩ (sr (vr (i6 a0) (vl (zJ a1) rfl rfl rfl rfl rfl rfl ?_)))))
     obtain ⟨r27,hr28,h⟩:=bind_some h
     refine ca (zjr a0 a1 r27 hr28) (vr (.tuple [(zJ r27.1),(i6 r27.2)]) (vb (zJ r27.1) rfl rfl (vb (i6 r27.2) rfl rfl (vo 1600 (yF) rfl rfl (vs (zJ r27.1) rfl rfl (fun _=>rfl) rfl rfl rfl rfl rfl rfl (vr (i6 r27.2) (nk ⟨[(0,i6 a0),(3,ow 3),(6,ow 6)],[(3,bk (zJ a1)),(6,bk (zJ r27.1))]⟩ (sr (vr (i6 a0) ?_)))))))))
     refine vl (zJ a1) rfl rfl rfl rfl rfl rfl (vl (zJ r27.1) rfl rfl rfl rfl rfl rfl ?_)
     obtain ⟨r32,hr33,h⟩:=bind_some h
     refine ca (zjy a0 a1 r27.1 r32 hr33) ?_
     obtain ⟨r34,hr35,h⟩:=bind_some h
     refine ca (yZ r32 r34 hr35) (vr (.bool (r34 == 0)) (vr (.bool (r34 == 0)) (nx _ rfl (zU ?_))))
     refine ⟨.inr rfl,?_⟩
     rw [Tryz.results48]
     cases h
     exact ⟨_,_,_,_,_,rfl,trivial,.inl ⟨rfl,.inl rfl⟩,rfl,rfl⟩
    ·have h:=zV hb25 h
     refine zO rfl (sr (vr (.bool false) (nx _ rfl (zU (xV ?_)))))
     refine ⟨.inr rfl,?_⟩
     rw [Tryz.results48]
     cases h
     exact ⟨_,_,_,_,_,rfl,trivial,.inl ⟨rfl,.inl rfl⟩,rfl,rfl⟩
   ·have h:=hy21
    refine zR (vr (i6 r15) (vr (.bool (r15 != 1)) (vr (.bool (r15 != 1)) ?_)))
    cases hb23:(r15 != 1)
    ·have h:=zW hb23 h
     refine zD rfl (zD rfl (vr (.bool false) (vr (.bool false) (zD rfl (zD rfl (vr (.bool false) (yJ ?_)))))))
     exact jl false h
    ·have h:=zV hb23 h
     refine gp (i6 r15) rfl rfl (gp (.bool (r15 != 3)) rfl rfl (vr (.bool (r15 != 3)) (vr (.bool (r15 != 3)) ?_)))
     cases hb24:(r15 != 3)
     ·have h:=zW hb24 h
      refine zD rfl (zD rfl (vr (.bool false) (yJ ?_)))
      exact jl false h
     ·have h:=zV hb24 h
      refine gp (i6 r15) rfl rfl (gp (.bool (r15 != 5)) rfl rfl (vr (.bool (r15 != 5)) (yJ ?_)))
      exact jl (r15 != 5) h
  ·have h:=zV hb13 h
   refine zO rfl (sr (vr (.bool false) (nx _ rfl (zU (xV ?_)))))
   refine ⟨.inr rfl,?_⟩
   rw [Tryz.results48]
   cases h
   exact ⟨_,_,_,_,_,rfl,trivial,.inl ⟨rfl,.inl rfl⟩,rfl,rfl⟩
 ·have h:=hy7
  refine zR (vr (i6 a0) (vl (zJ a1) rfl rfl rfl rfl rfl rfl ?_))
  obtain ⟨r10,hr11,h⟩:=bind_some h
  refine ca (ze6 a0 a1 r10 hr11) (vr (.bool (!r10)) (vr (.bool (!r10)) ?_))
  cases hb12:(!r10)
  ·have h:=zW hb12 h
   refine gp (i6 a0) rfl rfl (gp (.bool (a0 == 2)) rfl rfl (vr (.bool (a0 == 2)) (yJ ?_)))
   exact jl (a0 == 2) h
  ·have h:=zV hb12 h
   refine zD rfl (zD rfl (vr (.bool true) (yJ ?_)))
   exact jl true h
end Go.Proofs.YtebfhlnfmkhmcaaGreat
