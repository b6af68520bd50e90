/- Functions of the program: plain Lean functions, and that the program computes them. Printed by gen.py. -/
import Derived.Test.YtebfhlnfmkhmcaaGreatFnT
import Derived.Test.YtebfhlnfmkhmcaaGreatFn1
import Derived.Test.YtebfhlnfmkhmcaaGreatFn2
namespace Go.Proofs.YtebfhlnfmkhmcaaGreat
open Go.Abs Go.Proofs
set_option linter.unusedSimpArgs false
set_option linter.unusedVariables false
set_option maxHeartbeats 16000000
attribute [local irreducible] Abs.acode Abs.aops Abs.aopsT Abs.thenK Abs.blockK

noncomputable def zer:ACode:=mO [(11,1),(14,1),(19,1),(36,1),(43,1),(51,1),(56,1),(60,1),(62,1)] (Tryz.f28.body.getD .skip)
def zjn:Live:=[(0,[0]),(1,[0,3]),(2,[0,3,4]),(3,[0,3,4,5]),(4,[0,3,4]),(5,[0,3,4,5]),(6,[0,3,4,5,6]),(7,[0,3,4,5,6,7]),(8,[0,3,4,5,6,7]),(9,[0,3,4,5,6,7]),(10,[0,3,4,5,6,7]),(11,[0,3,4,5,6,7,8]),(12,[0,3,4,5,6,7,8]),(13,[0,3,4,5,6,7,8]),(14,[0,3,4,5,6,7]),(15,[0,3,4,5,6,7]),(16,[0,3,4,6]),(17,[0,3,4,6,51]),(18,[0,3,6]),(19,[0,3,4,6,51]),(20,[0,3,4,6]),(21,[3,4,6]),(100021,[0,3,4,5,21]),(100024,[0,3,4,5,6,7,24]),(100030,[0,3,4,5,6,7,8,30]),(100049,[0,3,4,5,6,7,49]),(100052,[0,3,4,6,51,52]),(100057,[0,3,4,6,57])]
noncomputable def uA (x21:Int) (r1:(Int×((List Int)×Int×Int))) (x437:Int) (x438:(Vec Int 64)) (x439:((List Int)×Int×Int)):Option ((Int×(Vec Int 64)×((List Int)×Int×Int))⊕((Vec Int 64)×((List Int)×Int×Int))) :=
 (if (decide (x437 < x21)) then (Option.bind (zS x439 r1.1) fun r450=>(jA (0≤x437∧x437 < ((64:Nat):Int)) ((some (.inl ((IntKind.i64.wrap (x437 + 1),(yO x438 x437.toNat (IntKind.u8.wrap r450.1)),r450.2))))))) else (some (.inr (x438,x439))))
noncomputable def vD (x21:Int) (r1:(Int×((List Int)×Int×Int))) (x325:Int) (x326:(Vec Int 64)) (x327:((List Int)×Int×Int)):Option ((Int×(Vec Int 64)×((List Int)×Int×Int))⊕((Vec Int 64)×((List Int)×Int×Int))) :=
 (if (decide (x325 < 6)) then (Option.bind (α:=((Vec Int 64)×((List Int)×Int×Int))) ((yK (fun s:(Int×(Vec Int 64)×((List Int)×Int×Int))=>uA x21 r1 s.1 s.2.1 s.2.2) (0,(yH 64 (0:Int)),x327))) fun ⟨x426,x427⟩=>(Option.bind (zS x427 (IntKind.i64.wrap (r1.1 - 1))) fun r456=>(jA (0≤x21∧x21 < ((64:Nat):Int)) ((kR ((yO x426 x21.toNat (IntKind.u8.wrap (IntKind.i64.wrap (1 + r456.1))))) fun x462=>(Option.bind (za7 r1.1 x462) fun r464=>(if r464 then (some (.inr ((((yO x426 x21.toNat (IntKind.u8.wrap (IntKind.i64.wrap (1 + r456.1)))),r456.2))))) else (some (.inl ((IntKind.i64.wrap (x325 + 1),(yO x426 x21.toNat (IntKind.u8.wrap (IntKind.i64.wrap (1 + r456.1)))),r456.2))))))))))) else (some (.inr (x326,x327))))
noncomputable def wS (a0:((List Int)×Int×Int)):Option (Int×(Vec Int 64)×((List Int)×Int×Int)) :=
 (Option.bind (wA a0 ([3,3,5,7])) fun r1=>(Option.bind (wA r1.2 ([1,3,3,5,5])) fun r4=>(Option.bind (α:=(Int×((List Int)×Int×Int))) ((Option.bind (α:=(Bool×((List Int)×Int×Int))) ((if (r1.1 == 7) then (Option.bind (zS r4.2 3) fun r36=>(some (((decide (r36.1 > 0)),r36.2)))) else (some (false,r4.2)))) fun ⟨x30,x31⟩=>(if x30 then (some (3,x31)) else (some (r4.1,x31))))) fun ⟨x21,x22⟩=>(Option.bind (α:=((Vec Int 64)×((List Int)×Int×Int))) ((yK (fun s:(Int×(Vec Int 64)×((List Int)×Int×Int))=>vD x21 r1 s.1 s.2.1 s.2.2) (0,(yH 64 (0:Int)),x22))) fun ⟨x252,x253⟩=>(Option.bind (α:=(Int×(Vec Int 64)×((List Int)×Int×Int))) ((Option.bind (zS x253 40) fun r490=>(if (r490.1 == 0) then (Option.bind (wA r490.2 ([2,4,9])) fun r503=>(some (r503.1,x252,r503.2))) else (if (r490.1 == 1) then (Option.bind (zS r490.2 7) fun r495=>(Option.bind (zS r495.2 8) fun r498=>(jA (0≤r495.1∧r495.1 < ((64:Nat):Int)) ((some ((r1.1,(yO x252 r495.1.toNat (IntKind.u8.wrap r498.1)),r498.2))))))) else (some (r1.1,x252,r490.2)))))) fun ⟨x484,x485,x486⟩=>(some (x484,x485,x486)))))))
theorem vY (a0:((List Int)×Int×Int)) (r:(Int×(Vec Int 64)×((List Int)×Int×Int))) (h:wS a0=some r):Den Tryz.prog 28 [(.mutp (zB a0))] { r:=(.tuple [(i6 r.1),(zJ r.2.1)]),ms:=[(zB r.2.2)],fs:=[] }:=by
 refine zed (rs:=[(i6 r.1),(zJ r.2.1)]) (ac:=zer) (L:=zjn) (n:=67) (m:=[(11,1),(14,1),(19,1),(36,1),(43,1),(51,1),(56,1),(60,1),(62,1)]) (c:=Tryz.f28.body.getD .skip) xL Tryz.func28 (by kernel_rfl) (by kernel_rfl) Tryz.ntmps28 rfl rfl (by kernel_rfl) rfl ?_
 refine ns ⟨[(0,ow 1000000)],[(1000000,bk (zB a0))]⟩ ?_
 unfold zer
 refine sr (vr (i6 0) (vo 1300 (yF) rfl rfl (nk ⟨[(0,ow 1000000),(3,ow 3)],[(3,bk (yF)),(1000000,bk (zB a0))]⟩ (sr (vr (ow 1000000) (vq (.sl 1 true (([3,3,5,7]).map (AV.int .i64))) rfl ⟨(yS rfl),(yS rfl),(all_cons ⟨(yS rfl),rfl⟩ (all_cons ⟨(yS rfl),rfl⟩ (all_cons ⟨(yS rfl),rfl⟩ (all_cons ⟨(yS rfl),rfl⟩ all_nil))))⟩ ?_))))))
 obtain ⟨r1,hr2,h⟩:=bind_some h
 refine xD (args:=[(.mutp (zB a0)),(.sl 1 true (([3,3,5,7]).map (AV.int .i64)))]) (i:=0) (id:=1000000) (r:=(i6 r1.1)) (c:=(zB r1.2)) rfl rfl (Den.argsM (vA a0 ([3,3,5,7]) r1 hr2) rfl rfl (.cons (.loose _) .nil)) rfl trivial (vr (i6 r1.1) (nk ⟨[(0,ow 1000000),(3,ow 3),(4,i6 r1.1)],[(3,bk (yF)),(1000000,bk (zB r1.2))]⟩ (sr (vr (ow 1000000) (vq (.sl 1 true (([1,3,3,5,5]).map (AV.int .i64))) rfl ⟨(yS rfl),(yS rfl),(all_cons ⟨(yS rfl),rfl⟩ (all_cons ⟨(yS rfl),rfl⟩ (all_cons ⟨(yS rfl),rfl⟩ (all_cons ⟨(yS rfl),rfl⟩ (all_cons ⟨(yS rfl),rfl⟩ all_nil)))))⟩ ?_)))))
 obtain ⟨r4,hr5,h⟩:=bind_some h
 refine xD (args:=[(.mutp (zB r1.2)),(.sl 1 true (([1,3,3,5,5]).map (AV.int .i64)))]) (i:=0) (id:=1000000) (r:=(i6 r4.1)) (c:=(zB r4.2)) rfl rfl (Den.argsM (vA r1.2 ([1,3,3,5,5]) r4 hr5) rfl rfl (.cons (.loose _) .nil)) rfl trivial (vr (i6 r4.1) (nk ⟨[(0,ow 1000000),(3,ow 3),(4,i6 r1.1),(5,i6 r4.1)],[(3,bk (yF)),(1000000,bk (zB r4.2))]⟩ ?_))
 obtain ⟨y23,hy24,hk25⟩:=bind_some h
 clear h
 refine yN (emb:=fun (s:(Int×((List Int)×Int×Int)))=>⟨[(0,ow 1000000),(3,ow 3),(4,i6 r1.1),(5,i6 s.1)],[(3,bk (yF)),(1000000,bk (zB s.2))]⟩) (kG:=fun s=>s=y23) ?_ ?_
 ·rintro ⟨x21,x22⟩ rfl
  have h:=hk25
  refine ns ⟨[(0,ow 1000000),(3,ow 3),(4,i6 r1.1),(5,i6 x21)],[(3,bk (yF)),(1000000,bk (zB x22))]⟩ (sr (vq (yF) rfl ⟨⟨_,rfl,rfl⟩,all_nil⟩ (vo 1600 (yF) rfl rfl (vs (yF) rfl rfl (fun _=>rfl) rfl rfl rfl rfl rfl rfl (nk ⟨[(0,ow 1000000),(3,ow 3),(4,i6 r1.1),(5,i6 x21),(6,ow 6)],[(3,bk (yF)),(6,bk (yF)),(1000000,bk (zB x22))]⟩ ?_)))))
  obtain ⟨y254,hy255,hk256⟩:=bind_some h
  clear h
  refine yN (emb:=fun (s:((Vec Int 64)×((List Int)×Int×Int)))=>⟨[(0,ow 1000000),(3,ow 3),(4,i6 r1.1),(6,ow 6)],[(3,bk (yF)),(6,bk (zJ s.1)),(1000000,bk (zB s.2))]⟩) (kG:=fun s=>s=y254) ?_ ?_
  ·rintro ⟨x252,x253⟩ rfl
   have h:=hk256
   refine ns ⟨[(0,ow 1000000),(3,ow 3),(4,i6 r1.1),(6,ow 6)],[(3,bk (yF)),(6,bk (zJ x252)),(1000000,bk (zB x253))]⟩ ?_
   obtain ⟨y487,hy488,hk489⟩:=bind_some h
   clear h
   refine yN (emb:=fun (s:(Int×(Vec Int 64)×((List Int)×Int×Int)))=>⟨[(3,ow 3),(4,i6 s.1),(6,ow 6)],[(3,bk (yF)),(6,bk (zJ s.2.1)),(1000000,bk (zB s.2.2))]⟩) (kG:=fun s=>s=y487) ?_ ?_
   ·rintro ⟨x484,x485,x486⟩ rfl
    have h:=hk489
    refine ns ⟨[(3,ow 3),(4,i6 x484),(6,ow 6)],[(3,bk (yF)),(6,bk (zJ x485)),(1000000,bk (zB x486))]⟩ (yC (xH [⟨[],[],[],[]⟩,⟨[6],[],[],[]⟩,⟨[],[],[],[0]⟩,⟨[3],[3],[],[0,1,2]⟩] (by kernel_rfl) (dj (i6 x484) rfl (zH (vl (zJ x485) rfl rfl rfl rfl rfl rfl (dn (dj (i6 x484) rfl (zH (vs (zJ x485) rfl rfl (fun _=>rfl) rfl rfl rfl rfl rfl rfl ?_)))))))))
    refine dn (xE (wC rfl (zU ?_)))
    have hl510:LdOk [] (zJ x485) [] 64 true (zJ x485):=(.nil rfl rfl rfl)
    refine ⟨.inr rfl,?_⟩
    rw [Tryz.results28]
    cases h
    exact ⟨[],⟨_,_,_,_,_,rfl,trivial,rfl,.inl ⟨rfl,.inl rfl,⟨_,_,_,_,_,zM (i:=⟨.arr 64 5,64,64,(zJ (yH 64 (0:Int)))⟩) rfl rfl rfl hl510,hl510.c,rfl,.inl ⟨rfl,.inl rfl,⟨rfl,rfl,rfl⟩⟩⟩⟩⟩,rfl,⟨_,_,rfl,rfl,rfl⟩⟩
   ·have h:=hy488
    refine sr (vr (ow 1000000) ?_)
    obtain ⟨r490,hr491,h⟩:=bind_some h
    refine xD (args:=[(.mutp (zB x253)),(i6 40)]) (i:=0) (id:=1000000) (r:=(i6 r490.1)) (c:=(zB r490.2)) rfl rfl (yA x253 40 r490 hr491) rfl trivial (nk ⟨[(0,ow 1000000),(3,ow 3),(4,i6 r1.1),(6,ow 6),(51,i6 r490.1)],[(3,bk (yF)),(6,bk (zJ x252)),(1000000,bk (zB r490.2))]⟩ (yB (sr (vr (.bool (r490.1 == 0)) (vr (.bool (r490.1 == 0)) (nk ⟨[(0,ow 1000000),(3,ow 3),(4,i6 r1.1),(6,ow 6),(51,i6 r490.1),(52,.bool (r490.1 == 0))],[(3,bk (yF)),(6,bk (zJ x252)),(1000000,bk (zB r490.2))]⟩ ?_))))))
    cases hb493:(r490.1 == 0)
    ·have h:=zW hb493 h
     refine zP rfl (sr (vr (.bool (r490.1 == 1)) (vr (.bool (r490.1 == 1)) (nk ⟨[(0,ow 1000000),(3,ow 3),(4,i6 r1.1),(6,ow 6),(57,.bool (r490.1 == 1))],[(3,bk (yF)),(6,bk (zJ x252)),(1000000,bk (zB r490.2))]⟩ ?_))))
     cases hb494:(r490.1 == 1)
     ·have h:=zW hb494 h
      refine zP rfl (yG (xI ?_))
      exact jl (r1.1,x252,r490.2) h
     ·have h:=zV hb494 h
      refine zO rfl (zR (vr (ow 1000000) ?_))
      obtain ⟨r495,hr496,h⟩:=bind_some h
      refine xD (args:=[(.mutp (zB r490.2)),(i6 7)]) (i:=0) (id:=1000000) (r:=(i6 r495.1)) (c:=(zB r495.2)) rfl rfl (yA r490.2 7 r495 hr496) rfl trivial (vr (ow 1000000) ?_)
      obtain ⟨r498,hr499,h⟩:=bind_some h
      refine xD (args:=[(.mutp (zB r495.2)),(i6 8)]) (i:=0) (id:=1000000) (r:=(i6 r498.1)) (c:=(zB r498.2)) rfl rfl (yA r495.2 8 r498 hr499) rfl trivial (vr (b8 (IntKind.u8.wrap r498.1)) ?_)
      obtain ⟨hc501,h⟩:=zT h
      refine vq (.own 6 [r495.1.toNat] [r495.1.toNat*1]) rfl hc501 ?_
      have hs502:StOk [r495.1.toNat] (zJ x252) [r495.1.toNat*1] 1 (b8 (IntKind.u8.wrap r498.1)) (zJ ((yO x252 r495.1.toNat (IntKind.u8.wrap r498.1)))):=(.arr (y:=IntKind.u8.wrap r498.1) (vlt x252 hc501) rfl (.nil rfl rfl rfl rfl))
      refine vu .top [(6,bk (zJ ((yO x252 r495.1.toNat (IntKind.u8.wrap r498.1)))))] (qG (i:=⟨.int .u8,1,1,(.int .u8 0)⟩) rfl rfl (fun _=>rfl) rfl hs502) (hs502.c rfl) rfl (yJ (xI ?_))
      exact jl ((r1.1,(yO x252 r495.1.toNat (IntKind.u8.wrap r498.1)),r498.2)) h
    ·have h:=zV hb493 h
     refine zO rfl (zR (vr (ow 1000000) (vq (.sl 1 true (([2,4,9]).map (AV.int .i64))) rfl ⟨(yS rfl),(yS rfl),(all_cons ⟨(yS rfl),rfl⟩ (all_cons ⟨(yS rfl),rfl⟩ (all_cons ⟨(yS rfl),rfl⟩ all_nil)))⟩ ?_)))
     obtain ⟨r503,hr504,h⟩:=bind_some h
     refine xD (args:=[(.mutp (zB r490.2)),(.sl 1 true (([2,4,9]).map (AV.int .i64)))]) (i:=0) (id:=1000000) (r:=(i6 r503.1)) (c:=(zB r503.2)) rfl rfl (Den.argsM (vA r490.2 ([2,4,9]) r503 hr504) rfl rfl (.cons (.loose _) .nil)) rfl trivial (vr (i6 r503.1) (yJ (xI ?_)))
     exact jl (r503.1,x252,r503.2) h
  ·have h:=hy255
   refine sr (vr (i6 0) (nk ⟨[(0,ow 1000000),(3,ow 3),(4,i6 r1.1),(5,i6 x21),(6,ow 6),(7,i6 0)],[(3,bk (yF)),(6,bk (yF)),(1000000,bk (zB x22))]⟩ (yB ?_)))
   refine xU (emb:=fun (s:(Int×(Vec Int 64)×((List Int)×Int×Int)))=>⟨[(0,ow 1000000),(3,ow 3),(4,i6 r1.1),(5,i6 x21),(6,ow 6),(7,i6 s.1)],[(3,bk (yF)),(6,bk (zJ s.2.1)),(1000000,bk (zB s.2.2))]⟩) (body:=(fun s:(Int×(Vec Int 64)×((List Int)×Int×Int))=>vD x21 r1 s.1 s.2.1 s.2.2)) (G:=fun q=>some q=some y254) h rfl ?_ (by kernel_rfl)
   rintro X396 ⟨x325,x326,x327⟩ x397 h hX398
   have h:vD x21 r1 x325 x326 x327=some x397:=h
   refine ns ⟨[(0,ow 1000000),(3,ow 3),(4,i6 r1.1),(5,i6 x21),(6,ow 6),(7,i6 x325)],[(3,bk (yF)),(6,bk (zJ x326)),(1000000,bk (zB x327))]⟩ (yC (sr (vr (i6 x325) (vr (.bool ((decide (x325 < 6)))) (nk ⟨[(0,ow 1000000),(3,ow 3),(4,i6 r1.1),(5,i6 x21),(6,ow 6),(7,i6 x325),(24,.bool ((decide (x325 < 6))))],[(3,bk (yF)),(6,bk (zJ x326)),(1000000,bk (zB x327))]⟩ ?_)))))
   cases hb399:(decide (x325 < 6))
   ·have h:=zW hb399 h
    refine zP rfl (xR (yI ?_))
    cases h
    have h:=hX398
    refine yI (xQ ?_)
    exact jl (x326,x327) h
   ·have h:=zV hb399 h
    refine zO rfl (yG (nj ⟨[(0,ow 1000000),(3,ow 3),(4,i6 r1.1),(5,i6 x21),(6,ow 6),(7,i6 x325)],[(3,bk (yF)),(6,bk (zJ x326)),(1000000,bk (zB x327))]⟩ (yC (yB (sr (vq (yF) rfl ⟨⟨_,rfl,rfl⟩,all_nil⟩ (vs (yF) rfl rfl (fun _=>rfl) rfl rfl rfl rfl rfl rfl (nk ⟨[(0,ow 1000000),(3,ow 3),(4,i6 r1.1),(5,i6 x21),(6,ow 6),(7,i6 x325)],[(3,bk (yF)),(6,bk (yF)),(1000000,bk (zB x327))]⟩ ?_))))))))
    obtain ⟨y428,hy429,hk430⟩:=bind_some h
    clear h
    refine yN (emb:=fun (s:((Vec Int 64)×((List Int)×Int×Int)))=>⟨[(0,ow 1000000),(3,ow 3),(4,i6 r1.1),(5,i6 x21),(6,ow 6),(7,i6 x325)],[(3,bk (yF)),(6,bk (zJ s.1)),(1000000,bk (zB s.2))]⟩) (kG:=fun s=>s=y428) ?_ ?_
    ·rintro ⟨x426,x427⟩ rfl
     have h:=hk430
     refine ns ⟨[(0,ow 1000000),(3,ow 3),(4,i6 r1.1),(5,i6 x21),(6,ow 6),(7,i6 x325)],[(3,bk (yF)),(6,bk (zJ x426)),(1000000,bk (zB x427))]⟩ (sr (vr (i6 x21) (vr (ow 1000000) (vr (i6 r1.1) (vr (i6 (IntKind.i64.wrap (r1.1 - 1))) ?_)))))
     obtain ⟨r456,hr457,h⟩:=bind_some h
     refine xD (args:=[(.mutp (zB x427)),(i6 (IntKind.i64.wrap (r1.1 - 1)))]) (i:=0) (id:=1000000) (r:=(i6 r456.1)) (c:=(zB r456.2)) rfl rfl (yA x427 (IntKind.i64.wrap (r1.1 - 1)) r456 hr457) rfl trivial (vr (i6 (IntKind.i64.wrap (1 + r456.1))) (vr (b8 (IntKind.u8.wrap (IntKind.i64.wrap (1 + r456.1)))) ?_))
     obtain ⟨hc459,h⟩:=zT h
     refine vq (.own 6 [x21.toNat] [x21.toNat*1]) rfl hc459 ?_
     have hs460:StOk [x21.toNat] (zJ x426) [x21.toNat*1] 1 (b8 (IntKind.u8.wrap (IntKind.i64.wrap (1 + r456.1)))) (zJ ((yO x426 x21.toNat (IntKind.u8.wrap (IntKind.i64.wrap (1 + r456.1)))))):=(.arr (y:=IntKind.u8.wrap (IntKind.i64.wrap (1 + r456.1))) (vlt x426 hc459) rfl (.nil rfl rfl rfl rfl))
     refine vu .top [(6,bk (zJ ((yO x426 x21.toNat (IntKind.u8.wrap (IntKind.i64.wrap (1 + r456.1)))))))] (qG (i:=⟨.int .u8,1,1,(.int .u8 0)⟩) rfl rfl (fun _=>rfl) rfl hs460) (hs460.c rfl) rfl (nk ⟨[(0,ow 1000000),(3,ow 3),(4,i6 r1.1),(5,i6 x21),(6,ow 6),(7,i6 x325)],[(3,bk (yF)),(6,bk (zJ ((yO x426 x21.toNat (IntKind.u8.wrap (IntKind.i64.wrap (1 + r456.1))))))),(1000000,bk (zB r456.2))]⟩ (sr (vr (i6 r1.1) ?_)))
     have hl461:LdOk [] (zJ ((yO x426 x21.toNat (IntKind.u8.wrap (IntKind.i64.wrap (1 + r456.1)))))) [] 64 true (zJ ((yO x426 x21.toNat (IntKind.u8.wrap (IntKind.i64.wrap (1 + r456.1)))))):=(.nil rfl rfl rfl)
     obtain ⟨x462,hx463,h⟩:=xP h
     refine qI (v:=(zJ ((yO x426 x21.toNat (IntKind.u8.wrap (IntKind.i64.wrap (1 + r456.1))))))) (v':=(zJ x462)) (u:=[]) (u':=[]) (zM (i:=⟨.arr 64 5,64,64,(zJ (yH 64 (0:Int)))⟩) rfl rfl rfl hl461) (congrArg (fun z=>((zJ z):AV)) hx463) rfl hl461.c rfl ?_
     obtain ⟨r464,hr465,h⟩:=bind_some h
     refine ca (zbs r1.1 x462 r464 hr465) (nk ⟨[(0,ow 1000000),(3,ow 3),(4,i6 r1.1),(5,i6 x21),(6,ow 6),(7,i6 x325),(49,.bool r464)],[(3,bk (yF)),(6,bk (zJ ((yO x426 x21.toNat (IntKind.u8.wrap (IntKind.i64.wrap (1 + r456.1))))))),(1000000,bk (zB r456.2))]⟩ ?_)
     cases hb466:r464
     ·have h:=zW hb466 h
      refine zP rfl (yG (xI (nj ⟨[(0,ow 1000000),(3,ow 3),(4,i6 r1.1),(5,i6 x21),(6,ow 6),(7,i6 x325)],[(3,bk (yF)),(6,bk (zJ ((yO x426 x21.toNat (IntKind.u8.wrap (IntKind.i64.wrap (1 + r456.1))))))),(1000000,bk (zB r456.2))]⟩ (zR (vr (i6 x325) (vr (i6 (IntKind.i64.wrap (x325 + 1))) (vr (i6 (IntKind.i64.wrap (x325 + 1))) (yJ ?_))))))))
      cases h
      exact ag hX398
     ·have h:=zV hb466 h
      refine zO rfl (xR (zx8 rfl (yI ?_)))
      cases h
      have h:=hX398
      refine yI (xQ ?_)
      exact jl (((yO x426 x21.toNat (IntKind.u8.wrap (IntKind.i64.wrap (1 + r456.1)))),r456.2)) h
    ·have h:=hy429
     refine sr (vr (i6 0) (nk ⟨[(0,ow 1000000),(3,ow 3),(4,i6 r1.1),(5,i6 x21),(6,ow 6),(7,i6 x325),(8,i6 0)],[(3,bk (yF)),(6,bk (yF)),(1000000,bk (zB x327))]⟩ (yB ?_)))
     refine xU (emb:=fun (s:(Int×(Vec Int 64)×((List Int)×Int×Int)))=>⟨[(0,ow 1000000),(3,ow 3),(4,i6 r1.1),(5,i6 x21),(6,ow 6),(7,i6 x325),(8,i6 s.1)],[(3,bk (yF)),(6,bk (zJ s.2.1)),(1000000,bk (zB s.2.2))]⟩) (body:=(fun s:(Int×(Vec Int 64)×((List Int)×Int×Int))=>uA x21 r1 s.1 s.2.1 s.2.2)) (G:=fun q=>some q=some y428) h rfl ?_ (by kernel_rfl)
     rintro X446 ⟨x437,x438,x439⟩ x447 h hX448
     have h:uA x21 r1 x437 x438 x439=some x447:=h
     refine ns ⟨[(0,ow 1000000),(3,ow 3),(4,i6 r1.1),(5,i6 x21),(6,ow 6),(7,i6 x325),(8,i6 x437)],[(3,bk (yF)),(6,bk (zJ x438)),(1000000,bk (zB x439))]⟩ (yC (sr (vr (i6 x437) (vr (i6 x21) (vr (.bool ((decide (x437 < x21)))) (nk ⟨[(0,ow 1000000),(3,ow 3),(4,i6 r1.1),(5,i6 x21),(6,ow 6),(7,i6 x325),(8,i6 x437),(30,.bool ((decide (x437 < x21))))],[(3,bk (yF)),(6,bk (zJ x438)),(1000000,bk (zB x439))]⟩ ?_))))))
     cases hb449:(decide (x437 < x21))
     ·have h:=zW hb449 h
      refine zP rfl (xR (yI ?_))
      cases h
      have h:=hX448
      refine yI (xQ ?_)
      exact jl (x438,x439) h
     ·have h:=zV hb449 h
      refine zO rfl (yG (nj ⟨[(0,ow 1000000),(3,ow 3),(4,i6 r1.1),(5,i6 x21),(6,ow 6),(7,i6 x325),(8,i6 x437)],[(3,bk (yF)),(6,bk (zJ x438)),(1000000,bk (zB x439))]⟩ (yC (yB (zR (vr (i6 x437) (vr (ow 1000000) (vr (i6 r1.1) ?_))))))))
      obtain ⟨r450,hr451,h⟩:=bind_some h
      refine xD (args:=[(.mutp (zB x439)),(i6 r1.1)]) (i:=0) (id:=1000000) (r:=(i6 r450.1)) (c:=(zB r450.2)) rfl rfl (yA x439 r1.1 r450 hr451) rfl trivial (vr (b8 (IntKind.u8.wrap r450.1)) ?_)
      obtain ⟨hc453,h⟩:=zT h
      refine vq (.own 6 [x437.toNat] [x437.toNat*1]) rfl hc453 ?_
      have hs454:StOk [x437.toNat] (zJ x438) [x437.toNat*1] 1 (b8 (IntKind.u8.wrap r450.1)) (zJ ((yO x438 x437.toNat (IntKind.u8.wrap r450.1)))):=(.arr (y:=IntKind.u8.wrap r450.1) (vlt x438 hc453) rfl (.nil rfl rfl rfl rfl))
      refine vu .top [(6,bk (zJ ((yO x438 x437.toNat (IntKind.u8.wrap r450.1)))))] (qG (i:=⟨.int .u8,1,1,(.int .u8 0)⟩) rfl rfl (fun _=>rfl) rfl hs454) (hs454.c rfl) rfl (yJ (xI (nj ⟨[(0,ow 1000000),(3,ow 3),(4,i6 r1.1),(5,i6 x21),(6,ow 6),(7,i6 x325),(8,i6 x437)],[(3,bk (yF)),(6,bk (zJ ((yO x438 x437.toNat (IntKind.u8.wrap r450.1))))),(1000000,bk (zB r450.2))]⟩ (zR (vr (i6 x437) (vr (i6 (IntKind.i64.wrap (x437 + 1))) (vr (i6 (IntKind.i64.wrap (x437 + 1))) (yJ ?_))))))))
      cases h
      exact ag hX448
 ·have h:=hy24
  obtain ⟨y32,hy33,hk34⟩:=bind_some h
  clear h
  refine yN (emb:=fun (s:(Bool×((List Int)×Int×Int)))=>⟨[(0,ow 1000000),(3,ow 3),(4,i6 r1.1),(5,i6 r4.1),(21,.bool s.1)],[(3,bk (yF)),(1000000,bk (zB s.2))]⟩) (kG:=fun s=>s=y32) ?_ ?_
  ·rintro ⟨x30,x31⟩ rfl
   have h:=hk34
   refine ns ⟨[(0,ow 1000000),(3,ow 3),(4,i6 r1.1),(5,i6 r4.1),(21,.bool x30)],[(3,bk (yF)),(1000000,bk (zB x31))]⟩ ?_
   cases hb39:x30
   ·have h:=zW hb39 h
    refine zP rfl (yG ?_)
    exact jl (r4.1,x31) h
   ·have h:=zV hb39 h
    refine zO rfl (zR (vr (i6 3) (yJ ?_)))
    exact jl (3,x31) h
  ·have h:=hy33
   refine zR (vr (i6 r1.1) (vr (.bool (r1.1 == 7)) (vr (.bool (r1.1 == 7)) ?_)))
   cases hb35:(r1.1 == 7)
   ·have h:=zW hb35 h
    refine zD rfl (zD rfl (zD rfl (vr (.bool false) (yJ ?_))))
    exact jl (false,r4.2) h
   ·have h:=zV hb35 h
    refine gp (ow 1000000) rfl rfl ?_
    obtain ⟨r36,hr37,h⟩:=bind_some h
    refine zva rfl (args:=[(.mutp (zB r4.2)),(i6 3)]) (i:=0) (id:=1000000) (r:=(i6 r36.1)) (c:=(zB r36.2)) rfl rfl (yA r4.2 3 r36 hr37) rfl trivial (gp (.bool ((decide (r36.1 > 0)))) rfl rfl (vr (.bool ((decide (r36.1 > 0)))) (yJ ?_)))
    exact jl (((decide (r36.1 > 0)),r36.2)) h
def zoz:Live:=[(0,[0]),(1,[1])]
noncomputable def kS (a0:(Vec Int 64)):Option Int :=
 (Option.bind (yW a0) fun r2=>(some (IntKind.i64.wrap (Int.tdiv (IntKind.i64.wrap (r2 - 1)) 2))))
theorem zes (a0:(Vec Int 64)) (r:Int) (h:kS a0=some r):Den Tryz.prog 80 [(zJ a0)] { r:=(i6 r) }:=by
 refine dd (rs:=[(i6 r)]) (L:=zoz) xL [] Tryz.func80 Tryz.ntmps80 ?_
 refine ns ⟨[(0,zJ a0)],[]⟩ ?_
 refine sr (vo 1100 (zJ a0) rfl rfl (vr (i6 0) (nk ⟨[(1,ow 1)],[(1,bk (zJ a0))]⟩ (sr (vl (zJ a0) rfl rfl rfl rfl rfl rfl ?_)))))
 obtain ⟨r2,hr3,h⟩:=bind_some h
 refine ca (yZ a0 r2 hr3) (vr (i6 (IntKind.i64.wrap (r2 - 1))) (vq (i6 (IntKind.i64.wrap (Int.tdiv (IntKind.i64.wrap (r2 - 1)) 2))) rfl (by decide) (vr (i6 (IntKind.i64.wrap (Int.tdiv (IntKind.i64.wrap (r2 - 1)) 2))) (nx _ rfl (zU ?_)))))
 refine ⟨.inr rfl,?_⟩
 rw [Tryz.results80]
 cases h
 exact ⟨_,_,_,_,_,rfl,trivial,.inl ⟨rfl,.inl rfl⟩,rfl,rfl⟩
def zo0:Live:=[(0,[0,1]),(1,[0,1]),(2,[0,1,5]),(3,[0,1,5]),(4,[0,1,5]),(5,[5]),(100011,[0,1,5,11])]
noncomputable def vH (a0:Int) (x39:Int) (x40:Int):Option ((Int×Int)⊕Int) :=
 (Option.bind (α:=Bool) ((if (decide (x39 > 0)) then (some ((decide (x40≤1000000000000)))) else (some false))) fun x52=>(if x52 then (some (.inl ((IntKind.i64.wrap (x39 - 1),IntKind.i64.wrap (x40*a0))))) else (some (.inr x40))))
noncomputable def zda (a0:Int) (a1:Int):Option Int :=
 (Option.bind (α:=Int) ((yK (fun s:(Int×Int)=>vH a0 s.1 s.2) (a1,1))) fun x28=>(some (if 1000000000001 < x28 then 1000000000001 else x28)))
theorem zh2 (a0:Int) (a1:Int) (r:Int) (h:zda a0 a1=some r):Den Tryz.prog 103 [(i6 a0),(i6 a1)] { r:=(i6 r) }:=by
 refine dd (rs:=[(i6 r)]) (L:=zo0) xL [] Tryz.func103 Tryz.ntmps103 ?_
 refine ns ⟨[(0,i6 a0),(1,i6 a1)],[]⟩ ?_
 refine sr (vr (i6 0) (nk ⟨[(0,i6 a0),(1,i6 a1)],[]⟩ (sr (vr (i6 1) (nk ⟨[(0,i6 a0),(1,i6 a1),(5,i6 1)],[]⟩ ?_)))))
 obtain ⟨y29,hy30,hk31⟩:=bind_some h
 clear h
 refine yN (emb:=fun (s:Int)=>⟨[(5,i6 s)],[]⟩) (kG:=fun s=>s=y29) ?_ ?_
 ·rintro x28 rfl
  have h:=hk31
  refine ns ⟨[(5,i6 x28)],[]⟩ (sr (vr (i6 x28) (vr (i6 (if 1000000000001 < x28 then 1000000000001 else x28)) (vr (i6 (if 1000000000001 < x28 then 1000000000001 else x28)) (nx _ rfl (zU ?_))))))
  refine ⟨.inr rfl,?_⟩
  rw [Tryz.results103]
  cases h
  exact ⟨_,_,_,_,_,rfl,trivial,.inl ⟨rfl,.inl rfl⟩,rfl,rfl⟩
 ·have h:=hy30
  refine yB ?_
  refine xU (emb:=fun (s:(Int×Int))=>⟨[(0,i6 a0),(1,i6 s.1),(5,i6 s.2)],[]⟩) (body:=(fun s:(Int×Int)=>vH a0 s.1 s.2)) (G:=fun q=>some q=some y29) h rfl ?_ (by kernel_rfl)
  rintro X48 ⟨x39,x40⟩ x49 h hX50
  have h:vH a0 x39 x40=some x49:=h
  refine ns ⟨[(0,i6 a0),(1,i6 x39),(5,i6 x40)],[]⟩ (yC ?_)
  obtain ⟨y53,hy54,hk55⟩:=bind_some h
  clear h
  refine yN (emb:=fun (s:Bool)=>⟨[(0,i6 a0),(1,i6 x39),(5,i6 x40),(11,.bool s)],[]⟩) (kG:=fun s=>s=y53) ?_ ?_
  ·rintro x52 rfl
   have h:=hk55
   refine ns ⟨[(0,i6 a0),(1,i6 x39),(5,i6 x40),(11,.bool x52)],[]⟩ ?_
   cases hb57:x52
   ·have h:=zW hb57 h
    refine zP rfl (xR (yI ?_))
    cases h
    have h:=hX50
    refine yI (xQ ?_)
    exact jl x40 h
   ·have h:=zV hb57 h
    refine zO rfl (yG (nj ⟨[(0,i6 a0),(1,i6 x39),(5,i6 x40)],[]⟩ (yC (yB (zR (vr (i6 x40) (vr (i6 a0) (vr (i6 (IntKind.i64.wrap (x40*a0))) (vr (i6 (IntKind.i64.wrap (x40*a0))) ?_)))))))))
    refine yJ (xI (nj ⟨[(0,i6 a0),(1,i6 x39),(5,i6 (IntKind.i64.wrap (x40*a0)))],[]⟩ (zR (vr (i6 x39) (vr (i6 (IntKind.i64.wrap (x39 - 1))) (vr (i6 (IntKind.i64.wrap (x39 - 1))) (yJ ?_)))))))
    cases h
    exact ag hX50
  ·have h:=hy54
   refine zR (vr (i6 x39) (vr (.bool ((decide (x39 > 0)))) (vr (.bool ((decide (x39 > 0)))) ?_)))
   cases hb56:(decide (x39 > 0))
   ·have h:=zW hb56 h
    refine zD rfl (zD rfl (vr (.bool false) (yJ ?_)))
    exact jl false h
   ·have h:=zV hb56 h
    refine gp (i6 x40) rfl rfl (gp (.bool ((decide (x40≤1000000000000)))) rfl rfl (vr (.bool ((decide (x40≤1000000000000)))) (yJ ?_)))
    exact jl ((decide (x40≤1000000000000))) h
def ztl:Live:=[(0,[0,1]),(1,[0,1,4]),(2,[0,1,4,5]),(3,[0,1,4,5,6]),(4,[0,1,4,5,6]),(5,[0,1,4,5,6]),(6,[0,1,4,5,6]),(7,[4,5]),(100009,[0,1,4,5,6,9])]
noncomputable def zbv (a0:Int) (x33:Int) (x34:Int) (x35:(Vec Int 64)):Option ((Int×Int×(Vec Int 64))⊕(Vec Int 64)) :=
 (if (decide (x33 > 0)) then (jA (a0 ≠ 0) ((jA (0≤x34∧x34 < ((64:Nat):Int)) ((jA (a0 ≠ 0) ((some (.inl ((IntKind.i64.wrap (Int.tdiv x33 a0),IntKind.i64.wrap (x34 + 1),(yO x35 x34.toNat (IntKind.u8.wrap (Int.tmod x33 a0))))))))))))) else (some (.inr x35)))
noncomputable def zgn (a0:Int) (a1:Int):Option (Vec Int 64) :=
 (Option.bind (α:=(Vec Int 64)) ((yK (fun s:(Int×Int×(Vec Int 64))=>zbv a0 s.1 s.2.1 s.2.2) (a1,0,(yH 64 (0:Int))))) fun x24=>(some x24))
theorem zlf (a0:Int) (a1:Int) (r:(Vec Int 64)) (h:zgn a0 a1=some r):Den Tryz.prog 104 [(i6 a0),(i6 a1)] { r:=(zJ r) }:=by
 refine dd (rs:=[(zJ r)]) (L:=ztl) xL [] Tryz.func104 Tryz.ntmps104 ?_
 refine ns ⟨[(0,i6 a0),(1,i6 a1)],[]⟩ ?_
 refine sr (vo 1400 (yF) rfl rfl (nk ⟨[(0,i6 a0),(1,i6 a1),(4,ow 4)],[(4,bk (yF))]⟩ (sr (vq (yF) rfl ⟨⟨_,rfl,rfl⟩,all_nil⟩ (vo 1500 (yF) rfl rfl (vs (yF) rfl rfl (fun _=>rfl) rfl rfl rfl rfl rfl rfl (nk ⟨[(0,i6 a0),(1,i6 a1),(4,ow 4),(5,ow 5)],[(4,bk (yF)),(5,bk (yF))]⟩ ?_)))))))
 obtain ⟨y25,hy26,hk27⟩:=bind_some h
 clear h
 refine yN (emb:=fun (s:(Vec Int 64))=>⟨[(4,ow 4),(5,ow 5)],[(4,bk (yF)),(5,bk (zJ s))]⟩) (kG:=fun s=>s=y25) ?_ ?_
 ·rintro x24 rfl
  have h:=hk27
  refine ns ⟨[(4,ow 4),(5,ow 5)],[(4,bk (yF)),(5,bk (zJ x24))]⟩ (sr (vl (zJ x24) rfl rfl rfl rfl rfl rfl (vs (zJ x24) rfl rfl (fun _=>rfl) rfl rfl rfl rfl rfl rfl (nx _ rfl (zU ?_)))))
  have hl52:LdOk [] (zJ x24) [] 64 true (zJ x24):=(.nil rfl rfl rfl)
  refine ⟨.inr rfl,?_⟩
  rw [Tryz.results104]
  cases h
  exact ⟨_,_,_,_,_,zM (i:=⟨.arr 64 5,64,64,(zJ (yH 64 (0:Int)))⟩) rfl rfl rfl hl52,hl52.c,.inl ⟨rfl,.inl rfl⟩,rfl,rfl⟩
 ·have h:=hy26
  refine sr (vr (i6 0) (nk ⟨[(0,i6 a0),(1,i6 a1),(4,ow 4),(5,ow 5),(6,i6 0)],[(4,bk (yF)),(5,bk (yF))]⟩ (yB ?_)))
  refine xU (emb:=fun (s:(Int×Int×(Vec Int 64)))=>⟨[(0,i6 a0),(1,i6 s.1),(4,ow 4),(5,ow 5),(6,i6 s.2.1)],[(4,bk (yF)),(5,bk (zJ s.2.2))]⟩) (body:=(fun s:(Int×Int×(Vec Int 64))=>zbv a0 s.1 s.2.1 s.2.2)) (G:=fun q=>some q=some y25) h rfl ?_ (by kernel_rfl)
  rintro X41 ⟨x33,x34,x35⟩ x42 h hX43
  have h:zbv a0 x33 x34 x35=some x42:=h
  refine ns ⟨[(0,i6 a0),(1,i6 x33),(4,ow 4),(5,ow 5),(6,i6 x34)],[(4,bk (yF)),(5,bk (zJ x35))]⟩ (yC (sr (vr (i6 x33) (vr (.bool ((decide (x33 > 0)))) (nk ⟨[(0,i6 a0),(1,i6 x33),(4,ow 4),(5,ow 5),(6,i6 x34),(9,.bool ((decide (x33 > 0))))],[(4,bk (yF)),(5,bk (zJ x35))]⟩ ?_)))))
  cases hb44:(decide (x33 > 0))
  ·have h:=zW hb44 h
   refine zP rfl (xR (yI ?_))
   cases h
   have h:=hX43
   refine yI (xQ ?_)
   exact jl x35 h
  ·have h:=zV hb44 h
   refine zO rfl (yG (nj ⟨[(0,i6 a0),(1,i6 x33),(4,ow 4),(5,ow 5),(6,i6 x34)],[(4,bk (yF)),(5,bk (zJ x35))]⟩ (yC (yB (sr (vr (i6 x34) (vr (i6 x33) (vr (i6 a0) ?_))))))))
   obtain ⟨hc45,h⟩:=zT h
   refine vq (i6 (Int.tmod x33 a0)) rfl hc45 (vr (b8 (IntKind.u8.wrap (Int.tmod x33 a0))) ?_)
   obtain ⟨hc46,h⟩:=zT h
   refine vq (.own 5 [x34.toNat] [x34.toNat*1]) rfl hc46 ?_
   have hs47:StOk [x34.toNat] (zJ x35) [x34.toNat*1] 1 (b8 (IntKind.u8.wrap (Int.tmod x33 a0))) (zJ ((yO x35 x34.toNat (IntKind.u8.wrap (Int.tmod x33 a0))))):=(.arr (y:=IntKind.u8.wrap (Int.tmod x33 a0)) (vlt x35 hc46) rfl (.nil rfl rfl rfl rfl))
   refine vu .top [(5,bk (zJ ((yO x35 x34.toNat (IntKind.u8.wrap (Int.tmod x33 a0))))))] (qG (i:=⟨.int .u8,1,1,(.int .u8 0)⟩) rfl rfl (fun _=>rfl) rfl hs47) (hs47.c rfl) rfl (nk ⟨[(0,i6 a0),(1,i6 x33),(4,ow 4),(5,ow 5),(6,i6 x34)],[(4,bk (yF)),(5,bk (zJ ((yO x35 x34.toNat (IntKind.u8.wrap (Int.tmod x33 a0))))))]⟩ (zR (vr (i6 x33) (vr (i6 a0) ?_))))
   obtain ⟨hc48,h⟩:=zT h
   refine vq (i6 (IntKind.i64.wrap (Int.tdiv x33 a0))) rfl hc48 (vr (i6 (IntKind.i64.wrap (Int.tdiv x33 a0))) (yJ (xI (nj ⟨[(0,i6 a0),(1,i6 (IntKind.i64.wrap (Int.tdiv x33 a0))),(4,ow 4),(5,ow 5),(6,i6 x34)],[(4,bk (yF)),(5,bk (zJ ((yO x35 x34.toNat (IntKind.u8.wrap (Int.tmod x33 a0))))))]⟩ (zR (vr (i6 x34) (vr (i6 (IntKind.i64.wrap (x34 + 1))) (vr (i6 (IntKind.i64.wrap (x34 + 1))) (yJ ?_)))))))))
   cases h
   exact ag hX43
def zov:Live:=[(0,[0]),(1,[1]),(2,[1,3])]
noncomputable def zdc (a0:(Vec Int 64)):Option Bool :=
 (Option.bind (yW a0) fun r2=>(if (decide (r2 ≥ 0)) then (jA (0≤r2∧r2 < ((64:Nat):Int)) ((some (((rd a0.1 r2.toNat) == 1))))) else (some false)))
theorem zob (a0:(Vec Int 64)) (r:Bool) (h:zdc a0=some r):Den Tryz.prog 93 [(zJ a0)] { r:=(.bool r) }:=by
 refine dd (rs:=[(.bool r)]) (L:=zov) xL [] Tryz.func93 Tryz.ntmps93 ?_
 refine ns ⟨[(0,zJ a0)],[]⟩ ?_
 refine sr (vo 1100 (zJ a0) rfl rfl (vr (.bool false) (nk ⟨[(1,ow 1)],[(1,bk (zJ a0))]⟩ (sr (vl (zJ a0) rfl rfl rfl rfl rfl rfl ?_)))))
 obtain ⟨r2,hr3,h⟩:=bind_some h
 refine ca (yZ a0 r2 hr3) (vr (i6 r2) (nk ⟨[(1,ow 1),(3,i6 r2)],[(1,bk (zJ a0))]⟩ (sr (vr (i6 r2) (vr (.bool ((decide (r2 ≥ 0)))) (vr (.bool ((decide (r2 ≥ 0)))) ?_))))))
 cases hb4:(decide (r2 ≥ 0))
 ·have h:=zW hb4 h
  refine zD rfl (zD rfl (zD rfl (zD rfl (vr (.bool false) (vr (.bool false) (nx _ rfl (zU ?_)))))))
  refine ⟨.inr rfl,?_⟩
  rw [Tryz.results93]
  cases h
  exact ⟨_,_,_,_,_,rfl,trivial,.inl ⟨rfl,.inl rfl⟩,rfl,rfl⟩
 ·have h:=zV hb4 h
  refine gp (i6 r2) rfl rfl ?_
  obtain ⟨hc5,h⟩:=zT h
  refine gq (.own 1 [r2.toNat] [r2.toNat*1]) rfl rfl hc5 ?_
  have hl6:LdOk [r2.toNat] (zJ a0) [r2.toNat*1] 1 false (b8 (rd a0.1 r2.toNat)):=(.arr (vlt a0 hc5) rfl (.nil rfl rfl rfl))
  refine gq (b8 (rd a0.1 r2.toNat)) rfl (zM (i:=⟨.int .u8,1,1,(.int .u8 0)⟩) rfl rfl rfl hl6) hl6.c (gp (.bool (((rd a0.1 r2.toNat) == 1))) rfl rfl (vr (.bool (((rd a0.1 r2.toNat) == 1))) (vr (.bool (((rd a0.1 r2.toNat) == 1))) (nx _ rfl (zU ?_)))))
  refine ⟨.inr rfl,?_⟩
  rw [Tryz.results93]
  cases h
  exact ⟨_,_,_,_,_,rfl,trivial,.inl ⟨rfl,.inl rfl⟩,rfl,rfl⟩
def zof:Live:=[(0,[0,1,2]),(1,[0,4,5,6]),(2,[0,4,6,7])]
noncomputable def nX (a0:Int) (a1:(Vec Int 64)) (a2:(Vec Int 64)):Option (Vec Int 64) :=
 (Option.bind (xO a0 a2 a2) fun r3=>(Option.bind (xS a0 r3.1 a1 (-1)) fun r8=>(some r8)))
theorem zg2 (a0:Int) (a1:(Vec Int 64)) (a2:(Vec Int 64)) (r:(Vec Int 64)) (h:nX a0 a1 a2=some r):Den Tryz.prog 88 [(i6 a0),(zJ a1),(zJ a2)] { r:=(zJ r) }:=by
 refine dd (rs:=[(zJ r)]) (L:=zof) xL [] Tryz.func88 Tryz.ntmps88 ?_
 refine ns ⟨[(0,i6 a0),(1,zJ a1),(2,zJ a2)],[]⟩ ?_
 refine sr (vo 1400 (zJ a1) rfl rfl (vo 1500 (zJ a2) rfl rfl (vo 1600 (yF) rfl rfl (nk ⟨[(0,i6 a0),(4,ow 4),(5,ow 5),(6,ow 6)],[(4,bk (zJ a1)),(5,bk (zJ a2)),(6,bk (yF))]⟩ (sr (vr (i6 a0) (vl (zJ a2) rfl rfl rfl rfl rfl rfl (vl (zJ a2) rfl rfl rfl rfl rfl rfl ?_))))))))
 obtain ⟨r3,hr4,h⟩:=bind_some h
 refine ca (wX a0 a2 a2 r3 hr4) (vr (.tuple [(zJ r3.1),(.bool r3.2)]) (vb (zJ r3.1) rfl rfl (vb (.bool r3.2) rfl rfl (vo 1700 (yF) rfl rfl (vs (zJ r3.1) rfl rfl (fun _=>rfl) rfl rfl rfl rfl rfl rfl (vr (.bool r3.2) (nk ⟨[(0,i6 a0),(4,ow 4),(6,ow 6),(7,ow 7)],[(4,bk (zJ a1)),(6,bk (yF)),(7,bk (zJ r3.1))]⟩ (sr (vr (i6 a0) ?_)))))))))
 refine vl (zJ r3.1) rfl rfl rfl rfl rfl rfl (vl (zJ a1) rfl rfl rfl rfl rfl rfl ?_)
 obtain ⟨r8,hr9,h⟩:=bind_some h
 refine ca (wO a0 r3.1 a1 (-1) r8 hr9) (vs (zJ r8) rfl rfl (fun _=>rfl) rfl rfl rfl rfl rfl rfl (nx _ rfl (zU ?_)))
 have hl11:LdOk [] (zJ r8) [] 64 true (zJ r8):=(.nil rfl rfl rfl)
 refine ⟨.inr rfl,?_⟩
 rw [Tryz.results88]
 cases h
 exact ⟨_,_,_,_,_,zM (i:=⟨.arr 64 5,64,64,(zJ (yH 64 (0:Int)))⟩) rfl rfl rfl hl11,hl11.c,.inl ⟨rfl,.inl rfl⟩,rfl,rfl⟩
def zq7:Live:=[(0,[0,1,2]),(1,[0,4,5,6]),(2,[6,8])]
noncomputable def vV (a0:Int) (a1:(Vec Int 64)) (a2:(Vec Int 64)):Option (Vec Int 64) :=
 (Option.bind (kF a0 a1 a2) fun r3=>(some r3.2))
theorem jR (a0:Int) (a1:(Vec Int 64)) (a2:(Vec Int 64)) (r:(Vec Int 64)) (h:vV a0 a1 a2=some r):Den Tryz.prog 67 [(i6 a0),(zJ a1),(zJ a2)] { r:=(zJ r) }:=by
 refine dd (rs:=[(zJ r)]) (L:=zq7) xL [] Tryz.func67 Tryz.ntmps67 ?_
 refine ns ⟨[(0,i6 a0),(1,zJ a1),(2,zJ a2)],[]⟩ ?_
 refine sr (vo 1400 (zJ a1) rfl rfl (vo 1500 (zJ a2) rfl rfl (vo 1600 (yF) rfl rfl (nk ⟨[(0,i6 a0),(4,ow 4),(5,ow 5),(6,ow 6)],[(4,bk (zJ a1)),(5,bk (zJ a2)),(6,bk (yF))]⟩ (sr (vr (i6 a0) (vl (zJ a1) rfl rfl rfl rfl rfl rfl (vl (zJ a2) rfl rfl rfl rfl rfl rfl ?_))))))))
 obtain ⟨r3,hr4,h⟩:=bind_some h
 refine ca (mT a0 a1 a2 r3 hr4) (vr (.tuple [(zJ r3.1),(zJ r3.2)]) (vb (zJ r3.1) rfl rfl (vb (zJ r3.2) rfl rfl (vo 1700 (yF) rfl rfl (vo 1800 (yF) rfl rfl (vs (zJ r3.1) rfl rfl (fun _=>rfl) rfl rfl rfl rfl rfl rfl (vs (zJ r3.2) rfl rfl (fun _=>rfl) rfl rfl rfl rfl rfl rfl (nk ⟨[(6,ow 6),(8,ow 8)],[(6,bk (yF)),(8,bk (zJ r3.2))]⟩ (sr ?_)))))))))
 refine vl (zJ r3.2) rfl rfl rfl rfl rfl rfl (vs (zJ r3.2) rfl rfl (fun _=>rfl) rfl rfl rfl rfl rfl rfl (nx _ rfl (zU ?_)))
 have hl9:LdOk [] (zJ r3.2) [] 64 true (zJ r3.2):=(.nil rfl rfl rfl)
 refine ⟨.inr rfl,?_⟩
 rw [Tryz.results67]
 cases h
 exact ⟨_,_,_,_,_,zM (i:=⟨.arr 64 5,64,64,(zJ (yH 64 (0:Int)))⟩) rfl rfl rfl hl9,hl9.c,.inl ⟨rfl,.inl rfl⟩,rfl,rfl⟩
def zqe:Live:=[(0,[0,1,2]),(1,[0,4,5]),(2,[]),(3,[0,4,5]),(100039,[0,4,5,39])]
noncomputable def wZ (a0:Int) (a1:(Vec Int 64)) (a2:((Vec Int 64)×(Vec Int 64))):Option Bool :=
 (Option.bind (α:=Bool) ((Option.bind (zcn a0 a2.1) fun r72=>(if (!r72) then (some true) else (Option.bind (zcn a0 a2.2) fun r76=>(if (!r76) then (some true) else (Option.bind (zdc a2.1) fun r80=>(if (!r80) then (some true) else (Option.bind (yW a2.1) fun r84=>(if (decide (r84 > 12)) then (some true) else (Option.bind (yW a2.2) fun r88=>(Option.bind (yW a2.1) fun r91=>(some ((decide (r88 ≥ r91))))))))))))))) fun x45=>(if x45 then (some false) else (Option.bind (nX a0 a1 a2.2) fun r105=>(Option.bind (vV a0 r105 a2.1) fun r108=>(Option.bind (yW r108) fun r110=>(some ((decide (r110 < 0)))))))))
theorem zdi (a0:Int) (a1:(Vec Int 64)) (a2:((Vec Int 64)×(Vec Int 64))) (r:Bool) (h:wZ a0 a1 a2=some r):Den Tryz.prog 49 [(i6 a0),(zJ a1),(zA a2)] { r:=(.bool r) }:=by
 refine dd (rs:=[(.bool r)]) (L:=zqe) xL [] Tryz.func49 Tryz.ntmps49 ?_
 refine ns ⟨[(0,i6 a0),(1,zJ a1),(2,zA a2)],[]⟩ ?_
 refine sr (vo 1400 (zJ a1) rfl rfl (vo 1500 (zA a2) rfl rfl (vr (.bool false) (nk ⟨[(0,i6 a0),(4,ow 4),(5,ow 5)],[(4,bk (zJ a1)),(5,bk (zA a2))]⟩ (yC ?_)))))
 obtain ⟨y46,hy47,hk48⟩:=bind_some h
 clear h
 refine yN (emb:=fun (s:Bool)=>⟨[(0,i6 a0),(4,ow 4),(5,ow 5),(39,.bool s)],[(4,bk (zJ a1)),(5,bk (zA a2))]⟩) (kG:=fun s=>s=y46) ?_ ?_
 ·rintro x45 rfl
  have h:=hk48
  refine ns ⟨[(0,i6 a0),(4,ow 4),(5,ow 5),(39,.bool x45)],[(4,bk (zJ a1)),(5,bk (zA a2))]⟩ ?_
  cases hb93:x45
  ·have h:=zW hb93 h
   refine zP rfl (yG (nj ⟨[(0,i6 a0),(4,ow 4),(5,ow 5)],[(4,bk (zJ a1)),(5,bk (zA a2))]⟩ (yC (xH [⟨[],[],[],[]⟩,⟨[],[],[],[]⟩,⟨[4],[],[],[]⟩,⟨[5],[],[5],[]⟩,⟨[5],[],[],[3]⟩,⟨[],[],[],[1,2,3,4]⟩,⟨[5],[],[5],[]⟩,⟨[5],[],[],[6]⟩,⟨[],[],[],[0,1,2,3,4,5,6,7]⟩,⟨[],[],[],[0,1,2,3,4,5,6,7,8]⟩,⟨[],[],[],[0,1,2,3,4,5,6,7,8,9]⟩,⟨[],[],[],[0,1,2,3,4,5,6,7,8,9,10]⟩] (by kernel_rfl) (dj (i6 a0) rfl (dj (i6 a0) rfl (zH (vl (zJ a1) rfl rfl rfl rfl rfl rfl (dn ?_)))))))))
   refine zH (vb (.own 5 [1] [64]) rfl rfl (dn (zH ?_)))
   have hl104:LdOk [1] (zA a2) [64] 64 true (zJ a2.2):=(.fld rfl rfl rfl rfl (.nil rfl rfl rfl))
   refine vq (zJ a2.2) (zM (i:=⟨.arr 64 5,64,64,(zJ (yH 64 (0:Int)))⟩) rfl rfl rfl hl104) hl104.c (dn (zH ?_))
   obtain ⟨r105,hr106,h⟩:=bind_some h
   refine ca (zg2 a0 a1 a2.2 r105 hr106) (dn (zH (vb (.own 5 [0] [0]) rfl rfl (dn (zH ?_)))))
   have hl107:LdOk [0] (zA a2) [0] 64 true (zJ a2.1):=(.fld rfl rfl rfl rfl (.nil rfl rfl rfl))
   refine vq (zJ a2.1) (zM (i:=⟨.arr 64 5,64,64,(zJ (yH 64 (0:Int)))⟩) rfl rfl rfl hl107) hl107.c (dn (zH ?_))
   obtain ⟨r108,hr109,h⟩:=bind_some h
   refine ca (jR a0 r105 a2.1 r108 hr109) (dn (zH ?_))
   obtain ⟨r110,hr111,h⟩:=bind_some h
   refine ca (yZ r108 r110 hr111) (dn (dj (.bool ((decide (r110 < 0)))) rfl (dj (.bool ((decide (r110 < 0)))) rfl (xE (wC rfl (zU ?_))))))
   refine ⟨.inr rfl,?_⟩
   rw [Tryz.results49]
   cases h
   exact ⟨_,_,_,_,_,rfl,trivial,.inl ⟨rfl,.inl rfl⟩,rfl,rfl⟩
  ·have h:=zV hb93 h
   refine zO rfl (sr (vr (.bool false) (nx _ rfl (zU (xV ?_)))))
   refine ⟨.inr rfl,?_⟩
   rw [Tryz.results49]
   cases h
   exact ⟨_,_,_,_,_,rfl,trivial,.inl ⟨rfl,.inl rfl⟩,rfl,rfl⟩
 ·have h:=hy47
  refine xH [⟨[],[],[],[]⟩,⟨[5],[],[5],[]⟩,⟨[5],[],[],[1]⟩,⟨[],[],[],[0,1,2]⟩,⟨[],[],[],[0,1,2,3]⟩,⟨[],[],[],[0,1,2,3,4]⟩,⟨[],[],[],[0,1,2,3,4,5]⟩,⟨[5],[],[5],[0,1,2,3,4,5]⟩,⟨[5],[],[],[0,1,2,3,4,5,7]⟩,⟨[],[],[],[0,1,2,3,4,5,6,7,8]⟩,⟨[],[],[],[0,1,2,3,4,5,6,7,8,9]⟩,⟨[],[],[],[0,1,2,3,4,5,6,7,8,9,10]⟩,⟨[],[],[],[0,1,2,3,4,5,6,7,8,9,10,11]⟩,⟨[5],[],[5],[0,1,2,3,4,5,6,7,8,9,10,11,12]⟩,⟨[5],[],[],[0,1,2,3,4,5,6,7,8,9,10,11,12,13]⟩,⟨[],[],[],[0,1,2,3,4,5,6,7,8,9,10,11,12,13,14]⟩,⟨[],[],[],[0,1,2,3,4,5,6,7,8,9,10,11,12,13,14,15]⟩,⟨[],[],[],[0,1,2,3,4,5,6,7,8,9,10,11,12,13,14,15,16]⟩,⟨[],[],[],[0,1,2,3,4,5,6,7,8,9,10,11,12,13,14,15,16,17]⟩,⟨[5],[],[5],[0,1,2,3,4,5,6,7,8,9,10,11,12,13,14,15,16,17,18]⟩,⟨[5],[],[],[0,1,2,3,4,5,6,7,8,9,10,11,12,13,14,15,16,17,18,19]⟩,⟨[],[],[],[0,1,2,3,4,5,6,7,8,9,10,11,12,13,14,15,16,17,18,19,20]⟩,⟨[],[],[],[0,1,2,3,4,5,6,7,8,9,10,11,12,13,14,15,16,17,18,19,20,21]⟩,⟨[],[],[],[0,1,2,3,4,5,6,7,8,9,10,11,12,13,14,15,16,17,18,19,20,21,22]⟩,⟨[],[],[],[0,1,2,3,4,5,6,7,8,9,10,11,12,13,14,15,16,17,18,19,20,21,22,23]⟩,⟨[5],[],[5],[0,1,2,3,4,5,6,7,8,9,10,11,12,13,14,15,16,17,18,19,20,21,22,23,24]⟩,⟨[5],[],[],[0,1,2,3,4,5,6,7,8,9,10,11,12,13,14,15,16,17,18,19,20,21,22,23,24,25]⟩,⟨[],[],[],[0,1,2,3,4,5,6,7,8,9,10,11,12,13,14,15,16,17,18,19,20,21,22,23,24,25,26]⟩,⟨[5],[],[5],[0,1,2,3,4,5,6,7,8,9,10,11,12,13,14,15,16,17,18,19,20,21,22,23,24]⟩,⟨[5],[],[],[0,1,2,3,4,5,6,7,8,9,10,11,12,13,14,15,16,17,18,19,20,21,22,23,24,28]⟩,⟨[],[],[],[0,1,2,3,4,5,6,7,8,9,10,11,12,13,14,15,16,17,18,19,20,21,22,23,24,25,26,27,28,29]⟩,⟨[],[],[],[0,1,2,3,4,5,6,7,8,9,10,11,12,13,14,15,16,17,18,19,20,21,22,23,24,25,26,27,28,29,30]⟩,⟨[],[],[],[0,1,2,3,4,5,6,7,8,9,10,11,12,13,14,15,16,17,18,19,20,21,22,23,24,25,26,27,28,29,30,31]⟩] (by kernel_rfl) (dj (i6 a0) rfl (zH (vb (.own 5 [0] [0]) rfl rfl (dn (zH ?_)))))
  have hl71:LdOk [0] (zA a2) [0] 64 true (zJ a2.1):=(.fld rfl rfl rfl rfl (.nil rfl rfl rfl))
  refine vq (zJ a2.1) (zM (i:=⟨.arr 64 5,64,64,(zJ (yH 64 (0:Int)))⟩) rfl rfl rfl hl71) hl71.c (dn (zH ?_))
  obtain ⟨r72,hr73,h⟩:=bind_some h
  refine ca (ze6 a0 a2.1 r72 hr73) (dn (dj (.bool (!r72)) rfl (dj (.bool (!r72)) rfl ?_)))
  cases hb74:(!r72)
  ·have h:=zW hb74 h
   refine dg (i6 a0) rfl rfl (by kernel_rfl) (zH (gq (.own 5 [1] [64]) rfl rfl (yS rfl) (dn (zH ?_))))
   have hl75:LdOk [1] (zA a2) [64] 64 true (zJ a2.2):=(.fld rfl rfl rfl rfl (.nil rfl rfl rfl))
   refine gq (zJ a2.2) rfl (zM (i:=⟨.arr 64 5,64,64,(zJ (yH 64 (0:Int)))⟩) rfl rfl rfl hl75) hl75.c (dn (zH ?_))
   obtain ⟨r76,hr77,h⟩:=bind_some h
   refine wQ rfl (args:=[(i6 a0),(zJ a2.2)]) (u:=[]) (r:=(.bool r76)) rfl rfl (ze6 a0 a2.2 r76 hr77) rfl (dn (dg (.bool (!r76)) rfl rfl (by kernel_rfl) (dj (.bool (!r76)) rfl (dj (.bool (!r76)) rfl ?_))))
   cases hb78:(!r76)
   ·have h:=zW hb78 h
    refine zH (gq (.own 5 [0] [0]) rfl rfl (yS rfl) (dn (zH ?_)))
    have hl79:LdOk [0] (zA a2) [0] 64 true (zJ a2.1):=(.fld rfl rfl rfl rfl (.nil rfl rfl rfl))
    refine gq (zJ a2.1) rfl (zM (i:=⟨.arr 64 5,64,64,(zJ (yH 64 (0:Int)))⟩) rfl rfl rfl hl79) hl79.c (dn (zH ?_))
    obtain ⟨r80,hr81,h⟩:=bind_some h
    refine wQ rfl (args:=[(zJ a2.1)]) (u:=[]) (r:=(.bool r80)) rfl rfl (zob a2.1 r80 hr81) rfl (dn (dg (.bool (!r80)) rfl rfl (by kernel_rfl) (dj (.bool (!r80)) rfl (dj (.bool (!r80)) rfl ?_))))
    cases hb82:(!r80)
    ·have h:=zW hb82 h
     refine zH (gq (.own 5 [0] [0]) rfl rfl (yS rfl) (dn (zH ?_)))
     have hl83:LdOk [0] (zA a2) [0] 64 true (zJ a2.1):=(.fld rfl rfl rfl rfl (.nil rfl rfl rfl))
     refine gq (zJ a2.1) rfl (zM (i:=⟨.arr 64 5,64,64,(zJ (yH 64 (0:Int)))⟩) rfl rfl rfl hl83) hl83.c (dn (zH ?_))
     obtain ⟨r84,hr85,h⟩:=bind_some h
     refine wQ rfl (args:=[(zJ a2.1)]) (u:=[]) (r:=(i6 r84)) rfl rfl (yZ a2.1 r84 hr85) rfl (dn (dg (.bool ((decide (r84 > 12)))) rfl rfl (by kernel_rfl) (dj (.bool ((decide (r84 > 12)))) rfl (dj (.bool ((decide (r84 > 12)))) rfl ?_))))
     cases hb86:(decide (r84 > 12))
     ·have h:=zW hb86 h
      refine zH (gq (.own 5 [1] [64]) rfl rfl (yS rfl) (dn (zH ?_)))
      have hl87:LdOk [1] (zA a2) [64] 64 true (zJ a2.2):=(.fld rfl rfl rfl rfl (.nil rfl rfl rfl))
      refine gq (zJ a2.2) rfl (zM (i:=⟨.arr 64 5,64,64,(zJ (yH 64 (0:Int)))⟩) rfl rfl rfl hl87) hl87.c (dn (zH ?_))
      obtain ⟨r88,hr89,h⟩:=bind_some h
      refine wQ rfl (args:=[(zJ a2.2)]) (u:=[]) (r:=(i6 r88)) rfl rfl (yZ a2.2 r88 hr89) rfl (dn (zH (gq (.own 5 [0] [0]) rfl rfl (yS rfl) (dn (zH ?_)))))
      have hl90:LdOk [0] (zA a2) [0] 64 true (zJ a2.1):=(.fld rfl rfl rfl rfl (.nil rfl rfl rfl))
      refine gq (zJ a2.1) rfl (zM (i:=⟨.arr 64 5,64,64,(zJ (yH 64 (0:Int)))⟩) rfl rfl rfl hl90) hl90.c (dn (zH ?_))
      obtain ⟨r91,hr92,h⟩:=bind_some h
      refine wQ rfl (args:=[(zJ a2.1)]) (u:=[]) (r:=(i6 r91)) rfl rfl (yZ a2.1 r91 hr92) rfl (dn (dg (.bool ((decide (r88 ≥ r91)))) rfl rfl (by kernel_rfl) (dj (.bool ((decide (r88 ≥ r91)))) rfl (xE ?_))))
      exact jl ((decide (r88 ≥ r91))) h
     ·have h:=zV hb86 h
      refine dk rfl (by kernel_rfl) (dk rfl (by kernel_rfl) (dk rfl (by kernel_rfl) (dk rfl (by kernel_rfl) (dk rfl (by kernel_rfl) (dk rfl (by kernel_rfl) (dk rfl (by kernel_rfl) (dj (.bool true) rfl (xE ?_))))))))
      exact jl true h
    ·have h:=zV hb82 h
     refine dk rfl (by kernel_rfl) (dk rfl (by kernel_rfl) (dk rfl (by kernel_rfl) (dk rfl (by kernel_rfl) (dj (.bool true) rfl (dj (.bool true) rfl (dk rfl (by kernel_rfl) (dk rfl (by kernel_rfl) (dk rfl (by kernel_rfl) (dk rfl (by kernel_rfl) ?_)))))))))
     refine dk rfl (by kernel_rfl) (dk rfl (by kernel_rfl) (dk rfl (by kernel_rfl) (dj (.bool true) rfl (xE ?_))))
     exact jl true h
   ·have h:=zV hb78 h
    refine dk rfl (by kernel_rfl) (dk rfl (by kernel_rfl) (dk rfl (by kernel_rfl) (dk rfl (by kernel_rfl) (dj (.bool true) rfl (dj (.bool true) rfl (dk rfl (by kernel_rfl) (dk rfl (by kernel_rfl) (dk rfl (by kernel_rfl) (dk rfl (by kernel_rfl) ?_)))))))))
    refine dj (.bool true) rfl (dj (.bool true) rfl (dk rfl (by kernel_rfl) (dk rfl (by kernel_rfl) (dk rfl (by kernel_rfl) (dk rfl (by kernel_rfl) (dk rfl (by kernel_rfl) (dk rfl (by kernel_rfl) (dk rfl (by kernel_rfl) (dj (.bool true) rfl ?_)))))))))
    refine xE ?_
    exact jl true h
  ·have h:=zV hb74 h
   refine dk rfl (by kernel_rfl) (dk rfl (by kernel_rfl) (dk rfl (by kernel_rfl) (dk rfl (by kernel_rfl) (dk rfl (by kernel_rfl) (dj (.bool true) rfl (dj (.bool true) rfl (dk rfl (by kernel_rfl) (dk rfl (by kernel_rfl) (dk rfl (by kernel_rfl) ?_)))))))))
   refine dk rfl (by kernel_rfl) (dj (.bool true) rfl (dj (.bool true) rfl (dk rfl (by kernel_rfl) (dk rfl (by kernel_rfl) (dk rfl (by kernel_rfl) (dk rfl (by kernel_rfl) (dj (.bool true) rfl (dj (.bool true) rfl (dk rfl (by kernel_rfl) ?_)))))))))
   refine dk rfl (by kernel_rfl) (dk rfl (by kernel_rfl) (dk rfl (by kernel_rfl) (dk rfl (by kernel_rfl) (dk rfl (by kernel_rfl) (dk rfl (by kernel_rfl) (dj (.bool true) rfl (xE ?_)))))))
   exact jl true h
def zrf:Live:=[(0,[0,1]),(1,[0,3]),(2,[0,3,5]),(3,[0,3,5,6]),(4,[0,3,5,6]),(5,[0,3,5,6]),(6,[0,3,5,6,7]),(7,[0,3,5,6,7]),(8,[0,3,5,6,7]),(9,[0,3,5,6,7,8]),(10,[0,3,5,6,7,8]),(11,[0,3,5,6,7,8,9]),(12,[0,3,5,6,7,8,9]),(13,[0,3,5,6,7,8,9]),(14,[0,3,5,6,7,8,9,10]),(15,[0,3,5,6,7,8,9,10]),(16,[5]),(100015,[0,3,5,6,15]),(100022,[0,3,5,6,7,22]),(100034,[0,3,5,6,7,8,9,34]),(100045,[0,3,5,6,7,8,9,10,45])]
noncomputable def jT (a0:Int) (x6115:Int) (a1:(Vec Int 64)) (r9049:(Vec Int 64)) (x9091:Int) (x9092:(List ((Vec Int 64)×(Vec Int 64)))):Option ((Int×(List ((Vec Int 64)×(Vec Int 64))))⊕(List ((Vec Int 64)×(Vec Int 64)))) :=
 (Option.bind (zda a0 x6115) fun r9133=>(if (decide (x9091 < r9133)) then (Option.bind (α:=(List ((Vec Int 64)×(Vec Int 64)))) ((Option.bind (zgn a0 x9091) fun r9160=>(Option.bind (wZ a0 a1 (((yO r9049 x6115.toNat 1),r9160))) fun r9165=>(if r9165 then (jA ((x9092.length + ([((yO r9049 x6115.toNat 1),r9160)]:List ((Vec Int 64)×(Vec Int 64))).length)*128≤140737488355328) ((some ((x9092 ++ ([((yO r9049 x6115.toNat 1),r9160)])))))) else (some x9092))))) fun x9151=>(some (.inl ((IntKind.i64.wrap (x9091 + 1),x9151))))) else (some (.inr x9092))))
noncomputable def jU (a0:Int) (x6115:Int) (a1:(Vec Int 64)) (x8664:Int) (x8665:(List ((Vec Int 64)×(Vec Int 64)))):Option ((Int×(List ((Vec Int 64)×(Vec Int 64))))⊕(List ((Vec Int 64)×(Vec Int 64)))) :=
 (Option.bind (zda a0 x6115) fun r8920=>(if (decide (x8664 < r8920)) then (Option.bind (α:=(List ((Vec Int 64)×(Vec Int 64)))) ((Option.bind (zgn a0 x8664) fun r9049=>(jA (0≤x6115∧x6115 < ((64:Nat):Int)) ((yK (fun s:(Int×(List ((Vec Int 64)×(Vec Int 64))))=>jT a0 x6115 a1 r9049 s.1 s.2) (0,x8665)))))) fun x9045=>(some (.inl ((IntKind.i64.wrap (x8664 + 1),x9045))))) else (some (.inr x8665))))
noncomputable def nU (a1:(Vec Int 64)) (a0:Int) (x6115:Int) (x6116:(List ((Vec Int 64)×(Vec Int 64)))):Option ((Int×(List ((Vec Int 64)×(Vec Int 64))))⊕(List ((Vec Int 64)×(Vec Int 64)))) :=
 (Option.bind (kS a1) fun r7647=>(if (decide (x6115≤r7647)) then (Option.bind (α:=(List ((Vec Int 64)×(Vec Int 64)))) ((yK (fun s:(Int×(List ((Vec Int 64)×(Vec Int 64))))=>jU a0 x6115 a1 s.1 s.2) (0,x6116))) fun x8409=>(some (.inl ((IntKind.i64.wrap (x6115 + 1),x8409))))) else (some (.inr x6116))))
noncomputable def zdw (a0:Int) (a1:(Vec Int 64)):Option (List ((Vec Int 64)×(Vec Int 64))) :=
 (Option.bind (α:=(List ((Vec Int 64)×(Vec Int 64)))) ((yK (fun s:(Int×(List ((Vec Int 64)×(Vec Int 64))))=>nU a1 a0 s.1 s.2) (0,[]))) fun x4585=>(some x4585))
theorem zqi (a0:Int) (a1:(Vec Int 64)) (r:(List ((Vec Int 64)×(Vec Int 64)))) (h:zdw a0 a1=some r):Den Tryz.prog 63 [(i6 a0),(zJ a1)] { r:=(zL r) }:=by
 refine dd (rs:=[(zL r)]) (L:=zrf) xL [(4,1),(5,2),(11,2)] Tryz.func63 Tryz.ntmps63 ?_
 refine ns ⟨[(0,i6 a0),(1,zJ a1)],[]⟩ ?_
 refine sr (vo 1300 (zJ a1) rfl rfl (vr (zL ([])) (nk ⟨[(0,i6 a0),(3,ow 3)],[(3,bk (zJ a1))]⟩ (sr (vu (.osl 2100) [(2100,bk (.row 128 (([]).map zA)))] rfl ⟨(yS rfl),(yS rfl),all_nil⟩ rfl (vr (.osl 2100) (nk ⟨[(0,i6 a0),(3,ow 3),(5,.osl 5)],[(3,bk (zJ a1)),(5,bk (.row 128 (([]).map zA)))]⟩ ?_)))))))
 obtain ⟨y4586,hy4587,hk4588⟩:=bind_some h
 clear h
 refine yN (emb:=fun (s:(List ((Vec Int 64)×(Vec Int 64))))=>⟨[(5,.osl 5)],[(5,bk (.row 128 (s.map zA)))]⟩) (kG:=fun s=>s=y4586) ?_ ?_
 ·rintro x4585 rfl
  have h:=hk4588
  refine ns ⟨[(5,.osl 5)],[(5,bk (.row 128 (x4585.map zA)))]⟩ (sr (vr (.osl 5) (vu (zL x4585) [(5,bf (.row 128 (x4585.map zA)))] rfl trivial rfl (nx _ rfl (zU ?_)))))
  refine ⟨.inr rfl,?_⟩
  rw [Tryz.results63]
  cases h
  exact ⟨_,_,_,_,_,rfl,trivial,.inl ⟨rfl,.inl rfl⟩,rfl,rfl⟩
 ·have h:=hy4587
  refine sr (vr (i6 0) (nk ⟨[(0,i6 a0),(3,ow 3),(5,.osl 5),(6,i6 0)],[(3,bk (zJ a1)),(5,bk (.row 128 (([]).map zA)))]⟩ (yB ?_)))
  refine xU (emb:=fun (s:(Int×(List ((Vec Int 64)×(Vec Int 64)))))=>⟨[(0,i6 a0),(3,ow 3),(5,.osl 5),(6,i6 s.1)],[(3,bk (zJ a1)),(5,bk (.row 128 (s.2.map zA)))]⟩) (body:=(fun s:(Int×(List ((Vec Int 64)×(Vec Int 64))))=>nU a1 a0 s.1 s.2)) (G:=fun q=>some q=some y4586) h rfl ?_ (by kernel_rfl)
  rintro X7643 ⟨x6115,x6116⟩ x7644 h hX7645
  have h:nU a1 a0 x6115 x6116=some x7644:=h
  refine ns ⟨[(0,i6 a0),(3,ow 3),(5,.osl 5),(6,i6 x6115)],[(3,bk (zJ a1)),(5,bk (.row 128 (x6116.map zA)))]⟩ (yC (sr (vr (i6 x6115) (vl (zJ a1) rfl rfl rfl rfl rfl rfl ?_))))
  obtain ⟨r7647,hr7648,h⟩:=bind_some h
  refine ca (zes a1 r7647 hr7648) (vr (.bool ((decide (x6115≤r7647)))) (nk ⟨[(0,i6 a0),(3,ow 3),(5,.osl 5),(6,i6 x6115),(15,.bool ((decide (x6115≤r7647))))],[(3,bk (zJ a1)),(5,bk (.row 128 (x6116.map zA)))]⟩ ?_))
  cases hb7649:(decide (x6115≤r7647))
  ·have h:=zW hb7649 h
   refine zP rfl (xR (yI ?_))
   cases h
   have h:=hX7645
   refine yI (xQ ?_)
   exact jl x6116 h
  ·have h:=zV hb7649 h
   refine zO rfl (yG (nj ⟨[(0,i6 a0),(3,ow 3),(5,.osl 5),(6,i6 x6115)],[(3,bk (zJ a1)),(5,bk (.row 128 (x6116.map zA)))]⟩ ?_))
   obtain ⟨y8410,hy8411,hk8412⟩:=bind_some h
   clear h
   refine yN (emb:=fun (s:(List ((Vec Int 64)×(Vec Int 64))))=>⟨[(0,i6 a0),(3,ow 3),(5,.osl 5),(6,i6 x6115)],[(3,bk (zJ a1)),(5,bk (.row 128 (s.map zA)))]⟩) (kG:=fun s=>s=y8410) ?_ ?_
   ·rintro x8409 rfl
    have h:=hk8412
    refine ns ⟨[(0,i6 a0),(3,ow 3),(5,.osl 5),(6,i6 x6115)],[(3,bk (zJ a1)),(5,bk (.row 128 (x8409.map zA)))]⟩ (zR (vr (i6 x6115) (vr (i6 (IntKind.i64.wrap (x6115 + 1))) (vr (i6 (IntKind.i64.wrap (x6115 + 1))) (yJ ?_)))))
    cases h
    exact ag hX7645
   ·have h:=hy8411
    refine yB (sr (vr (i6 0) (nk ⟨[(0,i6 a0),(3,ow 3),(5,.osl 5),(6,i6 x6115),(7,i6 0)],[(3,bk (zJ a1)),(5,bk (.row 128 (x6116.map zA)))]⟩ (yB ?_))))
    refine xU (emb:=fun (s:(Int×(List ((Vec Int 64)×(Vec Int 64)))))=>⟨[(0,i6 a0),(3,ow 3),(5,.osl 5),(6,i6 x6115),(7,i6 s.1)],[(3,bk (zJ a1)),(5,bk (.row 128 (s.2.map zA)))]⟩) (body:=(fun s:(Int×(List ((Vec Int 64)×(Vec Int 64))))=>jU a0 x6115 a1 s.1 s.2)) (G:=fun q=>some q=some y8410) h rfl ?_ (by kernel_rfl)
    rintro X8917 ⟨x8664,x8665⟩ x8918 h hX8919
    have h:jU a0 x6115 a1 x8664 x8665=some x8918:=h
    refine ns ⟨[(0,i6 a0),(3,ow 3),(5,.osl 5),(6,i6 x6115),(7,i6 x8664)],[(3,bk (zJ a1)),(5,bk (.row 128 (x8665.map zA)))]⟩ (yC (sr (vr (i6 x8664) (vr (i6 a0) (vr (i6 x6115) ?_)))))
    obtain ⟨r8920,hr8921,h⟩:=bind_some h
    refine ca (zh2 a0 x6115 r8920 hr8921) (vr (.bool ((decide (x8664 < r8920)))) (nk ⟨[(0,i6 a0),(3,ow 3),(5,.osl 5),(6,i6 x6115),(7,i6 x8664),(22,.bool ((decide (x8664 < r8920))))],[(3,bk (zJ a1)),(5,bk (.row 128 (x8665.map zA)))]⟩ ?_))
    cases hb8922:(decide (x8664 < r8920))
    ·have h:=zW hb8922 h
     refine zP rfl (xR (yI ?_))
     cases h
     have h:=hX8919
     refine yI (xQ (xI ?_))
     exact jl x8665 h
    ·have h:=zV hb8922 h
     refine zO rfl (yG (nj ⟨[(0,i6 a0),(3,ow 3),(5,.osl 5),(6,i6 x6115),(7,i6 x8664)],[(3,bk (zJ a1)),(5,bk (.row 128 (x8665.map zA)))]⟩ ?_))
     obtain ⟨y9046,hy9047,hk9048⟩:=bind_some h
     clear h
     refine yN (emb:=fun (s:(List ((Vec Int 64)×(Vec Int 64))))=>⟨[(0,i6 a0),(3,ow 3),(5,.osl 5),(6,i6 x6115),(7,i6 x8664)],[(3,bk (zJ a1)),(5,bk (.row 128 (s.map zA)))]⟩) (kG:=fun s=>s=y9046) ?_ ?_
     ·rintro x9045 rfl
      have h:=hk9048
      refine ns ⟨[(0,i6 a0),(3,ow 3),(5,.osl 5),(6,i6 x6115),(7,i6 x8664)],[(3,bk (zJ a1)),(5,bk (.row 128 (x9045.map zA)))]⟩ (zR (vr (i6 x8664) (vr (i6 (IntKind.i64.wrap (x8664 + 1))) (vr (i6 (IntKind.i64.wrap (x8664 + 1))) (yJ ?_)))))
      cases h
      exact ag hX8919
     ·have h:=hy9047
      refine yB (sr (vr (i6 a0) (vr (i6 x8664) ?_)))
      obtain ⟨r9049,hr9050,h⟩:=bind_some h
      refine ca (zlf a0 x8664 r9049 hr9050) (vo 1800 (yF) rfl rfl (vs (zJ r9049) rfl rfl (fun _=>rfl) rfl rfl rfl rfl rfl rfl (nk ⟨[(0,i6 a0),(3,ow 3),(5,.osl 5),(6,i6 x6115),(7,i6 x8664),(8,ow 8)],[(3,bk (zJ a1)),(5,bk (.row 128 (x8665.map zA))),(8,bk (zJ r9049))]⟩ (sr (vr (i6 x6115) ?_)))))
      obtain ⟨hc9052,h⟩:=zT h
      refine vq (.own 8 [x6115.toNat] [x6115.toNat*1]) rfl hc9052 ?_
      have hs9053:StOk [x6115.toNat] (zJ r9049) [x6115.toNat*1] 1 (b8 1) (zJ (yO r9049 x6115.toNat 1)):=(.arr (y:=1) (vlt r9049 hc9052) rfl (.nil rfl rfl rfl rfl))
      refine vu .top [(8,bk (zJ (yO r9049 x6115.toNat 1)))] (qG (i:=⟨.int .u8,1,1,(.int .u8 0)⟩) rfl rfl (fun _=>rfl) rfl hs9053) (hs9053.c rfl) rfl (nk ⟨[(0,i6 a0),(3,ow 3),(5,.osl 5),(6,i6 x6115),(7,i6 x8664),(8,ow 8)],[(3,bk (zJ a1)),(5,bk (.row 128 (x8665.map zA))),(8,bk (zJ (yO r9049 x6115.toNat 1)))]⟩ (sr (vr (i6 0) (nk ⟨[(0,i6 a0),(3,ow 3),(5,.osl 5),(6,i6 x6115),(7,i6 x8664),(8,ow 8),(9,i6 0)],[(3,bk (zJ a1)),(5,bk (.row 128 (x8665.map zA))),(8,bk (zJ (yO r9049 x6115.toNat 1)))]⟩ (yB ?_)))))
      refine xU (emb:=fun (s:(Int×(List ((Vec Int 64)×(Vec Int 64)))))=>⟨[(0,i6 a0),(3,ow 3),(5,.osl 5),(6,i6 x6115),(7,i6 x8664),(8,ow 8),(9,i6 s.1)],[(3,bk (zJ a1)),(5,bk (.row 128 (s.2.map zA))),(8,bk (zJ (yO r9049 x6115.toNat 1)))]⟩) (body:=(fun s:(Int×(List ((Vec Int 64)×(Vec Int 64))))=>jT a0 x6115 a1 r9049 s.1 s.2)) (G:=fun q=>some q=some y9046) h rfl ?_ (by kernel_rfl)
      rintro X9130 ⟨x9091,x9092⟩ x9131 h hX9132
      have h:jT a0 x6115 a1 r9049 x9091 x9092=some x9131:=h
      refine ns ⟨[(0,i6 a0),(3,ow 3),(5,.osl 5),(6,i6 x6115),(7,i6 x8664),(8,ow 8),(9,i6 x9091)],[(3,bk (zJ a1)),(5,bk (.row 128 (x9092.map zA))),(8,bk (zJ (yO r9049 x6115.toNat 1)))]⟩ (yC (sr (vr (i6 x9091) (vr (i6 a0) (vr (i6 x6115) ?_)))))
      obtain ⟨r9133,hr9134,h⟩:=bind_some h
      refine ca (zh2 a0 x6115 r9133 hr9134) (vr (.bool ((decide (x9091 < r9133)))) (nk ⟨[(0,i6 a0),(3,ow 3),(5,.osl 5),(6,i6 x6115),(7,i6 x8664),(8,ow 8),(9,i6 x9091),(34,.bool ((decide (x9091 < r9133))))],[(3,bk (zJ a1)),(5,bk (.row 128 (x9092.map zA))),(8,bk (zJ (yO r9049 x6115.toNat 1)))]⟩ ?_))
      cases hb9135:(decide (x9091 < r9133))
      ·have h:=zW hb9135 h
       refine zP rfl (xR (yI ?_))
       cases h
       have h:=hX9132
       refine yI (xQ (xI ?_))
       exact jl x9092 h
      ·have h:=zV hb9135 h
       refine zO rfl (yG (nj ⟨[(0,i6 a0),(3,ow 3),(5,.osl 5),(6,i6 x6115),(7,i6 x8664),(8,ow 8),(9,i6 x9091)],[(3,bk (zJ a1)),(5,bk (.row 128 (x9092.map zA))),(8,bk (zJ (yO r9049 x6115.toNat 1)))]⟩ ?_))
       obtain ⟨y9152,hy9153,hk9154⟩:=bind_some h
       clear h
       refine yN (emb:=fun (s:(List ((Vec Int 64)×(Vec Int 64))))=>⟨[(0,i6 a0),(3,ow 3),(5,.osl 5),(6,i6 x6115),(7,i6 x8664),(8,ow 8),(9,i6 x9091)],[(3,bk (zJ a1)),(5,bk (.row 128 (s.map zA))),(8,bk (zJ (yO r9049 x6115.toNat 1)))]⟩) (kG:=fun s=>s=y9152) ?_ ?_
       ·rintro x9151 rfl
        have h:=hk9154
        refine ns ⟨[(0,i6 a0),(3,ow 3),(5,.osl 5),(6,i6 x6115),(7,i6 x8664),(8,ow 8),(9,i6 x9091)],[(3,bk (zJ a1)),(5,bk (.row 128 (x9151.map zA))),(8,bk (zJ (yO r9049 x6115.toNat 1)))]⟩ (zR (vr (i6 x9091) (vr (i6 (IntKind.i64.wrap (x9091 + 1))) (vr (i6 (IntKind.i64.wrap (x9091 + 1))) (yJ ?_)))))
        cases h
        exact ag hX9132
       ·have h:=hy9153
        refine yB (yC (xH [⟨[8],[],[],[]⟩,⟨[],[],[],[]⟩,⟨[],[],[],[]⟩,⟨[],[],[],[1,2]⟩,⟨[],[],[],[0,1,2,3]⟩,⟨[2000],[2000],[2000],[]⟩,⟨[2000],[2000],[],[0,1,2,3,4,5]⟩] (by kernel_rfl) (zH (vl (zJ (yO r9049 x6115.toNat 1)) rfl rfl rfl rfl rfl rfl (dn (dj (i6 a0) rfl (dj (i6 x9091) rfl (zH ?_))))))))
        obtain ⟨r9160,hr9161,h⟩:=bind_some h
        refine ca (zlf a0 x9091 r9160 hr9161) (dn (zH (vq (zA (((yO r9049 x6115.toNat 1),r9160))) rfl ⟨rfl,(all_cons ⟨(yS rfl),rfl⟩ (all_cons ⟨(yS rfl),rfl⟩ all_nil))⟩ (dn (zH (vo 2000 xA rfl rfl (dn (zH (vs (zA (((yO r9049 x6115.toNat 1),r9160))) rfl rfl (fun _=>rfl) rfl rfl rfl rfl rfl rfl ?_)))))))))
        refine dn (xE (nj ⟨[(0,i6 a0),(3,ow 3),(5,.osl 5),(6,i6 x6115),(7,i6 x8664),(8,ow 8),(9,i6 x9091),(10,ow 10)],[(3,bk (zJ a1)),(5,bk (.row 128 (x9092.map zA))),(8,bk (zJ (yO r9049 x6115.toNat 1))),(10,bk (zA (((yO r9049 x6115.toNat 1),r9160))))]⟩ (sr (vr (i6 a0) (vl (zJ a1) rfl rfl rfl rfl rfl rfl (vl (zA (((yO r9049 x6115.toNat 1),r9160))) rfl rfl rfl rfl rfl rfl ?_))))))
        obtain ⟨r9165,hr9166,h⟩:=bind_some h
        refine ca (zdi a0 a1 (((yO r9049 x6115.toNat 1),r9160)) r9165 hr9166) (nk ⟨[(0,i6 a0),(3,ow 3),(5,.osl 5),(6,i6 x6115),(7,i6 x8664),(8,ow 8),(9,i6 x9091),(10,ow 10),(45,.bool r9165)],[(3,bk (zJ a1)),(5,bk (.row 128 (x9092.map zA))),(8,bk (zJ (yO r9049 x6115.toNat 1))),(10,bk (zA (((yO r9049 x6115.toNat 1),r9160))))]⟩ ?_)
        cases hb9167:r9165
        ·have h:=zW hb9167 h
         refine zP rfl (yG (xI ?_))
         exact jl x9092 h
        ·have h:=zV hb9167 h
         refine zO rfl (zR (vr (.osl 5) (vl (zA (((yO r9049 x6115.toNat 1),r9160))) rfl rfl rfl rfl rfl rfl (vq (.sl 128 true (([((yO r9049 x6115.toNat 1),r9160)]).map zA)) rfl ⟨(yS rfl),(yS rfl),(all_cons ⟨(yS rfl),rfl⟩ all_nil)⟩ ?_))))
         obtain ⟨hc9169,h⟩:=zT h
         refine vu (.osl 5900) [(5900,bk (.row 128 (((x9092 ++ ([((yO r9049 x6115.toNat 1),r9160)]))).map zA))),(5,none)] (zki (i:=⟨.struct [(0,25),(64,25)],128,128,xA⟩) (f:=zA) (l:=x9092) (l2:=[((yO r9049 x6115.toNat 1),r9160)]) rfl rfl rfl rfl (fun _=>rfl) rfl rfl) (zsi (f:=zA) (s:=128) (sz:=128) (by':=128) (u:=[]) (id:=5) hc9169 (.inr rfl) rfl rfl rfl) rfl (vr (.osl 5900) (yJ (xI ?_)))
         exact jl ((x9092 ++ ([((yO r9049 x6115.toNat 1),r9160)]))) h
def zmp:Live:=[(0,[0,1,2,3]),(1,[0,5,6,7,8]),(2,[0,7,8,9]),(3,[8,11])]
noncomputable def nH (a0:Int) (a1:(Vec Int 64)) (a2:(Vec Int 64)) (a3:(Vec Int 64)):Option (Vec Int 64) :=
 (Option.bind (xO a0 a1 a2) fun r3=>(Option.bind (xO a0 r3.1 a3) fun r8=>(some r8.1)))
theorem zba (a0:Int) (a1:(Vec Int 64)) (a2:(Vec Int 64)) (a3:(Vec Int 64)) (r:(Vec Int 64)) (h:nH a0 a1 a2 a3=some r):Den Tryz.prog 69 [(i6 a0),(zJ a1),(zJ a2),(zJ a3)] { r:=(zJ r) }:=by
 refine dd (rs:=[(zJ r)]) (L:=zmp) xL [] Tryz.func69 Tryz.ntmps69 ?_
 refine ns ⟨[(0,i6 a0),(1,zJ a1),(2,zJ a2),(3,zJ a3)],[]⟩ ?_
 refine sr (vo 1500 (zJ a1) rfl rfl (vo 1600 (zJ a2) rfl rfl (vo 1700 (zJ a3) rfl rfl (vo 1800 (yF) rfl rfl (nk ⟨[(0,i6 a0),(5,ow 5),(6,ow 6),(7,ow 7),(8,ow 8)],[(5,bk (zJ a1)),(6,bk (zJ a2)),(7,bk (zJ a3)),(8,bk (yF))]⟩ (sr (vr (i6 a0) (vl (zJ a1) rfl rfl rfl rfl rfl rfl (vl (zJ a2) rfl rfl rfl rfl rfl rfl ?_)))))))))
 obtain ⟨r3,hr4,h⟩:=bind_some h
 refine ca (wX a0 a1 a2 r3 hr4) (vr (.tuple [(zJ r3.1),(.bool r3.2)]) (vb (zJ r3.1) rfl rfl (vb (.bool r3.2) rfl rfl (vo 1900 (yF) rfl rfl (vs (zJ r3.1) rfl rfl (fun _=>rfl) rfl rfl rfl rfl rfl rfl (vr (.bool r3.2) (nk ⟨[(0,i6 a0),(7,ow 7),(8,ow 8),(9,ow 9)],[(7,bk (zJ a3)),(8,bk (yF)),(9,bk (zJ r3.1))]⟩ (sr (vr (i6 a0) ?_)))))))))
 refine vl (zJ r3.1) rfl rfl rfl rfl rfl rfl (vl (zJ a3) rfl rfl rfl rfl rfl rfl ?_)
 obtain ⟨r8,hr9,h⟩:=bind_some h
 refine ca (wX a0 r3.1 a3 r8 hr9) (vr (.tuple [(zJ r8.1),(.bool r8.2)]) (vb (zJ r8.1) rfl rfl (vb (.bool r8.2) rfl rfl (vo 2100 (yF) rfl rfl (vs (zJ r8.1) rfl rfl (fun _=>rfl) rfl rfl rfl rfl rfl rfl (vr (.bool r8.2) (nk ⟨[(8,ow 8),(11,ow 11)],[(8,bk (yF)),(11,bk (zJ r8.1))]⟩ (sr (vl (zJ r8.1) rfl rfl rfl rfl rfl rfl ?_)))))))))
 refine vs (zJ r8.1) rfl rfl (fun _=>rfl) rfl rfl rfl rfl rfl rfl (nx _ rfl (zU ?_))
 have hl13:LdOk [] (zJ r8.1) [] 64 true (zJ r8.1):=(.nil rfl rfl rfl)
 refine ⟨.inr rfl,?_⟩
 rw [Tryz.results69]
 cases h
 exact ⟨_,_,_,_,_,zM (i:=⟨.arr 64 5,64,64,(zJ (yH 64 (0:Int)))⟩) rfl rfl rfl hl13,hl13.c,.inl ⟨rfl,.inl rfl⟩,rfl,rfl⟩
def zp9:Live:=[(0,[]),(1,[0])]
noncomputable def jL :Option ((Vec Int 64)×(Vec Int 64)) :=
 (Option.bind (zay) fun r1=>(some ((r1,(yH 64 (0:Int))))))
theorem zfl  (r:((Vec Int 64)×(Vec Int 64))) (h:jL=some r):Den Tryz.prog 52 [] { r:=(zA r) }:=by
 refine dd (rs:=[(zA r)]) (L:=zp9) xL [] Tryz.func52 Tryz.ntmps52 ?_
 refine ns ⟨[],[]⟩ ?_
 refine sr (vo 1000 xA rfl rfl (nk ⟨[(0,ow 0)],[(0,bk xA)]⟩ (sr ?_)))
 obtain ⟨r1,hr2,h⟩:=bind_some h
 refine ca (zd4 r1 hr2) (vq (zA ((r1,(yH 64 (0:Int))))) rfl ⟨rfl,(all_cons ⟨(yS rfl),rfl⟩ all_nil)⟩ (vs (zA ((r1,(yH 64 (0:Int))))) rfl rfl (fun _=>rfl) rfl rfl rfl rfl rfl rfl (nx _ rfl (zU ?_))))
 have hl4:LdOk [] (zA ((r1,(yH 64 (0:Int))))) [] 128 true (zA ((r1,(yH 64 (0:Int))))):=(.nil rfl rfl rfl)
 refine ⟨.inr rfl,?_⟩
 rw [Tryz.results52]
 cases h
 exact ⟨_,_,_,_,_,zM (i:=⟨.struct [(0,25),(64,25)],128,128,xA⟩) rfl rfl rfl hl4,hl4.c,.inl ⟨rfl,.inl rfl⟩,rfl,rfl⟩
end Go.Proofs.YtebfhlnfmkhmcaaGreat
