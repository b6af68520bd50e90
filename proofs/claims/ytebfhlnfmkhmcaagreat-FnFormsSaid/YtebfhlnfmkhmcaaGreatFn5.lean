/- Functions of the program: plain Lean functions, and that the program computes them. Printed by gen.py. -/
import Derived.Test.YtebfhlnfmkhmcaaGreatFnT
import Derived.Test.YtebfhlnfmkhmcaaGreatFn4
namespace Go.Proofs.YtebfhlnfmkhmcaaGreat
open Go.Abs Go.Proofs
set_option linter.unusedSimpArgs false
set_option linter.unusedVariables false
set_option maxHeartbeats 16000000
attribute [local irreducible] Abs.acode Abs.aops Abs.aopsT Abs.thenK Abs.blockK

def zk9:Live:=[(0,[0,1]),(1,[0,3,4]),(2,[0,3,4,6]),(3,[4,6]),(4,[0,3,4]),(5,[0,3,4,7]),(6,[0,3,4,7,8]),(7,[0,3,4,7,8]),(8,[0,3,4,7,8]),(9,[4,7]),(100014,[0,3,4,6,14]),(100018,[0,3,4,7,8,18])]
noncomputable def vR (a1:(Vec Int 64)) (a0:Int) (x47:Int) (x48:(Vec Int 64)):Option ((Int×(Vec Int 64))⊕(Vec Int 64)) :=
 (if (decide (x47 < 64)) then (jA (0≤x47∧x47 < ((64:Nat):Int)) ((kR (IntKind.i64.wrap (x47*(IntKind.i64.wrap (rd a1.1 x47.toNat)))) fun x63=>(jA (a0 ≠ 0) ((jA (0≤IntKind.i64.wrap (x47 - 1)∧IntKind.i64.wrap (x47 - 1) < ((64:Nat):Int)) ((some (.inl ((IntKind.i64.wrap (x47 + 1),(yO x48 (IntKind.i64.wrap (x47 - 1)).toNat (IntKind.u8.wrap (Int.tmod x63 a0)))))))))))))) else (some (.inr x48)))
noncomputable def zb5 (a0:Int) (a1:(Vec Int 64)):Option ((Vec Int 64)×Int) :=
 (Option.bind (zd7 a0 ([a1])) fun r2=>(if (r2 != 0) then (some (((yH 64 (0:Int)),r2))) else (Option.bind (α:=(Vec Int 64)) ((yK (fun s:(Int×(Vec Int 64))=>vR a1 a0 s.1 s.2) (1,yH 64 (0:Int)))) fun x35=>(some (x35,0)))))
theorem zj8 (a0:Int) (a1:(Vec Int 64)) (r:((Vec Int 64)×Int)) (h:zb5 a0 a1=some r):Den Tryz.prog 60 [(i6 a0),(zJ a1)] { r:=(.tuple [(zJ r.1),(i6 r.2)]) }:=by
 refine dd (rs:=[(zJ r.1),(i6 r.2)]) (L:=zk9) xL [] Tryz.func60 Tryz.ntmps60 ?_
 refine ns ⟨[(0,i6 a0),(1,zJ a1)],[]⟩ ?_
 refine sr (vo 1300 (zJ a1) rfl rfl (vo 1400 (yF) rfl rfl (vr (i6 0) (nk ⟨[(0,i6 a0),(3,ow 3),(4,ow 4)],[(3,bk (zJ a1)),(4,bk (yF))]⟩ (yC (sr (vr (i6 a0) (vl (zJ a1) rfl rfl rfl rfl rfl rfl (vq (.sl 64 true (([a1]).map zJ)) rfl ⟨(yS rfl),(yS rfl),(all_cons ⟨(yS rfl),rfl⟩ all_nil)⟩ ?_)))))))))
 obtain ⟨r2,hr3,h⟩:=bind_some h
 refine zaa (args:=[(i6 a0),(.sl 64 true (([a1]).map zJ))]) (u:=[]) (r:=(i6 r2)) rfl rfl (Den.args (znh a0 ([a1]) r2 hr3) rfl rfl (.cons (.refl _) (.cons (.loose _) .nil))) rfl (vr (i6 r2) (nk ⟨[(0,i6 a0),(3,ow 3),(4,ow 4),(6,i6 r2)],[(3,bk (zJ a1)),(4,bk (yF))]⟩ (sr (vr (i6 r2) (vr (.bool (r2 != 0)) (nk ⟨[(0,i6 a0),(3,ow 3),(4,ow 4),(6,i6 r2),(14,.bool (r2 != 0))],[(3,bk (zJ a1)),(4,bk (yF))]⟩ ?_))))))
 cases hb4:(r2 != 0)
 ·have h:=zW hb4 h
  refine zP rfl (yG (nj ⟨[(0,i6 a0),(3,ow 3),(4,ow 4)],[(3,bk (zJ a1)),(4,bk (yF))]⟩ (sr (vo 1700 (yF) rfl rfl (nk ⟨[(0,i6 a0),(3,ow 3),(4,ow 4),(7,ow 7)],[(3,bk (zJ a1)),(4,bk (yF)),(7,bk (yF))]⟩ ?_)))))
  obtain ⟨y36,hy37,hk38⟩:=bind_some h
  clear h
  refine yN (emb:=fun (s:(Vec Int 64))=>⟨[(4,ow 4),(7,ow 7)],[(4,bk (yF)),(7,bk (zJ s))]⟩) (kG:=fun s=>s=y36) ?_ ?_
  ·rintro x35 rfl
   have h:=hk38
   refine ns ⟨[(4,ow 4),(7,ow 7)],[(4,bk (yF)),(7,bk (zJ x35))]⟩ (sr (vl (zJ x35) rfl rfl rfl rfl rfl rfl (vs (zJ x35) rfl rfl (fun _=>rfl) rfl rfl rfl rfl rfl rfl (vr (i6 0) (nx _ rfl (zU ?_))))))
   have hl71:LdOk [] (zJ x35) [] 64 true (zJ x35):=(.nil rfl rfl rfl)
   refine ⟨.inr rfl,?_⟩
   rw [Tryz.results60]
   cases h
   exact ⟨_,_,_,_,_,zM (i:=⟨.arr 64 5,64,64,(zJ (yH 64 (0:Int)))⟩) rfl rfl rfl hl71,hl71.c,.inl ⟨rfl,.inl rfl⟩,rfl,⟨_,_,_,_,_,rfl,trivial,.inl ⟨rfl,.inl rfl⟩,rfl,rfl⟩⟩
  ·have h:=hy37
   refine sr (vr (i6 1) (nk ⟨[(0,i6 a0),(3,ow 3),(4,ow 4),(7,ow 7),(8,i6 1)],[(3,bk (zJ a1)),(4,bk (yF)),(7,bk (yF))]⟩ (yB ?_)))
   refine xU (emb:=fun (s:(Int×(Vec Int 64)))=>⟨[(0,i6 a0),(3,ow 3),(4,ow 4),(7,ow 7),(8,i6 s.1)],[(3,bk (zJ a1)),(4,bk (yF)),(7,bk (zJ s.2))]⟩) (body:=(fun s:(Int×(Vec Int 64))=>vR a1 a0 s.1 s.2)) (G:=fun q=>some q=some y36) h rfl ?_ (by kernel_rfl)
   rintro X57 ⟨x47,x48⟩ x58 h hX59
   have h:vR a1 a0 x47 x48=some x58:=h
   refine ns ⟨[(0,i6 a0),(3,ow 3),(4,ow 4),(7,ow 7),(8,i6 x47)],[(3,bk (zJ a1)),(4,bk (yF)),(7,bk (zJ x48))]⟩ (yC (sr (vr (i6 x47) (vr (.bool ((decide (x47 < 64)))) (nk ⟨[(0,i6 a0),(3,ow 3),(4,ow 4),(7,ow 7),(8,i6 x47),(18,.bool ((decide (x47 < 64))))],[(3,bk (zJ a1)),(4,bk (yF)),(7,bk (zJ x48))]⟩ ?_)))))
   cases hb60:(decide (x47 < 64))
   ·have h:=zW hb60 h
    refine zP rfl (xR (yI ?_))
    cases h
    have h:=hX59
    refine yI (xQ ?_)
    exact jl x48 h
   ·have h:=zV hb60 h
    refine zO rfl (yG (nj ⟨[(0,i6 a0),(3,ow 3),(4,ow 4),(7,ow 7),(8,i6 x47)],[(3,bk (zJ a1)),(4,bk (yF)),(7,bk (zJ x48))]⟩ (yC (yB (zR (vr (i6 x47) (vr (i6 (IntKind.i64.wrap (x47 - 1))) (vr (i6 x47) (vr (i6 x47) ?_)))))))))
    obtain ⟨hc61,h⟩:=zT h
    refine vq (.own 3 [x47.toNat] [x47.toNat*1]) rfl hc61 ?_
    have hl62:LdOk [x47.toNat] (zJ a1) [x47.toNat*1] 1 false (b8 (rd a1.1 x47.toNat)):=(.arr (vlt a1 hc61) rfl (.nil rfl rfl rfl))
    refine vq (b8 (rd a1.1 x47.toNat)) (zM (i:=⟨.int .u8,1,1,(.int .u8 0)⟩) rfl rfl rfl hl62) hl62.c (vr (i6 (IntKind.i64.wrap (rd a1.1 x47.toNat))) ?_)
    obtain ⟨x63,hx64,h⟩:=xP h
    refine qI (v:=(i6 (IntKind.i64.wrap (x47*(IntKind.i64.wrap (rd a1.1 x47.toNat)))))) (v':=(i6 x63)) (u:=[]) (u':=[]) rfl (congrArg (fun z=>((i6 z):AV)) hx64) rfl trivial rfl (vr (i6 a0) ?_)
    obtain ⟨hc65,h⟩:=zT h
    refine vq (i6 (Int.tmod x63 a0)) rfl hc65 (vr (b8 (IntKind.u8.wrap (Int.tmod x63 a0))) ?_)
    obtain ⟨hc66,h⟩:=zT h
    refine vq (.own 7 [(IntKind.i64.wrap (x47 - 1)).toNat] [(IntKind.i64.wrap (x47 - 1)).toNat*1]) rfl hc66 ?_
    have hs67:StOk [(IntKind.i64.wrap (x47 - 1)).toNat] (zJ x48) [(IntKind.i64.wrap (x47 - 1)).toNat*1] 1 (b8 (IntKind.u8.wrap (Int.tmod x63 a0))) (zJ ((yO x48 (IntKind.i64.wrap (x47 - 1)).toNat (IntKind.u8.wrap (Int.tmod x63 a0))))):=(.arr (y:=IntKind.u8.wrap (Int.tmod x63 a0)) (vlt x48 hc66) rfl (.nil rfl rfl rfl rfl))
    refine vu .top [(7,bk (zJ ((yO x48 (IntKind.i64.wrap (x47 - 1)).toNat (IntKind.u8.wrap (Int.tmod x63 a0))))))] (qG (i:=⟨.int .u8,1,1,(.int .u8 0)⟩) rfl rfl (fun _=>rfl) rfl hs67) (hs67.c rfl) rfl (yJ (xI (nj ⟨[(0,i6 a0),(3,ow 3),(4,ow 4),(7,ow 7),(8,i6 x47)],[(3,bk (zJ a1)),(4,bk (yF)),(7,bk (zJ ((yO x48 (IntKind.i64.wrap (x47 - 1)).toNat (IntKind.u8.wrap (Int.tmod x63 a0))))))]⟩ (zR (vr (i6 x47) (vr (i6 (IntKind.i64.wrap (x47 + 1))) (vr (i6 (IntKind.i64.wrap (x47 + 1))) (yJ ?_))))))))
    cases h
    exact ag hX59
 ·have h:=zV hb4 h
  refine zO rfl (sr (vq (yF) rfl ⟨⟨_,rfl,rfl⟩,all_nil⟩ (vr (i6 r2) (vs (yF) rfl rfl (fun _=>rfl) rfl rfl rfl rfl rfl rfl (vr (i6 r2) (nx _ rfl (zU (xV ?_))))))))
  have hl73:LdOk [] (yF) [] 64 true (yF):=(.nil rfl rfl rfl)
  refine ⟨.inr rfl,?_⟩
  rw [Tryz.results60]
  cases h
  exact ⟨_,_,_,_,_,zM (i:=⟨.arr 64 5,64,64,(zJ (yH 64 (0:Int)))⟩) rfl rfl rfl hl73,hl73.c,.inl ⟨rfl,.inl rfl⟩,rfl,⟨_,_,_,_,_,rfl,trivial,.inl ⟨rfl,.inl rfl⟩,rfl,rfl⟩⟩
noncomputable def nO:ACode:=mO [(2,2)] (Tryz.f111.body.getD .skip)
def zde:Live:=[(0,[0]),(1,[0]),(2,[]),(3,[0]),(100004,[0,4])]
noncomputable def uH (a0:(List Int)):Option (List Int) :=
 (ifc (a0=[]→((some ([])))=((jA ((([]:List Int).length + a0.length)*8≤140737488355328) ((some ((([]:List Int) ++ a0))))))) ((jA ((([]:List Int).length + a0.length)*8≤140737488355328) ((some ((([]:List Int) ++ a0)))))))
theorem zc8 (a0:(List Int)) (r:(List Int)) (h:uH a0=some r):Den Tryz.prog 111 [(zI a0)] { r:=(.osl 2000000),ms:=[],fs:=[(1,r.map (AV.int .i64))] }:=by
 refine zed (rs:=[(.osl 2000000)]) (ac:=nO) (L:=zde) (n:=8) (m:=[(2,2)]) (c:=Tryz.f111.body.getD .skip) xL Tryz.func111 (by kernel_rfl) (by kernel_rfl) Tryz.ntmps111 rfl rfl (by kernel_rfl) rfl ?_
 refine ns ⟨[(0,zI a0)],[]⟩ ?_
 unfold nO
 refine sr (vu (.osl 1200) [(1200,bk (.row 1 (([]).map (AV.int .i64))))] rfl trivial rfl (nk ⟨[(0,zI a0)],[]⟩ (yC (sr (vr (zI a0) ?_)))))
 obtain ⟨hq2,h⟩:=z1k h
 refine z29 (v:=.bool true) (v':=.bool false) rfl rfl (fun hn3=>?_) ?_
 ·have h:=(hq2 (List.map_eq_nil_iff.1 hn3)).trans h
  refine nk ⟨[(0,zI a0),(4,.bool true)],[]⟩ (zO rfl (sr (vu (.osl 1200) [(1200,bk (.row 1 (([]).map (AV.int .i64))))] rfl trivial rfl (nx _ rfl (zU (xV ?_))))))
  refine ⟨.inr rfl,?_⟩
  rw [Tryz.results111]
  cases h
  exact ⟨[some 1200],⟨_,_,_,_,_,rfl,trivial,rfl,.inr (.inl ⟨_,_,_,_,_,rfl,rfl,rfl,rfl,rfl,rfl,⟨rfl,rfl,rfl⟩⟩)⟩,rfl,rfl⟩
 ·skip
  refine nk ⟨[(0,zI a0),(4,.bool false)],[]⟩ (zP rfl (yG (nj ⟨[(0,zI a0)],[]⟩ (sr (vq (.sl 1 true (([]).map (AV.int .i64))) rfl ⟨(yS rfl),(yS rfl),all_nil⟩ (vr (zI a0) ?_))))))
  obtain ⟨hc1,h⟩:=zT h
  refine vu (.osl 1700) [(1700,bk (.row 1 (((([]:List Int) ++ a0)).map (AV.int .i64))))] (z0m (i:=⟨.int .i64,1,8,(.int .i64 0)⟩) (f:=(AV.int .i64)) (l:=[]) (l2:=a0) rfl rfl rfl rfl (fun _=>rfl) rfl) (z5w (f:=(AV.int .i64)) (s:=1) (sz:=1) (sz':=1) (by':=8) hc1 (.inl rfl) (.inl rfl) (.inr rfl) rfl rfl) rfl (vr (.osl 1700) (nx _ rfl (zU ?_)))
  refine ⟨.inr rfl,?_⟩
  rw [Tryz.results111]
  cases h
  exact ⟨[some 1700],⟨_,_,_,_,_,rfl,trivial,rfl,.inr (.inl ⟨_,_,_,_,_,rfl,rfl,rfl,rfl,rfl,rfl,⟨rfl,rfl,rfl⟩⟩)⟩,rfl,rfl⟩
def zow:Live:=[(0,[0]),(1,[0]),(2,[]),(3,[0]),(100005,[0,5])]
noncomputable def jP (a0:(List Int)):Option Int :=
 (if ((a0.length:Int) == 0) then (some 0) else (jA (0≤IntKind.i64.wrap ((a0.length:Int) - 1)∧IntKind.i64.wrap ((a0.length:Int) - 1) < ((a0.length:Nat):Int)) ((some ((rd a0 (IntKind.i64.wrap ((a0.length:Int) - 1)).toNat))))))
theorem zc0 (a0:(List Int)) (r:Int) (h:jP a0=some r):Den Tryz.prog 86 [(zI a0)] { r:=(i6 r) }:=by
 refine dd (rs:=[(i6 r)]) (L:=zow) xL [] Tryz.func86 Tryz.ntmps86 ?_
 refine ns ⟨[(0,zI a0)],[]⟩ ?_
 refine sr (vr (i6 0) (nk ⟨[(0,zI a0)],[]⟩ (yC (sr (vr (zI a0) (vq (i6 (a0.length:Int)) (xX rfl rfl) trivial (vr (.bool (((a0.length:Int) == 0))) (nk ⟨[(0,zI a0),(5,.bool (((a0.length:Int) == 0)))],[]⟩ ?_))))))))
 cases hb1:((a0.length:Int) == 0)
 ·have h:=zW hb1 h
  refine zP rfl (yG (nj ⟨[(0,zI a0)],[]⟩ (sr (vr (zI a0) (vr (zI a0) (vq (i6 (a0.length:Int)) (xX rfl rfl) trivial (vr (i6 (IntKind.i64.wrap ((a0.length:Int) - 1))) ?_)))))))
  obtain ⟨hc2,h⟩:=zT h
  refine vq (.ref (.row 1 (a0.map (AV.int .i64))) [(IntKind.i64.wrap ((a0.length:Int) - 1)).toNat] [(IntKind.i64.wrap ((a0.length:Int) - 1)).toNat*1]) rfl (zdp hc2) ?_
  have hl3:LdOk [(IntKind.i64.wrap ((a0.length:Int) - 1)).toNat] (.row 1 (a0.map (AV.int .i64))) [(IntKind.i64.wrap ((a0.length:Int) - 1)).toNat*1] 1 false (i6 ((rd a0 (IntKind.i64.wrap ((a0.length:Int) - 1)).toNat))):=(.row (llt hc2) rfl (.nil rfl rfl rfl))
  refine vq (i6 ((rd a0 (IntKind.i64.wrap ((a0.length:Int) - 1)).toNat))) (kC (i:=⟨.int .i64,1,8,(.int .i64 0)⟩) rfl rfl hl3) hl3.c (vr (i6 ((rd a0 (IntKind.i64.wrap ((a0.length:Int) - 1)).toNat))) (nx _ rfl (zU ?_)))
  refine ⟨.inr rfl,?_⟩
  rw [Tryz.results86]
  cases h
  exact ⟨_,_,_,_,_,rfl,trivial,.inl ⟨rfl,.inl rfl⟩,rfl,rfl⟩
 ·have h:=zV hb1 h
  refine zO rfl (sr (vr (i6 0) (nx _ rfl (zU (xV ?_)))))
  refine ⟨.inr rfl,?_⟩
  rw [Tryz.results86]
  cases h
  exact ⟨_,_,_,_,_,rfl,trivial,.inl ⟨rfl,.inl rfl⟩,rfl,rfl⟩
def zj1:Live:=[(0,[0,1]),(1,[0,1]),(2,[0,1,5]),(3,[0,1,5,7,8]),(4,[0,1,5,7,8]),(5,[0,1,5,7,8]),(6,[5]),(100009,[0,1,5,7,8,9])]
noncomputable def uO (a0:Int) (a1:Int) (x19:Int) (x20:Int):Option ((Int×Int)⊕Int) :=
 (if (decide (x20 < (IntKind.i64.wrap (a0 - 2)))) then (jA (a0 ≠ 0) ((some (.inl ((Int.tmod (IntKind.i64.wrap (x19*a1)) a0,IntKind.i64.wrap (x20 + 1))))))) else (some (.inr x19)))
noncomputable def kL (a0:Int) (a1:Int):Option Int :=
 (Option.bind (α:=Int) ((yK (fun s:(Int×Int)=>uO a0 a1 s.1 s.2) (1,0))) fun x13=>(some x13))
theorem zby (a0:Int) (a1:Int) (r:Int) (h:kL a0 a1=some r):Den Tryz.prog 87 [(i6 a0),(i6 a1)] { r:=(i6 r) }:=by
 refine dd (rs:=[(i6 r)]) (L:=zj1) xL [] Tryz.func87 Tryz.ntmps87 ?_
 refine ns ⟨[(0,i6 a0),(1,i6 a1)],[]⟩ ?_
 refine sr (vr (i6 0) (nk ⟨[(0,i6 a0),(1,i6 a1)],[]⟩ (sr (vr (i6 1) (nk ⟨[(0,i6 a0),(1,i6 a1),(5,i6 1)],[]⟩ ?_)))))
 obtain ⟨y14,hy15,hk16⟩:=bind_some h
 clear h
 refine yN (emb:=fun (s:Int)=>⟨[(5,i6 s)],[]⟩) (kG:=fun s=>s=y14) ?_ ?_
 ·rintro x13 rfl
  have h:=hk16
  refine ns ⟨[(5,i6 x13)],[]⟩ (sr (vr (i6 x13) (vr (i6 x13) (nx _ rfl (zU ?_)))))
  refine ⟨.inr rfl,?_⟩
  rw [Tryz.results87]
  cases h
  exact ⟨_,_,_,_,_,rfl,trivial,.inl ⟨rfl,.inl rfl⟩,rfl,rfl⟩
 ·have h:=hy15
  refine sr (vr (i6 a0) (vr (i6 (IntKind.i64.wrap (a0 - 2))) (vr (i6 0) (nk ⟨[(0,i6 a0),(1,i6 a1),(5,i6 1),(7,i6 (IntKind.i64.wrap (a0 - 2))),(8,i6 0)],[]⟩ (yB ?_)))))
  refine xU (emb:=fun (s:(Int×Int))=>⟨[(0,i6 a0),(1,i6 a1),(5,i6 s.1),(7,i6 (IntKind.i64.wrap (a0 - 2))),(8,i6 s.2)],[]⟩) (body:=(fun s:(Int×Int)=>uO a0 a1 s.1 s.2)) (G:=fun q=>some q=some y14) h rfl ?_ (by kernel_rfl)
  rintro X23 ⟨x19,x20⟩ x24 h hX25
  have h:uO a0 a1 x19 x20=some x24:=h
  refine ns ⟨[(0,i6 a0),(1,i6 a1),(5,i6 x19),(7,i6 (IntKind.i64.wrap (a0 - 2))),(8,i6 x20)],[]⟩ (sr (vr (.bool ((decide (x20 < (IntKind.i64.wrap (a0 - 2)))))) (nk ⟨[(0,i6 a0),(1,i6 a1),(5,i6 x19),(7,i6 (IntKind.i64.wrap (a0 - 2))),(8,i6 x20),(9,.bool ((decide (x20 < (IntKind.i64.wrap (a0 - 2))))))],[]⟩ (yC ?_))))
  cases hb26:(decide (x20 < (IntKind.i64.wrap (a0 - 2))))
  ·have h:=zW hb26 h
   refine zP rfl (xR (yI ?_))
   cases h
   have h:=hX25
   refine yI (xQ ?_)
   exact jl x19 h
  ·have h:=zV hb26 h
   refine zO rfl (yG (nj ⟨[(0,i6 a0),(1,i6 a1),(5,i6 x19),(7,i6 (IntKind.i64.wrap (a0 - 2))),(8,i6 x20)],[]⟩ (yC (yB (zR (vr (i6 x19) (vr (i6 a1) (vr (i6 (IntKind.i64.wrap (x19*a1))) (vr (i6 a0) ?_)))))))))
   obtain ⟨hc27,h⟩:=zT h
   refine vq (i6 (Int.tmod (IntKind.i64.wrap (x19*a1)) a0)) rfl hc27 (vr (i6 (Int.tmod (IntKind.i64.wrap (x19*a1)) a0)) (yJ (xI (nj ⟨[(0,i6 a0),(1,i6 a1),(5,i6 (Int.tmod (IntKind.i64.wrap (x19*a1)) a0)),(7,i6 (IntKind.i64.wrap (a0 - 2))),(8,i6 x20)],[]⟩ (zR (vr (i6 (IntKind.i64.wrap (x20 + 1))) (vr (i6 (IntKind.i64.wrap (x20 + 1))) (yJ ?_))))))))
   cases h
   exact ag hX25
def zk7:Live:=[(0,[0,1]),(1,[0,1])]
noncomputable def mP (a0:Int) (a1:Int):Option Int :=
 (jA (a0 ≠ 0) ((jA (a0 ≠ 0) ((some (Int.tmod (IntKind.i64.wrap ((Int.tmod a1 a0) + a0)) a0))))))
theorem zfd (a0:Int) (a1:Int) (r:Int) (h:mP a0 a1=some r):Den Tryz.prog 109 [(i6 a0),(i6 a1)] { r:=(i6 r) }:=by
 refine dd (rs:=[(i6 r)]) (L:=zk7) xL [] Tryz.func109 Tryz.ntmps109 ?_
 refine ns ⟨[(0,i6 a0),(1,i6 a1)],[]⟩ ?_
 refine sr (vr (i6 0) (nk ⟨[(0,i6 a0),(1,i6 a1)],[]⟩ (sr (vr (i6 a1) (vr (i6 a0) ?_)))))
 obtain ⟨hc1,h⟩:=zT h
 refine vq (i6 (Int.tmod a1 a0)) rfl hc1 (vr (i6 a0) (vr (i6 (IntKind.i64.wrap ((Int.tmod a1 a0) + a0))) (vr (i6 a0) ?_)))
 obtain ⟨hc2,h⟩:=zT h
 refine vq (i6 (Int.tmod (IntKind.i64.wrap ((Int.tmod a1 a0) + a0)) a0)) rfl hc2 (vr (i6 (Int.tmod (IntKind.i64.wrap ((Int.tmod a1 a0) + a0)) a0)) (nx _ rfl (zU ?_)))
 refine ⟨.inr rfl,?_⟩
 rw [Tryz.results109]
 cases h
 exact ⟨_,_,_,_,_,rfl,trivial,.inl ⟨rfl,.inl rfl⟩,rfl,rfl⟩
def zk8:Live:=[(0,[0,1,2]),(1,[0,1,2]),(2,[0,1,2,8]),(3,[8]),(4,[0,1,2,8]),(5,[0,2,8,9]),(6,[0,2,8,9,10]),(7,[0,2,8,9,10,11]),(8,[0,2,8,9,10,11]),(9,[0,2,8,9,10,11]),(10,[0,2,8,9,10,11,12]),(11,[0,2,8,9,10,11,12]),(12,[0,2,8,9,10,11,12,57,58,59]),(13,[0,2,8,9,10,11,12,57,58,59]),(14,[0,2,8,9,10,11,12,13,14,57,58,59]),(15,[0,2,8,9,10,11,12,57,58,59]),(16,[8,9]),(100021,[0,1,2,8,21]),(100038,[0,2,8,9,10,11,38]),(100060,[0,2,8,9,10,11,12,57,58,59,60])]
noncomputable def uY (a2:(List Int)) (x467:Int) (x468:(List Int)) (x641:Int) (r9:Int) (a0:Int) (x469:(List Int)) (x661:Int) (x662:(List Int)):Option ((Int×(List Int))⊕((List Int)×(List Int))) :=
 (if (decide (x661 < (a2.length:Int))) then (jA (0≤x661∧x661 < ((a2.length:Nat):Int)) ((jA (0≤IntKind.i64.wrap (x467 + x661)∧IntKind.i64.wrap (x467 + x661) < ((x662.length:Nat):Int)) ((kR (IntKind.i64.wrap ((Int.tmod (IntKind.i64.wrap ((rd x468 x641.toNat)*r9)) a0)*(rd a2 x661.toNat))) fun x684=>(kR (IntKind.i64.wrap (((rd x662 (IntKind.i64.wrap (x467 + x661)).toNat)) - x684)) fun x686=>(Option.bind (mP a0 x686) fun r688=>(jA (0≤IntKind.i64.wrap (x467 + x661)∧IntKind.i64.wrap (x467 + x661) < ((x662.length:Nat):Int)) ((some (.inl ((IntKind.i64.wrap (x661 + 1),(x662.set (IntKind.i64.wrap (x467 + x661)).toNat r688)))))))))))))) else (some (.inr (((x662,(x469.set x467.toNat (Int.tmod (IntKind.i64.wrap ((rd x468 x641.toNat)*r9)) a0))))))))
noncomputable def vU (a2:(List Int)) (a0:Int) (r9:Int) (x467:Int) (x468:(List Int)) (x469:(List Int)):Option ((Int×(List Int)×(List Int))⊕((List Int)×(List Int))) :=
 (if (decide (x467 ≥ 0)) then (Option.bind (α:=((List Int)×(List Int))) ((kR (IntKind.i64.wrap ((IntKind.i64.wrap (x467 + (a2.length:Int))) - 1)) fun x641=>(jA (0≤x641∧x641 < ((x468.length:Nat):Int)) ((jA (a0 ≠ 0) ((jA (0≤x467∧x467 < ((x469.length:Nat):Int)) ((yK (fun s:(Int×(List Int))=>uY a2 x467 x468 x641 r9 a0 x469 s.1 s.2) (0,x468)))))))))) fun ⟨x636,x637⟩=>(some (.inl ((IntKind.i64.wrap (x467 - 1),x636,x637))))) else (some (.inr (x468,x469))))
noncomputable def uU (a0:Int) (a1:(List Int)) (a2:(List Int)):Option ((List Int)×(List Int)) :=
 (Option.bind (uH a1) fun r1=>(if (decide ((a1.length:Int) < (a2.length:Int))) then (some ([],r1)) else (kR (IntKind.i64.wrap ((IntKind.i64.wrap ((a1.length:Int) - (a2.length:Int))) + 1)) fun x4=>(jA (0≤x4∧x4≤140737488355328∧8*x4≤140737488355328) ((Option.bind (jP a2) fun r7=>(Option.bind (kL a0 r7) fun r9=>(Option.bind (α:=((List Int)×(List Int))) ((kR (IntKind.i64.wrap ((((List.replicate x4.toNat (0:Int)).length:Int)) - 1)) fun x355=>(yK (fun s:(Int×(List Int)×(List Int))=>vU a2 a0 r9 s.1 s.2.1 s.2.2) (x355,r1,List.replicate x4.toNat (0:Int))))) fun ⟨x350,x351⟩=>(Option.bind (kP x351) fun r694=>(Option.bind (kP x350) fun r696=>(some (r694,r696))))))))))))
theorem jQ (a0:Int) (a1:(List Int)) (a2:(List Int)) (r:((List Int)×(List Int))) (h:uU a0 a1 a2=some r):Den Tryz.prog 77 [(i6 a0),(zI a1),(zI a2)] { r:=(.tuple [(zI r.1),(zI r.2)]) }:=by
 refine dd (rs:=[(zI r.1),(zI r.2)]) (L:=zk8) xL [(6,1),(7,1),(8,2),(9,2)] Tryz.func77 Tryz.ntmps77 ?_
 refine ns ⟨[(0,i6 a0),(1,zI a1),(2,zI a2)],[]⟩ ?_
 refine sr (vr (zI ([])) (vr (zI ([])) (nk ⟨[(0,i6 a0),(1,zI a1),(2,zI a2)],[]⟩ (sr (vr (zI a1) ?_)))))
 obtain ⟨r1,hr2,h⟩:=bind_some h
 refine zg4 (args:=[(zI a1)]) (u:=[]) (u2:=[]) (r:=(.osl 2000000)) (fs:=[(1,r1.map (AV.int .i64))]) rfl rfl (zc8 a1 r1 hr2) rfl rfl rfl (.inl rfl) rfl (vr (.osl 2600) (nk ⟨[(0,i6 a0),(1,zI a1),(2,zI a2),(8,.osl 8)],[(8,bk (.row 1 (r1.map (AV.int .i64))))]⟩ (yC (sr (vr (zI a1) (vq (i6 (a1.length:Int)) (xX rfl rfl) trivial (vr (zI a2) (vq (i6 (a2.length:Int)) (xX rfl rfl) trivial (vr (.bool ((decide ((a1.length:Int) < (a2.length:Int))))) ?_)))))))))
 refine nk ⟨[(0,i6 a0),(1,zI a1),(2,zI a2),(8,.osl 8),(21,.bool ((decide ((a1.length:Int) < (a2.length:Int)))))],[(8,bk (.row 1 (r1.map (AV.int .i64))))]⟩ ?_
 cases hb3:(decide ((a1.length:Int) < (a2.length:Int)))
 ·have h:=zW hb3 h
  refine zP rfl (yG (nj ⟨[(0,i6 a0),(1,zI a1),(2,zI a2),(8,.osl 8)],[(8,bk (.row 1 (r1.map (AV.int .i64))))]⟩ (sr (vr (zI a1) (vq (i6 (a1.length:Int)) (xX rfl rfl) trivial (vr (zI a2) (vq (i6 (a2.length:Int)) (xX rfl rfl) trivial (vr (i6 (IntKind.i64.wrap ((a1.length:Int) - (a2.length:Int)))) ?_))))))))
  obtain ⟨x4,hx5,h⟩:=xP h
  refine qI (v:=(i6 (IntKind.i64.wrap ((IntKind.i64.wrap ((a1.length:Int) - (a2.length:Int))) + 1)))) (v':=(i6 x4)) (u:=[]) (u':=[]) rfl (congrArg (fun z=>((i6 z):AV)) hx5) rfl trivial rfl ?_
  obtain ⟨hc6,h⟩:=zT h
  refine vu (.osl 3900) [(3900,bk (.row 1 ((List.replicate x4.toNat (0:Int)).map (AV.int .i64))))] (zw4 (i:=⟨.int .i64,1,8,(.int .i64 0)⟩) (f:=(AV.int .i64)) (y:=(0:Int)) rfl rfl rfl rfl rfl rfl) ⟨rfl,hc6.1,hc6.2.1,hc6.2.2,(yS rfl)⟩ rfl (vr (.osl 3900) (nk ⟨[(0,i6 a0),(2,zI a2),(8,.osl 8),(9,.osl 9)],[(8,bk (.row 1 (r1.map (AV.int .i64)))),(9,bk (.row 1 ((List.replicate x4.toNat (0:Int)).map (AV.int .i64))))]⟩ (sr (vr (i6 a0) (vr (zI a2) ?_)))))
  obtain ⟨r7,hr8,h⟩:=bind_some h
  refine ca (zc0 a2 r7 hr8) ?_
  obtain ⟨r9,hr10,h⟩:=bind_some h
  refine ca (zby a0 r7 r9 hr10) (vr (i6 r9) (nk ⟨[(0,i6 a0),(2,zI a2),(8,.osl 8),(9,.osl 9),(10,i6 r9)],[(8,bk (.row 1 (r1.map (AV.int .i64)))),(9,bk (.row 1 ((List.replicate x4.toNat (0:Int)).map (AV.int .i64))))]⟩ ?_))
  obtain ⟨y352,hy353,hk354⟩:=bind_some h
  clear h
  refine yN (emb:=fun (s:((List Int)×(List Int)))=>⟨[(8,.osl 8),(9,.osl 9)],[(8,bk (.row 1 (s.1.map (AV.int .i64)))),(9,bk (.row 1 (s.2.map (AV.int .i64))))]⟩) (kG:=fun s=>s=y352) ?_ ?_
  ·rintro ⟨x350,x351⟩ rfl
   have h:=hk354
   refine ns ⟨[(8,.osl 8),(9,.osl 9)],[(8,bk (.row 1 (x350.map (AV.int .i64)))),(9,bk (.row 1 (x351.map (AV.int .i64))))]⟩ (sr (vr (.osl 9) ?_))
   obtain ⟨r694,hr695,h⟩:=bind_some h
   refine zaa (args:=[(zI x351)]) (u:=[(9,bf (.row 1 (x351.map (AV.int .i64))))]) (r:=(zI r694)) rfl rfl (nM x351 r694 hr695) rfl (vr (.osl 8) ?_)
   obtain ⟨r696,hr697,h⟩:=bind_some h
   refine zaa (args:=[(zI x350)]) (u:=[(8,bf (.row 1 (x350.map (AV.int .i64))))]) (r:=(zI r696)) rfl rfl (nM x350 r696 hr697) rfl (vr (zI r694) (vr (zI r696) (nx _ rfl (zU ?_))))
   refine ⟨.inr rfl,?_⟩
   rw [Tryz.results77]
   cases h
   exact ⟨_,_,_,_,_,rfl,trivial,.inl ⟨rfl,.inl rfl⟩,rfl,⟨_,_,_,_,_,rfl,trivial,.inl ⟨rfl,.inl rfl⟩,rfl,rfl⟩⟩
  ·have h:=hy353
   refine sr (vr (.osl 9) (vq (i6 (((List.replicate x4.toNat (0:Int)).length:Int))) (zqy rfl rfl rfl) trivial ?_))
   obtain ⟨x355,hx356,h⟩:=xP h
   refine qI (v:=(i6 (IntKind.i64.wrap ((((List.replicate x4.toNat (0:Int)).length:Int)) - 1)))) (v':=(i6 x355)) (u:=[]) (u':=[]) rfl (congrArg (fun z=>((i6 z):AV)) hx356) rfl trivial rfl (vr (i6 x355) (nk ⟨[(0,i6 a0),(2,zI a2),(8,.osl 8),(9,.osl 9),(10,i6 r9),(11,i6 x355)],[(8,bk (.row 1 (r1.map (AV.int .i64)))),(9,bk (.row 1 ((List.replicate x4.toNat (0:Int)).map (AV.int .i64))))]⟩ (yB ?_)))
   refine xU (emb:=fun (s:(Int×(List Int)×(List Int)))=>⟨[(0,i6 a0),(2,zI a2),(8,.osl 8),(9,.osl 9),(10,i6 r9),(11,i6 s.1)],[(8,bk (.row 1 (s.2.1.map (AV.int .i64)))),(9,bk (.row 1 (s.2.2.map (AV.int .i64))))]⟩) (body:=(fun s:(Int×(List Int)×(List Int))=>vU a2 a0 r9 s.1 s.2.1 s.2.2)) (G:=fun q=>some q=some y352) h rfl ?_ (by kernel_rfl)
   rintro X580 ⟨x467,x468,x469⟩ x581 h hX582
   have h:vU a2 a0 r9 x467 x468 x469=some x581:=h
   refine ns ⟨[(0,i6 a0),(2,zI a2),(8,.osl 8),(9,.osl 9),(10,i6 r9),(11,i6 x467)],[(8,bk (.row 1 (x468.map (AV.int .i64)))),(9,bk (.row 1 (x469.map (AV.int .i64))))]⟩ (yC (sr (vr (i6 x467) (vr (.bool ((decide (x467 ≥ 0)))) (nk ⟨[(0,i6 a0),(2,zI a2),(8,.osl 8),(9,.osl 9),(10,i6 r9),(11,i6 x467),(38,.bool ((decide (x467 ≥ 0))))],[(8,bk (.row 1 (x468.map (AV.int .i64)))),(9,bk (.row 1 (x469.map (AV.int .i64))))]⟩ ?_)))))
   cases hb583:(decide (x467 ≥ 0))
   ·have h:=zW hb583 h
    refine zP rfl (xR (yI ?_))
    cases h
    have h:=hX582
    refine yI (xQ ?_)
    exact jl (x468,x469) h
   ·have h:=zV hb583 h
    refine zO rfl (yG (nj ⟨[(0,i6 a0),(2,zI a2),(8,.osl 8),(9,.osl 9),(10,i6 r9),(11,i6 x467)],[(8,bk (.row 1 (x468.map (AV.int .i64)))),(9,bk (.row 1 (x469.map (AV.int .i64))))]⟩ ?_))
    obtain ⟨y638,hy639,hk640⟩:=bind_some h
    clear h
    refine yN (emb:=fun (s:((List Int)×(List Int)))=>⟨[(0,i6 a0),(2,zI a2),(8,.osl 8),(9,.osl 9),(10,i6 r9),(11,i6 x467)],[(8,bk (.row 1 (s.1.map (AV.int .i64)))),(9,bk (.row 1 (s.2.map (AV.int .i64))))]⟩) (kG:=fun s=>s=y638) ?_ ?_
    ·rintro ⟨x636,x637⟩ rfl
     have h:=hk640
     refine ns ⟨[(0,i6 a0),(2,zI a2),(8,.osl 8),(9,.osl 9),(10,i6 r9),(11,i6 x467)],[(8,bk (.row 1 (x636.map (AV.int .i64)))),(9,bk (.row 1 (x637.map (AV.int .i64))))]⟩ (zR (vr (i6 x467) (vr (i6 (IntKind.i64.wrap (x467 - 1))) (vr (i6 (IntKind.i64.wrap (x467 - 1))) (yJ ?_)))))
     cases h
     exact ag hX582
    ·have h:=hy639
     refine yB (sr (vr (.osl 8) (vr (i6 x467) (vr (zI a2) (vq (i6 (a2.length:Int)) (xX rfl rfl) trivial (vr (i6 (IntKind.i64.wrap (x467 + (a2.length:Int)))) ?_))))))
     obtain ⟨x641,hx642,h⟩:=xP h
     refine qI (v:=(i6 (IntKind.i64.wrap ((IntKind.i64.wrap (x467 + (a2.length:Int))) - 1)))) (v':=(i6 x641)) (u:=[]) (u':=[]) rfl (congrArg (fun z=>((i6 z):AV)) hx642) rfl trivial rfl ?_
     obtain ⟨hc643,h⟩:=zT h
     refine vq (.own 8 [x641.toNat] [x641.toNat*1]) rfl (zdp hc643) ?_
     have hl644:LdOk [x641.toNat] (.row 1 (x468.map (AV.int .i64))) [x641.toNat*1] 1 false (i6 (rd x468 x641.toNat)):=(.row (llt hc643) rfl (.nil rfl rfl rfl))
     refine vq (i6 (rd x468 x641.toNat)) (zM (i:=⟨.int .i64,1,8,(.int .i64 0)⟩) rfl rfl rfl hl644) hl644.c (vr (i6 r9) (vr (i6 (IntKind.i64.wrap ((rd x468 x641.toNat)*r9))) (vr (i6 a0) ?_)))
     obtain ⟨hc645,h⟩:=zT h
     refine vq (i6 (Int.tmod (IntKind.i64.wrap ((rd x468 x641.toNat)*r9)) a0)) rfl hc645 (vr (i6 (Int.tmod (IntKind.i64.wrap ((rd x468 x641.toNat)*r9)) a0)) (nk ⟨[(0,i6 a0),(2,zI a2),(8,.osl 8),(9,.osl 9),(10,i6 r9),(11,i6 x467),(12,i6 (Int.tmod (IntKind.i64.wrap ((rd x468 x641.toNat)*r9)) a0))],[(8,bk (.row 1 (x468.map (AV.int .i64)))),(9,bk (.row 1 (x469.map (AV.int .i64))))]⟩ (sr (vr (.osl 9) (vr (i6 x467) (vr (i6 (Int.tmod (IntKind.i64.wrap ((rd x468 x641.toNat)*r9)) a0)) ?_))))))
     obtain ⟨hc646,h⟩:=zT h
     refine vq (.own 9 [x467.toNat] [x467.toNat*1]) rfl (zdp hc646) ?_
     have hs647:StOk [x467.toNat] (.row 1 (x469.map (AV.int .i64))) [x467.toNat*1] 1 (i6 (Int.tmod (IntKind.i64.wrap ((rd x468 x641.toNat)*r9)) a0)) (.row 1 (((x469.set x467.toNat (Int.tmod (IntKind.i64.wrap ((rd x468 x641.toNat)*r9)) a0))).map (AV.int .i64))):=(.row (y:=Int.tmod (IntKind.i64.wrap ((rd x468 x641.toNat)*r9)) a0) (llt hc646) rfl (.nil rfl rfl rfl rfl))
     refine vu .top [(9,bk (.row 1 (((x469.set x467.toNat (Int.tmod (IntKind.i64.wrap ((rd x468 x641.toNat)*r9)) a0))).map (AV.int .i64))))] (qG (i:=⟨.int .i64,1,8,(.int .i64 0)⟩) rfl rfl (fun _=>rfl) rfl hs647) (hs647.c rfl) rfl (nk ⟨[(0,i6 a0),(2,zI a2),(8,.osl 8),(9,.osl 9),(10,i6 r9),(11,i6 x467),(12,i6 (Int.tmod (IntKind.i64.wrap ((rd x468 x641.toNat)*r9)) a0))],[(8,bk (.row 1 (x468.map (AV.int .i64)))),(9,bk (.row 1 (((x469.set x467.toNat (Int.tmod (IntKind.i64.wrap ((rd x468 x641.toNat)*r9)) a0))).map (AV.int .i64))))]⟩ (sr (vr (zI a2) (vq (i6 (a2.length:Int)) (xX rfl rfl) trivial (vr (i6 0) (nk ⟨[(0,i6 a0),(2,zI a2),(8,.osl 8),(9,.osl 9),(10,i6 r9),(11,i6 x467),(12,i6 (Int.tmod (IntKind.i64.wrap ((rd x468 x641.toNat)*r9)) a0)),(57,zI a2),(58,i6 (a2.length:Int)),(59,i6 0)],[(8,bk (.row 1 (x468.map (AV.int .i64)))),(9,bk (.row 1 (((x469.set x467.toNat (Int.tmod (IntKind.i64.wrap ((rd x468 x641.toNat)*r9)) a0))).map (AV.int .i64))))]⟩ (yB ?_)))))))
     refine xU (emb:=fun (s:(Int×(List Int)))=>⟨[(0,i6 a0),(2,zI a2),(8,.osl 8),(9,.osl 9),(10,i6 r9),(11,i6 x467),(12,i6 (Int.tmod (IntKind.i64.wrap ((rd x468 x641.toNat)*r9)) a0)),(57,zI a2),(58,i6 (a2.length:Int)),(59,i6 s.1)],[(8,bk (.row 1 (s.2.map (AV.int .i64)))),(9,bk (.row 1 (((x469.set x467.toNat (Int.tmod (IntKind.i64.wrap ((rd x468 x641.toNat)*r9)) a0))).map (AV.int .i64))))]⟩) (body:=(fun s:(Int×(List Int))=>uY a2 x467 x468 x641 r9 a0 x469 s.1 s.2)) (G:=fun q=>some q=some y638) h rfl ?_ (by kernel_rfl)
     rintro X676 ⟨x661,x662⟩ x677 h hX678
     have h:uY a2 x467 x468 x641 r9 a0 x469 x661 x662=some x677:=h
     refine ns ⟨[(0,i6 a0),(2,zI a2),(8,.osl 8),(9,.osl 9),(10,i6 r9),(11,i6 x467),(12,i6 (Int.tmod (IntKind.i64.wrap ((rd x468 x641.toNat)*r9)) a0)),(57,zI a2),(58,i6 (a2.length:Int)),(59,i6 x661)],[(8,bk (.row 1 (x662.map (AV.int .i64)))),(9,bk (.row 1 (((x469.set x467.toNat (Int.tmod (IntKind.i64.wrap ((rd x468 x641.toNat)*r9)) a0))).map (AV.int .i64))))]⟩ (sr (vr (.bool ((decide (x661 < (a2.length:Int))))) (nk ⟨[(0,i6 a0),(2,zI a2),(8,.osl 8),(9,.osl 9),(10,i6 r9),(11,i6 x467),(12,i6 (Int.tmod (IntKind.i64.wrap ((rd x468 x641.toNat)*r9)) a0)),(57,zI a2),(58,i6 (a2.length:Int)),(59,i6 x661),(60,.bool ((decide (x661 < (a2.length:Int)))))],[(8,bk (.row 1 (x662.map (AV.int .i64)))),(9,bk (.row 1 (((x469.set x467.toNat (Int.tmod (IntKind.i64.wrap ((rd x468 x641.toNat)*r9)) a0))).map (AV.int .i64))))]⟩ (yC ?_))))
     cases hb679:(decide (x661 < (a2.length:Int)))
     ·have h:=zW hb679 h
      refine zP rfl (xR (yI ?_))
      cases h
      have h:=hX678
      refine yI (xQ (xI ?_))
      exact jl ((x662,(x469.set x467.toNat (Int.tmod (IntKind.i64.wrap ((rd x468 x641.toNat)*r9)) a0)))) h
     ·have h:=zV hb679 h
      refine zO rfl (yG (nj ⟨[(0,i6 a0),(2,zI a2),(8,.osl 8),(9,.osl 9),(10,i6 r9),(11,i6 x467),(12,i6 (Int.tmod (IntKind.i64.wrap ((rd x468 x641.toNat)*r9)) a0)),(57,zI a2),(58,i6 (a2.length:Int)),(59,i6 x661)],[(8,bk (.row 1 (x662.map (AV.int .i64)))),(9,bk (.row 1 (((x469.set x467.toNat (Int.tmod (IntKind.i64.wrap ((rd x468 x641.toNat)*r9)) a0))).map (AV.int .i64))))]⟩ (yC (yB (sr (vr (i6 x661) ?_))))))
      obtain ⟨hc680,h⟩:=zT h
      refine vq (.ref (.row 1 (a2.map (AV.int .i64))) [x661.toNat] [x661.toNat*1]) rfl (zdp hc680) ?_
      have hl681:LdOk [x661.toNat] (.row 1 (a2.map (AV.int .i64))) [x661.toNat*1] 1 false (i6 (rd a2 x661.toNat)):=(.row (llt hc680) rfl (.nil rfl rfl rfl))
      refine vq (i6 (rd a2 x661.toNat)) (kC (i:=⟨.int .i64,1,8,(.int .i64 0)⟩) rfl rfl hl681) hl681.c (vr (i6 x661) (vr (i6 (rd a2 x661.toNat)) (nk ⟨[(0,i6 a0),(2,zI a2),(8,.osl 8),(9,.osl 9),(10,i6 r9),(11,i6 x467),(12,i6 (Int.tmod (IntKind.i64.wrap ((rd x468 x641.toNat)*r9)) a0)),(13,i6 x661),(14,i6 (rd a2 x661.toNat)),(57,zI a2),(58,i6 (a2.length:Int)),(59,i6 x661)],[(8,bk (.row 1 (x662.map (AV.int .i64)))),(9,bk (.row 1 (((x469.set x467.toNat (Int.tmod (IntKind.i64.wrap ((rd x468 x641.toNat)*r9)) a0))).map (AV.int .i64))))]⟩ (zR (vr (.osl 8) (vr (i6 x467) (vr (i6 x661) (vr (i6 (IntKind.i64.wrap (x467 + x661))) (vr (i6 a0) ?_)))))))))
      refine vr (.osl 8) (vr (i6 x467) (vr (i6 x661) (vr (i6 (IntKind.i64.wrap (x467 + x661))) ?_)))
      obtain ⟨hc682,h⟩:=zT h
      refine vq (.own 8 [(IntKind.i64.wrap (x467 + x661)).toNat] [(IntKind.i64.wrap (x467 + x661)).toNat*1]) rfl (zdp hc682) ?_
      have hl683:LdOk [(IntKind.i64.wrap (x467 + x661)).toNat] (.row 1 (x662.map (AV.int .i64))) [(IntKind.i64.wrap (x467 + x661)).toNat*1] 1 false (i6 ((rd x662 (IntKind.i64.wrap (x467 + x661)).toNat))):=(.row (llt hc682) rfl (.nil rfl rfl rfl))
      refine vq (i6 ((rd x662 (IntKind.i64.wrap (x467 + x661)).toNat))) (zM (i:=⟨.int .i64,1,8,(.int .i64 0)⟩) rfl rfl rfl hl683) hl683.c (vr (i6 (Int.tmod (IntKind.i64.wrap ((rd x468 x641.toNat)*r9)) a0)) (vr (i6 (rd a2 x661.toNat)) ?_))
      obtain ⟨x684,hx685,h⟩:=xP h
      refine qI (v:=(i6 (IntKind.i64.wrap ((Int.tmod (IntKind.i64.wrap ((rd x468 x641.toNat)*r9)) a0)*(rd a2 x661.toNat))))) (v':=(i6 x684)) (u:=[]) (u':=[]) rfl (congrArg (fun z=>((i6 z):AV)) hx685) rfl trivial rfl ?_
      obtain ⟨x686,hx687,h⟩:=xP h
      refine qI (v:=(i6 (IntKind.i64.wrap (((rd x662 (IntKind.i64.wrap (x467 + x661)).toNat)) - x684)))) (v':=(i6 x686)) (u:=[]) (u':=[]) rfl (congrArg (fun z=>((i6 z):AV)) hx687) rfl trivial rfl ?_
      obtain ⟨r688,hr689,h⟩:=bind_some h
      refine ca (zfd a0 x686 r688 hr689) ?_
      obtain ⟨hc690,h⟩:=zT h
      refine vq (.own 8 [(IntKind.i64.wrap (x467 + x661)).toNat] [(IntKind.i64.wrap (x467 + x661)).toNat*1]) rfl (zdp hc690) ?_
      have hs691:StOk [(IntKind.i64.wrap (x467 + x661)).toNat] (.row 1 (x662.map (AV.int .i64))) [(IntKind.i64.wrap (x467 + x661)).toNat*1] 1 (i6 r688) (.row 1 (((x662.set (IntKind.i64.wrap (x467 + x661)).toNat r688)).map (AV.int .i64))):=(.row (y:=r688) (llt hc690) rfl (.nil rfl rfl rfl rfl))
      refine vu .top [(8,bk (.row 1 (((x662.set (IntKind.i64.wrap (x467 + x661)).toNat r688)).map (AV.int .i64))))] (qG (i:=⟨.int .i64,1,8,(.int .i64 0)⟩) rfl rfl (fun _=>rfl) rfl hs691) (hs691.c rfl) rfl (yJ (xI (nj ⟨[(0,i6 a0),(2,zI a2),(8,.osl 8),(9,.osl 9),(10,i6 r9),(11,i6 x467),(12,i6 (Int.tmod (IntKind.i64.wrap ((rd x468 x641.toNat)*r9)) a0)),(57,zI a2),(58,i6 (a2.length:Int)),(59,i6 x661)],[(8,bk (.row 1 (((x662.set (IntKind.i64.wrap (x467 + x661)).toNat r688)).map (AV.int .i64)))),(9,bk (.row 1 (((x469.set x467.toNat (Int.tmod (IntKind.i64.wrap ((rd x468 x641.toNat)*r9)) a0))).map (AV.int .i64))))]⟩ (zR (vr (i6 (IntKind.i64.wrap (x661 + 1))) (vr (i6 (IntKind.i64.wrap (x661 + 1))) (yJ ?_)))))))
      cases h
      exact ag hX678
 ·have h:=zV hb3 h
  refine zO rfl (sr (vr (.osl 8) (vr (zI ([])) (vu (zI r1) [(8,bf (.row 1 (r1.map (AV.int .i64))))] rfl trivial rfl (nx _ rfl (zU (xV ?_)))))))
  refine ⟨.inr rfl,?_⟩
  rw [Tryz.results77]
  cases h
  exact ⟨_,_,_,_,_,rfl,trivial,.inl ⟨rfl,.inl rfl⟩,rfl,⟨_,_,_,_,_,rfl,trivial,.inl ⟨rfl,.inl rfl⟩,rfl,rfl⟩⟩
def zln:Live:=[(0,[0,1,2]),(1,[0,1,2]),(2,[]),(3,[0,1,2]),(4,[0,1,2,7]),(5,[0,2,7,29,30,31]),(6,[0,2,7,29,30,31]),(7,[0,2,7,8,9,29,30,31]),(8,[0,2,7,8,9,29,30,31,36,37,38]),(9,[0,2,7,8,9,29,30,31,36,37,38]),(10,[0,2,7,8,9,10,11,29,30,31,36,37,38]),(11,[0,2,7,8,9,29,30,31,36,37,38]),(12,[0,2,7,29,30,31]),(13,[0,7]),(14,[0,7,56,57,58]),(15,[0,7,56,57,58]),(16,[0,7,12,13,56,57,58]),(17,[0,7,56,57,58]),(18,[7]),(100021,[0,1,2,21]),(100032,[0,2,7,29,30,31,32]),(100039,[0,2,7,8,9,29,30,31,36,37,38,39]),(100059,[0,7,56,57,58,59])]
noncomputable def qR (a2:(List Int)) (x353:Int) (a1:(List Int)) (x492:Int) (x493:(List Int)):Option ((Int×(List Int))⊕(List Int)) :=
 (if (decide (x492 < (a2.length:Int))) then (jA (0≤x492∧x492 < ((a2.length:Nat):Int)) ((jA (0≤IntKind.i64.wrap (x353 + x492)∧IntKind.i64.wrap (x353 + x492) < ((x493.length:Nat):Int)) ((kR (IntKind.i64.wrap (((rd x493 (IntKind.i64.wrap (x353 + x492)).toNat)) + (IntKind.i64.wrap ((rd a1 x353.toNat)*(rd a2 x492.toNat))))) fun x511=>(jA (0≤IntKind.i64.wrap (x353 + x492)∧IntKind.i64.wrap (x353 + x492) < ((x493.length:Nat):Int)) ((some (.inl ((IntKind.i64.wrap (x492 + 1),(x493.set (IntKind.i64.wrap (x353 + x492)).toNat x511)))))))))))) else (some (.inr x493)))
noncomputable def qP (a1:(List Int)) (a2:(List Int)) (x353:Int) (x354:(List Int)):Option ((Int×(List Int))⊕(List Int)) :=
 (if (decide (x353 < (a1.length:Int))) then (Option.bind (α:=(List Int)) ((jA (0≤x353∧x353 < ((a1.length:Nat):Int)) ((yK (fun s:(Int×(List Int))=>qR a2 x353 a1 s.1 s.2) (0,x354))))) fun x475=>(some (.inl ((IntKind.i64.wrap (x353 + 1),x475))))) else (some (.inr x354)))
noncomputable def qQ (x262:(List Int)) (a0:Int) (x551:Int) (x552:(List Int)):Option ((Int×(List Int))⊕(List Int)) :=
 (if (decide (x551 < (x262.length:Int))) then (jA (0≤x551∧x551 < ((x552.length:Nat):Int)) ((jA (a0 ≠ 0) ((jA (0≤x551∧x551 < ((x552.length:Nat):Int)) ((some (.inl ((IntKind.i64.wrap (x551 + 1),(x552.set x551.toNat (Int.tmod (rd x552 x551.toNat) a0)))))))))))) else (some (.inr x552)))
noncomputable def xC (a0:Int) (a1:(List Int)) (a2:(List Int)):Option (List Int) :=
 (Option.bind (α:=Bool) ((if ((a1.length:Int) == 0) then (some true) else (some (((a2.length:Int) == 0))))) fun x2=>(if x2 then (some ([])) else (kR (IntKind.i64.wrap ((IntKind.i64.wrap ((a1.length:Int) + (a2.length:Int))) - 1)) fun x8=>(jA (0≤x8∧x8≤140737488355328∧8*x8≤140737488355328) ((Option.bind (α:=(List Int)) ((yK (fun s:(Int×(List Int))=>qP a1 a2 s.1 s.2) (0,List.replicate x8.toNat (0:Int)))) fun x262=>(Option.bind (α:=(List Int)) ((yK (fun s:(Int×(List Int))=>qQ x262 a0 s.1 s.2) (0,x262))) fun x541=>(Option.bind (kP x541) fun r569=>(some r569)))))))))
theorem xN (a0:Int) (a1:(List Int)) (a2:(List Int)) (r:(List Int)) (h:xC a0 a1 a2=some r):Den Tryz.prog 76 [(i6 a0),(zI a1),(zI a2)] { r:=(zI r) }:=by
 refine dd (rs:=[(zI r)]) (L:=zln) xL [(6,1),(7,2)] Tryz.func76 Tryz.ntmps76 ?_
 refine ns ⟨[(0,i6 a0),(1,zI a1),(2,zI a2)],[]⟩ ?_
 refine sr (vr (zI ([])) (nk ⟨[(0,i6 a0),(1,zI a1),(2,zI a2)],[]⟩ (yC ?_)))
 obtain ⟨y3,hy4,hk5⟩:=bind_some h
 clear h
 refine yN (emb:=fun (s:Bool)=>⟨[(0,i6 a0),(1,zI a1),(2,zI a2),(21,.bool s)],[]⟩) (kG:=fun s=>s=y3) ?_ ?_
 ·rintro x2 rfl
  have h:=hk5
  refine ns ⟨[(0,i6 a0),(1,zI a1),(2,zI a2),(21,.bool x2)],[]⟩ ?_
  cases hb7:x2
  ·have h:=zW hb7 h
   refine zP rfl (yG (nj ⟨[(0,i6 a0),(1,zI a1),(2,zI a2)],[]⟩ (sr (vr (zI a1) (vq (i6 (a1.length:Int)) (xX rfl rfl) trivial (vr (zI a2) (vq (i6 (a2.length:Int)) (xX rfl rfl) trivial (vr (i6 (IntKind.i64.wrap ((a1.length:Int) + (a2.length:Int)))) ?_))))))))
   obtain ⟨x8,hx9,h⟩:=xP h
   refine qI (v:=(i6 (IntKind.i64.wrap ((IntKind.i64.wrap ((a1.length:Int) + (a2.length:Int))) - 1)))) (v':=(i6 x8)) (u:=[]) (u':=[]) rfl (congrArg (fun z=>((i6 z):AV)) hx9) rfl trivial rfl ?_
   obtain ⟨hc10,h⟩:=zT h
   refine vu (.osl 3800) [(3800,bk (.row 1 ((List.replicate x8.toNat (0:Int)).map (AV.int .i64))))] (zw4 (i:=⟨.int .i64,1,8,(.int .i64 0)⟩) (f:=(AV.int .i64)) (y:=(0:Int)) rfl rfl rfl rfl rfl rfl) ⟨rfl,hc10.1,hc10.2.1,hc10.2.2,(yS rfl)⟩ rfl (vr (.osl 3800) (nk ⟨[(0,i6 a0),(1,zI a1),(2,zI a2),(7,.osl 7)],[(7,bk (.row 1 ((List.replicate x8.toNat (0:Int)).map (AV.int .i64))))]⟩ ?_))
   obtain ⟨y263,hy264,hk265⟩:=bind_some h
   clear h
   refine yN (emb:=fun (s:(List Int))=>⟨[(0,i6 a0),(7,.osl 7)],[(7,bk (.row 1 (s.map (AV.int .i64))))]⟩) (kG:=fun s=>s=y263) ?_ ?_
   ·rintro x262 rfl
    have h:=hk265
    refine ns ⟨[(0,i6 a0),(7,.osl 7)],[(7,bk (.row 1 (x262.map (AV.int .i64))))]⟩ ?_
    obtain ⟨y542,hy543,hk544⟩:=bind_some h
    clear h
    refine yN (emb:=fun (s:(List Int))=>⟨[(7,.osl 7)],[(7,bk (.row 1 (s.map (AV.int .i64))))]⟩) (kG:=fun s=>s=y542) ?_ ?_
    ·rintro x541 rfl
     have h:=hk544
     refine ns ⟨[(7,.osl 7)],[(7,bk (.row 1 (x541.map (AV.int .i64))))]⟩ (sr (vr (.osl 7) ?_))
     obtain ⟨r569,hr570,h⟩:=bind_some h
     refine zaa (args:=[(zI x541)]) (u:=[(7,bf (.row 1 (x541.map (AV.int .i64))))]) (r:=(zI r569)) rfl rfl (nM x541 r569 hr570) rfl (vr (zI r569) (nx _ rfl (zU ?_)))
     refine ⟨.inr rfl,?_⟩
     rw [Tryz.results76]
     cases h
     exact ⟨_,_,_,_,_,rfl,trivial,.inl ⟨rfl,.inl rfl⟩,rfl,rfl⟩
    ·have h:=hy543
     refine sr (vr (.osl 7) (vq (i6 (x262.length:Int)) (zqy rfl rfl rfl) trivial (vr (i6 0) (nk ⟨[(0,i6 a0),(7,.osl 7),(56,.osl 7),(57,i6 (x262.length:Int)),(58,i6 0)],[(7,bk (.row 1 (x262.map (AV.int .i64))))]⟩ (yB ?_)))))
     refine xU (emb:=fun (s:(Int×(List Int)))=>⟨[(0,i6 a0),(7,.osl 7),(56,.osl 7),(57,i6 (x262.length:Int)),(58,i6 s.1)],[(7,bk (.row 1 (s.2.map (AV.int .i64))))]⟩) (body:=(fun s:(Int×(List Int))=>qQ x262 a0 s.1 s.2)) (G:=fun q=>some q=some y542) h rfl ?_ (by kernel_rfl)
     rintro X559 ⟨x551,x552⟩ x560 h hX561
     have h:qQ x262 a0 x551 x552=some x560:=h
     refine ns ⟨[(0,i6 a0),(7,.osl 7),(56,.osl 7),(57,i6 (x262.length:Int)),(58,i6 x551)],[(7,bk (.row 1 (x552.map (AV.int .i64))))]⟩ (sr (vr (.bool ((decide (x551 < (x262.length:Int))))) (nk ⟨[(0,i6 a0),(7,.osl 7),(56,.osl 7),(57,i6 (x262.length:Int)),(58,i6 x551),(59,.bool ((decide (x551 < (x262.length:Int)))))],[(7,bk (.row 1 (x552.map (AV.int .i64))))]⟩ (yC ?_))))
     cases hb562:(decide (x551 < (x262.length:Int)))
     ·have h:=zW hb562 h
      refine zP rfl (xR (yI ?_))
      cases h
      have h:=hX561
      refine yI (xQ ?_)
      exact jl x552 h
     ·have h:=zV hb562 h
      refine zO rfl (yG (nj ⟨[(0,i6 a0),(7,.osl 7),(56,.osl 7),(57,i6 (x262.length:Int)),(58,i6 x551)],[(7,bk (.row 1 (x552.map (AV.int .i64))))]⟩ (yC (yB (sr (vr (i6 x551) ?_))))))
      obtain ⟨hc563,h⟩:=zT h
      refine vq (.own 7 [x551.toNat] [x551.toNat*1]) rfl (zdp hc563) ?_
      have hl564:LdOk [x551.toNat] (.row 1 (x552.map (AV.int .i64))) [x551.toNat*1] 1 false (i6 (rd x552 x551.toNat)):=(.row (llt hc563) rfl (.nil rfl rfl rfl))
      refine vq (i6 (rd x552 x551.toNat)) (zM (i:=⟨.int .i64,1,8,(.int .i64 0)⟩) rfl rfl rfl hl564) hl564.c (vr (i6 x551) (vr (i6 (rd x552 x551.toNat)) (nk ⟨[(0,i6 a0),(7,.osl 7),(12,i6 x551),(13,i6 (rd x552 x551.toNat)),(56,.osl 7),(57,i6 (x262.length:Int)),(58,i6 x551)],[(7,bk (.row 1 (x552.map (AV.int .i64))))]⟩ (zR (vr (.osl 7) (vr (i6 x551) (vr (i6 (rd x552 x551.toNat)) (vr (i6 a0) ?_))))))))
      obtain ⟨hc565,h⟩:=zT h
      refine vq (i6 (Int.tmod (rd x552 x551.toNat) a0)) rfl hc565 ?_
      obtain ⟨hc566,h⟩:=zT h
      refine vq (.own 7 [x551.toNat] [x551.toNat*1]) rfl (zdp hc566) ?_
      have hs567:StOk [x551.toNat] (.row 1 (x552.map (AV.int .i64))) [x551.toNat*1] 1 (i6 (Int.tmod (rd x552 x551.toNat) a0)) (.row 1 (((x552.set x551.toNat (Int.tmod (rd x552 x551.toNat) a0))).map (AV.int .i64))):=(.row (y:=Int.tmod (rd x552 x551.toNat) a0) (llt hc566) rfl (.nil rfl rfl rfl rfl))
      refine vu .top [(7,bk (.row 1 (((x552.set x551.toNat (Int.tmod (rd x552 x551.toNat) a0))).map (AV.int .i64))))] (qG (i:=⟨.int .i64,1,8,(.int .i64 0)⟩) rfl rfl (fun _=>rfl) rfl hs567) (hs567.c rfl) rfl (yJ (xI (nj ⟨[(0,i6 a0),(7,.osl 7),(56,.osl 7),(57,i6 (x262.length:Int)),(58,i6 x551)],[(7,bk (.row 1 (((x552.set x551.toNat (Int.tmod (rd x552 x551.toNat) a0))).map (AV.int .i64))))]⟩ (zR (vr (i6 (IntKind.i64.wrap (x551 + 1))) (vr (i6 (IntKind.i64.wrap (x551 + 1))) (yJ ?_)))))))
      cases h
      exact ag hX561
   ·have h:=hy264
    refine sr (vr (zI a1) (vq (i6 (a1.length:Int)) (xX rfl rfl) trivial (vr (i6 0) (nk ⟨[(0,i6 a0),(2,zI a2),(7,.osl 7),(29,zI a1),(30,i6 (a1.length:Int)),(31,i6 0)],[(7,bk (.row 1 ((List.replicate x8.toNat (0:Int)).map (AV.int .i64))))]⟩ (yB ?_)))))
    refine xU (emb:=fun (s:(Int×(List Int)))=>⟨[(0,i6 a0),(2,zI a2),(7,.osl 7),(29,zI a1),(30,i6 (a1.length:Int)),(31,i6 s.1)],[(7,bk (.row 1 (s.2.map (AV.int .i64))))]⟩) (body:=(fun s:(Int×(List Int))=>qP a1 a2 s.1 s.2)) (G:=fun q=>some q=some y263) h rfl ?_ (by kernel_rfl)
    rintro X434 ⟨x353,x354⟩ x435 h hX436
    have h:qP a1 a2 x353 x354=some x435:=h
    refine ns ⟨[(0,i6 a0),(2,zI a2),(7,.osl 7),(29,zI a1),(30,i6 (a1.length:Int)),(31,i6 x353)],[(7,bk (.row 1 (x354.map (AV.int .i64))))]⟩ (sr (vr (.bool ((decide (x353 < (a1.length:Int))))) (nk ⟨[(0,i6 a0),(2,zI a2),(7,.osl 7),(29,zI a1),(30,i6 (a1.length:Int)),(31,i6 x353),(32,.bool ((decide (x353 < (a1.length:Int)))))],[(7,bk (.row 1 (x354.map (AV.int .i64))))]⟩ (yC ?_))))
    cases hb437:(decide (x353 < (a1.length:Int)))
    ·have h:=zW hb437 h
     refine zP rfl (xR (yI ?_))
     cases h
     have h:=hX436
     refine yI (xQ ?_)
     exact jl x354 h
    ·have h:=zV hb437 h
     refine zO rfl (yG (nj ⟨[(0,i6 a0),(2,zI a2),(7,.osl 7),(29,zI a1),(30,i6 (a1.length:Int)),(31,i6 x353)],[(7,bk (.row 1 (x354.map (AV.int .i64))))]⟩ ?_))
     obtain ⟨y476,hy477,hk478⟩:=bind_some h
     clear h
     refine yN (emb:=fun (s:(List Int))=>⟨[(0,i6 a0),(2,zI a2),(7,.osl 7),(29,zI a1),(30,i6 (a1.length:Int)),(31,i6 x353)],[(7,bk (.row 1 (s.map (AV.int .i64))))]⟩) (kG:=fun s=>s=y476) ?_ ?_
     ·rintro x475 rfl
      have h:=hk478
      refine ns ⟨[(0,i6 a0),(2,zI a2),(7,.osl 7),(29,zI a1),(30,i6 (a1.length:Int)),(31,i6 x353)],[(7,bk (.row 1 (x475.map (AV.int .i64))))]⟩ (zR (vr (i6 (IntKind.i64.wrap (x353 + 1))) (vr (i6 (IntKind.i64.wrap (x353 + 1))) (yJ ?_))))
      cases h
      exact ag hX436
     ·have h:=hy477
      refine yB (sr (vr (i6 x353) ?_))
      obtain ⟨hc479,h⟩:=zT h
      refine vq (.ref (.row 1 (a1.map (AV.int .i64))) [x353.toNat] [x353.toNat*1]) rfl (zdp hc479) ?_
      have hl480:LdOk [x353.toNat] (.row 1 (a1.map (AV.int .i64))) [x353.toNat*1] 1 false (i6 (rd a1 x353.toNat)):=(.row (llt hc479) rfl (.nil rfl rfl rfl))
      refine vq (i6 (rd a1 x353.toNat)) (kC (i:=⟨.int .i64,1,8,(.int .i64 0)⟩) rfl rfl hl480) hl480.c (vr (i6 x353) (vr (i6 (rd a1 x353.toNat)) (nk ⟨[(0,i6 a0),(2,zI a2),(7,.osl 7),(8,i6 x353),(9,i6 (rd a1 x353.toNat)),(29,zI a1),(30,i6 (a1.length:Int)),(31,i6 x353)],[(7,bk (.row 1 (x354.map (AV.int .i64))))]⟩ (sr (vr (zI a2) (vq (i6 (a2.length:Int)) (xX rfl rfl) trivial (vr (i6 0) (nk ⟨[(0,i6 a0),(2,zI a2),(7,.osl 7),(8,i6 x353),(9,i6 (rd a1 x353.toNat)),(29,zI a1),(30,i6 (a1.length:Int)),(31,i6 x353),(36,zI a2),(37,i6 (a2.length:Int)),(38,i6 0)],[(7,bk (.row 1 (x354.map (AV.int .i64))))]⟩ (yB ?_)))))))))
      refine xU (emb:=fun (s:(Int×(List Int)))=>⟨[(0,i6 a0),(2,zI a2),(7,.osl 7),(8,i6 x353),(9,i6 (rd a1 x353.toNat)),(29,zI a1),(30,i6 (a1.length:Int)),(31,i6 x353),(36,zI a2),(37,i6 (a2.length:Int)),(38,i6 s.1)],[(7,bk (.row 1 (s.2.map (AV.int .i64))))]⟩) (body:=(fun s:(Int×(List Int))=>qR a2 x353 a1 s.1 s.2)) (G:=fun q=>some q=some y476) h rfl ?_ (by kernel_rfl)
      rintro X503 ⟨x492,x493⟩ x504 h hX505
      have h:qR a2 x353 a1 x492 x493=some x504:=h
      refine ns ⟨[(0,i6 a0),(2,zI a2),(7,.osl 7),(8,i6 x353),(9,i6 (rd a1 x353.toNat)),(29,zI a1),(30,i6 (a1.length:Int)),(31,i6 x353),(36,zI a2),(37,i6 (a2.length:Int)),(38,i6 x492)],[(7,bk (.row 1 (x493.map (AV.int .i64))))]⟩ (sr (vr (.bool ((decide (x492 < (a2.length:Int))))) (nk ⟨[(0,i6 a0),(2,zI a2),(7,.osl 7),(8,i6 x353),(9,i6 (rd a1 x353.toNat)),(29,zI a1),(30,i6 (a1.length:Int)),(31,i6 x353),(36,zI a2),(37,i6 (a2.length:Int)),(38,i6 x492),(39,.bool ((decide (x492 < (a2.length:Int)))))],[(7,bk (.row 1 (x493.map (AV.int .i64))))]⟩ (yC ?_))))
      cases hb506:(decide (x492 < (a2.length:Int)))
      ·have h:=zW hb506 h
       refine zP rfl (xR (yI ?_))
       cases h
       have h:=hX505
       refine yI (xQ (xI ?_))
       exact jl x493 h
      ·have h:=zV hb506 h
       refine zO rfl (yG (nj ⟨[(0,i6 a0),(2,zI a2),(7,.osl 7),(8,i6 x353),(9,i6 (rd a1 x353.toNat)),(29,zI a1),(30,i6 (a1.length:Int)),(31,i6 x353),(36,zI a2),(37,i6 (a2.length:Int)),(38,i6 x492)],[(7,bk (.row 1 (x493.map (AV.int .i64))))]⟩ (yC (yB (sr (vr (i6 x492) ?_))))))
       obtain ⟨hc507,h⟩:=zT h
       refine vq (.ref (.row 1 (a2.map (AV.int .i64))) [x492.toNat] [x492.toNat*1]) rfl (zdp hc507) ?_
       have hl508:LdOk [x492.toNat] (.row 1 (a2.map (AV.int .i64))) [x492.toNat*1] 1 false (i6 (rd a2 x492.toNat)):=(.row (llt hc507) rfl (.nil rfl rfl rfl))
       refine vq (i6 (rd a2 x492.toNat)) (kC (i:=⟨.int .i64,1,8,(.int .i64 0)⟩) rfl rfl hl508) hl508.c (vr (i6 x492) (vr (i6 (rd a2 x492.toNat)) (nk ⟨[(0,i6 a0),(2,zI a2),(7,.osl 7),(8,i6 x353),(9,i6 (rd a1 x353.toNat)),(10,i6 x492),(11,i6 (rd a2 x492.toNat)),(29,zI a1),(30,i6 (a1.length:Int)),(31,i6 x353),(36,zI a2),(37,i6 (a2.length:Int)),(38,i6 x492)],[(7,bk (.row 1 (x493.map (AV.int .i64))))]⟩ (zR (vr (.osl 7) (vr (i6 x353) (vr (i6 x492) (vr (i6 (IntKind.i64.wrap (x353 + x492))) ?_))))))))
       obtain ⟨hc509,h⟩:=zT h
       refine vq (.own 7 [(IntKind.i64.wrap (x353 + x492)).toNat] [(IntKind.i64.wrap (x353 + x492)).toNat*1]) rfl (zdp hc509) ?_
       have hl510:LdOk [(IntKind.i64.wrap (x353 + x492)).toNat] (.row 1 (x493.map (AV.int .i64))) [(IntKind.i64.wrap (x353 + x492)).toNat*1] 1 false (i6 ((rd x493 (IntKind.i64.wrap (x353 + x492)).toNat))):=(.row (llt hc509) rfl (.nil rfl rfl rfl))
       refine vq (i6 ((rd x493 (IntKind.i64.wrap (x353 + x492)).toNat))) (zM (i:=⟨.int .i64,1,8,(.int .i64 0)⟩) rfl rfl rfl hl510) hl510.c (vr (i6 (rd a1 x353.toNat)) (vr (i6 (rd a2 x492.toNat)) (vr (i6 (IntKind.i64.wrap ((rd a1 x353.toNat)*(rd a2 x492.toNat)))) ?_)))
       obtain ⟨x511,hx512,h⟩:=xP h
       refine qI (v:=(i6 (IntKind.i64.wrap (((rd x493 (IntKind.i64.wrap (x353 + x492)).toNat)) + (IntKind.i64.wrap ((rd a1 x353.toNat)*(rd a2 x492.toNat))))))) (v':=(i6 x511)) (u:=[]) (u':=[]) rfl (congrArg (fun z=>((i6 z):AV)) hx512) rfl trivial rfl ?_
       obtain ⟨hc513,h⟩:=zT h
       refine vq (.own 7 [(IntKind.i64.wrap (x353 + x492)).toNat] [(IntKind.i64.wrap (x353 + x492)).toNat*1]) rfl (zdp hc513) ?_
       have hs514:StOk [(IntKind.i64.wrap (x353 + x492)).toNat] (.row 1 (x493.map (AV.int .i64))) [(IntKind.i64.wrap (x353 + x492)).toNat*1] 1 (i6 x511) (.row 1 (((x493.set (IntKind.i64.wrap (x353 + x492)).toNat x511)).map (AV.int .i64))):=(.row (y:=x511) (llt hc513) rfl (.nil rfl rfl rfl rfl))
       refine vu .top [(7,bk (.row 1 (((x493.set (IntKind.i64.wrap (x353 + x492)).toNat x511)).map (AV.int .i64))))] (qG (i:=⟨.int .i64,1,8,(.int .i64 0)⟩) rfl rfl (fun _=>rfl) rfl hs514) (hs514.c rfl) rfl (yJ (xI (nj ⟨[(0,i6 a0),(2,zI a2),(7,.osl 7),(8,i6 x353),(9,i6 (rd a1 x353.toNat)),(29,zI a1),(30,i6 (a1.length:Int)),(31,i6 x353),(36,zI a2),(37,i6 (a2.length:Int)),(38,i6 x492)],[(7,bk (.row 1 (((x493.set (IntKind.i64.wrap (x353 + x492)).toNat x511)).map (AV.int .i64))))]⟩ (zR (vr (i6 (IntKind.i64.wrap (x492 + 1))) (vr (i6 (IntKind.i64.wrap (x492 + 1))) (yJ ?_)))))))
       cases h
       exact ag hX505
  ·have h:=zV hb7 h
   refine zO rfl (sr (vr (zI ([])) (nx _ rfl (zU (xV ?_)))))
   refine ⟨.inr rfl,?_⟩
   rw [Tryz.results76]
   cases h
   exact ⟨_,_,_,_,_,rfl,trivial,.inl ⟨rfl,.inl rfl⟩,rfl,rfl⟩
 ·have h:=hy4
  refine zR (vr (zI a1) (vq (i6 (a1.length:Int)) (xX rfl rfl) trivial (vr (.bool (((a1.length:Int) == 0))) (vr (.bool (((a1.length:Int) == 0))) ?_))))
  cases hb6:((a1.length:Int) == 0)
  ·have h:=zW hb6 h
   refine gp (zI a2) rfl rfl (gq (i6 (a2.length:Int)) rfl (xX rfl rfl) trivial (gp (.bool (((a2.length:Int) == 0))) rfl rfl (vr (.bool (((a2.length:Int) == 0))) (yJ ?_))))
   exact jl (((a2.length:Int) == 0)) h
  ·have h:=zV hb6 h
   refine zD rfl (zD rfl (zD rfl (vr (.bool true) (yJ ?_))))
   exact jl true h
def zri:Live:=[(0,[0,1]),(1,[0,1]),(2,[0,1]),(3,[]),(100008,[0,1,8])]
noncomputable def zff (a0:(List Int)) (a1:Int):Option Int :=
 (if (decide (a1 < (a0.length:Int))) then (jA (0≤a1∧a1 < ((a0.length:Nat):Int)) ((some (rd a0 a1.toNat)))) else (some 0))
theorem zj5 (a0:(List Int)) (a1:Int) (r:Int) (h:zff a0 a1=some r):Den Tryz.prog 110 [(zI a0),(i6 a1)] { r:=(i6 r) }:=by
 refine dd (rs:=[(i6 r)]) (L:=zri) xL [] Tryz.func110 Tryz.ntmps110 ?_
 refine ns ⟨[(0,zI a0),(1,i6 a1)],[]⟩ ?_
 refine sr (vr (i6 0) (nk ⟨[(0,zI a0),(1,i6 a1)],[]⟩ (yC (sr (vr (i6 a1) (vr (zI a0) (vq (i6 (a0.length:Int)) (xX rfl rfl) trivial (vr (.bool ((decide (a1 < (a0.length:Int))))) (nk ⟨[(0,zI a0),(1,i6 a1),(8,.bool ((decide (a1 < (a0.length:Int)))))],[]⟩ ?_)))))))))
 cases hb1:(decide (a1 < (a0.length:Int)))
 ·have h:=zW hb1 h
  refine zP rfl (yG (nj ⟨[],[]⟩ (sr (vr (i6 0) (nx _ rfl (zU ?_))))))
  refine ⟨.inr rfl,?_⟩
  rw [Tryz.results110]
  cases h
  exact ⟨_,_,_,_,_,rfl,trivial,.inl ⟨rfl,.inl rfl⟩,rfl,rfl⟩
 ·have h:=zV hb1 h
  refine zO rfl (sr (vr (zI a0) (vr (i6 a1) ?_)))
  obtain ⟨hc2,h⟩:=zT h
  refine vq (.ref (.row 1 (a0.map (AV.int .i64))) [a1.toNat] [a1.toNat*1]) rfl (zdp hc2) ?_
  have hl3:LdOk [a1.toNat] (.row 1 (a0.map (AV.int .i64))) [a1.toNat*1] 1 false (i6 (rd a0 a1.toNat)):=(.row (llt hc2) rfl (.nil rfl rfl rfl))
  refine vq (i6 (rd a0 a1.toNat)) (kC (i:=⟨.int .i64,1,8,(.int .i64 0)⟩) rfl rfl hl3) hl3.c (vr (i6 (rd a0 a1.toNat)) (nx _ rfl (zU (xV ?_))))
  refine ⟨.inr rfl,?_⟩
  rw [Tryz.results110]
  cases h
  exact ⟨_,_,_,_,_,rfl,trivial,.inl ⟨rfl,.inl rfl⟩,rfl,rfl⟩
def zjw:Live:=[(0,[0,1,2,3]),(1,[0,1,2,3]),(2,[0,1,2,3,9]),(3,[0,1,2,3,9,18,19]),(4,[0,1,2,3,9,18,19]),(5,[0,1,2,3,9,10,18,19]),(6,[0,1,2,3,9,18,19]),(7,[9]),(100020,[0,1,2,3,9,18,19,20])]
noncomputable def uN (x1:Int) (a1:(List Int)) (a2:(List Int)) (a0:Int) (a3:Int) (x58:Int) (x59:(List Int)):Option ((Int×(List Int))⊕(List Int)) :=
 (kR ((decide (x58 < (((List.replicate x1.toNat (0:Int)).length:Int))))) fun x74=>(if x74 then (Option.bind (zff a1 x58) fun r77=>(Option.bind (zff a2 x58) fun r79=>(Option.bind (mP a0 (IntKind.i64.wrap (r77 + (IntKind.i64.wrap (a3*r79))))) fun r81=>(jA (0≤x58∧x58 < ((x59.length:Nat):Int)) ((some (.inl ((IntKind.i64.wrap (x58 + 1),(x59.set x58.toNat r81)))))))))) else (some (.inr x59))))
noncomputable def xM (a0:Int) (a1:(List Int)) (a2:(List Int)) (a3:Int):Option (List Int) :=
 (kR ((if (a2.length:Int) > (a1.length:Int) then (a2.length:Int) else (a1.length:Int))) fun x1=>(jA (0≤x1∧x1≤140737488355328∧8*x1≤140737488355328) ((Option.bind (α:=(List Int)) ((yK (fun s:(Int×(List Int))=>uN x1 a1 a2 a0 a3 s.1 s.2) (0,List.replicate x1.toNat (0:Int)))) fun x43=>(Option.bind (kP x43) fun r86=>(some r86))))))
theorem wP (a0:Int) (a1:(List Int)) (a2:(List Int)) (a3:Int) (r:(List Int)) (h:xM a0 a1 a2 a3=some r):Den Tryz.prog 75 [(i6 a0),(zI a1),(zI a2),(i6 a3)] { r:=(zI r) }:=by
 refine dd (rs:=[(zI r)]) (L:=zjw) xL [(8,1),(9,2)] Tryz.func75 Tryz.ntmps75 ?_
 refine ns ⟨[(0,i6 a0),(1,zI a1),(2,zI a2),(3,i6 a3)],[]⟩ ?_
 refine sr (vr (zI ([])) (nk ⟨[(0,i6 a0),(1,zI a1),(2,zI a2),(3,i6 a3)],[]⟩ (sr (vr (zI a1) (vq (i6 (a1.length:Int)) (xX rfl rfl) trivial (vr (zI a2) (vq (i6 (a2.length:Int)) (xX rfl rfl) trivial ?_)))))))
 obtain ⟨x1,hx2,h⟩:=xP h
 refine qI (v:=(i6 ((if (a2.length:Int) > (a1.length:Int) then (a2.length:Int) else (a1.length:Int))))) (v':=(i6 x1)) (u:=[]) (u':=[]) rfl (congrArg (fun z=>((i6 z):AV)) hx2) rfl trivial rfl ?_
 obtain ⟨hc3,h⟩:=zT h
 refine vu (.osl 2600) [(2600,bk (.row 1 ((List.replicate x1.toNat (0:Int)).map (AV.int .i64))))] (zw4 (i:=⟨.int .i64,1,8,(.int .i64 0)⟩) (f:=(AV.int .i64)) (y:=(0:Int)) rfl rfl rfl rfl rfl rfl) ⟨rfl,hc3.1,hc3.2.1,hc3.2.2,(yS rfl)⟩ rfl (vr (.osl 2600) (nk ⟨[(0,i6 a0),(1,zI a1),(2,zI a2),(3,i6 a3),(9,.osl 9)],[(9,bk (.row 1 ((List.replicate x1.toNat (0:Int)).map (AV.int .i64))))]⟩ ?_))
 obtain ⟨y44,hy45,hk46⟩:=bind_some h
 clear h
 refine yN (emb:=fun (s:(List Int))=>⟨[(9,.osl 9)],[(9,bk (.row 1 (s.map (AV.int .i64))))]⟩) (kG:=fun s=>s=y44) ?_ ?_
 ·rintro x43 rfl
  have h:=hk46
  refine ns ⟨[(9,.osl 9)],[(9,bk (.row 1 (x43.map (AV.int .i64))))]⟩ (sr (vr (.osl 9) ?_))
  obtain ⟨r86,hr87,h⟩:=bind_some h
  refine zaa (args:=[(zI x43)]) (u:=[(9,bf (.row 1 (x43.map (AV.int .i64))))]) (r:=(zI r86)) rfl rfl (nM x43 r86 hr87) rfl (vr (zI r86) (nx _ rfl (zU ?_)))
  refine ⟨.inr rfl,?_⟩
  rw [Tryz.results75]
  cases h
  exact ⟨_,_,_,_,_,rfl,trivial,.inl ⟨rfl,.inl rfl⟩,rfl,rfl⟩
 ·have h:=hy45
  refine sr (vr (.osl 9) (vq (i6 (((List.replicate x1.toNat (0:Int)).length:Int))) (zqy rfl rfl rfl) trivial (vr (i6 0) (nk ⟨[(0,i6 a0),(1,zI a1),(2,zI a2),(3,i6 a3),(9,.osl 9),(18,i6 (((List.replicate x1.toNat (0:Int)).length:Int))),(19,i6 0)],[(9,bk (.row 1 ((List.replicate x1.toNat (0:Int)).map (AV.int .i64))))]⟩ (yB ?_)))))
  refine xU (emb:=fun (s:(Int×(List Int)))=>⟨[(0,i6 a0),(1,zI a1),(2,zI a2),(3,i6 a3),(9,.osl 9),(18,i6 (((List.replicate x1.toNat (0:Int)).length:Int))),(19,i6 s.1)],[(9,bk (.row 1 (s.2.map (AV.int .i64))))]⟩) (body:=(fun s:(Int×(List Int))=>uN x1 a1 a2 a0 a3 s.1 s.2)) (G:=fun q=>some q=some y44) h rfl ?_ (by kernel_rfl)
  rintro X71 ⟨x58,x59⟩ x72 h hX73
  have h:uN x1 a1 a2 a0 a3 x58 x59=some x72:=h
  refine ns ⟨[(0,i6 a0),(1,zI a1),(2,zI a2),(3,i6 a3),(9,.osl 9),(18,i6 (((List.replicate x1.toNat (0:Int)).length:Int))),(19,i6 x58)],[(9,bk (.row 1 (x59.map (AV.int .i64))))]⟩ (sr ?_)
  obtain ⟨x74,hx75,h⟩:=xP h
  refine qI (v:=(.bool ((decide (x58 < (((List.replicate x1.toNat (0:Int)).length:Int))))))) (v':=(.bool x74)) (u:=[]) (u':=[]) rfl (congrArg (fun z=>((.bool z):AV)) hx75) rfl trivial rfl (nk ⟨[(0,i6 a0),(1,zI a1),(2,zI a2),(3,i6 a3),(9,.osl 9),(18,i6 (((List.replicate x1.toNat (0:Int)).length:Int))),(19,i6 x58),(20,.bool x74)],[(9,bk (.row 1 (x59.map (AV.int .i64))))]⟩ (yC ?_))
  cases hb76:x74
  ·have h:=zW hb76 h
   refine zP rfl (xR (yI ?_))
   cases h
   have h:=hX73
   refine yI (xQ ?_)
   exact jl x59 h
  ·have h:=zV hb76 h
   refine zO rfl (yG (nj ⟨[(0,i6 a0),(1,zI a1),(2,zI a2),(3,i6 a3),(9,.osl 9),(18,i6 (((List.replicate x1.toNat (0:Int)).length:Int))),(19,i6 x58)],[(9,bk (.row 1 (x59.map (AV.int .i64))))]⟩ (yC (yB (sr (vr (i6 x58) (vr (i6 x58) (nk ⟨[(0,i6 a0),(1,zI a1),(2,zI a2),(3,i6 a3),(9,.osl 9),(10,i6 x58),(18,i6 (((List.replicate x1.toNat (0:Int)).length:Int))),(19,i6 x58)],[(9,bk (.row 1 (x59.map (AV.int .i64))))]⟩ (zR ?_)))))))))
   refine vr (.osl 9) (vr (i6 x58) (vr (i6 a0) (vr (zI a1) (vr (i6 x58) ?_))))
   obtain ⟨r77,hr78,h⟩:=bind_some h
   refine ca (zj5 a1 x58 r77 hr78) (vr (i6 a3) (vr (zI a2) (vr (i6 x58) ?_)))
   obtain ⟨r79,hr80,h⟩:=bind_some h
   refine ca (zj5 a2 x58 r79 hr80) (vr (i6 (IntKind.i64.wrap (a3*r79))) (vr (i6 (IntKind.i64.wrap (r77 + (IntKind.i64.wrap (a3*r79))))) ?_))
   obtain ⟨r81,hr82,h⟩:=bind_some h
   refine ca (zfd a0 (IntKind.i64.wrap (r77 + (IntKind.i64.wrap (a3*r79)))) r81 hr82) ?_
   obtain ⟨hc83,h⟩:=zT h
   refine vq (.own 9 [x58.toNat] [x58.toNat*1]) rfl (zdp hc83) ?_
   have hs84:StOk [x58.toNat] (.row 1 (x59.map (AV.int .i64))) [x58.toNat*1] 1 (i6 r81) (.row 1 ((x59.set x58.toNat r81).map (AV.int .i64))):=(.row (y:=r81) (llt hc83) rfl (.nil rfl rfl rfl rfl))
   refine vu .top [(9,bk (.row 1 ((x59.set x58.toNat r81).map (AV.int .i64))))] (qG (i:=⟨.int .i64,1,8,(.int .i64 0)⟩) rfl rfl (fun _=>rfl) rfl hs84) (hs84.c rfl) rfl (yJ (xI (nj ⟨[(0,i6 a0),(1,zI a1),(2,zI a2),(3,i6 a3),(9,.osl 9),(18,i6 (((List.replicate x1.toNat (0:Int)).length:Int))),(19,i6 x58)],[(9,bk (.row 1 ((x59.set x58.toNat r81).map (AV.int .i64))))]⟩ (zR (vr (i6 (IntKind.i64.wrap (x58 + 1))) (vr (i6 (IntKind.i64.wrap (x58 + 1))) (yJ ?_)))))))
   cases h
   exact ag hX73
def zlz:Live:=[(0,[0,1,2]),(1,[0,1,2])]
noncomputable def wY (a0:Int) (a1:(List Int)) (a2:Int):Option (List Int) :=
 (Option.bind (xM a0 ([]) a1 a2) fun r1=>(some r1))
theorem kV (a0:Int) (a1:(List Int)) (a2:Int) (r:(List Int)) (h:wY a0 a1 a2=some r):Den Tryz.prog 82 [(i6 a0),(zI a1),(i6 a2)] { r:=(zI r) }:=by
 refine dd (rs:=[(zI r)]) (L:=zlz) xL [(6,1)] Tryz.func82 Tryz.ntmps82 ?_
 refine ns ⟨[(0,i6 a0),(1,zI a1),(2,i6 a2)],[]⟩ ?_
 refine sr (vr (zI ([])) (nk ⟨[(0,i6 a0),(1,zI a1),(2,i6 a2)],[]⟩ (sr (vr (i6 a0) (vr (zI a1) (vr (i6 a2) ?_))))))
 obtain ⟨r1,hr2,h⟩:=bind_some h
 refine zaa (args:=[(i6 a0),(.sl 0 true []),(zI a1),(i6 a2)]) (u:=[]) (r:=(zI r1)) rfl rfl (Den.args (wP a0 ([]) a1 a2 r1 hr2) rfl rfl (.cons (.refl _) (.cons (.nil _ _ _ _ (fun _=>rfl)) (.cons (.refl _) (.cons (.refl _) .nil))))) rfl (vr (zI r1) (nx _ rfl (zU ?_)))
 refine ⟨.inr rfl,?_⟩
 rw [Tryz.results82]
 cases h
 exact ⟨_,_,_,_,_,rfl,trivial,.inl ⟨rfl,.inl rfl⟩,rfl,rfl⟩
def zld:Live:=[(0,[0,1,2]),(1,[0,1,2]),(2,[0,1,2,9,10]),(3,[0,1,2,9,10,11,12]),(4,[0,1,2,9,10,11,12]),(5,[0,2,9,10,11,12,13,14]),(6,[0,1,2,9,10,11,12,13]),(7,[0,1,2,9,10,11,12,13]),(8,[0,1,9,10]),(9,[0,1,9,10,15]),(100020,[0,1,2,9,10,11,12,20])]
noncomputable def wB (a0:Int) (x61:(List Int)) (x62:(List Int)) (x63:(List Int)) (x64:(List Int)) (x65:(List Int)) (x66:(List Int)):Option (((List Int)×(List Int)×(List Int)×(List Int)×(List Int)×(List Int))⊕((List Int)×(List Int)×(List Int))) :=
 (if (decide ((x62.length:Int) > 0)) then (Option.bind (uU a0 x61 x62) fun r82=>(Option.bind (xC a0 r82.1 x65) fun r84=>(Option.bind (xM a0 x63 r84 (-1)) fun r86=>(Option.bind (xC a0 r82.1 x66) fun r88=>(Option.bind (xM a0 x64 r88 (-1)) fun r90=>(some (.inl (x62,r82.2,x65,x66,r86,r90)))))))) else (some (.inr (x61,x63,x64))))
noncomputable def qV (a0:Int) (a1:(List Int)) (a2:(List Int)):Option ((List Int)×(List Int)×(List Int)) :=
 (Option.bind (α:=((List Int)×(List Int)×(List Int))) ((yK (fun s:((List Int)×(List Int)×(List Int)×(List Int)×(List Int)×(List Int))=>wB a0 s.1 s.2.1 s.2.2.1 s.2.2.2.1 s.2.2.2.2.1 s.2.2.2.2.2) (a1,a2,[1],[],[],[1]))) fun ⟨x44,x45,x46⟩=>(Option.bind (jP x44) fun r93=>(Option.bind (kL a0 r93) fun r95=>(Option.bind (wY a0 x44 r95) fun r97=>(Option.bind (wY a0 x45 r95) fun r99=>(Option.bind (wY a0 x46 r95) fun r101=>(some (r97,r99,r101))))))))
theorem zcd (a0:Int) (a1:(List Int)) (a2:(List Int)) (r:((List Int)×(List Int)×(List Int))) (h:qV a0 a1 a2=some r):Den Tryz.prog 74 [(i6 a0),(zI a1),(zI a2)] { r:=(.tuple [(zI r.1),(zI r.2.1),(zI r.2.2)]) }:=by
 refine dd (rs:=[(zI r.1),(zI r.2.1),(zI r.2.2)]) (L:=zld) xL [(1,1),(2,1),(6,1),(7,1),(8,1),(9,1),(10,1),(11,1),(12,1),(13,1),(14,1)] Tryz.func74 Tryz.ntmps74 ?_
 refine ns ⟨[(0,i6 a0),(1,zI a1),(2,zI a2)],[]⟩ ?_
 refine sr (vr (zI ([])) (vr (zI ([])) (vr (zI ([])) (nk ⟨[(0,i6 a0),(1,zI a1),(2,zI a2)],[]⟩ (sr (vq (.sl 1 true (([1]).map (AV.int .i64))) rfl ⟨(yS rfl),(yS rfl),(all_cons ⟨(yS rfl),rfl⟩ all_nil)⟩ (vq (zI ([1])) (zn2 (i:=⟨.int .i64,1,8,(.int .i64 0)⟩) (f:=(AV.int .i64)) (l:=[1]) rfl rfl rfl) trivial (vr (zI ([])) (nk ⟨[(0,i6 a0),(1,zI a1),(2,zI a2),(9,zI ([1])),(10,zI ([]))],[]⟩ ?_)))))))))
 refine sr (vq (.sl 1 true (([1]).map (AV.int .i64))) rfl ⟨(yS rfl),(yS rfl),(all_cons ⟨(yS rfl),rfl⟩ all_nil)⟩ (vr (zI ([])) (vq (zI ([1])) (zn2 (i:=⟨.int .i64,1,8,(.int .i64 0)⟩) (f:=(AV.int .i64)) (l:=[1]) rfl rfl rfl) trivial (nk ⟨[(0,i6 a0),(1,zI a1),(2,zI a2),(9,zI ([1])),(10,zI ([])),(11,zI ([])),(12,zI ([1]))],[]⟩ ?_))))
 obtain ⟨y47,hy48,hk49⟩:=bind_some h
 clear h
 refine yN (emb:=fun (s:((List Int)×(List Int)×(List Int)))=>⟨[(0,i6 a0),(1,zI s.1),(9,zI s.2.1),(10,zI s.2.2)],[]⟩) (kG:=fun s=>s=y47) ?_ ?_
 ·rintro ⟨x44,x45,x46⟩ rfl
  have h:=hk49
  refine ns ⟨[(0,i6 a0),(1,zI x44),(9,zI x45),(10,zI x46)],[]⟩ (sr (vr (i6 a0) (vr (zI x44) ?_)))
  obtain ⟨r93,hr94,h⟩:=bind_some h
  refine ca (zc0 x44 r93 hr94) ?_
  obtain ⟨r95,hr96,h⟩:=bind_some h
  refine ca (zby a0 r93 r95 hr96) (vr (i6 r95) (nk ⟨[(0,i6 a0),(1,zI x44),(9,zI x45),(10,zI x46),(15,i6 r95)],[]⟩ (sr (vr (i6 a0) (vr (zI x44) (vr (i6 r95) ?_))))))
  obtain ⟨r97,hr98,h⟩:=bind_some h
  refine ca (kV a0 x44 r95 r97 hr98) (vr (i6 a0) (vr (zI x45) (vr (i6 r95) ?_)))
  obtain ⟨r99,hr100,h⟩:=bind_some h
  refine ca (kV a0 x45 r95 r99 hr100) (vr (i6 a0) (vr (zI x46) (vr (i6 r95) ?_)))
  obtain ⟨r101,hr102,h⟩:=bind_some h
  refine ca (kV a0 x46 r95 r101 hr102) (vr (zI r97) (vr (zI r99) (vr (zI r101) (nx _ rfl (zU ?_)))))
  refine ⟨.inr rfl,?_⟩
  rw [Tryz.results74]
  cases h
  exact ⟨_,_,_,_,_,rfl,trivial,.inl ⟨rfl,.inl rfl⟩,rfl,⟨_,_,_,_,_,rfl,trivial,.inl ⟨rfl,.inl rfl⟩,rfl,⟨_,_,_,_,_,rfl,trivial,.inl ⟨rfl,.inl rfl⟩,rfl,rfl⟩⟩⟩
 ·have h:=hy48
  refine yB ?_
  refine xU (emb:=fun (s:((List Int)×(List Int)×(List Int)×(List Int)×(List Int)×(List Int)))=>⟨[(0,i6 a0),(1,zI s.1),(2,zI s.2.1),(9,zI s.2.2.1),(10,zI s.2.2.2.1),(11,zI s.2.2.2.2.1),(12,zI s.2.2.2.2.2)],[]⟩) (body:=(fun s:((List Int)×(List Int)×(List Int)×(List Int)×(List Int)×(List Int))=>wB a0 s.1 s.2.1 s.2.2.1 s.2.2.2.1 s.2.2.2.2.1 s.2.2.2.2.2)) (G:=fun q=>some q=some y47) h rfl ?_ (by kernel_rfl)
  rintro X78 ⟨x61,x62,x63,x64,x65,x66⟩ x79 h hX80
  have h:wB a0 x61 x62 x63 x64 x65 x66=some x79:=h
  refine ns ⟨[(0,i6 a0),(1,zI x61),(2,zI x62),(9,zI x63),(10,zI x64),(11,zI x65),(12,zI x66)],[]⟩ (yC (sr (vr (zI x62) (vq (i6 (x62.length:Int)) (xX rfl rfl) trivial (vr (.bool ((decide ((x62.length:Int) > 0)))) (nk ⟨[(0,i6 a0),(1,zI x61),(2,zI x62),(9,zI x63),(10,zI x64),(11,zI x65),(12,zI x66),(20,.bool ((decide ((x62.length:Int) > 0))))],[]⟩ ?_))))))
  cases hb81:(decide ((x62.length:Int) > 0))
  ·have h:=zW hb81 h
   refine zP rfl (xR (yI ?_))
   cases h
   have h:=hX80
   refine yI (xQ ?_)
   exact jl (x61,x63,x64) h
  ·have h:=zV hb81 h
   refine zO rfl (yG (nj ⟨[(0,i6 a0),(1,zI x61),(2,zI x62),(9,zI x63),(10,zI x64),(11,zI x65),(12,zI x66)],[]⟩ (yB (sr (vr (i6 a0) (vr (zI x61) (vr (zI x62) ?_)))))))
   obtain ⟨r82,hr83,h⟩:=bind_some h
   refine ca (jQ a0 x61 x62 r82 hr83) (vr (.tuple [(zI r82.1),(zI r82.2)]) (vb (zI r82.1) rfl rfl (vb (zI r82.2) rfl rfl (vr (zI r82.1) (vr (zI r82.2) (nk ⟨[(0,i6 a0),(2,zI x62),(9,zI x63),(10,zI x64),(11,zI x65),(12,zI x66),(13,zI r82.1),(14,zI r82.2)],[]⟩ (sr (vr (zI x62) (vr (zI r82.2) ?_)))))))))
   refine vr (zI x62) (vr (zI r82.2) (nk ⟨[(0,i6 a0),(1,zI x62),(2,zI r82.2),(9,zI x63),(10,zI x64),(11,zI x65),(12,zI x66),(13,zI r82.1)],[]⟩ (sr (vr (zI x65) (vr (i6 a0) (vr (zI x63) (vr (i6 a0) (vr (zI r82.1) (vr (zI x65) ?_)))))))))
   obtain ⟨r84,hr85,h⟩:=bind_some h
   refine ca (xN a0 r82.1 x65 r84 hr85) ?_
   obtain ⟨r86,hr87,h⟩:=bind_some h
   refine ca (wP a0 x63 r84 (-1) r86 hr87) (vr (zI x65) (vr (zI r86) (nk ⟨[(0,i6 a0),(1,zI x62),(2,zI r82.2),(9,zI x65),(10,zI x64),(11,zI r86),(12,zI x66),(13,zI r82.1)],[]⟩ (zR (vr (zI x66) (vr (i6 a0) (vr (zI x64) (vr (i6 a0) (vr (zI r82.1) ?_)))))))))
   refine vr (zI x66) ?_
   obtain ⟨r88,hr89,h⟩:=bind_some h
   refine ca (xN a0 r82.1 x66 r88 hr89) ?_
   obtain ⟨r90,hr91,h⟩:=bind_some h
   refine ca (wP a0 x64 r88 (-1) r90 hr91) (vr (zI x66) (vr (zI r90) (yJ (xI ?_))))
   cases h
   exact ag hX80
def zn1:Live:=[(0,[0,1,2]),(1,[0,1,2]),(2,[7])]
noncomputable def zgo (a0:Int) (a1:(List Int)) (a2:(List Int)):Option (List Int) :=
 (Option.bind (qV a0 a1 a2) fun r1=>(some r1.1))
theorem zne (a0:Int) (a1:(List Int)) (a2:(List Int)) (r:(List Int)) (h:zgo a0 a1 a2=some r):Den Tryz.prog 62 [(i6 a0),(zI a1),(zI a2)] { r:=(zI r) }:=by
 refine dd (rs:=[(zI r)]) (L:=zn1) xL [(6,1),(7,1),(8,1),(9,1)] Tryz.func62 Tryz.ntmps62 ?_
 refine ns ⟨[(0,i6 a0),(1,zI a1),(2,zI a2)],[]⟩ ?_
 refine sr (vr (zI ([])) (nk ⟨[(0,i6 a0),(1,zI a1),(2,zI a2)],[]⟩ (sr (vr (i6 a0) (vr (zI a1) (vr (zI a2) ?_))))))
 obtain ⟨r1,hr2,h⟩:=bind_some h
 refine ca (zcd a0 a1 a2 r1 hr2) (vr (.tuple [(zI r1.1),(zI r1.2.1),(zI r1.2.2)]) (vb (zI r1.1) rfl rfl (vb (zI r1.2.1) rfl rfl (vb (zI r1.2.2) rfl rfl (vr (zI r1.1) (vr (zI r1.2.1) (vr (zI r1.2.2) (nk ⟨[(7,zI r1.1)],[]⟩ (sr ?_)))))))))
 refine vr (zI r1.1) (vr (zI r1.1) (nx _ rfl (zU ?_)))
 refine ⟨.inr rfl,?_⟩
 rw [Tryz.results62]
 cases h
 exact ⟨_,_,_,_,_,rfl,trivial,.inl ⟨rfl,.inl rfl⟩,rfl,rfl⟩
def zsu:Live:=[(0,[0]),(1,[0])]
noncomputable def zbe (a0:(List Int)):Option Bool :=
 (if ((a0.length:Int) == 1) then (jA (0≤(0:Int)∧(0:Int) < ((a0.length:Nat):Int)) ((some ((((rd a0 (0:Int).toNat)) == 1))))) else (some false))
theorem zbq (a0:(List Int)) (r:Bool) (h:zbe a0=some r):Den Tryz.prog 61 [(zI a0)] { r:=(.bool r) }:=by
 refine dd (rs:=[(.bool r)]) (L:=zsu) xL [] Tryz.func61 Tryz.ntmps61 ?_
 refine ns ⟨[(0,zI a0)],[]⟩ ?_
 refine sr (vr (.bool false) (nk ⟨[(0,zI a0)],[]⟩ (sr (vr (zI a0) (vq (i6 (a0.length:Int)) (xX rfl rfl) trivial (vr (.bool (((a0.length:Int) == 1))) (vr (.bool (((a0.length:Int) == 1))) ?_)))))))
 cases hb1:((a0.length:Int) == 1)
 ·have h:=zW hb1 h
  refine zD rfl (zD rfl (zD rfl (zD rfl (vr (.bool false) (vr (.bool false) (nx _ rfl (zU ?_)))))))
  refine ⟨.inr rfl,?_⟩
  rw [Tryz.results61]
  cases h
  exact ⟨_,_,_,_,_,rfl,trivial,.inl ⟨rfl,.inl rfl⟩,rfl,rfl⟩
 ·have h:=zV hb1 h
  refine gp (zI a0) rfl rfl ?_
  obtain ⟨hc2,h⟩:=zT h
  refine gq (.ref (.row 1 (a0.map (AV.int .i64))) [(0:Int).toNat] [(0:Int).toNat*1]) rfl rfl (zdp hc2) ?_
  have hl3:LdOk [(0:Int).toNat] (.row 1 (a0.map (AV.int .i64))) [(0:Int).toNat*1] 1 false (i6 ((rd a0 (0:Int).toNat))):=(.row (llt hc2) rfl (.nil rfl rfl rfl))
  refine gq (i6 ((rd a0 (0:Int).toNat))) rfl (kC (i:=⟨.int .i64,1,8,(.int .i64 0)⟩) rfl rfl hl3) hl3.c (gp (.bool ((((rd a0 (0:Int).toNat)) == 1))) rfl rfl (vr (.bool ((((rd a0 (0:Int).toNat)) == 1))) (vr (.bool ((((rd a0 (0:Int).toNat)) == 1))) (nx _ rfl (zU ?_)))))
  refine ⟨.inr rfl,?_⟩
  rw [Tryz.results61]
  cases h
  exact ⟨_,_,_,_,_,rfl,trivial,.inl ⟨rfl,.inl rfl⟩,rfl,rfl⟩
end Go.Proofs.YtebfhlnfmkhmcaaGreat
