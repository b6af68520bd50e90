/- Functions of the program: plain Lean functions, and that the program computes them. Printed by gen.py. -/
import Derived.Test.YtebfhlnfmkhmcaaGreatFnT
import Derived.Test.YtebfhlnfmkhmcaaGreatFn1
import Derived.Test.YtebfhlnfmkhmcaaGreatFn2
import Derived.Test.YtebfhlnfmkhmcaaGreatFn3
import Derived.Test.YtebfhlnfmkhmcaaGreatFn4
import Derived.Test.YtebfhlnfmkhmcaaGreatFn6
import Derived.Test.YtebfhlnfmkhmcaaGreatFn7
import Derived.Test.YtebfhlnfmkhmcaaGreatFn8
namespace Go.Proofs.YtebfhlnfmkhmcaaGreat
open Go.Abs Go.Proofs
set_option linter.unusedSimpArgs false
set_option linter.unusedVariables false
set_option maxHeartbeats 16000000
attribute [local irreducible] Abs.acode Abs.aops Abs.aopsT Abs.thenK Abs.blockK

def zk5:Live:=[(0,[0,1]),(1,[0,3]),(2,[0,3,6]),(3,[6]),(4,[0,3]),(5,[0,3,7]),(6,[7,19,20,21]),(7,[7,19,20,21]),(8,[7,9,19,20,21]),(9,[7,19,20,21]),(10,[7]),(100014,[0,3,6,14]),(100022,[7,19,20,21,22])]
noncomputable def vQ (r47:(List ((List Int)×(List Int)))) (x57:Int) (x58:(List ((Vec Int 64)×(Vec Int 64)))):Option ((Int×(List ((Vec Int 64)×(Vec Int 64))))⊕(List ((Vec Int 64)×(Vec Int 64)))) :=
 (if (decide (x57 < (r47.length:Int))) then (jA (0≤x57∧x57 < ((r47.length:Nat):Int)) ((Option.bind (uF (rd r47 x57.toNat)) fun r75=>(jA ((x58.length + ([r75]:List ((Vec Int 64)×(Vec Int 64))).length)*128≤140737488355328) ((some (.inl ((IntKind.i64.wrap (x57 + 1),(x58 ++ ([r75]))))))))))) else (some (.inr x58)))
noncomputable def zbz (a0:Int) (a1:(Vec Int 64)):Option ((List ((Vec Int 64)×(Vec Int 64)))×Int) :=
 (Option.bind (vF a0 a1 true false ([])) fun r2=>(if (r2 != 0) then (some ([],r2)) else (Option.bind (α:=(List ((Vec Int 64)×(Vec Int 64)))) ((Option.bind (uT a0 a1) fun r45=>(Option.bind (zcw r45) fun r47=>(yK (fun s:(Int×(List ((Vec Int 64)×(Vec Int 64))))=>vQ r47 s.1 s.2) (0,[]))))) fun x40=>(some (x40,0)))))
theorem zj7 (a0:Int) (a1:(Vec Int 64)) (r:((List ((Vec Int 64)×(Vec Int 64)))×Int)) (h:zbz a0 a1=some r):Den Tryz.prog 40 [(i6 a0),(zJ a1)] { r:=(.tuple [(zL r.1),(i6 r.2)]) }:=by
 refine dd (rs:=[(zL r.1),(i6 r.2)]) (L:=zk5) xL [(4,1),(7,2)] Tryz.func40 Tryz.ntmps40 ?_
 refine ns ⟨[(0,i6 a0),(1,zJ a1)],[]⟩ ?_
 refine sr (vo 1300 (zJ a1) rfl rfl (vr (zL ([])) (vr (i6 0) (nk ⟨[(0,i6 a0),(3,ow 3)],[(3,bk (zJ a1))]⟩ (yC (sr (vr (i6 a0) (vl (zJ a1) rfl rfl rfl rfl rfl rfl ?_))))))))
 obtain ⟨r2,hr3,h⟩:=bind_some h
 refine zaa (args:=[(i6 a0),(zJ a1),(.bool true),(.bool false),(.sl 0 true [])]) (u:=[]) (r:=(i6 r2)) rfl rfl (Den.args (nR a0 a1 true false ([]) r2 hr3) rfl rfl (.cons (.refl _) (.cons (.refl _) (.cons (.refl _) (.cons (.refl _) (.cons (.nil _ _ _ _ (fun _=>rfl)) .nil)))))) rfl (vr (i6 r2) (nk ⟨[(0,i6 a0),(3,ow 3),(6,i6 r2)],[(3,bk (zJ a1))]⟩ (sr (vr (i6 r2) (vr (.bool (r2 != 0)) (nk ⟨[(0,i6 a0),(3,ow 3),(6,i6 r2),(14,.bool (r2 != 0))],[(3,bk (zJ a1))]⟩ ?_))))))
 cases hb4:(r2 != 0)
 ·have h:=zW hb4 h
  refine zP rfl (yG (nj ⟨[(0,i6 a0),(3,ow 3)],[(3,bk (zJ a1))]⟩ (sr (vu (.osl 1700) [(1700,bk (.row 128 (([]).map zA)))] rfl trivial rfl (nk ⟨[(0,i6 a0),(3,ow 3),(7,.osl 7)],[(3,bk (zJ a1)),(7,bk (.row 128 (([]).map zA)))]⟩ ?_)))))
  obtain ⟨y41,hy42,hk43⟩:=bind_some h
  clear h
  refine yN (emb:=fun (s:(List ((Vec Int 64)×(Vec Int 64))))=>⟨[(7,.osl 7)],[(7,bk (.row 128 (s.map zA)))]⟩) (kG:=fun s=>s=y41) ?_ ?_
  ·rintro x40 rfl
   have h:=hk43
   refine ns ⟨[(7,.osl 7)],[(7,bk (.row 128 (x40.map zA)))]⟩ (sr (vr (.osl 7) (vu (zL x40) [(7,bf (.row 128 (x40.map zA)))] rfl trivial rfl (vr (i6 0) (nx _ rfl (zU ?_))))))
   refine ⟨.inr rfl,?_⟩
   rw [Tryz.results40]
   cases h
   exact ⟨_,_,_,_,_,rfl,trivial,.inl ⟨rfl,.inl rfl⟩,rfl,⟨_,_,_,_,_,rfl,trivial,.inl ⟨rfl,.inl rfl⟩,rfl,rfl⟩⟩
  ·have h:=hy42
   refine sr (vr (i6 a0) (vl (zJ a1) rfl rfl rfl rfl rfl rfl ?_))
   obtain ⟨r45,hr46,h⟩:=bind_some h
   refine ca (kY a0 a1 r45 hr46) ?_
   obtain ⟨r47,hr48,h⟩:=bind_some h
   refine ca (zk3 r45 r47 hr48) (vq (i6 (r47.length:Int)) (xX rfl rfl) trivial (vr (i6 0) (nk ⟨[(7,.osl 7),(19,vG r47),(20,i6 (r47.length:Int)),(21,i6 0)],[(7,bk (.row 128 (([]).map zA)))]⟩ (yB ?_))))
   refine xU (emb:=fun (s:(Int×(List ((Vec Int 64)×(Vec Int 64)))))=>⟨[(7,.osl 7),(19,vG r47),(20,i6 (r47.length:Int)),(21,i6 s.1)],[(7,bk (.row 128 (s.2.map zA)))]⟩) (body:=(fun s:(Int×(List ((Vec Int 64)×(Vec Int 64))))=>vQ r47 s.1 s.2)) (G:=fun q=>some q=some y41) h rfl ?_ (by kernel_rfl)
   rintro X67 ⟨x57,x58⟩ x68 h hX69
   have h:vQ r47 x57 x58=some x68:=h
   refine ns ⟨[(7,.osl 7),(19,vG r47),(20,i6 (r47.length:Int)),(21,i6 x57)],[(7,bk (.row 128 (x58.map zA)))]⟩ (sr (vr (.bool ((decide (x57 < (r47.length:Int))))) (nk ⟨[(7,.osl 7),(19,vG r47),(20,i6 (r47.length:Int)),(21,i6 x57),(22,.bool ((decide (x57 < (r47.length:Int)))))],[(7,bk (.row 128 (x58.map zA)))]⟩ (yC ?_))))
   cases hb70:(decide (x57 < (r47.length:Int)))
   ·have h:=zW hb70 h
    refine zP rfl (xR (yI ?_))
    cases h
    have h:=hX69
    refine yI (xQ ?_)
    exact jl x58 h
   ·have h:=zV hb70 h
    refine zO rfl (yG (nj ⟨[(7,.osl 7),(19,vG r47),(20,i6 (r47.length:Int)),(21,i6 x57)],[(7,bk (.row 128 (x58.map zA)))]⟩ (yC (yB (sr ?_)))))
    obtain ⟨hc71,h⟩:=zT h
    refine vq (.ref (.row 2 (r47.map zC)) [x57.toNat] [x57.toNat*2]) rfl (zdp hc71) ?_
    have hl72:LdOk [x57.toNat] (.row 2 (r47.map zC)) [x57.toNat*2] 2 true (zC (rd r47 x57.toNat)):=(.row (llt hc71) rfl (.nil rfl rfl rfl))
    refine vq (zC (rd r47 x57.toNat)) (kC (i:=⟨.struct [(0,52),(1,52)],2,48,(zC ([],[]))⟩) rfl rfl hl72) hl72.c (vo 1900 (zC ([],[])) rfl rfl (vs (zC (rd r47 x57.toNat)) rfl rfl (fun _=>rfl) rfl rfl rfl rfl rfl rfl (nk ⟨[(7,.osl 7),(9,ow 9),(19,vG r47),(20,i6 (r47.length:Int)),(21,i6 x57)],[(7,bk (.row 128 (x58.map zA))),(9,bk (zC (rd r47 x57.toNat)))]⟩ (zR (vr (.osl 7) (vl (zC (rd r47 x57.toNat)) rfl rfl rfl rfl rfl rfl ?_))))))
    obtain ⟨r75,hr76,h⟩:=bind_some h
    refine ca (mQ (rd r47 x57.toNat) r75 hr76) (vq (.sl 128 true (([r75]).map zA)) rfl ⟨(yS rfl),(yS rfl),(all_cons ⟨(yS rfl),rfl⟩ all_nil)⟩ ?_)
    obtain ⟨hc77,h⟩:=zT h
    refine vu (.osl 3900) [(3900,bk (.row 128 (((x58 ++ ([r75]))).map zA))),(7,none)] (zki (i:=⟨.struct [(0,25),(64,25)],128,128,xA⟩) (f:=zA) (l:=x58) (l2:=[r75]) rfl rfl rfl rfl (fun _=>rfl) rfl rfl) (zsi (f:=zA) (s:=128) (sz:=128) (by':=128) (u:=[]) (id:=7) hc77 (.inr rfl) rfl rfl rfl) rfl (vr (.osl 3900) (yJ (xI (nj ⟨[(7,.osl 7),(19,vG r47),(20,i6 (r47.length:Int)),(21,i6 x57)],[(7,bk (.row 128 (((x58 ++ ([r75]))).map zA)))]⟩ (zR (vr (i6 (IntKind.i64.wrap (x57 + 1))) (vr (i6 (IntKind.i64.wrap (x57 + 1))) (yJ ?_))))))))
    cases h
    exact ag hX69
 ·have h:=zV hb4 h
  refine zO rfl (sr (vr (i6 r2) (vr (zL ([])) (vr (i6 r2) (nx _ rfl (zU (xV ?_)))))))
  refine ⟨.inr rfl,?_⟩
  rw [Tryz.results40]
  cases h
  exact ⟨_,_,_,_,_,rfl,trivial,.inl ⟨rfl,.inl rfl⟩,rfl,⟨_,_,_,_,_,rfl,trivial,.inl ⟨rfl,.inl rfl⟩,rfl,rfl⟩⟩
def zlp:Live:=[(0,[0,1]),(1,[0,3]),(2,[6,7])]
noncomputable def zcz (a0:Int) (a1:(Vec Int 64)):Option (Int×Int) :=
 (Option.bind (zbz a0 a1) fun r2=>(some (((r2.1.length:Int),r2.2))))
theorem zk6 (a0:Int) (a1:(Vec Int 64)) (r:(Int×Int)) (h:zcz a0 a1=some r):Den Tryz.prog 10 [(i6 a0),(zJ a1)] { r:=(.tuple [(i6 r.1),(i6 r.2)]) }:=by
 refine dd (rs:=[(i6 r.1),(i6 r.2)]) (L:=zlp) xL [(6,1)] Tryz.func10 Tryz.ntmps10 ?_
 refine ns ⟨[(0,i6 a0),(1,zJ a1)],[]⟩ ?_
 refine sr (vo 1300 (zJ a1) rfl rfl (vr (i6 0) (vr (i6 0) (nk ⟨[(0,i6 a0),(3,ow 3)],[(3,bk (zJ a1))]⟩ (sr (vr (i6 a0) (vl (zJ a1) rfl rfl rfl rfl rfl rfl ?_)))))))
 obtain ⟨r2,hr3,h⟩:=bind_some h
 refine ca (zj7 a0 a1 r2 hr3) (vr (.tuple [(zL r2.1),(i6 r2.2)]) (vb (zL r2.1) rfl rfl (vb (i6 r2.2) rfl rfl (vr (zL r2.1) (vr (i6 r2.2) (nk ⟨[(6,zL r2.1),(7,i6 r2.2)],[]⟩ (sr (vr (zL r2.1) (vq (i6 (r2.1.length:Int)) (xX rfl rfl) trivial ?_)))))))))
 refine vr (i6 r2.2) (vr (i6 (r2.1.length:Int)) (vr (i6 r2.2) (nx _ rfl (zU ?_))))
 refine ⟨.inr rfl,?_⟩
 rw [Tryz.results10]
 cases h
 exact ⟨_,_,_,_,_,rfl,trivial,.inl ⟨rfl,.inl rfl⟩,rfl,⟨_,_,_,_,_,rfl,trivial,.inl ⟨rfl,.inl rfl⟩,rfl,rfl⟩⟩
def zrb:Live:=[(0,[0,1,2]),(1,[0,1,2])]
noncomputable def zdv (a0:Int) (a1:Int) (a2:Int):Option Bool :=
 (if (decide (a1≤a0)) then (some ((decide (a0≤a2)))) else (some false))
theorem zqu (a0:Int) (a1:Int) (a2:Int) (r:Bool) (h:zdv a0 a1 a2=some r):Den Tryz.prog 41 [(i6 a0),(i6 a1),(i6 a2)] { r:=(.bool r) }:=by
 refine dd (rs:=[(.bool r)]) (L:=zrb) xL [] Tryz.func41 Tryz.ntmps41 ?_
 refine ns ⟨[(0,i6 a0),(1,i6 a1),(2,i6 a2)],[]⟩ ?_
 refine sr (vr (.bool false) (nk ⟨[(0,i6 a0),(1,i6 a1),(2,i6 a2)],[]⟩ (sr (vr (i6 a1) (vr (i6 a0) (vr (.bool ((decide (a1≤a0)))) (vr (.bool ((decide (a1≤a0)))) ?_)))))))
 cases hb1:(decide (a1≤a0))
 ·have h:=zW hb1 h
  refine zD rfl (zD rfl (zD rfl (vr (.bool false) (vr (.bool false) (nx _ rfl (zU ?_))))))
  refine ⟨.inr rfl,?_⟩
  rw [Tryz.results41]
  cases h
  exact ⟨_,_,_,_,_,rfl,trivial,.inl ⟨rfl,.inl rfl⟩,rfl,rfl⟩
 ·have h:=zV hb1 h
  refine gp (i6 a0) rfl rfl (gp (i6 a2) rfl rfl (gp (.bool ((decide (a0≤a2)))) rfl rfl (vr (.bool ((decide (a0≤a2)))) (vr (.bool ((decide (a0≤a2)))) (nx _ rfl (zU ?_))))))
  refine ⟨.inr rfl,?_⟩
  rw [Tryz.results41]
  cases h
  exact ⟨_,_,_,_,_,rfl,trivial,.inl ⟨rfl,.inl rfl⟩,rfl,rfl⟩
def zot:Live:=[(0,[]),(1,[0])]
noncomputable def zhi :Option ((List Int)×(List Int)) :=
 (some ([1],[]))
theorem znj  (r:((List Int)×(List Int))) (h:zhi=some r):Den Tryz.prog 42 [] { r:=(zC r) }:=by
 refine dd (rs:=[(zC r)]) (L:=zot) xL [] Tryz.func42 Tryz.ntmps42 ?_
 refine ns ⟨[],[]⟩ ?_
 refine sr (vo 1000 (zC ([],[])) rfl rfl (nk ⟨[(0,ow 0)],[(0,bk (zC ([],[])))]⟩ (sr (vq (.sl 1 true (([1]).map (AV.int .i64))) rfl ⟨(yS rfl),(yS rfl),(all_cons ⟨(yS rfl),rfl⟩ all_nil)⟩ (vq (zC ([1],[])) rfl ⟨rfl,(all_cons ⟨(yS rfl),rfl⟩ all_nil)⟩ (vs (zC ([1],[])) rfl rfl (fun _=>rfl) rfl rfl rfl rfl rfl rfl (nx _ rfl (zU ?_))))))))
 have hl2:LdOk [] (zC ([1],[])) [] 2 true (zC ([1],[])):=(.nil rfl rfl rfl)
 refine ⟨.inr rfl,?_⟩
 rw [Tryz.results42]
 cases h
 exact ⟨_,_,_,_,_,zM (i:=⟨.struct [(0,52),(1,52)],2,48,(zC ([],[]))⟩) rfl rfl rfl hl2,hl2.c,.inl ⟨rfl,.inl rfl⟩,rfl,rfl⟩
def zlq:Live:=[(0,[0,1,2,3]),(1,[0,3,5,6,8]),(2,[0,3,5,6,8,10]),(3,[8,10]),(4,[0,3,5,6,8]),(5,[3,8,11,12]),(6,[3,8,11,12]),(7,[3,8,11,12]),(8,[3,8,11,12,13]),(9,[3,8,11,12,13]),(10,[3,8,11,12,13]),(11,[3,8,11,12,13]),(12,[3,8,11,12,13]),(13,[8,13]),(100022,[0,3,5,6,8,10,22]),(100031,[3,8,11,12,31]),(100039,[3,8,11,12,13,39]),(100044,[3,8,11,12,13,44])]
noncomputable def wK (r23:(Int×(List Int))) (x177:Int) (x178:((List Int)×(List Int))) (x179:((List Int)×(List Int))):Option ((Int×((List Int)×(List Int))×((List Int)×(List Int)))⊕((List Int)×(List Int))) :=
 (if (decide (x177 > 0)) then (Option.bind (α:=((List Int)×(List Int))) ((kR (IntKind.i64.wrap (BitVec.ofInt IntKind.i64.bits x177 &&& BitVec.ofInt IntKind.i64.bits 1).toNat) fun x226=>(if (x226 == 1) then (Option.bind (uX r23 x179 x178) fun r232=>(some r232)) else (some x179)))) fun x222=>(Option.bind (uX r23 x178 x178) fun r238=>(some (.inl ((Int.fdiv x177 (2 ^ (min (1:Int).toNat IntKind.i64.bits)),r238,x222)))))) else (some (.inr x179)))
noncomputable def vI (a0:Int) (a1:(Vec Int 64)) (a2:((Vec Int 64)×(Vec Int 64))) (a3:Int):Option (((Vec Int 64)×(Vec Int 64))×Int) :=
 (Option.bind (zdv a3 (-1000000000000) 1000000000000) fun r8=>(Option.bind (vF a0 a1 r8 true ([a2])) fun r11=>(if (r11 != 0) then (some ((((yH 64 (0:Int)),(yH 64 (0:Int))),r11))) else (Option.bind (uT a0 a1) fun r23=>(Option.bind (vP a2) fun r26=>(Option.bind (α:=(Int×((List Int)×(List Int)))) ((if (decide (a3 < 0)) then (Option.bind (uL r23 r26) fun r44=>(some ((IntKind.i64.wrap (0 - a3),r44)))) else (some (a3,r26)))) fun ⟨x36,x37⟩=>(Option.bind (zhi) fun r47=>(Option.bind (α:=((List Int)×(List Int))) ((yK (fun s:(Int×((List Int)×(List Int))×((List Int)×(List Int)))=>wK r23 s.1 s.2.1 s.2.2) (x36,x37,r47))) fun x144=>(Option.bind (uF x144) fun r243=>(some (r243,0)))))))))))
theorem zfo (a0:Int) (a1:(Vec Int 64)) (a2:((Vec Int 64)×(Vec Int 64))) (a3:Int) (r:(((Vec Int 64)×(Vec Int 64))×Int)) (h:vI a0 a1 a2 a3=some r):Den Tryz.prog 11 [(i6 a0),(zJ a1),(zA a2),(i6 a3)] { r:=(.tuple [(zA r.1),(i6 r.2)]) }:=by
 refine dd (rs:=[(zA r.1),(i6 r.2)]) (L:=zlq) xL [] Tryz.func11 Tryz.ntmps11 ?_
 refine ns ⟨[(0,i6 a0),(1,zJ a1),(2,zA a2),(3,i6 a3)],[]⟩ ?_
 refine sr (vo 1500 (zJ a1) rfl rfl (vo 1600 (zA a2) rfl rfl (vo 1800 xA rfl rfl (vr (i6 0) (nk ⟨[(0,i6 a0),(3,i6 a3),(5,ow 5),(6,ow 6),(8,ow 8)],[(5,bk (zJ a1)),(6,bk (zA a2)),(8,bk xA)]⟩ (yC (yC (xH [⟨[],[],[],[]⟩,⟨[5],[],[],[]⟩,⟨[],[],[],[]⟩,⟨[],[],[],[2]⟩,⟨[6],[],[],[]⟩,⟨[],[],[],[4]⟩,⟨[],[],[],[0,1,2,3,4,5]⟩,⟨[],[],[],[0,1,2,3,4,5,6]⟩] (by kernel_rfl) (dj (i6 a0) rfl ?_)))))))))
 refine zH (vl (zJ a1) rfl rfl rfl rfl rfl rfl (dn (dj (i6 a3) rfl (zH ?_))))
 obtain ⟨r8,hr9,h⟩:=bind_some h
 refine ca (zqu a3 (-1000000000000) 1000000000000 r8 hr9) (dn (zH (vl (zA a2) rfl rfl rfl rfl rfl rfl (dn (zH (vq (.sl 128 true (([a2]).map zA)) rfl ⟨(yS rfl),(yS rfl),(all_cons ⟨(yS rfl),rfl⟩ all_nil)⟩ (dn (zH ?_))))))))
 obtain ⟨r11,hr12,h⟩:=bind_some h
 refine zaa (args:=[(i6 a0),(zJ a1),(.bool r8),(.bool true),(.sl 128 true (([a2]).map zA))]) (u:=[]) (r:=(i6 r11)) rfl rfl (Den.args (nR a0 a1 r8 true ([a2]) r11 hr12) rfl rfl (.cons (.refl _) (.cons (.refl _) (.cons (.refl _) (.cons (.refl _) (.cons (.loose _) .nil)))))) rfl (dn (dj (i6 r11) rfl (xE (nj ⟨[(0,i6 a0),(3,i6 a3),(5,ow 5),(6,ow 6),(8,ow 8),(10,i6 r11)],[(5,bk (zJ a1)),(6,bk (zA a2)),(8,bk xA)]⟩ (sr (vr (i6 r11) (vr (.bool (r11 != 0)) (nk ⟨[(0,i6 a0),(3,i6 a3),(5,ow 5),(6,ow 6),(8,ow 8),(10,i6 r11),(22,.bool (r11 != 0))],[(5,bk (zJ a1)),(6,bk (zA a2)),(8,bk xA)]⟩ ?_))))))))
 cases hb13:(r11 != 0)
 ·have h:=zW hb13 h
  refine zP rfl (yG (nj ⟨[(0,i6 a0),(3,i6 a3),(5,ow 5),(6,ow 6),(8,ow 8)],[(5,bk (zJ a1)),(6,bk (zA a2)),(8,bk xA)]⟩ (yC (xH [⟨[],[],[],[]⟩,⟨[5],[],[],[]⟩,⟨[],[],[],[0,1]⟩,⟨[6],[],[],[]⟩,⟨[],[],[],[0,1,2,3]⟩,⟨[2100],[2100],[2100],[]⟩,⟨[2200],[2200],[2200],[]⟩,⟨[2100],[2100],[],[0,1,2,3,4,5,6]⟩,⟨[2200],[2200],[],[0,1,2,3,4,5,6,7]⟩] (by kernel_rfl) (dj (i6 a0) rfl (zH (vl (zJ a1) rfl rfl rfl rfl rfl rfl (dn (zH ?_)))))))))
  obtain ⟨r23,hr24,h⟩:=bind_some h
  refine ca (kY a0 a1 r23 hr24) (dn (zH (vl (zA a2) rfl rfl rfl rfl rfl rfl (dn (zH ?_)))))
  obtain ⟨r26,hr27,h⟩:=bind_some h
  refine ca (jS a2 r26 hr27) (dn (zH (vo 2100 (zK (((0:Int),[]))) rfl rfl (dn (zH (vo 2200 (zC ([],[])) rfl rfl (dn (zH (vs (zK r23) rfl rfl (fun _=>rfl) rfl rfl rfl rfl rfl rfl ?_)))))))))
  refine dn (zH (vs (zC r26) rfl rfl (fun _=>rfl) rfl rfl rfl rfl rfl rfl (dn (xE (nj ⟨[(3,i6 a3),(8,ow 8),(11,ow 11),(12,ow 12)],[(8,bk xA),(11,bk (zK r23)),(12,bk (zC r26))]⟩ ?_)))))
  obtain ⟨y38,hy39,hk40⟩:=bind_some h
  clear h
  refine yN (emb:=fun (s:(Int×((List Int)×(List Int))))=>⟨[(3,i6 s.1),(8,ow 8),(11,ow 11),(12,ow 12)],[(8,bk xA),(11,bk (zK r23)),(12,bk (zC s.2))]⟩) (kG:=fun s=>s=y38) ?_ ?_
  ·rintro ⟨x36,x37⟩ rfl
   have h:=hk40
   refine ns ⟨[(3,i6 x36),(8,ow 8),(11,ow 11),(12,ow 12)],[(8,bk xA),(11,bk (zK r23)),(12,bk (zC x37))]⟩ (sr ?_)
   obtain ⟨r47,hr48,h⟩:=bind_some h
   refine ca (znj r47 hr48) (vo 2300 (zC ([],[])) rfl rfl (vs (zC r47) rfl rfl (fun _=>rfl) rfl rfl rfl rfl rfl rfl (nk ⟨[(3,i6 x36),(8,ow 8),(11,ow 11),(12,ow 12),(13,ow 13)],[(8,bk xA),(11,bk (zK r23)),(12,bk (zC x37)),(13,bk (zC r47))]⟩ ?_)))
   obtain ⟨y145,hy146,hk147⟩:=bind_some h
   clear h
   refine yN (emb:=fun (s:((List Int)×(List Int)))=>⟨[(8,ow 8),(13,ow 13)],[(8,bk xA),(13,bk (zC s))]⟩) (kG:=fun s=>s=y145) ?_ ?_
   ·rintro x144 rfl
    have h:=hk147
    refine ns ⟨[(8,ow 8),(13,ow 13)],[(8,bk xA),(13,bk (zC x144))]⟩ (sr (vl (zC x144) rfl rfl rfl rfl rfl rfl ?_))
    obtain ⟨r243,hr244,h⟩:=bind_some h
    refine ca (mQ x144 r243 hr244) (vs (zA r243) rfl rfl (fun _=>rfl) rfl rfl rfl rfl rfl rfl (vr (i6 0) (nx _ rfl (zU ?_))))
    have hl246:LdOk [] (zA r243) [] 128 true (zA r243):=(.nil rfl rfl rfl)
    refine ⟨.inr rfl,?_⟩
    rw [Tryz.results11]
    cases h
    exact ⟨_,_,_,_,_,zM (i:=⟨.struct [(0,25),(64,25)],128,128,xA⟩) rfl rfl rfl hl246,hl246.c,.inl ⟨rfl,.inl rfl⟩,rfl,⟨_,_,_,_,_,rfl,trivial,.inl ⟨rfl,.inl rfl⟩,rfl,rfl⟩⟩
   ·have h:=hy146
    refine yB ?_
    refine xU (emb:=fun (s:(Int×((List Int)×(List Int))×((List Int)×(List Int))))=>⟨[(3,i6 s.1),(8,ow 8),(11,ow 11),(12,ow 12),(13,ow 13)],[(8,bk xA),(11,bk (zK r23)),(12,bk (zC s.2.1)),(13,bk (zC s.2.2))]⟩) (body:=(fun s:(Int×((List Int)×(List Int))×((List Int)×(List Int)))=>wK r23 s.1 s.2.1 s.2.2)) (G:=fun q=>some q=some y145) h rfl ?_ (by kernel_rfl)
    rintro X209 ⟨x177,x178,x179⟩ x210 h hX211
    have h:wK r23 x177 x178 x179=some x210:=h
    refine ns ⟨[(3,i6 x177),(8,ow 8),(11,ow 11),(12,ow 12),(13,ow 13)],[(8,bk xA),(11,bk (zK r23)),(12,bk (zC x178)),(13,bk (zC x179))]⟩ (yC (sr (vr (i6 x177) (vr (.bool ((decide (x177 > 0)))) (nk ⟨[(3,i6 x177),(8,ow 8),(11,ow 11),(12,ow 12),(13,ow 13),(39,.bool ((decide (x177 > 0))))],[(8,bk xA),(11,bk (zK r23)),(12,bk (zC x178)),(13,bk (zC x179))]⟩ ?_)))))
    cases hb212:(decide (x177 > 0))
    ·have h:=zW hb212 h
     refine zP rfl (xR (yI ?_))
     cases h
     have h:=hX211
     refine yI (xQ ?_)
     exact jl x179 h
    ·have h:=zV hb212 h
     refine zO rfl (yG (nj ⟨[(3,i6 x177),(8,ow 8),(11,ow 11),(12,ow 12),(13,ow 13)],[(8,bk xA),(11,bk (zK r23)),(12,bk (zC x178)),(13,bk (zC x179))]⟩ (yC (yB ?_))))
     obtain ⟨y223,hy224,hk225⟩:=bind_some h
     clear h
     refine yN (emb:=fun (s:((List Int)×(List Int)))=>⟨[(3,i6 x177),(8,ow 8),(11,ow 11),(12,ow 12),(13,ow 13)],[(8,bk xA),(11,bk (zK r23)),(12,bk (zC x178)),(13,bk (zC s))]⟩) (kG:=fun s=>s=y223) ?_ ?_
     ·rintro x222 rfl
      have h:=hk225
      refine ns ⟨[(3,i6 x177),(8,ow 8),(11,ow 11),(12,ow 12),(13,ow 13)],[(8,bk xA),(11,bk (zK r23)),(12,bk (zC x178)),(13,bk (zC x222))]⟩ (zR (vl (zK r23) rfl rfl rfl rfl rfl rfl (vl (zC x178) rfl rfl rfl rfl rfl rfl (vl (zC x178) rfl rfl rfl rfl rfl rfl ?_))))
      obtain ⟨r238,hr239,h⟩:=bind_some h
      refine ca (nZ r23 x178 x178 r238 hr239) (vs (zC r238) rfl rfl (fun _=>rfl) rfl rfl rfl rfl rfl rfl (yJ (xI (nj ⟨[(3,i6 x177),(8,ow 8),(11,ow 11),(12,ow 12),(13,ow 13)],[(8,bk xA),(11,bk (zK r23)),(12,bk (zC r238)),(13,bk (zC x222))]⟩ (zR (vr (i6 x177) (vq (i6 (Int.fdiv x177 (2 ^ (min (1:Int).toNat IntKind.i64.bits)))) rfl (by decide) (vr (i6 (Int.fdiv x177 (2 ^ (min (1:Int).toNat IntKind.i64.bits)))) (yJ ?_)))))))))
      cases h
      exact ag hX211
     ·have h:=hy224
      refine sr (vr (i6 x177) ?_)
      obtain ⟨x226,hx227,h⟩:=xP h
      refine qI (v:=(i6 (IntKind.i64.wrap (BitVec.ofInt IntKind.i64.bits x177 &&& BitVec.ofInt IntKind.i64.bits 1).toNat))) (v':=(i6 x226)) (u:=[]) (u':=[]) rfl (congrArg (fun z=>((i6 z):AV)) hx227) rfl trivial rfl (vr (.bool (x226 == 1)) (nk ⟨[(3,i6 x177),(8,ow 8),(11,ow 11),(12,ow 12),(13,ow 13),(44,.bool (x226 == 1))],[(8,bk xA),(11,bk (zK r23)),(12,bk (zC x178)),(13,bk (zC x179))]⟩ ?_))
      cases hb228:(x226 == 1)
      ·have h:=zW hb228 h
       refine zP rfl (yG ?_)
       exact jl x179 h
      ·have h:=zV hb228 h
       refine zO rfl (zR (vl (zK r23) rfl rfl rfl rfl rfl rfl (vl (zC x179) rfl rfl rfl rfl rfl rfl (vl (zC x178) rfl rfl rfl rfl rfl rfl ?_))))
       obtain ⟨r232,hr233,h⟩:=bind_some h
       refine ca (nZ r23 x179 x178 r232 hr233) (vs (zC r232) rfl rfl (fun _=>rfl) rfl rfl rfl rfl rfl rfl (yJ ?_))
       exact jl r232 h
  ·have h:=hy39
   refine sr (vr (i6 a3) (vr (.bool ((decide (a3 < 0)))) (nk ⟨[(3,i6 a3),(8,ow 8),(11,ow 11),(12,ow 12),(31,.bool ((decide (a3 < 0))))],[(8,bk xA),(11,bk (zK r23)),(12,bk (zC r26))]⟩ ?_)))
   cases hb41:(decide (a3 < 0))
   ·have h:=zW hb41 h
    refine zP rfl (yG ?_)
    exact jl (a3,r26) h
   ·have h:=zV hb41 h
    refine zO rfl (zR (vl (zK r23) rfl rfl rfl rfl rfl rfl (vl (zC r26) rfl rfl rfl rfl rfl rfl ?_)))
    obtain ⟨r44,hr45,h⟩:=bind_some h
    refine ca (zej r23 r26 r44 hr45) (vr (i6 a3) (vr (i6 (IntKind.i64.wrap (0 - a3))) (vs (zC r44) rfl rfl (fun _=>rfl) rfl rfl rfl rfl rfl rfl (vr (i6 (IntKind.i64.wrap (0 - a3))) (yJ ?_)))))
    exact jl ((IntKind.i64.wrap (0 - a3),r44)) h
 ·have h:=zV hb13 h
  refine zO rfl (sr (vq xA rfl ⟨rfl,all_nil⟩ (vr (i6 r11) (vs xA rfl rfl (fun _=>rfl) rfl rfl rfl rfl rfl rfl (vr (i6 r11) (nx _ rfl (zU (xV ?_))))))))
  have hl248:LdOk [] xA [] 128 true xA:=(.nil rfl rfl rfl)
  refine ⟨.inr rfl,?_⟩
  rw [Tryz.results11]
  cases h
  exact ⟨_,_,_,_,_,zM (i:=⟨.struct [(0,25),(64,25)],128,128,xA⟩) rfl rfl rfl hl248,hl248.c,.inl ⟨rfl,.inl rfl⟩,rfl,⟨_,_,_,_,_,rfl,trivial,.inl ⟨rfl,.inl rfl⟩,rfl,rfl⟩⟩
def zjm:Live:=[(0,[0]),(1,[0,3,4]),(2,[3,4,5]),(3,[3,4,5,6,7])]
noncomputable def zai (a0:(List Int)):Option (Int×(Vec Int 64)×((Vec Int 64)×(Vec Int 64))) :=
 (Option.bind (jO a0) fun r1=>(Option.bind (wS r1) fun r3=>(Option.bind (xW r3.2.2 r3.1 r3.2.1 false) fun r16=>(some (r3.1,r3.2.1,r16.1)))))
theorem zit (a0:(List Int)) (r:(Int×(Vec Int 64)×((Vec Int 64)×(Vec Int 64)))) (h:zai a0=some r):Den Tryz.prog 13 [(xJ a0)] { r:=(.tuple [(i6 r.1),(zJ r.2.1),(zA r.2.2)]) }:=by
 refine dd (rs:=[(i6 r.1),(zJ r.2.1),(zA r.2.2)]) (L:=zjm) xL [(12,1),(20,1)] Tryz.func13 Tryz.ntmps13 ?_
 refine ns ⟨[(0,xJ a0)],[]⟩ ?_
 refine sr (vr (i6 0) (vo 1300 (yF) rfl rfl (vo 1400 xA rfl rfl (nk ⟨[(0,xJ a0),(3,ow 3),(4,ow 4)],[(3,bk (yF)),(4,bk xA)]⟩ (sr (vr (xJ a0) ?_))))))
 obtain ⟨r1,hr2,h⟩:=bind_some h
 refine zg4 (args:=[(xJ a0)]) (u:=[]) (u2:=[]) (r:=(ow 2000000)) (fs:=[(0,[zB r1])]) rfl rfl (nE a0 r1 hr2) rfl rfl rfl (.inl rfl) rfl (vr (ow 1900) (nk ⟨[(3,ow 3),(4,ow 4),(5,ow 5)],[(3,bk (yF)),(4,bk xA),(5,bk (zB r1))]⟩ (sr (vr (ow 5) ?_))))
 obtain ⟨r3,hr4,h⟩:=bind_some h
 refine xD (args:=[(.mutp (zB r1))]) (i:=0) (id:=5) (r:=(.tuple [(i6 r3.1),(zJ r3.2.1)])) (c:=(zB r3.2.2)) rfl rfl (vY r1 r3 hr4) rfl trivial (vr (.tuple [(i6 r3.1),(zJ r3.2.1)]) (vb (i6 r3.1) rfl rfl (vb (zJ r3.2.1) rfl rfl (vo 1700 (yF) rfl rfl (vr (i6 r3.1) (vs (zJ r3.2.1) rfl rfl (fun _=>rfl) rfl rfl rfl rfl rfl rfl (nk ⟨[(3,ow 3),(4,ow 4),(5,ow 5),(6,i6 r3.1),(7,ow 7)],[(3,bk (yF)),(4,bk xA),(5,bk (zB r3.2.2)),(7,bk (zJ r3.2.1))]⟩ (yC (xH [⟨[],[],[],[]⟩,⟨[7],[],[],[]⟩,⟨[],[],[5],[]⟩,⟨[],[],[],[]⟩,⟨[7],[],[],[]⟩,⟨[5],[5],[],[2,3,4]⟩,⟨[],[],[],[0,2,3,4,5]⟩,⟨[3],[3],[],[0,1,2,3,4,5,6]⟩,⟨[4],[4],[],[0,1,2,3,4,5,6,7]⟩] (by kernel_rfl) ?_)))))))))
 refine dj (i6 r3.1) rfl (zH (vl (zJ r3.2.1) rfl rfl rfl rfl rfl rfl (dn (dj (ow 5) rfl (dj (i6 r3.1) rfl (zH (vl (zJ r3.2.1) rfl rfl rfl rfl rfl rfl (dn (zH ?_)))))))))
 obtain ⟨r16,hr17,h⟩:=bind_some h
 refine xD (args:=[(.mutp (zB r3.2.2)),(i6 r3.1),(zJ r3.2.1),(.bool false)]) (i:=0) (id:=5) (r:=(zA r16.1)) (c:=(zB r16.2)) rfl rfl (wM r3.2.2 r3.1 r3.2.1 false r16 hr17) rfl trivial (dn (dj (i6 r3.1) rfl (zH (vs (zJ r3.2.1) rfl rfl (fun _=>rfl) rfl rfl rfl rfl rfl rfl (dn (zH (vs (zA r16.1) rfl rfl (fun _=>rfl) rfl rfl rfl rfl rfl rfl (dn (xE ?_)))))))))
 refine wC rfl (zU ?_)
 have hl21:LdOk [] (zJ r3.2.1) [] 64 true (zJ r3.2.1):=(.nil rfl rfl rfl)
 have hl22:LdOk [] (zA r16.1) [] 128 true (zA r16.1):=(.nil rfl rfl rfl)
 refine ⟨.inr rfl,?_⟩
 rw [Tryz.results13]
 cases h
 exact ⟨_,_,_,_,_,rfl,trivial,.inl ⟨rfl,.inl rfl⟩,rfl,⟨_,_,_,_,_,zM (i:=⟨.arr 64 5,64,64,(zJ (yH 64 (0:Int)))⟩) rfl rfl rfl hl21,hl21.c,.inl ⟨rfl,.inl rfl⟩,rfl,⟨_,_,_,_,_,zM (i:=⟨.struct [(0,25),(64,25)],128,128,xA⟩) rfl rfl rfl hl22,hl22.c,.inl ⟨rfl,.inl rfl⟩,rfl,rfl⟩⟩⟩
def zm2:Live:=[(0,[0,1,2]),(1,[0,4,5,6]),(2,[0,4,5,6,8]),(3,[6,8]),(4,[0,4,5,6]),(100015,[0,4,5,6,8,15])]
noncomputable def zbl (a0:Int) (a1:(Vec Int 64)) (a2:((Vec Int 64)×(Vec Int 64))):Option (((Vec Int 64)×(Vec Int 64))×Int) :=
 (Option.bind (vF a0 a1 true false ([a2])) fun r3=>(if (r3 != 0) then (some ((((yH 64 (0:Int)),(yH 64 (0:Int))),r3))) else (Option.bind (uT a0 a1) fun r18=>(Option.bind (vP a2) fun r21=>(Option.bind (kK r18 r21) fun r23=>(Option.bind (uF r23) fun r25=>(some (r25,0))))))))
theorem zma (a0:Int) (a1:(Vec Int 64)) (a2:((Vec Int 64)×(Vec Int 64))) (r:(((Vec Int 64)×(Vec Int 64))×Int)) (h:zbl a0 a1 a2=some r):Den Tryz.prog 14 [(i6 a0),(zJ a1),(zA a2)] { r:=(.tuple [(zA r.1),(i6 r.2)]) }:=by
 refine dd (rs:=[(zA r.1),(i6 r.2)]) (L:=zm2) xL [] Tryz.func14 Tryz.ntmps14 ?_
 refine ns ⟨[(0,i6 a0),(1,zJ a1),(2,zA a2)],[]⟩ ?_
 refine sr (vo 1400 (zJ a1) rfl rfl (vo 1500 (zA a2) rfl rfl (vo 1600 xA rfl rfl (vr (i6 0) (nk ⟨[(0,i6 a0),(4,ow 4),(5,ow 5),(6,ow 6)],[(4,bk (zJ a1)),(5,bk (zA a2)),(6,bk xA)]⟩ (yC (sr (vr (i6 a0) (vl (zJ a1) rfl rfl rfl rfl rfl rfl ?_)))))))))
 refine vl (zA a2) rfl rfl rfl rfl rfl rfl (vq (.sl 128 true (([a2]).map zA)) rfl ⟨(yS rfl),(yS rfl),(all_cons ⟨(yS rfl),rfl⟩ all_nil)⟩ ?_)
 obtain ⟨r3,hr4,h⟩:=bind_some h
 refine zaa (args:=[(i6 a0),(zJ a1),(.bool true),(.bool false),(.sl 128 true (([a2]).map zA))]) (u:=[]) (r:=(i6 r3)) rfl rfl (Den.args (nR a0 a1 true false ([a2]) r3 hr4) rfl rfl (.cons (.refl _) (.cons (.refl _) (.cons (.refl _) (.cons (.refl _) (.cons (.loose _) .nil)))))) rfl (vr (i6 r3) (nk ⟨[(0,i6 a0),(4,ow 4),(5,ow 5),(6,ow 6),(8,i6 r3)],[(4,bk (zJ a1)),(5,bk (zA a2)),(6,bk xA)]⟩ (sr (vr (i6 r3) (vr (.bool (r3 != 0)) (nk ⟨[(0,i6 a0),(4,ow 4),(5,ow 5),(6,ow 6),(8,i6 r3),(15,.bool (r3 != 0))],[(4,bk (zJ a1)),(5,bk (zA a2)),(6,bk xA)]⟩ ?_))))))
 cases hb5:(r3 != 0)
 ·have h:=zW hb5 h
  refine zP rfl (yG (nj ⟨[(0,i6 a0),(4,ow 4),(5,ow 5),(6,ow 6)],[(4,bk (zJ a1)),(5,bk (zA a2)),(6,bk xA)]⟩ (yC (xH [⟨[],[],[],[]⟩,⟨[4],[],[],[]⟩,⟨[],[],[],[0,1]⟩,⟨[5],[],[],[]⟩,⟨[],[],[],[0,1,2,3]⟩,⟨[],[],[],[0,1,2,3,4]⟩,⟨[],[],[],[0,1,2,3,4,5]⟩,⟨[6],[6],[],[0,1,2,3,4,5,6]⟩,⟨[],[],[],[0,1,2,3,4,5,6,7]⟩] (by kernel_rfl) (dj (i6 a0) rfl (zH (vl (zJ a1) rfl rfl rfl rfl rfl rfl (dn (zH ?_)))))))))
  obtain ⟨r18,hr19,h⟩:=bind_some h
  refine ca (kY a0 a1 r18 hr19) (dn (zH (vl (zA a2) rfl rfl rfl rfl rfl rfl (dn (zH ?_)))))
  obtain ⟨r21,hr22,h⟩:=bind_some h
  refine ca (jS a2 r21 hr22) (dn (zH ?_))
  obtain ⟨r23,hr24,h⟩:=bind_some h
  refine ca (zeo r18 r21 r23 hr24) (dn (zH ?_))
  obtain ⟨r25,hr26,h⟩:=bind_some h
  refine ca (mQ r23 r25 hr26) (dn (zH (vs (zA r25) rfl rfl (fun _=>rfl) rfl rfl rfl rfl rfl rfl (dn (dj (i6 0) rfl (xE (wC rfl (zU ?_))))))))
  have hl28:LdOk [] (zA r25) [] 128 true (zA r25):=(.nil rfl rfl rfl)
  refine ⟨.inr rfl,?_⟩
  rw [Tryz.results14]
  cases h
  exact ⟨_,_,_,_,_,zM (i:=⟨.struct [(0,25),(64,25)],128,128,xA⟩) rfl rfl rfl hl28,hl28.c,.inl ⟨rfl,.inl rfl⟩,rfl,⟨_,_,_,_,_,rfl,trivial,.inl ⟨rfl,.inl rfl⟩,rfl,rfl⟩⟩
 ·have h:=zV hb5 h
  refine zO rfl (sr (vq xA rfl ⟨rfl,all_nil⟩ (vr (i6 r3) (vs xA rfl rfl (fun _=>rfl) rfl rfl rfl rfl rfl rfl (vr (i6 r3) (nx _ rfl (zU (xV ?_))))))))
  have hl30:LdOk [] xA [] 128 true xA:=(.nil rfl rfl rfl)
  refine ⟨.inr rfl,?_⟩
  rw [Tryz.results14]
  cases h
  exact ⟨_,_,_,_,_,zM (i:=⟨.struct [(0,25),(64,25)],128,128,xA⟩) rfl rfl rfl hl30,hl30.c,.inl ⟨rfl,.inl rfl⟩,rfl,⟨_,_,_,_,_,rfl,trivial,.inl ⟨rfl,.inl rfl⟩,rfl,rfl⟩⟩
def zmm:Live:=[(0,[0,1,2]),(1,[0,4,5,6]),(2,[0,4,5,6,8]),(3,[6,8]),(4,[0,4,5,6]),(100015,[0,4,5,6,8,15])]
noncomputable def zbo (a0:Int) (a1:(Vec Int 64)) (a2:((Vec Int 64)×(Vec Int 64))):Option (((Vec Int 64)×(Vec Int 64))×Int) :=
 (Option.bind (kH a0 a1 false ([a2])) fun r3=>(if (r3 != 0) then (some ((((yH 64 (0:Int)),(yH 64 (0:Int))),r3))) else (Option.bind (nS a0 a1 a2) fun r8=>(some (r8,0)))))
theorem zl7 (a0:Int) (a1:(Vec Int 64)) (a2:((Vec Int 64)×(Vec Int 64))) (r:(((Vec Int 64)×(Vec Int 64))×Int)) (h:zbo a0 a1 a2=some r):Den Tryz.prog 15 [(i6 a0),(zJ a1),(zA a2)] { r:=(.tuple [(zA r.1),(i6 r.2)]) }:=by
 refine dd (rs:=[(zA r.1),(i6 r.2)]) (L:=zmm) xL [] Tryz.func15 Tryz.ntmps15 ?_
 refine ns ⟨[(0,i6 a0),(1,zJ a1),(2,zA a2)],[]⟩ ?_
 refine sr (vo 1400 (zJ a1) rfl rfl (vo 1500 (zA a2) rfl rfl (vo 1600 xA rfl rfl (vr (i6 0) (nk ⟨[(0,i6 a0),(4,ow 4),(5,ow 5),(6,ow 6)],[(4,bk (zJ a1)),(5,bk (zA a2)),(6,bk xA)]⟩ (yC (sr (vr (i6 a0) (vl (zJ a1) rfl rfl rfl rfl rfl rfl ?_)))))))))
 refine vl (zA a2) rfl rfl rfl rfl rfl rfl (vq (.sl 128 true (([a2]).map zA)) rfl ⟨(yS rfl),(yS rfl),(all_cons ⟨(yS rfl),rfl⟩ all_nil)⟩ ?_)
 obtain ⟨r3,hr4,h⟩:=bind_some h
 refine zaa (args:=[(i6 a0),(zJ a1),(.bool false),(.sl 128 true (([a2]).map zA))]) (u:=[]) (r:=(i6 r3)) rfl rfl (Den.args (zbp a0 a1 false ([a2]) r3 hr4) rfl rfl (.cons (.refl _) (.cons (.refl _) (.cons (.refl _) (.cons (.loose _) .nil))))) rfl (vr (i6 r3) (nk ⟨[(0,i6 a0),(4,ow 4),(5,ow 5),(6,ow 6),(8,i6 r3)],[(4,bk (zJ a1)),(5,bk (zA a2)),(6,bk xA)]⟩ (sr (vr (i6 r3) (vr (.bool (r3 != 0)) (nk ⟨[(0,i6 a0),(4,ow 4),(5,ow 5),(6,ow 6),(8,i6 r3),(15,.bool (r3 != 0))],[(4,bk (zJ a1)),(5,bk (zA a2)),(6,bk xA)]⟩ ?_))))))
 cases hb5:(r3 != 0)
 ·have h:=zW hb5 h
  refine zP rfl (yG (nj ⟨[(0,i6 a0),(4,ow 4),(5,ow 5),(6,ow 6)],[(4,bk (zJ a1)),(5,bk (zA a2)),(6,bk xA)]⟩ (sr (vr (i6 a0) (vl (zJ a1) rfl rfl rfl rfl rfl rfl (vl (zA a2) rfl rfl rfl rfl rfl rfl ?_))))))
  obtain ⟨r8,hr9,h⟩:=bind_some h
  refine ca (zg7 a0 a1 a2 r8 hr9) (vs (zA r8) rfl rfl (fun _=>rfl) rfl rfl rfl rfl rfl rfl (vr (i6 0) (nx _ rfl (zU ?_))))
  have hl11:LdOk [] (zA r8) [] 128 true (zA r8):=(.nil rfl rfl rfl)
  refine ⟨.inr rfl,?_⟩
  rw [Tryz.results15]
  cases h
  exact ⟨_,_,_,_,_,zM (i:=⟨.struct [(0,25),(64,25)],128,128,xA⟩) rfl rfl rfl hl11,hl11.c,.inl ⟨rfl,.inl rfl⟩,rfl,⟨_,_,_,_,_,rfl,trivial,.inl ⟨rfl,.inl rfl⟩,rfl,rfl⟩⟩
 ·have h:=zV hb5 h
  refine zO rfl (sr (vq xA rfl ⟨rfl,all_nil⟩ (vr (i6 r3) (vs xA rfl rfl (fun _=>rfl) rfl rfl rfl rfl rfl rfl (vr (i6 r3) (nx _ rfl (zU (xV ?_))))))))
  have hl13:LdOk [] xA [] 128 true xA:=(.nil rfl rfl rfl)
  refine ⟨.inr rfl,?_⟩
  rw [Tryz.results15]
  cases h
  exact ⟨_,_,_,_,_,zM (i:=⟨.struct [(0,25),(64,25)],128,128,xA⟩) rfl rfl rfl hl13,hl13.c,.inl ⟨rfl,.inl rfl⟩,rfl,⟨_,_,_,_,_,rfl,trivial,.inl ⟨rfl,.inl rfl⟩,rfl,rfl⟩⟩
def ziz:Live:=[(0,[0]),(1,[0,3,4]),(2,[3,4,6]),(3,[3,4,6,7,8])]
noncomputable def mL (a0:(List Int)):Option (Int×(Vec Int 64)×((Vec Int 64)×(Vec Int 64))×Int) :=
 (Option.bind (jO a0) fun r1=>(Option.bind (wS r1) fun r3=>(Option.bind (zS r3.2.2 12) fun r25=>(Option.bind (xW r25.2 r3.1 r3.2.1 ((decide (r25.1 > 0)))) fun r28=>(Option.bind (zS r28.2 200) fun r31=>(Option.bind (wA r31.2 ([0,1,2,3,-1,r31.1,1000000000000,1000000000001])) fun r34=>(some (r3.1,r3.2.1,r28.1,r34.1))))))))
theorem zh3 (a0:(List Int)) (r:(Int×(Vec Int 64)×((Vec Int 64)×(Vec Int 64))×Int)) (h:mL a0=some r):Den Tryz.prog 16 [(xJ a0)] { r:=(.tuple [(i6 r.1),(zJ r.2.1),(zA r.2.2.1),(i6 r.2.2.2)]) }:=by
 refine dd (rs:=[(i6 r.1),(zJ r.2.1),(zA r.2.2.1),(i6 r.2.2.2)]) (L:=ziz) xL [(13,1),(22,1),(24,1),(27,1),(29,1)] Tryz.func16 Tryz.ntmps16 ?_
 refine ns ⟨[(0,xJ a0)],[]⟩ ?_
 refine sr (vr (i6 0) (vo 1300 (yF) rfl rfl (vo 1400 xA rfl rfl (vr (i6 0) (nk ⟨[(0,xJ a0),(3,ow 3),(4,ow 4)],[(3,bk (yF)),(4,bk xA)]⟩ (sr (vr (xJ a0) ?_)))))))
 obtain ⟨r1,hr2,h⟩:=bind_some h
 refine zg4 (args:=[(xJ a0)]) (u:=[]) (u2:=[]) (r:=(ow 2000000)) (fs:=[(0,[zB r1])]) rfl rfl (nE a0 r1 hr2) rfl rfl rfl (.inl rfl) rfl (vr (ow 2000) (nk ⟨[(3,ow 3),(4,ow 4),(6,ow 6)],[(3,bk (yF)),(4,bk xA),(6,bk (zB r1))]⟩ (sr (vr (ow 6) ?_))))
 obtain ⟨r3,hr4,h⟩:=bind_some h
 refine xD (args:=[(.mutp (zB r1))]) (i:=0) (id:=6) (r:=(.tuple [(i6 r3.1),(zJ r3.2.1)])) (c:=(zB r3.2.2)) rfl rfl (vY r1 r3 hr4) rfl trivial (vr (.tuple [(i6 r3.1),(zJ r3.2.1)]) (vb (i6 r3.1) rfl rfl (vb (zJ r3.2.1) rfl rfl (vo 1800 (yF) rfl rfl (vr (i6 r3.1) (vs (zJ r3.2.1) rfl rfl (fun _=>rfl) rfl rfl rfl rfl rfl rfl (nk ⟨[(3,ow 3),(4,ow 4),(6,ow 6),(7,i6 r3.1),(8,ow 8)],[(3,bk (yF)),(4,bk xA),(6,bk (zB r3.2.2)),(8,bk (zJ r3.2.1))]⟩ (yC (xH [⟨[],[],[],[]⟩,⟨[8],[],[],[]⟩,⟨[],[],[6],[]⟩,⟨[],[],[],[]⟩,⟨[8],[],[],[]⟩,⟨[],[],[6],[]⟩,⟨[6],[6],[],[5]⟩,⟨[],[],[],[5,6]⟩,⟨[6],[6],[],[2,3,4,5,6,7]⟩,⟨[],[],[6],[]⟩,⟨[],[],[6],[]⟩,⟨[6],[6],[],[2,3,4,5,6,7,8,10]⟩,⟨[],[],[],[2,3,4,5,6,7,8,10,11]⟩,⟨[6],[6],[],[2,3,4,5,6,7,8,9,10,11,12]⟩,⟨[],[],[],[0,2,3,4,5,6,7,8,9,10,11,12,13]⟩,⟨[3],[3],[],[0,1,2,3,4,5,6,7,8,9,10,11,12,13,14]⟩,⟨[4],[4],[],[0,1,2,3,4,5,6,7,8,9,10,11,12,13,14,15]⟩,⟨[],[],[],[0,1,2,3,4,5,6,7,8,9,10,11,12,13,14,15,16]⟩] (by kernel_rfl) ?_)))))))))
 refine dj (i6 r3.1) rfl (zH (vl (zJ r3.2.1) rfl rfl rfl rfl rfl rfl (dn (dj (ow 6) rfl (dj (i6 r3.1) rfl (zH (vl (zJ r3.2.1) rfl rfl rfl rfl rfl rfl (dn (dj (ow 6) rfl ?_)))))))))
 refine zH ?_
 obtain ⟨r25,hr26,h⟩:=bind_some h
 refine xD (args:=[(.mutp (zB r3.2.2)),(i6 12)]) (i:=0) (id:=6) (r:=(i6 r25.1)) (c:=(zB r25.2)) rfl rfl (yA r3.2.2 12 r25 hr26) rfl trivial (dn (dj (.bool ((decide (r25.1 > 0)))) rfl (zH ?_)))
 obtain ⟨r28,hr29,h⟩:=bind_some h
 refine xD (args:=[(.mutp (zB r25.2)),(i6 r3.1),(zJ r3.2.1),(.bool ((decide (r25.1 > 0))))]) (i:=0) (id:=6) (r:=(zA r28.1)) (c:=(zB r28.2)) rfl rfl (wM r25.2 r3.1 r3.2.1 ((decide (r25.1 > 0))) r28 hr29) rfl trivial (dn (dj (ow 6) rfl (dj (ow 6) rfl (zH ?_))))
 obtain ⟨r31,hr32,h⟩:=bind_some h
 refine xD (args:=[(.mutp (zB r28.2)),(i6 200)]) (i:=0) (id:=6) (r:=(i6 r31.1)) (c:=(zB r31.2)) rfl rfl (yA r28.2 200 r31 hr32) rfl trivial (dn (zH (vq (.sl 1 true (([0,1,2,3,-1,r31.1,1000000000000,1000000000001]).map (AV.int .i64))) rfl ⟨(yS rfl),(yS rfl),(all_cons ⟨(yS rfl),rfl⟩ (all_cons ⟨(yS rfl),rfl⟩ (all_cons ⟨(yS rfl),rfl⟩ (all_cons ⟨(yS rfl),rfl⟩ (all_cons ⟨(yS rfl),rfl⟩ (all_cons ⟨(yS rfl),rfl⟩ (all_cons ⟨(yS rfl),rfl⟩ (all_cons ⟨(yS rfl),rfl⟩ all_nil))))))))⟩ (dn (zH ?_)))))
 obtain ⟨r34,hr35,h⟩:=bind_some h
 refine xD (args:=[(.mutp (zB r31.2)),(.sl 1 true (([0,1,2,3,-1,r31.1,1000000000000,1000000000001]).map (AV.int .i64)))]) (i:=0) (id:=6) (r:=(i6 r34.1)) (c:=(zB r34.2)) rfl rfl (Den.argsM (vA r31.2 ([0,1,2,3,-1,r31.1,1000000000000,1000000000001]) r34 hr35) rfl rfl (.cons (.loose _) .nil)) rfl trivial (dn (dj (i6 r3.1) rfl (zH (vs (zJ r3.2.1) rfl rfl (fun _=>rfl) rfl rfl rfl rfl rfl rfl (dn (zH (vs (zA r28.1) rfl rfl (fun _=>rfl) rfl rfl rfl rfl rfl rfl (dn (dj (i6 r34.1) rfl ?_)))))))))
 refine xE (wC rfl (zU ?_))
 have hl39:LdOk [] (zJ r3.2.1) [] 64 true (zJ r3.2.1):=(.nil rfl rfl rfl)
 have hl40:LdOk [] (zA r28.1) [] 128 true (zA r28.1):=(.nil rfl rfl rfl)
 refine ⟨.inr rfl,?_⟩
 rw [Tryz.results16]
 cases h
 exact ⟨_,_,_,_,_,rfl,trivial,.inl ⟨rfl,.inl rfl⟩,rfl,⟨_,_,_,_,_,zM (i:=⟨.arr 64 5,64,64,(zJ (yH 64 (0:Int)))⟩) rfl rfl rfl hl39,hl39.c,.inl ⟨rfl,.inl rfl⟩,rfl,⟨_,_,_,_,_,zM (i:=⟨.struct [(0,25),(64,25)],128,128,xA⟩) rfl rfl rfl hl40,hl40.c,.inl ⟨rfl,.inl rfl⟩,rfl,⟨_,_,_,_,_,rfl,trivial,.inl ⟨rfl,.inl rfl⟩,rfl,rfl⟩⟩⟩⟩
def zsm:Live:=[(0,[0,1,2]),(1,[0,1,2])]
noncomputable def zf8 (a0:Int) (a1:Int) (a2:Int):Option Bool :=
 (if (decide (a0 ≥ a1)) then (some ((decide (a0≤a2)))) else (some false))
theorem zq9 (a0:Int) (a1:Int) (a2:Int) (r:Bool) (h:zf8 a0 a1 a2=some r):Den Tryz.prog 50 [(i6 a0),(i6 a1),(i6 a2)] { r:=(.bool r) }:=by
 refine dd (rs:=[(.bool r)]) (L:=zsm) xL [] Tryz.func50 Tryz.ntmps50 ?_
 refine ns ⟨[(0,i6 a0),(1,i6 a1),(2,i6 a2)],[]⟩ ?_
 refine sr (vr (.bool false) (nk ⟨[(0,i6 a0),(1,i6 a1),(2,i6 a2)],[]⟩ (sr (vr (i6 a0) (vr (i6 a1) (vr (.bool ((decide (a0 ≥ a1)))) (vr (.bool ((decide (a0 ≥ a1)))) ?_)))))))
 cases hb1:(decide (a0 ≥ a1))
 ·have h:=zW hb1 h
  refine zD rfl (zD rfl (zD rfl (vr (.bool false) (vr (.bool false) (nx _ rfl (zU ?_))))))
  refine ⟨.inr rfl,?_⟩
  rw [Tryz.results50]
  cases h
  exact ⟨_,_,_,_,_,rfl,trivial,.inl ⟨rfl,.inl rfl⟩,rfl,rfl⟩
 ·have h:=zV hb1 h
  refine gp (i6 a0) rfl rfl (gp (i6 a2) rfl rfl (gp (.bool ((decide (a0≤a2)))) rfl rfl (vr (.bool ((decide (a0≤a2)))) (vr (.bool ((decide (a0≤a2)))) (nx _ rfl (zU ?_))))))
  refine ⟨.inr rfl,?_⟩
  rw [Tryz.results50]
  cases h
  exact ⟨_,_,_,_,_,rfl,trivial,.inl ⟨rfl,.inl rfl⟩,rfl,rfl⟩
def zl1:Live:=[(0,[0,1,2,3]),(1,[0,3,5,6,8]),(2,[8]),(3,[0,3,5,6,8]),(4,[8]),(5,[0,3,5,6,8]),(6,[0,3,5,6,8,10]),(7,[8,10]),(8,[0,3,5,6,8]),(9,[0,3,5,6,8]),(10,[0,3,5,6,8]),(11,[0,3,5,6,8]),(12,[0,3,5,6,8,11]),(13,[0,3,5,6,8,11]),(14,[0,3,5,6,8,11]),(15,[0,3,5,6,8,11]),(16,[0,3,5,6,8,11]),(17,[8,11]),(100022,[0,3,5,6,8,22]),(100026,[0,3,5,6,8,26]),(100034,[0,3,5,6,8,10,34]),(100038,[0,3,5,6,8,38]),(100050,[0,3,5,6,8,11,50]),(100055,[0,3,5,6,8,11,55])]
noncomputable def wJ (a0:Int) (a1:(Vec Int 64)) (x161:Int) (x162:((Vec Int 64)×(Vec Int 64))) (x163:((Vec Int 64)×(Vec Int 64))):Option ((Int×((Vec Int 64)×(Vec Int 64))×((Vec Int 64)×(Vec Int 64)))⊕((Vec Int 64)×(Vec Int 64))) :=
 (if (decide (x161 > 0)) then (Option.bind (α:=((Vec Int 64)×(Vec Int 64))) ((if ((Int.tmod x161 2) == 1) then (Option.bind (kX a0 a1 x163 x162) fun r208=>(some r208)) else (some x163))) fun x200=>(Option.bind (kX a0 a1 x162 x162) fun r214=>(some (.inl ((IntKind.i64.wrap (Int.tdiv x161 2),r214,x200)))))) else (some (.inr x163)))
noncomputable def uI (a0:Int) (a1:(Vec Int 64)) (a2:((Vec Int 64)×(Vec Int 64))) (a3:Int):Option (((Vec Int 64)×(Vec Int 64))×Int) :=
 (Option.bind (α:=Bool) ((Option.bind (za7 a0 a1) fun r14=>(if (!r14) then (some true) else (Option.bind (wZ a0 a1 a2) fun r19=>(some (!r19)))))) fun x9=>(if x9 then (some ((((yH 64 (0:Int)),(yH 64 (0:Int))),1))) else (Option.bind (zf8 a3 (-1000000000000) 1000000000000) fun r22=>(if (!r22) then (some ((((yH 64 (0:Int)),(yH 64 (0:Int))),2))) else (Option.bind (kH a0 a1 true ([a2])) fun r27=>(if (r27 != 0) then (some ((((yH 64 (0:Int)),(yH 64 (0:Int))),r27))) else (Option.bind (α:=(Int×((Vec Int 64)×(Vec Int 64)))) ((if (decide (a3 < 0)) then (Option.bind (jF a0 a2.2 a2.1) fun r44=>(some ((IntKind.i64.wrap (0 - a3),(a2.1,r44))))) else (some (a3,a2)))) fun ⟨x36,x37⟩=>(Option.bind (jL) fun r47=>(Option.bind (α:=((Vec Int 64)×(Vec Int 64))) ((yK (fun s:(Int×((Vec Int 64)×(Vec Int 64))×((Vec Int 64)×(Vec Int 64)))=>wJ a0 a1 s.1 s.2.1 s.2.2) (x36,x37,r47))) fun x132=>(some (x132,0)))))))))))
theorem zk2 (a0:Int) (a1:(Vec Int 64)) (a2:((Vec Int 64)×(Vec Int 64))) (a3:Int) (r:(((Vec Int 64)×(Vec Int 64))×Int)) (h:uI a0 a1 a2 a3=some r):Den Tryz.prog 17 [(i6 a0),(zJ a1),(zA a2),(i6 a3)] { r:=(.tuple [(zA r.1),(i6 r.2)]) }:=by
 refine dd (rs:=[(zA r.1),(i6 r.2)]) (L:=zl1) xL [] Tryz.func17 Tryz.ntmps17 ?_
 refine ns ⟨[(0,i6 a0),(1,zJ a1),(2,zA a2),(3,i6 a3)],[]⟩ ?_
 refine sr (vo 1500 (zJ a1) rfl rfl (vo 1600 (zA a2) rfl rfl (vo 1800 xA rfl rfl (vr (i6 0) (nk ⟨[(0,i6 a0),(3,i6 a3),(5,ow 5),(6,ow 6),(8,ow 8)],[(5,bk (zJ a1)),(6,bk (zA a2)),(8,bk xA)]⟩ (yC ?_))))))
 obtain ⟨y10,hy11,hk12⟩:=bind_some h
 clear h
 refine yN (emb:=fun (s:Bool)=>⟨[(0,i6 a0),(3,i6 a3),(5,ow 5),(6,ow 6),(8,ow 8),(22,.bool s)],[(5,bk (zJ a1)),(6,bk (zA a2)),(8,bk xA)]⟩) (kG:=fun s=>s=y10) ?_ ?_
 ·rintro x9 rfl
  have h:=hk12
  refine ns ⟨[(0,i6 a0),(3,i6 a3),(5,ow 5),(6,ow 6),(8,ow 8),(22,.bool x9)],[(5,bk (zJ a1)),(6,bk (zA a2)),(8,bk xA)]⟩ ?_
  cases hb21:x9
  ·have h:=zW hb21 h
   refine zP rfl (yG (nj ⟨[(0,i6 a0),(3,i6 a3),(5,ow 5),(6,ow 6),(8,ow 8)],[(5,bk (zJ a1)),(6,bk (zA a2)),(8,bk xA)]⟩ (yC (sr (vr (i6 a3) ?_)))))
   obtain ⟨r22,hr23,h⟩:=bind_some h
   refine ca (zq9 a3 (-1000000000000) 1000000000000 r22 hr23) (vr (.bool (!r22)) (nk ⟨[(0,i6 a0),(3,i6 a3),(5,ow 5),(6,ow 6),(8,ow 8),(26,.bool (!r22))],[(5,bk (zJ a1)),(6,bk (zA a2)),(8,bk xA)]⟩ ?_))
   cases hb24:(!r22)
   ·have h:=zW hb24 h
    refine zP rfl (yG (nj ⟨[(0,i6 a0),(3,i6 a3),(5,ow 5),(6,ow 6),(8,ow 8)],[(5,bk (zJ a1)),(6,bk (zA a2)),(8,bk xA)]⟩ (yC (sr (vr (i6 a0) (vl (zJ a1) rfl rfl rfl rfl rfl rfl (vl (zA a2) rfl rfl rfl rfl rfl rfl (vq (.sl 128 true (([a2]).map zA)) rfl ⟨(yS rfl),(yS rfl),(all_cons ⟨(yS rfl),rfl⟩ all_nil)⟩ ?_))))))))
    obtain ⟨r27,hr28,h⟩:=bind_some h
    refine zaa (args:=[(i6 a0),(zJ a1),(.bool true),(.sl 128 true (([a2]).map zA))]) (u:=[]) (r:=(i6 r27)) rfl rfl (Den.args (zbp a0 a1 true ([a2]) r27 hr28) rfl rfl (.cons (.refl _) (.cons (.refl _) (.cons (.refl _) (.cons (.loose _) .nil))))) rfl (vr (i6 r27) (nk ⟨[(0,i6 a0),(3,i6 a3),(5,ow 5),(6,ow 6),(8,ow 8),(10,i6 r27)],[(5,bk (zJ a1)),(6,bk (zA a2)),(8,bk xA)]⟩ (sr (vr (i6 r27) (vr (.bool (r27 != 0)) (nk ⟨[(0,i6 a0),(3,i6 a3),(5,ow 5),(6,ow 6),(8,ow 8),(10,i6 r27),(34,.bool (r27 != 0))],[(5,bk (zJ a1)),(6,bk (zA a2)),(8,bk xA)]⟩ ?_))))))
    cases hb29:(r27 != 0)
    ·have h:=zW hb29 h
     refine zP rfl (yG (nj ⟨[(0,i6 a0),(3,i6 a3),(5,ow 5),(6,ow 6),(8,ow 8)],[(5,bk (zJ a1)),(6,bk (zA a2)),(8,bk xA)]⟩ ?_))
     obtain ⟨y38,hy39,hk40⟩:=bind_some h
     clear h
     refine yN (emb:=fun (s:(Int×((Vec Int 64)×(Vec Int 64))))=>⟨[(0,i6 a0),(3,i6 s.1),(5,ow 5),(6,ow 6),(8,ow 8)],[(5,bk (zJ a1)),(6,bk (zA s.2)),(8,bk xA)]⟩) (kG:=fun s=>s=y38) ?_ ?_
     ·rintro ⟨x36,x37⟩ rfl
      have h:=hk40
      refine ns ⟨[(0,i6 a0),(3,i6 x36),(5,ow 5),(6,ow 6),(8,ow 8)],[(5,bk (zJ a1)),(6,bk (zA x37)),(8,bk xA)]⟩ (sr ?_)
      obtain ⟨r47,hr48,h⟩:=bind_some h
      refine ca (zfl r47 hr48) (vo 2100 xA rfl rfl (vs (zA r47) rfl rfl (fun _=>rfl) rfl rfl rfl rfl rfl rfl (nk ⟨[(0,i6 a0),(3,i6 x36),(5,ow 5),(6,ow 6),(8,ow 8),(11,ow 11)],[(5,bk (zJ a1)),(6,bk (zA x37)),(8,bk xA),(11,bk (zA r47))]⟩ ?_)))
      obtain ⟨y133,hy134,hk135⟩:=bind_some h
      clear h
      refine yN (emb:=fun (s:((Vec Int 64)×(Vec Int 64)))=>⟨[(8,ow 8),(11,ow 11)],[(8,bk xA),(11,bk (zA s))]⟩) (kG:=fun s=>s=y133) ?_ ?_
      ·rintro x132 rfl
       have h:=hk135
       refine ns ⟨[(8,ow 8),(11,ow 11)],[(8,bk xA),(11,bk (zA x132))]⟩ (sr (vl (zA x132) rfl rfl rfl rfl rfl rfl (vs (zA x132) rfl rfl (fun _=>rfl) rfl rfl rfl rfl rfl rfl (vr (i6 0) (nx _ rfl (zU ?_))))))
       have hl220:LdOk [] (zA x132) [] 128 true (zA x132):=(.nil rfl rfl rfl)
       refine ⟨.inr rfl,?_⟩
       rw [Tryz.results17]
       cases h
       exact ⟨_,_,_,_,_,zM (i:=⟨.struct [(0,25),(64,25)],128,128,xA⟩) rfl rfl rfl hl220,hl220.c,.inl ⟨rfl,.inl rfl⟩,rfl,⟨_,_,_,_,_,rfl,trivial,.inl ⟨rfl,.inl rfl⟩,rfl,rfl⟩⟩
      ·have h:=hy134
       refine yB ?_
       refine xU (emb:=fun (s:(Int×((Vec Int 64)×(Vec Int 64))×((Vec Int 64)×(Vec Int 64))))=>⟨[(0,i6 a0),(3,i6 s.1),(5,ow 5),(6,ow 6),(8,ow 8),(11,ow 11)],[(5,bk (zJ a1)),(6,bk (zA s.2.1)),(8,bk xA),(11,bk (zA s.2.2))]⟩) (body:=(fun s:(Int×((Vec Int 64)×(Vec Int 64))×((Vec Int 64)×(Vec Int 64)))=>wJ a0 a1 s.1 s.2.1 s.2.2)) (G:=fun q=>some q=some y133) h rfl ?_ (by kernel_rfl)
       rintro X189 ⟨x161,x162,x163⟩ x190 h hX191
       have h:wJ a0 a1 x161 x162 x163=some x190:=h
       refine ns ⟨[(0,i6 a0),(3,i6 x161),(5,ow 5),(6,ow 6),(8,ow 8),(11,ow 11)],[(5,bk (zJ a1)),(6,bk (zA x162)),(8,bk xA),(11,bk (zA x163))]⟩ (yC (sr (vr (i6 x161) (vr (.bool ((decide (x161 > 0)))) (nk ⟨[(0,i6 a0),(3,i6 x161),(5,ow 5),(6,ow 6),(8,ow 8),(11,ow 11),(50,.bool ((decide (x161 > 0))))],[(5,bk (zJ a1)),(6,bk (zA x162)),(8,bk xA),(11,bk (zA x163))]⟩ ?_)))))
       cases hb192:(decide (x161 > 0))
       ·have h:=zW hb192 h
        refine zP rfl (xR (yI ?_))
        cases h
        have h:=hX191
        refine yI (xQ ?_)
        exact jl x163 h
       ·have h:=zV hb192 h
        refine zO rfl (yG (nj ⟨[(0,i6 a0),(3,i6 x161),(5,ow 5),(6,ow 6),(8,ow 8),(11,ow 11)],[(5,bk (zJ a1)),(6,bk (zA x162)),(8,bk xA),(11,bk (zA x163))]⟩ (yC (yB ?_))))
        obtain ⟨y201,hy202,hk203⟩:=bind_some h
        clear h
        refine yN (emb:=fun (s:((Vec Int 64)×(Vec Int 64)))=>⟨[(0,i6 a0),(3,i6 x161),(5,ow 5),(6,ow 6),(8,ow 8),(11,ow 11)],[(5,bk (zJ a1)),(6,bk (zA x162)),(8,bk xA),(11,bk (zA s))]⟩) (kG:=fun s=>s=y201) ?_ ?_
        ·rintro x200 rfl
         have h:=hk203
         refine ns ⟨[(0,i6 a0),(3,i6 x161),(5,ow 5),(6,ow 6),(8,ow 8),(11,ow 11)],[(5,bk (zJ a1)),(6,bk (zA x162)),(8,bk xA),(11,bk (zA x200))]⟩ (zR (vr (i6 a0) (vl (zJ a1) rfl rfl rfl rfl rfl rfl (vl (zA x162) rfl rfl rfl rfl rfl rfl (vl (zA x162) rfl rfl rfl rfl rfl rfl ?_)))))
         obtain ⟨r214,hr215,h⟩:=bind_some h
         refine ca (za6 a0 a1 x162 x162 r214 hr215) (vs (zA r214) rfl rfl (fun _=>rfl) rfl rfl rfl rfl rfl rfl (yJ (xI (nj ⟨[(0,i6 a0),(3,i6 x161),(5,ow 5),(6,ow 6),(8,ow 8),(11,ow 11)],[(5,bk (zJ a1)),(6,bk (zA r214)),(8,bk xA),(11,bk (zA x200))]⟩ (zR (vr (i6 x161) (vq (i6 (IntKind.i64.wrap (Int.tdiv x161 2))) rfl (by decide) (vr (i6 (IntKind.i64.wrap (Int.tdiv x161 2))) (yJ ?_)))))))))
         cases h
         exact ag hX191
        ·have h:=hy202
         refine sr (vr (i6 x161) (vq (i6 (Int.tmod x161 2)) rfl (by decide) (vr (.bool (((Int.tmod x161 2) == 1))) (nk ⟨[(0,i6 a0),(3,i6 x161),(5,ow 5),(6,ow 6),(8,ow 8),(11,ow 11),(55,.bool (((Int.tmod x161 2) == 1)))],[(5,bk (zJ a1)),(6,bk (zA x162)),(8,bk xA),(11,bk (zA x163))]⟩ ?_))))
         cases hb204:((Int.tmod x161 2) == 1)
         ·have h:=zW hb204 h
          refine zP rfl (yG ?_)
          exact jl x163 h
         ·have h:=zV hb204 h
          refine zO rfl (zR (vr (i6 a0) (vl (zJ a1) rfl rfl rfl rfl rfl rfl (vl (zA x163) rfl rfl rfl rfl rfl rfl (vl (zA x162) rfl rfl rfl rfl rfl rfl ?_)))))
          obtain ⟨r208,hr209,h⟩:=bind_some h
          refine ca (za6 a0 a1 x163 x162 r208 hr209) (vs (zA r208) rfl rfl (fun _=>rfl) rfl rfl rfl rfl rfl rfl (yJ ?_))
          exact jl r208 h
     ·have h:=hy39
      refine sr (vr (i6 a3) (vr (.bool ((decide (a3 < 0)))) (nk ⟨[(0,i6 a0),(3,i6 a3),(5,ow 5),(6,ow 6),(8,ow 8),(38,.bool ((decide (a3 < 0))))],[(5,bk (zJ a1)),(6,bk (zA a2)),(8,bk xA)]⟩ ?_)))
      cases hb41:(decide (a3 < 0))
      ·have h:=zW hb41 h
       refine zP rfl (yG ?_)
       exact jl (a3,a2) h
      ·have h:=zV hb41 h
       refine zO rfl (sr (vr (i6 a0) (vb (.own 6 [1] [64]) rfl rfl ?_)))
       have hl42:LdOk [1] (zA a2) [64] 64 true (zJ a2.2):=(.fld rfl rfl rfl rfl (.nil rfl rfl rfl))
       refine vq (zJ a2.2) (zM (i:=⟨.arr 64 5,64,64,(zJ (yH 64 (0:Int)))⟩) rfl rfl rfl hl42) hl42.c (vb (.own 6 [0] [0]) rfl rfl ?_)
       have hl43:LdOk [0] (zA a2) [0] 64 true (zJ a2.1):=(.fld rfl rfl rfl rfl (.nil rfl rfl rfl))
       refine vq (zJ a2.1) (zM (i:=⟨.arr 64 5,64,64,(zJ (yH 64 (0:Int)))⟩) rfl rfl rfl hl43) hl43.c ?_
       obtain ⟨r44,hr45,h⟩:=bind_some h
       refine ca (zc5 a0 a2.2 a2.1 r44 hr45) (vb (.own 6 [1] [64]) rfl rfl ?_)
       have hs46:StOk [1] (zA a2) [64] 64 (zJ r44) (zA (a2.1,r44)):=(.fld rfl rfl rfl rfl (.nil rfl rfl rfl rfl))
       refine vu .top [(6,bk (zA (a2.1,r44)))] (qG (i:=⟨.arr 64 5,64,64,(zJ (yH 64 (0:Int)))⟩) rfl rfl (fun _=>rfl) rfl hs46) (hs46.c rfl) rfl (nk ⟨[(0,i6 a0),(3,i6 a3),(5,ow 5),(6,ow 6),(8,ow 8)],[(5,bk (zJ a1)),(6,bk (zA (a2.1,r44))),(8,bk xA)]⟩ (zR (vr (i6 a3) (vr (i6 (IntKind.i64.wrap (0 - a3))) (vr (i6 (IntKind.i64.wrap (0 - a3))) (yJ ?_))))))
       exact jl ((IntKind.i64.wrap (0 - a3),(a2.1,r44))) h
    ·have h:=zV hb29 h
     refine zO rfl (sr (vq xA rfl ⟨rfl,all_nil⟩ (vr (i6 r27) (vs xA rfl rfl (fun _=>rfl) rfl rfl rfl rfl rfl rfl (vr (i6 r27) (nx _ rfl (zU (xV ?_))))))))
     have hl222:LdOk [] xA [] 128 true xA:=(.nil rfl rfl rfl)
     refine ⟨.inr rfl,?_⟩
     rw [Tryz.results17]
     cases h
     exact ⟨_,_,_,_,_,zM (i:=⟨.struct [(0,25),(64,25)],128,128,xA⟩) rfl rfl rfl hl222,hl222.c,.inl ⟨rfl,.inl rfl⟩,rfl,⟨_,_,_,_,_,rfl,trivial,.inl ⟨rfl,.inl rfl⟩,rfl,rfl⟩⟩
   ·have h:=zV hb24 h
    refine zO rfl (sr (vq xA rfl ⟨rfl,all_nil⟩ (vs xA rfl rfl (fun _=>rfl) rfl rfl rfl rfl rfl rfl (vr (i6 2) (nx _ rfl (zU (xV ?_)))))))
    have hl224:LdOk [] xA [] 128 true xA:=(.nil rfl rfl rfl)
    refine ⟨.inr rfl,?_⟩
    rw [Tryz.results17]
    cases h
    exact ⟨_,_,_,_,_,zM (i:=⟨.struct [(0,25),(64,25)],128,128,xA⟩) rfl rfl rfl hl224,hl224.c,.inl ⟨rfl,.inl rfl⟩,rfl,⟨_,_,_,_,_,rfl,trivial,.inl ⟨rfl,.inl rfl⟩,rfl,rfl⟩⟩
  ·have h:=zV hb21 h
   refine zO rfl (sr (vq xA rfl ⟨rfl,all_nil⟩ (vs xA rfl rfl (fun _=>rfl) rfl rfl rfl rfl rfl rfl (vr (i6 1) (nx _ rfl (zU (xV ?_)))))))
   have hl226:LdOk [] xA [] 128 true xA:=(.nil rfl rfl rfl)
   refine ⟨.inr rfl,?_⟩
   rw [Tryz.results17]
   cases h
   exact ⟨_,_,_,_,_,zM (i:=⟨.struct [(0,25),(64,25)],128,128,xA⟩) rfl rfl rfl hl226,hl226.c,.inl ⟨rfl,.inl rfl⟩,rfl,⟨_,_,_,_,_,rfl,trivial,.inl ⟨rfl,.inl rfl⟩,rfl,rfl⟩⟩
 ·have h:=hy11
  refine zR (vr (i6 a0) (vl (zJ a1) rfl rfl rfl rfl rfl rfl ?_))
  obtain ⟨r14,hr15,h⟩:=bind_some h
  refine ca (zbs a0 a1 r14 hr15) (vr (.bool (!r14)) (vr (.bool (!r14)) ?_))
  cases hb16:(!r14)
  ·have h:=zW hb16 h
   refine gp (i6 a0) rfl rfl ?_
   have hl17:LdOk [] (zJ a1) [] 64 true (zJ a1):=(.nil rfl rfl rfl)
   refine gq (zJ a1) rfl (zM (i:=⟨.arr 64 5,64,64,(zJ (yH 64 (0:Int)))⟩) rfl rfl rfl hl17) hl17.c ?_
   have hl18:LdOk [] (zA a2) [] 128 true (zA a2):=(.nil rfl rfl rfl)
   refine gq (zA a2) rfl (zM (i:=⟨.struct [(0,25),(64,25)],128,128,xA⟩) rfl rfl rfl hl18) hl18.c ?_
   obtain ⟨r19,hr20,h⟩:=bind_some h
   refine wQ rfl (args:=[(i6 a0),(zJ a1),(zA a2)]) (u:=[]) (r:=(.bool r19)) rfl rfl (zdi a0 a1 a2 r19 hr20) rfl (gp (.bool (!r19)) rfl rfl (vr (.bool (!r19)) (yJ ?_)))
   exact jl (!r19) h
  ·have h:=zV hb16 h
   refine zD rfl (zD rfl (zD rfl (zD rfl (zD rfl (vr (.bool true) (yJ ?_))))))
   exact jl true h
def zi8:Live:=[(0,[0]),(1,[0,3,4]),(2,[3,4,5]),(3,[3,4,5,6,7])]
noncomputable def mS (a0:(List Int)):Option (Int×(Vec Int 64)×((Vec Int 64)×(Vec Int 64))) :=
 (Option.bind (jO a0) fun r1=>(Option.bind (wS r1) fun r3=>(Option.bind (zS r3.2.2 12) fun r19=>(Option.bind (xW r19.2 r3.1 r3.2.1 ((decide (r19.1 > 0)))) fun r22=>(some (r3.1,r3.2.1,r22.1))))))
theorem zh6 (a0:(List Int)) (r:(Int×(Vec Int 64)×((Vec Int 64)×(Vec Int 64)))) (h:mS a0=some r):Den Tryz.prog 18 [(xJ a0)] { r:=(.tuple [(i6 r.1),(zJ r.2.1),(zA r.2.2)]) }:=by
 refine dd (rs:=[(i6 r.1),(zJ r.2.1),(zA r.2.2)]) (L:=zi8) xL [(12,1),(21,1),(23,1)] Tryz.func18 Tryz.ntmps18 ?_
 refine ns ⟨[(0,xJ a0)],[]⟩ ?_
 refine sr (vr (i6 0) (vo 1300 (yF) rfl rfl (vo 1400 xA rfl rfl (nk ⟨[(0,xJ a0),(3,ow 3),(4,ow 4)],[(3,bk (yF)),(4,bk xA)]⟩ (sr (vr (xJ a0) ?_))))))
 obtain ⟨r1,hr2,h⟩:=bind_some h
 refine zg4 (args:=[(xJ a0)]) (u:=[]) (u2:=[]) (r:=(ow 2000000)) (fs:=[(0,[zB r1])]) rfl rfl (nE a0 r1 hr2) rfl rfl rfl (.inl rfl) rfl (vr (ow 1900) (nk ⟨[(3,ow 3),(4,ow 4),(5,ow 5)],[(3,bk (yF)),(4,bk xA),(5,bk (zB r1))]⟩ (sr (vr (ow 5) ?_))))
 obtain ⟨r3,hr4,h⟩:=bind_some h
 refine xD (args:=[(.mutp (zB r1))]) (i:=0) (id:=5) (r:=(.tuple [(i6 r3.1),(zJ r3.2.1)])) (c:=(zB r3.2.2)) rfl rfl (vY r1 r3 hr4) rfl trivial (vr (.tuple [(i6 r3.1),(zJ r3.2.1)]) (vb (i6 r3.1) rfl rfl (vb (zJ r3.2.1) rfl rfl (vo 1700 (yF) rfl rfl (vr (i6 r3.1) (vs (zJ r3.2.1) rfl rfl (fun _=>rfl) rfl rfl rfl rfl rfl rfl (nk ⟨[(3,ow 3),(4,ow 4),(5,ow 5),(6,i6 r3.1),(7,ow 7)],[(3,bk (yF)),(4,bk xA),(5,bk (zB r3.2.2)),(7,bk (zJ r3.2.1))]⟩ (yC (xH [⟨[],[],[],[]⟩,⟨[7],[],[],[]⟩,⟨[],[],[5],[]⟩,⟨[],[],[],[]⟩,⟨[7],[],[],[]⟩,⟨[],[],[5],[]⟩,⟨[5],[5],[],[5]⟩,⟨[],[],[],[5,6]⟩,⟨[5],[5],[],[2,3,4,5,6,7]⟩,⟨[],[],[],[0,2,3,4,5,6,7,8]⟩,⟨[3],[3],[],[0,1,2,3,4,5,6,7,8,9]⟩,⟨[4],[4],[],[0,1,2,3,4,5,6,7,8,9,10]⟩] (by kernel_rfl) ?_)))))))))
 refine dj (i6 r3.1) rfl (zH (vl (zJ r3.2.1) rfl rfl rfl rfl rfl rfl (dn (dj (ow 5) rfl (dj (i6 r3.1) rfl (zH (vl (zJ r3.2.1) rfl rfl rfl rfl rfl rfl (dn (dj (ow 5) rfl ?_)))))))))
 refine zH ?_
 obtain ⟨r19,hr20,h⟩:=bind_some h
 refine xD (args:=[(.mutp (zB r3.2.2)),(i6 12)]) (i:=0) (id:=5) (r:=(i6 r19.1)) (c:=(zB r19.2)) rfl rfl (yA r3.2.2 12 r19 hr20) rfl trivial (dn (dj (.bool ((decide (r19.1 > 0)))) rfl (zH ?_)))
 obtain ⟨r22,hr23,h⟩:=bind_some h
 refine xD (args:=[(.mutp (zB r19.2)),(i6 r3.1),(zJ r3.2.1),(.bool ((decide (r19.1 > 0))))]) (i:=0) (id:=5) (r:=(zA r22.1)) (c:=(zB r22.2)) rfl rfl (wM r19.2 r3.1 r3.2.1 ((decide (r19.1 > 0))) r22 hr23) rfl trivial (dn (dj (i6 r3.1) rfl (zH (vs (zJ r3.2.1) rfl rfl (fun _=>rfl) rfl rfl rfl rfl rfl rfl (dn (zH (vs (zA r22.1) rfl rfl (fun _=>rfl) rfl rfl rfl rfl rfl rfl (dn (xE ?_)))))))))
 refine wC rfl (zU ?_)
 have hl27:LdOk [] (zJ r3.2.1) [] 64 true (zJ r3.2.1):=(.nil rfl rfl rfl)
 have hl28:LdOk [] (zA r22.1) [] 128 true (zA r22.1):=(.nil rfl rfl rfl)
 refine ⟨.inr rfl,?_⟩
 rw [Tryz.results18]
 cases h
 exact ⟨_,_,_,_,_,rfl,trivial,.inl ⟨rfl,.inl rfl⟩,rfl,⟨_,_,_,_,_,zM (i:=⟨.arr 64 5,64,64,(zJ (yH 64 (0:Int)))⟩) rfl rfl rfl hl27,hl27.c,.inl ⟨rfl,.inl rfl⟩,rfl,⟨_,_,_,_,_,zM (i:=⟨.struct [(0,25),(64,25)],128,128,xA⟩) rfl rfl rfl hl28,hl28.c,.inl ⟨rfl,.inl rfl⟩,rfl,rfl⟩⟩⟩
def zoy:Live:=[(0,[0,1,2]),(1,[0,4,5]),(2,[0,4,5,7,8]),(3,[0,4,5,7,8]),(4,[0,4,5,7,8]),(5,[8]),(100012,[0,4,5,7,8,12])]
noncomputable def jE (a0:Int) (a1:(Vec Int 64)) (a2:((Vec Int 64)×(Vec Int 64))) (x65:Int) (x66:((Vec Int 64)×(Vec Int 64))):Option ((Int×((Vec Int 64)×(Vec Int 64)))⊕Int) :=
 (Option.bind (jL) fun r87=>(if (!decide (x66=r87)) then (Option.bind (kX a0 a1 x66 a2) fun r93=>(some (.inl ((IntKind.i64.wrap (x65 + 1),r93))))) else (some (.inr x65))))
noncomputable def zfa (a0:Int) (a1:(Vec Int 64)) (a2:((Vec Int 64)×(Vec Int 64))):Option Int :=
 (Option.bind (α:=Int) ((yK (fun s:(Int×((Vec Int 64)×(Vec Int 64)))=>jE a0 a1 a2 s.1 s.2) (1,a2))) fun x48=>(some x48))
theorem znl (a0:Int) (a1:(Vec Int 64)) (a2:((Vec Int 64)×(Vec Int 64))) (r:Int) (h:zfa a0 a1 a2=some r):Den Tryz.prog 53 [(i6 a0),(zJ a1),(zA a2)] { r:=(i6 r) }:=by
 refine dd (rs:=[(i6 r)]) (L:=zoy) xL [] Tryz.func53 Tryz.ntmps53 ?_
 refine ns ⟨[(0,i6 a0),(1,zJ a1),(2,zA a2)],[]⟩ ?_
 refine sr (vo 1400 (zJ a1) rfl rfl (vo 1500 (zA a2) rfl rfl (vr (i6 0) (nk ⟨[(0,i6 a0),(4,ow 4),(5,ow 5)],[(4,bk (zJ a1)),(5,bk (zA a2))]⟩ (sr (vl (zA a2) rfl rfl rfl rfl rfl rfl (vo 1700 xA rfl rfl (vs (zA a2) rfl rfl (fun _=>rfl) rfl rfl rfl rfl rfl rfl (vr (i6 1) ?_)))))))))
 refine nk ⟨[(0,i6 a0),(4,ow 4),(5,ow 5),(7,ow 7),(8,i6 1)],[(4,bk (zJ a1)),(5,bk (zA a2)),(7,bk (zA a2))]⟩ ?_
 obtain ⟨y49,hy50,hk51⟩:=bind_some h
 clear h
 refine yN (emb:=fun (s:Int)=>⟨[(8,i6 s)],[]⟩) (kG:=fun s=>s=y49) ?_ ?_
 ·rintro x48 rfl
  have h:=hk51
  refine ns ⟨[(8,i6 x48)],[]⟩ (sr (vr (i6 x48) (vr (i6 x48) (nx _ rfl (zU ?_)))))
  refine ⟨.inr rfl,?_⟩
  rw [Tryz.results53]
  cases h
  exact ⟨_,_,_,_,_,rfl,trivial,.inl ⟨rfl,.inl rfl⟩,rfl,rfl⟩
 ·have h:=hy50
  refine yB ?_
  refine xU (emb:=fun (s:(Int×((Vec Int 64)×(Vec Int 64))))=>⟨[(0,i6 a0),(4,ow 4),(5,ow 5),(7,ow 7),(8,i6 s.1)],[(4,bk (zJ a1)),(5,bk (zA a2)),(7,bk (zA s.2))]⟩) (body:=(fun s:(Int×((Vec Int 64)×(Vec Int 64)))=>jE a0 a1 a2 s.1 s.2)) (G:=fun q=>some q=some y49) h rfl ?_ (by kernel_rfl)
  rintro X80 ⟨x65,x66⟩ x81 h hX82
  have h:jE a0 a1 a2 x65 x66=some x81:=h
  refine ns ⟨[(0,i6 a0),(4,ow 4),(5,ow 5),(7,ow 7),(8,i6 x65)],[(4,bk (zJ a1)),(5,bk (zA a2)),(7,bk (zA x66))]⟩ (yC (yC (xH [⟨[7],[],[],[]⟩,⟨[],[],[],[]⟩,⟨[],[],[],[0,1]⟩] (by kernel_rfl) (zH (vl (zA x66) rfl rfl rfl rfl rfl rfl (dn (zH ?_)))))))
  obtain ⟨r87,hr88,h⟩:=bind_some h
  refine ca (zfl r87 hr88) (dn (zH (vq (.bool ((!decide (x66=r87)))) (zkn rfl rfl (zct (f:=zJ) (a:=x66) (b:=r87) (fun a b=>mD (f:=(AV.int .u8)) (fun _ _=>mA _ _) a b) (zd5 (f:=zJ) (fun a b=>mD (f:=(AV.int .u8)) (fun _ _=>mA _ _) a b) x66.2 r87.2))) (za4 (g:=8) rfl rfl rfl rfl (by kernel_rfl) ⟨(mB (g:=7) (f:=(AV.int .u8)) (x:=x66.1) (y:=r87.1) rfl rfl rfl (fun _ _=>rfl) (fun _ _=>(mE rfl))),⟨(mB (g:=7) (f:=(AV.int .u8)) (x:=x66.2) (y:=r87.2) rfl rfl rfl (fun _ _=>rfl) (fun _ _=>(mE rfl))),trivial⟩⟩) (dn (xE (nj ⟨[(0,i6 a0),(4,ow 4),(5,ow 5),(7,ow 7),(8,i6 x65),(12,.bool ((!decide (x66=r87))))],[(4,bk (zJ a1)),(5,bk (zA a2)),(7,bk (zA x66))]⟩ ?_))))))
  cases hb89:(!decide (x66=r87))
  ·have h:=zW hb89 h
   refine zP rfl (xR (yI ?_))
   cases h
   have h:=hX82
   refine yI (xQ ?_)
   exact jl x65 h
  ·have h:=zV hb89 h
   refine zO rfl (yG (nj ⟨[(0,i6 a0),(4,ow 4),(5,ow 5),(7,ow 7),(8,i6 x65)],[(4,bk (zJ a1)),(5,bk (zA a2)),(7,bk (zA x66))]⟩ (yB (sr (vr (i6 a0) (vl (zJ a1) rfl rfl rfl rfl rfl rfl (vl (zA x66) rfl rfl rfl rfl rfl rfl (vl (zA a2) rfl rfl rfl rfl rfl rfl ?_))))))))
   obtain ⟨r93,hr94,h⟩:=bind_some h
   refine ca (za6 a0 a1 x66 a2 r93 hr94) (vs (zA r93) rfl rfl (fun _=>rfl) rfl rfl rfl rfl rfl rfl (nk ⟨[(0,i6 a0),(4,ow 4),(5,ow 5),(7,ow 7),(8,i6 x65)],[(4,bk (zJ a1)),(5,bk (zA a2)),(7,bk (zA r93))]⟩ (zR (vr (i6 x65) (vr (i6 (IntKind.i64.wrap (x65 + 1))) (vr (i6 (IntKind.i64.wrap (x65 + 1))) (yJ (xI ?_))))))))
   cases h
   exact ag hX82
def zls:Live:=[(0,[0,1,2]),(1,[0,4,5]),(2,[0,4,5,8]),(3,[8]),(4,[0,4,5]),(100015,[0,4,5,8,15])]
noncomputable def nQ (a0:Int) (a1:(Vec Int 64)) (a2:((Vec Int 64)×(Vec Int 64))):Option (Int×Int) :=
 (Option.bind (kH a0 a1 true ([a2])) fun r3=>(if (r3 != 0) then (some (0,r3)) else (Option.bind (zfa a0 a1 a2) fun r8=>(some (r8,0)))))
theorem zk0 (a0:Int) (a1:(Vec Int 64)) (a2:((Vec Int 64)×(Vec Int 64))) (r:(Int×Int)) (h:nQ a0 a1 a2=some r):Den Tryz.prog 19 [(i6 a0),(zJ a1),(zA a2)] { r:=(.tuple [(i6 r.1),(i6 r.2)]) }:=by
 refine dd (rs:=[(i6 r.1),(i6 r.2)]) (L:=zls) xL [] Tryz.func19 Tryz.ntmps19 ?_
 refine ns ⟨[(0,i6 a0),(1,zJ a1),(2,zA a2)],[]⟩ ?_
 refine sr (vo 1400 (zJ a1) rfl rfl (vo 1500 (zA a2) rfl rfl (vr (i6 0) (vr (i6 0) (nk ⟨[(0,i6 a0),(4,ow 4),(5,ow 5)],[(4,bk (zJ a1)),(5,bk (zA a2))]⟩ (yC (sr (vr (i6 a0) (vl (zJ a1) rfl rfl rfl rfl rfl rfl ?_)))))))))
 refine vl (zA a2) rfl rfl rfl rfl rfl rfl (vq (.sl 128 true (([a2]).map zA)) rfl ⟨(yS rfl),(yS rfl),(all_cons ⟨(yS rfl),rfl⟩ all_nil)⟩ ?_)
 obtain ⟨r3,hr4,h⟩:=bind_some h
 refine zaa (args:=[(i6 a0),(zJ a1),(.bool true),(.sl 128 true (([a2]).map zA))]) (u:=[]) (r:=(i6 r3)) rfl rfl (Den.args (zbp a0 a1 true ([a2]) r3 hr4) rfl rfl (.cons (.refl _) (.cons (.refl _) (.cons (.refl _) (.cons (.loose _) .nil))))) rfl (vr (i6 r3) (nk ⟨[(0,i6 a0),(4,ow 4),(5,ow 5),(8,i6 r3)],[(4,bk (zJ a1)),(5,bk (zA a2))]⟩ (sr (vr (i6 r3) (vr (.bool (r3 != 0)) (nk ⟨[(0,i6 a0),(4,ow 4),(5,ow 5),(8,i6 r3),(15,.bool (r3 != 0))],[(4,bk (zJ a1)),(5,bk (zA a2))]⟩ ?_))))))
 cases hb5:(r3 != 0)
 ·have h:=zW hb5 h
  refine zP rfl (yG (nj ⟨[(0,i6 a0),(4,ow 4),(5,ow 5)],[(4,bk (zJ a1)),(5,bk (zA a2))]⟩ (sr (vr (i6 a0) (vl (zJ a1) rfl rfl rfl rfl rfl rfl (vl (zA a2) rfl rfl rfl rfl rfl rfl ?_))))))
  obtain ⟨r8,hr9,h⟩:=bind_some h
  refine ca (znl a0 a1 a2 r8 hr9) (vr (i6 r8) (vr (i6 0) (nx _ rfl (zU ?_))))
  refine ⟨.inr rfl,?_⟩
  rw [Tryz.results19]
  cases h
  exact ⟨_,_,_,_,_,rfl,trivial,.inl ⟨rfl,.inl rfl⟩,rfl,⟨_,_,_,_,_,rfl,trivial,.inl ⟨rfl,.inl rfl⟩,rfl,rfl⟩⟩
 ·have h:=zV hb5 h
  refine zO rfl (sr (vr (i6 r3) (vr (i6 0) (vr (i6 r3) (nx _ rfl (zU (xV ?_)))))))
  refine ⟨.inr rfl,?_⟩
  rw [Tryz.results19]
  cases h
  exact ⟨_,_,_,_,_,rfl,trivial,.inl ⟨rfl,.inl rfl⟩,rfl,⟨_,_,_,_,_,rfl,trivial,.inl ⟨rfl,.inl rfl⟩,rfl,rfl⟩⟩
end Go.Proofs.YtebfhlnfmkhmcaaGreat
