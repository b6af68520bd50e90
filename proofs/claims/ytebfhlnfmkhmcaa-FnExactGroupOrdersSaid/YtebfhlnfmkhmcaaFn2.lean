/- Functions of the program: plain Lean functions, and that the program computes them. Printed by gen.py. -/
import Derived.Test.YtebfhlnfmkhmcaaFnT
import Derived.Test.YtebfhlnfmkhmcaaFn1
namespace Go.Proofs.Ytebfhlnfmkhmcaa
open Go.Abs Go.Proofs
set_option linter.unusedSimpArgs false
set_option linter.unusedVariables false
set_option maxHeartbeats 16000000
attribute [local irreducible] Abs.acode Abs.aops Abs.aopsT Abs.thenK Abs.blockK

def spec_l01Add_L:Live:=[(0,[0,1,2,3]),(1,[0,3,5,6,8]),(2,[0,3,5,6,8,9]),(3,[0,3,5,6,8,9]),(4,[0,3,5,6,8,9]),(5,[5,8]),(100011,[0,3,5,6,8,9,11])]
noncomputable def spec_l01Add_l1 (a3:Int) (a2:(Vec Int 64)) (a0:Int) (x127:Int) (x128:(Vec Int 64)):Option ((Int×(Vec Int 64))⊕(Vec Int 64)) :=
 (if (decide (x127 < 64)) then (ifp (0≤x127∧x127 < ((64:Nat):Int)) ((ifp (0≤x127∧x127 < ((64:Nat):Int)) ((letp (IntKind.i64.wrap (a3*(IntKind.i64.wrap (rd a2.1 x127.toNat)))) fun x180=>(letp (IntKind.i64.wrap ((IntKind.i64.wrap (rd x128.1 x127.toNat)) + x180)) fun x182=>(ifp (a0 ≠ 0) ((ifp (a0 ≠ 0) ((letp (IntKind.u8.wrap (Int.tmod (IntKind.i64.wrap ((Int.tmod x182 a0) + a0)) a0)) fun x186=>(ifp (0≤x127∧x127 < ((64:Nat):Int)) ((some (.inl ((IntKind.i64.wrap (x127 + 1),(vset x128 x127.toNat x186)))))))))))))))))) else (some (.inr x128)))
noncomputable def spec_l01Add (a0:Int) (a1:(Vec Int 64)) (a2:(Vec Int 64)) (a3:Int):Option (Vec Int 64) :=
 (Option.bind (α:=(Vec Int 64)) ((loopM (fun s:(Int×(Vec Int 64))=>spec_l01Add_l1 a3 a2 a0 s.1 s.2) (0,a1))) fun x94=>(some x94))
theorem spec_l01Add_ok (a0:Int) (a1:(Vec Int 64)) (a2:(Vec Int 64)) (a3:Int) (r:(Vec Int 64)) (h:spec_l01Add a0 a1 a2 a3=some r):Den Try.prog 73 [(i6 a0),(eVb a1),(eVb a2),(i6 a3)] { r:=(eVb r) }:=by
 refine dd (rs:=[(eVb r)]) (L:=spec_l01Add_L) good [] Try.func73 Try.ntmps73 ?_
 refine ns ⟨[(0,i6 a0),(1,eVb a1),(2,eVb a2),(3,i6 a3)],[]⟩ ?_
 refine sr (vo 1500 (eVb a1) rfl rfl (vo 1600 (eVb a2) rfl rfl (vo 1800 (eV0) rfl rfl (nk ⟨[(0,i6 a0),(3,i6 a3),(5,ow 5),(6,ow 6),(8,ow 8)],[(5,bk (eVb a1)),(6,bk (eVb a2)),(8,bk (eV0))]⟩ ?_))))
 obtain ⟨y95,hy96,hk97⟩:=bind_some h
 clear h
 refine a_join (emb:=fun (s:(Vec Int 64))=>⟨[(5,ow 5),(8,ow 8)],[(5,bk (eVb s)),(8,bk (eV0))]⟩) (pre:=fun s=>s=y95) ?_ ?_
 ·rintro x94 rfl
  have h:=hk97
  refine ns ⟨[(5,ow 5),(8,ow 8)],[(5,bk (eVb x94)),(8,bk (eV0))]⟩ (sr (vl (eVb x94) rfl rfl rfl rfl rfl rfl (vs (eVb x94) rfl rfl (fun _=>rfl) rfl rfl rfl rfl rfl rfl (nx _ rfl (a_ret ?_)))))
  have hl193:LdOk [] (eVb x94) [] 64 true (eVb x94):=(.nil rfl rfl rfl)
  refine ⟨.inr rfl,?_⟩
  rw [Try.results73]
  cases h
  exact ⟨_,_,_,_,_,ld_own (i:=⟨.arr 64 5,64,64,(eVb (vrep 64 (0:Int)))⟩) rfl rfl rfl hl193,hl193.c,.inl ⟨rfl,.inl rfl⟩,rfl,rfl⟩
 ·have h:=hy96
  refine sr (vr (i6 0) (nk ⟨[(0,i6 a0),(3,i6 a3),(5,ow 5),(6,ow 6),(8,ow 8),(9,i6 0)],[(5,bk (eVb a1)),(6,bk (eVb a2)),(8,bk (eV0))]⟩ (a_block ?_)))
  refine a_loop (emb:=fun (s:(Int×(Vec Int 64)))=>⟨[(0,i6 a0),(3,i6 a3),(5,ow 5),(6,ow 6),(8,ow 8),(9,i6 s.1)],[(5,bk (eVb s.2)),(6,bk (eVb a2)),(8,bk (eV0))]⟩) (body:=(fun s:(Int×(Vec Int 64))=>spec_l01Add_l1 a3 a2 a0 s.1 s.2)) (G:=fun q=>some q=some y95) h rfl ?_ (by kernel_rfl)
  rintro X158 ⟨x127,x128⟩ x159 h hX160
  have h:spec_l01Add_l1 a3 a2 a0 x127 x128=some x159:=h
  refine ns ⟨[(0,i6 a0),(3,i6 a3),(5,ow 5),(6,ow 6),(8,ow 8),(9,i6 x127)],[(5,bk (eVb x128)),(6,bk (eVb a2)),(8,bk (eV0))]⟩ (a_seq (sr (vr (i6 x127) (vr (.bool ((decide (x127 < 64)))) (nk ⟨[(0,i6 a0),(3,i6 a3),(5,ow 5),(6,ow 6),(8,ow 8),(9,i6 x127),(11,.bool ((decide (x127 < 64))))],[(5,bk (eVb x128)),(6,bk (eVb a2)),(8,bk (eV0))]⟩ ?_)))))
  cases hb161:(decide (x127 < 64))
  ·have h:=ite_f hb161 h
   refine a_cond_f rfl (a_exit (t_exit ?_))
   cases h
   have h:=hX160
   refine t_exit (b_exit ?_)
   exact jl x128 h
  ·have h:=ite_t hb161 h
   refine a_cond_t rfl (a_skip (nj ⟨[(0,i6 a0),(3,i6 a3),(5,ow 5),(6,ow 6),(8,ow 8),(9,i6 x127)],[(5,bk (eVb x128)),(6,bk (eVb a2)),(8,bk (eV0))]⟩ (a_seq (a_block (a_draw [⟨[],[],[],[]⟩,⟨[],[],[],[]⟩,⟨[5],[],[5],[1]⟩,⟨[5],[],[],[1,2]⟩,⟨[],[],[],[1,2,3]⟩,⟨[],[],[],[]⟩,⟨[],[],[],[]⟩,⟨[6],[],[6],[6]⟩,⟨[6],[],[],[6,7]⟩,⟨[],[],[],[6,7,8]⟩,⟨[],[],[],[5,6,7,8,9]⟩,⟨[],[],[],[1,2,3,4,5,6,7,8,9,10]⟩,⟨[],[],[],[]⟩,⟨[],[],[],[1,2,3,4,5,6,7,8,9,10,11,12]⟩,⟨[],[],[],[]⟩,⟨[],[],[],[1,2,3,4,5,6,7,8,9,10,11,12,13,14]⟩,⟨[],[],[],[]⟩,⟨[],[],[],[1,2,3,4,5,6,7,8,9,10,11,12,13,14,15,16]⟩,⟨[],[],[],[1,2,3,4,5,6,7,8,9,10,11,12,13,14,15,16,17]⟩,⟨[5],[],[5],[0,1,2,3,4,5,6,7,8,9,10,11,12,13,14,15,16,17,18]⟩,⟨[5],[5],[],[0,1,2,3,4,5,6,7,8,9,10,11,12,13,14,15,16,17,18,19]⟩] (by kernel_rfl) (dj (i6 x127) rfl (dj (i6 x127) rfl (d_cons ?_))))))))
   obtain ⟨hc176,h⟩:=ifp_some h
   refine vq (.own 5 [x127.toNat] [x127.toNat*1]) rfl hc176 (dn (d_cons ?_))
   have hl177:LdOk [x127.toNat] (eVb x128) [x127.toNat*1] 1 false (b8 (rd x128.1 x127.toNat)):=(.arr (vlt x128 hc176) rfl (.nil rfl rfl rfl))
   refine vq (b8 (rd x128.1 x127.toNat)) (ld_own (i:=⟨.int .u8,1,1,(.int .u8 0)⟩) rfl rfl rfl hl177) hl177.c (dn (dj (i6 (IntKind.i64.wrap (rd x128.1 x127.toNat))) rfl (dj (i6 a3) rfl (dj (i6 x127) rfl (d_cons ?_)))))
   obtain ⟨hc178,h⟩:=ifp_some h
   refine vq (.own 6 [x127.toNat] [x127.toNat*1]) rfl hc178 (dn (d_cons ?_))
   have hl179:LdOk [x127.toNat] (eVb a2) [x127.toNat*1] 1 false (b8 (rd a2.1 x127.toNat)):=(.arr (vlt a2 hc178) rfl (.nil rfl rfl rfl))
   refine vq (b8 (rd a2.1 x127.toNat)) (ld_own (i:=⟨.int .u8,1,1,(.int .u8 0)⟩) rfl rfl rfl hl179) hl179.c (dn (dj (i6 (IntKind.i64.wrap (rd a2.1 x127.toNat))) rfl (d_cons ?_)))
   obtain ⟨x180,hx181,h⟩:=letp_some h
   refine a_val' (v:=(i6 (IntKind.i64.wrap (a3*(IntKind.i64.wrap (rd a2.1 x127.toNat)))))) (v':=(i6 x180)) (u:=[]) (u':=[]) rfl (congrArg (fun z=>((i6 z):AV)) hx181) rfl trivial rfl (dn (d_cons ?_))
   obtain ⟨x182,hx183,h⟩:=letp_some h
   refine a_val' (v:=(i6 (IntKind.i64.wrap ((IntKind.i64.wrap (rd x128.1 x127.toNat)) + x180)))) (v':=(i6 x182)) (u:=[]) (u':=[]) rfl (congrArg (fun z=>((i6 z):AV)) hx183) rfl trivial rfl (dn (dj (i6 a0) rfl (d_cons ?_)))
   obtain ⟨hc184,h⟩:=ifp_some h
   refine vq (i6 (Int.tmod x182 a0)) rfl hc184 (dn (dj (i6 a0) rfl (dj (i6 (IntKind.i64.wrap ((Int.tmod x182 a0) + a0))) rfl (dj (i6 a0) rfl (d_cons ?_)))))
   obtain ⟨hc185,h⟩:=ifp_some h
   refine vq (i6 (Int.tmod (IntKind.i64.wrap ((Int.tmod x182 a0) + a0)) a0)) rfl hc185 (dn (d_cons ?_))
   obtain ⟨x186,hx187,h⟩:=letp_some h
   refine a_val' (v:=(b8 (IntKind.u8.wrap (Int.tmod (IntKind.i64.wrap ((Int.tmod x182 a0) + a0)) a0)))) (v':=(b8 x186)) (u:=[]) (u':=[]) rfl (congrArg (fun z=>((b8 z):AV)) hx187) rfl trivial rfl (dn (d_cons ?_))
   obtain ⟨hc188,h⟩:=ifp_some h
   refine vq (.own 5 [x127.toNat] [x127.toNat*1]) rfl hc188 (dn (d_cons ?_))
   have hs189:StOk [x127.toNat] (eVb x128) [x127.toNat*1] 1 (b8 x186) (eVb (vset x128 x127.toNat x186)):=(.arr (y:=x186) (vlt x128 hc188) rfl (.nil rfl rfl rfl rfl))
   refine vu .top [(5,bk (eVb (vset x128 x127.toNat x186)))] (st_own (i:=⟨.int .u8,1,1,(.int .u8 0)⟩) rfl rfl (fun _=>rfl) rfl hs189) (hs189.c rfl) rfl (dn (d_nil (b_norm (nj ⟨[(0,i6 a0),(3,i6 a3),(5,ow 5),(6,ow 6),(8,ow 8),(9,i6 x127)],[(5,bk (eVb (vset x128 x127.toNat x186))),(6,bk (eVb a2)),(8,bk (eV0))]⟩ (a_region (vr (i6 x127) (vr (i6 (IntKind.i64.wrap (x127 + 1))) (vr (i6 (IntKind.i64.wrap (x127 + 1))) (a_nil ?_)))))))))
   cases h
   exact ag hX160
def spec_l01Bezout_L:Live:=[(0,[0,1,2]),(1,[0,4,5,6,7,8]),(2,[0,4,5,6,7,8,9,10,11,12]),(3,[0,4,5,6,7,8,9,10,11,12]),(4,[0,4,5,6,7,8,9,10,11,12,13,14]),(5,[0,4,5,6,7,8,9,10,11,12,13,14,15]),(6,[0,4,5,6,7,8,9,10,11,12,14,15,17]),(7,[0,4,5,6,7,8,9,10,11,12,14,19,20]),(8,[0,4,5,6,7,8,9,10,11,12,14,19,20]),(9,[0,4,5,6,7,8,9,10,11,12,19,20]),(10,[0,4,5,6,7,8,9,10,11,12,19,20]),(11,[0,4,5,6,7,8,9,10,11,12,19,20]),(12,[0,4,5,6,7,8,9,10,11,12,20]),(13,[0,4,6,7,8,9,11]),(14,[0,4,6,7,8,9,11,21]),(100028,[0,4,5,6,7,8,9,10,11,12,28])]
noncomputable def spec_l01Bezout_l1 (a0:Int) (x233:(Vec Int 64)) (x234:(Vec Int 64)) (x235:(Vec Int 64)) (x236:(Vec Int 64)) (x237:(Vec Int 64)) (x238:(Vec Int 64)):Option (((Vec Int 64)×(Vec Int 64)×(Vec Int 64)×(Vec Int 64)×(Vec Int 64)×(Vec Int 64))⊕((Vec Int 64)×(Vec Int 64)×(Vec Int 64))) :=
 (Option.bind (spec_l01Deg x234) fun r295=>(if (decide (r295 ≥ 0)) then (Option.bind (spec_l01Divide a0 x233 x234) fun r300=>(Option.bind (spec_l01Times a0 r300.1 x236) fun r306=>(Option.bind (spec_l01Times a0 r300.1 x238) fun r311=>(Option.bind (spec_l01Add a0 x235 r306.1 (-1)) fun r326=>(Option.bind (spec_l01Add a0 x237 r311.1 (-1)) fun r330=>(some (.inl (x234,r300.2,x236,r326,x238,r330)))))))) else (some (.inr (x233,x235,x237)))))
noncomputable def spec_l01Bezout (a0:Int) (a1:(Vec Int 64)) (a2:(Vec Int 64)):Option ((Vec Int 64)×(Vec Int 64)×(Vec Int 64)) :=
 (Option.bind (spec_l01One) fun r1=>(Option.bind (spec_l01One) fun r3=>(Option.bind (α:=((Vec Int 64)×(Vec Int 64)×(Vec Int 64))) ((loopM (fun s:((Vec Int 64)×(Vec Int 64)×(Vec Int 64)×(Vec Int 64)×(Vec Int 64)×(Vec Int 64))=>spec_l01Bezout_l1 a0 s.1 s.2.1 s.2.2.1 s.2.2.2.1 s.2.2.2.2.1 s.2.2.2.2.2) (a1,a2,r1,(vrep 64 (0:Int)),(vrep 64 (0:Int)),r3))) fun ⟨x175,x176,x177⟩=>(Option.bind (spec_l01Deg x175) fun r348=>(ifp (0≤r348∧r348 < ((64:Nat):Int)) ((Option.bind (spec_l01Inverse a0 (rd x175.1 r348.toNat)) fun r352=>(Option.bind (spec_l01Add a0 ((vrep 64 (0:Int))) x175 (IntKind.i64.wrap r352)) fun r367=>(Option.bind (spec_l01Add a0 ((vrep 64 (0:Int))) x176 (IntKind.i64.wrap r352)) fun r370=>(Option.bind (spec_l01Add a0 ((vrep 64 (0:Int))) x177 (IntKind.i64.wrap r352)) fun r373=>(some (r367,r370,r373))))))))))))
theorem spec_l01Bezout_ok (a0:Int) (a1:(Vec Int 64)) (a2:(Vec Int 64)) (r:((Vec Int 64)×(Vec Int 64)×(Vec Int 64))) (h:spec_l01Bezout a0 a1 a2=some r):Den Try.prog 76 [(i6 a0),(eVb a1),(eVb a2)] { r:=(.tuple [(eVb r.1),(eVb r.2.1),(eVb r.2.2)]) }:=by
 refine dd (rs:=[(eVb r.1),(eVb r.2.1),(eVb r.2.2)]) (L:=spec_l01Bezout_L) good [] Try.func76 Try.ntmps76 ?_
 refine ns ⟨[(0,i6 a0),(1,eVb a1),(2,eVb a2)],[]⟩ ?_
 refine sr (vo 1400 (eVb a1) rfl rfl (vo 1500 (eVb a2) rfl rfl (vo 1600 (eV0) rfl rfl (vo 1700 (eV0) rfl rfl (vo 1800 (eV0) rfl rfl (nk ⟨[(0,i6 a0),(4,ow 4),(5,ow 5),(6,ow 6),(7,ow 7),(8,ow 8)],[(4,bk (eVb a1)),(5,bk (eVb a2)),(6,bk (eV0)),(7,bk (eV0)),(8,bk (eV0))]⟩ (sr ?_)))))))
 obtain ⟨r1,hr2,h⟩:=bind_some h
 refine ca (spec_l01One_ok r1 hr2) (vq (eV0) rfl ⟨⟨_,rfl,rfl⟩,all_nil⟩ (vq (eV0) rfl ⟨⟨_,rfl,rfl⟩,all_nil⟩ ?_))
 obtain ⟨r3,hr4,h⟩:=bind_some h
 refine ca (spec_l01One_ok r3 hr4) (vo 1900 (eV0) rfl rfl (vo 2000 (eV0) rfl rfl (vo 2100 (eV0) rfl rfl (vo 2200 (eV0) rfl rfl (vs (eVb r1) rfl rfl (fun _=>rfl) rfl rfl rfl rfl rfl rfl (vs (eV0) rfl rfl (fun _=>rfl) rfl rfl rfl rfl rfl rfl (vs (eV0) rfl rfl (fun _=>rfl) rfl rfl rfl rfl rfl rfl (vs (eVb r3) rfl rfl (fun _=>rfl) rfl rfl rfl rfl rfl rfl (nk ⟨[(0,i6 a0),(4,ow 4),(5,ow 5),(6,ow 6),(7,ow 7),(8,ow 8),(9,ow 9),(10,ow 10),(11,ow 11),(12,ow 12)],[(4,bk (eVb a1)),(5,bk (eVb a2)),(6,bk (eV0)),(7,bk (eV0)),(8,bk (eV0)),(9,bk (eVb r1)),(10,bk (eV0)),(11,bk (eV0)),(12,bk (eVb r3))]⟩ ?_)))))))))
 obtain ⟨y178,hy179,hk180⟩:=bind_some h
 clear h
 refine a_join (emb:=fun (s:((Vec Int 64)×(Vec Int 64)×(Vec Int 64)))=>⟨[(0,i6 a0),(4,ow 4),(6,ow 6),(7,ow 7),(8,ow 8),(9,ow 9),(11,ow 11)],[(4,bk (eVb s.1)),(6,bk (eV0)),(7,bk (eV0)),(8,bk (eV0)),(9,bk (eVb s.2.1)),(11,bk (eVb s.2.2))]⟩) (pre:=fun s=>s=y178) ?_ ?_
 ·rintro ⟨x175,x176,x177⟩ rfl
  have h:=hk180
  refine ns ⟨[(0,i6 a0),(4,ow 4),(6,ow 6),(7,ow 7),(8,ow 8),(9,ow 9),(11,ow 11)],[(4,bk (eVb x175)),(6,bk (eV0)),(7,bk (eV0)),(8,bk (eV0)),(9,bk (eVb x176)),(11,bk (eVb x177))]⟩ (sr (vr (i6 a0) (vl (eVb x175) rfl rfl rfl rfl rfl rfl ?_)))
  obtain ⟨r348,hr349,h⟩:=bind_some h
  refine ca (spec_l01Deg_ok x175 r348 hr349) ?_
  obtain ⟨hc350,h⟩:=ifp_some h
  refine vq (.own 4 [r348.toNat] [r348.toNat*1]) rfl hc350 ?_
  have hl351:LdOk [r348.toNat] (eVb x175) [r348.toNat*1] 1 false (b8 (rd x175.1 r348.toNat)):=(.arr (vlt x175 hc350) rfl (.nil rfl rfl rfl))
  refine vq (b8 (rd x175.1 r348.toNat)) (ld_own (i:=⟨.int .u8,1,1,(.int .u8 0)⟩) rfl rfl rfl hl351) hl351.c ?_
  obtain ⟨r352,hr353,h⟩:=bind_some h
  refine ca (spec_l01Inverse_ok a0 (rd x175.1 r348.toNat) r352 hr353) (vr (i6 (IntKind.i64.wrap r352)) (vr (i6 (IntKind.i64.wrap r352)) (nk ⟨[(0,i6 a0),(4,ow 4),(6,ow 6),(7,ow 7),(8,ow 8),(9,ow 9),(11,ow 11),(21,i6 (IntKind.i64.wrap r352))],[(4,bk (eVb x175)),(6,bk (eV0)),(7,bk (eV0)),(8,bk (eV0)),(9,bk (eVb x176)),(11,bk (eVb x177))]⟩ (a_seq (a_draw [⟨[],[],[],[]⟩,⟨[],[],[],[]⟩,⟨[4],[],[],[]⟩,⟨[],[],[],[]⟩,⟨[],[],[],[0,1,2,3]⟩,⟨[],[],[],[]⟩,⟨[],[],[],[]⟩,⟨[9],[],[],[]⟩,⟨[],[],[],[]⟩,⟨[],[],[],[0,1,2,3,4,5,6,7,8]⟩,⟨[],[],[],[]⟩,⟨[],[],[],[]⟩,⟨[11],[],[],[]⟩,⟨[],[],[],[]⟩,⟨[],[],[],[0,1,2,3,4,5,6,7,8,9,10,11,12,13]⟩,⟨[6],[6],[],[0,1,2,3,4,5,6,7,8,9,10,11,12,13,14]⟩,⟨[7],[7],[],[0,1,2,3,4,5,6,7,8,9,10,11,12,13,14,15]⟩,⟨[8],[8],[],[0,1,2,3,4,5,6,7,8,9,10,11,12,13,14,15,16]⟩] (by kernel_rfl) (dj (i6 a0) rfl (d_cons (vq (eV0) rfl ⟨⟨_,rfl,rfl⟩,all_nil⟩ (dn ?_)))))))))
  refine d_cons (vl (eVb x175) rfl rfl rfl rfl rfl rfl (dn (dj (i6 (IntKind.i64.wrap r352)) rfl (d_cons ?_))))
  obtain ⟨r367,hr368,h⟩:=bind_some h
  refine ca (spec_l01Add_ok a0 ((vrep 64 (0:Int))) x175 (IntKind.i64.wrap r352) r367 hr368) (dn (dj (i6 a0) rfl (d_cons (vq (eV0) rfl ⟨⟨_,rfl,rfl⟩,all_nil⟩ (dn (d_cons (vl (eVb x176) rfl rfl rfl rfl rfl rfl (dn (dj (i6 (IntKind.i64.wrap r352)) rfl ?_)))))))))
  refine d_cons ?_
  obtain ⟨r370,hr371,h⟩:=bind_some h
  refine ca (spec_l01Add_ok a0 ((vrep 64 (0:Int))) x176 (IntKind.i64.wrap r352) r370 hr371) (dn (dj (i6 a0) rfl (d_cons (vq (eV0) rfl ⟨⟨_,rfl,rfl⟩,all_nil⟩ (dn (d_cons (vl (eVb x177) rfl rfl rfl rfl rfl rfl (dn (dj (i6 (IntKind.i64.wrap r352)) rfl ?_)))))))))
  refine d_cons ?_
  obtain ⟨r373,hr374,h⟩:=bind_some h
  refine ca (spec_l01Add_ok a0 ((vrep 64 (0:Int))) x177 (IntKind.i64.wrap r352) r373 hr374) (dn (d_cons (vs (eVb r367) rfl rfl (fun _=>rfl) rfl rfl rfl rfl rfl rfl (dn (d_cons (vs (eVb r370) rfl rfl (fun _=>rfl) rfl rfl rfl rfl rfl rfl (dn (d_cons (vs (eVb r373) rfl rfl (fun _=>rfl) rfl rfl rfl rfl rfl rfl ?_)))))))))
  refine dn (d_nil (a_next rfl (a_ret ?_)))
  have hl378:LdOk [] (eVb r367) [] 64 true (eVb r367):=(.nil rfl rfl rfl)
  have hl379:LdOk [] (eVb r370) [] 64 true (eVb r370):=(.nil rfl rfl rfl)
  have hl380:LdOk [] (eVb r373) [] 64 true (eVb r373):=(.nil rfl rfl rfl)
  refine ⟨.inr rfl,?_⟩
  rw [Try.results76]
  cases h
  exact ⟨_,_,_,_,_,ld_own (i:=⟨.arr 64 5,64,64,(eVb (vrep 64 (0:Int)))⟩) rfl rfl rfl hl378,hl378.c,.inl ⟨rfl,.inl rfl⟩,rfl,⟨_,_,_,_,_,ld_own (i:=⟨.arr 64 5,64,64,(eVb (vrep 64 (0:Int)))⟩) rfl rfl rfl hl379,hl379.c,.inl ⟨rfl,.inl rfl⟩,rfl,⟨_,_,_,_,_,ld_own (i:=⟨.arr 64 5,64,64,(eVb (vrep 64 (0:Int)))⟩) rfl rfl rfl hl380,hl380.c,.inl ⟨rfl,.inl rfl⟩,rfl,rfl⟩⟩⟩
 ·have h:=hy179
  refine a_block ?_
  refine a_loop (emb:=fun (s:((Vec Int 64)×(Vec Int 64)×(Vec Int 64)×(Vec Int 64)×(Vec Int 64)×(Vec Int 64)))=>⟨[(0,i6 a0),(4,ow 4),(5,ow 5),(6,ow 6),(7,ow 7),(8,ow 8),(9,ow 9),(10,ow 10),(11,ow 11),(12,ow 12)],[(4,bk (eVb s.1)),(5,bk (eVb s.2.1)),(6,bk (eV0)),(7,bk (eV0)),(8,bk (eV0)),(9,bk (eVb s.2.2.1)),(10,bk (eVb s.2.2.2.1)),(11,bk (eVb s.2.2.2.2.1)),(12,bk (eVb s.2.2.2.2.2))]⟩) (body:=(fun s:((Vec Int 64)×(Vec Int 64)×(Vec Int 64)×(Vec Int 64)×(Vec Int 64)×(Vec Int 64))=>spec_l01Bezout_l1 a0 s.1 s.2.1 s.2.2.1 s.2.2.2.1 s.2.2.2.2.1 s.2.2.2.2.2)) (G:=fun q=>some q=some y178) h rfl ?_ (by kernel_rfl)
  rintro X291 ⟨x233,x234,x235,x236,x237,x238⟩ x292 h hX293
  have h:spec_l01Bezout_l1 a0 x233 x234 x235 x236 x237 x238=some x292:=h
  refine ns ⟨[(0,i6 a0),(4,ow 4),(5,ow 5),(6,ow 6),(7,ow 7),(8,ow 8),(9,ow 9),(10,ow 10),(11,ow 11),(12,ow 12)],[(4,bk (eVb x233)),(5,bk (eVb x234)),(6,bk (eV0)),(7,bk (eV0)),(8,bk (eV0)),(9,bk (eVb x235)),(10,bk (eVb x236)),(11,bk (eVb x237)),(12,bk (eVb x238))]⟩ (a_seq (sr (vl (eVb x234) rfl rfl rfl rfl rfl rfl ?_)))
  obtain ⟨r295,hr296,h⟩:=bind_some h
  refine ca (spec_l01Deg_ok x234 r295 hr296) (vr (.bool ((decide (r295 ≥ 0)))) (nk ⟨[(0,i6 a0),(4,ow 4),(5,ow 5),(6,ow 6),(7,ow 7),(8,ow 8),(9,ow 9),(10,ow 10),(11,ow 11),(12,ow 12),(28,.bool ((decide (r295 ≥ 0))))],[(4,bk (eVb x233)),(5,bk (eVb x234)),(6,bk (eV0)),(7,bk (eV0)),(8,bk (eV0)),(9,bk (eVb x235)),(10,bk (eVb x236)),(11,bk (eVb x237)),(12,bk (eVb x238))]⟩ ?_))
  cases hb297:(decide (r295 ≥ 0))
  ·have h:=ite_f hb297 h
   refine a_cond_f rfl (a_exit (t_exit ?_))
   cases h
   have h:=hX293
   refine t_exit (b_exit ?_)
   exact jl (x233,x235,x237) h
  ·have h:=ite_t hb297 h
   refine a_cond_t rfl (a_skip (nj ⟨[(0,i6 a0),(4,ow 4),(5,ow 5),(6,ow 6),(7,ow 7),(8,ow 8),(9,ow 9),(10,ow 10),(11,ow 11),(12,ow 12)],[(4,bk (eVb x233)),(5,bk (eVb x234)),(6,bk (eV0)),(7,bk (eV0)),(8,bk (eV0)),(9,bk (eVb x235)),(10,bk (eVb x236)),(11,bk (eVb x237)),(12,bk (eVb x238))]⟩ (a_block (sr (vr (i6 a0) (vl (eVb x233) rfl rfl rfl rfl rfl rfl (vl (eVb x234) rfl rfl rfl rfl rfl rfl ?_)))))))
   obtain ⟨r300,hr301,h⟩:=bind_some h
   refine ca (spec_l01Divide_ok a0 x233 x234 r300 hr301) (vr (.tuple [(eVb r300.1),(eVb r300.2)]) (vb (eVb r300.1) rfl rfl (vb (eVb r300.2) rfl rfl (vo 2300 (eV0) rfl rfl (vo 2400 (eV0) rfl rfl (vs (eVb r300.1) rfl rfl (fun _=>rfl) rfl rfl rfl rfl rfl rfl (vs (eVb r300.2) rfl rfl (fun _=>rfl) rfl rfl rfl rfl rfl rfl (nk ⟨[(0,i6 a0),(4,ow 4),(5,ow 5),(6,ow 6),(7,ow 7),(8,ow 8),(9,ow 9),(10,ow 10),(11,ow 11),(12,ow 12),(13,ow 13),(14,ow 14)],[(4,bk (eVb x233)),(5,bk (eVb x234)),(6,bk (eV0)),(7,bk (eV0)),(8,bk (eV0)),(9,bk (eVb x235)),(10,bk (eVb x236)),(11,bk (eVb x237)),(12,bk (eVb x238)),(13,bk (eVb r300.1)),(14,bk (eVb r300.2))]⟩ (sr ?_)))))))))
   refine vr (i6 a0) (vl (eVb r300.1) rfl rfl rfl rfl rfl rfl (vl (eVb x236) rfl rfl rfl rfl rfl rfl ?_))
   obtain ⟨r306,hr307,h⟩:=bind_some h
   refine ca (spec_l01Times_ok a0 r300.1 x236 r306 hr307) (vr (.tuple [(eVb r306.1),(.bool r306.2)]) (vb (eVb r306.1) rfl rfl (vb (.bool r306.2) rfl rfl (vo 2500 (eV0) rfl rfl (vs (eVb r306.1) rfl rfl (fun _=>rfl) rfl rfl rfl rfl rfl rfl (vr (.bool r306.2) (nk ⟨[(0,i6 a0),(4,ow 4),(5,ow 5),(6,ow 6),(7,ow 7),(8,ow 8),(9,ow 9),(10,ow 10),(11,ow 11),(12,ow 12),(13,ow 13),(14,ow 14),(15,ow 15)],[(4,bk (eVb x233)),(5,bk (eVb x234)),(6,bk (eV0)),(7,bk (eV0)),(8,bk (eV0)),(9,bk (eVb x235)),(10,bk (eVb x236)),(11,bk (eVb x237)),(12,bk (eVb x238)),(13,bk (eVb r300.1)),(14,bk (eVb r300.2)),(15,bk (eVb r306.1))]⟩ (sr (vr (i6 a0) ?_)))))))))
   refine vl (eVb r300.1) rfl rfl rfl rfl rfl rfl (vl (eVb x238) rfl rfl rfl rfl rfl rfl ?_)
   obtain ⟨r311,hr312,h⟩:=bind_some h
   refine ca (spec_l01Times_ok a0 r300.1 x238 r311 hr312) (vr (.tuple [(eVb r311.1),(.bool r311.2)]) (vb (eVb r311.1) rfl rfl (vb (.bool r311.2) rfl rfl (vo 2700 (eV0) rfl rfl (vs (eVb r311.1) rfl rfl (fun _=>rfl) rfl rfl rfl rfl rfl rfl (vr (.bool r311.2) (nk ⟨[(0,i6 a0),(4,ow 4),(5,ow 5),(6,ow 6),(7,ow 7),(8,ow 8),(9,ow 9),(10,ow 10),(11,ow 11),(12,ow 12),(14,ow 14),(15,ow 15),(17,ow 17)],[(4,bk (eVb x233)),(5,bk (eVb x234)),(6,bk (eV0)),(7,bk (eV0)),(8,bk (eV0)),(9,bk (eVb x235)),(10,bk (eVb x236)),(11,bk (eVb x237)),(12,bk (eVb x238)),(14,bk (eVb r300.2)),(15,bk (eVb r306.1)),(17,bk (eVb r311.1))]⟩ (a_seq (a_draw [⟨[],[],[],[]⟩,⟨[9],[],[],[]⟩,⟨[15],[],[],[]⟩,⟨[],[],[],[0,1,2]⟩,⟨[],[],[],[]⟩,⟨[11],[],[],[]⟩,⟨[17],[],[],[]⟩,⟨[],[],[],[0,1,2,3,4,5,6]⟩,⟨[2900],[2900],[2900],[]⟩,⟨[3000],[3000],[3000],[]⟩,⟨[2900],[2900],[],[0,1,2,3,4,5,6,7,8,9]⟩,⟨[3000],[3000],[],[0,1,2,3,4,5,6,7,8,9,10]⟩] (by kernel_rfl) ?_)))))))))
   refine dj (i6 a0) rfl (d_cons (vl (eVb x235) rfl rfl rfl rfl rfl rfl (dn (d_cons (vl (eVb r306.1) rfl rfl rfl rfl rfl rfl (dn (d_cons ?_)))))))
   obtain ⟨r326,hr327,h⟩:=bind_some h
   refine ca (spec_l01Add_ok a0 x235 r306.1 (-1) r326 hr327) (dn (dj (i6 a0) rfl (d_cons (vl (eVb x237) rfl rfl rfl rfl rfl rfl (dn (d_cons (vl (eVb r311.1) rfl rfl rfl rfl rfl rfl (dn (d_cons ?_)))))))))
   obtain ⟨r330,hr331,h⟩:=bind_some h
   refine ca (spec_l01Add_ok a0 x237 r311.1 (-1) r330 hr331) (dn (d_cons (vo 2900 (eV0) rfl rfl (dn (d_cons (vo 3000 (eV0) rfl rfl (dn (d_cons (vs (eVb r326) rfl rfl (fun _=>rfl) rfl rfl rfl rfl rfl rfl ?_)))))))))
   refine dn (d_cons (vs (eVb r330) rfl rfl (fun _=>rfl) rfl rfl rfl rfl rfl rfl (dn (d_nil (nj ⟨[(0,i6 a0),(4,ow 4),(5,ow 5),(6,ow 6),(7,ow 7),(8,ow 8),(9,ow 9),(10,ow 10),(11,ow 11),(12,ow 12),(14,ow 14),(19,ow 19),(20,ow 20)],[(4,bk (eVb x233)),(5,bk (eVb x234)),(6,bk (eV0)),(7,bk (eV0)),(8,bk (eV0)),(9,bk (eVb x235)),(10,bk (eVb x236)),(11,bk (eVb x237)),(12,bk (eVb x238)),(14,bk (eVb r300.2)),(19,bk (eVb r326)),(20,bk (eVb r330))]⟩ (sr (vl (eVb x234) rfl rfl rfl rfl rfl rfl (vs (eVb x234) rfl rfl (fun _=>rfl) rfl rfl rfl rfl rfl rfl (nk ⟨[(0,i6 a0),(4,ow 4),(5,ow 5),(6,ow 6),(7,ow 7),(8,ow 8),(9,ow 9),(10,ow 10),(11,ow 11),(12,ow 12),(14,ow 14),(19,ow 19),(20,ow 20)],[(4,bk (eVb x234)),(5,bk (eVb x234)),(6,bk (eV0)),(7,bk (eV0)),(8,bk (eV0)),(9,bk (eVb x235)),(10,bk (eVb x236)),(11,bk (eVb x237)),(12,bk (eVb x238)),(14,bk (eVb r300.2)),(19,bk (eVb r326)),(20,bk (eVb r330))]⟩ ?_)))))))))
   refine sr (vl (eVb r300.2) rfl rfl rfl rfl rfl rfl (vs (eVb r300.2) rfl rfl (fun _=>rfl) rfl rfl rfl rfl rfl rfl (nk ⟨[(0,i6 a0),(4,ow 4),(5,ow 5),(6,ow 6),(7,ow 7),(8,ow 8),(9,ow 9),(10,ow 10),(11,ow 11),(12,ow 12),(19,ow 19),(20,ow 20)],[(4,bk (eVb x234)),(5,bk (eVb r300.2)),(6,bk (eV0)),(7,bk (eV0)),(8,bk (eV0)),(9,bk (eVb x235)),(10,bk (eVb x236)),(11,bk (eVb x237)),(12,bk (eVb x238)),(19,bk (eVb r326)),(20,bk (eVb r330))]⟩ (sr (vl (eVb x236) rfl rfl rfl rfl rfl rfl (vs (eVb x236) rfl rfl (fun _=>rfl) rfl rfl rfl rfl rfl rfl (nk ⟨[(0,i6 a0),(4,ow 4),(5,ow 5),(6,ow 6),(7,ow 7),(8,ow 8),(9,ow 9),(10,ow 10),(11,ow 11),(12,ow 12),(19,ow 19),(20,ow 20)],[(4,bk (eVb x234)),(5,bk (eVb r300.2)),(6,bk (eV0)),(7,bk (eV0)),(8,bk (eV0)),(9,bk (eVb x236)),(10,bk (eVb x236)),(11,bk (eVb x237)),(12,bk (eVb x238)),(19,bk (eVb r326)),(20,bk (eVb r330))]⟩ (sr (vl (eVb x238) rfl rfl rfl rfl rfl rfl ?_)))))))))
   refine vs (eVb x238) rfl rfl (fun _=>rfl) rfl rfl rfl rfl rfl rfl (nk ⟨[(0,i6 a0),(4,ow 4),(5,ow 5),(6,ow 6),(7,ow 7),(8,ow 8),(9,ow 9),(10,ow 10),(11,ow 11),(12,ow 12),(19,ow 19),(20,ow 20)],[(4,bk (eVb x234)),(5,bk (eVb r300.2)),(6,bk (eV0)),(7,bk (eV0)),(8,bk (eV0)),(9,bk (eVb x236)),(10,bk (eVb x236)),(11,bk (eVb x238)),(12,bk (eVb x238)),(19,bk (eVb r326)),(20,bk (eVb r330))]⟩ (sr (vl (eVb r326) rfl rfl rfl rfl rfl rfl (vs (eVb r326) rfl rfl (fun _=>rfl) rfl rfl rfl rfl rfl rfl (nk ⟨[(0,i6 a0),(4,ow 4),(5,ow 5),(6,ow 6),(7,ow 7),(8,ow 8),(9,ow 9),(10,ow 10),(11,ow 11),(12,ow 12),(20,ow 20)],[(4,bk (eVb x234)),(5,bk (eVb r300.2)),(6,bk (eV0)),(7,bk (eV0)),(8,bk (eV0)),(9,bk (eVb x236)),(10,bk (eVb r326)),(11,bk (eVb x238)),(12,bk (eVb x238)),(20,bk (eVb r330))]⟩ (a_region (vl (eVb r330) rfl rfl rfl rfl rfl rfl (vs (eVb r330) rfl rfl (fun _=>rfl) rfl rfl rfl rfl rfl rfl (a_nil ?_)))))))))
   refine b_norm ?_
   cases h
   exact ag hX293
def spec_l01Gcd_L:Live:=[(0,[0,1,2]),(1,[0,4,5,6]),(2,[6]),(3,[0,4,5,6]),(4,[6,7]),(100017,[0,4,5,6,17])]
noncomputable def spec_l01Gcd (a0:Int) (a1:(Vec Int 64)) (a2:(Vec Int 64)):Option (Vec Int 64) :=
 (Option.bind (α:=Bool) ((Option.bind (spec_l01Deg a1) fun r13=>(if (decide (r13 < 0)) then (Option.bind (spec_l01Deg a2) fun r17=>(some ((decide (r17 < 0))))) else (some false)))) fun x8=>(if x8 then (some ((vrep 64 (0:Int)))) else (Option.bind (spec_l01Bezout a0 a1 a2) fun r22=>(some r22.1))))
theorem spec_l01Gcd_ok (a0:Int) (a1:(Vec Int 64)) (a2:(Vec Int 64)) (r:(Vec Int 64)) (h:spec_l01Gcd a0 a1 a2=some r):Den Try.prog 39 [(i6 a0),(eVb a1),(eVb a2)] { r:=(eVb r) }:=by
 refine dd (rs:=[(eVb r)]) (L:=spec_l01Gcd_L) good [] Try.func39 Try.ntmps39 ?_
 refine ns ⟨[(0,i6 a0),(1,eVb a1),(2,eVb a2)],[]⟩ ?_
 refine sr (vo 1400 (eVb a1) rfl rfl (vo 1500 (eVb a2) rfl rfl (vo 1600 (eV0) rfl rfl (nk ⟨[(0,i6 a0),(4,ow 4),(5,ow 5),(6,ow 6)],[(4,bk (eVb a1)),(5,bk (eVb a2)),(6,bk (eV0))]⟩ (a_seq ?_)))))
 obtain ⟨y9,hy10,hk11⟩:=bind_some h
 clear h
 refine a_join (emb:=fun (s:Bool)=>⟨[(0,i6 a0),(4,ow 4),(5,ow 5),(6,ow 6),(17,.bool s)],[(4,bk (eVb a1)),(5,bk (eVb a2)),(6,bk (eV0))]⟩) (pre:=fun s=>s=y9) ?_ ?_
 ·rintro x8 rfl
  have h:=hk11
  refine ns ⟨[(0,i6 a0),(4,ow 4),(5,ow 5),(6,ow 6),(17,.bool x8)],[(4,bk (eVb a1)),(5,bk (eVb a2)),(6,bk (eV0))]⟩ ?_
  cases hb19:x8
  ·have h:=ite_f hb19 h
   refine a_cond_f rfl (a_skip (nj ⟨[(0,i6 a0),(4,ow 4),(5,ow 5),(6,ow 6)],[(4,bk (eVb a1)),(5,bk (eVb a2)),(6,bk (eV0))]⟩ (sr (vr (i6 a0) (vl (eVb a1) rfl rfl rfl rfl rfl rfl (vl (eVb a2) rfl rfl rfl rfl rfl rfl ?_))))))
   obtain ⟨r22,hr23,h⟩:=bind_some h
   refine ca (spec_l01Bezout_ok a0 a1 a2 r22 hr23) (vr (.tuple [(eVb r22.1),(eVb r22.2.1),(eVb r22.2.2)]) (vb (eVb r22.1) rfl rfl (vb (eVb r22.2.1) rfl rfl (vb (eVb r22.2.2) rfl rfl (vo 1700 (eV0) rfl rfl (vo 1800 (eV0) rfl rfl (vo 1900 (eV0) rfl rfl (vs (eVb r22.1) rfl rfl (fun _=>rfl) rfl rfl rfl rfl rfl rfl (vs (eVb r22.2.1) rfl rfl (fun _=>rfl) rfl rfl rfl rfl rfl rfl ?_)))))))))
   refine vs (eVb r22.2.2) rfl rfl (fun _=>rfl) rfl rfl rfl rfl rfl rfl (nk ⟨[(6,ow 6),(7,ow 7)],[(6,bk (eV0)),(7,bk (eVb r22.1))]⟩ (sr (vl (eVb r22.1) rfl rfl rfl rfl rfl rfl (vs (eVb r22.1) rfl rfl (fun _=>rfl) rfl rfl rfl rfl rfl rfl (nx _ rfl (a_ret ?_))))))
   have hl29:LdOk [] (eVb r22.1) [] 64 true (eVb r22.1):=(.nil rfl rfl rfl)
   refine ⟨.inr rfl,?_⟩
   rw [Try.results39]
   cases h
   exact ⟨_,_,_,_,_,ld_own (i:=⟨.arr 64 5,64,64,(eVb (vrep 64 (0:Int)))⟩) rfl rfl rfl hl29,hl29.c,.inl ⟨rfl,.inl rfl⟩,rfl,rfl⟩
  ·have h:=ite_t hb19 h
   refine a_cond_t rfl (sr (vq (eV0) rfl ⟨⟨_,rfl,rfl⟩,all_nil⟩ (vs (eV0) rfl rfl (fun _=>rfl) rfl rfl rfl rfl rfl rfl (nx _ rfl (a_ret (t_ret ?_))))))
   have hl31:LdOk [] (eV0) [] 64 true (eV0):=(.nil rfl rfl rfl)
   refine ⟨.inr rfl,?_⟩
   rw [Try.results39]
   cases h
   exact ⟨_,_,_,_,_,ld_own (i:=⟨.arr 64 5,64,64,(eVb (vrep 64 (0:Int)))⟩) rfl rfl rfl hl31,hl31.c,.inl ⟨rfl,.inl rfl⟩,rfl,rfl⟩
 ·have h:=hy10
  refine a_region (vl (eVb a1) rfl rfl rfl rfl rfl rfl ?_)
  obtain ⟨r13,hr14,h⟩:=bind_some h
  refine ca (spec_l01Deg_ok a1 r13 hr14) (vr (.bool ((decide (r13 < 0)))) (vr (.bool ((decide (r13 < 0)))) ?_))
  cases hb15:(decide (r13 < 0))
  ·have h:=ite_f hb15 h
   refine a_gskip rfl (a_gskip rfl (a_gskip rfl (vr (.bool false) (a_nil ?_))))
   exact jl false h
  ·have h:=ite_t hb15 h
   have hl16:LdOk [] (eVb a2) [] 64 true (eVb a2):=(.nil rfl rfl rfl)
   refine gq (eVb a2) rfl (ld_own (i:=⟨.arr 64 5,64,64,(eVb (vrep 64 (0:Int)))⟩) rfl rfl rfl hl16) hl16.c ?_
   obtain ⟨r17,hr18,h⟩:=bind_some h
   refine a_gcall rfl (args:=[(eVb a2)]) (u:=[]) (r:=(i6 r17)) rfl rfl (spec_l01Deg_ok a2 r17 hr18) rfl (gp (.bool ((decide (r17 < 0)))) rfl rfl (vr (.bool ((decide (r17 < 0)))) (a_nil ?_)))
   exact jl ((decide (r17 < 0))) h
def spec_l07Is_L:Live:=[(0,[0,1]),(1,[0,3]),(2,[]),(3,[0,3]),(4,[0,3,5]),(5,[]),(6,[0,3]),(7,[0,3,6]),(100015,[0,3,15]),(100027,[0,3,27])]
noncomputable def spec_l07Is (a0:Int) (a1:(Vec Int 64)):Option Bool :=
 (Option.bind (α:=Bool) ((Option.bind (spec_l01Is a0 a1) fun r10=>(if (!r10) then (some true) else (some (a0 == 2))))) fun x5=>(if x5 then (some false) else (Option.bind (spec_l01Deg a1) fun r15=>(Option.bind (α:=Bool) ((if (r15 != 1) then (if (r15 != 3) then (some (r15 != 5)) else (some false)) else (some false))) fun x19=>(if x19 then (some false) else (Option.bind (spec_DerivativeOf a0 a1) fun r27=>(Option.bind (spec_l01Gcd a0 a1 r27.1) fun r32=>(Option.bind (spec_l01Deg r32) fun r34=>(some (r34 == 0))))))))))
theorem spec_l07Is_ok (a0:Int) (a1:(Vec Int 64)) (r:Bool) (h:spec_l07Is a0 a1=some r):Den Try.prog 17 [(i6 a0),(eVb a1)] { r:=(.bool r) }:=by
 refine dd (rs:=[(.bool r)]) (L:=spec_l07Is_L) good [] Try.func17 Try.ntmps17 ?_
 refine ns ⟨[(0,i6 a0),(1,eVb a1)],[]⟩ ?_
 refine sr (vo 1300 (eVb a1) rfl rfl (vr (.bool false) (nk ⟨[(0,i6 a0),(3,ow 3)],[(3,bk (eVb a1))]⟩ (a_seq ?_))))
 obtain ⟨y6,hy7,hk8⟩:=bind_some h
 clear h
 refine a_join (emb:=fun (s:Bool)=>⟨[(0,i6 a0),(3,ow 3),(15,.bool s)],[(3,bk (eVb a1))]⟩) (pre:=fun s=>s=y6) ?_ ?_
 ·rintro x5 rfl
  have h:=hk8
  refine ns ⟨[(0,i6 a0),(3,ow 3),(15,.bool x5)],[(3,bk (eVb a1))]⟩ ?_
  cases hb13:x5
  ·have h:=ite_f hb13 h
   refine a_cond_f rfl (a_skip (nj ⟨[(0,i6 a0),(3,ow 3)],[(3,bk (eVb a1))]⟩ (sr (vl (eVb a1) rfl rfl rfl rfl rfl rfl ?_))))
   obtain ⟨r15,hr16,h⟩:=bind_some h
   refine ca (spec_l01Deg_ok a1 r15 hr16) (vr (i6 r15) (nk ⟨[(0,i6 a0),(3,ow 3),(5,i6 r15)],[(3,bk (eVb a1))]⟩ (a_seq ?_)))
   obtain ⟨y20,hy21,hk22⟩:=bind_some h
   clear h
   refine a_join (emb:=fun (s:Bool)=>⟨[(0,i6 a0),(3,ow 3),(27,.bool s)],[(3,bk (eVb a1))]⟩) (pre:=fun s=>s=y20) ?_ ?_
   ·rintro x19 rfl
    have h:=hk22
    refine ns ⟨[(0,i6 a0),(3,ow 3),(27,.bool x19)],[(3,bk (eVb a1))]⟩ ?_
    cases hb25:x19
    ·have h:=ite_f hb25 h
     refine a_cond_f rfl (a_skip (nj ⟨[(0,i6 a0),(3,ow 3)],[(3,bk (eVb a1))]⟩ (sr (vr (i6 a0) (vl (eVb a1) rfl rfl rfl rfl rfl rfl ?_)))))
     obtain ⟨r27,hr28,h⟩:=bind_some h
     refine ca (spec_DerivativeOf_ok a0 a1 r27 hr28) (vr (.tuple [(eVb r27.1),(i6 r27.2)]) (vb (eVb r27.1) rfl rfl (vb (i6 r27.2) rfl rfl (vo 1600 (eV0) rfl rfl (vs (eVb r27.1) rfl rfl (fun _=>rfl) rfl rfl rfl rfl rfl rfl (vr (i6 r27.2) (nk ⟨[(0,i6 a0),(3,ow 3),(6,ow 6)],[(3,bk (eVb a1)),(6,bk (eVb r27.1))]⟩ (sr (vr (i6 a0) ?_)))))))))
     refine vl (eVb a1) rfl rfl rfl rfl rfl rfl (vl (eVb r27.1) rfl rfl rfl rfl rfl rfl ?_)
     obtain ⟨r32,hr33,h⟩:=bind_some h
     refine ca (spec_l01Gcd_ok a0 a1 r27.1 r32 hr33) ?_
     obtain ⟨r34,hr35,h⟩:=bind_some h
     refine ca (spec_l01Deg_ok r32 r34 hr35) (vr (.bool (r34 == 0)) (vr (.bool (r34 == 0)) (nx _ rfl (a_ret ?_))))
     refine ⟨.inr rfl,?_⟩
     rw [Try.results17]
     cases h
     exact ⟨_,_,_,_,_,rfl,trivial,.inl ⟨rfl,.inl rfl⟩,rfl,rfl⟩
    ·have h:=ite_t hb25 h
     refine a_cond_t rfl (sr (vr (.bool false) (nx _ rfl (a_ret (t_ret ?_)))))
     refine ⟨.inr rfl,?_⟩
     rw [Try.results17]
     cases h
     exact ⟨_,_,_,_,_,rfl,trivial,.inl ⟨rfl,.inl rfl⟩,rfl,rfl⟩
   ·have h:=hy21
    refine a_region (vr (i6 r15) (vr (.bool (r15 != 1)) (vr (.bool (r15 != 1)) ?_)))
    cases hb23:(r15 != 1)
    ·have h:=ite_f hb23 h
     refine a_gskip rfl (a_gskip rfl (vr (.bool false) (vr (.bool false) (a_gskip rfl (a_gskip rfl (vr (.bool false) (a_nil ?_)))))))
     exact jl false h
    ·have h:=ite_t hb23 h
     refine gp (i6 r15) rfl rfl (gp (.bool (r15 != 3)) rfl rfl (vr (.bool (r15 != 3)) (vr (.bool (r15 != 3)) ?_)))
     cases hb24:(r15 != 3)
     ·have h:=ite_f hb24 h
      refine a_gskip rfl (a_gskip rfl (vr (.bool false) (a_nil ?_)))
      exact jl false h
     ·have h:=ite_t hb24 h
      refine gp (i6 r15) rfl rfl (gp (.bool (r15 != 5)) rfl rfl (vr (.bool (r15 != 5)) (a_nil ?_)))
      exact jl (r15 != 5) h
  ·have h:=ite_t hb13 h
   refine a_cond_t rfl (sr (vr (.bool false) (nx _ rfl (a_ret (t_ret ?_)))))
   refine ⟨.inr rfl,?_⟩
   rw [Try.results17]
   cases h
   exact ⟨_,_,_,_,_,rfl,trivial,.inl ⟨rfl,.inl rfl⟩,rfl,rfl⟩
 ·have h:=hy7
  refine a_region (vr (i6 a0) (vl (eVb a1) rfl rfl rfl rfl rfl rfl ?_))
  obtain ⟨r10,hr11,h⟩:=bind_some h
  refine ca (spec_l01Is_ok a0 a1 r10 hr11) (vr (.bool (!r10)) (vr (.bool (!r10)) ?_))
  cases hb12:(!r10)
  ·have h:=ite_f hb12 h
   refine gp (i6 a0) rfl rfl (gp (.bool (a0 == 2)) rfl rfl (vr (.bool (a0 == 2)) (a_nil ?_)))
   exact jl (a0 == 2) h
  ·have h:=ite_t hb12 h
   refine a_gskip rfl (a_gskip rfl (vr (.bool true) (a_nil ?_)))
   exact jl true h
def spec_l07Genus_L:Live:=[(0,[0]),(1,[1])]
noncomputable def spec_l07Genus (a0:(Vec Int 64)):Option Int :=
 (Option.bind (spec_l01Deg a0) fun r2=>(some (IntKind.i64.wrap (Int.tdiv (IntKind.i64.wrap (r2 - 1)) 2))))
theorem spec_l07Genus_ok (a0:(Vec Int 64)) (r:Int) (h:spec_l07Genus a0=some r):Den Try.prog 40 [(eVb a0)] { r:=(i6 r) }:=by
 refine dd (rs:=[(i6 r)]) (L:=spec_l07Genus_L) good [] Try.func40 Try.ntmps40 ?_
 refine ns ⟨[(0,eVb a0)],[]⟩ ?_
 refine sr (vo 1100 (eVb a0) rfl rfl (vr (i6 0) (nk ⟨[(1,ow 1)],[(1,bk (eVb a0))]⟩ (sr (vl (eVb a0) rfl rfl rfl rfl rfl rfl ?_)))))
 obtain ⟨r2,hr3,h⟩:=bind_some h
 refine ca (spec_l01Deg_ok a0 r2 hr3) (vr (i6 (IntKind.i64.wrap (r2 - 1))) (vq (i6 (IntKind.i64.wrap (Int.tdiv (IntKind.i64.wrap (r2 - 1)) 2))) rfl (by decide) (vr (i6 (IntKind.i64.wrap (Int.tdiv (IntKind.i64.wrap (r2 - 1)) 2))) (nx _ rfl (a_ret ?_)))))
 refine ⟨.inr rfl,?_⟩
 rw [Try.results40]
 cases h
 exact ⟨_,_,_,_,_,rfl,trivial,.inl ⟨rfl,.inl rfl⟩,rfl,rfl⟩
def spec_l01Count_L:Live:=[(0,[0,1]),(1,[0,1]),(2,[0,1,5]),(3,[0,1,5]),(4,[0,1,5]),(5,[5]),(100011,[0,1,5,11])]
noncomputable def spec_l01Count_l1 (a0:Int) (x39:Int) (x40:Int):Option ((Int×Int)⊕Int) :=
 (Option.bind (α:=Bool) ((if (decide (x39 > 0)) then (some ((decide (x40≤1000000000000)))) else (some false))) fun x52=>(if x52 then (some (.inl ((IntKind.i64.wrap (x39 - 1),IntKind.i64.wrap (x40*a0))))) else (some (.inr x40))))
noncomputable def spec_l01Count (a0:Int) (a1:Int):Option Int :=
 (Option.bind (α:=Int) ((loopM (fun s:(Int×Int)=>spec_l01Count_l1 a0 s.1 s.2) (a1,1))) fun x28=>(some (if 1000000000001 < x28 then 1000000000001 else x28)))
theorem spec_l01Count_ok (a0:Int) (a1:Int) (r:Int) (h:spec_l01Count a0 a1=some r):Den Try.prog 41 [(i6 a0),(i6 a1)] { r:=(i6 r) }:=by
 refine dd (rs:=[(i6 r)]) (L:=spec_l01Count_L) good [] Try.func41 Try.ntmps41 ?_
 refine ns ⟨[(0,i6 a0),(1,i6 a1)],[]⟩ ?_
 refine sr (vr (i6 0) (nk ⟨[(0,i6 a0),(1,i6 a1)],[]⟩ (sr (vr (i6 1) (nk ⟨[(0,i6 a0),(1,i6 a1),(5,i6 1)],[]⟩ ?_)))))
 obtain ⟨y29,hy30,hk31⟩:=bind_some h
 clear h
 refine a_join (emb:=fun (s:Int)=>⟨[(5,i6 s)],[]⟩) (pre:=fun s=>s=y29) ?_ ?_
 ·rintro x28 rfl
  have h:=hk31
  refine ns ⟨[(5,i6 x28)],[]⟩ (sr (vr (i6 x28) (vr (i6 (if 1000000000001 < x28 then 1000000000001 else x28)) (vr (i6 (if 1000000000001 < x28 then 1000000000001 else x28)) (nx _ rfl (a_ret ?_))))))
  refine ⟨.inr rfl,?_⟩
  rw [Try.results41]
  cases h
  exact ⟨_,_,_,_,_,rfl,trivial,.inl ⟨rfl,.inl rfl⟩,rfl,rfl⟩
 ·have h:=hy30
  refine a_block ?_
  refine a_loop (emb:=fun (s:(Int×Int))=>⟨[(0,i6 a0),(1,i6 s.1),(5,i6 s.2)],[]⟩) (body:=(fun s:(Int×Int)=>spec_l01Count_l1 a0 s.1 s.2)) (G:=fun q=>some q=some y29) h rfl ?_ (by kernel_rfl)
  rintro X48 ⟨x39,x40⟩ x49 h hX50
  have h:spec_l01Count_l1 a0 x39 x40=some x49:=h
  refine ns ⟨[(0,i6 a0),(1,i6 x39),(5,i6 x40)],[]⟩ (a_seq ?_)
  obtain ⟨y53,hy54,hk55⟩:=bind_some h
  clear h
  refine a_join (emb:=fun (s:Bool)=>⟨[(0,i6 a0),(1,i6 x39),(5,i6 x40),(11,.bool s)],[]⟩) (pre:=fun s=>s=y53) ?_ ?_
  ·rintro x52 rfl
   have h:=hk55
   refine ns ⟨[(0,i6 a0),(1,i6 x39),(5,i6 x40),(11,.bool x52)],[]⟩ ?_
   cases hb57:x52
   ·have h:=ite_f hb57 h
    refine a_cond_f rfl (a_exit (t_exit ?_))
    cases h
    have h:=hX50
    refine t_exit (b_exit ?_)
    exact jl x40 h
   ·have h:=ite_t hb57 h
    refine a_cond_t rfl (a_skip (nj ⟨[(0,i6 a0),(1,i6 x39),(5,i6 x40)],[]⟩ (a_seq (a_block (a_region (vr (i6 x40) (vr (i6 a0) (vr (i6 (IntKind.i64.wrap (x40*a0))) (vr (i6 (IntKind.i64.wrap (x40*a0))) ?_)))))))))
    refine a_nil (b_norm (nj ⟨[(0,i6 a0),(1,i6 x39),(5,i6 (IntKind.i64.wrap (x40*a0)))],[]⟩ (a_region (vr (i6 x39) (vr (i6 (IntKind.i64.wrap (x39 - 1))) (vr (i6 (IntKind.i64.wrap (x39 - 1))) (a_nil ?_)))))))
    cases h
    exact ag hX50
  ·have h:=hy54
   refine a_region (vr (i6 x39) (vr (.bool ((decide (x39 > 0)))) (vr (.bool ((decide (x39 > 0)))) ?_)))
   cases hb56:(decide (x39 > 0))
   ·have h:=ite_f hb56 h
    refine a_gskip rfl (a_gskip rfl (vr (.bool false) (a_nil ?_)))
    exact jl false h
   ·have h:=ite_t hb56 h
    refine gp (i6 x40) rfl rfl (gp (.bool ((decide (x40≤1000000000000)))) rfl rfl (vr (.bool ((decide (x40≤1000000000000)))) (a_nil ?_)))
    exact jl ((decide (x40≤1000000000000))) h
def spec_l01Of_L:Live:=[(0,[0,1]),(1,[0,1,4]),(2,[0,1,4,5]),(3,[0,1,4,5,6]),(4,[0,1,4,5,6]),(5,[0,1,4,5,6]),(6,[0,1,4,5,6]),(7,[4,5]),(100009,[0,1,4,5,6,9])]
noncomputable def spec_l01Of_l1 (a0:Int) (x33:Int) (x34:Int) (x35:(Vec Int 64)):Option ((Int×Int×(Vec Int 64))⊕(Vec Int 64)) :=
 (if (decide (x33 > 0)) then (ifp (a0 ≠ 0) ((ifp (0≤x34∧x34 < ((64:Nat):Int)) ((ifp (a0 ≠ 0) ((some (.inl ((IntKind.i64.wrap (Int.tdiv x33 a0),IntKind.i64.wrap (x34 + 1),(vset x35 x34.toNat (IntKind.u8.wrap (Int.tmod x33 a0))))))))))))) else (some (.inr x35)))
noncomputable def spec_l01Of (a0:Int) (a1:Int):Option (Vec Int 64) :=
 (Option.bind (α:=(Vec Int 64)) ((loopM (fun s:(Int×Int×(Vec Int 64))=>spec_l01Of_l1 a0 s.1 s.2.1 s.2.2) (a1,0,(vrep 64 (0:Int))))) fun x24=>(some x24))
theorem spec_l01Of_ok (a0:Int) (a1:Int) (r:(Vec Int 64)) (h:spec_l01Of a0 a1=some r):Den Try.prog 35 [(i6 a0),(i6 a1)] { r:=(eVb r) }:=by
 refine dd (rs:=[(eVb r)]) (L:=spec_l01Of_L) good [] Try.func35 Try.ntmps35 ?_
 refine ns ⟨[(0,i6 a0),(1,i6 a1)],[]⟩ ?_
 refine sr (vo 1400 (eV0) rfl rfl (nk ⟨[(0,i6 a0),(1,i6 a1),(4,ow 4)],[(4,bk (eV0))]⟩ (sr (vq (eV0) rfl ⟨⟨_,rfl,rfl⟩,all_nil⟩ (vo 1500 (eV0) rfl rfl (vs (eV0) rfl rfl (fun _=>rfl) rfl rfl rfl rfl rfl rfl (nk ⟨[(0,i6 a0),(1,i6 a1),(4,ow 4),(5,ow 5)],[(4,bk (eV0)),(5,bk (eV0))]⟩ ?_)))))))
 obtain ⟨y25,hy26,hk27⟩:=bind_some h
 clear h
 refine a_join (emb:=fun (s:(Vec Int 64))=>⟨[(4,ow 4),(5,ow 5)],[(4,bk (eV0)),(5,bk (eVb s))]⟩) (pre:=fun s=>s=y25) ?_ ?_
 ·rintro x24 rfl
  have h:=hk27
  refine ns ⟨[(4,ow 4),(5,ow 5)],[(4,bk (eV0)),(5,bk (eVb x24))]⟩ (sr (vl (eVb x24) rfl rfl rfl rfl rfl rfl (vs (eVb x24) rfl rfl (fun _=>rfl) rfl rfl rfl rfl rfl rfl (nx _ rfl (a_ret ?_)))))
  have hl52:LdOk [] (eVb x24) [] 64 true (eVb x24):=(.nil rfl rfl rfl)
  refine ⟨.inr rfl,?_⟩
  rw [Try.results35]
  cases h
  exact ⟨_,_,_,_,_,ld_own (i:=⟨.arr 64 5,64,64,(eVb (vrep 64 (0:Int)))⟩) rfl rfl rfl hl52,hl52.c,.inl ⟨rfl,.inl rfl⟩,rfl,rfl⟩
 ·have h:=hy26
  refine sr (vr (i6 0) (nk ⟨[(0,i6 a0),(1,i6 a1),(4,ow 4),(5,ow 5),(6,i6 0)],[(4,bk (eV0)),(5,bk (eV0))]⟩ (a_block ?_)))
  refine a_loop (emb:=fun (s:(Int×Int×(Vec Int 64)))=>⟨[(0,i6 a0),(1,i6 s.1),(4,ow 4),(5,ow 5),(6,i6 s.2.1)],[(4,bk (eV0)),(5,bk (eVb s.2.2))]⟩) (body:=(fun s:(Int×Int×(Vec Int 64))=>spec_l01Of_l1 a0 s.1 s.2.1 s.2.2)) (G:=fun q=>some q=some y25) h rfl ?_ (by kernel_rfl)
  rintro X41 ⟨x33,x34,x35⟩ x42 h hX43
  have h:spec_l01Of_l1 a0 x33 x34 x35=some x42:=h
  refine ns ⟨[(0,i6 a0),(1,i6 x33),(4,ow 4),(5,ow 5),(6,i6 x34)],[(4,bk (eV0)),(5,bk (eVb x35))]⟩ (a_seq (sr (vr (i6 x33) (vr (.bool ((decide (x33 > 0)))) (nk ⟨[(0,i6 a0),(1,i6 x33),(4,ow 4),(5,ow 5),(6,i6 x34),(9,.bool ((decide (x33 > 0))))],[(4,bk (eV0)),(5,bk (eVb x35))]⟩ ?_)))))
  cases hb44:(decide (x33 > 0))
  ·have h:=ite_f hb44 h
   refine a_cond_f rfl (a_exit (t_exit ?_))
   cases h
   have h:=hX43
   refine t_exit (b_exit ?_)
   exact jl x35 h
  ·have h:=ite_t hb44 h
   refine a_cond_t rfl (a_skip (nj ⟨[(0,i6 a0),(1,i6 x33),(4,ow 4),(5,ow 5),(6,i6 x34)],[(4,bk (eV0)),(5,bk (eVb x35))]⟩ (a_seq (a_block (sr (vr (i6 x34) (vr (i6 x33) (vr (i6 a0) ?_))))))))
   obtain ⟨hc45,h⟩:=ifp_some h
   refine vq (i6 (Int.tmod x33 a0)) rfl hc45 (vr (b8 (IntKind.u8.wrap (Int.tmod x33 a0))) ?_)
   obtain ⟨hc46,h⟩:=ifp_some h
   refine vq (.own 5 [x34.toNat] [x34.toNat*1]) rfl hc46 ?_
   have hs47:StOk [x34.toNat] (eVb x35) [x34.toNat*1] 1 (b8 (IntKind.u8.wrap (Int.tmod x33 a0))) (eVb ((vset x35 x34.toNat (IntKind.u8.wrap (Int.tmod x33 a0))))):=(.arr (y:=IntKind.u8.wrap (Int.tmod x33 a0)) (vlt x35 hc46) rfl (.nil rfl rfl rfl rfl))
   refine vu .top [(5,bk (eVb ((vset x35 x34.toNat (IntKind.u8.wrap (Int.tmod x33 a0))))))] (st_own (i:=⟨.int .u8,1,1,(.int .u8 0)⟩) rfl rfl (fun _=>rfl) rfl hs47) (hs47.c rfl) rfl (nk ⟨[(0,i6 a0),(1,i6 x33),(4,ow 4),(5,ow 5),(6,i6 x34)],[(4,bk (eV0)),(5,bk (eVb ((vset x35 x34.toNat (IntKind.u8.wrap (Int.tmod x33 a0))))))]⟩ (a_region (vr (i6 x33) (vr (i6 a0) ?_))))
   obtain ⟨hc48,h⟩:=ifp_some h
   refine vq (i6 (IntKind.i64.wrap (Int.tdiv x33 a0))) rfl hc48 (vr (i6 (IntKind.i64.wrap (Int.tdiv x33 a0))) (a_nil (b_norm (nj ⟨[(0,i6 a0),(1,i6 (IntKind.i64.wrap (Int.tdiv x33 a0))),(4,ow 4),(5,ow 5),(6,i6 x34)],[(4,bk (eV0)),(5,bk (eVb ((vset x35 x34.toNat (IntKind.u8.wrap (Int.tmod x33 a0))))))]⟩ (a_region (vr (i6 x34) (vr (i6 (IntKind.i64.wrap (x34 + 1))) (vr (i6 (IntKind.i64.wrap (x34 + 1))) (a_nil ?_)))))))))
   cases h
   exact ag hX43
def spec_l01Monic_L:Live:=[(0,[0]),(1,[1]),(2,[1,3])]
noncomputable def spec_l01Monic (a0:(Vec Int 64)):Option Bool :=
 (Option.bind (spec_l01Deg a0) fun r2=>(if (decide (r2 ≥ 0)) then (ifp (0≤r2∧r2 < ((64:Nat):Int)) ((some (((rd a0.1 r2.toNat) == 1))))) else (some false)))
theorem spec_l01Monic_ok (a0:(Vec Int 64)) (r:Bool) (h:spec_l01Monic a0=some r):Den Try.prog 58 [(eVb a0)] { r:=(.bool r) }:=by
 refine dd (rs:=[(.bool r)]) (L:=spec_l01Monic_L) good [] Try.func58 Try.ntmps58 ?_
 refine ns ⟨[(0,eVb a0)],[]⟩ ?_
 refine sr (vo 1100 (eVb a0) rfl rfl (vr (.bool false) (nk ⟨[(1,ow 1)],[(1,bk (eVb a0))]⟩ (sr (vl (eVb a0) rfl rfl rfl rfl rfl rfl ?_)))))
 obtain ⟨r2,hr3,h⟩:=bind_some h
 refine ca (spec_l01Deg_ok a0 r2 hr3) (vr (i6 r2) (nk ⟨[(1,ow 1),(3,i6 r2)],[(1,bk (eVb a0))]⟩ (sr (vr (i6 r2) (vr (.bool ((decide (r2 ≥ 0)))) (vr (.bool ((decide (r2 ≥ 0)))) ?_))))))
 cases hb4:(decide (r2 ≥ 0))
 ·have h:=ite_f hb4 h
  refine a_gskip rfl (a_gskip rfl (a_gskip rfl (a_gskip rfl (vr (.bool false) (vr (.bool false) (nx _ rfl (a_ret ?_)))))))
  refine ⟨.inr rfl,?_⟩
  rw [Try.results58]
  cases h
  exact ⟨_,_,_,_,_,rfl,trivial,.inl ⟨rfl,.inl rfl⟩,rfl,rfl⟩
 ·have h:=ite_t hb4 h
  refine gp (i6 r2) rfl rfl ?_
  obtain ⟨hc5,h⟩:=ifp_some h
  refine gq (.own 1 [r2.toNat] [r2.toNat*1]) rfl rfl hc5 ?_
  have hl6:LdOk [r2.toNat] (eVb a0) [r2.toNat*1] 1 false (b8 (rd a0.1 r2.toNat)):=(.arr (vlt a0 hc5) rfl (.nil rfl rfl rfl))
  refine gq (b8 (rd a0.1 r2.toNat)) rfl (ld_own (i:=⟨.int .u8,1,1,(.int .u8 0)⟩) rfl rfl rfl hl6) hl6.c (gp (.bool (((rd a0.1 r2.toNat) == 1))) rfl rfl (vr (.bool (((rd a0.1 r2.toNat) == 1))) (vr (.bool (((rd a0.1 r2.toNat) == 1))) (nx _ rfl (a_ret ?_)))))
  refine ⟨.inr rfl,?_⟩
  rw [Try.results58]
  cases h
  exact ⟨_,_,_,_,_,rfl,trivial,.inl ⟨rfl,.inl rfl⟩,rfl,rfl⟩
def spec_l07Square_L:Live:=[(0,[0,1,2]),(1,[0,4,5,6]),(2,[0,4,6,7])]
noncomputable def spec_l07Square (a0:Int) (a1:(Vec Int 64)) (a2:(Vec Int 64)):Option (Vec Int 64) :=
 (Option.bind (spec_l01Times a0 a2 a2) fun r3=>(Option.bind (spec_l01Add a0 r3.1 a1 (-1)) fun r8=>(some r8)))
theorem spec_l07Square_ok (a0:Int) (a1:(Vec Int 64)) (a2:(Vec Int 64)) (r:(Vec Int 64)) (h:spec_l07Square a0 a1 a2=some r):Den Try.prog 78 [(i6 a0),(eVb a1),(eVb a2)] { r:=(eVb r) }:=by
 refine dd (rs:=[(eVb r)]) (L:=spec_l07Square_L) good [] Try.func78 Try.ntmps78 ?_
 refine ns ⟨[(0,i6 a0),(1,eVb a1),(2,eVb a2)],[]⟩ ?_
 refine sr (vo 1400 (eVb a1) rfl rfl (vo 1500 (eVb a2) rfl rfl (vo 1600 (eV0) rfl rfl (nk ⟨[(0,i6 a0),(4,ow 4),(5,ow 5),(6,ow 6)],[(4,bk (eVb a1)),(5,bk (eVb a2)),(6,bk (eV0))]⟩ (sr (vr (i6 a0) (vl (eVb a2) rfl rfl rfl rfl rfl rfl (vl (eVb a2) rfl rfl rfl rfl rfl rfl ?_))))))))
 obtain ⟨r3,hr4,h⟩:=bind_some h
 refine ca (spec_l01Times_ok a0 a2 a2 r3 hr4) (vr (.tuple [(eVb r3.1),(.bool r3.2)]) (vb (eVb r3.1) rfl rfl (vb (.bool r3.2) rfl rfl (vo 1700 (eV0) rfl rfl (vs (eVb r3.1) rfl rfl (fun _=>rfl) rfl rfl rfl rfl rfl rfl (vr (.bool r3.2) (nk ⟨[(0,i6 a0),(4,ow 4),(6,ow 6),(7,ow 7)],[(4,bk (eVb a1)),(6,bk (eV0)),(7,bk (eVb r3.1))]⟩ (sr (vr (i6 a0) ?_)))))))))
 refine vl (eVb r3.1) rfl rfl rfl rfl rfl rfl (vl (eVb a1) rfl rfl rfl rfl rfl rfl ?_)
 obtain ⟨r8,hr9,h⟩:=bind_some h
 refine ca (spec_l01Add_ok a0 r3.1 a1 (-1) r8 hr9) (vs (eVb r8) rfl rfl (fun _=>rfl) rfl rfl rfl rfl rfl rfl (nx _ rfl (a_ret ?_)))
 have hl11:LdOk [] (eVb r8) [] 64 true (eVb r8):=(.nil rfl rfl rfl)
 refine ⟨.inr rfl,?_⟩
 rw [Try.results78]
 cases h
 exact ⟨_,_,_,_,_,ld_own (i:=⟨.arr 64 5,64,64,(eVb (vrep 64 (0:Int)))⟩) rfl rfl rfl hl11,hl11.c,.inl ⟨rfl,.inl rfl⟩,rfl,rfl⟩
def spec_l01Mod_L:Live:=[(0,[0,1,2]),(1,[0,4,5,6]),(2,[6,8])]
noncomputable def spec_l01Mod (a0:Int) (a1:(Vec Int 64)) (a2:(Vec Int 64)):Option (Vec Int 64) :=
 (Option.bind (spec_l01Divide a0 a1 a2) fun r3=>(some r3.2))
theorem spec_l01Mod_ok (a0:Int) (a1:(Vec Int 64)) (a2:(Vec Int 64)) (r:(Vec Int 64)) (h:spec_l01Mod a0 a1 a2=some r):Den Try.prog 77 [(i6 a0),(eVb a1),(eVb a2)] { r:=(eVb r) }:=by
 refine dd (rs:=[(eVb r)]) (L:=spec_l01Mod_L) good [] Try.func77 Try.ntmps77 ?_
 refine ns ⟨[(0,i6 a0),(1,eVb a1),(2,eVb a2)],[]⟩ ?_
 refine sr (vo 1400 (eVb a1) rfl rfl (vo 1500 (eVb a2) rfl rfl (vo 1600 (eV0) rfl rfl (nk ⟨[(0,i6 a0),(4,ow 4),(5,ow 5),(6,ow 6)],[(4,bk (eVb a1)),(5,bk (eVb a2)),(6,bk (eV0))]⟩ (sr (vr (i6 a0) (vl (eVb a1) rfl rfl rfl rfl rfl rfl (vl (eVb a2) rfl rfl rfl rfl rfl rfl ?_))))))))
 obtain ⟨r3,hr4,h⟩:=bind_some h
 refine ca (spec_l01Divide_ok a0 a1 a2 r3 hr4) (vr (.tuple [(eVb r3.1),(eVb r3.2)]) (vb (eVb r3.1) rfl rfl (vb (eVb r3.2) rfl rfl (vo 1700 (eV0) rfl rfl (vo 1800 (eV0) rfl rfl (vs (eVb r3.1) rfl rfl (fun _=>rfl) rfl rfl rfl rfl rfl rfl (vs (eVb r3.2) rfl rfl (fun _=>rfl) rfl rfl rfl rfl rfl rfl (nk ⟨[(6,ow 6),(8,ow 8)],[(6,bk (eV0)),(8,bk (eVb r3.2))]⟩ (sr ?_)))))))))
 refine vl (eVb r3.2) rfl rfl rfl rfl rfl rfl (vs (eVb r3.2) rfl rfl (fun _=>rfl) rfl rfl rfl rfl rfl rfl (nx _ rfl (a_ret ?_)))
 have hl9:LdOk [] (eVb r3.2) [] 64 true (eVb r3.2):=(.nil rfl rfl rfl)
 refine ⟨.inr rfl,?_⟩
 rw [Try.results77]
 cases h
 exact ⟨_,_,_,_,_,ld_own (i:=⟨.arr 64 5,64,64,(eVb (vrep 64 (0:Int)))⟩) rfl rfl rfl hl9,hl9.c,.inl ⟨rfl,.inl rfl⟩,rfl,rfl⟩
def spec_l07Form_L:Live:=[(0,[0,1,2]),(1,[0,4,5]),(2,[]),(3,[0,4,5]),(100039,[0,4,5,39])]
noncomputable def spec_l07Form (a0:Int) (a1:(Vec Int 64)) (a2:((Vec Int 64)×(Vec Int 64))):Option Bool :=
 (Option.bind (α:=Bool) ((Option.bind (spec_l01Is a0 a2.1) fun r72=>(if (!r72) then (some true) else (Option.bind (spec_l01Is a0 a2.2) fun r76=>(if (!r76) then (some true) else (Option.bind (spec_l01Monic a2.1) fun r80=>(if (!r80) then (some true) else (Option.bind (spec_l01Deg a2.1) fun r84=>(if (decide (r84 > 12)) then (some true) else (Option.bind (spec_l01Deg a2.2) fun r88=>(Option.bind (spec_l01Deg a2.1) fun r91=>(some ((decide (r88 ≥ r91))))))))))))))) fun x45=>(if x45 then (some false) else (Option.bind (spec_l07Square a0 a1 a2.2) fun r105=>(Option.bind (spec_l01Mod a0 r105 a2.1) fun r108=>(Option.bind (spec_l01Deg r108) fun r110=>(some ((decide (r110 < 0)))))))))
theorem spec_l07Form_ok (a0:Int) (a1:(Vec Int 64)) (a2:((Vec Int 64)×(Vec Int 64))) (r:Bool) (h:spec_l07Form a0 a1 a2=some r):Den Try.prog 42 [(i6 a0),(eVb a1),(eT_A64u8_A64u8_Z a2)] { r:=(.bool r) }:=by
 refine dd (rs:=[(.bool r)]) (L:=spec_l07Form_L) good [] Try.func42 Try.ntmps42 ?_
 refine ns ⟨[(0,i6 a0),(1,eVb a1),(2,eT_A64u8_A64u8_Z a2)],[]⟩ ?_
 refine sr (vo 1400 (eVb a1) rfl rfl (vo 1500 (eT_A64u8_A64u8_Z a2) rfl rfl (vr (.bool false) (nk ⟨[(0,i6 a0),(4,ow 4),(5,ow 5)],[(4,bk (eVb a1)),(5,bk (eT_A64u8_A64u8_Z a2))]⟩ (a_seq ?_)))))
 obtain ⟨y46,hy47,hk48⟩:=bind_some h
 clear h
 refine a_join (emb:=fun (s:Bool)=>⟨[(0,i6 a0),(4,ow 4),(5,ow 5),(39,.bool s)],[(4,bk (eVb a1)),(5,bk (eT_A64u8_A64u8_Z a2))]⟩) (pre:=fun s=>s=y46) ?_ ?_
 ·rintro x45 rfl
  have h:=hk48
  refine ns ⟨[(0,i6 a0),(4,ow 4),(5,ow 5),(39,.bool x45)],[(4,bk (eVb a1)),(5,bk (eT_A64u8_A64u8_Z a2))]⟩ ?_
  cases hb93:x45
  ·have h:=ite_f hb93 h
   refine a_cond_f rfl (a_skip (nj ⟨[(0,i6 a0),(4,ow 4),(5,ow 5)],[(4,bk (eVb a1)),(5,bk (eT_A64u8_A64u8_Z a2))]⟩ (a_seq (a_draw [⟨[],[],[],[]⟩,⟨[],[],[],[]⟩,⟨[4],[],[],[]⟩,⟨[5],[],[5],[]⟩,⟨[5],[],[],[3]⟩,⟨[],[],[],[1,2,3,4]⟩,⟨[5],[],[5],[]⟩,⟨[5],[],[],[6]⟩,⟨[],[],[],[0,1,2,3,4,5,6,7]⟩,⟨[],[],[],[0,1,2,3,4,5,6,7,8]⟩,⟨[],[],[],[0,1,2,3,4,5,6,7,8,9]⟩,⟨[],[],[],[0,1,2,3,4,5,6,7,8,9,10]⟩] (by kernel_rfl) (dj (i6 a0) rfl (dj (i6 a0) rfl (d_cons (vl (eVb a1) rfl rfl rfl rfl rfl rfl (dn ?_)))))))))
   refine d_cons (vb (.own 5 [1] [64]) rfl rfl (dn (d_cons ?_)))
   have hl104:LdOk [1] (eT_A64u8_A64u8_Z a2) [64] 64 true (eVb a2.2):=(.fld rfl rfl rfl rfl (.nil rfl rfl rfl))
   refine vq (eVb a2.2) (ld_own (i:=⟨.arr 64 5,64,64,(eVb (vrep 64 (0:Int)))⟩) rfl rfl rfl hl104) hl104.c (dn (d_cons ?_))
   obtain ⟨r105,hr106,h⟩:=bind_some h
   refine ca (spec_l07Square_ok a0 a1 a2.2 r105 hr106) (dn (d_cons (vb (.own 5 [0] [0]) rfl rfl (dn (d_cons ?_)))))
   have hl107:LdOk [0] (eT_A64u8_A64u8_Z a2) [0] 64 true (eVb a2.1):=(.fld rfl rfl rfl rfl (.nil rfl rfl rfl))
   refine vq (eVb a2.1) (ld_own (i:=⟨.arr 64 5,64,64,(eVb (vrep 64 (0:Int)))⟩) rfl rfl rfl hl107) hl107.c (dn (d_cons ?_))
   obtain ⟨r108,hr109,h⟩:=bind_some h
   refine ca (spec_l01Mod_ok a0 r105 a2.1 r108 hr109) (dn (d_cons ?_))
   obtain ⟨r110,hr111,h⟩:=bind_some h
   refine ca (spec_l01Deg_ok r108 r110 hr111) (dn (dj (.bool ((decide (r110 < 0)))) rfl (dj (.bool ((decide (r110 < 0)))) rfl (d_nil (a_next rfl (a_ret ?_))))))
   refine ⟨.inr rfl,?_⟩
   rw [Try.results42]
   cases h
   exact ⟨_,_,_,_,_,rfl,trivial,.inl ⟨rfl,.inl rfl⟩,rfl,rfl⟩
  ·have h:=ite_t hb93 h
   refine a_cond_t rfl (sr (vr (.bool false) (nx _ rfl (a_ret (t_ret ?_)))))
   refine ⟨.inr rfl,?_⟩
   rw [Try.results42]
   cases h
   exact ⟨_,_,_,_,_,rfl,trivial,.inl ⟨rfl,.inl rfl⟩,rfl,rfl⟩
 ·have h:=hy47
  refine a_draw [⟨[],[],[],[]⟩,⟨[5],[],[5],[]⟩,⟨[5],[],[],[1]⟩,⟨[],[],[],[0,1,2]⟩,⟨[],[],[],[0,1,2,3]⟩,⟨[],[],[],[0,1,2,3,4]⟩,⟨[],[],[],[0,1,2,3,4,5]⟩,⟨[5],[],[5],[0,1,2,3,4,5]⟩,⟨[5],[],[],[0,1,2,3,4,5,7]⟩,⟨[],[],[],[0,1,2,3,4,5,6,7,8]⟩,⟨[],[],[],[0,1,2,3,4,5,6,7,8,9]⟩,⟨[],[],[],[0,1,2,3,4,5,6,7,8,9,10]⟩,⟨[],[],[],[0,1,2,3,4,5,6,7,8,9,10,11]⟩,⟨[5],[],[5],[0,1,2,3,4,5,6,7,8,9,10,11,12]⟩,⟨[5],[],[],[0,1,2,3,4,5,6,7,8,9,10,11,12,13]⟩,⟨[],[],[],[0,1,2,3,4,5,6,7,8,9,10,11,12,13,14]⟩,⟨[],[],[],[0,1,2,3,4,5,6,7,8,9,10,11,12,13,14,15]⟩,⟨[],[],[],[0,1,2,3,4,5,6,7,8,9,10,11,12,13,14,15,16]⟩,⟨[],[],[],[0,1,2,3,4,5,6,7,8,9,10,11,12,13,14,15,16,17]⟩,⟨[5],[],[5],[0,1,2,3,4,5,6,7,8,9,10,11,12,13,14,15,16,17,18]⟩,⟨[5],[],[],[0,1,2,3,4,5,6,7,8,9,10,11,12,13,14,15,16,17,18,19]⟩,⟨[],[],[],[0,1,2,3,4,5,6,7,8,9,10,11,12,13,14,15,16,17,18,19,20]⟩,⟨[],[],[],[0,1,2,3,4,5,6,7,8,9,10,11,12,13,14,15,16,17,18,19,20,21]⟩,⟨[],[],[],[0,1,2,3,4,5,6,7,8,9,10,11,12,13,14,15,16,17,18,19,20,21,22]⟩,⟨[],[],[],[0,1,2,3,4,5,6,7,8,9,10,11,12,13,14,15,16,17,18,19,20,21,22,23]⟩,⟨[5],[],[5],[0,1,2,3,4,5,6,7,8,9,10,11,12,13,14,15,16,17,18,19,20,21,22,23,24]⟩,⟨[5],[],[],[0,1,2,3,4,5,6,7,8,9,10,11,12,13,14,15,16,17,18,19,20,21,22,23,24,25]⟩,⟨[],[],[],[0,1,2,3,4,5,6,7,8,9,10,11,12,13,14,15,16,17,18,19,20,21,22,23,24,25,26]⟩,⟨[5],[],[5],[0,1,2,3,4,5,6,7,8,9,10,11,12,13,14,15,16,17,18,19,20,21,22,23,24]⟩,⟨[5],[],[],[0,1,2,3,4,5,6,7,8,9,10,11,12,13,14,15,16,17,18,19,20,21,22,23,24,28]⟩,⟨[],[],[],[0,1,2,3,4,5,6,7,8,9,10,11,12,13,14,15,16,17,18,19,20,21,22,23,24,25,26,27,28,29]⟩,⟨[],[],[],[0,1,2,3,4,5,6,7,8,9,10,11,12,13,14,15,16,17,18,19,20,21,22,23,24,25,26,27,28,29,30]⟩,⟨[],[],[],[0,1,2,3,4,5,6,7,8,9,10,11,12,13,14,15,16,17,18,19,20,21,22,23,24,25,26,27,28,29,30,31]⟩] (by kernel_rfl) (dj (i6 a0) rfl (d_cons (vb (.own 5 [0] [0]) rfl rfl (dn (d_cons ?_)))))
  have hl71:LdOk [0] (eT_A64u8_A64u8_Z a2) [0] 64 true (eVb a2.1):=(.fld rfl rfl rfl rfl (.nil rfl rfl rfl))
  refine vq (eVb a2.1) (ld_own (i:=⟨.arr 64 5,64,64,(eVb (vrep 64 (0:Int)))⟩) rfl rfl rfl hl71) hl71.c (dn (d_cons ?_))
  obtain ⟨r72,hr73,h⟩:=bind_some h
  refine ca (spec_l01Is_ok a0 a2.1 r72 hr73) (dn (dj (.bool (!r72)) rfl (dj (.bool (!r72)) rfl ?_)))
  cases hb74:(!r72)
  ·have h:=ite_f hb74 h
   refine dg (i6 a0) rfl rfl (by kernel_rfl) (d_cons (gq (.own 5 [1] [64]) rfl rfl (Nat.le_of_ble_eq_true rfl) (dn (d_cons ?_))))
   have hl75:LdOk [1] (eT_A64u8_A64u8_Z a2) [64] 64 true (eVb a2.2):=(.fld rfl rfl rfl rfl (.nil rfl rfl rfl))
   refine gq (eVb a2.2) rfl (ld_own (i:=⟨.arr 64 5,64,64,(eVb (vrep 64 (0:Int)))⟩) rfl rfl rfl hl75) hl75.c (dn (d_cons ?_))
   obtain ⟨r76,hr77,h⟩:=bind_some h
   refine a_gcall rfl (args:=[(i6 a0),(eVb a2.2)]) (u:=[]) (r:=(.bool r76)) rfl rfl (spec_l01Is_ok a0 a2.2 r76 hr77) rfl (dn (dg (.bool (!r76)) rfl rfl (by kernel_rfl) (dj (.bool (!r76)) rfl (dj (.bool (!r76)) rfl ?_))))
   cases hb78:(!r76)
   ·have h:=ite_f hb78 h
    refine d_cons (gq (.own 5 [0] [0]) rfl rfl (Nat.le_of_ble_eq_true rfl) (dn (d_cons ?_)))
    have hl79:LdOk [0] (eT_A64u8_A64u8_Z a2) [0] 64 true (eVb a2.1):=(.fld rfl rfl rfl rfl (.nil rfl rfl rfl))
    refine gq (eVb a2.1) rfl (ld_own (i:=⟨.arr 64 5,64,64,(eVb (vrep 64 (0:Int)))⟩) rfl rfl rfl hl79) hl79.c (dn (d_cons ?_))
    obtain ⟨r80,hr81,h⟩:=bind_some h
    refine a_gcall rfl (args:=[(eVb a2.1)]) (u:=[]) (r:=(.bool r80)) rfl rfl (spec_l01Monic_ok a2.1 r80 hr81) rfl (dn (dg (.bool (!r80)) rfl rfl (by kernel_rfl) (dj (.bool (!r80)) rfl (dj (.bool (!r80)) rfl ?_))))
    cases hb82:(!r80)
    ·have h:=ite_f hb82 h
     refine d_cons (gq (.own 5 [0] [0]) rfl rfl (Nat.le_of_ble_eq_true rfl) (dn (d_cons ?_)))
     have hl83:LdOk [0] (eT_A64u8_A64u8_Z a2) [0] 64 true (eVb a2.1):=(.fld rfl rfl rfl rfl (.nil rfl rfl rfl))
     refine gq (eVb a2.1) rfl (ld_own (i:=⟨.arr 64 5,64,64,(eVb (vrep 64 (0:Int)))⟩) rfl rfl rfl hl83) hl83.c (dn (d_cons ?_))
     obtain ⟨r84,hr85,h⟩:=bind_some h
     refine a_gcall rfl (args:=[(eVb a2.1)]) (u:=[]) (r:=(i6 r84)) rfl rfl (spec_l01Deg_ok a2.1 r84 hr85) rfl (dn (dg (.bool ((decide (r84 > 12)))) rfl rfl (by kernel_rfl) (dj (.bool ((decide (r84 > 12)))) rfl (dj (.bool ((decide (r84 > 12)))) rfl ?_))))
     cases hb86:(decide (r84 > 12))
     ·have h:=ite_f hb86 h
      refine d_cons (gq (.own 5 [1] [64]) rfl rfl (Nat.le_of_ble_eq_true rfl) (dn (d_cons ?_)))
      have hl87:LdOk [1] (eT_A64u8_A64u8_Z a2) [64] 64 true (eVb a2.2):=(.fld rfl rfl rfl rfl (.nil rfl rfl rfl))
      refine gq (eVb a2.2) rfl (ld_own (i:=⟨.arr 64 5,64,64,(eVb (vrep 64 (0:Int)))⟩) rfl rfl rfl hl87) hl87.c (dn (d_cons ?_))
      obtain ⟨r88,hr89,h⟩:=bind_some h
      refine a_gcall rfl (args:=[(eVb a2.2)]) (u:=[]) (r:=(i6 r88)) rfl rfl (spec_l01Deg_ok a2.2 r88 hr89) rfl (dn (d_cons (gq (.own 5 [0] [0]) rfl rfl (Nat.le_of_ble_eq_true rfl) (dn (d_cons ?_)))))
      have hl90:LdOk [0] (eT_A64u8_A64u8_Z a2) [0] 64 true (eVb a2.1):=(.fld rfl rfl rfl rfl (.nil rfl rfl rfl))
      refine gq (eVb a2.1) rfl (ld_own (i:=⟨.arr 64 5,64,64,(eVb (vrep 64 (0:Int)))⟩) rfl rfl rfl hl90) hl90.c (dn (d_cons ?_))
      obtain ⟨r91,hr92,h⟩:=bind_some h
      refine a_gcall rfl (args:=[(eVb a2.1)]) (u:=[]) (r:=(i6 r91)) rfl rfl (spec_l01Deg_ok a2.1 r91 hr92) rfl (dn (dg (.bool ((decide (r88 ≥ r91)))) rfl rfl (by kernel_rfl) (dj (.bool ((decide (r88 ≥ r91)))) rfl (d_nil ?_))))
      exact jl ((decide (r88 ≥ r91))) h
     ·have h:=ite_t hb86 h
      refine dk rfl (by kernel_rfl) (dk rfl (by kernel_rfl) (dk rfl (by kernel_rfl) (dk rfl (by kernel_rfl) (dk rfl (by kernel_rfl) (dk rfl (by kernel_rfl) (dk rfl (by kernel_rfl) (dj (.bool true) rfl (d_nil ?_))))))))
      exact jl true h
    ·have h:=ite_t hb82 h
     refine dk rfl (by kernel_rfl) (dk rfl (by kernel_rfl) (dk rfl (by kernel_rfl) (dk rfl (by kernel_rfl) (dj (.bool true) rfl (dj (.bool true) rfl (dk rfl (by kernel_rfl) (dk rfl (by kernel_rfl) (dk rfl (by kernel_rfl) (dk rfl (by kernel_rfl) ?_)))))))))
     refine dk rfl (by kernel_rfl) (dk rfl (by kernel_rfl) (dk rfl (by kernel_rfl) (dj (.bool true) rfl (d_nil ?_))))
     exact jl true h
   ·have h:=ite_t hb78 h
    refine dk rfl (by kernel_rfl) (dk rfl (by kernel_rfl) (dk rfl (by kernel_rfl) (dk rfl (by kernel_rfl) (dj (.bool true) rfl (dj (.bool true) rfl (dk rfl (by kernel_rfl) (dk rfl (by kernel_rfl) (dk rfl (by kernel_rfl) (dk rfl (by kernel_rfl) ?_)))))))))
    refine dj (.bool true) rfl (dj (.bool true) rfl (dk rfl (by kernel_rfl) (dk rfl (by kernel_rfl) (dk rfl (by kernel_rfl) (dk rfl (by kernel_rfl) (dk rfl (by kernel_rfl) (dk rfl (by kernel_rfl) (dk rfl (by kernel_rfl) (dj (.bool true) rfl ?_)))))))))
    refine d_nil ?_
    exact jl true h
  ·have h:=ite_t hb74 h
   refine dk rfl (by kernel_rfl) (dk rfl (by kernel_rfl) (dk rfl (by kernel_rfl) (dk rfl (by kernel_rfl) (dk rfl (by kernel_rfl) (dj (.bool true) rfl (dj (.bool true) rfl (dk rfl (by kernel_rfl) (dk rfl (by kernel_rfl) (dk rfl (by kernel_rfl) ?_)))))))))
   refine dk rfl (by kernel_rfl) (dj (.bool true) rfl (dj (.bool true) rfl (dk rfl (by kernel_rfl) (dk rfl (by kernel_rfl) (dk rfl (by kernel_rfl) (dk rfl (by kernel_rfl) (dj (.bool true) rfl (dj (.bool true) rfl (dk rfl (by kernel_rfl) ?_)))))))))
   refine dk rfl (by kernel_rfl) (dk rfl (by kernel_rfl) (dk rfl (by kernel_rfl) (dk rfl (by kernel_rfl) (dk rfl (by kernel_rfl) (dk rfl (by kernel_rfl) (dj (.bool true) rfl (d_nil ?_)))))))
   exact jl true h
end Go.Proofs.Ytebfhlnfmkhmcaa
