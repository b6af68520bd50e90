/- Functions of the program: plain Lean functions, and that the program computes them. Printed by gen.py. -/
import Derived.Test.YtkbnegemdlnncaaFnT
import Derived.Test.YtkbnegemdlnncaaFn1
import Derived.Test.YtkbnegemdlnncaaFn2
import Derived.Test.YtkbnegemdlnncaaFn3
import Derived.Test.YtkbnegemdlnncaaFn4
import Derived.Test.YtkbnegemdlnncaaFn5
import Derived.Test.YtkbnegemdlnncaaFn6
import Derived.Test.YtkbnegemdlnncaaFn7
namespace Go.Proofs.Ytkbnegemdlnncaa
open Go.Abs Go.Proofs
set_option linter.unusedSimpArgs false
set_option linter.unusedVariables false
set_option maxHeartbeats 16000000
attribute [local irreducible] Abs.acode Abs.aops Abs.aopsT Abs.thenK Abs.blockK

def laws_polys5_c : ACode:=(.seq (.region 0 [q 4 (.asg 0 (.const (.bool false)) 4)] false) (.seq (.seq (.region 1 [q 6 (.mov (t 0)),q 7 (.blt 0 .len [(t 6)] [55]),q 8 (.mov (t 1)),q 9 (.blt 0 .len [(t 8)] [55]),q 10 (.bin .neq 3 (t 7) (t 9))] false) (.cond (t 10) (.seq (.region 2 [q 4 (.asg 0 (.const (.bool false)) 4)] false) .ret) .skip)) (.seq (.seq (.region 3 [q 5 (.asg 0 (.const (.int .i64 0)) 3)] false) (.block 0 (.loop (.seq (.seq (.region 4 [q 11 (.mov (t 5)),q 12 (.mov (t 0)),q 13 (.blt 0 .len [(t 12)] [55]),q 14 (.bin .lss 3 (t 11) (t 13))] false) (.cond (t 14) .skip (.exit 0))) (.seq (.block 1 (.seq (.region 6 [q 17 (.mov (t 0)),q 18 (.mov (t 5)),⟨some 19,.indexAddr 55 (t 17) (t 18),none,[0,1]⟩,⟨some 20,.load 25 (t 19),none,[2]⟩,q 21 (.mov (t 1)),q 22 (.mov (t 5)),⟨some 23,.indexAddr 55 (t 21) (t 22),none,[4,5]⟩,⟨some 24,.load 25 (t 23),none,[6]⟩,⟨some 25,.bin .neq 25 (t 20) (t 24),none,[3,7]⟩] true) (.cond (t 25) (.seq (.region 7 [q 4 (.asg 0 (.const (.bool false)) 4)] false) .ret) .skip))) (.region 5 [q 15 (.mov (t 5)),q 16 (.bin .add 3 (t 15) (.const (.int .i64 1))),q 5 (.asg 0 (t 16) 3)] false)))))) (.seq (.region 8 [q 4 (.asg 0 (.const (.bool true)) 4)] false) .ret))))
def laws_polys5_L : Live:=[(0,[0,1]),(1,[0,1]),(2,[]),(3,[0,1]),(4,[0,1,5]),(5,[0,1,5]),(6,[0,1,5]),(7,[]),(8,[]),(100010,[0,1,10]),(100014,[0,1,5,14]),(100025,[0,1,5,25])]
noncomputable def laws_polys5_l1 (a0 : (List (Vec Int 64))) (a1 : (List (Vec Int 64))) (x50 : Int) : Option (Int ⊕ (Unit ⊕ Bool)) :=
 (if (decide (x50 < (a0.length : Int))) then (ifp (0 ≤ x50 ∧ x50 < ((a0.length : Nat) : Int)) ((ifp (0 ≤ x50 ∧ x50 < ((a1.length : Nat) : Int)) ((if (!decide ((rd a0 x50.toNat) = (rd a1 x50.toNat))) then (some (.inr (.inr false))) else (some (.inl (IntKind.i64.wrap (x50 + 1))))))))) else (some (.inr (((.inl ()))))))
noncomputable def laws_polys5 (a0 : (List (Vec Int 64))) (a1 : (List (Vec Int 64))) : Option Bool :=
 (if ((a0.length : Int) != (a1.length : Int)) then (some false) else (Option.bind (α:=(Unit ⊕ Bool)) ((loopM (fun s : Int=>laws_polys5_l1 a0 a1 s) 0)) fun z=>match z with | .inl _=>(some true) | .inr r75=>(some r75)))
theorem laws_polys5_ok (a0 : (List (Vec Int 64))) (a1 : (List (Vec Int 64))) (r : Bool) (h : laws_polys5 a0 a1 = some r) : Den Try.prog 98 [(eSA64u8 a0),(eSA64u8 a1)] { r:=(.bool r) }:=by
 refine den_of (rs:=[(.bool r)]) (ac:=laws_polys5_c) (L:=laws_polys5_L) (n:=26) (m:=[]) (c:=Try.f98.body.getD .skip) good Try.func98 (by kernel_rfl) (by kernel_rfl) Try.ntmps98 rfl rfl (by kernel_rfl) rfl rfl ?_
 refine ns ⟨[(0,eSA64u8 a0),(1,eSA64u8 a1)],[]⟩ ?_
 unfold laws_polys5_c
 refine sr (vp (.bool false) rfl (nk ⟨[(0,eSA64u8 a0),(1,eSA64u8 a1)],[]⟩ (a_seq (sr (vp (eSA64u8 a0) rfl (vq (i6 (a0.length : Int)) (len_run rfl rfl) trivial (vp (eSA64u8 a1) rfl (vq (i6 (a1.length : Int)) (len_run rfl rfl) trivial (vp (.bool (((a0.length : Int) != (a1.length : Int)))) rfl ?_)))))))))
 refine nk ⟨[(0,eSA64u8 a0),(1,eSA64u8 a1),(10,.bool (((a0.length : Int) != (a1.length : Int))))],[]⟩ ?_
 cases hb1 : ((a0.length : Int) != (a1.length : Int))
 ·have h:=ite_f hb1 h
  refine a_cond_f rfl (a_skip (nj ⟨[(0,eSA64u8 a0),(1,eSA64u8 a1)],[]⟩ ?_))
  obtain ⟨y37,hy38,hk39⟩:=bind_some h
  clear h
  refine a_join (emb:=fun (s : Unit)=>⟨[],[]⟩) (pre:=fun s=>(.inl s) = y37) ?_ ?_
  ·rintro _ rfl
   have h:=hk39
   refine ns ⟨[],[]⟩ (sr (vp (.bool true) rfl (nx _ rfl (a_ret ?_))))
   refine ⟨.inr rfl,?_⟩
   rw [Try.results98]
   cases h
   exact ⟨_,_,_,_,_,rfl,trivial,.inl ⟨rfl,.inl rfl⟩,rfl,rfl⟩
  ·have h:=hy38
   refine sr (vp (i6 0) rfl (nk ⟨[(0,eSA64u8 a0),(1,eSA64u8 a1),(5,i6 0)],[]⟩ (a_block ?_)))
   refine a_loop (emb:=fun (s : Int)=>⟨[(0,eSA64u8 a0),(1,eSA64u8 a1),(5,i6 s)],[]⟩) (body:=(fun s : Int=>laws_polys5_l1 a0 a1 s)) (G:=fun q=>some q = some y37) h rfl ?_ (by kernel_rfl)
   rintro X61 x50 x62 h hX63
   have h : laws_polys5_l1 a0 a1 x50 = some x62:=h
   refine ns ⟨[(0,eSA64u8 a0),(1,eSA64u8 a1),(5,i6 x50)],[]⟩ (a_seq (sr (vp (i6 x50) rfl (vp (eSA64u8 a0) rfl (vq (i6 (a0.length : Int)) (len_run rfl rfl) trivial (vp (.bool ((decide (x50 < (a0.length : Int))))) rfl (nk ⟨[(0,eSA64u8 a0),(1,eSA64u8 a1),(5,i6 x50),(14,.bool ((decide (x50 < (a0.length : Int)))))],[]⟩ ?_)))))))
   cases hb64 : (decide (x50 < (a0.length : Int)))
   ·have h:=ite_f hb64 h
    refine a_cond_f rfl (a_exit (t_exit ?_))
    cases h
    have h:=hX63
    refine t_exit (b_exit ?_)
    exact j_leaf () (Option.some.inj h) (by kernel_rfl)
   ·have h:=ite_t hb64 h
    refine a_cond_t rfl (a_skip (nj ⟨[(0,eSA64u8 a0),(1,eSA64u8 a1),(5,i6 x50)],[]⟩ (a_seq (a_block (a_seq (a_draw [⟨[],[],[],[]⟩,⟨[],[],[],[]⟩,⟨[],[],[],[0,1]⟩,⟨[],[],[],[0,1,2]⟩,⟨[],[],[],[]⟩,⟨[],[],[],[]⟩,⟨[],[],[],[4,5]⟩,⟨[],[],[],[4,5,6]⟩,⟨[],[],[],[0,1,2,3,4,5,6,7]⟩] (by kernel_rfl) (dj (eSA64u8 a0) rfl (dj (i6 x50) rfl (d_cons ?_)))))))))
    obtain ⟨hc69,h⟩:=ifp_some h
    refine vq (.ref (.row 64 (a0.map eVb)) [x50.toNat] [x50.toNat * 64]) rfl (lmap hc69) (d_next (by kernel_rfl) (d_cons ?_))
    have hl70 : LdOk [x50.toNat] (.row 64 (a0.map eVb)) [x50.toNat * 64] 64 true (eVb (rd a0 x50.toNat)):=(.row (llt hc69) rfl (.nil rfl rfl rfl))
    refine vq (eVb (rd a0 x50.toNat)) (ld_ref (i:=⟨.arr 64 5,64,64,(eVb (vrep 64 (0 : Int)))⟩) rfl rfl hl70) hl70.c (d_next (by kernel_rfl) (dj (eSA64u8 a1) rfl (dj (i6 x50) rfl (d_cons ?_))))
    obtain ⟨hc71,h⟩:=ifp_some h
    refine vq (.ref (.row 64 (a1.map eVb)) [x50.toNat] [x50.toNat * 64]) rfl (lmap hc71) (d_next (by kernel_rfl) (d_cons ?_))
    have hl72 : LdOk [x50.toNat] (.row 64 (a1.map eVb)) [x50.toNat * 64] 64 true (eVb (rd a1 x50.toNat)):=(.row (llt hc71) rfl (.nil rfl rfl rfl))
    refine vq (eVb (rd a1 x50.toNat)) (ld_ref (i:=⟨.arr 64 5,64,64,(eVb (vrep 64 (0 : Int)))⟩) rfl rfl hl72) hl72.c (d_next (by kernel_rfl) (d_cons (vq (.bool ((!decide ((rd a0 x50.toNat) = (rd a1 x50.toNat))))) (nea_run (f:=(AV.int .u8)) (a:=(rd a0 x50.toNat).1) (b:=(rd a1 x50.toNat).1) rfl rfl (eqb_vec (fun _ _=>eqb_int _ _) (rd a0 x50.toNat) (rd a1 x50.toNat))) (cmp_arr (g:=8) (f:=(AV.int .u8)) (x:=(rd a0 x50.toNat)) (y:=(rd a1 x50.toNat)) rfl rfl rfl (fun _ _=>rfl) (fun _ _=>cmp_int rfl)) (d_next (by kernel_rfl) (d_nil (nj ⟨[(0,eSA64u8 a0),(1,eSA64u8 a1),(5,i6 x50),(25,.bool ((!decide ((rd a0 x50.toNat) = (rd a1 x50.toNat)))))],[]⟩ ?_))))))
    cases hb73 : (!decide ((rd a0 x50.toNat) = (rd a1 x50.toNat)))
    ·have h:=ite_f hb73 h
     refine a_cond_f rfl (a_skip (b_norm (nj ⟨[(0,eSA64u8 a0),(1,eSA64u8 a1),(5,i6 x50)],[]⟩ (a_region (vp (i6 x50) rfl (vp (i6 (IntKind.i64.wrap (x50 + 1))) rfl (vp (i6 (IntKind.i64.wrap (x50 + 1))) rfl (a_nil ?_))))))))
     cases h
     exact a_again (by kernel_rfl) hX63
    ·have h:=ite_t hb73 h
     refine a_cond_t rfl (sr (vp (.bool false) rfl (nx _ rfl (a_ret (b_ret (t_ret ?_))))))
     cases h
     have h:=hX63
     refine t_ret (b_ret (t_ret ?_))
     cases h
     have h:=hk39
     refine ⟨.inr rfl,?_⟩
     rw [Try.results98]
     cases h
     exact ⟨_,_,_,_,_,rfl,trivial,.inl ⟨rfl,.inl rfl⟩,rfl,rfl⟩
 ·have h:=ite_t hb1 h
  refine a_cond_t rfl (sr (vp (.bool false) rfl (nx _ rfl (a_ret (t_ret ?_)))))
  refine ⟨.inr rfl,?_⟩
  rw [Try.results98]
  cases h
  exact ⟨_,_,_,_,_,rfl,trivial,.inl ⟨rfl,.inl rfl⟩,rfl,rfl⟩
def laws_FnPowers_c : ACode:=(.seq (.region 0 [q 2 (.asg 0 (.const (.bool false)) 4)] false) (.seq (.seq (.region 1 [q 62 (.mov (t 0)),q 63 (.call 0 (.func 10) [(t 62)])] false) (.cond (t 63) (.seq (.region 2 [q 2 (.asg 0 (.const (.bool true)) 4)] false) .ret) .skip)) (.seq (.region 3 [q 65 (.mov (t 0)),q 66 (.call 0 (.func 79) [(t 65)]),q 64 (.mov (t 66)),q 67 (.extract (t 64) 0),q 68 (.extract (t 64) 1),q 69 (.extract (t 64) 2),q 70 (.extract (t 64) 3),q 4 (.alloc 25),q 6 (.alloc 25),q 3 (.asg 0 (t 67) 2),⟨none,.store 25 (t 4) (t 68),none,[]⟩,q 5 (.asg 0 (t 69) 2),⟨none,.store 25 (t 6) (t 70),none,[]⟩] false) (.seq (.region 4 [q 72 (.mov (t 3)),q 73 (.load 25 (t 4)),q 74 (.mov (t 5)),q 75 (.load 25 (t 6)),q 76 (.call 0 (.func 80) [(t 72),(t 73),(t 74),(t 75)]),q 71 (.mov (t 76)),q 77 (.extract (t 71) 0),q 78 (.extract (t 71) 1),q 7 (.alloc 25),⟨none,.store 25 (t 7) (t 77),none,[]⟩,q 8 (.asg 0 (t 78) 2)] false) (.seq (.region 5 [q 80 (.mov (t 3)),q 81 (.load 25 (t 4)),q 82 (.mov (t 5)),q 83 (.load 25 (t 6)),q 84 (.call 0 (.func 81) [(t 80),(t 81),(t 82),(t 83)]),q 79 (.mov (t 84)),q 85 (.extract (t 79) 0),q 86 (.extract (t 79) 1),q 9 (.alloc 25),⟨none,.store 25 (t 9) (t 85),none,[]⟩,q 10 (.asg 0 (t 86) 2)] false) (.seq (.seq (.region 6 [q 87 (.mov (t 8)),q 88 (.mov (t 10)),q 89 (.bin .neq 2 (t 87) (t 88)),q 90 (.mov (t 89)),⟨some 91,.load 25 (t 7),some (90,false),[]⟩,⟨some 92,.load 25 (t 9),some (90,false),[]⟩,⟨some 93,.bin .neq 25 (t 91) (t 92),some (90,false),[]⟩,q 94 (.pick (t 90) (.const (.bool true)) (t 93))] false) (.cond (t 94) (.seq (.region 7 [q 2 (.asg 0 (.const (.bool false)) 4)] false) .ret) .skip)) (.seq (.seq (.region 8 [q 95 (.mov (t 8)),q 96 (.bin .eql 2 (t 95) (.const (.int .i64 0))),q 97 (.mov (t 96)),⟨some 98,.mov (t 5),some (97,true),[]⟩,⟨some 99,.bin .lss 2 (t 98) (.const (.int .i64 1000)),some (97,true),[]⟩,q 100 (.pick (t 97) (t 99) (.const (.bool false)))] false) (.cond (t 100) (.seq (.region 9 [q 102 (.mov (t 3)),q 103 (.load 25 (t 4)),q 104 (.mov (t 5)),q 105 (.call 0 (.func 40) [(t 102),(t 103),(t 104)]),q 101 (.mov (t 105)),q 106 (.extract (t 101) 0),q 107 (.extract (t 101) 1),q 11 (.alloc 25),⟨none,.store 25 (t 11) (t 106),none,[]⟩,q 12 (.asg 0 (t 107) 2)] false) (.seq (.region 10 [q 108 (.mov (t 12)),q 109 (.bin .eql 2 (t 108) (.const (.int .i64 0)))] false) (.cond (t 109) (.seq (.region 11 [q 111 (.mov (t 3)),q 112 (.load 25 (t 11)),q 113 (.load 25 (t 6)),q 114 (.call 0 (.func 19) [(t 111),(t 112),(t 113)]),q 110 (.mov (t 114)),q 115 (.extract (t 110) 0),q 116 (.extract (t 110) 1),q 117 (.extract (t 110) 2),q 13 (.alloc 25),q 14 (.alloc 25),⟨none,.store 25 (t 13) (t 115),none,[]⟩,⟨none,.store 25 (t 14) (t 116),none,[]⟩,q 15 (.asg 0 (t 117) 2)] false) (.seq (.region 12 [q 118 (.mov (t 15)),q 119 (.bin .neq 2 (t 118) (.const (.int .i64 0))),q 120 (.mov (t 119)),⟨some 121,.load 25 (t 14),some (120,false),[]⟩,⟨some 122,.load 25 (t 7),some (120,false),[]⟩,⟨some 123,.bin .neq 25 (t 121) (t 122),some (120,false),[]⟩,q 124 (.pick (t 120) (.const (.bool true)) (t 123))] false) (.cond (t 124) (.seq (.region 13 [q 2 (.asg 0 (.const (.bool false)) 4)] false) .ret) .skip))) .skip))) .skip)) (.seq (.region 14 [q 126 (.mov (t 0)),q 127 (.call 0 (.func 82) [(t 126)]),q 125 (.mov (t 127)),q 128 (.extract (t 125) 0),q 129 (.extract (t 125) 1),q 130 (.extract (t 125) 2),q 17 (.alloc 25),q 18 (.alloc 25),q 16 (.asg 0 (t 128) 2),⟨none,.store 25 (t 17) (t 129),none,[]⟩,⟨none,.store 25 (t 18) (t 130),none,[]⟩] false) (.seq (.region 15 [q 132 (.mov (t 16)),q 133 (.load 25 (t 17)),q 134 (.load 25 (t 18)),q 135 (.call 0 (.func 83) [(t 132),(t 133),(t 134)]),q 131 (.mov (t 135)),q 136 (.extract (t 131) 0),q 137 (.extract (t 131) 1),q 19 (.alloc 25),⟨none,.store 25 (t 19) (t 136),none,[]⟩,q 20 (.asg 0 (t 137) 2)] false) (.seq (.region 16 [q 139 (.mov (t 16)),q 140 (.load 25 (t 17)),q 141 (.load 25 (t 18)),q 142 (.call 0 (.func 84) [(t 139),(t 140),(t 141)]),q 138 (.mov (t 142)),q 143 (.extract (t 138) 0),q 144 (.extract (t 138) 1),q 21 (.alloc 25),⟨none,.store 25 (t 21) (t 143),none,[]⟩,q 22 (.asg 0 (t 144) 2)] false) (.seq (.seq (.region 17 [q 145 (.mov (t 20)),q 146 (.mov (t 22)),q 147 (.bin .neq 2 (t 145) (t 146)),q 148 (.mov (t 147)),⟨some 149,.load 25 (t 19),some (148,false),[]⟩,⟨some 150,.load 25 (t 21),some (148,false),[]⟩,⟨some 151,.bin .neq 25 (t 149) (t 150),some (148,false),[]⟩,q 152 (.pick (t 148) (.const (.bool true)) (t 151))] false) (.cond (t 152) (.seq (.region 18 [q 2 (.asg 0 (.const (.bool false)) 4)] false) .ret) .skip)) (.seq (.seq (.region 19 [q 153 (.mov (t 20)),q 154 (.bin .eql 2 (t 153) (.const (.int .i64 0)))] false) (.cond (t 154) (.seq (.region 20 [q 156 (.mov (t 16)),q 157 (.load 25 (t 17)),q 158 (.build 25 [(0,.const (.int .u8 0)),(1,.const (.int .u8 1))]),q 159 (.call 0 (.func 83) [(t 156),(t 157),(t 158)]),q 155 (.mov (t 159)),q 160 (.extract (t 155) 0),q 161 (.extract (t 155) 1),q 23 (.alloc 25),⟨none,.store 25 (t 23) (t 160),none,[]⟩,q 24 (.asg 0 (t 161) 2)] false) (.seq (.region 21 [q 162 (.mov (t 24)),q 163 (.bin .neq 2 (t 162) (.const (.int .i64 0))),q 164 (.mov (t 163)),⟨some 165,.load 25 (t 23),some (164,false),[]⟩,⟨some 166,.load 25 (t 17),some (164,false),[]⟩,⟨some 167,.bin .neq 25 (t 165) (t 166),some (164,false),[]⟩,q 168 (.pick (t 164) (.const (.bool true)) (t 167))] false) (.cond (t 168) (.seq (.region 22 [q 2 (.asg 0 (.const (.bool false)) 4)] false) .ret) .skip))) .skip)) (.seq (.region 23 [q 170 (.mov (t 0)),q 171 (.call 0 (.func 85) [(t 170)]),q 169 (.mov (t 171)),q 172 (.extract (t 169) 0),q 173 (.extract (t 169) 1),q 25 (.asg 0 (t 172) 2),q 26 (.asg 0 (t 173) 2)] false) (.seq (.region 24 [q 175 (.mov (t 25)),q 176 (.mov (t 26)),q 177 (.call 0 (.func 86) [(t 175),(t 176)]),q 174 (.mov (t 177)),q 178 (.extract (t 174) 0),q 179 (.extract (t 174) 1),q 27 (.asg 1 (t 178) 55),q 28 (.asg 0 (t 179) 2)] false) (.seq (.region 25 [q 181 (.mov (t 25)),q 182 (.mov (t 26)),q 183 (.call 0 (.func 87) [(t 181),(t 182)]),q 180 (.mov (t 183)),q 184 (.extract (t 180) 0),q 185 (.extract (t 180) 1),q 29 (.asg 1 (t 184) 55),q 30 (.asg 0 (t 185) 2)] false) (.seq (.region 26 [q 187 (.mov (t 0)),q 188 (.call 0 (.func 88) [(t 187)]),q 186 (.mov (t 188)),q 189 (.extract (t 186) 0),q 190 (.extract (t 186) 1),q 191 (.extract (t 186) 2),q 32 (.alloc 25),q 31 (.asg 0 (t 189) 2),⟨none,.store 25 (t 32) (t 190),none,[]⟩,q 33 (.asg 0 (t 191) 2)] false) (.seq (.region 27 [q 193 (.mov (t 31)),q 194 (.load 25 (t 32)),q 195 (.mov (t 33)),q 196 (.call 0 (.func 40) [(t 193),(t 194),(t 195)]),q 192 (.mov (t 196)),q 197 (.extract (t 192) 0),q 198 (.extract (t 192) 1),q 34 (.alloc 25),⟨none,.store 25 (t 34) (t 197),none,[]⟩,q 35 (.asg 0 (t 198) 2)] false) (.seq (.region 28 [q 200 (.mov (t 31)),q 201 (.load 25 (t 32)),q 202 (.mov (t 33)),q 203 (.call 0 (.func 89) [(t 200),(t 201),(t 202)]),q 199 (.mov (t 203)),q 204 (.extract (t 199) 0),q 205 (.extract (t 199) 1),q 36 (.alloc 25),⟨none,.store 25 (t 36) (t 204),none,[]⟩,q 37 (.asg 0 (t 205) 2)] false) (.seq (.region 29 [q 207 (.mov (t 0)),q 208 (.call 0 (.func 90) [(t 207)]),q 206 (.mov (t 208)),q 209 (.extract (t 206) 0),q 210 (.extract (t 206) 1),q 38 (.asg 0 (t 209) 2),q 39 (.asg 0 (t 210) 2)] false) (.seq (.region 30 [q 212 (.mov (t 38)),q 213 (.mov (t 39)),q 214 (.call 0 (.func 25) [(t 212),(t 213)]),q 211 (.mov (t 214)),q 215 (.extract (t 211) 0),q 216 (.extract (t 211) 1),q 40 (.alloc 25),⟨none,.store 25 (t 40) (t 215),none,[]⟩,q 41 (.asg 0 (t 216) 2)] false) (.seq (.region 31 [q 218 (.mov (t 38)),q 219 (.mov (t 39)),q 220 (.call 0 (.func 91) [(t 218),(t 219)]),q 217 (.mov (t 220)),q 221 (.extract (t 217) 0),q 222 (.extract (t 217) 1),q 42 (.alloc 25),⟨none,.store 25 (t 42) (t 221),none,[]⟩,q 43 (.asg 0 (t 222) 2)] false) (.seq (.region 32 [q 224 (.mov (t 0)),q 225 (.call 0 (.func 92) [(t 224)]),q 223 (.mov (t 225)),q 226 (.extract (t 223) 0),q 227 (.extract (t 223) 1),q 45 (.alloc 25),q 44 (.asg 0 (t 226) 2),⟨none,.store 25 (t 45) (t 227),none,[]⟩] false) (.seq (.region 33 [q 229 (.mov (t 44)),q 230 (.load 25 (t 45)),q 231 (.call 0 (.func 26) [(t 229),(t 230)]),q 228 (.mov (t 231)),q 232 (.extract (t 228) 0),q 233 (.extract (t 228) 1),q 46 (.asg 0 (t 232) 9),q 47 (.asg 0 (t 233) 2)] false) (.seq (.region 34 [q 235 (.mov (t 44)),q 236 (.load 25 (t 45)),q 237 (.call 0 (.func 93) [(t 235),(t 236)]),q 234 (.mov (t 237)),q 238 (.extract (t 234) 0),q 239 (.extract (t 234) 1),q 48 (.asg 0 (t 238) 9),q 49 (.asg 0 (t 239) 2)] false) (.seq (.region 35 [q 241 (.mov (t 0)),q 242 (.call 0 (.func 94) [(t 241)]),q 240 (.mov (t 242)),q 243 (.extract (t 240) 0),q 244 (.extract (t 240) 1),q 50 (.asg 0 (t 243) 2),q 51 (.asg 0 (t 244) 9)] false) (.seq (.region 36 [q 246 (.mov (t 50)),q 247 (.mov (t 51)),q 248 (.call 0 (.func 27) [(t 246),(t 247)]),q 245 (.mov (t 248)),q 249 (.extract (t 245) 0),q 250 (.extract (t 245) 1),q 52 (.alloc 25),⟨none,.store 25 (t 52) (t 249),none,[]⟩,q 53 (.asg 0 (t 250) 2)] false) (.seq (.region 37 [q 252 (.mov (t 50)),q 253 (.mov (t 51)),q 254 (.call 0 (.func 95) [(t 252),(t 253)]),q 251 (.mov (t 254)),q 255 (.extract (t 251) 0),q 256 (.extract (t 251) 1),q 54 (.alloc 25),⟨none,.store 25 (t 54) (t 255),none,[]⟩,q 55 (.asg 0 (t 256) 2)] false) (.seq (.region 38 [q 258 (.mov (t 0)),q 259 (.call 0 (.func 96) [(t 258)]),q 257 (.mov (t 259)),q 260 (.extract (t 257) 0),q 261 (.extract (t 257) 1),q 57 (.alloc 25),q 56 (.asg 0 (t 260) 2),⟨none,.store 25 (t 57) (t 261),none,[]⟩] false) (.seq (.region 39 [q 263 (.mov (t 56)),q 264 (.load 25 (t 57)),q 265 (.call 0 (.func 21) [(t 263),(t 264)]),q 262 (.mov (t 265)),q 266 (.extract (t 262) 0),q 267 (.extract (t 262) 1),q 58 (.asg 0 (t 266) 2),q 59 (.asg 0 (t 267) 2)] false) (.seq (.region 40 [q 269 (.mov (t 56)),q 270 (.load 25 (t 57)),q 271 (.call 0 (.func 97) [(t 269),(t 270)]),q 268 (.mov (t 271)),q 272 (.extract (t 268) 0),q 273 (.extract (t 268) 1),q 60 (.asg 0 (t 272) 2),q 61 (.asg 0 (t 273) 2)] false) (.seq (.region 41 [q 274 (.mov (t 28)),q 275 (.mov (t 30)),q 276 (.bin .eql 2 (t 274) (t 275)),q 277 (.mov (t 276)),⟨some 278,.mov (t 27),some (277,true),[]⟩,⟨some 279,.mov (t 29),some (277,true),[]⟩,⟨some 280,.call 0 (.func 98) [(t 278),(t 279)],some (277,true),[]⟩,q 281 (.pick (t 277) (t 280) (.const (.bool false))),q 282 (.mov (t 281)),⟨some 283,.mov (t 35),some (282,true),[]⟩,⟨some 284,.mov (t 37),some (282,true),[]⟩,⟨some 285,.bin .eql 2 (t 283) (t 284),some (282,true),[]⟩,q 286 (.pick (t 282) (t 285) (.const (.bool false))),q 287 (.mov (t 286)),⟨some 288,.load 25 (t 34),some (287,true),[]⟩,⟨some 289,.load 25 (t 36),some (287,true),[]⟩,⟨some 290,.bin .eql 25 (t 288) (t 289),some (287,true),[]⟩,q 291 (.pick (t 287) (t 290) (.const (.bool false))),q 292 (.mov (t 291)),⟨some 293,.mov (t 41),some (292,true),[]⟩,⟨some 294,.mov (t 43),some (292,true),[]⟩,⟨some 295,.bin .eql 2 (t 293) (t 294),some (292,true),[]⟩,q 296 (.pick (t 292) (t 295) (.const (.bool false))),q 297 (.mov (t 296)),⟨some 298,.load 25 (t 40),some (297,true),[]⟩,⟨some 299,.load 25 (t 42),some (297,true),[]⟩,⟨some 300,.bin .eql 25 (t 298) (t 299),some (297,true),[]⟩,q 301 (.pick (t 297) (t 300) (.const (.bool false))),q 302 (.mov (t 301)),⟨some 303,.mov (t 47),some (302,true),[]⟩,⟨some 304,.mov (t 49),some (302,true),[]⟩,⟨some 305,.bin .eql 2 (t 303) (t 304),some (302,true),[]⟩,q 306 (.pick (t 302) (t 305) (.const (.bool false))),q 307 (.mov (t 306)),⟨some 308,.mov (t 46),some (307,true),[]⟩,⟨some 309,.mov (t 48),some (307,true),[]⟩,⟨some 310,.bin .eql 9 (t 308) (t 309),some (307,true),[]⟩,q 311 (.pick (t 307) (t 310) (.const (.bool false))),q 312 (.mov (t 311)),⟨some 313,.mov (t 53),some (312,true),[]⟩,⟨some 314,.mov (t 55),some (312,true),[]⟩,⟨some 315,.bin .eql 2 (t 313) (t 314),some (312,true),[]⟩,q 316 (.pick (t 312) (t 315) (.const (.bool false))),q 317 (.mov (t 316)),⟨some 318,.load 25 (t 52),some (317,true),[]⟩,⟨some 319,.load 25 (t 54),some (317,true),[]⟩,⟨some 320,.bin .eql 25 (t 318) (t 319),some (317,true),[]⟩,q 321 (.pick (t 317) (t 320) (.const (.bool false))),q 322 (.mov (t 321)),⟨some 323,.mov (t 59),some (322,true),[]⟩,⟨some 324,.mov (t 61),some (322,true),[]⟩,⟨some 325,.bin .eql 2 (t 323) (t 324),some (322,true),[]⟩,q 326 (.pick (t 322) (t 325) (.const (.bool false))),q 327 (.mov (t 326)),⟨some 328,.mov (t 58),some (327,true),[]⟩,⟨some 329,.mov (t 60),some (327,true),[]⟩,⟨some 330,.bin .eql 2 (t 328) (t 329),some (327,true),[]⟩,q 331 (.pick (t 327) (t 330) (.const (.bool false))),q 2 (.asg 0 (t 331) 4)] false) .ret)))))))))))))))))))))))))))))))
def laws_FnPowers_L : Live:=[(0,[0]),(1,[0]),(2,[]),(3,[0]),(4,[0,3,4,5,6]),(5,[0,3,4,5,6,7,8]),(6,[0,3,4,5,6,7,8,9,10]),(7,[]),(8,[0,3,4,5,6,7,8]),(9,[0,3,4,5,6,7]),(10,[0,3,6,7,11,12]),(11,[0,3,6,7,11]),(12,[0,7,14,15]),(13,[]),(14,[0]),(15,[0,16,17,18]),(16,[0,16,17,18,19,20]),(17,[0,16,17,19,20,21,22]),(18,[]),(19,[0,16,17,20]),(20,[0,16,17]),(21,[0,17,23,24]),(22,[]),(23,[0]),(24,[0,25,26]),(25,[0,25,26,27,28]),(26,[0,27,28,29,30]),(27,[0,27,28,29,30,31,32,33]),(28,[0,27,28,29,30,31,32,33,34,35]),(29,[0,27,28,29,30,34,35,36,37]),(30,[0,27,28,29,30,34,35,36,37,38,39]),(31,[0,27,28,29,30,34,35,36,37,38,39,40,41]),(32,[0,27,28,29,30,34,35,36,37,40,41,42,43]),(33,[0,27,28,29,30,34,35,36,37,40,41,42,43,44,45]),(34,[0,27,28,29,30,34,35,36,37,40,41,42,43,44,45,46,47]),(35,[0,27,28,29,30,34,35,36,37,40,41,42,43,46,47,48,49]),(36,[0,27,28,29,30,34,35,36,37,40,41,42,43,46,47,48,49,50,51]),(37,[0,27,28,29,30,34,35,36,37,40,41,42,43,46,47,48,49,50,51,52,53]),(38,[0,27,28,29,30,34,35,36,37,40,41,42,43,46,47,48,49,52,53,54,55]),(39,[27,28,29,30,34,35,36,37,40,41,42,43,46,47,48,49,52,53,54,55,56,57]),(40,[27,28,29,30,34,35,36,37,40,41,42,43,46,47,48,49,52,53,54,55,56,57,58,59]),(41,[27,28,29,30,34,35,36,37,40,41,42,43,46,47,48,49,52,53,54,55,58,59,60,61]),(100063,[0,63]),(100094,[0,3,4,5,6,7,8,94]),(100100,[0,3,4,5,6,7,100]),(100109,[0,3,6,7,11,109]),(100124,[0,124]),(100152,[0,16,17,20,152]),(100154,[0,16,17,154]),(100168,[0,168])]
noncomputable def laws_FnPowers (a0 : (List Int)) : Option Bool :=
 (Option.bind (laws_big a0) fun r1=>(if r1 then (some true) else (Option.bind (spec_DrawPowerModulo a0) fun r4=>(Option.bind (impl_PowerModulo r4.1 r4.2.1 r4.2.2.1 r4.2.2.2) fun r10=>(Option.bind (spec_PowerModulo r4.1 r4.2.1 r4.2.2.1 r4.2.2.2) fun r15=>(Option.bind (α:=Bool) ((if (r10.2 != r15.2) then (some true) else (some ((!decide (r10.1 = r15.1)))))) fun x21=>(if x21 then (some false) else (Option.bind (α:=(Unit ⊕ Bool)) ((Option.bind (α:=Bool) ((if (r10.2 == 0) then (some ((decide (r4.2.2.1 < 1000)))) else (some false))) fun x62=>(if x62 then (Option.bind (impl_PowerOf r4.1 r4.2.1 r4.2.2.1) fun r69=>(if (r69.2 == 0) then (Option.bind (impl_DividePolys r4.1 r69.1 r4.2.2.2) fun r75=>(Option.bind (α:=Bool) ((if (r75.2.2 != 0) then (some true) else (some ((!decide (r75.2.1 = r10.1)))))) fun x82=>(if x82 then (some (.inr false)) else (some ((.inl ())))))) else (some ((.inl ()))))) else (some ((.inl ())))))) fun z=>match z with | .inl _=>(Option.bind (spec_DrawComposePolys a0) fun r90=>(Option.bind (impl_ComposePolys r90.1 r90.2.1 r90.2.2) fun r96=>(Option.bind (spec_ComposePolys r90.1 r90.2.1 r90.2.2) fun r101=>(Option.bind (α:=Bool) ((if (r96.2 != r101.2) then (some true) else (some ((!decide (r96.1 = r101.1)))))) fun x107=>(if x107 then (some false) else (Option.bind (α:=(Unit ⊕ Bool)) ((if (r96.2 == 0) then (Option.bind (impl_ComposePolys r90.1 r90.2.1 ((vset (vset (vrep 64 (0 : Int)) 0 0) 1 1))) fun r136=>(Option.bind (α:=Bool) ((if (r136.2 != 0) then (some true) else (some ((!decide (r136.1 = r90.2.1)))))) fun x142=>(if x142 then (some (.inr false)) else (some ((.inl ())))))) else (some ((.inl ()))))) fun z=>match z with | .inl _=>(Option.bind (spec_DrawMonicPolys a0) fun r150=>(Option.bind (impl_MonicPolys r150.1 r150.2) fun r152=>(Option.bind (spec_MonicPolys r150.1 r150.2) fun r154=>(Option.bind (spec_DrawPowerOf a0) fun r156=>(Option.bind (impl_PowerOf r156.1 r156.2.1 r156.2.2) fun r160=>(Option.bind (spec_PowerOf r156.1 r156.2.1 r156.2.2) fun r164=>(Option.bind (spec_DrawPolyOfNumber a0) fun r167=>(Option.bind (impl_PolyOfNumber r167.1 r167.2) fun r169=>(Option.bind (spec_PolyOfNumber r167.1 r167.2) fun r172=>(Option.bind (spec_DrawPolyText a0) fun r175=>(Option.bind (impl_PolyText r175.1 r175.2) fun r179=>(Option.bind (spec_PolyText r175.1 r175.2) fun r182=>(Option.bind (spec_DrawParsePoly a0) fun r184=>(Option.bind (impl_ParsePoly r184.1 r184.2) fun r186=>(Option.bind (spec_ParsePoly r184.1 r184.2) fun r189=>(Option.bind (spec_DrawDegreeOf a0) fun r192=>(Option.bind (impl_DegreeOf r192.1 r192.2) fun r196=>(Option.bind (spec_DegreeOf r192.1 r192.2) fun r199=>(if (r152.2 == r154.2) then (Option.bind (laws_polys5 r152.1 r154.1) fun r202=>(if r202 then (if (r160.2 == r164.2) then (if (decide (r160.1 = r164.1)) then (if (r169.2 == r172.2) then (if (decide (r169.1 = r172.1)) then (if (r179.2 == r182.2) then (if (r179.1.toList == r182.1.toList) then (if (r186.2 == r189.2) then (if (decide (r186.1 = r189.1)) then (if (r196.2 == r199.2) then (some (r196.1 == r199.1)) else (some false)) else (some false)) else (some false)) else (some false)) else (some false)) else (some false)) else (some false)) else (some false)) else (some false)) else (some false))) else (some false)))))))))))))))))))) | .inr r220=>(some r220))))))) | .inr r221=>(some r221)))))))))
theorem laws_FnPowers_ok (a0 : (List Int)) (r : Bool) (h : laws_FnPowers a0 = some r) : Den Try.prog 9 [(eSu8 a0)] { r:=(.bool r) }:=by
 refine den_of (rs:=[(.bool r)]) (ac:=laws_FnPowers_c) (L:=laws_FnPowers_L) (n:=332) (m:=[(27,1),(29,1)]) (c:=Try.f9.body.getD .skip) good Try.func9 (by kernel_rfl) (by kernel_rfl) Try.ntmps9 rfl rfl (by kernel_rfl) rfl rfl ?_
 refine ns ⟨[(0,eSu8 a0)],[]⟩ ?_
 unfold laws_FnPowers_c
 refine sr (vp (.bool false) rfl (nk ⟨[(0,eSu8 a0)],[]⟩ (a_seq (sr (vp (eSu8 a0) rfl ?_)))))
 obtain ⟨r1,hr2,h⟩:=bind_some h
 refine a_call (args:=[(eSu8 a0)]) (u:=[]) (r:=(.bool r1)) rfl rfl (laws_big_ok a0 r1 hr2) rfl (nk ⟨[(0,eSu8 a0),(63,.bool r1)],[]⟩ ?_)
 cases hb3 : r1
 ·have h:=ite_f hb3 h
  refine a_cond_f rfl (a_skip (nj ⟨[(0,eSu8 a0)],[]⟩ (sr (vp (eSu8 a0) rfl ?_))))
  obtain ⟨r4,hr5,h⟩:=bind_some h
  refine a_call (args:=[(eSu8 a0)]) (u:=[]) (r:=(.tuple [(i6 r4.1),(eVb r4.2.1),(i6 r4.2.2.1),(eVb r4.2.2.2)])) rfl rfl (spec_DrawPowerModulo_ok a0 r4 hr5) rfl (vp (.tuple [(i6 r4.1),(eVb r4.2.1),(i6 r4.2.2.1),(eVb r4.2.2.2)]) rfl (vb (i6 r4.1) rfl rfl (vb (eVb r4.2.1) rfl rfl (vb (i6 r4.2.2.1) rfl rfl (vb (eVb r4.2.2.2) rfl rfl (vo 1400 (eVb ((vrep 64 (0 : Int)))) rfl rfl (vo 1600 (eVb ((vrep 64 (0 : Int)))) rfl rfl (vp (i6 r4.1) rfl (vs (eVb r4.2.1) rfl rfl (fun _=>rfl) rfl rfl rfl rfl rfl rfl ?_)))))))))
  refine vp (i6 r4.2.2.1) rfl (vs (eVb r4.2.2.2) rfl rfl (fun _=>rfl) rfl rfl rfl rfl rfl rfl (nk ⟨[(0,eSu8 a0),(3,i6 r4.1),(4,ow 4),(5,i6 r4.2.2.1),(6,ow 6)],[(4,bk (eVb r4.2.1)),(6,bk (eVb r4.2.2.2))]⟩ (sr (vp (i6 r4.1) rfl (vl (eVb r4.2.1) rfl rfl rfl rfl rfl rfl (vp (i6 r4.2.2.1) rfl (vl (eVb r4.2.2.2) rfl rfl rfl rfl rfl rfl ?_)))))))
  obtain ⟨r10,hr11,h⟩:=bind_some h
  refine a_call (args:=[(i6 r4.1),(eVb r4.2.1),(i6 r4.2.2.1),(eVb r4.2.2.2)]) (u:=[]) (r:=(.tuple [(eVb r10.1),(i6 r10.2)])) rfl rfl (impl_PowerModulo_ok r4.1 r4.2.1 r4.2.2.1 r4.2.2.2 r10 hr11) rfl (vp (.tuple [(eVb r10.1),(i6 r10.2)]) rfl (vb (eVb r10.1) rfl rfl (vb (i6 r10.2) rfl rfl (vo 1700 (eVb ((vrep 64 (0 : Int)))) rfl rfl (vs (eVb r10.1) rfl rfl (fun _=>rfl) rfl rfl rfl rfl rfl rfl (vp (i6 r10.2) rfl (nk ⟨[(0,eSu8 a0),(3,i6 r4.1),(4,ow 4),(5,i6 r4.2.2.1),(6,ow 6),(7,ow 7),(8,i6 r10.2)],[(4,bk (eVb r4.2.1)),(6,bk (eVb r4.2.2.2)),(7,bk (eVb r10.1))]⟩ (sr (vp (i6 r4.1) rfl ?_)))))))))
  refine vl (eVb r4.2.1) rfl rfl rfl rfl rfl rfl (vp (i6 r4.2.2.1) rfl (vl (eVb r4.2.2.2) rfl rfl rfl rfl rfl rfl ?_))
  obtain ⟨r15,hr16,h⟩:=bind_some h
  refine a_call (args:=[(i6 r4.1),(eVb r4.2.1),(i6 r4.2.2.1),(eVb r4.2.2.2)]) (u:=[]) (r:=(.tuple [(eVb r15.1),(i6 r15.2)])) rfl rfl (spec_PowerModulo_ok r4.1 r4.2.1 r4.2.2.1 r4.2.2.2 r15 hr16) rfl (vp (.tuple [(eVb r15.1),(i6 r15.2)]) rfl (vb (eVb r15.1) rfl rfl (vb (i6 r15.2) rfl rfl (vo 1900 (eVb ((vrep 64 (0 : Int)))) rfl rfl (vs (eVb r15.1) rfl rfl (fun _=>rfl) rfl rfl rfl rfl rfl rfl (vp (i6 r15.2) rfl (nk ⟨[(0,eSu8 a0),(3,i6 r4.1),(4,ow 4),(5,i6 r4.2.2.1),(6,ow 6),(7,ow 7),(8,i6 r10.2),(9,ow 9),(10,i6 r15.2)],[(4,bk (eVb r4.2.1)),(6,bk (eVb r4.2.2.2)),(7,bk (eVb r10.1)),(9,bk (eVb r15.1))]⟩ (a_seq ?_))))))))
  obtain ⟨y22,hy23,hk24⟩:=bind_some h
  clear h
  refine a_join (emb:=fun (s : Bool)=>⟨[(0,eSu8 a0),(3,i6 r4.1),(4,ow 4),(5,i6 r4.2.2.1),(6,ow 6),(7,ow 7),(8,i6 r10.2),(94,.bool s)],[(4,bk (eVb r4.2.1)),(6,bk (eVb r4.2.2.2)),(7,bk (eVb r10.1))]⟩) (pre:=fun s=>s = y22) ?_ ?_
  ·rintro x21 rfl
   have h:=hk24
   refine ns ⟨[(0,eSu8 a0),(3,i6 r4.1),(4,ow 4),(5,i6 r4.2.2.1),(6,ow 6),(7,ow 7),(8,i6 r10.2),(94,.bool x21)],[(4,bk (eVb r4.2.1)),(6,bk (eVb r4.2.2.2)),(7,bk (eVb r10.1))]⟩ ?_
   cases hb28 : x21
   ·have h:=ite_f hb28 h
    refine a_cond_f rfl (a_skip (nj ⟨[(0,eSu8 a0),(3,i6 r4.1),(4,ow 4),(5,i6 r4.2.2.1),(6,ow 6),(7,ow 7),(8,i6 r10.2)],[(4,bk (eVb r4.2.1)),(6,bk (eVb r4.2.2.2)),(7,bk (eVb r10.1))]⟩ ?_))
    obtain ⟨y58,hy59,hk60⟩:=bind_some h
    clear h
    refine a_join (emb:=fun (s : Unit)=>⟨[(0,eSu8 a0)],[]⟩) (pre:=fun s=>(.inl s) = y58) ?_ ?_
    ·rintro _ rfl
     have h:=hk60
     refine ns ⟨[(0,eSu8 a0)],[]⟩ (sr (vp (eSu8 a0) rfl ?_))
     obtain ⟨r90,hr91,h⟩:=bind_some h
     refine a_call (args:=[(eSu8 a0)]) (u:=[]) (r:=(.tuple [(i6 r90.1),(eVb r90.2.1),(eVb r90.2.2)])) rfl rfl (spec_DrawComposePolys_ok a0 r90 hr91) rfl (vp (.tuple [(i6 r90.1),(eVb r90.2.1),(eVb r90.2.2)]) rfl (vb (i6 r90.1) rfl rfl (vb (eVb r90.2.1) rfl rfl (vb (eVb r90.2.2) rfl rfl (vo 2700 (eVb ((vrep 64 (0 : Int)))) rfl rfl (vo 2800 (eVb ((vrep 64 (0 : Int)))) rfl rfl (vp (i6 r90.1) rfl (vs (eVb r90.2.1) rfl rfl (fun _=>rfl) rfl rfl rfl rfl rfl rfl (vs (eVb r90.2.2) rfl rfl (fun _=>rfl) rfl rfl rfl rfl rfl rfl ?_)))))))))
     refine nk ⟨[(0,eSu8 a0),(16,i6 r90.1),(17,ow 17),(18,ow 18)],[(17,bk (eVb r90.2.1)),(18,bk (eVb r90.2.2))]⟩ (sr (vp (i6 r90.1) rfl (vl (eVb r90.2.1) rfl rfl rfl rfl rfl rfl (vl (eVb r90.2.2) rfl rfl rfl rfl rfl rfl ?_))))
     obtain ⟨r96,hr97,h⟩:=bind_some h
     refine a_call (args:=[(i6 r90.1),(eVb r90.2.1),(eVb r90.2.2)]) (u:=[]) (r:=(.tuple [(eVb r96.1),(i6 r96.2)])) rfl rfl (impl_ComposePolys_ok r90.1 r90.2.1 r90.2.2 r96 hr97) rfl (vp (.tuple [(eVb r96.1),(i6 r96.2)]) rfl (vb (eVb r96.1) rfl rfl (vb (i6 r96.2) rfl rfl (vo 2900 (eVb ((vrep 64 (0 : Int)))) rfl rfl (vs (eVb r96.1) rfl rfl (fun _=>rfl) rfl rfl rfl rfl rfl rfl (vp (i6 r96.2) rfl (nk ⟨[(0,eSu8 a0),(16,i6 r90.1),(17,ow 17),(18,ow 18),(19,ow 19),(20,i6 r96.2)],[(17,bk (eVb r90.2.1)),(18,bk (eVb r90.2.2)),(19,bk (eVb r96.1))]⟩ (sr (vp (i6 r90.1) rfl ?_)))))))))
     refine vl (eVb r90.2.1) rfl rfl rfl rfl rfl rfl (vl (eVb r90.2.2) rfl rfl rfl rfl rfl rfl ?_)
     obtain ⟨r101,hr102,h⟩:=bind_some h
     refine a_call (args:=[(i6 r90.1),(eVb r90.2.1),(eVb r90.2.2)]) (u:=[]) (r:=(.tuple [(eVb r101.1),(i6 r101.2)])) rfl rfl (spec_ComposePolys_ok r90.1 r90.2.1 r90.2.2 r101 hr102) rfl (vp (.tuple [(eVb r101.1),(i6 r101.2)]) rfl (vb (eVb r101.1) rfl rfl (vb (i6 r101.2) rfl rfl (vo 3100 (eVb ((vrep 64 (0 : Int)))) rfl rfl (vs (eVb r101.1) rfl rfl (fun _=>rfl) rfl rfl rfl rfl rfl rfl (vp (i6 r101.2) rfl (nk ⟨[(0,eSu8 a0),(16,i6 r90.1),(17,ow 17),(19,ow 19),(20,i6 r96.2),(21,ow 21),(22,i6 r101.2)],[(17,bk (eVb r90.2.1)),(19,bk (eVb r96.1)),(21,bk (eVb r101.1))]⟩ (a_seq ?_))))))))
     obtain ⟨y108,hy109,hk110⟩:=bind_some h
     clear h
     refine a_join (emb:=fun (s : Bool)=>⟨[(0,eSu8 a0),(16,i6 r90.1),(17,ow 17),(20,i6 r96.2),(152,.bool s)],[(17,bk (eVb r90.2.1))]⟩) (pre:=fun s=>s = y108) ?_ ?_
     ·rintro x107 rfl
      have h:=hk110
      refine ns ⟨[(0,eSu8 a0),(16,i6 r90.1),(17,ow 17),(20,i6 r96.2),(152,.bool x107)],[(17,bk (eVb r90.2.1))]⟩ ?_
      cases hb114 : x107
      ·have h:=ite_f hb114 h
       refine a_cond_f rfl (a_skip (nj ⟨[(0,eSu8 a0),(16,i6 r90.1),(17,ow 17),(20,i6 r96.2)],[(17,bk (eVb r90.2.1))]⟩ ?_))
       obtain ⟨y131,hy132,hk133⟩:=bind_some h
       clear h
       refine a_join (emb:=fun (s : Unit)=>⟨[(0,eSu8 a0)],[]⟩) (pre:=fun s=>(.inl s) = y131) ?_ ?_
       ·rintro _ rfl
        have h:=hk133
        refine ns ⟨[(0,eSu8 a0)],[]⟩ (sr (vp (eSu8 a0) rfl ?_))
        obtain ⟨r150,hr151,h⟩:=bind_some h
        refine a_call (args:=[(eSu8 a0)]) (u:=[]) (r:=(.tuple [(i6 r150.1),(i6 r150.2)])) rfl rfl (spec_DrawMonicPolys_ok a0 r150 hr151) rfl (vp (.tuple [(i6 r150.1),(i6 r150.2)]) rfl (vb (i6 r150.1) rfl rfl (vb (i6 r150.2) rfl rfl (vp (i6 r150.1) rfl (vp (i6 r150.2) rfl (nk ⟨[(0,eSu8 a0),(25,i6 r150.1),(26,i6 r150.2)],[]⟩ (sr (vp (i6 r150.1) rfl (vp (i6 r150.2) rfl ?_)))))))))
        obtain ⟨r152,hr153,h⟩:=bind_some h
        refine a_call (args:=[(i6 r150.1),(i6 r150.2)]) (u:=[]) (r:=(.tuple [(eSA64u8 r152.1),(i6 r152.2)])) rfl rfl (impl_MonicPolys_ok r150.1 r150.2 r152 hr153) rfl (vp (.tuple [(eSA64u8 r152.1),(i6 r152.2)]) rfl (vb (eSA64u8 r152.1) rfl rfl (vb (i6 r152.2) rfl rfl (vp (eSA64u8 r152.1) rfl (vp (i6 r152.2) rfl (nk ⟨[(0,eSu8 a0),(25,i6 r150.1),(26,i6 r150.2),(27,eSA64u8 r152.1),(28,i6 r152.2)],[]⟩ (sr (vp (i6 r150.1) rfl (vp (i6 r150.2) rfl ?_)))))))))
        obtain ⟨r154,hr155,h⟩:=bind_some h
        refine a_call (args:=[(i6 r150.1),(i6 r150.2)]) (u:=[]) (r:=(.tuple [(eSA64u8 r154.1),(i6 r154.2)])) rfl rfl (spec_MonicPolys_ok r150.1 r150.2 r154 hr155) rfl (vp (.tuple [(eSA64u8 r154.1),(i6 r154.2)]) rfl (vb (eSA64u8 r154.1) rfl rfl (vb (i6 r154.2) rfl rfl (vp (eSA64u8 r154.1) rfl (vp (i6 r154.2) rfl (nk ⟨[(0,eSu8 a0),(27,eSA64u8 r152.1),(28,i6 r152.2),(29,eSA64u8 r154.1),(30,i6 r154.2)],[]⟩ (sr (vp (eSu8 a0) rfl ?_))))))))
        obtain ⟨r156,hr157,h⟩:=bind_some h
        refine a_call (args:=[(eSu8 a0)]) (u:=[]) (r:=(.tuple [(i6 r156.1),(eVb r156.2.1),(i6 r156.2.2)])) rfl rfl (spec_DrawPowerOf_ok a0 r156 hr157) rfl (vp (.tuple [(i6 r156.1),(eVb r156.2.1),(i6 r156.2.2)]) rfl (vb (i6 r156.1) rfl rfl (vb (eVb r156.2.1) rfl rfl (vb (i6 r156.2.2) rfl rfl (vo 4200 (eVb ((vrep 64 (0 : Int)))) rfl rfl (vp (i6 r156.1) rfl (vs (eVb r156.2.1) rfl rfl (fun _=>rfl) rfl rfl rfl rfl rfl rfl (vp (i6 r156.2.2) rfl (nk ⟨[(0,eSu8 a0),(27,eSA64u8 r152.1),(28,i6 r152.2),(29,eSA64u8 r154.1),(30,i6 r154.2),(31,i6 r156.1),(32,ow 32),(33,i6 r156.2.2)],[(32,bk (eVb r156.2.1))]⟩ ?_)))))))))
        refine sr (vp (i6 r156.1) rfl (vl (eVb r156.2.1) rfl rfl rfl rfl rfl rfl (vp (i6 r156.2.2) rfl ?_)))
        obtain ⟨r160,hr161,h⟩:=bind_some h
        refine a_call (args:=[(i6 r156.1),(eVb r156.2.1),(i6 r156.2.2)]) (u:=[]) (r:=(.tuple [(eVb r160.1),(i6 r160.2)])) rfl rfl (impl_PowerOf_ok r156.1 r156.2.1 r156.2.2 r160 hr161) rfl (vp (.tuple [(eVb r160.1),(i6 r160.2)]) rfl (vb (eVb r160.1) rfl rfl (vb (i6 r160.2) rfl rfl (vo 4400 (eVb ((vrep 64 (0 : Int)))) rfl rfl (vs (eVb r160.1) rfl rfl (fun _=>rfl) rfl rfl rfl rfl rfl rfl (vp (i6 r160.2) rfl (nk ⟨[(0,eSu8 a0),(27,eSA64u8 r152.1),(28,i6 r152.2),(29,eSA64u8 r154.1),(30,i6 r154.2),(31,i6 r156.1),(32,ow 32),(33,i6 r156.2.2),(34,ow 34),(35,i6 r160.2)],[(32,bk (eVb r156.2.1)),(34,bk (eVb r160.1))]⟩ (sr (vp (i6 r156.1) rfl ?_)))))))))
        refine vl (eVb r156.2.1) rfl rfl rfl rfl rfl rfl (vp (i6 r156.2.2) rfl ?_)
        obtain ⟨r164,hr165,h⟩:=bind_some h
        refine a_call (args:=[(i6 r156.1),(eVb r156.2.1),(i6 r156.2.2)]) (u:=[]) (r:=(.tuple [(eVb r164.1),(i6 r164.2)])) rfl rfl (spec_PowerOf_ok r156.1 r156.2.1 r156.2.2 r164 hr165) rfl (vp (.tuple [(eVb r164.1),(i6 r164.2)]) rfl (vb (eVb r164.1) rfl rfl (vb (i6 r164.2) rfl rfl (vo 4600 (eVb ((vrep 64 (0 : Int)))) rfl rfl (vs (eVb r164.1) rfl rfl (fun _=>rfl) rfl rfl rfl rfl rfl rfl (vp (i6 r164.2) rfl (nk ⟨[(0,eSu8 a0),(27,eSA64u8 r152.1),(28,i6 r152.2),(29,eSA64u8 r154.1),(30,i6 r154.2),(34,ow 34),(35,i6 r160.2),(36,ow 36),(37,i6 r164.2)],[(34,bk (eVb r160.1)),(36,bk (eVb r164.1))]⟩ (sr (vp (eSu8 a0) rfl ?_)))))))))
        obtain ⟨r167,hr168,h⟩:=bind_some h
        refine a_call (args:=[(eSu8 a0)]) (u:=[]) (r:=(.tuple [(i6 r167.1),(i6 r167.2)])) rfl rfl (spec_DrawPolyOfNumber_ok a0 r167 hr168) rfl (vp (.tuple [(i6 r167.1),(i6 r167.2)]) rfl (vb (i6 r167.1) rfl rfl (vb (i6 r167.2) rfl rfl (vp (i6 r167.1) rfl (vp (i6 r167.2) rfl (nk ⟨[(0,eSu8 a0),(27,eSA64u8 r152.1),(28,i6 r152.2),(29,eSA64u8 r154.1),(30,i6 r154.2),(34,ow 34),(35,i6 r160.2),(36,ow 36),(37,i6 r164.2),(38,i6 r167.1),(39,i6 r167.2)],[(34,bk (eVb r160.1)),(36,bk (eVb r164.1))]⟩ (sr (vp (i6 r167.1) rfl (vp (i6 r167.2) rfl ?_)))))))))
        obtain ⟨r169,hr170,h⟩:=bind_some h
        refine a_call (args:=[(i6 r167.1),(i6 r167.2)]) (u:=[]) (r:=(.tuple [(eVb r169.1),(i6 r169.2)])) rfl rfl (impl_PolyOfNumber_ok r167.1 r167.2 r169 hr170) rfl (vp (.tuple [(eVb r169.1),(i6 r169.2)]) rfl (vb (eVb r169.1) rfl rfl (vb (i6 r169.2) rfl rfl (vo 5000 (eVb ((vrep 64 (0 : Int)))) rfl rfl (vs (eVb r169.1) rfl rfl (fun _=>rfl) rfl rfl rfl rfl rfl rfl (vp (i6 r169.2) rfl (nk ⟨[(0,eSu8 a0),(27,eSA64u8 r152.1),(28,i6 r152.2),(29,eSA64u8 r154.1),(30,i6 r154.2),(34,ow 34),(35,i6 r160.2),(36,ow 36),(37,i6 r164.2),(38,i6 r167.1),(39,i6 r167.2),(40,ow 40),(41,i6 r169.2)],[(34,bk (eVb r160.1)),(36,bk (eVb r164.1)),(40,bk (eVb r169.1))]⟩ (sr (vp (i6 r167.1) rfl ?_)))))))))
        refine vp (i6 r167.2) rfl ?_
        obtain ⟨r172,hr173,h⟩:=bind_some h
        refine a_call (args:=[(i6 r167.1),(i6 r167.2)]) (u:=[]) (r:=(.tuple [(eVb r172.1),(i6 r172.2)])) rfl rfl (spec_PolyOfNumber_ok r167.1 r167.2 r172 hr173) rfl (vp (.tuple [(eVb r172.1),(i6 r172.2)]) rfl (vb (eVb r172.1) rfl rfl (vb (i6 r172.2) rfl rfl (vo 5200 (eVb ((vrep 64 (0 : Int)))) rfl rfl (vs (eVb r172.1) rfl rfl (fun _=>rfl) rfl rfl rfl rfl rfl rfl (vp (i6 r172.2) rfl (nk ⟨[(0,eSu8 a0),(27,eSA64u8 r152.1),(28,i6 r152.2),(29,eSA64u8 r154.1),(30,i6 r154.2),(34,ow 34),(35,i6 r160.2),(36,ow 36),(37,i6 r164.2),(40,ow 40),(41,i6 r169.2),(42,ow 42),(43,i6 r172.2)],[(34,bk (eVb r160.1)),(36,bk (eVb r164.1)),(40,bk (eVb r169.1)),(42,bk (eVb r172.1))]⟩ (sr (vp (eSu8 a0) rfl ?_)))))))))
        obtain ⟨r175,hr176,h⟩:=bind_some h
        refine a_call (args:=[(eSu8 a0)]) (u:=[]) (r:=(.tuple [(i6 r175.1),(eVb r175.2)])) rfl rfl (spec_DrawPolyText_ok a0 r175 hr176) rfl (vp (.tuple [(i6 r175.1),(eVb r175.2)]) rfl (vb (i6 r175.1) rfl rfl (vb (eVb r175.2) rfl rfl (vo 5500 (eVb ((vrep 64 (0 : Int)))) rfl rfl (vp (i6 r175.1) rfl (vs (eVb r175.2) rfl rfl (fun _=>rfl) rfl rfl rfl rfl rfl rfl (nk ⟨[(0,eSu8 a0),(27,eSA64u8 r152.1),(28,i6 r152.2),(29,eSA64u8 r154.1),(30,i6 r154.2),(34,ow 34),(35,i6 r160.2),(36,ow 36),(37,i6 r164.2),(40,ow 40),(41,i6 r169.2),(42,ow 42),(43,i6 r172.2),(44,i6 r175.1),(45,ow 45)],[(34,bk (eVb r160.1)),(36,bk (eVb r164.1)),(40,bk (eVb r169.1)),(42,bk (eVb r172.1)),(45,bk (eVb r175.2))]⟩ (sr (vp (i6 r175.1) rfl ?_)))))))))
        refine vl (eVb r175.2) rfl rfl rfl rfl rfl rfl ?_
        obtain ⟨r179,hr180,h⟩:=bind_some h
        refine a_call (args:=[(i6 r175.1),(eVb r175.2)]) (u:=[]) (r:=(.tuple [(.str r179.1),(i6 r179.2)])) rfl rfl (impl_PolyText_ok r175.1 r175.2 r179 hr180) rfl (vp (.tuple [(.str r179.1),(i6 r179.2)]) rfl (vb (.str r179.1) rfl rfl (vb (i6 r179.2) rfl rfl (vp (.str r179.1) rfl (vp (i6 r179.2) rfl (nk ⟨[(0,eSu8 a0),(27,eSA64u8 r152.1),(28,i6 r152.2),(29,eSA64u8 r154.1),(30,i6 r154.2),(34,ow 34),(35,i6 r160.2),(36,ow 36),(37,i6 r164.2),(40,ow 40),(41,i6 r169.2),(42,ow 42),(43,i6 r172.2),(44,i6 r175.1),(45,ow 45),(46,.str r179.1),(47,i6 r179.2)],[(34,bk (eVb r160.1)),(36,bk (eVb r164.1)),(40,bk (eVb r169.1)),(42,bk (eVb r172.1)),(45,bk (eVb r175.2))]⟩ (sr (vp (i6 r175.1) rfl (vl (eVb r175.2) rfl rfl rfl rfl rfl rfl ?_)))))))))
        obtain ⟨r182,hr183,h⟩:=bind_some h
        refine a_call (args:=[(i6 r175.1),(eVb r175.2)]) (u:=[]) (r:=(.tuple [(.str r182.1),(i6 r182.2)])) rfl rfl (spec_PolyText_ok r175.1 r175.2 r182 hr183) rfl (vp (.tuple [(.str r182.1),(i6 r182.2)]) rfl (vb (.str r182.1) rfl rfl (vb (i6 r182.2) rfl rfl (vp (.str r182.1) rfl (vp (i6 r182.2) rfl (nk ⟨[(0,eSu8 a0),(27,eSA64u8 r152.1),(28,i6 r152.2),(29,eSA64u8 r154.1),(30,i6 r154.2),(34,ow 34),(35,i6 r160.2),(36,ow 36),(37,i6 r164.2),(40,ow 40),(41,i6 r169.2),(42,ow 42),(43,i6 r172.2),(46,.str r179.1),(47,i6 r179.2),(48,.str r182.1),(49,i6 r182.2)],[(34,bk (eVb r160.1)),(36,bk (eVb r164.1)),(40,bk (eVb r169.1)),(42,bk (eVb r172.1))]⟩ (sr (vp (eSu8 a0) rfl ?_))))))))
        obtain ⟨r184,hr185,h⟩:=bind_some h
        refine a_call (args:=[(eSu8 a0)]) (u:=[]) (r:=(.tuple [(i6 r184.1),(.str r184.2)])) rfl rfl (spec_DrawParsePoly_ok a0 r184 hr185) rfl (vp (.tuple [(i6 r184.1),(.str r184.2)]) rfl (vb (i6 r184.1) rfl rfl (vb (.str r184.2) rfl rfl (vp (i6 r184.1) rfl (vp (.str r184.2) rfl (nk ⟨[(0,eSu8 a0),(27,eSA64u8 r152.1),(28,i6 r152.2),(29,eSA64u8 r154.1),(30,i6 r154.2),(34,ow 34),(35,i6 r160.2),(36,ow 36),(37,i6 r164.2),(40,ow 40),(41,i6 r169.2),(42,ow 42),(43,i6 r172.2),(46,.str r179.1),(47,i6 r179.2),(48,.str r182.1),(49,i6 r182.2),(50,i6 r184.1),(51,.str r184.2)],[(34,bk (eVb r160.1)),(36,bk (eVb r164.1)),(40,bk (eVb r169.1)),(42,bk (eVb r172.1))]⟩ (sr (vp (i6 r184.1) rfl (vp (.str r184.2) rfl ?_)))))))))
        obtain ⟨r186,hr187,h⟩:=bind_some h
        refine a_call (args:=[(i6 r184.1),(.str r184.2)]) (u:=[]) (r:=(.tuple [(eVb r186.1),(i6 r186.2)])) rfl rfl (impl_ParsePoly_ok r184.1 r184.2 r186 hr187) rfl (vp (.tuple [(eVb r186.1),(i6 r186.2)]) rfl (vb (eVb r186.1) rfl rfl (vb (i6 r186.2) rfl rfl (vo 6200 (eVb ((vrep 64 (0 : Int)))) rfl rfl (vs (eVb r186.1) rfl rfl (fun _=>rfl) rfl rfl rfl rfl rfl rfl (vp (i6 r186.2) rfl (nk ⟨[(0,eSu8 a0),(27,eSA64u8 r152.1),(28,i6 r152.2),(29,eSA64u8 r154.1),(30,i6 r154.2),(34,ow 34),(35,i6 r160.2),(36,ow 36),(37,i6 r164.2),(40,ow 40),(41,i6 r169.2),(42,ow 42),(43,i6 r172.2),(46,.str r179.1),(47,i6 r179.2),(48,.str r182.1),(49,i6 r182.2),(50,i6 r184.1),(51,.str r184.2),(52,ow 52),(53,i6 r186.2)],[(34,bk (eVb r160.1)),(36,bk (eVb r164.1)),(40,bk (eVb r169.1)),(42,bk (eVb r172.1)),(52,bk (eVb r186.1))]⟩ (sr (vp (i6 r184.1) rfl ?_)))))))))
        refine vp (.str r184.2) rfl ?_
        obtain ⟨r189,hr190,h⟩:=bind_some h
        refine a_call (args:=[(i6 r184.1),(.str r184.2)]) (u:=[]) (r:=(.tuple [(eVb r189.1),(i6 r189.2)])) rfl rfl (spec_ParsePoly_ok r184.1 r184.2 r189 hr190) rfl (vp (.tuple [(eVb r189.1),(i6 r189.2)]) rfl (vb (eVb r189.1) rfl rfl (vb (i6 r189.2) rfl rfl (vo 6400 (eVb ((vrep 64 (0 : Int)))) rfl rfl (vs (eVb r189.1) rfl rfl (fun _=>rfl) rfl rfl rfl rfl rfl rfl (vp (i6 r189.2) rfl (nk ⟨[(0,eSu8 a0),(27,eSA64u8 r152.1),(28,i6 r152.2),(29,eSA64u8 r154.1),(30,i6 r154.2),(34,ow 34),(35,i6 r160.2),(36,ow 36),(37,i6 r164.2),(40,ow 40),(41,i6 r169.2),(42,ow 42),(43,i6 r172.2),(46,.str r179.1),(47,i6 r179.2),(48,.str r182.1),(49,i6 r182.2),(52,ow 52),(53,i6 r186.2),(54,ow 54),(55,i6 r189.2)],[(34,bk (eVb r160.1)),(36,bk (eVb r164.1)),(40,bk (eVb r169.1)),(42,bk (eVb r172.1)),(52,bk (eVb r186.1)),(54,bk (eVb r189.1))]⟩ (sr (vp (eSu8 a0) rfl ?_)))))))))
        obtain ⟨r192,hr193,h⟩:=bind_some h
        refine a_call (args:=[(eSu8 a0)]) (u:=[]) (r:=(.tuple [(i6 r192.1),(eVb r192.2)])) rfl rfl (spec_DrawDegreeOf_ok a0 r192 hr193) rfl (vp (.tuple [(i6 r192.1),(eVb r192.2)]) rfl (vb (i6 r192.1) rfl rfl (vb (eVb r192.2) rfl rfl (vo 6700 (eVb ((vrep 64 (0 : Int)))) rfl rfl (vp (i6 r192.1) rfl (vs (eVb r192.2) rfl rfl (fun _=>rfl) rfl rfl rfl rfl rfl rfl (nk ⟨[(27,eSA64u8 r152.1),(28,i6 r152.2),(29,eSA64u8 r154.1),(30,i6 r154.2),(34,ow 34),(35,i6 r160.2),(36,ow 36),(37,i6 r164.2),(40,ow 40),(41,i6 r169.2),(42,ow 42),(43,i6 r172.2),(46,.str r179.1),(47,i6 r179.2),(48,.str r182.1),(49,i6 r182.2),(52,ow 52),(53,i6 r186.2),(54,ow 54),(55,i6 r189.2),(56,i6 r192.1),(57,ow 57)],[(34,bk (eVb r160.1)),(36,bk (eVb r164.1)),(40,bk (eVb r169.1)),(42,bk (eVb r172.1)),(52,bk (eVb r186.1)),(54,bk (eVb r189.1)),(57,bk (eVb r192.2))]⟩ (sr (vp (i6 r192.1) rfl ?_)))))))))
        refine vl (eVb r192.2) rfl rfl rfl rfl rfl rfl ?_
        obtain ⟨r196,hr197,h⟩:=bind_some h
        refine a_call (args:=[(i6 r192.1),(eVb r192.2)]) (u:=[]) (r:=(.tuple [(i6 r196.1),(i6 r196.2)])) rfl rfl (impl_DegreeOf_ok r192.1 r192.2 r196 hr197) rfl (vp (.tuple [(i6 r196.1),(i6 r196.2)]) rfl (vb (i6 r196.1) rfl rfl (vb (i6 r196.2) rfl rfl (vp (i6 r196.1) rfl (vp (i6 r196.2) rfl (nk ⟨[(27,eSA64u8 r152.1),(28,i6 r152.2),(29,eSA64u8 r154.1),(30,i6 r154.2),(34,ow 34),(35,i6 r160.2),(36,ow 36),(37,i6 r164.2),(40,ow 40),(41,i6 r169.2),(42,ow 42),(43,i6 r172.2),(46,.str r179.1),(47,i6 r179.2),(48,.str r182.1),(49,i6 r182.2),(52,ow 52),(53,i6 r186.2),(54,ow 54),(55,i6 r189.2),(56,i6 r192.1),(57,ow 57),(58,i6 r196.1),(59,i6 r196.2)],[(34,bk (eVb r160.1)),(36,bk (eVb r164.1)),(40,bk (eVb r169.1)),(42,bk (eVb r172.1)),(52,bk (eVb r186.1)),(54,bk (eVb r189.1)),(57,bk (eVb r192.2))]⟩ (sr (vp (i6 r192.1) rfl (vl (eVb r192.2) rfl rfl rfl rfl rfl rfl ?_)))))))))
        obtain ⟨r199,hr200,h⟩:=bind_some h
        refine a_call (args:=[(i6 r192.1),(eVb r192.2)]) (u:=[]) (r:=(.tuple [(i6 r199.1),(i6 r199.2)])) rfl rfl (spec_DegreeOf_ok r192.1 r192.2 r199 hr200) rfl (vp (.tuple [(i6 r199.1),(i6 r199.2)]) rfl (vb (i6 r199.1) rfl rfl (vb (i6 r199.2) rfl rfl (vp (i6 r199.1) rfl (vp (i6 r199.2) rfl (nk ⟨[(27,eSA64u8 r152.1),(28,i6 r152.2),(29,eSA64u8 r154.1),(30,i6 r154.2),(34,ow 34),(35,i6 r160.2),(36,ow 36),(37,i6 r164.2),(40,ow 40),(41,i6 r169.2),(42,ow 42),(43,i6 r172.2),(46,.str r179.1),(47,i6 r179.2),(48,.str r182.1),(49,i6 r182.2),(52,ow 52),(53,i6 r186.2),(54,ow 54),(55,i6 r189.2),(58,i6 r196.1),(59,i6 r196.2),(60,i6 r199.1),(61,i6 r199.2)],[(34,bk (eVb r160.1)),(36,bk (eVb r164.1)),(40,bk (eVb r169.1)),(42,bk (eVb r172.1)),(52,bk (eVb r186.1)),(54,bk (eVb r189.1))]⟩ (sr (vp (i6 r152.2) rfl (vp (i6 r154.2) rfl ?_)))))))))
        refine vp (.bool (r152.2 == r154.2)) rfl (vp (.bool (r152.2 == r154.2)) rfl ?_)
        cases hb201 : (r152.2 == r154.2)
        ·have h:=ite_f hb201 h
         refine a_gskip rfl (a_gskip rfl (a_gskip rfl (vp (.bool false) rfl (vp (.bool false) rfl (a_gskip rfl (a_gskip rfl (a_gskip rfl (vp (.bool false) rfl (vp (.bool false) rfl ?_)))))))))
         refine a_gskip rfl (a_gskip rfl (a_gskip rfl (vp (.bool false) rfl (vp (.bool false) rfl (a_gskip rfl (a_gskip rfl (a_gskip rfl (vp (.bool false) rfl (vp (.bool false) rfl ?_)))))))))
         refine a_gskip rfl (a_gskip rfl (a_gskip rfl (vp (.bool false) rfl (vp (.bool false) rfl (a_gskip rfl (a_gskip rfl (a_gskip rfl (vp (.bool false) rfl (vp (.bool false) rfl ?_)))))))))
         refine a_gskip rfl (a_gskip rfl (a_gskip rfl (vp (.bool false) rfl (vp (.bool false) rfl (a_gskip rfl (a_gskip rfl (a_gskip rfl (vp (.bool false) rfl (vp (.bool false) rfl ?_)))))))))
         refine a_gskip rfl (a_gskip rfl (a_gskip rfl (vp (.bool false) rfl (vp (.bool false) rfl (a_gskip rfl (a_gskip rfl (a_gskip rfl (vp (.bool false) rfl (vp (.bool false) rfl ?_)))))))))
         refine a_gskip rfl (a_gskip rfl (a_gskip rfl (vp (.bool false) rfl (vp (.bool false) rfl (nx _ rfl (a_ret ?_))))))
         refine ⟨.inr rfl,?_⟩
         rw [Try.results9]
         cases h
         exact ⟨_,_,_,_,_,rfl,trivial,.inl ⟨rfl,.inl rfl⟩,rfl,rfl⟩
        ·have h:=ite_t hb201 h
         refine gp (eSA64u8 r152.1) rfl rfl (gp (eSA64u8 r154.1) rfl rfl ?_)
         obtain ⟨r202,hr203,h⟩:=bind_some h
         refine a_gcall rfl (args:=[(eSA64u8 r152.1),(eSA64u8 r154.1)]) (u:=[]) (r:=(.bool r202)) rfl rfl (laws_polys5_ok r152.1 r154.1 r202 hr203) rfl (vp (.bool r202) rfl (vp (.bool r202) rfl ?_))
         cases hb204 : r202
         ·have h:=ite_f hb204 h
          refine a_gskip rfl (a_gskip rfl (a_gskip rfl (vp (.bool false) rfl (vp (.bool false) rfl (a_gskip rfl (a_gskip rfl (a_gskip rfl (vp (.bool false) rfl (vp (.bool false) rfl ?_)))))))))
          refine a_gskip rfl (a_gskip rfl (a_gskip rfl (vp (.bool false) rfl (vp (.bool false) rfl (a_gskip rfl (a_gskip rfl (a_gskip rfl (vp (.bool false) rfl (vp (.bool false) rfl ?_)))))))))
          refine a_gskip rfl (a_gskip rfl (a_gskip rfl (vp (.bool false) rfl (vp (.bool false) rfl (a_gskip rfl (a_gskip rfl (a_gskip rfl (vp (.bool false) rfl (vp (.bool false) rfl ?_)))))))))
          refine a_gskip rfl (a_gskip rfl (a_gskip rfl (vp (.bool false) rfl (vp (.bool false) rfl (a_gskip rfl (a_gskip rfl (a_gskip rfl (vp (.bool false) rfl (vp (.bool false) rfl ?_)))))))))
          refine a_gskip rfl (a_gskip rfl (a_gskip rfl (vp (.bool false) rfl (vp (.bool false) rfl (a_gskip rfl (a_gskip rfl (a_gskip rfl (vp (.bool false) rfl (vp (.bool false) rfl ?_)))))))))
          refine nx _ rfl (a_ret ?_)
          refine ⟨.inr rfl,?_⟩
          rw [Try.results9]
          cases h
          exact ⟨_,_,_,_,_,rfl,trivial,.inl ⟨rfl,.inl rfl⟩,rfl,rfl⟩
         ·have h:=ite_t hb204 h
          refine gp (i6 r160.2) rfl rfl (gp (i6 r164.2) rfl rfl (gp (.bool (r160.2 == r164.2)) rfl rfl (vp (.bool (r160.2 == r164.2)) rfl (vp (.bool (r160.2 == r164.2)) rfl ?_))))
          cases hb205 : (r160.2 == r164.2)
          ·have h:=ite_f hb205 h
           refine a_gskip rfl (a_gskip rfl (a_gskip rfl (vp (.bool false) rfl (vp (.bool false) rfl (a_gskip rfl (a_gskip rfl (a_gskip rfl (vp (.bool false) rfl (vp (.bool false) rfl ?_)))))))))
           refine a_gskip rfl (a_gskip rfl (a_gskip rfl (vp (.bool false) rfl (vp (.bool false) rfl (a_gskip rfl (a_gskip rfl (a_gskip rfl (vp (.bool false) rfl (vp (.bool false) rfl ?_)))))))))
           refine a_gskip rfl (a_gskip rfl (a_gskip rfl (vp (.bool false) rfl (vp (.bool false) rfl (a_gskip rfl (a_gskip rfl (a_gskip rfl (vp (.bool false) rfl (vp (.bool false) rfl ?_)))))))))
           refine a_gskip rfl (a_gskip rfl (a_gskip rfl (vp (.bool false) rfl (vp (.bool false) rfl (a_gskip rfl (a_gskip rfl (a_gskip rfl (vp (.bool false) rfl (vp (.bool false) rfl ?_)))))))))
           refine a_gskip rfl (a_gskip rfl (a_gskip rfl (vp (.bool false) rfl (vp (.bool false) rfl (nx _ rfl (a_ret ?_))))))
           refine ⟨.inr rfl,?_⟩
           rw [Try.results9]
           cases h
           exact ⟨_,_,_,_,_,rfl,trivial,.inl ⟨rfl,.inl rfl⟩,rfl,rfl⟩
          ·have h:=ite_t hb205 h
           have hl206 : LdOk [] (eVb r160.1) [] 64 true (eVb r160.1):=(.nil rfl rfl rfl)
           refine gq (eVb r160.1) rfl (ld_own (i:=⟨.arr 64 5,64,64,(eVb (vrep 64 (0 : Int)))⟩) rfl rfl rfl hl206) hl206.c ?_
           have hl207 : LdOk [] (eVb r164.1) [] 64 true (eVb r164.1):=(.nil rfl rfl rfl)
           refine gq (eVb r164.1) rfl (ld_own (i:=⟨.arr 64 5,64,64,(eVb (vrep 64 (0 : Int)))⟩) rfl rfl rfl hl207) hl207.c (gq (.bool ((decide (r160.1 = r164.1)))) rfl (eqa_run (f:=(AV.int .u8)) (a:=r160.1.1) (b:=r164.1.1) rfl rfl (eqb_vec (fun _ _=>eqb_int _ _) r160.1 r164.1)) (cmp_arr (g:=8) (f:=(AV.int .u8)) (x:=r160.1) (y:=r164.1) rfl rfl rfl (fun _ _=>rfl) (fun _ _=>cmp_int rfl)) (vp (.bool ((decide (r160.1 = r164.1)))) rfl (vp (.bool ((decide (r160.1 = r164.1)))) rfl ?_)))
           cases hb208 : (decide (r160.1 = r164.1))
           ·have h:=ite_f hb208 h
            refine a_gskip rfl (a_gskip rfl (a_gskip rfl (vp (.bool false) rfl (vp (.bool false) rfl (a_gskip rfl (a_gskip rfl (a_gskip rfl (vp (.bool false) rfl (vp (.bool false) rfl ?_)))))))))
            refine a_gskip rfl (a_gskip rfl (a_gskip rfl (vp (.bool false) rfl (vp (.bool false) rfl (a_gskip rfl (a_gskip rfl (a_gskip rfl (vp (.bool false) rfl (vp (.bool false) rfl ?_)))))))))
            refine a_gskip rfl (a_gskip rfl (a_gskip rfl (vp (.bool false) rfl (vp (.bool false) rfl (a_gskip rfl (a_gskip rfl (a_gskip rfl (vp (.bool false) rfl (vp (.bool false) rfl ?_)))))))))
            refine a_gskip rfl (a_gskip rfl (a_gskip rfl (vp (.bool false) rfl (vp (.bool false) rfl (a_gskip rfl (a_gskip rfl (a_gskip rfl (vp (.bool false) rfl (vp (.bool false) rfl ?_)))))))))
            refine nx _ rfl (a_ret ?_)
            refine ⟨.inr rfl,?_⟩
            rw [Try.results9]
            cases h
            exact ⟨_,_,_,_,_,rfl,trivial,.inl ⟨rfl,.inl rfl⟩,rfl,rfl⟩
           ·have h:=ite_t hb208 h
            refine gp (i6 r169.2) rfl rfl (gp (i6 r172.2) rfl rfl (gp (.bool (r169.2 == r172.2)) rfl rfl (vp (.bool (r169.2 == r172.2)) rfl (vp (.bool (r169.2 == r172.2)) rfl ?_))))
            cases hb209 : (r169.2 == r172.2)
            ·have h:=ite_f hb209 h
             refine a_gskip rfl (a_gskip rfl (a_gskip rfl (vp (.bool false) rfl (vp (.bool false) rfl (a_gskip rfl (a_gskip rfl (a_gskip rfl (vp (.bool false) rfl (vp (.bool false) rfl ?_)))))))))
             refine a_gskip rfl (a_gskip rfl (a_gskip rfl (vp (.bool false) rfl (vp (.bool false) rfl (a_gskip rfl (a_gskip rfl (a_gskip rfl (vp (.bool false) rfl (vp (.bool false) rfl ?_)))))))))
             refine a_gskip rfl (a_gskip rfl (a_gskip rfl (vp (.bool false) rfl (vp (.bool false) rfl (a_gskip rfl (a_gskip rfl (a_gskip rfl (vp (.bool false) rfl (vp (.bool false) rfl ?_)))))))))
             refine a_gskip rfl (a_gskip rfl (a_gskip rfl (vp (.bool false) rfl (vp (.bool false) rfl (nx _ rfl (a_ret ?_))))))
             refine ⟨.inr rfl,?_⟩
             rw [Try.results9]
             cases h
             exact ⟨_,_,_,_,_,rfl,trivial,.inl ⟨rfl,.inl rfl⟩,rfl,rfl⟩
            ·have h:=ite_t hb209 h
             have hl210 : LdOk [] (eVb r169.1) [] 64 true (eVb r169.1):=(.nil rfl rfl rfl)
             refine gq (eVb r169.1) rfl (ld_own (i:=⟨.arr 64 5,64,64,(eVb (vrep 64 (0 : Int)))⟩) rfl rfl rfl hl210) hl210.c ?_
             have hl211 : LdOk [] (eVb r172.1) [] 64 true (eVb r172.1):=(.nil rfl rfl rfl)
             refine gq (eVb r172.1) rfl (ld_own (i:=⟨.arr 64 5,64,64,(eVb (vrep 64 (0 : Int)))⟩) rfl rfl rfl hl211) hl211.c (gq (.bool ((decide (r169.1 = r172.1)))) rfl (eqa_run (f:=(AV.int .u8)) (a:=r169.1.1) (b:=r172.1.1) rfl rfl (eqb_vec (fun _ _=>eqb_int _ _) r169.1 r172.1)) (cmp_arr (g:=8) (f:=(AV.int .u8)) (x:=r169.1) (y:=r172.1) rfl rfl rfl (fun _ _=>rfl) (fun _ _=>cmp_int rfl)) (vp (.bool ((decide (r169.1 = r172.1)))) rfl (vp (.bool ((decide (r169.1 = r172.1)))) rfl ?_)))
             cases hb212 : (decide (r169.1 = r172.1))
             ·have h:=ite_f hb212 h
              refine a_gskip rfl (a_gskip rfl (a_gskip rfl (vp (.bool false) rfl (vp (.bool false) rfl (a_gskip rfl (a_gskip rfl (a_gskip rfl (vp (.bool false) rfl (vp (.bool false) rfl ?_)))))))))
              refine a_gskip rfl (a_gskip rfl (a_gskip rfl (vp (.bool false) rfl (vp (.bool false) rfl (a_gskip rfl (a_gskip rfl (a_gskip rfl (vp (.bool false) rfl (vp (.bool false) rfl ?_)))))))))
              refine a_gskip rfl (a_gskip rfl (a_gskip rfl (vp (.bool false) rfl (vp (.bool false) rfl (a_gskip rfl (a_gskip rfl (a_gskip rfl (vp (.bool false) rfl (vp (.bool false) rfl ?_)))))))))
              refine nx _ rfl (a_ret ?_)
              refine ⟨.inr rfl,?_⟩
              rw [Try.results9]
              cases h
              exact ⟨_,_,_,_,_,rfl,trivial,.inl ⟨rfl,.inl rfl⟩,rfl,rfl⟩
             ·have h:=ite_t hb212 h
              refine gp (i6 r179.2) rfl rfl (gp (i6 r182.2) rfl rfl (gp (.bool (r179.2 == r182.2)) rfl rfl (vp (.bool (r179.2 == r182.2)) rfl (vp (.bool (r179.2 == r182.2)) rfl ?_))))
              cases hb213 : (r179.2 == r182.2)
              ·have h:=ite_f hb213 h
               refine a_gskip rfl (a_gskip rfl (a_gskip rfl (vp (.bool false) rfl (vp (.bool false) rfl (a_gskip rfl (a_gskip rfl (a_gskip rfl (vp (.bool false) rfl (vp (.bool false) rfl ?_)))))))))
               refine a_gskip rfl (a_gskip rfl (a_gskip rfl (vp (.bool false) rfl (vp (.bool false) rfl (a_gskip rfl (a_gskip rfl (a_gskip rfl (vp (.bool false) rfl (vp (.bool false) rfl ?_)))))))))
               refine a_gskip rfl (a_gskip rfl (a_gskip rfl (vp (.bool false) rfl (vp (.bool false) rfl (nx _ rfl (a_ret ?_))))))
               refine ⟨.inr rfl,?_⟩
               rw [Try.results9]
               cases h
               exact ⟨_,_,_,_,_,rfl,trivial,.inl ⟨rfl,.inl rfl⟩,rfl,rfl⟩
              ·have h:=ite_t hb213 h
               refine gp (.str r179.1) rfl rfl (gp (.str r182.1) rfl rfl (gp (.bool (r179.1.toList == r182.1.toList)) rfl rfl (vp (.bool (r179.1.toList == r182.1.toList)) rfl (vp (.bool (r179.1.toList == r182.1.toList)) rfl ?_))))
               cases hb214 : (r179.1.toList == r182.1.toList)
               ·have h:=ite_f hb214 h
                refine a_gskip rfl (a_gskip rfl (a_gskip rfl (vp (.bool false) rfl (vp (.bool false) rfl (a_gskip rfl (a_gskip rfl (a_gskip rfl (vp (.bool false) rfl (vp (.bool false) rfl ?_)))))))))
                refine a_gskip rfl (a_gskip rfl (a_gskip rfl (vp (.bool false) rfl (vp (.bool false) rfl (a_gskip rfl (a_gskip rfl (a_gskip rfl (vp (.bool false) rfl (vp (.bool false) rfl ?_)))))))))
                refine nx _ rfl (a_ret ?_)
                refine ⟨.inr rfl,?_⟩
                rw [Try.results9]
                cases h
                exact ⟨_,_,_,_,_,rfl,trivial,.inl ⟨rfl,.inl rfl⟩,rfl,rfl⟩
               ·have h:=ite_t hb214 h
                refine gp (i6 r186.2) rfl rfl (gp (i6 r189.2) rfl rfl (gp (.bool (r186.2 == r189.2)) rfl rfl (vp (.bool (r186.2 == r189.2)) rfl (vp (.bool (r186.2 == r189.2)) rfl ?_))))
                cases hb215 : (r186.2 == r189.2)
                ·have h:=ite_f hb215 h
                 refine a_gskip rfl (a_gskip rfl (a_gskip rfl (vp (.bool false) rfl (vp (.bool false) rfl (a_gskip rfl (a_gskip rfl (a_gskip rfl (vp (.bool false) rfl (vp (.bool false) rfl ?_)))))))))
                 refine a_gskip rfl (a_gskip rfl (a_gskip rfl (vp (.bool false) rfl (vp (.bool false) rfl (nx _ rfl (a_ret ?_))))))
                 refine ⟨.inr rfl,?_⟩
                 rw [Try.results9]
                 cases h
                 exact ⟨_,_,_,_,_,rfl,trivial,.inl ⟨rfl,.inl rfl⟩,rfl,rfl⟩
                ·have h:=ite_t hb215 h
                 have hl216 : LdOk [] (eVb r186.1) [] 64 true (eVb r186.1):=(.nil rfl rfl rfl)
                 refine gq (eVb r186.1) rfl (ld_own (i:=⟨.arr 64 5,64,64,(eVb (vrep 64 (0 : Int)))⟩) rfl rfl rfl hl216) hl216.c ?_
                 have hl217 : LdOk [] (eVb r189.1) [] 64 true (eVb r189.1):=(.nil rfl rfl rfl)
                 refine gq (eVb r189.1) rfl (ld_own (i:=⟨.arr 64 5,64,64,(eVb (vrep 64 (0 : Int)))⟩) rfl rfl rfl hl217) hl217.c (gq (.bool ((decide (r186.1 = r189.1)))) rfl (eqa_run (f:=(AV.int .u8)) (a:=r186.1.1) (b:=r189.1.1) rfl rfl (eqb_vec (fun _ _=>eqb_int _ _) r186.1 r189.1)) (cmp_arr (g:=8) (f:=(AV.int .u8)) (x:=r186.1) (y:=r189.1) rfl rfl rfl (fun _ _=>rfl) (fun _ _=>cmp_int rfl)) (vp (.bool ((decide (r186.1 = r189.1)))) rfl (vp (.bool ((decide (r186.1 = r189.1)))) rfl ?_)))
                 cases hb218 : (decide (r186.1 = r189.1))
                 ·have h:=ite_f hb218 h
                  refine a_gskip rfl (a_gskip rfl (a_gskip rfl (vp (.bool false) rfl (vp (.bool false) rfl (a_gskip rfl (a_gskip rfl (a_gskip rfl (vp (.bool false) rfl (vp (.bool false) rfl ?_)))))))))
                  refine nx _ rfl (a_ret ?_)
                  refine ⟨.inr rfl,?_⟩
                  rw [Try.results9]
                  cases h
                  exact ⟨_,_,_,_,_,rfl,trivial,.inl ⟨rfl,.inl rfl⟩,rfl,rfl⟩
                 ·have h:=ite_t hb218 h
                  refine gp (i6 r196.2) rfl rfl (gp (i6 r199.2) rfl rfl (gp (.bool (r196.2 == r199.2)) rfl rfl (vp (.bool (r196.2 == r199.2)) rfl (vp (.bool (r196.2 == r199.2)) rfl ?_))))
                  cases hb219 : (r196.2 == r199.2)
                  ·have h:=ite_f hb219 h
                   refine a_gskip rfl (a_gskip rfl (a_gskip rfl (vp (.bool false) rfl (vp (.bool false) rfl (nx _ rfl (a_ret ?_))))))
                   refine ⟨.inr rfl,?_⟩
                   rw [Try.results9]
                   cases h
                   exact ⟨_,_,_,_,_,rfl,trivial,.inl ⟨rfl,.inl rfl⟩,rfl,rfl⟩
                  ·have h:=ite_t hb219 h
                   refine gp (i6 r196.1) rfl rfl (gp (i6 r199.1) rfl rfl (gp (.bool (r196.1 == r199.1)) rfl rfl (vp (.bool (r196.1 == r199.1)) rfl (vp (.bool (r196.1 == r199.1)) rfl (nx _ rfl (a_ret ?_))))))
                   refine ⟨.inr rfl,?_⟩
                   rw [Try.results9]
                   cases h
                   exact ⟨_,_,_,_,_,rfl,trivial,.inl ⟨rfl,.inl rfl⟩,rfl,rfl⟩
       ·have h:=hy132
        refine sr (vp (i6 r96.2) rfl (vp (.bool (r96.2 == 0)) rfl (nk ⟨[(0,eSu8 a0),(16,i6 r90.1),(17,ow 17),(154,.bool (r96.2 == 0))],[(17,bk (eVb r90.2.1))]⟩ ?_)))
        cases hb134 : (r96.2 == 0)
        ·have h:=ite_f hb134 h
         refine a_cond_f rfl (a_skip ?_)
         exact j_leaf () (Option.some.inj h) (by kernel_rfl)
        ·have h:=ite_t hb134 h
         refine a_cond_t rfl (sr (vp (i6 r90.1) rfl (vl (eVb r90.2.1) rfl rfl rfl rfl rfl rfl (vq (eVb ((vset (vset (vrep 64 (0 : Int)) 0 0) 1 1))) rfl ⟨⟨_,rfl,rfl⟩,(all_cons ⟨(Nat.le_of_ble_eq_true rfl),rfl⟩ (all_cons ⟨(Nat.le_of_ble_eq_true rfl),rfl⟩ all_nil))⟩ ?_))))
         obtain ⟨r136,hr137,h⟩:=bind_some h
         refine a_call (args:=[(i6 r90.1),(eVb r90.2.1),(eVb ((vset (vset (vrep 64 (0 : Int)) 0 0) 1 1)))]) (u:=[]) (r:=(.tuple [(eVb r136.1),(i6 r136.2)])) rfl rfl (impl_ComposePolys_ok r90.1 r90.2.1 ((vset (vset (vrep 64 (0 : Int)) 0 0) 1 1)) r136 hr137) rfl (vp (.tuple [(eVb r136.1),(i6 r136.2)]) rfl (vb (eVb r136.1) rfl rfl (vb (i6 r136.2) rfl rfl (vo 3300 (eVb ((vrep 64 (0 : Int)))) rfl rfl (vs (eVb r136.1) rfl rfl (fun _=>rfl) rfl rfl rfl rfl rfl rfl (vp (i6 r136.2) rfl (nk ⟨[(0,eSu8 a0),(17,ow 17),(23,ow 23),(24,i6 r136.2)],[(17,bk (eVb r90.2.1)),(23,bk (eVb r136.1))]⟩ ?_)))))))
         obtain ⟨y143,hy144,hk145⟩:=bind_some h
         clear h
         refine a_join (emb:=fun (s : Bool)=>⟨[(0,eSu8 a0),(168,.bool s)],[]⟩) (pre:=fun s=>s = y143) ?_ ?_
         ·rintro x142 rfl
          have h:=hk145
          refine ns ⟨[(0,eSu8 a0),(168,.bool x142)],[]⟩ ?_
          cases hb149 : x142
          ·have h:=ite_f hb149 h
           refine a_cond_f rfl (a_skip ?_)
           exact j_leaf () (Option.some.inj h) (by kernel_rfl)
          ·have h:=ite_t hb149 h
           refine a_cond_t rfl (sr (vp (.bool false) rfl (nx _ rfl (a_ret (t_ret ?_)))))
           cases h
           have h:=hk133
           refine ⟨.inr rfl,?_⟩
           rw [Try.results9]
           cases h
           exact ⟨_,_,_,_,_,rfl,trivial,.inl ⟨rfl,.inl rfl⟩,rfl,rfl⟩
         ·have h:=hy144
          refine a_region (vp (i6 r136.2) rfl (vp (.bool (r136.2 != 0)) rfl (vp (.bool (r136.2 != 0)) rfl ?_)))
          cases hb146 : (r136.2 != 0)
          ·have h:=ite_f hb146 h
           have hl147 : LdOk [] (eVb r136.1) [] 64 true (eVb r136.1):=(.nil rfl rfl rfl)
           refine gq (eVb r136.1) rfl (ld_own (i:=⟨.arr 64 5,64,64,(eVb (vrep 64 (0 : Int)))⟩) rfl rfl rfl hl147) hl147.c ?_
           have hl148 : LdOk [] (eVb r90.2.1) [] 64 true (eVb r90.2.1):=(.nil rfl rfl rfl)
           refine gq (eVb r90.2.1) rfl (ld_own (i:=⟨.arr 64 5,64,64,(eVb (vrep 64 (0 : Int)))⟩) rfl rfl rfl hl148) hl148.c (gq (.bool ((!decide (r136.1 = r90.2.1)))) rfl (nea_run (f:=(AV.int .u8)) (a:=r136.1.1) (b:=r90.2.1.1) rfl rfl (eqb_vec (fun _ _=>eqb_int _ _) r136.1 r90.2.1)) (cmp_arr (g:=8) (f:=(AV.int .u8)) (x:=r136.1) (y:=r90.2.1) rfl rfl rfl (fun _ _=>rfl) (fun _ _=>cmp_int rfl)) (vp (.bool ((!decide (r136.1 = r90.2.1)))) rfl (a_nil ?_)))
           exact j_leaf ((!decide (r136.1 = r90.2.1))) (Option.some.inj h) (by kernel_rfl)
          ·have h:=ite_t hb146 h
           refine a_gskip rfl (a_gskip rfl (a_gskip rfl (vp (.bool true) rfl (a_nil ?_))))
           exact j_leaf true (Option.some.inj h) (by kernel_rfl)
      ·have h:=ite_t hb114 h
       refine a_cond_t rfl (sr (vp (.bool false) rfl (nx _ rfl (a_ret (t_ret ?_)))))
       refine ⟨.inr rfl,?_⟩
       rw [Try.results9]
       cases h
       exact ⟨_,_,_,_,_,rfl,trivial,.inl ⟨rfl,.inl rfl⟩,rfl,rfl⟩
     ·have h:=hy109
      refine a_region (vp (i6 r96.2) rfl (vp (i6 r101.2) rfl (vp (.bool (r96.2 != r101.2)) rfl (vp (.bool (r96.2 != r101.2)) rfl ?_))))
      cases hb111 : (r96.2 != r101.2)
      ·have h:=ite_f hb111 h
       have hl112 : LdOk [] (eVb r96.1) [] 64 true (eVb r96.1):=(.nil rfl rfl rfl)
       refine gq (eVb r96.1) rfl (ld_own (i:=⟨.arr 64 5,64,64,(eVb (vrep 64 (0 : Int)))⟩) rfl rfl rfl hl112) hl112.c ?_
       have hl113 : LdOk [] (eVb r101.1) [] 64 true (eVb r101.1):=(.nil rfl rfl rfl)
       refine gq (eVb r101.1) rfl (ld_own (i:=⟨.arr 64 5,64,64,(eVb (vrep 64 (0 : Int)))⟩) rfl rfl rfl hl113) hl113.c (gq (.bool ((!decide (r96.1 = r101.1)))) rfl (nea_run (f:=(AV.int .u8)) (a:=r96.1.1) (b:=r101.1.1) rfl rfl (eqb_vec (fun _ _=>eqb_int _ _) r96.1 r101.1)) (cmp_arr (g:=8) (f:=(AV.int .u8)) (x:=r96.1) (y:=r101.1) rfl rfl rfl (fun _ _=>rfl) (fun _ _=>cmp_int rfl)) (vp (.bool ((!decide (r96.1 = r101.1)))) rfl (a_nil ?_)))
       exact j_leaf ((!decide (r96.1 = r101.1))) (Option.some.inj h) (by kernel_rfl)
      ·have h:=ite_t hb111 h
       refine a_gskip rfl (a_gskip rfl (a_gskip rfl (vp (.bool true) rfl (a_nil ?_))))
       exact j_leaf true (Option.some.inj h) (by kernel_rfl)
    ·have h:=hy59
     obtain ⟨y63,hy64,hk65⟩:=bind_some h
     clear h
     refine a_join (emb:=fun (s : Bool)=>⟨[(0,eSu8 a0),(3,i6 r4.1),(4,ow 4),(5,i6 r4.2.2.1),(6,ow 6),(7,ow 7),(100,.bool s)],[(4,bk (eVb r4.2.1)),(6,bk (eVb r4.2.2.2)),(7,bk (eVb r10.1))]⟩) (pre:=fun s=>s = y63) ?_ ?_
     ·rintro x62 rfl
      have h:=hk65
      refine ns ⟨[(0,eSu8 a0),(3,i6 r4.1),(4,ow 4),(5,i6 r4.2.2.1),(6,ow 6),(7,ow 7),(100,.bool x62)],[(4,bk (eVb r4.2.1)),(6,bk (eVb r4.2.2.2)),(7,bk (eVb r10.1))]⟩ ?_
      cases hb67 : x62
      ·have h:=ite_f hb67 h
       refine a_cond_f rfl (a_skip ?_)
       exact j_leaf () (Option.some.inj h) (by kernel_rfl)
      ·have h:=ite_t hb67 h
       refine a_cond_t rfl (sr (vp (i6 r4.1) rfl (vl (eVb r4.2.1) rfl rfl rfl rfl rfl rfl (vp (i6 r4.2.2.1) rfl ?_))))
       obtain ⟨r69,hr70,h⟩:=bind_some h
       refine a_call (args:=[(i6 r4.1),(eVb r4.2.1),(i6 r4.2.2.1)]) (u:=[]) (r:=(.tuple [(eVb r69.1),(i6 r69.2)])) rfl rfl (impl_PowerOf_ok r4.1 r4.2.1 r4.2.2.1 r69 hr70) rfl (vp (.tuple [(eVb r69.1),(i6 r69.2)]) rfl (vb (eVb r69.1) rfl rfl (vb (i6 r69.2) rfl rfl (vo 2100 (eVb ((vrep 64 (0 : Int)))) rfl rfl (vs (eVb r69.1) rfl rfl (fun _=>rfl) rfl rfl rfl rfl rfl rfl (vp (i6 r69.2) rfl (nk ⟨[(0,eSu8 a0),(3,i6 r4.1),(6,ow 6),(7,ow 7),(11,ow 11),(12,i6 r69.2)],[(6,bk (eVb r4.2.2.2)),(7,bk (eVb r10.1)),(11,bk (eVb r69.1))]⟩ (sr (vp (i6 r69.2) rfl ?_)))))))))
       refine vp (.bool (r69.2 == 0)) rfl (nk ⟨[(0,eSu8 a0),(3,i6 r4.1),(6,ow 6),(7,ow 7),(11,ow 11),(109,.bool (r69.2 == 0))],[(6,bk (eVb r4.2.2.2)),(7,bk (eVb r10.1)),(11,bk (eVb r69.1))]⟩ ?_)
       cases hb72 : (r69.2 == 0)
       ·have h:=ite_f hb72 h
        refine a_cond_f rfl (a_skip ?_)
        exact j_leaf () (Option.some.inj h) (by kernel_rfl)
       ·have h:=ite_t hb72 h
        refine a_cond_t rfl (sr (vp (i6 r4.1) rfl (vl (eVb r69.1) rfl rfl rfl rfl rfl rfl (vl (eVb r4.2.2.2) rfl rfl rfl rfl rfl rfl ?_))))
        obtain ⟨r75,hr76,h⟩:=bind_some h
        refine a_call (args:=[(i6 r4.1),(eVb r69.1),(eVb r4.2.2.2)]) (u:=[]) (r:=(.tuple [(eVb r75.1),(eVb r75.2.1),(i6 r75.2.2)])) rfl rfl (impl_DividePolys_ok r4.1 r69.1 r4.2.2.2 r75 hr76) rfl (vp (.tuple [(eVb r75.1),(eVb r75.2.1),(i6 r75.2.2)]) rfl (vb (eVb r75.1) rfl rfl (vb (eVb r75.2.1) rfl rfl (vb (i6 r75.2.2) rfl rfl (vo 2300 (eVb ((vrep 64 (0 : Int)))) rfl rfl (vo 2400 (eVb ((vrep 64 (0 : Int)))) rfl rfl (vs (eVb r75.1) rfl rfl (fun _=>rfl) rfl rfl rfl rfl rfl rfl (vs (eVb r75.2.1) rfl rfl (fun _=>rfl) rfl rfl rfl rfl rfl rfl (vp (i6 r75.2.2) rfl ?_)))))))))
        refine nk ⟨[(0,eSu8 a0),(7,ow 7),(14,ow 14),(15,i6 r75.2.2)],[(7,bk (eVb r10.1)),(14,bk (eVb r75.2.1))]⟩ ?_
        obtain ⟨y83,hy84,hk85⟩:=bind_some h
        clear h
        refine a_join (emb:=fun (s : Bool)=>⟨[(0,eSu8 a0),(124,.bool s)],[]⟩) (pre:=fun s=>s = y83) ?_ ?_
        ·rintro x82 rfl
         have h:=hk85
         refine ns ⟨[(0,eSu8 a0),(124,.bool x82)],[]⟩ ?_
         cases hb89 : x82
         ·have h:=ite_f hb89 h
          refine a_cond_f rfl (a_skip ?_)
          exact j_leaf () (Option.some.inj h) (by kernel_rfl)
         ·have h:=ite_t hb89 h
          refine a_cond_t rfl (sr (vp (.bool false) rfl (nx _ rfl (a_ret (t_ret ?_)))))
          cases h
          have h:=hk60
          refine ⟨.inr rfl,?_⟩
          rw [Try.results9]
          cases h
          exact ⟨_,_,_,_,_,rfl,trivial,.inl ⟨rfl,.inl rfl⟩,rfl,rfl⟩
        ·have h:=hy84
         refine a_region (vp (i6 r75.2.2) rfl (vp (.bool (r75.2.2 != 0)) rfl (vp (.bool (r75.2.2 != 0)) rfl ?_)))
         cases hb86 : (r75.2.2 != 0)
         ·have h:=ite_f hb86 h
          have hl87 : LdOk [] (eVb r75.2.1) [] 64 true (eVb r75.2.1):=(.nil rfl rfl rfl)
          refine gq (eVb r75.2.1) rfl (ld_own (i:=⟨.arr 64 5,64,64,(eVb (vrep 64 (0 : Int)))⟩) rfl rfl rfl hl87) hl87.c ?_
          have hl88 : LdOk [] (eVb r10.1) [] 64 true (eVb r10.1):=(.nil rfl rfl rfl)
          refine gq (eVb r10.1) rfl (ld_own (i:=⟨.arr 64 5,64,64,(eVb (vrep 64 (0 : Int)))⟩) rfl rfl rfl hl88) hl88.c (gq (.bool ((!decide (r75.2.1 = r10.1)))) rfl (nea_run (f:=(AV.int .u8)) (a:=r75.2.1.1) (b:=r10.1.1) rfl rfl (eqb_vec (fun _ _=>eqb_int _ _) r75.2.1 r10.1)) (cmp_arr (g:=8) (f:=(AV.int .u8)) (x:=r75.2.1) (y:=r10.1) rfl rfl rfl (fun _ _=>rfl) (fun _ _=>cmp_int rfl)) (vp (.bool ((!decide (r75.2.1 = r10.1)))) rfl (a_nil ?_)))
          exact j_leaf ((!decide (r75.2.1 = r10.1))) (Option.some.inj h) (by kernel_rfl)
         ·have h:=ite_t hb86 h
          refine a_gskip rfl (a_gskip rfl (a_gskip rfl (vp (.bool true) rfl (a_nil ?_))))
          exact j_leaf true (Option.some.inj h) (by kernel_rfl)
     ·have h:=hy64
      refine a_region (vp (i6 r10.2) rfl (vp (.bool (r10.2 == 0)) rfl (vp (.bool (r10.2 == 0)) rfl ?_)))
      cases hb66 : (r10.2 == 0)
      ·have h:=ite_f hb66 h
       refine a_gskip rfl (a_gskip rfl (vp (.bool false) rfl (a_nil ?_)))
       exact j_leaf false (Option.some.inj h) (by kernel_rfl)
      ·have h:=ite_t hb66 h
       refine gp (i6 r4.2.2.1) rfl rfl (gp (.bool ((decide (r4.2.2.1 < 1000)))) rfl rfl (vp (.bool ((decide (r4.2.2.1 < 1000)))) rfl (a_nil ?_)))
       exact j_leaf ((decide (r4.2.2.1 < 1000))) (Option.some.inj h) (by kernel_rfl)
   ·have h:=ite_t hb28 h
    refine a_cond_t rfl (sr (vp (.bool false) rfl (nx _ rfl (a_ret (t_ret ?_)))))
    refine ⟨.inr rfl,?_⟩
    rw [Try.results9]
    cases h
    exact ⟨_,_,_,_,_,rfl,trivial,.inl ⟨rfl,.inl rfl⟩,rfl,rfl⟩
  ·have h:=hy23
   refine a_region (vp (i6 r10.2) rfl (vp (i6 r15.2) rfl (vp (.bool (r10.2 != r15.2)) rfl (vp (.bool (r10.2 != r15.2)) rfl ?_))))
   cases hb25 : (r10.2 != r15.2)
   ·have h:=ite_f hb25 h
    have hl26 : LdOk [] (eVb r10.1) [] 64 true (eVb r10.1):=(.nil rfl rfl rfl)
    refine gq (eVb r10.1) rfl (ld_own (i:=⟨.arr 64 5,64,64,(eVb (vrep 64 (0 : Int)))⟩) rfl rfl rfl hl26) hl26.c ?_
    have hl27 : LdOk [] (eVb r15.1) [] 64 true (eVb r15.1):=(.nil rfl rfl rfl)
    refine gq (eVb r15.1) rfl (ld_own (i:=⟨.arr 64 5,64,64,(eVb (vrep 64 (0 : Int)))⟩) rfl rfl rfl hl27) hl27.c (gq (.bool ((!decide (r10.1 = r15.1)))) rfl (nea_run (f:=(AV.int .u8)) (a:=r10.1.1) (b:=r15.1.1) rfl rfl (eqb_vec (fun _ _=>eqb_int _ _) r10.1 r15.1)) (cmp_arr (g:=8) (f:=(AV.int .u8)) (x:=r10.1) (y:=r15.1) rfl rfl rfl (fun _ _=>rfl) (fun _ _=>cmp_int rfl)) (vp (.bool ((!decide (r10.1 = r15.1)))) rfl (a_nil ?_)))
    exact j_leaf ((!decide (r10.1 = r15.1))) (Option.some.inj h) (by kernel_rfl)
   ·have h:=ite_t hb25 h
    refine a_gskip rfl (a_gskip rfl (a_gskip rfl (vp (.bool true) rfl (a_nil ?_))))
    exact j_leaf true (Option.some.inj h) (by kernel_rfl)
 ·have h:=ite_t hb3 h
  refine a_cond_t rfl (sr (vp (.bool true) rfl (nx _ rfl (a_ret (t_ret ?_)))))
  refine ⟨.inr rfl,?_⟩
  rw [Try.results9]
  cases h
  exact ⟨_,_,_,_,_,rfl,trivial,.inl ⟨rfl,.inl rfl⟩,rfl,rfl⟩
end Go.Proofs.Ytkbnegemdlnncaa
