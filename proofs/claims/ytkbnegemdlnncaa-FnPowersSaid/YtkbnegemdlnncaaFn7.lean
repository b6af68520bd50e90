/- Functions of the program: plain Lean functions, and that the program computes them. Printed by gen.py. -/
import Derived.Test.YtkbnegemdlnncaaFnT
import Derived.Test.YtkbnegemdlnncaaFn1
import Derived.Test.YtkbnegemdlnncaaFn2
import Derived.Test.YtkbnegemdlnncaaFn3
namespace Go.Proofs.Ytkbnegemdlnncaa
open Go.Abs Go.Proofs
set_option linter.unusedSimpArgs false
set_option linter.unusedVariables false
set_option maxHeartbeats 16000000
attribute [local irreducible] Abs.acode Abs.aops Abs.aopsT Abs.thenK Abs.blockK

def spec_DrawPolyText_c : ACode:=(.seq (.region 0 [q 2 (.asg 0 (.const (.int .i64 0)) 2),q 3 (.alloc 25)] false) (.seq (.region 1 [q 7 (.mov (t 0)),q 8 (.call 0 (.func 116) [(t 7)]),q 9 (.call 1 (.func 115) [(t 8)]),q 6 (.mov (t 9)),q 10 (.extract (t 6) 0),q 11 (.extract (t 6) 1),q 5 (.alloc 25),q 4 (.asg 0 (t 10) 2),⟨none,.store 25 (t 5) (t 11),none,[]⟩] false) (.seq (.region 2 [q 12 (.mov (t 4)),q 13 (.load 25 (t 5)),⟨some 2,.asg 0 (t 12) 2,none,[0,0]⟩,⟨none,.store 25 (t 3) (t 13),none,[1,2,0,1,2]⟩] true) .ret)))
def spec_DrawPolyText_L : Live:=[(0,[0]),(1,[0,3]),(2,[3,4,5])]
noncomputable def spec_DrawPolyText (a0 : (List Int)) : Option (Int × (Vec Int 64)) :=
 (Option.bind (spec_l01From a0) fun r1=>(Option.bind (spec_l01Spoil_of_src r1) fun r3=>(some (r3.1,r3.2.1))))
theorem spec_DrawPolyText_ok (a0 : (List Int)) (r : (Int × (Vec Int 64))) (h : spec_DrawPolyText a0 = some r) : Den Try.prog 92 [(eSu8 a0)] { r:=(.tuple [(i6 r.1),(eVb r.2)]) }:=by
 refine den_of (rs:=[(i6 r.1),(eVb r.2)]) (ac:=spec_DrawPolyText_c) (L:=spec_DrawPolyText_L) (n:=14) (m:=[(9,1)]) (c:=Try.f92.body.getD .skip) good Try.func92 (by kernel_rfl) (by kernel_rfl) Try.ntmps92 rfl rfl (by kernel_rfl) rfl rfl ?_
 refine ns ⟨[(0,eSu8 a0)],[]⟩ ?_
 unfold spec_DrawPolyText_c
 refine sr (vp (i6 0) rfl (vo 1300 (eVb ((vrep 64 (0 : Int)))) rfl rfl (nk ⟨[(0,eSu8 a0),(3,ow 3)],[(3,bk (eVb ((vrep 64 (0 : Int)))))]⟩ (sr (vp (eSu8 a0) rfl ?_)))))
 obtain ⟨r1,hr2,h⟩:=bind_some h
 refine a_callF (args:=[(eSu8 a0)]) (u:=[]) (u2:=[]) (r:=(ow 2000000)) (fs:=[(0,[eT_Su8_i64_u64_Z r1])]) rfl rfl (spec_l01From_ok a0 r1 hr2) rfl rfl rfl (.inl rfl) rfl ?_
 obtain ⟨r3,hr4,h⟩:=bind_some h
 refine a_callM (args:=[(.mutp (eT_Su8_i64_u64_Z r1))]) (i:=0) (id:=1800) (r:=(.tuple [(i6 r3.1),(eVb r3.2.1)])) (c:=(eT_Su8_i64_u64_Z r3.2.2)) rfl rfl (spec_l01Spoil_of_src_ok r1 r3 hr4) rfl trivial (vp (.tuple [(i6 r3.1),(eVb r3.2.1)]) rfl (vb (i6 r3.1) rfl rfl (vb (eVb r3.2.1) rfl rfl (vo 1500 (eVb ((vrep 64 (0 : Int)))) rfl rfl (vp (i6 r3.1) rfl (vs (eVb r3.2.1) rfl rfl (fun _=>rfl) rfl rfl rfl rfl rfl rfl (nk ⟨[(3,ow 3),(4,i6 r3.1),(5,ow 5)],[(3,bk (eVb ((vrep 64 (0 : Int))))),(5,bk (eVb r3.2.1))]⟩ (a_seq (a_draw [⟨[],[],[],[]⟩,⟨[5],[],[],[]⟩,⟨[],[],[],[0]⟩,⟨[3],[3],[],[0,1,2]⟩] (by kernel_rfl) ?_)))))))))
 refine dj (i6 r3.1) rfl (d_cons (vl (eVb r3.2.1) rfl rfl rfl rfl rfl rfl (d_next (by kernel_rfl) (dj (i6 r3.1) rfl (d_cons (vs (eVb r3.2.1) rfl rfl (fun _=>rfl) rfl rfl rfl rfl rfl rfl (d_next (by kernel_rfl) (d_nil (a_next rfl ?_)))))))))
 refine a_ret ?_
 have hl11 : LdOk [] (eVb r3.2.1) [] 64 true (eVb r3.2.1):=(.nil rfl rfl rfl)
 refine ⟨.inr rfl,?_⟩
 rw [Try.results92]
 cases h
 exact ⟨_,_,_,_,_,rfl,trivial,.inl ⟨rfl,.inl rfl⟩,rfl,⟨_,_,_,_,_,ld_own (i:=⟨.arr 64 5,64,64,(eVb (vrep 64 (0 : Int)))⟩) rfl rfl rfl hl11,hl11.c,.inl ⟨rfl,.inl rfl⟩,rfl,rfl⟩⟩
def impl_row_text_c : ACode:=(.seq (.region 0 [q 2 (.asg 0 (.const (.string ⟨#[]⟩)) 9)] false) (.seq (.seq (.region 1 [q 5 (.mov (t 0)),q 6 (.blt 0 .len [(t 5)] [80]),q 7 (.bin .eql 3 (t 6) (.const (.int .i64 0)))] false) (.cond (t 7) (.seq (.region 2 [q 2 (.asg 0 (.const (.string ⟨#[48]⟩)) 9)] false) .ret) .skip)) (.seq (.region 3 [q 3 (.asg 2 (.const (.slice none 0 0)) 22)] false) (.seq (.seq (.region 4 [q 8 (.mov (t 0)),q 9 (.blt 0 .len [(t 8)] [80]),q 10 (.bin .sub 3 (t 9) (.const (.int .i64 1))),q 4 (.asg 0 (t 10) 3)] false) (.block 0 (.loop (.seq (.seq (.region 5 [q 11 (.mov (t 4)),q 12 (.bin .geq 3 (t 11) (.const (.int .i64 0)))] false) (.cond (t 12) .skip (.exit 0))) (.seq (.block 1 (.region 7 [q 15 (.mov (t 3)),q 16 (.mov (t 0)),q 17 (.mov (t 4)),q 18 (.indexAddr 80 (t 16) (t 17)),q 19 (.load 2 (t 18)),q 20 (.bin .add 2 (.const (.int .i64 48)) (t 19)),q 21 (.conv 2 5 (t 20)),q 22 (.bslice 0 22 1 [(0,t 21)]),q 23 (.blt 0 .append [(t 15),(t 22)] [22,22]),q 3 (.asg 2 (t 23) 22)] false)) (.region 6 [q 13 (.mov (t 4)),q 14 (.bin .sub 3 (t 13) (.const (.int .i64 1))),q 4 (.asg 0 (t 14) 3)] false)))))) (.seq (.region 8 [q 24 (.mov (t 3)),q 25 (.conv 22 9 (t 24)),q 2 (.asg 0 (t 25) 9)] false) .ret)))))
def impl_row_text_L : Live:=[(0,[0]),(1,[0]),(2,[]),(3,[0]),(4,[0,3]),(5,[0,3,4]),(6,[0,3,4]),(7,[0,3,4]),(8,[3]),(100007,[0,7]),(100012,[0,3,4,12])]
noncomputable def impl_row_text_l1 (a0 : (List Int)) (x36 : Int) (x37 : (List Int)) : Option ((Int × (List Int)) ⊕ (List Int)) :=
 (if (decide (x36 ≥ 0)) then (ifp (0 ≤ x36 ∧ x36 < ((a0.length : Nat) : Int)) ((ifp ((x37.length + ([IntKind.u8.wrap (IntKind.i64.wrap (48 + (rd a0 x36.toNat)))] : List Int).length) * 1 ≤ 140737488355328) ((some (.inl ((IntKind.i64.wrap (x36 - 1),(x37 ++ ([IntKind.u8.wrap (IntKind.i64.wrap (48 + (rd a0 x36.toNat)))])))))))))) else (some (.inr x37)))
noncomputable def impl_row_text (a0 : (List Int)) : Option ByteArray :=
 (if ((a0.length : Int) == 0) then (some (⟨#[48]⟩ : ByteArray)) else (Option.bind (α:=(List Int)) ((loopM (fun s : (Int × (List Int))=>impl_row_text_l1 a0 s.1 s.2) (IntKind.i64.wrap ((a0.length : Int) - 1),[]))) fun x24=>(some (bstr x24))))
theorem impl_row_text_ok (a0 : (List Int)) (r : ByteArray) (h : impl_row_text a0 = some r) : Den Try.prog 120 [(eSi64 a0)] { r:=(.str r) }:=by
 refine den_of (rs:=[(.str r)]) (ac:=impl_row_text_c) (L:=impl_row_text_L) (n:=26) (m:=[(3,2)]) (c:=Try.f120.body.getD .skip) good Try.func120 (by kernel_rfl) (by kernel_rfl) Try.ntmps120 rfl rfl (by kernel_rfl) rfl rfl ?_
 refine ns ⟨[(0,eSi64 a0)],[]⟩ ?_
 unfold impl_row_text_c
 refine sr (vp (.str (⟨#[]⟩ : ByteArray)) rfl (nk ⟨[(0,eSi64 a0)],[]⟩ (a_seq (sr (vp (eSi64 a0) rfl (vq (i6 (a0.length : Int)) (len_run rfl rfl) trivial (vp (.bool (((a0.length : Int) == 0))) rfl (nk ⟨[(0,eSi64 a0),(7,.bool (((a0.length : Int) == 0)))],[]⟩ ?_))))))))
 cases hb1 : ((a0.length : Int) == 0)
 ·have h:=ite_f hb1 h
  refine a_cond_f rfl (a_skip (nj ⟨[(0,eSi64 a0)],[]⟩ (sr (vu (.osl 1300) [(1300,bk (.row 1 (([]).map (AV.int .u8))))] rfl trivial rfl (nk ⟨[(0,eSi64 a0),(3,.osl 3)],[(3,bk (.row 1 (([]).map (AV.int .u8))))]⟩ ?_)))))
  obtain ⟨y25,hy26,hk27⟩:=bind_some h
  clear h
  refine a_join (emb:=fun (s : (List Int))=>⟨[(3,.osl 3)],[(3,bk (.row 1 (s.map (AV.int .u8))))]⟩) (pre:=fun s=>s = y25) ?_ ?_
  ·rintro x24 rfl
   have h:=hk27
   refine ns ⟨[(3,.osl 3)],[(3,bk (.row 1 (x24.map (AV.int .u8))))]⟩ (sr (vp (.osl 3) rfl (vu (.str (bstr x24)) [(3,bf (.row 1 (x24.map (AV.int .u8))))] (str_run (l:=x24) rfl rfl rfl (fun _=>rfl)) (bytes_c _) rfl (vp (.str (bstr x24)) rfl (nx _ rfl (a_ret ?_))))))
   refine ⟨.inr rfl,?_⟩
   rw [Try.results120]
   cases h
   exact ⟨_,_,_,_,_,rfl,trivial,.inl ⟨rfl,.inl rfl⟩,rfl,rfl⟩
  ·have h:=hy26
   refine sr (vp (eSi64 a0) rfl (vq (i6 (a0.length : Int)) (len_run rfl rfl) trivial (vp (i6 (IntKind.i64.wrap ((a0.length : Int) - 1))) rfl (vp (i6 (IntKind.i64.wrap ((a0.length : Int) - 1))) rfl (nk ⟨[(0,eSi64 a0),(3,.osl 3),(4,i6 (IntKind.i64.wrap ((a0.length : Int) - 1)))],[(3,bk (.row 1 (([]).map (AV.int .u8))))]⟩ (a_block ?_))))))
   refine a_loop (emb:=fun (s : (Int × (List Int)))=>⟨[(0,eSi64 a0),(3,.osl 3),(4,i6 s.1)],[(3,bk (.row 1 (s.2.map (AV.int .u8))))]⟩) (body:=(fun s : (Int × (List Int))=>impl_row_text_l1 a0 s.1 s.2)) (G:=fun q=>some q = some y25) h rfl ?_ (by kernel_rfl)
   rintro X42 ⟨x36,x37⟩ x43 h hX44
   have h : impl_row_text_l1 a0 x36 x37 = some x43:=h
   refine ns ⟨[(0,eSi64 a0),(3,.osl 3),(4,i6 x36)],[(3,bk (.row 1 (x37.map (AV.int .u8))))]⟩ (a_seq (sr (vp (i6 x36) rfl (vp (.bool ((decide (x36 ≥ 0)))) rfl (nk ⟨[(0,eSi64 a0),(3,.osl 3),(4,i6 x36),(12,.bool ((decide (x36 ≥ 0))))],[(3,bk (.row 1 (x37.map (AV.int .u8))))]⟩ ?_)))))
   cases hb45 : (decide (x36 ≥ 0))
   ·have h:=ite_f hb45 h
    refine a_cond_f rfl (a_exit (t_exit ?_))
    cases h
    have h:=hX44
    refine t_exit (b_exit ?_)
    exact j_leaf x37 (Option.some.inj h) (by kernel_rfl)
   ·have h:=ite_t hb45 h
    refine a_cond_t rfl (a_skip (nj ⟨[(0,eSi64 a0),(3,.osl 3),(4,i6 x36)],[(3,bk (.row 1 (x37.map (AV.int .u8))))]⟩ (a_seq (a_block (a_region (vp (.osl 3) rfl (vp (eSi64 a0) rfl (vp (i6 x36) rfl ?_))))))))
    obtain ⟨hc46,h⟩:=ifp_some h
    refine vq (.ref (.row 1 (a0.map (AV.int .i64))) [x36.toNat] [x36.toNat * 1]) rfl (lmap hc46) ?_
    have hl47 : LdOk [x36.toNat] (.row 1 (a0.map (AV.int .i64))) [x36.toNat * 1] 1 false (i6 (rd a0 x36.toNat)):=(.row (llt hc46) rfl (.nil rfl rfl rfl))
    refine vq (i6 (rd a0 x36.toNat)) (ld_ref (i:=⟨.int .i64,1,8,(.int .i64 0)⟩) rfl rfl hl47) hl47.c (vp (i6 (IntKind.i64.wrap (48 + (rd a0 x36.toNat)))) rfl (vp (b8 (IntKind.u8.wrap (IntKind.i64.wrap (48 + (rd a0 x36.toNat))))) rfl (vq (.sl 1 true (([IntKind.u8.wrap (IntKind.i64.wrap (48 + (rd a0 x36.toNat)))]).map (AV.int .u8))) rfl ⟨(Nat.le_of_ble_eq_true rfl),(Nat.le_of_ble_eq_true rfl),(all_cons ⟨(Nat.le_of_ble_eq_true rfl),rfl⟩ all_nil)⟩ ?_)))
    obtain ⟨hc48,h⟩:=ifp_some h
    refine vu (.osl 3300) [(3300,bk (.row 1 (((x37 ++ ([IntKind.u8.wrap (IntKind.i64.wrap (48 + (rd a0 x36.toNat)))]))).map (AV.int .u8)))),(3,none)] (app_run (i:=⟨.int .u8,1,1,(.int .u8 0)⟩) (f:=(AV.int .u8)) (l:=x37) (l2:=[IntKind.u8.wrap (IntKind.i64.wrap (48 + (rd a0 x36.toNat)))]) rfl rfl rfl rfl (fun _=>rfl) rfl rfl) (app_c (f:=(AV.int .u8)) (s:=1) (sz:=1) (by':=1) (u:=[]) (id:=3) hc48 (.inr rfl) rfl rfl rfl) rfl (vp (.osl 3300) rfl (a_nil (b_norm (nj ⟨[(0,eSi64 a0),(3,.osl 3),(4,i6 x36)],[(3,bk (.row 1 (((x37 ++ ([IntKind.u8.wrap (IntKind.i64.wrap (48 + (rd a0 x36.toNat)))]))).map (AV.int .u8))))]⟩ (a_region (vp (i6 x36) rfl (vp (i6 (IntKind.i64.wrap (x36 - 1))) rfl (vp (i6 (IntKind.i64.wrap (x36 - 1))) rfl (a_nil ?_)))))))))
    cases h
    exact a_again (by kernel_rfl) hX44
 ·have h:=ite_t hb1 h
  refine a_cond_t rfl (sr (vp (.str (⟨#[48]⟩ : ByteArray)) rfl (nx _ rfl (a_ret (t_ret ?_)))))
  refine ⟨.inr rfl,?_⟩
  rw [Try.results120]
  cases h
  exact ⟨_,_,_,_,_,rfl,trivial,.inl ⟨rfl,.inl rfl⟩,rfl,rfl⟩
def impl_PolyText_c : ACode:=(.seq (.region 0 [q 3 (.box 25 (t 1)),q 4 (.asg 0 (.const (.string ⟨#[]⟩)) 9),q 5 (.asg 0 (.const (.int .i64 0)) 2)] false) (.seq (.seq (.region 1 [q 7 (.mov (t 0)),q 8 (.load 25 (t 3)),q 9 (.bslice 0 55 1 [(0,t 8)]),q 10 (.call 0 (.func 100) [(t 7),(t 9)]),q 6 (.asg 0 (t 10) 2)] false) (.seq (.region 2 [q 11 (.mov (t 6)),q 12 (.bin .neq 2 (t 11) (.const (.int .i64 0)))] false) (.cond (t 12) (.seq (.region 3 [q 13 (.mov (t 6)),q 4 (.asg 0 (.const (.string ⟨#[]⟩)) 9),q 5 (.asg 0 (t 13) 2)] false) .ret) .skip))) (.seq (.region 4 [q 14 (.load 25 (t 3)),q 15 (.call 0 (.func 103) [(t 14)]),q 16 (.call 0 (.func 120) [(t 15)]),q 4 (.asg 0 (t 16) 9),q 5 (.asg 0 (.const (.int .i64 0)) 2)] false) .ret)))
def impl_PolyText_L : Live:=[(0,[0,1]),(1,[0,3]),(2,[3,6]),(3,[6]),(4,[3]),(100012,[3,6,12])]
noncomputable def impl_PolyText (a0 : Int) (a1 : (Vec Int 64)) : Option (ByteArray × Int) :=
 (Option.bind (impl_polysCode a0 ([a1])) fun r2=>(if (r2 != 0) then (some (((⟨#[]⟩ : ByteArray),r2))) else (Option.bind (impl_rowOf a1) fun r6=>(Option.bind (impl_row_text r6) fun r8=>(some (r8,0))))))
theorem impl_PolyText_ok (a0 : Int) (a1 : (Vec Int 64)) (r : (ByteArray × Int)) (h : impl_PolyText a0 a1 = some r) : Den Try.prog 26 [(i6 a0),(eVb a1)] { r:=(.tuple [(.str r.1),(i6 r.2)]) }:=by
 refine den_of (rs:=[(.str r.1),(i6 r.2)]) (ac:=impl_PolyText_c) (L:=impl_PolyText_L) (n:=17) (m:=[]) (c:=Try.f26.body.getD .skip) good Try.func26 (by kernel_rfl) (by kernel_rfl) Try.ntmps26 rfl rfl (by kernel_rfl) rfl rfl ?_
 refine ns ⟨[(0,i6 a0),(1,eVb a1)],[]⟩ ?_
 unfold impl_PolyText_c
 refine sr (vo 1300 (eVb a1) rfl rfl (vp (.str (⟨#[]⟩ : ByteArray)) rfl (vp (i6 0) rfl (nk ⟨[(0,i6 a0),(3,ow 3)],[(3,bk (eVb a1))]⟩ (a_seq (sr (vp (i6 a0) rfl (vl (eVb a1) rfl rfl rfl rfl rfl rfl (vq (.sl 64 true (([a1]).map eVb)) rfl ⟨(Nat.le_of_ble_eq_true rfl),(Nat.le_of_ble_eq_true rfl),(all_cons ⟨(Nat.le_of_ble_eq_true rfl),rfl⟩ all_nil)⟩ ?_)))))))))
 obtain ⟨r2,hr3,h⟩:=bind_some h
 refine a_call (args:=[(i6 a0),(.sl 64 true (([a1]).map eVb))]) (u:=[]) (r:=(i6 r2)) rfl rfl (Den.args (impl_polysCode_ok a0 ([a1]) r2 hr3) rfl rfl (.cons (.refl _) (.cons (.loose _) .nil))) rfl (vp (i6 r2) rfl (nk ⟨[(3,ow 3),(6,i6 r2)],[(3,bk (eVb a1))]⟩ (sr (vp (i6 r2) rfl (vp (.bool (r2 != 0)) rfl (nk ⟨[(3,ow 3),(6,i6 r2),(12,.bool (r2 != 0))],[(3,bk (eVb a1))]⟩ ?_))))))
 cases hb4 : (r2 != 0)
 ·have h:=ite_f hb4 h
  refine a_cond_f rfl (a_skip (nj ⟨[(3,ow 3)],[(3,bk (eVb a1))]⟩ (sr (vl (eVb a1) rfl rfl rfl rfl rfl rfl ?_))))
  obtain ⟨r6,hr7,h⟩:=bind_some h
  refine a_call (args:=[(eVb a1)]) (u:=[]) (r:=(eSi64 r6)) rfl rfl (impl_rowOf_ok a1 r6 hr7) rfl ?_
  obtain ⟨r8,hr9,h⟩:=bind_some h
  refine a_call (args:=[(eSi64 r6)]) (u:=[]) (r:=(.str r8)) rfl rfl (impl_row_text_ok r6 r8 hr9) rfl (vp (.str r8) rfl (vp (i6 0) rfl (nx _ rfl (a_ret ?_))))
  refine ⟨.inr rfl,?_⟩
  rw [Try.results26]
  cases h
  exact ⟨_,_,_,_,_,rfl,trivial,.inl ⟨rfl,.inl rfl⟩,rfl,⟨_,_,_,_,_,rfl,trivial,.inl ⟨rfl,.inl rfl⟩,rfl,rfl⟩⟩
 ·have h:=ite_t hb4 h
  refine a_cond_t rfl (sr (vp (i6 r2) rfl (vp (.str (⟨#[]⟩ : ByteArray)) rfl (vp (i6 r2) rfl (nx _ rfl (a_ret (t_ret ?_)))))))
  refine ⟨.inr rfl,?_⟩
  rw [Try.results26]
  cases h
  exact ⟨_,_,_,_,_,rfl,trivial,.inl ⟨rfl,.inl rfl⟩,rfl,⟨_,_,_,_,_,rfl,trivial,.inl ⟨rfl,.inl rfl⟩,rfl,rfl⟩⟩
def spec_l01Text_c : ACode:=(.seq (.region 0 [q 1 (.box 25 (t 0)),q 2 (.asg 0 (.const (.string ⟨#[]⟩)) 9)] false) (.seq (.region 1 [q 5 (.bslice 2 22 0 []),q 3 (.asg 2 (t 5) 22)] false) (.seq (.seq (.region 2 [q 6 (.load 25 (t 1)),q 7 (.call 0 (.func 112) [(t 6)]),q 4 (.asg 0 (t 7) 2)] false) (.block 0 (.loop (.seq (.seq (.region 3 [q 8 (.mov (t 4)),q 9 (.bin .geq 2 (t 8) (.const (.int .i64 0)))] false) (.cond (t 9) .skip (.exit 0))) (.seq (.block 1 (.region 5 [q 12 (.mov (t 3)),q 13 (.mov (t 4)),q 14 (.indexAddr 25 (t 1) (t 13)),q 15 (.load 5 (t 14)),q 16 (.bin .add 5 (.const (.int .u8 48)) (t 15)),q 17 (.bslice 0 22 1 [(0,t 16)]),q 18 (.blt 0 .append [(t 12),(t 17)] [22,22]),q 3 (.asg 2 (t 18) 22)] false)) (.region 4 [q 10 (.mov (t 4)),q 11 (.bin .sub 2 (t 10) (.const (.int .i64 1))),q 4 (.asg 0 (t 11) 2)] false)))))) (.seq (.seq (.region 6 [q 19 (.mov (t 3)),q 20 (.blt 0 .len [(t 19)] [22]),q 21 (.bin .eql 3 (t 20) (.const (.int .i64 0)))] false) (.cond (t 21) (.seq (.region 7 [q 2 (.asg 0 (.const (.string ⟨#[48]⟩)) 9)] false) .ret) .skip)) (.seq (.region 8 [q 22 (.mov (t 3)),q 23 (.conv 22 9 (t 22)),q 2 (.asg 0 (t 23) 9)] false) .ret)))))
def spec_l01Text_L : Live:=[(0,[0]),(1,[1]),(2,[1,3]),(3,[1,3,4]),(4,[1,3,4]),(5,[1,3,4]),(6,[3]),(7,[]),(8,[3]),(100009,[1,3,4,9]),(100021,[3,21])]
noncomputable def spec_l01Text_l1 (a0 : (Vec Int 64)) (x33 : Int) (x34 : (List Int)) : Option ((Int × (List Int)) ⊕ (List Int)) :=
 (if (decide (x33 ≥ 0)) then (ifp (0 ≤ x33 ∧ x33 < ((64 : Nat) : Int)) ((ifp ((x34.length + ([IntKind.u8.wrap (48 + (rd a0.1 x33.toNat))] : List Int).length) * 1 ≤ 140737488355328) ((some (.inl ((IntKind.i64.wrap (x33 - 1),(x34 ++ ([IntKind.u8.wrap (48 + (rd a0.1 x33.toNat))])))))))))) else (some (.inr x34)))
noncomputable def spec_l01Text (a0 : (Vec Int 64)) : Option ByteArray :=
 (Option.bind (α:=(List Int)) ((Option.bind (spec_l01Deg a0) fun r27=>(loopM (fun s : (Int × (List Int))=>spec_l01Text_l1 a0 s.1 s.2) (r27,[])))) fun x22=>(if ((x22.length : Int) == 0) then (some (⟨#[48]⟩ : ByteArray)) else (some (bstr x22))))
theorem spec_l01Text_ok (a0 : (Vec Int 64)) (r : ByteArray) (h : spec_l01Text a0 = some r) : Den Try.prog 174 [(eVb a0)] { r:=(.str r) }:=by
 refine den_of (rs:=[(.str r)]) (ac:=spec_l01Text_c) (L:=spec_l01Text_L) (n:=24) (m:=[(3,2),(5,2)]) (c:=Try.f174.body.getD .skip) good Try.func174 (by kernel_rfl) (by kernel_rfl) Try.ntmps174 rfl rfl (by kernel_rfl) rfl rfl ?_
 refine ns ⟨[(0,eVb a0)],[]⟩ ?_
 unfold spec_l01Text_c
 refine sr (vo 1100 (eVb a0) rfl rfl (vp (.str (⟨#[]⟩ : ByteArray)) rfl (nk ⟨[(1,ow 1)],[(1,bk (eVb a0))]⟩ (sr (vu (.osl 1500) [(1500,bk (.row 1 (([]).map (AV.int .u8))))] rfl ⟨(Nat.le_of_ble_eq_true rfl),(Nat.le_of_ble_eq_true rfl),all_nil⟩ rfl (vp (.osl 1500) rfl (nk ⟨[(1,ow 1),(3,.osl 3)],[(1,bk (eVb a0)),(3,bk (.row 1 (([]).map (AV.int .u8))))]⟩ ?_)))))))
 obtain ⟨y23,hy24,hk25⟩:=bind_some h
 clear h
 refine a_join (emb:=fun (s : (List Int))=>⟨[(3,.osl 3)],[(3,bk (.row 1 (s.map (AV.int .u8))))]⟩) (pre:=fun s=>s = y23) ?_ ?_
 ·rintro x22 rfl
  have h:=hk25
  refine ns ⟨[(3,.osl 3)],[(3,bk (.row 1 (x22.map (AV.int .u8))))]⟩ (a_seq (sr (vp (.osl 3) rfl (vq (i6 (x22.length : Int)) (leno_run rfl rfl rfl) trivial (vp (.bool (((x22.length : Int) == 0))) rfl (nk ⟨[(3,.osl 3),(21,.bool (((x22.length : Int) == 0)))],[(3,bk (.row 1 (x22.map (AV.int .u8))))]⟩ ?_))))))
  cases hb47 : ((x22.length : Int) == 0)
  ·have h:=ite_f hb47 h
   refine a_cond_f rfl (a_skip (nj ⟨[(3,.osl 3)],[(3,bk (.row 1 (x22.map (AV.int .u8))))]⟩ (sr (vp (.osl 3) rfl (vu (.str (bstr x22)) [(3,bf (.row 1 (x22.map (AV.int .u8))))] (str_run (l:=x22) rfl rfl rfl (fun _=>rfl)) (bytes_c _) rfl (vp (.str (bstr x22)) rfl (nx _ rfl (a_ret ?_))))))))
   refine ⟨.inr rfl,?_⟩
   rw [Try.results174]
   cases h
   exact ⟨_,_,_,_,_,rfl,trivial,.inl ⟨rfl,.inl rfl⟩,rfl,rfl⟩
  ·have h:=ite_t hb47 h
   refine a_cond_t rfl (sr (vp (.str (⟨#[48]⟩ : ByteArray)) rfl (nx _ rfl (a_ret (t_ret ?_)))))
   refine ⟨.inr rfl,?_⟩
   rw [Try.results174]
   cases h
   exact ⟨_,_,_,_,_,rfl,trivial,.inl ⟨rfl,.inl rfl⟩,rfl,rfl⟩
 ·have h:=hy24
  refine sr (vl (eVb a0) rfl rfl rfl rfl rfl rfl ?_)
  obtain ⟨r27,hr28,h⟩:=bind_some h
  refine a_call (args:=[(eVb a0)]) (u:=[]) (r:=(i6 r27)) rfl rfl (spec_l01Deg_ok a0 r27 hr28) rfl (vp (i6 r27) rfl (nk ⟨[(1,ow 1),(3,.osl 3),(4,i6 r27)],[(1,bk (eVb a0)),(3,bk (.row 1 (([]).map (AV.int .u8))))]⟩ (a_block ?_)))
  refine a_loop (emb:=fun (s : (Int × (List Int)))=>⟨[(1,ow 1),(3,.osl 3),(4,i6 s.1)],[(1,bk (eVb a0)),(3,bk (.row 1 (s.2.map (AV.int .u8))))]⟩) (body:=(fun s : (Int × (List Int))=>spec_l01Text_l1 a0 s.1 s.2)) (G:=fun q=>some q = some y23) h rfl ?_ (by kernel_rfl)
  rintro X39 ⟨x33,x34⟩ x40 h hX41
  have h : spec_l01Text_l1 a0 x33 x34 = some x40:=h
  refine ns ⟨[(1,ow 1),(3,.osl 3),(4,i6 x33)],[(1,bk (eVb a0)),(3,bk (.row 1 (x34.map (AV.int .u8))))]⟩ (a_seq (sr (vp (i6 x33) rfl (vp (.bool ((decide (x33 ≥ 0)))) rfl (nk ⟨[(1,ow 1),(3,.osl 3),(4,i6 x33),(9,.bool ((decide (x33 ≥ 0))))],[(1,bk (eVb a0)),(3,bk (.row 1 (x34.map (AV.int .u8))))]⟩ ?_)))))
  cases hb42 : (decide (x33 ≥ 0))
  ·have h:=ite_f hb42 h
   refine a_cond_f rfl (a_exit (t_exit ?_))
   cases h
   have h:=hX41
   refine t_exit (b_exit ?_)
   exact j_leaf x34 (Option.some.inj h) (by kernel_rfl)
  ·have h:=ite_t hb42 h
   refine a_cond_t rfl (a_skip (nj ⟨[(1,ow 1),(3,.osl 3),(4,i6 x33)],[(1,bk (eVb a0)),(3,bk (.row 1 (x34.map (AV.int .u8))))]⟩ (a_seq (a_block (a_region (vp (.osl 3) rfl (vp (i6 x33) rfl ?_)))))))
   obtain ⟨hc43,h⟩:=ifp_some h
   refine vq (.own 1 [x33.toNat] [x33.toNat * 1]) rfl hc43 ?_
   have hl44 : LdOk [x33.toNat] (eVb a0) [x33.toNat * 1] 1 false (b8 (rd a0.1 x33.toNat)):=(.arr (vlt a0 hc43) rfl (.nil rfl rfl rfl))
   refine vq (b8 (rd a0.1 x33.toNat)) (ld_own (i:=⟨.int .u8,1,1,(.int .u8 0)⟩) rfl rfl rfl hl44) hl44.c (vp (b8 (IntKind.u8.wrap (48 + (rd a0.1 x33.toNat)))) rfl (vq (.sl 1 true (([IntKind.u8.wrap (48 + (rd a0.1 x33.toNat))]).map (AV.int .u8))) rfl ⟨(Nat.le_of_ble_eq_true rfl),(Nat.le_of_ble_eq_true rfl),(all_cons ⟨(Nat.le_of_ble_eq_true rfl),rfl⟩ all_nil)⟩ ?_))
   obtain ⟨hc45,h⟩:=ifp_some h
   refine vu (.osl 2800) [(2800,bk (.row 1 (((x34 ++ ([IntKind.u8.wrap (48 + (rd a0.1 x33.toNat))]))).map (AV.int .u8)))),(3,none)] (app_run (i:=⟨.int .u8,1,1,(.int .u8 0)⟩) (f:=(AV.int .u8)) (l:=x34) (l2:=[IntKind.u8.wrap (48 + (rd a0.1 x33.toNat))]) rfl rfl rfl rfl (fun _=>rfl) rfl rfl) (app_c (f:=(AV.int .u8)) (s:=1) (sz:=1) (by':=1) (u:=[]) (id:=3) hc45 (.inr rfl) rfl rfl rfl) rfl (vp (.osl 2800) rfl (a_nil (b_norm (nj ⟨[(1,ow 1),(3,.osl 3),(4,i6 x33)],[(1,bk (eVb a0)),(3,bk (.row 1 (((x34 ++ ([IntKind.u8.wrap (48 + (rd a0.1 x33.toNat))]))).map (AV.int .u8))))]⟩ (a_region (vp (i6 x33) rfl (vp (i6 (IntKind.i64.wrap (x33 - 1))) rfl (vp (i6 (IntKind.i64.wrap (x33 - 1))) rfl (a_nil ?_)))))))))
   cases h
   exact a_again (by kernel_rfl) hX41
def spec_PolyText_c : ACode:=(.seq (.region 0 [q 3 (.box 25 (t 1)),q 4 (.asg 0 (.const (.string ⟨#[]⟩)) 9),q 5 (.asg 0 (.const (.int .i64 0)) 2)] false) (.seq (.seq (.region 1 [q 7 (.mov (t 0)),q 8 (.load 25 (t 3)),q 9 (.bslice 0 55 1 [(0,t 8)]),q 10 (.call 0 (.func 104) [(t 7),(t 9)]),q 6 (.asg 0 (t 10) 2)] false) (.seq (.region 2 [q 11 (.mov (t 6)),q 12 (.bin .neq 2 (t 11) (.const (.int .i64 0)))] false) (.cond (t 12) (.seq (.region 3 [q 13 (.mov (t 6)),q 4 (.asg 0 (.const (.string ⟨#[]⟩)) 9),q 5 (.asg 0 (t 13) 2)] false) .ret) .skip))) (.seq (.region 4 [q 14 (.load 25 (t 3)),q 15 (.call 0 (.func 174) [(t 14)]),q 4 (.asg 0 (t 15) 9),q 5 (.asg 0 (.const (.int .i64 0)) 2)] false) .ret)))
def spec_PolyText_L : Live:=[(0,[0,1]),(1,[0,3]),(2,[3,6]),(3,[6]),(4,[3]),(100012,[3,6,12])]
noncomputable def spec_PolyText (a0 : Int) (a1 : (Vec Int 64)) : Option (ByteArray × Int) :=
 (Option.bind (spec_l01Code a0 ([a1])) fun r2=>(if (r2 != 0) then (some (((⟨#[]⟩ : ByteArray),r2))) else (Option.bind (spec_l01Text a1) fun r6=>(some (r6,0)))))
theorem spec_PolyText_ok (a0 : Int) (a1 : (Vec Int 64)) (r : (ByteArray × Int)) (h : spec_PolyText a0 a1 = some r) : Den Try.prog 93 [(i6 a0),(eVb a1)] { r:=(.tuple [(.str r.1),(i6 r.2)]) }:=by
 refine den_of (rs:=[(.str r.1),(i6 r.2)]) (ac:=spec_PolyText_c) (L:=spec_PolyText_L) (n:=16) (m:=[]) (c:=Try.f93.body.getD .skip) good Try.func93 (by kernel_rfl) (by kernel_rfl) Try.ntmps93 rfl rfl (by kernel_rfl) rfl rfl ?_
 refine ns ⟨[(0,i6 a0),(1,eVb a1)],[]⟩ ?_
 unfold spec_PolyText_c
 refine sr (vo 1300 (eVb a1) rfl rfl (vp (.str (⟨#[]⟩ : ByteArray)) rfl (vp (i6 0) rfl (nk ⟨[(0,i6 a0),(3,ow 3)],[(3,bk (eVb a1))]⟩ (a_seq (sr (vp (i6 a0) rfl (vl (eVb a1) rfl rfl rfl rfl rfl rfl (vq (.sl 64 true (([a1]).map eVb)) rfl ⟨(Nat.le_of_ble_eq_true rfl),(Nat.le_of_ble_eq_true rfl),(all_cons ⟨(Nat.le_of_ble_eq_true rfl),rfl⟩ all_nil)⟩ ?_)))))))))
 obtain ⟨r2,hr3,h⟩:=bind_some h
 refine a_call (args:=[(i6 a0),(.sl 64 true (([a1]).map eVb))]) (u:=[]) (r:=(i6 r2)) rfl rfl (Den.args (spec_l01Code_ok a0 ([a1]) r2 hr3) rfl rfl (.cons (.refl _) (.cons (.loose _) .nil))) rfl (vp (i6 r2) rfl (nk ⟨[(3,ow 3),(6,i6 r2)],[(3,bk (eVb a1))]⟩ (sr (vp (i6 r2) rfl (vp (.bool (r2 != 0)) rfl (nk ⟨[(3,ow 3),(6,i6 r2),(12,.bool (r2 != 0))],[(3,bk (eVb a1))]⟩ ?_))))))
 cases hb4 : (r2 != 0)
 ·have h:=ite_f hb4 h
  refine a_cond_f rfl (a_skip (nj ⟨[(3,ow 3)],[(3,bk (eVb a1))]⟩ (sr (vl (eVb a1) rfl rfl rfl rfl rfl rfl ?_))))
  obtain ⟨r6,hr7,h⟩:=bind_some h
  refine a_call (args:=[(eVb a1)]) (u:=[]) (r:=(.str r6)) rfl rfl (spec_l01Text_ok a1 r6 hr7) rfl (vp (.str r6) rfl (vp (i6 0) rfl (nx _ rfl (a_ret ?_))))
  refine ⟨.inr rfl,?_⟩
  rw [Try.results93]
  cases h
  exact ⟨_,_,_,_,_,rfl,trivial,.inl ⟨rfl,.inl rfl⟩,rfl,⟨_,_,_,_,_,rfl,trivial,.inl ⟨rfl,.inl rfl⟩,rfl,rfl⟩⟩
 ·have h:=ite_t hb4 h
  refine a_cond_t rfl (sr (vp (i6 r2) rfl (vp (.str (⟨#[]⟩ : ByteArray)) rfl (vp (i6 r2) rfl (nx _ rfl (a_ret (t_ret ?_)))))))
  refine ⟨.inr rfl,?_⟩
  rw [Try.results93]
  cases h
  exact ⟨_,_,_,_,_,rfl,trivial,.inl ⟨rfl,.inl rfl⟩,rfl,⟨_,_,_,_,_,rfl,trivial,.inl ⟨rfl,.inl rfl⟩,rfl,rfl⟩⟩
def spec_l01Damage_of_src_c : ACode:=(.seq (.region 0 [q 4 (.asg 0 (.const (.string ⟨#[]⟩)) 9)] false) (.seq (.region 1 [q 8 (.bslice 0 164 11 [(0,.const (.string ⟨#[48]⟩)),(1,.const (.string ⟨#[49]⟩)),(2,.const (.string ⟨#[50]⟩)),(3,.const (.string ⟨#[54]⟩)),(4,.const (.string ⟨#[55]⟩)),(5,.const (.string ⟨#[44]⟩)),(6,.const (.string ⟨#[59]⟩)),(7,.const (.string ⟨#[45]⟩)),(8,.const (.string ⟨#[32]⟩)),(9,.const (.string ⟨#[84]⟩)),(10,.const (.string ⟨#[10]⟩))]),q 5 (.asg 1 (t 8) 164)] false) (.seq (.region 2 [q 9 (.mov (t 5)),q 10 (.mov (t 0)),q 11 (.mov (t 5)),q 12 (.blt 0 .len [(t 11)] [164]),q 13 (.call 1 (.func 123) [(t 10),(t 12)]),q 14 (.indexAddr 164 (t 9) (t 13)),q 15 (.load 9 (t 14)),q 6 (.asg 0 (t 15) 9)] false) (.seq (.seq (.region 3 [q 16 (.mov (t 1)),q 17 (.blt 0 .len [(t 16)] [9]),q 18 (.bin .eql 3 (t 17) (.const (.int .i64 0)))] false) (.cond (t 18) (.seq (.region 4 [q 19 (.mov (t 6)),q 4 (.asg 0 (t 19) 9)] false) .ret) .skip)) (.seq (.region 5 [q 20 (.mov (t 0)),q 21 (.mov (t 1)),q 22 (.blt 0 .len [(t 21)] [9]),q 23 (.call 1 (.func 123) [(t 20),(t 22)]),q 7 (.asg 0 (t 23) 2)] false) (.seq (.seq (.region 6 [q 24 (.mov (t 0)),q 25 (.call 1 (.func 123) [(t 24),(.const (.int .i64 3))])] false) (.block 0 (.seq (.region 7 [q 27 (.bin .eql 2 (t 25) (.const (.int .i64 0))),q 26 (.asg 0 (t 27) 4)] false) (.cond (t 26) (.seq (.region 8 [q 28 (.mov (t 1)),q 29 (.mov (t 7)),⟨some 30,.slice 9 (t 28) none (some (t 29)) none,none,[0,1]⟩,q 31 (.mov (t 6)),⟨some 32,.bin .add 9 (t 30) (t 31),none,[2,3]⟩,q 33 (.mov (t 1)),q 34 (.mov (t 7)),⟨some 35,.bin .add 2 (t 34) (.const (.int .i64 1)),none,[6]⟩,⟨some 36,.slice 9 (t 33) (some (t 35)) none none,none,[5,7]⟩,⟨some 37,.bin .add 9 (t 32) (t 36),none,[4,8]⟩,⟨some 4,.asg 0 (t 37) 9,none,[9,0,1,2,3,4,5,6,7,8,9]⟩] true) .ret) (.seq (.region 9 [q 39 (.bin .eql 2 (t 25) (.const (.int .i64 1))),q 38 (.asg 0 (t 39) 4)] false) (.cond (t 38) (.seq (.region 10 [q 40 (.mov (t 1)),q 41 (.mov (t 7)),⟨some 42,.slice 9 (t 40) none (some (t 41)) none,none,[0,1]⟩,q 43 (.mov (t 1)),q 44 (.mov (t 7)),⟨some 45,.bin .add 2 (t 44) (.const (.int .i64 1)),none,[4]⟩,⟨some 46,.slice 9 (t 43) (some (t 45)) none none,none,[3,5]⟩,⟨some 47,.bin .add 9 (t 42) (t 46),none,[2,6]⟩,⟨some 4,.asg 0 (t 47) 9,none,[7,0,1,2,3,4,5,6,7]⟩] true) .ret) .skip)))))) (.seq (.region 11 [q 48 (.mov (t 1)),q 49 (.mov (t 7)),⟨some 50,.slice 9 (t 48) none (some (t 49)) none,none,[0,1]⟩,q 51 (.mov (t 6)),⟨some 52,.bin .add 9 (t 50) (t 51),none,[2,3]⟩,q 53 (.mov (t 1)),q 54 (.mov (t 7)),⟨some 55,.slice 9 (t 53) (some (t 54)) none none,none,[5,6]⟩,⟨some 56,.bin .add 9 (t 52) (t 55),none,[4,7]⟩,⟨some 4,.asg 0 (t 56) 9,none,[8,0,1,2,3,4,5,6,7,8]⟩] true) .ret)))))))
def spec_l01Damage_of_src_L : Live:=[(0,[0,1]),(1,[0,1]),(2,[0,1,5]),(3,[0,1,6]),(4,[6]),(5,[0,1,6]),(6,[0,1,6,7]),(7,[1,6,7,25]),(8,[1,6,7]),(9,[1,6,7,25]),(10,[1,7]),(11,[1,6,7]),(100018,[0,1,6,18]),(100026,[1,6,7,25,26]),(100038,[1,6,7,38])]
noncomputable def spec_l01Damage_of_src (a0 : ((List Int) × Int × Int)) (a1 : ByteArray) : Option (ByteArray × ((List Int) × Int × Int)) :=
 (Option.bind (spec_l01Next_of_src a0 ((([(⟨#[48]⟩ : ByteArray),(⟨#[49]⟩ : ByteArray),(⟨#[50]⟩ : ByteArray),(⟨#[54]⟩ : ByteArray),(⟨#[55]⟩ : ByteArray),(⟨#[44]⟩ : ByteArray),(⟨#[59]⟩ : ByteArray),(⟨#[45]⟩ : ByteArray),(⟨#[32]⟩ : ByteArray),(⟨#[84]⟩ : ByteArray),(⟨#[10]⟩ : ByteArray)]).length : Int))) fun r1=>(ifp (0 ≤ r1.1 ∧ r1.1 < ((([(⟨#[48]⟩ : ByteArray),(⟨#[49]⟩ : ByteArray),(⟨#[50]⟩ : ByteArray),(⟨#[54]⟩ : ByteArray),(⟨#[55]⟩ : ByteArray),(⟨#[44]⟩ : ByteArray),(⟨#[59]⟩ : ByteArray),(⟨#[45]⟩ : ByteArray),(⟨#[32]⟩ : ByteArray),(⟨#[84]⟩ : ByteArray),(⟨#[10]⟩ : ByteArray)]).length : Nat) : Int)) ((letp ((rd ([(⟨#[48]⟩ : ByteArray),(⟨#[49]⟩ : ByteArray),(⟨#[50]⟩ : ByteArray),(⟨#[54]⟩ : ByteArray),(⟨#[55]⟩ : ByteArray),(⟨#[44]⟩ : ByteArray),(⟨#[59]⟩ : ByteArray),(⟨#[45]⟩ : ByteArray),(⟨#[32]⟩ : ByteArray),(⟨#[84]⟩ : ByteArray),(⟨#[10]⟩ : ByteArray)]) r1.1.toNat)) fun x6=>(if ((a1.size : Int) == 0) then (some (x6,r1.2)) else (Option.bind (spec_l01Next_of_src r1.2 (a1.size : Int)) fun r9=>(Option.bind (spec_l01Next_of_src r9.2 3) fun r12=>(if (r12.1 == 0) then (ifp (0 ≤ r9.1 ∧ r9.1 ≤ (a1.size : Int)) ((ifp ((a1.extract 0 r9.1.toNat).size + x6.size ≤ 9223372036854775807) ((ifp (0 ≤ (IntKind.i64.wrap (r9.1 + 1)) ∧ (IntKind.i64.wrap (r9.1 + 1)) ≤ (a1.size : Int)) ((ifp ((((a1.extract 0 r9.1.toNat) ++ x6)).size + ((a1.extract (IntKind.i64.wrap (r9.1 + 1)).toNat a1.size)).size ≤ 9223372036854775807) ((some ((((((a1.extract 0 r9.1.toNat) ++ x6)) ++ ((a1.extract (IntKind.i64.wrap (r9.1 + 1)).toNat a1.size))),r12.2))))))))))) else (if (r12.1 == 1) then (ifp (0 ≤ r9.1 ∧ r9.1 ≤ (a1.size : Int)) ((ifp (0 ≤ (IntKind.i64.wrap (r9.1 + 1)) ∧ (IntKind.i64.wrap (r9.1 + 1)) ≤ (a1.size : Int)) ((ifp ((a1.extract 0 r9.1.toNat).size + ((a1.extract (IntKind.i64.wrap (r9.1 + 1)).toNat a1.size)).size ≤ 9223372036854775807) ((some ((((a1.extract 0 r9.1.toNat) ++ ((a1.extract (IntKind.i64.wrap (r9.1 + 1)).toNat a1.size))),r12.2))))))))) else (ifp (0 ≤ r9.1 ∧ r9.1 ≤ (a1.size : Int)) ((ifp ((a1.extract 0 r9.1.toNat).size + x6.size ≤ 9223372036854775807) ((ifp (0 ≤ r9.1 ∧ r9.1 ≤ (a1.size : Int)) ((ifp ((((a1.extract 0 r9.1.toNat) ++ x6)).size + (a1.extract r9.1.toNat a1.size).size ≤ 9223372036854775807) ((some ((((((a1.extract 0 r9.1.toNat) ++ x6)) ++ (a1.extract r9.1.toNat a1.size)),r12.2))))))))))))))))))))
theorem spec_l01Damage_of_src_ok (a0 : ((List Int) × Int × Int)) (a1 : ByteArray) (r : (ByteArray × ((List Int) × Int × Int))) (h : spec_l01Damage_of_src a0 a1 = some r) : Den Try.prog 175 [(.mutp (eT_Su8_i64_u64_Z a0)),(.str a1)] { r:=(.str r.1),ms:=[(eT_Su8_i64_u64_Z r.2)],fs:=[] }:=by
 refine den_ofX (rs:=[(.str r.1)]) (ac:=spec_l01Damage_of_src_c) (L:=spec_l01Damage_of_src_L) (n:=57) (m:=[(5,1),(13,1),(23,1),(25,1)]) (c:=Try.f175.body.getD .skip) good Try.func175 (by kernel_rfl) (by kernel_rfl) Try.ntmps175 rfl rfl (by kernel_rfl) rfl ?_
 refine ns ⟨[(0,ow 1000000),(1,.str a1)],[(1000000,bk (eT_Su8_i64_u64_Z a0))]⟩ ?_
 unfold spec_l01Damage_of_src_c
 refine sr (vp (.str (⟨#[]⟩ : ByteArray)) rfl (nk ⟨[(0,ow 1000000),(1,.str a1)],[(1000000,bk (eT_Su8_i64_u64_Z a0))]⟩ (sr (vq (.sl 1 true (([(⟨#[48]⟩ : ByteArray),(⟨#[49]⟩ : ByteArray),(⟨#[50]⟩ : ByteArray),(⟨#[54]⟩ : ByteArray),(⟨#[55]⟩ : ByteArray),(⟨#[44]⟩ : ByteArray),(⟨#[59]⟩ : ByteArray),(⟨#[45]⟩ : ByteArray),(⟨#[32]⟩ : ByteArray),(⟨#[84]⟩ : ByteArray),(⟨#[10]⟩ : ByteArray)]).map AV.str)) rfl ⟨(Nat.le_of_ble_eq_true rfl),(Nat.le_of_ble_eq_true rfl),(all_cons ⟨(Nat.le_of_ble_eq_true rfl),rfl⟩ (all_cons ⟨(Nat.le_of_ble_eq_true rfl),rfl⟩ (all_cons ⟨(Nat.le_of_ble_eq_true rfl),rfl⟩ (all_cons ⟨(Nat.le_of_ble_eq_true rfl),rfl⟩ (all_cons ⟨(Nat.le_of_ble_eq_true rfl),rfl⟩ (all_cons ⟨(Nat.le_of_ble_eq_true rfl),rfl⟩ (all_cons ⟨(Nat.le_of_ble_eq_true rfl),rfl⟩ (all_cons ⟨(Nat.le_of_ble_eq_true rfl),rfl⟩ (all_cons ⟨(Nat.le_of_ble_eq_true rfl),rfl⟩ (all_cons ⟨(Nat.le_of_ble_eq_true rfl),rfl⟩ (all_cons ⟨(Nat.le_of_ble_eq_true rfl),rfl⟩ all_nil)))))))))))⟩ (vq (eSstr ([(⟨#[48]⟩ : ByteArray),(⟨#[49]⟩ : ByteArray),(⟨#[50]⟩ : ByteArray),(⟨#[54]⟩ : ByteArray),(⟨#[55]⟩ : ByteArray),(⟨#[44]⟩ : ByteArray),(⟨#[59]⟩ : ByteArray),(⟨#[45]⟩ : ByteArray),(⟨#[32]⟩ : ByteArray),(⟨#[84]⟩ : ByteArray),(⟨#[10]⟩ : ByteArray)])) (asg_tight (i:=⟨.string,1,16,(.str ByteArray.empty)⟩) (f:=AV.str) (l:=[(⟨#[48]⟩ : ByteArray),(⟨#[49]⟩ : ByteArray),(⟨#[50]⟩ : ByteArray),(⟨#[54]⟩ : ByteArray),(⟨#[55]⟩ : ByteArray),(⟨#[44]⟩ : ByteArray),(⟨#[59]⟩ : ByteArray),(⟨#[45]⟩ : ByteArray),(⟨#[32]⟩ : ByteArray),(⟨#[84]⟩ : ByteArray),(⟨#[10]⟩ : ByteArray)]) rfl rfl rfl) trivial (nk ⟨[(0,ow 1000000),(1,.str a1),(5,eSstr ([(⟨#[48]⟩ : ByteArray),(⟨#[49]⟩ : ByteArray),(⟨#[50]⟩ : ByteArray),(⟨#[54]⟩ : ByteArray),(⟨#[55]⟩ : ByteArray),(⟨#[44]⟩ : ByteArray),(⟨#[59]⟩ : ByteArray),(⟨#[45]⟩ : ByteArray),(⟨#[32]⟩ : ByteArray),(⟨#[84]⟩ : ByteArray),(⟨#[10]⟩ : ByteArray)]))],[(1000000,bk (eT_Su8_i64_u64_Z a0))]⟩ (sr (vp (eSstr ([(⟨#[48]⟩ : ByteArray),(⟨#[49]⟩ : ByteArray),(⟨#[50]⟩ : ByteArray),(⟨#[54]⟩ : ByteArray),(⟨#[55]⟩ : ByteArray),(⟨#[44]⟩ : ByteArray),(⟨#[59]⟩ : ByteArray),(⟨#[45]⟩ : ByteArray),(⟨#[32]⟩ : ByteArray),(⟨#[84]⟩ : ByteArray),(⟨#[10]⟩ : ByteArray)])) rfl (vp (ow 1000000) rfl ?_)))))))))
 refine vp (eSstr ([(⟨#[48]⟩ : ByteArray),(⟨#[49]⟩ : ByteArray),(⟨#[50]⟩ : ByteArray),(⟨#[54]⟩ : ByteArray),(⟨#[55]⟩ : ByteArray),(⟨#[44]⟩ : ByteArray),(⟨#[59]⟩ : ByteArray),(⟨#[45]⟩ : ByteArray),(⟨#[32]⟩ : ByteArray),(⟨#[84]⟩ : ByteArray),(⟨#[10]⟩ : ByteArray)])) rfl (vq (i6 ((([(⟨#[48]⟩ : ByteArray),(⟨#[49]⟩ : ByteArray),(⟨#[50]⟩ : ByteArray),(⟨#[54]⟩ : ByteArray),(⟨#[55]⟩ : ByteArray),(⟨#[44]⟩ : ByteArray),(⟨#[59]⟩ : ByteArray),(⟨#[45]⟩ : ByteArray),(⟨#[32]⟩ : ByteArray),(⟨#[84]⟩ : ByteArray),(⟨#[10]⟩ : ByteArray)]).length : Int))) (len_run rfl rfl) trivial ?_)
 obtain ⟨r1,hr2,h⟩:=bind_some h
 refine a_callM (args:=[(.mutp (eT_Su8_i64_u64_Z a0)),(i6 ((([(⟨#[48]⟩ : ByteArray),(⟨#[49]⟩ : ByteArray),(⟨#[50]⟩ : ByteArray),(⟨#[54]⟩ : ByteArray),(⟨#[55]⟩ : ByteArray),(⟨#[44]⟩ : ByteArray),(⟨#[59]⟩ : ByteArray),(⟨#[45]⟩ : ByteArray),(⟨#[32]⟩ : ByteArray),(⟨#[84]⟩ : ByteArray),(⟨#[10]⟩ : ByteArray)]).length : Int)))]) (i:=0) (id:=1000000) (r:=(i6 r1.1)) (c:=(eT_Su8_i64_u64_Z r1.2)) rfl rfl (spec_l01Next_of_src_ok a0 ((([(⟨#[48]⟩ : ByteArray),(⟨#[49]⟩ : ByteArray),(⟨#[50]⟩ : ByteArray),(⟨#[54]⟩ : ByteArray),(⟨#[55]⟩ : ByteArray),(⟨#[44]⟩ : ByteArray),(⟨#[59]⟩ : ByteArray),(⟨#[45]⟩ : ByteArray),(⟨#[32]⟩ : ByteArray),(⟨#[84]⟩ : ByteArray),(⟨#[10]⟩ : ByteArray)]).length : Int)) r1 hr2) rfl trivial ?_
 obtain ⟨hc4,h⟩:=ifp_some h
 refine vq (.ref (.row 1 (([(⟨#[48]⟩ : ByteArray),(⟨#[49]⟩ : ByteArray),(⟨#[50]⟩ : ByteArray),(⟨#[54]⟩ : ByteArray),(⟨#[55]⟩ : ByteArray),(⟨#[44]⟩ : ByteArray),(⟨#[59]⟩ : ByteArray),(⟨#[45]⟩ : ByteArray),(⟨#[32]⟩ : ByteArray),(⟨#[84]⟩ : ByteArray),(⟨#[10]⟩ : ByteArray)]).map AV.str)) [r1.1.toNat] [r1.1.toNat * 1]) rfl (lmap hc4) ?_
 have hl5 : LdOk [r1.1.toNat] (.row 1 (([(⟨#[48]⟩ : ByteArray),(⟨#[49]⟩ : ByteArray),(⟨#[50]⟩ : ByteArray),(⟨#[54]⟩ : ByteArray),(⟨#[55]⟩ : ByteArray),(⟨#[44]⟩ : ByteArray),(⟨#[59]⟩ : ByteArray),(⟨#[45]⟩ : ByteArray),(⟨#[32]⟩ : ByteArray),(⟨#[84]⟩ : ByteArray),(⟨#[10]⟩ : ByteArray)]).map AV.str)) [r1.1.toNat * 1] 1 false (.str ((rd ([(⟨#[48]⟩ : ByteArray),(⟨#[49]⟩ : ByteArray),(⟨#[50]⟩ : ByteArray),(⟨#[54]⟩ : ByteArray),(⟨#[55]⟩ : ByteArray),(⟨#[44]⟩ : ByteArray),(⟨#[59]⟩ : ByteArray),(⟨#[45]⟩ : ByteArray),(⟨#[32]⟩ : ByteArray),(⟨#[84]⟩ : ByteArray),(⟨#[10]⟩ : ByteArray)]) r1.1.toNat))):=(.row (llt hc4) rfl (.nil rfl rfl rfl))
 obtain ⟨x6,hx7,h⟩:=letp_some h
 refine a_val' (v:=(.str ((rd ([(⟨#[48]⟩ : ByteArray),(⟨#[49]⟩ : ByteArray),(⟨#[50]⟩ : ByteArray),(⟨#[54]⟩ : ByteArray),(⟨#[55]⟩ : ByteArray),(⟨#[44]⟩ : ByteArray),(⟨#[59]⟩ : ByteArray),(⟨#[45]⟩ : ByteArray),(⟨#[32]⟩ : ByteArray),(⟨#[84]⟩ : ByteArray),(⟨#[10]⟩ : ByteArray)]) r1.1.toNat)))) (v':=(.str x6)) (u:=[]) (u':=[]) (ld_ref (i:=⟨.string,1,16,(.str ByteArray.empty)⟩) rfl rfl hl5) (congrArg (fun z=>((.str z) : AV)) hx7) rfl hl5.c rfl (vp (.str x6) rfl (nk ⟨[(0,ow 1000000),(1,.str a1),(6,.str x6)],[(1000000,bk (eT_Su8_i64_u64_Z r1.2))]⟩ (a_seq (sr (vp (.str a1) rfl (vp (i6 (a1.size : Int)) rfl (vp (.bool (((a1.size : Int) == 0))) rfl (nk ⟨[(0,ow 1000000),(1,.str a1),(6,.str x6),(18,.bool (((a1.size : Int) == 0)))],[(1000000,bk (eT_Su8_i64_u64_Z r1.2))]⟩ ?_))))))))
 cases hb8 : ((a1.size : Int) == 0)
 ·have h:=ite_f hb8 h
  refine a_cond_f rfl (a_skip (nj ⟨[(0,ow 1000000),(1,.str a1),(6,.str x6)],[(1000000,bk (eT_Su8_i64_u64_Z r1.2))]⟩ (sr (vp (ow 1000000) rfl (vp (.str a1) rfl (vp (i6 (a1.size : Int)) rfl ?_))))))
  obtain ⟨r9,hr10,h⟩:=bind_some h
  refine a_callM (args:=[(.mutp (eT_Su8_i64_u64_Z r1.2)),(i6 (a1.size : Int))]) (i:=0) (id:=1000000) (r:=(i6 r9.1)) (c:=(eT_Su8_i64_u64_Z r9.2)) rfl rfl (spec_l01Next_of_src_ok r1.2 (a1.size : Int) r9 hr10) rfl trivial (vp (i6 r9.1) rfl (nk ⟨[(0,ow 1000000),(1,.str a1),(6,.str x6),(7,i6 r9.1)],[(1000000,bk (eT_Su8_i64_u64_Z r9.2))]⟩ (a_seq (sr (vp (ow 1000000) rfl ?_)))))
  obtain ⟨r12,hr13,h⟩:=bind_some h
  refine a_callM (args:=[(.mutp (eT_Su8_i64_u64_Z r9.2)),(i6 3)]) (i:=0) (id:=1000000) (r:=(i6 r12.1)) (c:=(eT_Su8_i64_u64_Z r12.2)) rfl rfl (spec_l01Next_of_src_ok r9.2 3 r12 hr13) rfl trivial (nk ⟨[(1,.str a1),(6,.str x6),(7,i6 r9.1),(25,i6 r12.1)],[(1000000,bk (eT_Su8_i64_u64_Z r12.2))]⟩ (a_block (sr (vp (.bool (r12.1 == 0)) rfl (vp (.bool (r12.1 == 0)) rfl (nk ⟨[(1,.str a1),(6,.str x6),(7,i6 r9.1),(25,i6 r12.1),(26,.bool (r12.1 == 0))],[(1000000,bk (eT_Su8_i64_u64_Z r12.2))]⟩ ?_))))))
  cases hb15 : (r12.1 == 0)
  ·have h:=ite_f hb15 h
   refine a_cond_f rfl (sr (vp (.bool (r12.1 == 1)) rfl (vp (.bool (r12.1 == 1)) rfl (nk ⟨[(1,.str a1),(6,.str x6),(7,i6 r9.1),(38,.bool (r12.1 == 1))],[(1000000,bk (eT_Su8_i64_u64_Z r12.2))]⟩ ?_))))
   cases hb16 : (r12.1 == 1)
   ·have h:=ite_f hb16 h
    refine a_cond_f rfl (a_skip (b_norm (nj ⟨[(1,.str a1),(6,.str x6),(7,i6 r9.1)],[(1000000,bk (eT_Su8_i64_u64_Z r12.2))]⟩ (a_seq (a_draw [⟨[],[],[],[]⟩,⟨[],[],[],[]⟩,⟨[],[],[],[0,1]⟩,⟨[],[],[],[]⟩,⟨[],[],[],[0,1,2,3]⟩,⟨[],[],[],[]⟩,⟨[],[],[],[]⟩,⟨[],[],[],[5,6]⟩,⟨[],[],[],[0,1,2,3,4,5,6,7]⟩,⟨[],[],[],[0,1,2,3,4,5,6,7,8]⟩] (by kernel_rfl) (dj (.str a1) rfl (dj (i6 r9.1) rfl (d_cons ?_))))))))
    obtain ⟨hc21,h⟩:=ifp_some h
    refine vq (.str (a1.extract 0 r9.1.toNat)) rfl hc21 (d_next (by kernel_rfl) (dj (.str x6) rfl (d_cons ?_)))
    obtain ⟨hc22,h⟩:=ifp_some h
    refine vq (.str (((a1.extract 0 r9.1.toNat) ++ x6))) rfl hc22 (d_next (by kernel_rfl) (dj (.str a1) rfl (dj (i6 r9.1) rfl (d_cons ?_))))
    obtain ⟨hc23,h⟩:=ifp_some h
    refine vq (.str (a1.extract r9.1.toNat a1.size)) rfl hc23 (d_next (by kernel_rfl) (d_cons ?_))
    obtain ⟨hc24,h⟩:=ifp_some h
    refine vq (.str (((((a1.extract 0 r9.1.toNat) ++ x6)) ++ (a1.extract r9.1.toNat a1.size)))) rfl hc24 (d_next (by kernel_rfl) (dj (.str (((((a1.extract 0 r9.1.toNat) ++ x6)) ++ (a1.extract r9.1.toNat a1.size)))) rfl (d_nil (a_next rfl (a_ret ?_)))))
    refine ⟨.inr rfl,?_⟩
    rw [Try.results175]
    cases h
    exact ⟨[],⟨_,_,_,_,_,rfl,trivial,rfl,.inl ⟨rfl,.inl rfl,⟨rfl,rfl,rfl⟩⟩⟩,rfl,⟨_,_,rfl,rfl,rfl⟩⟩
   ·have h:=ite_t hb16 h
    refine a_cond_t rfl (a_seq (a_draw [⟨[],[],[],[]⟩,⟨[],[],[],[]⟩,⟨[],[],[],[0,1]⟩,⟨[],[],[],[]⟩,⟨[],[],[],[]⟩,⟨[],[],[],[4]⟩,⟨[],[],[],[3,4,5]⟩,⟨[],[],[],[0,1,2,3,4,5,6]⟩,⟨[],[],[],[0,1,2,3,4,5,6,7]⟩] (by kernel_rfl) (dj (.str a1) rfl (dj (i6 r9.1) rfl (d_cons ?_)))))
    obtain ⟨hc28,h⟩:=ifp_some h
    refine vq (.str (a1.extract 0 r9.1.toNat)) rfl hc28 (d_next (by kernel_rfl) (dj (.str a1) rfl (dj (i6 r9.1) rfl (dj (i6 (IntKind.i64.wrap (r9.1 + 1))) rfl (d_cons ?_)))))
    obtain ⟨hc29,h⟩:=ifp_some h
    refine vq (.str ((a1.extract (IntKind.i64.wrap (r9.1 + 1)).toNat a1.size))) rfl hc29 (d_next (by kernel_rfl) (d_cons ?_))
    obtain ⟨hc30,h⟩:=ifp_some h
    refine vq (.str (((a1.extract 0 r9.1.toNat) ++ ((a1.extract (IntKind.i64.wrap (r9.1 + 1)).toNat a1.size))))) rfl hc30 (d_next (by kernel_rfl) (dj (.str (((a1.extract 0 r9.1.toNat) ++ ((a1.extract (IntKind.i64.wrap (r9.1 + 1)).toNat a1.size))))) rfl (d_nil (a_next rfl (a_ret (b_ret (t_ret ?_)))))))
    refine ⟨.inr rfl,?_⟩
    rw [Try.results175]
    cases h
    exact ⟨[],⟨_,_,_,_,_,rfl,trivial,rfl,.inl ⟨rfl,.inl rfl,⟨rfl,rfl,rfl⟩⟩⟩,rfl,⟨_,_,rfl,rfl,rfl⟩⟩
  ·have h:=ite_t hb15 h
   refine a_cond_t rfl (a_seq (a_draw [⟨[],[],[],[]⟩,⟨[],[],[],[]⟩,⟨[],[],[],[0,1]⟩,⟨[],[],[],[]⟩,⟨[],[],[],[0,1,2,3]⟩,⟨[],[],[],[]⟩,⟨[],[],[],[]⟩,⟨[],[],[],[6]⟩,⟨[],[],[],[5,6,7]⟩,⟨[],[],[],[0,1,2,3,4,5,6,7,8]⟩,⟨[],[],[],[0,1,2,3,4,5,6,7,8,9]⟩] (by kernel_rfl) (dj (.str a1) rfl (dj (i6 r9.1) rfl (d_cons ?_)))))
   obtain ⟨hc35,h⟩:=ifp_some h
   refine vq (.str (a1.extract 0 r9.1.toNat)) rfl hc35 (d_next (by kernel_rfl) (dj (.str x6) rfl (d_cons ?_)))
   obtain ⟨hc36,h⟩:=ifp_some h
   refine vq (.str (((a1.extract 0 r9.1.toNat) ++ x6))) rfl hc36 (d_next (by kernel_rfl) (dj (.str a1) rfl (dj (i6 r9.1) rfl (dj (i6 (IntKind.i64.wrap (r9.1 + 1))) rfl (d_cons ?_)))))
   obtain ⟨hc37,h⟩:=ifp_some h
   refine vq (.str ((a1.extract (IntKind.i64.wrap (r9.1 + 1)).toNat a1.size))) rfl hc37 (d_next (by kernel_rfl) (d_cons ?_))
   obtain ⟨hc38,h⟩:=ifp_some h
   refine vq (.str (((((a1.extract 0 r9.1.toNat) ++ x6)) ++ ((a1.extract (IntKind.i64.wrap (r9.1 + 1)).toNat a1.size))))) rfl hc38 (d_next (by kernel_rfl) (dj (.str (((((a1.extract 0 r9.1.toNat) ++ x6)) ++ ((a1.extract (IntKind.i64.wrap (r9.1 + 1)).toNat a1.size))))) rfl (d_nil (a_next rfl (a_ret (b_ret (t_ret ?_)))))))
   refine ⟨.inr rfl,?_⟩
   rw [Try.results175]
   cases h
   exact ⟨[],⟨_,_,_,_,_,rfl,trivial,rfl,.inl ⟨rfl,.inl rfl,⟨rfl,rfl,rfl⟩⟩⟩,rfl,⟨_,_,rfl,rfl,rfl⟩⟩
 ·have h:=ite_t hb8 h
  refine a_cond_t rfl (sr (vp (.str x6) rfl (vp (.str x6) rfl (nx _ rfl (a_ret (t_ret ?_))))))
  refine ⟨.inr rfl,?_⟩
  rw [Try.results175]
  cases h
  exact ⟨[],⟨_,_,_,_,_,rfl,trivial,rfl,.inl ⟨rfl,.inl rfl,⟨rfl,rfl,rfl⟩⟩⟩,rfl,⟨_,_,rfl,rfl,rfl⟩⟩
def spec_DrawParsePoly_c : ACode:=(.seq (.region 0 [q 2 (.asg 0 (.const (.int .i64 0)) 2),q 3 (.asg 0 (.const (.string ⟨#[]⟩)) 9)] false) (.seq (.region 1 [q 8 (.mov (t 0)),q 9 (.call 0 (.func 116) [(t 8)]),q 4 (.asg 0 (t 9) 96)] false) (.seq (.region 2 [q 11 (.mov (t 4)),q 12 (.call 1 (.func 115) [(t 11)]),q 10 (.mov (t 12)),q 13 (.extract (t 10) 0),q 14 (.extract (t 10) 1),q 6 (.alloc 25),q 5 (.asg 0 (t 13) 2),⟨none,.store 25 (t 6) (t 14),none,[]⟩] false) (.seq (.region 3 [q 7 (.asg 0 (.const (.string ⟨#[]⟩)) 9)] false) (.seq (.seq (.region 4 [q 15 (.mov (t 5)),q 16 (.load 25 (t 6)),q 17 (.call 0 (.func 108) [(t 15),(t 16)])] false) (.cond (t 17) (.region 5 [q 18 (.load 25 (t 6)),q 19 (.call 0 (.func 174) [(t 18)]),q 7 (.asg 0 (t 19) 9)] false) .skip)) (.seq (.block 0 (.loop (.seq (.seq (.region 6 [q 20 (.mov (t 4)),q 21 (.call 1 (.func 123) [(t 20),(.const (.int .i64 3))]),q 22 (.bin .eql 2 (t 21) (.const (.int .i64 0)))] false) (.cond (t 22) .skip (.exit 0))) (.block 1 (.region 7 [q 23 (.mov (t 4)),q 24 (.mov (t 7)),q 25 (.call 1 (.func 175) [(t 23),(t 24)]),q 7 (.asg 0 (t 25) 9)] false))))) (.seq (.region 8 [q 26 (.mov (t 5)),q 27 (.mov (t 7)),q 2 (.asg 0 (t 26) 2),q 3 (.asg 0 (t 27) 9)] false) .ret)))))))
def spec_DrawParsePoly_L : Live:=[(0,[0]),(1,[0]),(2,[4]),(3,[4,5,6]),(4,[4,5,6,7]),(5,[4,5,6]),(6,[4,5,7]),(7,[4,5,7]),(8,[5,7]),(100017,[4,5,6,7,17]),(100022,[4,5,7,22])]
noncomputable def spec_DrawParsePoly_l1  (x63 : ByteArray) (x64 : ((List Int) × Int × Int)) : Option ((ByteArray × ((List Int) × Int × Int)) ⊕ ByteArray) :=
 (Option.bind (spec_l01Next_of_src x64 3) fun r75=>(if (r75.1 == 0) then (Option.bind (spec_l01Damage_of_src r75.2 x63) fun r79=>(some (.inl (r79.1,r79.2)))) else (some (.inr x63))))
noncomputable def spec_DrawParsePoly (a0 : (List Int)) : Option (Int × ByteArray) :=
 (Option.bind (spec_l01From a0) fun r1=>(Option.bind (spec_l01Spoil_of_src r1) fun r3=>(Option.bind (α:=ByteArray) ((Option.bind (spec_l01Is r3.1 r3.2.1) fun r19=>(if r19 then (Option.bind (spec_l01Text r3.2.1) fun r23=>(some r23)) else (some (⟨#[]⟩ : ByteArray))))) fun x14=>(Option.bind (α:=ByteArray) ((loopM (fun s : (ByteArray × ((List Int) × Int × Int))=>spec_DrawParsePoly_l1 s.1 s.2) (x14,r3.2.2))) fun x52=>(some (r3.1,x52))))))
theorem spec_DrawParsePoly_ok (a0 : (List Int)) (r : (Int × ByteArray)) (h : spec_DrawParsePoly a0 = some r) : Den Try.prog 94 [(eSu8 a0)] { r:=(.tuple [(i6 r.1),(.str r.2)]) }:=by
 refine den_of (rs:=[(i6 r.1),(.str r.2)]) (ac:=spec_DrawParsePoly_c) (L:=spec_DrawParsePoly_L) (n:=28) (m:=[(12,1),(21,1),(25,1)]) (c:=Try.f94.body.getD .skip) good Try.func94 (by kernel_rfl) (by kernel_rfl) Try.ntmps94 rfl rfl (by kernel_rfl) rfl rfl ?_
 refine ns ⟨[(0,eSu8 a0)],[]⟩ ?_
 unfold spec_DrawParsePoly_c
 refine sr (vp (i6 0) rfl (vp (.str (⟨#[]⟩ : ByteArray)) rfl (nk ⟨[(0,eSu8 a0)],[]⟩ (sr (vp (eSu8 a0) rfl ?_)))))
 obtain ⟨r1,hr2,h⟩:=bind_some h
 refine a_callF (args:=[(eSu8 a0)]) (u:=[]) (u2:=[]) (r:=(ow 2000000)) (fs:=[(0,[eT_Su8_i64_u64_Z r1])]) rfl rfl (spec_l01From_ok a0 r1 hr2) rfl rfl rfl (.inl rfl) rfl (vp (ow 1900) rfl (nk ⟨[(4,ow 4)],[(4,bk (eT_Su8_i64_u64_Z r1))]⟩ (sr (vp (ow 4) rfl ?_))))
 obtain ⟨r3,hr4,h⟩:=bind_some h
 refine a_callM (args:=[(.mutp (eT_Su8_i64_u64_Z r1))]) (i:=0) (id:=4) (r:=(.tuple [(i6 r3.1),(eVb r3.2.1)])) (c:=(eT_Su8_i64_u64_Z r3.2.2)) rfl rfl (spec_l01Spoil_of_src_ok r1 r3 hr4) rfl trivial (vp (.tuple [(i6 r3.1),(eVb r3.2.1)]) rfl (vb (i6 r3.1) rfl rfl (vb (eVb r3.2.1) rfl rfl (vo 1600 (eVb ((vrep 64 (0 : Int)))) rfl rfl (vp (i6 r3.1) rfl (vs (eVb r3.2.1) rfl rfl (fun _=>rfl) rfl rfl rfl rfl rfl rfl (nk ⟨[(4,ow 4),(5,i6 r3.1),(6,ow 6)],[(4,bk (eT_Su8_i64_u64_Z r3.2.2)),(6,bk (eVb r3.2.1))]⟩ (sr (vp (.str (⟨#[]⟩ : ByteArray)) rfl ?_)))))))))
 refine nk ⟨[(4,ow 4),(5,i6 r3.1),(6,ow 6),(7,.str (⟨#[]⟩ : ByteArray))],[(4,bk (eT_Su8_i64_u64_Z r3.2.2)),(6,bk (eVb r3.2.1))]⟩ ?_
 obtain ⟨y15,hy16,hk17⟩:=bind_some h
 clear h
 refine a_join (emb:=fun (s : ByteArray)=>⟨[(4,ow 4),(5,i6 r3.1),(7,.str s)],[(4,bk (eT_Su8_i64_u64_Z r3.2.2))]⟩) (pre:=fun s=>s = y15) ?_ ?_
 ·rintro x14 rfl
  have h:=hk17
  refine ns ⟨[(4,ow 4),(5,i6 r3.1),(7,.str x14)],[(4,bk (eT_Su8_i64_u64_Z r3.2.2))]⟩ ?_
  obtain ⟨y53,hy54,hk55⟩:=bind_some h
  clear h
  refine a_join (emb:=fun (s : ByteArray)=>⟨[(5,i6 r3.1),(7,.str s)],[]⟩) (pre:=fun s=>s = y53) ?_ ?_
  ·rintro x52 rfl
   have h:=hk55
   refine ns ⟨[(5,i6 r3.1),(7,.str x52)],[]⟩ (sr (vp (i6 r3.1) rfl (vp (.str x52) rfl (vp (i6 r3.1) rfl (vp (.str x52) rfl (nx _ rfl (a_ret ?_)))))))
   refine ⟨.inr rfl,?_⟩
   rw [Try.results94]
   cases h
   exact ⟨_,_,_,_,_,rfl,trivial,.inl ⟨rfl,.inl rfl⟩,rfl,⟨_,_,_,_,_,rfl,trivial,.inl ⟨rfl,.inl rfl⟩,rfl,rfl⟩⟩
  ·have h:=hy54
   refine a_block ?_
   refine a_loop (emb:=fun (s : (ByteArray × ((List Int) × Int × Int)))=>⟨[(4,ow 4),(5,i6 r3.1),(7,.str s.1)],[(4,bk (eT_Su8_i64_u64_Z s.2))]⟩) (body:=(fun s : (ByteArray × ((List Int) × Int × Int))=>spec_DrawParsePoly_l1 s.1 s.2)) (G:=fun q=>some q = some y53) h rfl ?_ (by kernel_rfl)
   rintro X72 ⟨x63,x64⟩ x73 h hX74
   have h : spec_DrawParsePoly_l1 x63 x64 = some x73:=h
   refine ns ⟨[(4,ow 4),(5,i6 r3.1),(7,.str x63)],[(4,bk (eT_Su8_i64_u64_Z x64))]⟩ (a_seq (sr (vp (ow 4) rfl ?_)))
   obtain ⟨r75,hr76,h⟩:=bind_some h
   refine a_callM (args:=[(.mutp (eT_Su8_i64_u64_Z x64)),(i6 3)]) (i:=0) (id:=4) (r:=(i6 r75.1)) (c:=(eT_Su8_i64_u64_Z r75.2)) rfl rfl (spec_l01Next_of_src_ok x64 3 r75 hr76) rfl trivial (vp (.bool (r75.1 == 0)) rfl (nk ⟨[(4,ow 4),(5,i6 r3.1),(7,.str x63),(22,.bool (r75.1 == 0))],[(4,bk (eT_Su8_i64_u64_Z r75.2))]⟩ ?_))
   cases hb78 : (r75.1 == 0)
   ·have h:=ite_f hb78 h
    refine a_cond_f rfl (a_exit (t_exit ?_))
    cases h
    have h:=hX74
    refine t_exit (b_exit ?_)
    exact j_leaf x63 (Option.some.inj h) (by kernel_rfl)
   ·have h:=ite_t hb78 h
    refine a_cond_t rfl (a_skip (nj ⟨[(4,ow 4),(5,i6 r3.1),(7,.str x63)],[(4,bk (eT_Su8_i64_u64_Z r75.2))]⟩ (a_block (a_region (vp (ow 4) rfl (vp (.str x63) rfl ?_))))))
    obtain ⟨r79,hr80,h⟩:=bind_some h
    refine a_callM (args:=[(.mutp (eT_Su8_i64_u64_Z r75.2)),(.str x63)]) (i:=0) (id:=4) (r:=(.str r79.1)) (c:=(eT_Su8_i64_u64_Z r79.2)) rfl rfl (spec_l01Damage_of_src_ok r75.2 x63 r79 hr80) rfl trivial (vp (.str r79.1) rfl (a_nil (b_norm ?_)))
    cases h
    exact a_again (by kernel_rfl) hX74
 ·have h:=hy16
  refine sr (vp (i6 r3.1) rfl (vl (eVb r3.2.1) rfl rfl rfl rfl rfl rfl ?_))
  obtain ⟨r19,hr20,h⟩:=bind_some h
  refine a_call (args:=[(i6 r3.1),(eVb r3.2.1)]) (u:=[]) (r:=(.bool r19)) rfl rfl (spec_l01Is_ok r3.1 r3.2.1 r19 hr20) rfl (nk ⟨[(4,ow 4),(5,i6 r3.1),(6,ow 6),(7,.str (⟨#[]⟩ : ByteArray)),(17,.bool r19)],[(4,bk (eT_Su8_i64_u64_Z r3.2.2)),(6,bk (eVb r3.2.1))]⟩ ?_)
  cases hb21 : r19
  ·have h:=ite_f hb21 h
   refine a_cond_f rfl (a_skip ?_)
   exact j_leaf (⟨#[]⟩ : ByteArray) (Option.some.inj h) (by kernel_rfl)
  ·have h:=ite_t hb21 h
   refine a_cond_t rfl (a_region (vl (eVb r3.2.1) rfl rfl rfl rfl rfl rfl ?_))
   obtain ⟨r23,hr24,h⟩:=bind_some h
   refine a_call (args:=[(eVb r3.2.1)]) (u:=[]) (r:=(.str r23)) rfl rfl (spec_l01Text_ok r3.2.1 r23 hr24) rfl (vp (.str r23) rfl (a_nil ?_))
   exact j_leaf r23 (Option.some.inj h) (by kernel_rfl)
def impl_ParsePoly_c : ACode:=(.seq (.region 0 [q 4 (.alloc 25),q 5 (.asg 0 (.const (.int .i64 0)) 2)] false) (.seq (.seq (.region 1 [q 8 (.mov (t 0)),q 9 (.call 0 (.func 106) [(t 8)]),q 10 (.un .not (t 9))] false) (.cond (t 10) (.seq (.region 2 [q 11 (.build 25 []),⟨none,.store 25 (t 4) (t 11),none,[]⟩,q 5 (.asg 0 (.const (.int .i64 1)) 2)] false) .ret) .skip)) (.seq (.seq (.region 3 [q 12 (.mov (t 1)),q 13 (.blt 0 .len [(t 12)] [9]),q 14 (.bin .gtr 3 (t 13) (.const (.int .i64 64)))] false) (.cond (t 14) (.seq (.region 4 [q 15 (.build 25 []),⟨none,.store 25 (t 4) (t 15),none,[]⟩,q 5 (.asg 0 (.const (.int .i64 6)) 2)] false) .ret) .skip)) (.seq (.region 5 [q 6 (.alloc 25)] false) (.seq (.seq (.region 6 [q 16 (.mov (t 1)),q 17 (.blt 0 .len [(t 16)] [9]),q 18 (.mov (.const (.int .i64 0)))] false) (.block 0 (.loop (.seq (.region 7 [q 19 (.bin .lss 3 (t 18) (t 17))] false) (.seq (.cond (t 19) .skip (.exit 0)) (.seq (.block 1 (.seq (.region 8 [q 20 (.mov (t 18)),q 7 (.asg 0 (t 20) 3)] false) (.region 9 [q 21 (.mov (t 1)),q 22 (.blt 0 .len [(t 21)] [9]),q 23 (.bin .sub 3 (t 22) (.const (.int .i64 1))),q 24 (.mov (t 7)),q 25 (.bin .sub 3 (t 23) (t 24)),q 26 (.mov (t 1)),q 27 (.mov (t 7)),q 28 (.index 9 (t 26) (t 27)),q 29 (.bin .sub 5 (t 28) (.const (.int .u8 48))),q 30 (.indexAddr 25 (t 6) (t 25)),⟨none,.store 5 (t 30) (t 29),none,[]⟩] false))) (.region 10 [q 31 (.bin .add 3 (t 18) (.const (.int .i64 1))),q 18 (.mov (t 31))] false))))))) (.seq (.seq (.region 11 [q 32 (.mov (t 0)),q 33 (.load 25 (t 6)),q 34 (.call 0 (.func 107) [(t 32),(t 33)]),q 35 (.un .not (t 34)),q 36 (.mov (t 35)),⟨some 37,.load 25 (t 6),some (36,false),[]⟩,⟨some 38,.call 0 (.func 103) [(t 37)],some (36,false),[]⟩,⟨some 39,.call 0 (.func 120) [(t 38)],some (36,false),[]⟩,⟨some 40,.mov (t 1),some (36,false),[]⟩,⟨some 41,.bin .neq 9 (t 39) (t 40),some (36,false),[]⟩,q 42 (.pick (t 36) (.const (.bool true)) (t 41))] false) (.cond (t 42) (.seq (.region 12 [q 43 (.build 25 []),⟨none,.store 25 (t 4) (t 43),none,[]⟩,q 5 (.asg 0 (.const (.int .i64 6)) 2)] false) .ret) .skip)) (.seq (.region 13 [q 44 (.load 25 (t 6)),⟨none,.store 25 (t 4) (t 44),none,[]⟩,q 5 (.asg 0 (.const (.int .i64 0)) 2)] false) .ret)))))))
def impl_ParsePoly_L : Live:=[(0,[0,1]),(1,[0,1,4]),(2,[4]),(3,[0,1,4]),(4,[4]),(5,[0,1,4]),(6,[0,1,4,6]),(7,[0,1,4,6,17,18]),(8,[0,1,4,6,17,18]),(9,[0,1,4,6,7,17,18]),(10,[0,1,4,6,17,18]),(11,[0,1,4,6]),(12,[4]),(13,[4,6]),(100010,[0,1,4,10]),(100014,[0,1,4,14]),(100019,[0,1,4,6,17,18,19]),(100042,[4,6,42])]
noncomputable def impl_ParsePoly_l1 (a1 : ByteArray) (x47 : Int) (x48 : (Vec Int 64)) : Option ((Int × (Vec Int 64)) ⊕ (Vec Int 64)) :=
 (if (decide (x47 < (a1.size : Int))) then (letp (IntKind.i64.wrap ((IntKind.i64.wrap ((a1.size : Int) - 1)) - x47)) fun x61=>(ifp (0 ≤ x47 ∧ x47 < ((a1.size : Nat) : Int)) ((letp (IntKind.u8.wrap (((((a1).data.toList.getD x47.toNat 0).toNat : Int)) - 48)) fun x64=>(ifp (0 ≤ x61 ∧ x61 < ((64 : Nat) : Int)) ((some (.inl ((IntKind.i64.wrap (x47 + 1),(vset x48 x61.toNat x64))))))))))) else (some (.inr x48)))
noncomputable def impl_ParsePoly (a0 : Int) (a1 : ByteArray) : Option ((Vec Int 64) × Int) :=
 (Option.bind (impl_isPrime a0) fun r1=>(if (!r1) then (some (((vrep 64 (0 : Int)),1))) else (if (decide ((a1.size : Int) > 64)) then (some (((vrep 64 (0 : Int)),6))) else (Option.bind (α:=(Vec Int 64)) ((loopM (fun s : (Int × (Vec Int 64))=>impl_ParsePoly_l1 a1 s.1 s.2) (0,vrep 64 (0 : Int)))) fun x35=>(Option.bind (α:=Bool) ((Option.bind (impl_isPoly a0 x35) fun r83=>(if (!r83) then (some true) else (Option.bind (impl_rowOf x35) fun r87=>(Option.bind (impl_row_text r87) fun r89=>(some ((!(r89.toList == a1.toList))))))))) fun x78=>(if x78 then (some (((vrep 64 (0 : Int)),6))) else (some (x35,0))))))))
theorem impl_ParsePoly_ok (a0 : Int) (a1 : ByteArray) (r : ((Vec Int 64) × Int)) (h : impl_ParsePoly a0 a1 = some r) : Den Try.prog 27 [(i6 a0),(.str a1)] { r:=(.tuple [(eVb r.1),(i6 r.2)]) }:=by
 refine den_of (rs:=[(eVb r.1),(i6 r.2)]) (ac:=impl_ParsePoly_c) (L:=impl_ParsePoly_L) (n:=45) (m:=[]) (c:=Try.f27.body.getD .skip) good Try.func27 (by kernel_rfl) (by kernel_rfl) Try.ntmps27 rfl rfl (by kernel_rfl) rfl rfl ?_
 refine ns ⟨[(0,i6 a0),(1,.str a1)],[]⟩ ?_
 unfold impl_ParsePoly_c
 refine sr (vo 1400 (eVb ((vrep 64 (0 : Int)))) rfl rfl (vp (i6 0) rfl (nk ⟨[(0,i6 a0),(1,.str a1),(4,ow 4)],[(4,bk (eVb ((vrep 64 (0 : Int)))))]⟩ (a_seq (sr (vp (i6 a0) rfl ?_))))))
 obtain ⟨r1,hr2,h⟩:=bind_some h
 refine a_call (args:=[(i6 a0)]) (u:=[]) (r:=(.bool r1)) rfl rfl (impl_isPrime_ok a0 r1 hr2) rfl (vp (.bool (!r1)) rfl (nk ⟨[(0,i6 a0),(1,.str a1),(4,ow 4),(10,.bool (!r1))],[(4,bk (eVb ((vrep 64 (0 : Int)))))]⟩ ?_))
 cases hb3 : (!r1)
 ·have h:=ite_f hb3 h
  refine a_cond_f rfl (a_skip (nj ⟨[(0,i6 a0),(1,.str a1),(4,ow 4)],[(4,bk (eVb ((vrep 64 (0 : Int)))))]⟩ (a_seq (sr (vp (.str a1) rfl (vp (i6 (a1.size : Int)) rfl (vp (.bool ((decide ((a1.size : Int) > 64)))) rfl (nk ⟨[(0,i6 a0),(1,.str a1),(4,ow 4),(14,.bool ((decide ((a1.size : Int) > 64))))],[(4,bk (eVb ((vrep 64 (0 : Int)))))]⟩ ?_))))))))
  cases hb4 : (decide ((a1.size : Int) > 64))
  ·have h:=ite_f hb4 h
   refine a_cond_f rfl (a_skip (nj ⟨[(0,i6 a0),(1,.str a1),(4,ow 4)],[(4,bk (eVb ((vrep 64 (0 : Int)))))]⟩ (sr (vo 1600 (eVb ((vrep 64 (0 : Int)))) rfl rfl (nk ⟨[(0,i6 a0),(1,.str a1),(4,ow 4),(6,ow 6)],[(4,bk (eVb ((vrep 64 (0 : Int))))),(6,bk (eVb ((vrep 64 (0 : Int)))))]⟩ ?_)))))
   obtain ⟨y36,hy37,hk38⟩:=bind_some h
   clear h
   refine a_join (emb:=fun (s : (Vec Int 64))=>⟨[(0,i6 a0),(1,.str a1),(4,ow 4),(6,ow 6)],[(4,bk (eVb ((vrep 64 (0 : Int))))),(6,bk (eVb s))]⟩) (pre:=fun s=>s = y36) ?_ ?_
   ·rintro x35 rfl
    have h:=hk38
    refine ns ⟨[(0,i6 a0),(1,.str a1),(4,ow 4),(6,ow 6)],[(4,bk (eVb ((vrep 64 (0 : Int))))),(6,bk (eVb x35))]⟩ (a_seq ?_)
    obtain ⟨y79,hy80,hk81⟩:=bind_some h
    clear h
    refine a_join (emb:=fun (s : Bool)=>⟨[(4,ow 4),(6,ow 6),(42,.bool s)],[(4,bk (eVb ((vrep 64 (0 : Int))))),(6,bk (eVb x35))]⟩) (pre:=fun s=>s = y79) ?_ ?_
    ·rintro x78 rfl
     have h:=hk81
     refine ns ⟨[(4,ow 4),(6,ow 6),(42,.bool x78)],[(4,bk (eVb ((vrep 64 (0 : Int))))),(6,bk (eVb x35))]⟩ ?_
     cases hb91 : x78
     ·have h:=ite_f hb91 h
      refine a_cond_f rfl (a_skip (nj ⟨[(4,ow 4),(6,ow 6)],[(4,bk (eVb ((vrep 64 (0 : Int))))),(6,bk (eVb x35))]⟩ (sr (vl (eVb x35) rfl rfl rfl rfl rfl rfl (vs (eVb x35) rfl rfl (fun _=>rfl) rfl rfl rfl rfl rfl rfl (vp (i6 0) rfl (nx _ rfl (a_ret ?_))))))))
      have hl94 : LdOk [] (eVb x35) [] 64 true (eVb x35):=(.nil rfl rfl rfl)
      refine ⟨.inr rfl,?_⟩
      rw [Try.results27]
      cases h
      exact ⟨_,_,_,_,_,ld_own (i:=⟨.arr 64 5,64,64,(eVb (vrep 64 (0 : Int)))⟩) rfl rfl rfl hl94,hl94.c,.inl ⟨rfl,.inl rfl⟩,rfl,⟨_,_,_,_,_,rfl,trivial,.inl ⟨rfl,.inl rfl⟩,rfl,rfl⟩⟩
     ·have h:=ite_t hb91 h
      refine a_cond_t rfl (sr (vq (eVb ((vrep 64 (0 : Int)))) rfl ⟨⟨_,rfl,rfl⟩,all_nil⟩ (vs (eVb ((vrep 64 (0 : Int)))) rfl rfl (fun _=>rfl) rfl rfl rfl rfl rfl rfl (vp (i6 6) rfl (nx _ rfl (a_ret (t_ret ?_)))))))
      have hl96 : LdOk [] (eVb ((vrep 64 (0 : Int)))) [] 64 true (eVb ((vrep 64 (0 : Int)))):=(.nil rfl rfl rfl)
      refine ⟨.inr rfl,?_⟩
      rw [Try.results27]
      cases h
      exact ⟨_,_,_,_,_,ld_own (i:=⟨.arr 64 5,64,64,(eVb (vrep 64 (0 : Int)))⟩) rfl rfl rfl hl96,hl96.c,.inl ⟨rfl,.inl rfl⟩,rfl,⟨_,_,_,_,_,rfl,trivial,.inl ⟨rfl,.inl rfl⟩,rfl,rfl⟩⟩
    ·have h:=hy80
     refine a_region (vp (i6 a0) rfl (vl (eVb x35) rfl rfl rfl rfl rfl rfl ?_))
     obtain ⟨r83,hr84,h⟩:=bind_some h
     refine a_call (args:=[(i6 a0),(eVb x35)]) (u:=[]) (r:=(.bool r83)) rfl rfl (impl_isPoly_ok a0 x35 r83 hr84) rfl (vp (.bool (!r83)) rfl (vp (.bool (!r83)) rfl ?_))
     cases hb85 : (!r83)
     ·have h:=ite_f hb85 h
      have hl86 : LdOk [] (eVb x35) [] 64 true (eVb x35):=(.nil rfl rfl rfl)
      refine gq (eVb x35) rfl (ld_own (i:=⟨.arr 64 5,64,64,(eVb (vrep 64 (0 : Int)))⟩) rfl rfl rfl hl86) hl86.c ?_
      obtain ⟨r87,hr88,h⟩:=bind_some h
      refine a_gcall rfl (args:=[(eVb x35)]) (u:=[]) (r:=(eSi64 r87)) rfl rfl (impl_rowOf_ok x35 r87 hr88) rfl ?_
      obtain ⟨r89,hr90,h⟩:=bind_some h
      refine a_gcall rfl (args:=[(eSi64 r87)]) (u:=[]) (r:=(.str r89)) rfl rfl (impl_row_text_ok r87 r89 hr90) rfl (gp (.str a1) rfl rfl (gp (.bool ((!(r89.toList == a1.toList)))) rfl rfl (vp (.bool ((!(r89.toList == a1.toList)))) rfl (a_nil ?_))))
      exact j_leaf ((!(r89.toList == a1.toList))) (Option.some.inj h) (by kernel_rfl)
     ·have h:=ite_t hb85 h
      refine a_gskip rfl (a_gskip rfl (a_gskip rfl (a_gskip rfl (a_gskip rfl (vp (.bool true) rfl (a_nil ?_))))))
      exact j_leaf true (Option.some.inj h) (by kernel_rfl)
   ·have h:=hy37
    refine sr (vp (.str a1) rfl (vp (i6 (a1.size : Int)) rfl (vp (i6 0) rfl (nk ⟨[(0,i6 a0),(1,.str a1),(4,ow 4),(6,ow 6),(17,i6 (a1.size : Int)),(18,i6 0)],[(4,bk (eVb ((vrep 64 (0 : Int))))),(6,bk (eVb ((vrep 64 (0 : Int)))))]⟩ (a_block ?_)))))
    refine a_loop (emb:=fun (s : (Int × (Vec Int 64)))=>⟨[(0,i6 a0),(1,.str a1),(4,ow 4),(6,ow 6),(17,i6 (a1.size : Int)),(18,i6 s.1)],[(4,bk (eVb ((vrep 64 (0 : Int))))),(6,bk (eVb s.2))]⟩) (body:=(fun s : (Int × (Vec Int 64))=>impl_ParsePoly_l1 a1 s.1 s.2)) (G:=fun q=>some q = some y36) h rfl ?_ (by kernel_rfl)
    rintro X57 ⟨x47,x48⟩ x58 h hX59
    have h : impl_ParsePoly_l1 a1 x47 x48 = some x58:=h
    refine ns ⟨[(0,i6 a0),(1,.str a1),(4,ow 4),(6,ow 6),(17,i6 (a1.size : Int)),(18,i6 x47)],[(4,bk (eVb ((vrep 64 (0 : Int))))),(6,bk (eVb x48))]⟩ (sr (vp (.bool ((decide (x47 < (a1.size : Int))))) rfl (nk ⟨[(0,i6 a0),(1,.str a1),(4,ow 4),(6,ow 6),(17,i6 (a1.size : Int)),(18,i6 x47),(19,.bool ((decide (x47 < (a1.size : Int)))))],[(4,bk (eVb ((vrep 64 (0 : Int))))),(6,bk (eVb x48))]⟩ (a_seq ?_))))
    cases hb60 : (decide (x47 < (a1.size : Int)))
    ·have h:=ite_f hb60 h
     refine a_cond_f rfl (a_exit (t_exit ?_))
     cases h
     have h:=hX59
     refine t_exit (b_exit ?_)
     exact j_leaf x48 (Option.some.inj h) (by kernel_rfl)
    ·have h:=ite_t hb60 h
     refine a_cond_t rfl (a_skip (nj ⟨[(0,i6 a0),(1,.str a1),(4,ow 4),(6,ow 6),(17,i6 (a1.size : Int)),(18,i6 x47)],[(4,bk (eVb ((vrep 64 (0 : Int))))),(6,bk (eVb x48))]⟩ (a_seq (a_block (sr (vp (i6 x47) rfl (vp (i6 x47) rfl (nk ⟨[(0,i6 a0),(1,.str a1),(4,ow 4),(6,ow 6),(7,i6 x47),(17,i6 (a1.size : Int)),(18,i6 x47)],[(4,bk (eVb ((vrep 64 (0 : Int))))),(6,bk (eVb x48))]⟩ (a_region ?_)))))))))
     refine vp (.str a1) rfl (vp (i6 (a1.size : Int)) rfl (vp (i6 (IntKind.i64.wrap ((a1.size : Int) - 1))) rfl (vp (i6 x47) rfl ?_)))
     obtain ⟨x61,hx62,h⟩:=letp_some h
     refine a_val' (v:=(i6 (IntKind.i64.wrap ((IntKind.i64.wrap ((a1.size : Int) - 1)) - x47)))) (v':=(i6 x61)) (u:=[]) (u':=[]) rfl (congrArg (fun z=>((i6 z) : AV)) hx62) rfl trivial rfl (vp (.str a1) rfl (vp (i6 x47) rfl ?_))
     obtain ⟨hc63,h⟩:=ifp_some h
     refine vq (b8 ((((a1).data.toList.getD x47.toNat 0).toNat : Int))) rfl hc63 ?_
     obtain ⟨x64,hx65,h⟩:=letp_some h
     refine a_val' (v:=(b8 (IntKind.u8.wrap (((((a1).data.toList.getD x47.toNat 0).toNat : Int)) - 48)))) (v':=(b8 x64)) (u:=[]) (u':=[]) rfl (congrArg (fun z=>((b8 z) : AV)) hx65) rfl trivial rfl ?_
     obtain ⟨hc66,h⟩:=ifp_some h
     refine vq (.own 6 [x61.toNat] [x61.toNat * 1]) rfl hc66 ?_
     have hs67 : StOk [x61.toNat] (eVb x48) [x61.toNat * 1] 1 (b8 x64) (eVb (vset x48 x61.toNat x64)):=(.arr (y:=x64) (vlt x48 hc66) rfl (.nil rfl rfl rfl rfl))
     refine vu .top [(6,bk (eVb (vset x48 x61.toNat x64)))] (st_own (i:=⟨.int .u8,1,1,(.int .u8 0)⟩) rfl rfl (fun _=>rfl) rfl hs67) (hs67.c rfl) rfl (a_nil (b_norm (nj ⟨[(0,i6 a0),(1,.str a1),(4,ow 4),(6,ow 6),(17,i6 (a1.size : Int)),(18,i6 x47)],[(4,bk (eVb ((vrep 64 (0 : Int))))),(6,bk (eVb (vset x48 x61.toNat x64)))]⟩ (a_region (vp (i6 (IntKind.i64.wrap (x47 + 1))) rfl (vp (i6 (IntKind.i64.wrap (x47 + 1))) rfl (a_nil ?_)))))))
     cases h
     exact a_again (by kernel_rfl) hX59
  ·have h:=ite_t hb4 h
   refine a_cond_t rfl (sr (vq (eVb ((vrep 64 (0 : Int)))) rfl ⟨⟨_,rfl,rfl⟩,all_nil⟩ (vs (eVb ((vrep 64 (0 : Int)))) rfl rfl (fun _=>rfl) rfl rfl rfl rfl rfl rfl (vp (i6 6) rfl (nx _ rfl (a_ret (t_ret ?_)))))))
   have hl98 : LdOk [] (eVb ((vrep 64 (0 : Int)))) [] 64 true (eVb ((vrep 64 (0 : Int)))):=(.nil rfl rfl rfl)
   refine ⟨.inr rfl,?_⟩
   rw [Try.results27]
   cases h
   exact ⟨_,_,_,_,_,ld_own (i:=⟨.arr 64 5,64,64,(eVb (vrep 64 (0 : Int)))⟩) rfl rfl rfl hl98,hl98.c,.inl ⟨rfl,.inl rfl⟩,rfl,⟨_,_,_,_,_,rfl,trivial,.inl ⟨rfl,.inl rfl⟩,rfl,rfl⟩⟩
 ·have h:=ite_t hb3 h
  refine a_cond_t rfl (sr (vq (eVb ((vrep 64 (0 : Int)))) rfl ⟨⟨_,rfl,rfl⟩,all_nil⟩ (vs (eVb ((vrep 64 (0 : Int)))) rfl rfl (fun _=>rfl) rfl rfl rfl rfl rfl rfl (vp (i6 1) rfl (nx _ rfl (a_ret (t_ret ?_)))))))
  have hl100 : LdOk [] (eVb ((vrep 64 (0 : Int)))) [] 64 true (eVb ((vrep 64 (0 : Int)))):=(.nil rfl rfl rfl)
  refine ⟨.inr rfl,?_⟩
  rw [Try.results27]
  cases h
  exact ⟨_,_,_,_,_,ld_own (i:=⟨.arr 64 5,64,64,(eVb (vrep 64 (0 : Int)))⟩) rfl rfl rfl hl100,hl100.c,.inl ⟨rfl,.inl rfl⟩,rfl,⟨_,_,_,_,_,rfl,trivial,.inl ⟨rfl,.inl rfl⟩,rfl,rfl⟩⟩
def spec_l01Read_c : ACode:=(.seq (.region 0 [q 4 (.alloc 25),q 5 (.asg 0 (.const (.bool false)) 4)] false) (.seq (.region 1 [q 9 (.mov (t 1)),q 10 (.blt 0 .len [(t 9)] [9]),q 11 (.build 25 []),q 7 (.alloc 25),q 6 (.asg 0 (t 10) 3),⟨none,.store 25 (t 7) (t 11),none,[]⟩] false) (.seq (.seq (.region 2 [q 12 (.mov (t 6)),q 13 (.bin .eql 3 (t 12) (.const (.int .i64 0))),q 14 (.mov (t 13)),⟨some 15,.mov (t 6),some (14,false),[]⟩,⟨some 16,.bin .gtr 3 (t 15) (.const (.int .i64 64)),some (14,false),[]⟩,q 17 (.pick (t 14) (.const (.bool true)) (t 16))] false) (.cond (t 17) (.seq (.region 3 [q 18 (.build 25 []),⟨none,.store 25 (t 4) (t 18),none,[]⟩,q 5 (.asg 0 (.const (.bool false)) 4)] false) .ret) .skip)) (.seq (.seq (.region 4 [q 8 (.asg 0 (.const (.int .i64 0)) 3)] false) (.block 0 (.loop (.seq (.seq (.region 5 [q 19 (.mov (t 8)),q 20 (.mov (t 6)),q 21 (.bin .lss 3 (t 19) (t 20))] false) (.cond (t 21) .skip (.exit 0))) (.seq (.block 1 (.seq (.seq (.region 7 [q 24 (.mov (t 1)),q 25 (.mov (t 8)),q 26 (.index 9 (t 24) (t 25)),q 27 (.bin .lss 5 (t 26) (.const (.int .u8 48))),q 28 (.mov (t 27)),⟨some 29,.mov (t 1),some (28,false),[]⟩,⟨some 30,.mov (t 8),some (28,false),[]⟩,⟨some 31,.index 9 (t 29) (t 30),some (28,false),[]⟩,⟨some 32,.bin .sub 5 (t 31) (.const (.int .u8 48)),some (28,false),[]⟩,⟨some 33,.conv 5 2 (t 32),some (28,false),[]⟩,⟨some 34,.mov (t 0),some (28,false),[]⟩,⟨some 35,.bin .geq 2 (t 33) (t 34),some (28,false),[]⟩,q 36 (.pick (t 28) (.const (.bool true)) (t 35))] false) (.cond (t 36) (.seq (.region 8 [q 37 (.build 25 []),⟨none,.store 25 (t 4) (t 37),none,[]⟩,q 5 (.asg 0 (.const (.bool false)) 4)] false) .ret) .skip)) (.region 9 [q 38 (.mov (t 6)),q 39 (.bin .sub 3 (t 38) (.const (.int .i64 1))),q 40 (.mov (t 8)),q 41 (.bin .sub 3 (t 39) (t 40)),q 42 (.mov (t 1)),q 43 (.mov (t 8)),q 44 (.index 9 (t 42) (t 43)),q 45 (.bin .sub 5 (t 44) (.const (.int .u8 48))),q 46 (.indexAddr 25 (t 7) (t 41)),⟨none,.store 5 (t 46) (t 45),none,[]⟩] false))) (.region 6 [q 22 (.mov (t 8)),q 23 (.bin .add 3 (t 22) (.const (.int .i64 1))),q 8 (.asg 0 (t 23) 3)] false)))))) (.seq (.region 10 [q 47 (.load 25 (t 7)),q 48 (.load 25 (t 7)),⟨some 49,.call 0 (.func 174) [(t 48)],none,[1]⟩,q 50 (.mov (t 1)),⟨some 51,.bin .eql 9 (t 49) (t 50),none,[2,3]⟩,⟨none,.store 25 (t 4) (t 47),none,[0,2,0]⟩,⟨some 5,.asg 0 (t 51) 4,none,[4,5,0,1,2,3,4,5]⟩] true) .ret)))))
def spec_l01Read_L : Live:=[(0,[0,1]),(1,[0,1,4]),(2,[0,1,4,6,7]),(3,[4]),(4,[0,1,4,6,7]),(5,[0,1,4,6,7,8]),(6,[0,1,4,6,7,8]),(7,[0,1,4,6,7,8]),(8,[4]),(9,[0,1,4,6,7,8]),(10,[1,4,7]),(100017,[0,1,4,6,7,17]),(100021,[0,1,4,6,7,8,21]),(100036,[0,1,4,6,7,8,36])]
noncomputable def spec_l01Read_l1 (a1 : ByteArray) (a0 : Int) (x131 : Int) (x132 : (Vec Int 64)) : Option ((Int × (Vec Int 64)) ⊕ ((Vec Int 64) ⊕ ((Vec Int 64) × Bool))) :=
 (if (decide (x131 < (a1.size : Int))) then (Option.bind (α:=Bool) ((ifp (0 ≤ x131 ∧ x131 < ((a1.size : Nat) : Int)) ((letp ((decide (((((a1).data.toList.getD x131.toNat 0).toNat : Int)) < 48))) fun x177=>(if x177 then (some true) else (ifp (0 ≤ x131 ∧ x131 < ((a1.size : Nat) : Int)) ((letp (IntKind.u8.wrap (((((a1).data.toList.getD x131.toNat 0).toNat : Int)) - 48)) fun x181=>(some ((decide ((IntKind.i64.wrap x181) ≥ a0)))))))))))) fun x172=>(if x172 then (some (.inr ((.inr (((vrep 64 (0 : Int)),false)))))) else (letp (IntKind.i64.wrap ((IntKind.i64.wrap ((a1.size : Int) - 1)) - x131)) fun x184=>(ifp (0 ≤ x131 ∧ x131 < ((a1.size : Nat) : Int)) ((letp (IntKind.u8.wrap (((((a1).data.toList.getD x131.toNat 0).toNat : Int)) - 48)) fun x187=>(ifp (0 ≤ x184 ∧ x184 < ((64 : Nat) : Int)) ((some (.inl ((IntKind.i64.wrap (x131 + 1),(vset x132 x184.toNat x187))))))))))))) else (some (.inr (.inl x132))))
noncomputable def spec_l01Read (a0 : Int) (a1 : ByteArray) : Option ((Vec Int 64) × Bool) :=
 (Option.bind (α:=Bool) ((if ((a1.size : Int) == 0) then (some true) else (some ((decide ((a1.size : Int) > 64)))))) fun x3=>(if x3 then (some (((vrep 64 (0 : Int)),false))) else (Option.bind (α:=((Vec Int 64) ⊕ ((Vec Int 64) × Bool))) ((loopM (fun s : (Int × (Vec Int 64))=>spec_l01Read_l1 a1 a0 s.1 s.2) (0,vrep 64 (0 : Int)))) fun z=>match z with | .inl x99=>(Option.bind (spec_l01Text x99) fun r201=>(some ((x99,(r201.toList == a1.toList))))) | .inr r205=>(some r205))))
theorem spec_l01Read_ok (a0 : Int) (a1 : ByteArray) (r : ((Vec Int 64) × Bool)) (h : spec_l01Read a0 a1 = some r) : Den Try.prog 176 [(i6 a0),(.str a1)] { r:=(.tuple [(eVb r.1),(.bool r.2)]) }:=by
 refine den_of (rs:=[(eVb r.1),(.bool r.2)]) (ac:=spec_l01Read_c) (L:=spec_l01Read_L) (n:=52) (m:=[]) (c:=Try.f176.body.getD .skip) good Try.func176 (by kernel_rfl) (by kernel_rfl) Try.ntmps176 rfl rfl (by kernel_rfl) rfl rfl ?_
 refine ns ⟨[(0,i6 a0),(1,.str a1)],[]⟩ ?_
 unfold spec_l01Read_c
 refine sr (vo 1400 (eVb ((vrep 64 (0 : Int)))) rfl rfl (vp (.bool false) rfl (nk ⟨[(0,i6 a0),(1,.str a1),(4,ow 4)],[(4,bk (eVb ((vrep 64 (0 : Int)))))]⟩ (sr (vp (.str a1) rfl (vp (i6 (a1.size : Int)) rfl (vq (eVb ((vrep 64 (0 : Int)))) rfl ⟨⟨_,rfl,rfl⟩,all_nil⟩ (vo 1700 (eVb ((vrep 64 (0 : Int)))) rfl rfl (vp (i6 (a1.size : Int)) rfl ?_)))))))))
 refine vs (eVb ((vrep 64 (0 : Int)))) rfl rfl (fun _=>rfl) rfl rfl rfl rfl rfl rfl (nk ⟨[(0,i6 a0),(1,.str a1),(4,ow 4),(6,i6 (a1.size : Int)),(7,ow 7)],[(4,bk (eVb ((vrep 64 (0 : Int))))),(7,bk (eVb ((vrep 64 (0 : Int)))))]⟩ (a_seq ?_))
 obtain ⟨y4,hy5,hk6⟩:=bind_some h
 clear h
 refine a_join (emb:=fun (s : Bool)=>⟨[(0,i6 a0),(1,.str a1),(4,ow 4),(6,i6 (a1.size : Int)),(7,ow 7),(17,.bool s)],[(4,bk (eVb ((vrep 64 (0 : Int))))),(7,bk (eVb ((vrep 64 (0 : Int)))))]⟩) (pre:=fun s=>s = y4) ?_ ?_
 ·rintro x3 rfl
  have h:=hk6
  refine ns ⟨[(0,i6 a0),(1,.str a1),(4,ow 4),(6,i6 (a1.size : Int)),(7,ow 7),(17,.bool x3)],[(4,bk (eVb ((vrep 64 (0 : Int))))),(7,bk (eVb ((vrep 64 (0 : Int)))))]⟩ ?_
  cases hb8 : x3
  ·have h:=ite_f hb8 h
   refine a_cond_f rfl (a_skip (nj ⟨[(0,i6 a0),(1,.str a1),(4,ow 4),(6,i6 (a1.size : Int)),(7,ow 7)],[(4,bk (eVb ((vrep 64 (0 : Int))))),(7,bk (eVb ((vrep 64 (0 : Int)))))]⟩ ?_))
   obtain ⟨y100,hy101,hk102⟩:=bind_some h
   clear h
   refine a_join (emb:=fun (s : (Vec Int 64))=>⟨[(1,.str a1),(4,ow 4),(7,ow 7)],[(4,bk (eVb ((vrep 64 (0 : Int))))),(7,bk (eVb s))]⟩) (pre:=fun s=>(.inl s) = y100) ?_ ?_
   ·rintro x99 rfl
    have h:=hk102
    refine ns ⟨[(1,.str a1),(4,ow 4),(7,ow 7)],[(4,bk (eVb ((vrep 64 (0 : Int))))),(7,bk (eVb x99))]⟩ (a_seq (a_draw [⟨[7],[],[],[]⟩,⟨[7],[],[],[]⟩,⟨[],[],[],[1]⟩,⟨[],[],[],[]⟩,⟨[],[],[],[1,2,3]⟩,⟨[4],[4],[],[0,1,2]⟩,⟨[],[],[],[0,1,2,3,4,5]⟩] (by kernel_rfl) (d_cons (vl (eVb x99) rfl rfl rfl rfl rfl rfl (d_next (by kernel_rfl) (d_cons (vl (eVb x99) rfl rfl rfl rfl rfl rfl (d_next (by kernel_rfl) (d_cons ?_)))))))))
    obtain ⟨r201,hr202,h⟩:=bind_some h
    refine a_call (args:=[(eVb x99)]) (u:=[]) (r:=(.str r201)) rfl rfl (spec_l01Text_ok x99 r201 hr202) rfl (d_next (by kernel_rfl) (dj (.str a1) rfl (dj (.bool (r201.toList == a1.toList)) rfl (d_cons (vs (eVb x99) rfl rfl (fun _=>rfl) rfl rfl rfl rfl rfl rfl (d_next (by kernel_rfl) (dj (.bool (r201.toList == a1.toList)) rfl (d_nil (a_next rfl ?_)))))))))
    refine a_ret ?_
    have hl204 : LdOk [] (eVb x99) [] 64 true (eVb x99):=(.nil rfl rfl rfl)
    refine ⟨.inr rfl,?_⟩
    rw [Try.results176]
    cases h
    exact ⟨_,_,_,_,_,ld_own (i:=⟨.arr 64 5,64,64,(eVb (vrep 64 (0 : Int)))⟩) rfl rfl rfl hl204,hl204.c,.inl ⟨rfl,.inl rfl⟩,rfl,⟨_,_,_,_,_,rfl,trivial,.inl ⟨rfl,.inl rfl⟩,rfl,rfl⟩⟩
   ·have h:=hy101
    refine sr (vp (i6 0) rfl (nk ⟨[(0,i6 a0),(1,.str a1),(4,ow 4),(6,i6 (a1.size : Int)),(7,ow 7),(8,i6 0)],[(4,bk (eVb ((vrep 64 (0 : Int))))),(7,bk (eVb ((vrep 64 (0 : Int)))))]⟩ (a_block ?_)))
    refine a_loop (emb:=fun (s : (Int × (Vec Int 64)))=>⟨[(0,i6 a0),(1,.str a1),(4,ow 4),(6,i6 (a1.size : Int)),(7,ow 7),(8,i6 s.1)],[(4,bk (eVb ((vrep 64 (0 : Int))))),(7,bk (eVb s.2))]⟩) (body:=(fun s : (Int × (Vec Int 64))=>spec_l01Read_l1 a1 a0 s.1 s.2)) (G:=fun q=>some q = some y100) h rfl ?_ (by kernel_rfl)
    rintro X161 ⟨x131,x132⟩ x162 h hX163
    have h : spec_l01Read_l1 a1 a0 x131 x132 = some x162:=h
    refine ns ⟨[(0,i6 a0),(1,.str a1),(4,ow 4),(6,i6 (a1.size : Int)),(7,ow 7),(8,i6 x131)],[(4,bk (eVb ((vrep 64 (0 : Int))))),(7,bk (eVb x132))]⟩ (a_seq (sr (vp (i6 x131) rfl (vp (i6 (a1.size : Int)) rfl (vp (.bool ((decide (x131 < (a1.size : Int))))) rfl (nk ⟨[(0,i6 a0),(1,.str a1),(4,ow 4),(6,i6 (a1.size : Int)),(7,ow 7),(8,i6 x131),(21,.bool ((decide (x131 < (a1.size : Int)))))],[(4,bk (eVb ((vrep 64 (0 : Int))))),(7,bk (eVb x132))]⟩ ?_))))))
    cases hb164 : (decide (x131 < (a1.size : Int)))
    ·have h:=ite_f hb164 h
     refine a_cond_f rfl (a_exit (t_exit ?_))
     cases h
     have h:=hX163
     refine t_exit (b_exit ?_)
     exact j_leaf x132 (Option.some.inj h) (by kernel_rfl)
    ·have h:=ite_t hb164 h
     refine a_cond_t rfl (a_skip (nj ⟨[(0,i6 a0),(1,.str a1),(4,ow 4),(6,i6 (a1.size : Int)),(7,ow 7),(8,i6 x131)],[(4,bk (eVb ((vrep 64 (0 : Int))))),(7,bk (eVb x132))]⟩ (a_seq (a_block (a_seq ?_)))))
     obtain ⟨y173,hy174,hk175⟩:=bind_some h
     clear h
     refine a_join (emb:=fun (s : Bool)=>⟨[(0,i6 a0),(1,.str a1),(4,ow 4),(6,i6 (a1.size : Int)),(7,ow 7),(8,i6 x131),(36,.bool s)],[(4,bk (eVb ((vrep 64 (0 : Int))))),(7,bk (eVb x132))]⟩) (pre:=fun s=>s = y173) ?_ ?_
     ·rintro x172 rfl
      have h:=hk175
      refine ns ⟨[(0,i6 a0),(1,.str a1),(4,ow 4),(6,i6 (a1.size : Int)),(7,ow 7),(8,i6 x131),(36,.bool x172)],[(4,bk (eVb ((vrep 64 (0 : Int))))),(7,bk (eVb x132))]⟩ ?_
      cases hb183 : x172
      ·have h:=ite_f hb183 h
       refine a_cond_f rfl (a_skip (nj ⟨[(0,i6 a0),(1,.str a1),(4,ow 4),(6,i6 (a1.size : Int)),(7,ow 7),(8,i6 x131)],[(4,bk (eVb ((vrep 64 (0 : Int))))),(7,bk (eVb x132))]⟩ (a_region (vp (i6 (a1.size : Int)) rfl (vp (i6 (IntKind.i64.wrap ((a1.size : Int) - 1))) rfl (vp (i6 x131) rfl ?_))))))
       obtain ⟨x184,hx185,h⟩:=letp_some h
       refine a_val' (v:=(i6 (IntKind.i64.wrap ((IntKind.i64.wrap ((a1.size : Int) - 1)) - x131)))) (v':=(i6 x184)) (u:=[]) (u':=[]) rfl (congrArg (fun z=>((i6 z) : AV)) hx185) rfl trivial rfl (vp (.str a1) rfl (vp (i6 x131) rfl ?_))
       obtain ⟨hc186,h⟩:=ifp_some h
       refine vq (b8 ((((a1).data.toList.getD x131.toNat 0).toNat : Int))) rfl hc186 ?_
       obtain ⟨x187,hx188,h⟩:=letp_some h
       refine a_val' (v:=(b8 (IntKind.u8.wrap (((((a1).data.toList.getD x131.toNat 0).toNat : Int)) - 48)))) (v':=(b8 x187)) (u:=[]) (u':=[]) rfl (congrArg (fun z=>((b8 z) : AV)) hx188) rfl trivial rfl ?_
       obtain ⟨hc189,h⟩:=ifp_some h
       refine vq (.own 7 [x184.toNat] [x184.toNat * 1]) rfl hc189 ?_
       have hs190 : StOk [x184.toNat] (eVb x132) [x184.toNat * 1] 1 (b8 x187) (eVb (vset x132 x184.toNat x187)):=(.arr (y:=x187) (vlt x132 hc189) rfl (.nil rfl rfl rfl rfl))
       refine vu .top [(7,bk (eVb (vset x132 x184.toNat x187)))] (st_own (i:=⟨.int .u8,1,1,(.int .u8 0)⟩) rfl rfl (fun _=>rfl) rfl hs190) (hs190.c rfl) rfl (a_nil (b_norm (nj ⟨[(0,i6 a0),(1,.str a1),(4,ow 4),(6,i6 (a1.size : Int)),(7,ow 7),(8,i6 x131)],[(4,bk (eVb ((vrep 64 (0 : Int))))),(7,bk (eVb (vset x132 x184.toNat x187)))]⟩ (a_region (vp (i6 x131) rfl (vp (i6 (IntKind.i64.wrap (x131 + 1))) rfl (vp (i6 (IntKind.i64.wrap (x131 + 1))) rfl (a_nil ?_))))))))
       cases h
       exact a_again (by kernel_rfl) hX163
      ·have h:=ite_t hb183 h
       refine a_cond_t rfl (sr (vq (eVb ((vrep 64 (0 : Int)))) rfl ⟨⟨_,rfl,rfl⟩,all_nil⟩ (vs (eVb ((vrep 64 (0 : Int)))) rfl rfl (fun _=>rfl) rfl rfl rfl rfl rfl rfl (vp (.bool false) rfl (nx _ rfl (a_ret (t_ret (b_ret (t_ret ?_)))))))))
       cases h
       have h:=hX163
       refine t_ret (b_ret (t_ret ?_))
       cases h
       have h:=hk102
       have hl192 : LdOk [] (eVb ((vrep 64 (0 : Int)))) [] 64 true (eVb ((vrep 64 (0 : Int)))):=(.nil rfl rfl rfl)
       refine ⟨.inr rfl,?_⟩
       rw [Try.results176]
       cases h
       exact ⟨_,_,_,_,_,ld_own (i:=⟨.arr 64 5,64,64,(eVb (vrep 64 (0 : Int)))⟩) rfl rfl rfl hl192,hl192.c,.inl ⟨rfl,.inl rfl⟩,rfl,⟨_,_,_,_,_,rfl,trivial,.inl ⟨rfl,.inl rfl⟩,rfl,rfl⟩⟩
     ·have h:=hy174
      refine a_region (vp (.str a1) rfl (vp (i6 x131) rfl ?_))
      obtain ⟨hc176,h⟩:=ifp_some h
      refine vq (b8 ((((a1).data.toList.getD x131.toNat 0).toNat : Int))) rfl hc176 ?_
      obtain ⟨x177,hx178,h⟩:=letp_some h
      refine a_val' (v:=(.bool ((decide (((((a1).data.toList.getD x131.toNat 0).toNat : Int)) < 48))))) (v':=(.bool x177)) (u:=[]) (u':=[]) rfl (congrArg (fun z=>((.bool z) : AV)) hx178) rfl trivial rfl (vp (.bool x177) rfl ?_)
      cases hb179 : x177
      ·have h:=ite_f hb179 h
       refine gp (.str a1) rfl rfl (gp (i6 x131) rfl rfl ?_)
       obtain ⟨hc180,h⟩:=ifp_some h
       refine gq (b8 ((((a1).data.toList.getD x131.toNat 0).toNat : Int))) rfl rfl hc180 ?_
       obtain ⟨x181,hx182,h⟩:=letp_some h
       refine a_gval' rfl (v:=(b8 (IntKind.u8.wrap (((((a1).data.toList.getD x131.toNat 0).toNat : Int)) - 48)))) (v':=(b8 x181)) (u:=[]) (u':=[]) rfl (congrArg (fun z=>((b8 z) : AV)) hx182) rfl trivial rfl (gp (i6 (IntKind.i64.wrap x181)) rfl rfl (gp (i6 a0) rfl rfl (gp (.bool ((decide ((IntKind.i64.wrap x181) ≥ a0)))) rfl rfl (vp (.bool ((decide ((IntKind.i64.wrap x181) ≥ a0)))) rfl (a_nil ?_)))))
       exact j_leaf ((decide ((IntKind.i64.wrap x181) ≥ a0))) (Option.some.inj h) (by kernel_rfl)
      ·have h:=ite_t hb179 h
       refine a_gskip rfl (a_gskip rfl (a_gskip rfl (a_gskip rfl (a_gskip rfl (a_gskip rfl (a_gskip rfl (vp (.bool true) rfl (a_nil ?_))))))))
       exact j_leaf true (Option.some.inj h) (by kernel_rfl)
  ·have h:=ite_t hb8 h
   refine a_cond_t rfl (sr (vq (eVb ((vrep 64 (0 : Int)))) rfl ⟨⟨_,rfl,rfl⟩,all_nil⟩ (vs (eVb ((vrep 64 (0 : Int)))) rfl rfl (fun _=>rfl) rfl rfl rfl rfl rfl rfl (vp (.bool false) rfl (nx _ rfl (a_ret (t_ret ?_)))))))
   have hl207 : LdOk [] (eVb ((vrep 64 (0 : Int)))) [] 64 true (eVb ((vrep 64 (0 : Int)))):=(.nil rfl rfl rfl)
   refine ⟨.inr rfl,?_⟩
   rw [Try.results176]
   cases h
   exact ⟨_,_,_,_,_,ld_own (i:=⟨.arr 64 5,64,64,(eVb (vrep 64 (0 : Int)))⟩) rfl rfl rfl hl207,hl207.c,.inl ⟨rfl,.inl rfl⟩,rfl,⟨_,_,_,_,_,rfl,trivial,.inl ⟨rfl,.inl rfl⟩,rfl,rfl⟩⟩
 ·have h:=hy5
  refine a_region (vp (i6 (a1.size : Int)) rfl (vp (.bool (((a1.size : Int) == 0))) rfl (vp (.bool (((a1.size : Int) == 0))) rfl ?_)))
  cases hb7 : ((a1.size : Int) == 0)
  ·have h:=ite_f hb7 h
   refine gp (i6 (a1.size : Int)) rfl rfl (gp (.bool ((decide ((a1.size : Int) > 64)))) rfl rfl (vp (.bool ((decide ((a1.size : Int) > 64)))) rfl (a_nil ?_)))
   exact j_leaf ((decide ((a1.size : Int) > 64))) (Option.some.inj h) (by kernel_rfl)
  ·have h:=ite_t hb7 h
   refine a_gskip rfl (a_gskip rfl (vp (.bool true) rfl (a_nil ?_)))
   exact j_leaf true (Option.some.inj h) (by kernel_rfl)
def spec_ParsePoly_c : ACode:=(.seq (.region 0 [q 4 (.alloc 25),q 5 (.asg 0 (.const (.int .i64 0)) 2)] false) (.seq (.seq (.region 1 [q 8 (.mov (t 0)),q 9 (.call 0 (.func 168) [(t 8)]),q 10 (.un .not (t 9))] false) (.cond (t 10) (.seq (.region 2 [q 11 (.build 25 []),⟨none,.store 25 (t 4) (t 11),none,[]⟩,q 5 (.asg 0 (.const (.int .i64 1)) 2)] false) .ret) .skip)) (.seq (.region 3 [q 13 (.mov (t 0)),q 14 (.mov (t 1)),q 15 (.call 0 (.func 176) [(t 13),(t 14)]),q 12 (.mov (t 15)),q 16 (.extract (t 12) 0),q 17 (.extract (t 12) 1),q 6 (.alloc 25),⟨none,.store 25 (t 6) (t 16),none,[]⟩,q 7 (.asg 0 (t 17) 4)] false) (.seq (.seq (.region 4 [q 18 (.mov (t 7)),q 19 (.un .not (t 18))] false) (.cond (t 19) (.seq (.region 5 [q 20 (.build 25 []),⟨none,.store 25 (t 4) (t 20),none,[]⟩,q 5 (.asg 0 (.const (.int .i64 6)) 2)] false) .ret) .skip)) (.seq (.region 6 [q 21 (.load 25 (t 6)),⟨none,.store 25 (t 4) (t 21),none,[]⟩,q 5 (.asg 0 (.const (.int .i64 0)) 2)] false) .ret)))))
def spec_ParsePoly_L : Live:=[(0,[0,1]),(1,[0,1,4]),(2,[4]),(3,[0,1,4]),(4,[4,6,7]),(5,[4]),(6,[4,6]),(100010,[0,1,4,10]),(100019,[4,6,19])]
noncomputable def spec_ParsePoly (a0 : Int) (a1 : ByteArray) : Option ((Vec Int 64) × Int) :=
 (Option.bind (spec_l01Prime a0) fun r1=>(if (!r1) then (some (((vrep 64 (0 : Int)),1))) else (Option.bind (spec_l01Read a0 a1) fun r4=>(if (!r4.2) then (some (((vrep 64 (0 : Int)),6))) else (some (r4.1,0))))))
theorem spec_ParsePoly_ok (a0 : Int) (a1 : ByteArray) (r : ((Vec Int 64) × Int)) (h : spec_ParsePoly a0 a1 = some r) : Den Try.prog 95 [(i6 a0),(.str a1)] { r:=(.tuple [(eVb r.1),(i6 r.2)]) }:=by
 refine den_of (rs:=[(eVb r.1),(i6 r.2)]) (ac:=spec_ParsePoly_c) (L:=spec_ParsePoly_L) (n:=22) (m:=[]) (c:=Try.f95.body.getD .skip) good Try.func95 (by kernel_rfl) (by kernel_rfl) Try.ntmps95 rfl rfl (by kernel_rfl) rfl rfl ?_
 refine ns ⟨[(0,i6 a0),(1,.str a1)],[]⟩ ?_
 unfold spec_ParsePoly_c
 refine sr (vo 1400 (eVb ((vrep 64 (0 : Int)))) rfl rfl (vp (i6 0) rfl (nk ⟨[(0,i6 a0),(1,.str a1),(4,ow 4)],[(4,bk (eVb ((vrep 64 (0 : Int)))))]⟩ (a_seq (sr (vp (i6 a0) rfl ?_))))))
 obtain ⟨r1,hr2,h⟩:=bind_some h
 refine a_call (args:=[(i6 a0)]) (u:=[]) (r:=(.bool r1)) rfl rfl (spec_l01Prime_ok a0 r1 hr2) rfl (vp (.bool (!r1)) rfl (nk ⟨[(0,i6 a0),(1,.str a1),(4,ow 4),(10,.bool (!r1))],[(4,bk (eVb ((vrep 64 (0 : Int)))))]⟩ ?_))
 cases hb3 : (!r1)
 ·have h:=ite_f hb3 h
  refine a_cond_f rfl (a_skip (nj ⟨[(0,i6 a0),(1,.str a1),(4,ow 4)],[(4,bk (eVb ((vrep 64 (0 : Int)))))]⟩ (sr (vp (i6 a0) rfl (vp (.str a1) rfl ?_)))))
  obtain ⟨r4,hr5,h⟩:=bind_some h
  refine a_call (args:=[(i6 a0),(.str a1)]) (u:=[]) (r:=(.tuple [(eVb r4.1),(.bool r4.2)])) rfl rfl (spec_l01Read_ok a0 a1 r4 hr5) rfl (vp (.tuple [(eVb r4.1),(.bool r4.2)]) rfl (vb (eVb r4.1) rfl rfl (vb (.bool r4.2) rfl rfl (vo 1600 (eVb ((vrep 64 (0 : Int)))) rfl rfl (vs (eVb r4.1) rfl rfl (fun _=>rfl) rfl rfl rfl rfl rfl rfl (vp (.bool r4.2) rfl (nk ⟨[(4,ow 4),(6,ow 6),(7,.bool r4.2)],[(4,bk (eVb ((vrep 64 (0 : Int))))),(6,bk (eVb r4.1))]⟩ (a_seq (sr ?_)))))))))
  refine vp (.bool r4.2) rfl (vp (.bool (!r4.2)) rfl (nk ⟨[(4,ow 4),(6,ow 6),(19,.bool (!r4.2))],[(4,bk (eVb ((vrep 64 (0 : Int))))),(6,bk (eVb r4.1))]⟩ ?_))
  cases hb7 : (!r4.2)
  ·have h:=ite_f hb7 h
   refine a_cond_f rfl (a_skip (nj ⟨[(4,ow 4),(6,ow 6)],[(4,bk (eVb ((vrep 64 (0 : Int))))),(6,bk (eVb r4.1))]⟩ (sr (vl (eVb r4.1) rfl rfl rfl rfl rfl rfl (vs (eVb r4.1) rfl rfl (fun _=>rfl) rfl rfl rfl rfl rfl rfl (vp (i6 0) rfl (nx _ rfl (a_ret ?_))))))))
   have hl10 : LdOk [] (eVb r4.1) [] 64 true (eVb r4.1):=(.nil rfl rfl rfl)
   refine ⟨.inr rfl,?_⟩
   rw [Try.results95]
   cases h
   exact ⟨_,_,_,_,_,ld_own (i:=⟨.arr 64 5,64,64,(eVb (vrep 64 (0 : Int)))⟩) rfl rfl rfl hl10,hl10.c,.inl ⟨rfl,.inl rfl⟩,rfl,⟨_,_,_,_,_,rfl,trivial,.inl ⟨rfl,.inl rfl⟩,rfl,rfl⟩⟩
  ·have h:=ite_t hb7 h
   refine a_cond_t rfl (sr (vq (eVb ((vrep 64 (0 : Int)))) rfl ⟨⟨_,rfl,rfl⟩,all_nil⟩ (vs (eVb ((vrep 64 (0 : Int)))) rfl rfl (fun _=>rfl) rfl rfl rfl rfl rfl rfl (vp (i6 6) rfl (nx _ rfl (a_ret (t_ret ?_)))))))
   have hl12 : LdOk [] (eVb ((vrep 64 (0 : Int)))) [] 64 true (eVb ((vrep 64 (0 : Int)))):=(.nil rfl rfl rfl)
   refine ⟨.inr rfl,?_⟩
   rw [Try.results95]
   cases h
   exact ⟨_,_,_,_,_,ld_own (i:=⟨.arr 64 5,64,64,(eVb (vrep 64 (0 : Int)))⟩) rfl rfl rfl hl12,hl12.c,.inl ⟨rfl,.inl rfl⟩,rfl,⟨_,_,_,_,_,rfl,trivial,.inl ⟨rfl,.inl rfl⟩,rfl,rfl⟩⟩
 ·have h:=ite_t hb3 h
  refine a_cond_t rfl (sr (vq (eVb ((vrep 64 (0 : Int)))) rfl ⟨⟨_,rfl,rfl⟩,all_nil⟩ (vs (eVb ((vrep 64 (0 : Int)))) rfl rfl (fun _=>rfl) rfl rfl rfl rfl rfl rfl (vp (i6 1) rfl (nx _ rfl (a_ret (t_ret ?_)))))))
  have hl14 : LdOk [] (eVb ((vrep 64 (0 : Int)))) [] 64 true (eVb ((vrep 64 (0 : Int)))):=(.nil rfl rfl rfl)
  refine ⟨.inr rfl,?_⟩
  rw [Try.results95]
  cases h
  exact ⟨_,_,_,_,_,ld_own (i:=⟨.arr 64 5,64,64,(eVb (vrep 64 (0 : Int)))⟩) rfl rfl rfl hl14,hl14.c,.inl ⟨rfl,.inl rfl⟩,rfl,⟨_,_,_,_,_,rfl,trivial,.inl ⟨rfl,.inl rfl⟩,rfl,rfl⟩⟩
def spec_DrawDegreeOf_c : ACode:=(.seq (.region 0 [q 2 (.asg 0 (.const (.int .i64 0)) 2),q 3 (.alloc 25)] false) (.seq (.region 1 [q 7 (.mov (t 0)),q 8 (.call 0 (.func 116) [(t 7)]),q 9 (.call 1 (.func 115) [(t 8)]),q 6 (.mov (t 9)),q 10 (.extract (t 6) 0),q 11 (.extract (t 6) 1),q 5 (.alloc 25),q 4 (.asg 0 (t 10) 2),⟨none,.store 25 (t 5) (t 11),none,[]⟩] false) (.seq (.region 2 [q 12 (.mov (t 4)),q 13 (.load 25 (t 5)),⟨some 2,.asg 0 (t 12) 2,none,[0,0]⟩,⟨none,.store 25 (t 3) (t 13),none,[1,2,0,1,2]⟩] true) .ret)))
def spec_DrawDegreeOf_L : Live:=[(0,[0]),(1,[0,3]),(2,[3,4,5])]
noncomputable def spec_DrawDegreeOf (a0 : (List Int)) : Option (Int × (Vec Int 64)) :=
 (Option.bind (spec_l01From a0) fun r1=>(Option.bind (spec_l01Spoil_of_src r1) fun r3=>(some (r3.1,r3.2.1))))
theorem spec_DrawDegreeOf_ok (a0 : (List Int)) (r : (Int × (Vec Int 64))) (h : spec_DrawDegreeOf a0 = some r) : Den Try.prog 96 [(eSu8 a0)] { r:=(.tuple [(i6 r.1),(eVb r.2)]) }:=by
 refine den_of (rs:=[(i6 r.1),(eVb r.2)]) (ac:=spec_DrawDegreeOf_c) (L:=spec_DrawDegreeOf_L) (n:=14) (m:=[(9,1)]) (c:=Try.f96.body.getD .skip) good Try.func96 (by kernel_rfl) (by kernel_rfl) Try.ntmps96 rfl rfl (by kernel_rfl) rfl rfl ?_
 refine ns ⟨[(0,eSu8 a0)],[]⟩ ?_
 unfold spec_DrawDegreeOf_c
 refine sr (vp (i6 0) rfl (vo 1300 (eVb ((vrep 64 (0 : Int)))) rfl rfl (nk ⟨[(0,eSu8 a0),(3,ow 3)],[(3,bk (eVb ((vrep 64 (0 : Int)))))]⟩ (sr (vp (eSu8 a0) rfl ?_)))))
 obtain ⟨r1,hr2,h⟩:=bind_some h
 refine a_callF (args:=[(eSu8 a0)]) (u:=[]) (u2:=[]) (r:=(ow 2000000)) (fs:=[(0,[eT_Su8_i64_u64_Z r1])]) rfl rfl (spec_l01From_ok a0 r1 hr2) rfl rfl rfl (.inl rfl) rfl ?_
 obtain ⟨r3,hr4,h⟩:=bind_some h
 refine a_callM (args:=[(.mutp (eT_Su8_i64_u64_Z r1))]) (i:=0) (id:=1800) (r:=(.tuple [(i6 r3.1),(eVb r3.2.1)])) (c:=(eT_Su8_i64_u64_Z r3.2.2)) rfl rfl (spec_l01Spoil_of_src_ok r1 r3 hr4) rfl trivial (vp (.tuple [(i6 r3.1),(eVb r3.2.1)]) rfl (vb (i6 r3.1) rfl rfl (vb (eVb r3.2.1) rfl rfl (vo 1500 (eVb ((vrep 64 (0 : Int)))) rfl rfl (vp (i6 r3.1) rfl (vs (eVb r3.2.1) rfl rfl (fun _=>rfl) rfl rfl rfl rfl rfl rfl (nk ⟨[(3,ow 3),(4,i6 r3.1),(5,ow 5)],[(3,bk (eVb ((vrep 64 (0 : Int))))),(5,bk (eVb r3.2.1))]⟩ (a_seq (a_draw [⟨[],[],[],[]⟩,⟨[5],[],[],[]⟩,⟨[],[],[],[0]⟩,⟨[3],[3],[],[0,1,2]⟩] (by kernel_rfl) ?_)))))))))
 refine dj (i6 r3.1) rfl (d_cons (vl (eVb r3.2.1) rfl rfl rfl rfl rfl rfl (d_next (by kernel_rfl) (dj (i6 r3.1) rfl (d_cons (vs (eVb r3.2.1) rfl rfl (fun _=>rfl) rfl rfl rfl rfl rfl rfl (d_next (by kernel_rfl) (d_nil (a_next rfl ?_)))))))))
 refine a_ret ?_
 have hl11 : LdOk [] (eVb r3.2.1) [] 64 true (eVb r3.2.1):=(.nil rfl rfl rfl)
 refine ⟨.inr rfl,?_⟩
 rw [Try.results96]
 cases h
 exact ⟨_,_,_,_,_,rfl,trivial,.inl ⟨rfl,.inl rfl⟩,rfl,⟨_,_,_,_,_,ld_own (i:=⟨.arr 64 5,64,64,(eVb (vrep 64 (0 : Int)))⟩) rfl rfl rfl hl11,hl11.c,.inl ⟨rfl,.inl rfl⟩,rfl,rfl⟩⟩
def impl_DegreeOf_c : ACode:=(.seq (.region 0 [q 3 (.box 25 (t 1)),q 4 (.asg 0 (.const (.int .i64 0)) 2),q 5 (.asg 0 (.const (.int .i64 0)) 2)] false) (.seq (.seq (.region 1 [q 7 (.mov (t 0)),q 8 (.load 25 (t 3)),q 9 (.bslice 0 55 1 [(0,t 8)]),q 10 (.call 0 (.func 100) [(t 7),(t 9)]),q 6 (.asg 0 (t 10) 2)] false) (.seq (.region 2 [q 11 (.mov (t 6)),q 12 (.bin .neq 2 (t 11) (.const (.int .i64 0)))] false) (.cond (t 12) (.seq (.region 3 [q 13 (.mov (t 6)),q 4 (.asg 0 (.const (.int .i64 0)) 2),q 5 (.asg 0 (t 13) 2)] false) .ret) .skip))) (.seq (.region 4 [q 14 (.load 25 (t 3)),q 15 (.call 0 (.func 103) [(t 14)]),q 16 (.call 0 (.func 114) [(t 15)]),q 4 (.asg 0 (t 16) 2),q 5 (.asg 0 (.const (.int .i64 0)) 2)] false) .ret)))
def impl_DegreeOf_L : Live:=[(0,[0,1]),(1,[0,3]),(2,[3,6]),(3,[6]),(4,[3]),(100012,[3,6,12])]
noncomputable def impl_DegreeOf (a0 : Int) (a1 : (Vec Int 64)) : Option (Int × Int) :=
 (Option.bind (impl_polysCode a0 ([a1])) fun r2=>(if (r2 != 0) then (some (0,r2)) else (Option.bind (impl_rowOf a1) fun r6=>(Option.bind (impl_row_degree r6) fun r8=>(some (r8,0))))))
theorem impl_DegreeOf_ok (a0 : Int) (a1 : (Vec Int 64)) (r : (Int × Int)) (h : impl_DegreeOf a0 a1 = some r) : Den Try.prog 21 [(i6 a0),(eVb a1)] { r:=(.tuple [(i6 r.1),(i6 r.2)]) }:=by
 refine den_of (rs:=[(i6 r.1),(i6 r.2)]) (ac:=impl_DegreeOf_c) (L:=impl_DegreeOf_L) (n:=17) (m:=[]) (c:=Try.f21.body.getD .skip) good Try.func21 (by kernel_rfl) (by kernel_rfl) Try.ntmps21 rfl rfl (by kernel_rfl) rfl rfl ?_
 refine ns ⟨[(0,i6 a0),(1,eVb a1)],[]⟩ ?_
 unfold impl_DegreeOf_c
 refine sr (vo 1300 (eVb a1) rfl rfl (vp (i6 0) rfl (vp (i6 0) rfl (nk ⟨[(0,i6 a0),(3,ow 3)],[(3,bk (eVb a1))]⟩ (a_seq (sr (vp (i6 a0) rfl (vl (eVb a1) rfl rfl rfl rfl rfl rfl (vq (.sl 64 true (([a1]).map eVb)) rfl ⟨(Nat.le_of_ble_eq_true rfl),(Nat.le_of_ble_eq_true rfl),(all_cons ⟨(Nat.le_of_ble_eq_true rfl),rfl⟩ all_nil)⟩ ?_)))))))))
 obtain ⟨r2,hr3,h⟩:=bind_some h
 refine a_call (args:=[(i6 a0),(.sl 64 true (([a1]).map eVb))]) (u:=[]) (r:=(i6 r2)) rfl rfl (Den.args (impl_polysCode_ok a0 ([a1]) r2 hr3) rfl rfl (.cons (.refl _) (.cons (.loose _) .nil))) rfl (vp (i6 r2) rfl (nk ⟨[(3,ow 3),(6,i6 r2)],[(3,bk (eVb a1))]⟩ (sr (vp (i6 r2) rfl (vp (.bool (r2 != 0)) rfl (nk ⟨[(3,ow 3),(6,i6 r2),(12,.bool (r2 != 0))],[(3,bk (eVb a1))]⟩ ?_))))))
 cases hb4 : (r2 != 0)
 ·have h:=ite_f hb4 h
  refine a_cond_f rfl (a_skip (nj ⟨[(3,ow 3)],[(3,bk (eVb a1))]⟩ (sr (vl (eVb a1) rfl rfl rfl rfl rfl rfl ?_))))
  obtain ⟨r6,hr7,h⟩:=bind_some h
  refine a_call (args:=[(eVb a1)]) (u:=[]) (r:=(eSi64 r6)) rfl rfl (impl_rowOf_ok a1 r6 hr7) rfl ?_
  obtain ⟨r8,hr9,h⟩:=bind_some h
  refine a_call (args:=[(eSi64 r6)]) (u:=[]) (r:=(i6 r8)) rfl rfl (impl_row_degree_ok r6 r8 hr9) rfl (vp (i6 r8) rfl (vp (i6 0) rfl (nx _ rfl (a_ret ?_))))
  refine ⟨.inr rfl,?_⟩
  rw [Try.results21]
  cases h
  exact ⟨_,_,_,_,_,rfl,trivial,.inl ⟨rfl,.inl rfl⟩,rfl,⟨_,_,_,_,_,rfl,trivial,.inl ⟨rfl,.inl rfl⟩,rfl,rfl⟩⟩
 ·have h:=ite_t hb4 h
  refine a_cond_t rfl (sr (vp (i6 r2) rfl (vp (i6 0) rfl (vp (i6 r2) rfl (nx _ rfl (a_ret (t_ret ?_)))))))
  refine ⟨.inr rfl,?_⟩
  rw [Try.results21]
  cases h
  exact ⟨_,_,_,_,_,rfl,trivial,.inl ⟨rfl,.inl rfl⟩,rfl,⟨_,_,_,_,_,rfl,trivial,.inl ⟨rfl,.inl rfl⟩,rfl,rfl⟩⟩
def spec_DegreeOf_c : ACode:=(.seq (.region 0 [q 3 (.box 25 (t 1)),q 4 (.asg 0 (.const (.int .i64 0)) 2),q 5 (.asg 0 (.const (.int .i64 0)) 2)] false) (.seq (.seq (.region 1 [q 7 (.mov (t 0)),q 8 (.load 25 (t 3)),q 9 (.bslice 0 55 1 [(0,t 8)]),q 10 (.call 0 (.func 104) [(t 7),(t 9)]),q 6 (.asg 0 (t 10) 2)] false) (.seq (.region 2 [q 11 (.mov (t 6)),q 12 (.bin .neq 2 (t 11) (.const (.int .i64 0)))] false) (.cond (t 12) (.seq (.region 3 [q 13 (.mov (t 6)),q 4 (.asg 0 (.const (.int .i64 0)) 2),q 5 (.asg 0 (t 13) 2)] false) .ret) .skip))) (.seq (.region 4 [q 14 (.load 25 (t 3)),q 15 (.call 0 (.func 112) [(t 14)]),q 4 (.asg 0 (t 15) 2),q 5 (.asg 0 (.const (.int .i64 0)) 2)] false) .ret)))
def spec_DegreeOf_L : Live:=[(0,[0,1]),(1,[0,3]),(2,[3,6]),(3,[6]),(4,[3]),(100012,[3,6,12])]
noncomputable def spec_DegreeOf (a0 : Int) (a1 : (Vec Int 64)) : Option (Int × Int) :=
 (Option.bind (spec_l01Code a0 ([a1])) fun r2=>(if (r2 != 0) then (some (0,r2)) else (Option.bind (spec_l01Deg a1) fun r6=>(some (r6,0)))))
theorem spec_DegreeOf_ok (a0 : Int) (a1 : (Vec Int 64)) (r : (Int × Int)) (h : spec_DegreeOf a0 a1 = some r) : Den Try.prog 97 [(i6 a0),(eVb a1)] { r:=(.tuple [(i6 r.1),(i6 r.2)]) }:=by
 refine den_of (rs:=[(i6 r.1),(i6 r.2)]) (ac:=spec_DegreeOf_c) (L:=spec_DegreeOf_L) (n:=16) (m:=[]) (c:=Try.f97.body.getD .skip) good Try.func97 (by kernel_rfl) (by kernel_rfl) Try.ntmps97 rfl rfl (by kernel_rfl) rfl rfl ?_
 refine ns ⟨[(0,i6 a0),(1,eVb a1)],[]⟩ ?_
 unfold spec_DegreeOf_c
 refine sr (vo 1300 (eVb a1) rfl rfl (vp (i6 0) rfl (vp (i6 0) rfl (nk ⟨[(0,i6 a0),(3,ow 3)],[(3,bk (eVb a1))]⟩ (a_seq (sr (vp (i6 a0) rfl (vl (eVb a1) rfl rfl rfl rfl rfl rfl (vq (.sl 64 true (([a1]).map eVb)) rfl ⟨(Nat.le_of_ble_eq_true rfl),(Nat.le_of_ble_eq_true rfl),(all_cons ⟨(Nat.le_of_ble_eq_true rfl),rfl⟩ all_nil)⟩ ?_)))))))))
 obtain ⟨r2,hr3,h⟩:=bind_some h
 refine a_call (args:=[(i6 a0),(.sl 64 true (([a1]).map eVb))]) (u:=[]) (r:=(i6 r2)) rfl rfl (Den.args (spec_l01Code_ok a0 ([a1]) r2 hr3) rfl rfl (.cons (.refl _) (.cons (.loose _) .nil))) rfl (vp (i6 r2) rfl (nk ⟨[(3,ow 3),(6,i6 r2)],[(3,bk (eVb a1))]⟩ (sr (vp (i6 r2) rfl (vp (.bool (r2 != 0)) rfl (nk ⟨[(3,ow 3),(6,i6 r2),(12,.bool (r2 != 0))],[(3,bk (eVb a1))]⟩ ?_))))))
 cases hb4 : (r2 != 0)
 ·have h:=ite_f hb4 h
  refine a_cond_f rfl (a_skip (nj ⟨[(3,ow 3)],[(3,bk (eVb a1))]⟩ (sr (vl (eVb a1) rfl rfl rfl rfl rfl rfl ?_))))
  obtain ⟨r6,hr7,h⟩:=bind_some h
  refine a_call (args:=[(eVb a1)]) (u:=[]) (r:=(i6 r6)) rfl rfl (spec_l01Deg_ok a1 r6 hr7) rfl (vp (i6 r6) rfl (vp (i6 0) rfl (nx _ rfl (a_ret ?_))))
  refine ⟨.inr rfl,?_⟩
  rw [Try.results97]
  cases h
  exact ⟨_,_,_,_,_,rfl,trivial,.inl ⟨rfl,.inl rfl⟩,rfl,⟨_,_,_,_,_,rfl,trivial,.inl ⟨rfl,.inl rfl⟩,rfl,rfl⟩⟩
 ·have h:=ite_t hb4 h
  refine a_cond_t rfl (sr (vp (i6 r2) rfl (vp (i6 0) rfl (vp (i6 r2) rfl (nx _ rfl (a_ret (t_ret ?_)))))))
  refine ⟨.inr rfl,?_⟩
  rw [Try.results97]
  cases h
  exact ⟨_,_,_,_,_,rfl,trivial,.inl ⟨rfl,.inl rfl⟩,rfl,⟨_,_,_,_,_,rfl,trivial,.inl ⟨rfl,.inl rfl⟩,rfl,rfl⟩⟩
end Go.Proofs.Ytkbnegemdlnncaa
