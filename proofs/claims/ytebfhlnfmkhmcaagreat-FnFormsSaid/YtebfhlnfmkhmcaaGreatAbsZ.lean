/- Short forms of the rules: for every program. -/
import Derived.Test.YtebfhlnfmkhmcaaGreatAbs2
import Derived.KernelRfl
namespace Go.Abs
abbrev i6 (n:Int):AV:=.int .i64 n
abbrev b8 (n:Int):AV:=.int .u8 n
abbrev ow (k:Nat):AV:=.own k [] []
abbrev bk (v:AV):Option Blk:=some ⟨v,false⟩
abbrev bf (v:AV):Option Blk:=some ⟨v,true⟩
abbrev t (n:Nat):Operand:=.tmp n
abbrev q (d:Nat) (op:AO):AOper:=⟨some d,op,none,[]⟩
section
variable {P:Program} {T:Tys} {L:Live} {σ:St} {Q:AEx→St→Prop} {K:St→Prop}
theorem vq {d:Option Nat} {op:AO} {af:List Nat} {os:List AOper} (v:AV) {C:Prop} (h:(qL T (d.getD 0) (jD σ.e) op).run σ.h=.val v [] C) (hC:C) (k:aops P T os (σ.put d v) K):aops P T (⟨d,op,none,af⟩ :: os) σ K:=ztc h hC k
theorem vb {d:Option Nat} {op:AO} {af:List Nat} {os:List AOper} (v:AV) {a b:Nat} (h:(qL T (d.getD 0) (jD σ.e) op).run σ.h=.val v [] (a < b)) (hC:Nat.blt a b=true) (k:aops P T os (σ.put d v) K):aops P T (⟨d,op,none,af⟩ :: os) σ K:=ztc h (Nat.le_of_ble_eq_true hC) k
theorem vu {d:Option Nat} {op:AO} {af:List Nat} {os:List AOper} (v:AV) (u:Upd) {C:Prop} (h:(qL T (d.getD 0) (jD σ.e) op).run σ.h=.val v u C) (hC:C) (hk:zg9 σ u=true) (k:aops P T os ((σ.upd u).put d v) K):aops P T (⟨d,op,none,af⟩ :: os) σ K:=zrw h hC hk k
theorem vo {d:Option Nat} {op:AO} {af:List Nat} {os:List AOper} (id:Nat) (c:AV) (h:(qL T (d.getD 0) (jD σ.e) op).run σ.h=.val (ow id) [(id,bk c)] True) (hk:zg9 σ [(id,bk c)]=true) (k:aops P T os ((σ.upd [(id,bk c)]).put d (ow id)) K):aops P T (⟨d,op,none,af⟩ :: os) σ K:=zrw h trivial hk k
theorem gp {d:Option Nat} {op:AO} {g:Nat} {b:Bool} {af:List Nat} {os:List AOper} (v:AV) (hg:σ.e g=.bool b) (h:(qL T (d.getD 0) (jD σ.e) op).run σ.h=.val v [] True) (k:aops P T os (σ.put d v) K):aops P T (⟨d,op,some (g,b),af⟩ :: os) σ K:=ztm hg h trivial k
theorem gq {d:Option Nat} {op:AO} {g:Nat} {b:Bool} {af:List Nat} {os:List AOper} (v:AV) {C:Prop} (hg:σ.e g=.bool b) (h:(qL T (d.getD 0) (jD σ.e) op).run σ.h=.val v [] C) (hC:C) (k:aops P T os (σ.put d v) K):aops P T (⟨d,op,some (g,b),af⟩ :: os) σ K:=ztm hg h hC k
/-- A whole variable is read. -/
theorem vl {d:Option Nat} {t id:Nat} {a:Operand} {af:List Nat} {os:List AOper} (c:AV) {f:Bool} {i:TyA} (hi:look T t=some i) (ha:jD σ.e a=.own id [] []) (hb:σ.h id=some ⟨c,f⟩) (h1:c.size=i.size) (h2:c.isAgg=i.agg) (h3:c.plain=true) (k:aops P T os (σ.put d c) K):aops P T (⟨d,.load t a,none,af⟩ :: os) σ K :=
 ztc (zM hi ha hb (.nil h1 h2 h3)) (LdOk.c (.nil h1 h2 h3)) k
/-- A whole variable is written. -/
theorem vs {d:Option Nat} {t id:Nat} {a x:Operand} {af:List Nat} {os:List AOper} {c v:AV} (v':AV) {i:TyA} (hi:look T t=some i) (ha:jD σ.e a=.own id [] []) (hx:∀ k,(frz (jD σ.e x) k).run σ.h=(k v []).run σ.h) (hb:σ.h id=some ⟨c,false⟩) (h1:c.size=i.size) (h2:v.size=i.size) (h3:c.plain=true) (h4:loose v=v') (hk:zg9 σ [(id,bk v')]=true)
  (k:aops P T os ((σ.upd [(id,bk v')]).put d .top) K):aops P T (⟨d,.store t a x,none,af⟩ :: os) σ K :=
 zrw (qG hi ha hx hb (.nil h1 h2 h3 h4)) (StOk.c (.nil h1 h2 h3 h4) rfl) hk k
theorem dp {d:Option Nat} {op:AO} {af:List Nat} {os:List AOper} {t:Tk} {ts:List Tk} (v:AV) (h:(qL T (d.getD 0) (jD σ.e) op).run σ.h=.val v [] True) (e:tok T ⟨d,op,none,af⟩ σ (σ.put d v) t=true) (k:aopsT P T os ts (σ.put d v) K):aopsT P T (⟨d,op,none,af⟩ :: os) (t :: ts) σ K:=zH (z1y h (zs7 e k))
theorem dg {d:Option Nat} {op:AO} {g:Nat} {b:Bool} {af:List Nat} {os:List AOper} {t:Tk} {ts:List Tk} (v:AV) (hg:σ.e g=.bool b) (h:(qL T (d.getD 0) (jD σ.e) op).run σ.h=.val v [] True) (e:tok T ⟨d,op,some (g,b),af⟩ σ (σ.put d v) t=true) (k:aopsT P T os ts (σ.put d v) K):aopsT P T (⟨d,op,some (g,b),af⟩ :: os) (t :: ts) σ K:=zH (ztm hg h trivial (zs7 e k))
theorem dk {d:Option Nat} {op:AO} {g:Nat} {b:Bool} {af:List Nat} {os:List AOper} {t:Tk} {ts:List Tk} (hg:σ.e g=.bool (!b)) (e:tok T ⟨d,op,some (g,b),af⟩ σ (σ.put d (.tuple [])) t=true) (k:aopsT P T os ts (σ.put d (.tuple [])) K):aopsT P T (⟨d,op,some (g,b),af⟩ :: os) (t :: ts) σ K:=zH (zD hg (zs7 e k))
theorem sr {id:Nat} {ops:List AOper} {b:ACode} (h:aops P T ops σ (thenK (fun σ'=>acode P T L b (keepFor L b σ') Q) Q .normal)):acode P T L (.seq (.region id ops false) b) σ Q:=yC (zR h)
theorem nx {b:ACode} (σ':St) (e:keepFor L b σ=σ') (h:acode P T L b σ' Q):aops P T [] σ (thenK (fun σ'=>acode P T L b (keepFor L b σ') Q) Q .normal):=yJ (wC e h)
/-! The same with states that are told by the kernel. -/
theorem nk {b:ACode} (σ':St) (h:acode P T L b σ' Q) (e:keepFor L b σ=σ':=by kernel_rfl):aops P T [] σ (thenK (fun σ'=>acode P T L b (keepFor L b σ') Q) Q .normal):=nx σ' e h
theorem nj {b:ACode} (σ':St) (h:acode P T L b σ' Q) (e:keepFor L b σ=σ':=by kernel_rfl):thenK (fun σ'=>acode P T L b (keepFor L b σ') Q) Q .normal σ:=wC e h
theorem ns {c:ACode} (σ':St) (h:acode P T L c σ' Q) (e:σ=σ':=by kernel_rfl):acode P T L c σ Q:=z7y e h
theorem dj {d:Option Nat} {op:AO} {af:List Nat} {os:List AOper} {t:Tk} {ts:List Tk} (v:AV) (h:(qL T (d.getD 0) (jD σ.e) op).run σ.h=.val v [] True) (k:aopsT P T os ts (σ.put d v) K) (e:tok T ⟨d,op,none,af⟩ σ (σ.put d v) t=true:=by kernel_rfl):aopsT P T (⟨d,op,none,af⟩ :: os) (t :: ts) σ K:=dp v h e k
theorem vr {d:Option Nat} {op:AO} {af:List Nat} {os:List AOper} (v:AV) (k:aops P T os (σ.put d v) K) (h:(qL T (d.getD 0) (jD σ.e) op).run σ.h=.val v [] True:=by exact rfl):aops P T (⟨d,op,none,af⟩ :: os) σ K:=z1y h k
theorem dn {o:AOper} {os:List AOper} {t:Tk} {ts:List Tk} {σ0:St} (h:aopsT P T os ts σ K) (e:tok T o σ0 σ t=true:=by kernel_rfl):aops P T [] σ (fun σ'=>tok T o σ0 σ' t=true∧aopsT P T os ts σ' K):=zs7 e h
theorem ca {d:Option Nat} {m:Nat} {fo:Operand} {xs:List Operand} {af:List Nat} {os:List AOper} {f:FuncId} {args:List AV} {r:AV} (den:Den P f args { r:=r }) (k:aops P T os ((σ.upd []).put d r) K) (h:(qL T (d.getD 0) (jD σ.e) (.call m fo xs)).run σ.h=.call f args [] [] True:=by exact rfl) (hm:jJ 0 args=[]:=by exact rfl) (hr:zew 0 r=true:=by exact rfl):aops P T (⟨d,.call m fo xs,none,af⟩ :: os) σ K:=zaa h hm den hr k
theorem ag {a:ACode} {X:St→Prop} {Q:AEx→St→Prop} {σ':St} (h:X σ') (e:keepFor L a σ=σ':=by kernel_rfl):thenK (fun σ=>X (keepFor L a σ)) Q .normal σ:=z3j e h
theorem jl {ι β:Type} {b:ACode} {emb:ι→St} {kG:ι→Prop} {u v:β} (x:ι) (h:some u=some v) (hp:u=v→kG x:=by exact id) (e:keepFor L b σ=emb x:=by kernel_rfl):thenK (fun σ'=>∃ x,kG x∧keepFor L b σ'=emb x) Q .normal σ:=z5d x (hp (Option.some.inj h)) e
end
section
variable {P:Program} {T:Tys}
theorem dd (g : Good P T) {f : FuncId} {fn : Func} (m : List (Nat × Nat)) {L : Live} {n : Nat} {args rs : List AV} (hf : P.funcs[f]? = some fn) (hn : fn.ntmps = n) (hrun : acode P T L (mO m (fn.body.getD .skip)) (jI args) fun ex σ => (ex = .normal ∨ ex = .ret) ∧ Rets T σ fn.results.toList rs) (hb : fn.body = some (fn.body.getD .skip) := by kernel_rfl) (hname : (fn.name == "runtime.NumGoroutine") = false := by kernel_rfl) (hn2 : Nat.ble n 999999 = true := by exact rfl) (hl : Nat.ble args.length n = true := by exact rfl) (hdst : (mO m (fn.body.getD .skip)).dstOk n = true := by kernel_rfl) (hmut : jJ 0 args = [] := by exact rfl) : Den P f args { r := zdg rs } := z4n g hf hb hname hn hn2 hl rfl hdst hmut hrun
end
end Go.Abs
