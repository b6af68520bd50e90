/- Short forms of the rules: for every program. -/
import Derived.Test.YtebfhlnfmkhmcaaAbs2
import Derived.KernelRfl
namespace Go.Abs
abbrev i6 (n : Int) : AV := .int .i64 n
abbrev b8 (n : Int) : AV := .int .u8 n
abbrev ow (k : Nat) : AV := .own k [] []
abbrev bk (v : AV) : Option Blk := some ⟨v, false⟩
abbrev bf (v : AV) : Option Blk := some ⟨v, true⟩
abbrev t (n : Nat) : Operand := .tmp n
abbrev q (d : Nat) (op : AO) : AOper := ⟨some d, op, none, []⟩
section
variable {P : Program} {T : Tys} {L : Live} {σ : St} {Q : AEx → St → Prop} {K : St → Prop}
theorem vp {d : Option Nat} {op : AO} {af : List Nat} {os : List AOper} (v : AV) (h : (aop T (d.getD 0) (opdA σ.e) op).run σ.h = .val v [] True) (k : aops P T os (σ.put d v) K) : aops P T (⟨d, op, none, af⟩ :: os) σ K := a_pure h k
theorem vq {d : Option Nat} {op : AO} {af : List Nat} {os : List AOper} (v : AV) {C : Prop} (h : (aop T (d.getD 0) (opdA σ.e) op).run σ.h = .val v [] C) (hC : C) (k : aops P T os (σ.put d v) K) : aops P T (⟨d, op, none, af⟩ :: os) σ K := a_pureC h hC k
theorem vb {d : Option Nat} {op : AO} {af : List Nat} {os : List AOper} (v : AV) {a b : Nat} (h : (aop T (d.getD 0) (opdA σ.e) op).run σ.h = .val v [] (a < b)) (hC : Nat.blt a b = true) (k : aops P T os (σ.put d v) K) : aops P T (⟨d, op, none, af⟩ :: os) σ K := a_pureC h (Nat.le_of_ble_eq_true hC) k
theorem vu {d : Option Nat} {op : AO} {af : List Nat} {os : List AOper} (v : AV) (u : Upd) {C : Prop} (h : (aop T (d.getD 0) (opdA σ.e) op).run σ.h = .val v u C) (hC : C) (hk : okNew σ u = true) (k : aops P T os ((σ.upd u).put d v) K) : aops P T (⟨d, op, none, af⟩ :: os) σ K := a_val h hC hk k
theorem vo {d : Option Nat} {op : AO} {af : List Nat} {os : List AOper} (id : Nat) (c : AV) (h : (aop T (d.getD 0) (opdA σ.e) op).run σ.h = .val (ow id) [(id, bk c)] True) (hk : okNew σ [(id, bk c)] = true) (k : aops P T os ((σ.upd [(id, bk c)]).put d (ow id)) K) : aops P T (⟨d, op, none, af⟩ :: os) σ K := a_val h trivial hk k
theorem gp {d : Option Nat} {op : AO} {g : Nat} {b : Bool} {af : List Nat} {os : List AOper} (v : AV) (hg : σ.e g = .bool b) (h : (aop T (d.getD 0) (opdA σ.e) op).run σ.h = .val v [] True) (k : aops P T os (σ.put d v) K) : aops P T (⟨d, op, some (g, b), af⟩ :: os) σ K := a_gpure hg h trivial k
theorem gq {d : Option Nat} {op : AO} {g : Nat} {b : Bool} {af : List Nat} {os : List AOper} (v : AV) {C : Prop} (hg : σ.e g = .bool b) (h : (aop T (d.getD 0) (opdA σ.e) op).run σ.h = .val v [] C) (hC : C) (k : aops P T os (σ.put d v) K) : aops P T (⟨d, op, some (g, b), af⟩ :: os) σ K := a_gpure hg h hC k
/-- A whole variable is read. -/
theorem vl {d : Option Nat} {t id : Nat} {a : Operand} {af : List Nat} {os : List AOper} (c : AV) {f : Bool} {i : TyA} (hi : look T t = some i) (ha : opdA σ.e a = .own id [] []) (hb : σ.h id = some ⟨c, f⟩) (h1 : c.size = i.size) (h2 : c.isAgg = i.agg) (h3 : c.plain = true) (k : aops P T os (σ.put d c) K) : aops P T (⟨d, .load t a, none, af⟩ :: os) σ K :=
  a_pureC (ld_own hi ha hb (.nil h1 h2 h3)) (LdOk.c (.nil h1 h2 h3)) k
/-- A whole variable is written. -/
theorem vs {d : Option Nat} {t id : Nat} {a x : Operand} {af : List Nat} {os : List AOper} {c v : AV} (v' : AV) {i : TyA} (hi : look T t = some i) (ha : opdA σ.e a = .own id [] []) (hx : ∀ k, (frz (opdA σ.e x) k).run σ.h = (k v []).run σ.h) (hb : σ.h id = some ⟨c, false⟩) (h1 : c.size = i.size) (h2 : v.size = i.size) (h3 : c.plain = true) (h4 : loose v = v') (hk : okNew σ [(id, bk v')] = true)
    (k : aops P T os ((σ.upd [(id, bk v')]).put d .top) K) : aops P T (⟨d, .store t a x, none, af⟩ :: os) σ K :=
  a_val (st_own hi ha hx hb (.nil h1 h2 h3 h4)) (StOk.c (.nil h1 h2 h3 h4) rfl) hk k
theorem dp {d : Option Nat} {op : AO} {af : List Nat} {os : List AOper} {t : Tk} {ts : List Tk} (v : AV) (h : (aop T (d.getD 0) (opdA σ.e) op).run σ.h = .val v [] True) (e : tok T ⟨d, op, none, af⟩ σ (σ.put d v) t = true) (k : aopsT P T os ts (σ.put d v) K) : aopsT P T (⟨d, op, none, af⟩ :: os) (t :: ts) σ K := d_cons (a_pure h (d_next e k))
theorem sr {id : Nat} {ops : List AOper} {b : ACode} (h : aops P T ops σ (thenK (fun σ' => acode P T L b (keepFor L b σ') Q) Q .normal)) : acode P T L (.seq (.region id ops false) b) σ Q := a_seq (a_region h)
theorem nx {b : ACode} (σ' : St) (e : keepFor L b σ = σ') (h : acode P T L b σ' Q) : aops P T [] σ (thenK (fun σ' => acode P T L b (keepFor L b σ') Q) Q .normal) := a_nil (a_next e h)
/-! The same with states that are told by the kernel. -/
theorem ns {c : ACode} (σ' : St) (h : acode P T L c σ' Q) (e : σ = σ' := by kernel_rfl) : acode P T L c σ Q := a_st e h
end
section
variable {P : Program} {T : Tys}
theorem dd (g : Good P T) {f : FuncId} {fn : Func} (m : List (Nat × Nat)) {L : Live} {n : Nat} {args rs : List AV} (hf : P.funcs[f]? = some fn) (hn : fn.ntmps = n) (hrun : acode P T L (strip m (fn.body.getD .skip)) (entry args) fun ex σ => (ex = .normal ∨ ex = .ret) ∧ Rets T σ fn.results.toList rs) (hb : fn.body = some (fn.body.getD .skip) := by kernel_rfl) (hname : (fn.name == "runtime.NumGoroutine") = false := by kernel_rfl) (hn2 : Nat.ble n 999999 = true := by exact rfl) (hl : Nat.ble args.length n = true := by exact rfl) (hdst : (strip m (fn.body.getD .skip)).dstOk n = true := by kernel_rfl) (hmut : mutIx 0 args = [] := by exact rfl) : Den P f args { r := asResult rs } := den_of g hf hb hname hn hn2 hl rfl hdst hmut hrun
end
end Go.Abs
