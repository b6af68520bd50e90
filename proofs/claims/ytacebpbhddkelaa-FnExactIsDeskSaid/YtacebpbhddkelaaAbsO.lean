/- Abstract runs of operations, regions and code, and contracts of functions. Definitions alone. -/
import Derived.Test.YtacebpbhddkelaaAbsN
namespace Go.Abs

structure St where
  env : List (Nat × AV)
  H : List (Nat × Option Blk)

def St.e (σ : St) (t : Nat) : AV := (look σ.env t).getD .top
def St.h (σ : St) : Hp := fun id => (look σ.H id).getD none
def St.put (σ : St) (d : Option Nat) (v : AV) : St :=
  match d with
  | some d => ⟨(d, v) :: σ.env, σ.H⟩
  | none => σ
def St.upd (σ : St) (u : Upd) : St := ⟨σ.env, u ++ σ.H⟩

/-! ## Contracts -/
def pid (i : Nat) : Nat := 1000000 + i
def fid (j : Nat) : Nat := 2000000 + j

/-- What a call answers: its result (a slice in new memory is `osl (fid j)`), what the arguments that are handed on to be written hold then, and the slices in new memory. -/
structure RV where
  r : AV
  ms : List AV := []
  fs : List (Nat × List AV) := []

def entryE (i : Nat) : AV → AV
  | .mutsl _ _ => .osl (pid i)
  | .mutp _ => .own (pid i) [] []
  | v => v
def entryB : AV → Option Blk
  | .mutsl sz xs => some ⟨.row sz xs, false⟩
  | .mutp c => some ⟨c, false⟩
  | _ => none
def entryH : Nat → List AV → List (Nat × Option Blk)
  | _, [] => []
  | i, v :: vs => match entryB v with
    | some b => (pid i, some b) :: entryH (i + 1) vs
    | none => entryH (i + 1) vs
def entryEnv : Nat → List AV → List (Nat × AV)
  | _, [] => []
  | i, v :: vs => (i, entryE i v) :: entryEnv (i + 1) vs
def entry (args : List AV) : St := ⟨entryEnv 0 args, entryH 0 args⟩

/-- The places of the arguments that are handed on to be written. -/
def mutIx : Nat → List AV → List Nat
  | _, [] => []
  | i, v :: vs => match entryB v with
    | some _ => i :: mutIx (i + 1) vs
    | none => mutIx (i + 1) vs

def fsH : Nat → List (Nat × List AV) → List (Nat × Option Blk)
  | _, [] => []
  | j, (sz, xs) :: fs => (fid j, some ⟨.row sz xs, false⟩) :: fsH (j + 1) fs
def msH : List Nat → List AV → List (Nat × Option Blk)
  | i :: is, c :: cs => (pid i, some ⟨c, false⟩) :: msH is cs
  | _, _ => []
def RV.H (r : RV) (args : List AV) : Hp := fun id => (look (msH (mutIx 0 args) r.ms ++ fsH 0 r.fs) id).getD none

structure Entry (ρ0 : Nat → Option Nat) (B0 : Nat → Prop) (w : World) (args : List AV) (cargs : List Value) : Prop where
  heap : HRel ρ0 (entry args).h B0 (fun k => (∃ id b, (entry args).h id = some b ∧ ρ0 id = some k) ∨ w.heap.size ≤ k) w
  slots : SlotsRel ρ0 (entry args).h (Sof ρ0 (entry args).h B0) w ((entryEnv 0 args).map (·.2)) cargs

structure Out (ρ0 : Nat → Option Nat) (B0 : Nat → Prop) (w : World) (args : List AV) (r : RV) (ρ' : Nat → Option Nat) (w' : World) (v : Value) : Prop where
  heap : HRel ρ' (r.H args) (fun k => B0 k ∨ (w.heap.size ≤ k ∧ k < w'.heap.size)) (fun k => (∃ id b, (entry args).h id = some b ∧ ρ0 id = some k) ∨ w.heap.size ≤ k) w'
  res : SlotRel ρ' (r.H args) (Sof ρ' (r.H args) (fun k => B0 k ∨ (w.heap.size ≤ k ∧ k < w'.heap.size))) w' r.r v
  only : Only (fun k => (∃ id b, (entry args).h id = some b ∧ ρ0 id = some k) ∨ w.heap.size ≤ k) w w'
  pids : ∀ i b, (entry args).h (pid i) = some b → ρ' (pid i) = ρ0 (pid i)

def Callable (P : Program) (f : FuncId) : Prop := ∀ args w, (callFunc f args).run P w = .ok (.enter f args) w

/-- The contract of one call: for every world. -/
def Den (P : Program) (f : FuncId) (args : List AV) (r : RV) : Prop :=
  Callable P f ∧ ∀ ρ0 B0 w cargs, Entry ρ0 B0 w args cargs →
    Calls P f cargs.toArray w fun e w' => ∃ v ρ', e = .returned v ∧ Out ρ0 B0 w args r ρ' w' v

/-! ## Runs -/
def okNew (σ : St) (u : Upd) : Bool :=
  u.all fun q => q.2.isNone || (σ.h q.1).isSome || (Nat.blt q.1 1000000 && σ.env.all fun x => !(x.2.names q.1))

/-- The names of fresh slices in the caller. -/
def renF (d : Nat) : AV → AV
  | .osl id => .osl (nid d (id - 2000000))
  | v => v
def ren (d : Nat) : AV → AV
  | .tuple xs => .tuple (xs.map (renF d))
  | v => renF d v
def fsU (d : Nat) : Nat → List (Nat × List AV) → Upd
  | _, [] => []
  | j, (sz, xs) :: fs => (nid d j, some ⟨.row sz xs, false⟩) :: fsU d (j + 1) fs
def msU : List (Nat × Nat) → List AV → Upd
  | (_, id) :: ms, c :: cs => (id, some ⟨c, false⟩) :: msU ms cs
  | _, _ => []
/-- What was a slice is one as long. -/
def sameShape : AV → AV → Prop
  | .mutsl sz xs, .row sz' xs' => sz' = sz ∧ xs'.length = xs.length
  | .mutp _, .row _ _ => False
  | .mutp _, _ => True
  | _, _ => False
def sameShapes (args : List AV) : List (Nat × Nat) → List AV → Prop
  | [], [] => True
  | (i, _) :: ms, c :: cs => sameShape (nth args i) c ∧ sameShapes args ms cs
  | _, _ => False
def distinct : List Nat → Bool
  | [] => true
  | x :: xs => !(xs.any (Nat.beq x)) && distinct xs
/-- A result is no name but those of its new slices. -/
def okRes (n : Nat) : AV → Bool
  | .osl id => Nat.ble 2000000 id && Nat.blt id (2000000 + n)
  | .own .. => false
  | .tuple _ => false
  | _ => true
def okRess (n : Nat) : AV → Bool
  | .tuple xs => xs.all (okRes n)
  | v => okRes n v

def isCall : AO → Bool
  | .call .. => true
  | _ => false

def isBin : AO → Bool
  | .bin .. => true
  | _ => false

def ev (P : Program) (σ : St) (o : AOper) (K : St → Prop) : Ev → Prop
  | .bad => False
  | .split c v v' => isBin o.op = true ∧ (c → K (σ.put o.dst v)) ∧ K (σ.put o.dst v')
  | .val v u C => C ∧ okNew σ u = true ∧ K ((σ.upd u).put o.dst v)
  | .call f args u ms C => C ∧ isCall o.op = true ∧ ms = [] ∧ mutIx 0 args = [] ∧
      ∃ r, Den P f args r ∧ r.ms = [] ∧ r.fs = [] ∧ okRess 0 r.r = true ∧ K ((σ.upd u).put o.dst r.r)

def astep (P : Program) (T : Tys) (o : AOper) (σ : St) (K : St → Prop) : Prop :=
  match o.guard with
  | none => ev P σ o K ((aop T (o.dst.getD 0) (opdA σ.e) o.op).run σ.h)
  | some (g, want) => match σ.e g with
    | .bool b => if b = want then ev P σ o K ((aop T (o.dst.getD 0) (opdA σ.e) o.op).run σ.h) else K (σ.put o.dst .top)
    | _ => False

def aops (P : Program) (T : Tys) : List AOper → St → (St → Prop) → Prop
  | [], σ, K => K σ
  | o :: os, σ, K => astep P T o σ fun σ' => aops P T os σ' K

/-! ## Which slots live on; names anew -/
def nameOf : AV → Option Nat
  | .own id _ _ => some id
  | .osl id => some id
  | _ => none
def firstName (t : Nat) (m : List (Nat × Nat)) (v : AV) : List (Nat × Nat) :=
  match nameOf v with
  | some id => if Nat.ble 1000000 id || Nat.ble 1000000 t || m.any (fun q => Nat.beq q.2 id) then m else m ++ [(t, id)]
  | none => m
def newName (m : List (Nat × Nat)) (id : Nat) : Option Nat :=
  match m with
  | [] => if Nat.ble 1000000 id then some id else none
  | (n, o) :: m => match Nat.beq o id with
    | true => some n
    | false => newName m id
def rename (m : List (Nat × Nat)) : AV → AV
  | .own id p o => match newName m id with
    | some n => .own n p o
    | none => .top
  | .osl id => match newName m id with
    | some n => .osl n
    | none => .top
  | .tuple _ => .top
  | v => v
def alive (σ : St) : AV → Bool
  | .own id _ _ => (σ.h id).isSome
  | .osl id => (σ.h id).isSome
  | .top => false
  | .tuple _ => false
  | _ => true
def keepEnv (σ : St) : List Nat → List (Nat × AV)
  | [] => []
  | t :: L => match look σ.env t with
    | some v => if alive σ v then (t, v) :: keepEnv σ L else keepEnv σ L
    | none => keepEnv σ L
def keepNames : List (Nat × Nat) → List (Nat × AV) → List (Nat × Nat)
  | m, [] => m
  | m, (t, v) :: env => keepNames (firstName t m v) env
def keepPids (σ : St) : List (Nat × Option Blk) → List Nat → List (Nat × Option Blk)
  | [], _ => []
  | (id, _) :: H, seen => if Nat.ble 1000000 id && !(seen.any (Nat.beq id)) then (id, σ.h id) :: keepPids σ H (id :: seen) else keepPids σ H seen
def St.keep (L : List Nat) (σ : St) : St :=
  let env := keepEnv σ L
  let m := keepNames [] env
  ⟨env.map fun q => (q.1, rename m q.2), (m.map fun q => (q.1, σ.h q.2)) ++ keepPids σ σ.H []⟩

/-! ## Code -/
inductive AEx where
  | normal
  | exit (id : Nat)
  | ret

def headOf : ACode → Option Nat
  | .region id _ _ => some id
  | .seq a _ => headOf a
  | .block _ a => headOf a
  | .loop a => headOf a
  | .cond (.tmp t) _ _ => some (100000 + t)
  | _ => none

abbrev Live := List (Nat × List Nat)
def keepFor (L : Live) (c : ACode) (σ : St) : St :=
  match headOf c with
  | some id => match look L id with
    | some l => σ.keep l
    | none => σ
  | none => σ

/-- All orders that the edges allow come to one end. -/
def dstLt (n : Nat) (o : AOper) : Bool :=
  match o.dst with
  | some d => Nat.blt d n
  | none => true
def ACode.dstOk (n : Nat) : ACode → Bool
  | .region _ ops _ => ops.all (dstLt n)
  | .seq a b => a.dstOk n && b.dstOk n
  | .cond _ a b => a.dstOk n && b.dstOk n
  | .block _ a => a.dstOk n
  | .loop a => a.dstOk n
  | _ => true

def AO.opds : AO → List Operand
  | .mov x => [x]
  | .asg _ x _ => [x]
  | .pick c a b => [c, a, b]
  | .alloc _ => []
  | .box _ x => [x]
  | .build _ ps => ps.map (·.2)
  | .bslice _ _ ps => ps.map (·.2)
  | .load _ a => [a]
  | .store _ a x => [a, x]
  | .nilCheck x => [x]
  | .bin _ _ x y => [x, y]
  | .un _ x => [x]
  | .conv _ _ x => [x]
  | .mkfn _ a b => a ++ b
  | .mkslice _ l c => [l, c]
  | .slice _ x lo hi mx => x :: (lo.toList ++ hi.toList ++ mx.toList)
  | .fieldAddr _ x _ => [x]
  | .field _ x _ => [x]
  | .indexAddr _ x i => [x, i]
  | .index _ x i => [x, i]
  | .extract x _ => [x]
  | .call _ f args => f :: args
  | .blt _ _ args _ => args
  | .other => []
def tmpsOf : List Operand → List Nat
  | [] => []
  | .tmp t :: xs => t :: tmpsOf xs
  | _ :: xs => tmpsOf xs
def AOper.reads (o : AOper) : List Nat := (match o.guard with | some g => [g.1] | none => []) ++ tmpsOf o.op.opds

/-- What is told of an operation in a region whose order is drawn: the blocks that it looks at, those that it changes, those that its value names, and the operations that have run before it in every order. -/
structure Tk where
  R : List Nat
  W : List Nat
  N : List Nat
  A : List Nat
instance : Inhabited Tk := ⟨⟨[], [], [], []⟩⟩
def memN (x : Nat) (l : List Nat) : Bool := l.any (Nat.beq x)
def disj (a b : List Nat) : Bool := a.all fun x => !(memN x b)

def okPair (i : Nat) (o : AOper) (t : Tk) (j : Nat) (o' : AOper) (t' : Tk) : Bool :=
  Nat.beq i j || (
    (match o.dst, o'.dst with | some d, some d' => !(Nat.beq d d') | _, _ => true) &&
    ((bif Nat.blt j i then memN j t.A else memN i t'.A) || ((match o'.dst with | some d => !(memN d o.reads) | none => true) && disj t'.W t.R)) &&
    (!(Nat.blt i j) || memN i t'.A || disj t.W t'.N))
def okDraw (ops : List AOper) (ts : List Tk) : Bool :=
  Nat.beq ops.length ts.length && (List.range ops.length).all fun i => match ops[i]?, ts[i]? with
    | some o, some t => o.after.all (Nat.blt · i) && t.W.all (memN · t.R) && t.A.all (fun x => memN x o.after || o.after.any fun j => memN x (ts.getD j default).A) && (List.range ops.length).all fun j => match ops[j]?, ts[j]? with
      | some o', some t' => okPair i o t j o' t'
      | _, _ => true
    | _, _ => true

def Ask.asks (H : Hp) : Ask → List Nat
  | .ret _ => []
  | .get id k => id :: (k (H id)).asks H
def namesL : AV → List Nat
  | .own id _ _ => [id]
  | .osl id => [id]
  | .tuple xs => all xs
  | _ => []
where all : List AV → List Nat
  | [] => []
  | x :: xs => namesL x ++ all xs
def Ev.noSplit : Ev → Bool
  | .split .. => false
  | _ => true
def tok (T : Tys) (o : AOper) (σ σ' : St) (t : Tk) : Bool :=
  ((aop T (o.dst.getD 0) (opdA σ.e) o.op).run σ.h).noSplit && ((aop T (o.dst.getD 0) (opdA σ.e) o.op).asks σ.h).all (memN · t.R) && ((σ'.H.take (σ'.H.length - σ.H.length)).all fun q => memN q.1 t.W) && (match o.dst with | some d => (namesL (σ'.e d)).all (memN · t.N) | none => true)
def aopsT (P : Program) (T : Tys) : List AOper → List Tk → St → (St → Prop) → Prop
  | [], [], σ, K => K σ
  | o :: os, t :: ts, σ, K => astep P T o σ fun σ' => tok T o σ σ' t = true ∧ aopsT P T os ts σ' K
  | _, _, _, _ => False

def thenK (nb : St → Prop) (Q : AEx → St → Prop) : AEx → St → Prop
  | .normal, σ => nb σ
  | ex, σ => Q ex σ
def blockK (id : Nat) (Q : AEx → St → Prop) : AEx → St → Prop
  | .exit id', σ => if id' = id then Q .normal σ else Q (.exit id') σ
  | ex, σ => Q ex σ

def acode (P : Program) (T : Tys) (L : Live) : ACode → St → (AEx → St → Prop) → Prop
  | .skip, σ, Q => Q .normal σ
  | .region _ ops draw, σ, Q => match draw with
    | false => aops P T ops σ (Q .normal)
    | true => ∃ ts, okDraw ops ts = true ∧ aopsT P T ops ts σ (Q .normal)
  | .seq a b, σ, Q => acode P T L a σ (thenK (fun σ' => acode P T L b (keepFor L b σ') Q) Q)
  | .cond c a b, σ, Q => match opdA σ.e c with
    | .bool true => acode P T L a σ Q
    | .bool false => acode P T L b σ Q
    | _ => False
  | .block id a, σ, Q => acode P T L a σ (blockK id Q)
  | .loop a, σ, Q => ∀ X : St → Prop, (∀ σ', acode P T L a σ' (thenK (fun σ'' => X (keepFor L a σ'')) Q) → X σ') → X (keepFor L a σ)
  | .exit id, σ, Q => Q (.exit id) σ
  | .ret, σ, Q => Q .ret σ
  | .other, _, _ => False

end Go.Abs
