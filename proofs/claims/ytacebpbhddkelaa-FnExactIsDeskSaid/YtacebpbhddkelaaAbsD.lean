/- The abstract operations: what each operation of the model comes to on abstract values; programs stripped of what does not matter. Definitions alone. -/
import Derived.Test.YtacebpbhddkelaaAbsC
namespace Go.Abs

/-! ## Types -/
inductive TyD where
  | int (k : IntKind) | bool | string | ptr (e : Nat) | slice (e : Nat) | arr (n e : Nat) | struct (fs : List (Nat × Nat)) | other

def TyD.of : TypeDesc → TyD
  | .int k => .int k
  | .bool => .bool
  | .string => .string
  | .pointer e => .ptr e
  | .slice e => .slice e
  | .array n e => .arr n e
  | .struct fs => .struct (fs.toList.map fun f => (f.offset, f.type))
  | _ => .other

structure TyA where
  d : TyD
  size : Nat
  bytes : Nat
  zero : AV

def TyD.agg : TyD → Bool
  | .arr .. | .struct .. => true
  | _ => false
def TyA.agg (a : TyA) : Bool := a.d.agg

/-- The cells of a value that lies in no memory. -/
def flat : AV → Option (List Value)
  | .int k n => some [.int k n]
  | .bool b => some [.bool b]
  | .str s => some [.string s]
  | .raw v => if scalar v then some [v] else none
  | .sl _ _ [] => some [.slice none 0 0]
  | .arr sz n xs => if xs.length = n then flats (fun _ => sz) 0 xs else none
  | .struct szs xs => if szs.length = xs.length then flats (fun j => szs.getD j 0) 0 xs else none
  | _ => none
where
  flats (sz : Nat → Nat) : Nat → List AV → Option (List Value)
    | _, [] => some []
    | j, x :: xs => match flat x, flats sz (j + 1) xs with
      | some a, some b => if a.length = sz j then some (a ++ b) else none
      | _, _ => none

structure TyOk (P : Program) (t : Nat) (a : TyA) : Prop where
  under : (P.underlying t).map TyD.of = some a.d
  sizes : (P.info? t).map (fun i => (i.size, i.bytes)) = some (a.size, a.bytes)
  zeroOk : ((P.info? t).bind (·.zero)).map (fun v => v.cells.toList) = flat a.zero
  isOk : (flat a.zero).isSome = true
  zsize : a.zero.size = a.size

abbrev Tys := List (Nat × TyA)

def look {α : Type} : List (Nat × α) → Nat → Option α
  | [], _ => none
  | (j, a) :: t, k => match Nat.beq j k with
    | true => some a
    | false => look t k

def TysOk (P : Program) (T : Tys) : Prop := ∀ t a, look T t = some a → TyOk P t a

/-! ## Programs -/
inductive AO where
  | mov (x : Operand)
  | asg (m : Nat) (x : Operand) (t : Nat)
  | pick (c a b : Operand)
  | alloc (t : Nat)
  | box (t : Nat) (x : Operand)
  | build (t : Nat) (ps : List (Nat × Operand))
  | bslice (t n : Nat) (ps : List (Nat × Operand))
  | load (t : Nat) (a : Operand)
  | store (t : Nat) (a x : Operand)
  | nilCheck (x : Operand)
  | bin (op : BinOp) (t : Nat) (x y : Operand)
  | un (op : UnOp) (x : Operand)
  | conv (s d : Nat) (x : Operand)
  | mkfn (f : FuncId) (first caps : List Operand)
  | mkslice (t : Nat) (l c : Operand)
  | slice (t : Nat) (x : Operand) (lo hi mx : Option Operand)
  | fieldAddr (t : Nat) (x : Operand) (f : Nat)
  | field (t : Nat) (x : Operand) (f : Nat)
  | indexAddr (t : Nat) (x i : Operand)
  | index (t : Nat) (x i : Operand)
  | extract (x : Operand) (i : Nat)
  | call (m : Nat) (f : Operand) (args : List Operand)
  | blt (m : Nat) (b : Builtin) (args : List Operand) (ts : List Nat)
  | other

structure AOper where
  dst : Option Nat
  op : AO
  guard : Option (Nat × Bool)
  after : List Nat

inductive ACode where
  | skip
  | region (id : Nat) (ops : List AOper) (draw : Bool)
  | seq (a b : ACode)
  | cond (c : Operand) (a b : ACode)
  | block (id : Nat) (a : ACode)
  | loop (a : ACode)
  | exit (id : Nat)
  | ret
  | other

def stripOp (m : Nat) (ty : Nat) : Op → AO
  | .move x => .mov x
  | .assign x => .asg m x ty
  | .pick c a b => .pick c a b
  | .alloc t => .alloc t
  | .box t x => .box t x
  | .build t ps => .build t ps.toList
  | .buildSlice t n ps => .bslice t n ps.toList
  | .load t a => .load t a
  | .store t a x => .store t a x
  | .nilCheck x => .nilCheck x
  | .binOp op t x y _ => .bin op t x y
  | .unOp op _ x => .un op x
  | .convert s d x => .conv s d x
  | .makeFunc (.func f) a b => .mkfn f a.toList b.toList
  | .makeSlice t l c => .mkslice t l c
  | .slice t x l h mx => .slice t x l h mx
  | .fieldAddr t x f => .fieldAddr t x f
  | .field t x f => .field t x f
  | .indexAddr t x i => .indexAddr t x i
  | .index t x i => .index t x i
  | .extract x i => .extract x i
  | .call ⟨.value f, args, _⟩ => .call m f args.toList
  | .call ⟨.builtin b, args, ts⟩ => .blt m b args.toList ts.toList
  | _ => .other

/-- m: for each slot that an operation writes, how (0 where it is not listed). -/
def stripOper (m : List (Nat × Nat)) (draw : Bool) (ops : Array Oper) (o : Oper) : AOper where
  dst := o.dst
  op := stripOp ((o.dst.bind (look m)).getD 0) o.type o.op
  guard := o.guard.map fun g => (((ops[g.1]?).bind (·.dst)).getD 999999, g.2)
  after := if draw then (o.after.toList.filter (Region.binds .any)).map (·.on) else []

def strip (m : List (Nat × Nat)) : Code → ACode
  | .skip => .skip
  | .region id ops draw => .region id (ops.toList.map (stripOper m draw ops)) draw
  | .seq a b => .seq (strip m a) (strip m b)
  | .cond c a b => .cond c (strip m a) (strip m b)
  | .block id a => .block id (strip m a)
  | .loop a => .loop (strip m a)
  | .exit id => .exit id
  | .ret => .ret
  | _ => .other

/-! ## What an operation comes to -/
abbrev Upd := List (Nat × Option Blk)

inductive Ev where
  | bad
  | val (v : AV) (u : Upd) (C : Prop)
  | call (f : FuncId) (args : List AV) (u : Upd) (ms : List (Nat × Nat)) (C : Prop)
  /-- The first where c, else the second; nobody can tell which. -/
  | split (c : Prop) (v v' : AV)

inductive Ask where
  | ret (e : Ev)
  | get (id : Nat) (k : Option Blk → Ask)

def Ask.run (H : Hp) : Ask → Ev
  | .ret e => e
  | .get id k => (k (H id)).run H

def ofConst : Value → AV
  | .int k n => .int k n
  | .bool b => .bool b
  | .string s => .str s
  | .slice none 0 0 => .sl 0 true []
  | .agg _ => .top
  | .tuple _ => .top
  | .pointer none => .raw (.pointer none)
  | .nilFunc => .raw .nilFunc
  | _ => .top

def nid (d j : Nat) : Nat := 1000 + 100 * d + j

/-- A name that no block has yet. -/
def fresh (n : Nat) (k : Ask) : Ask := .get n fun
  | none => k
  | some _ => .ret .bad

def loose : AV → AV
  | .sl sz _ xs => .sl sz false xs
  | v => v

/-- What is handed on is written no more. -/
def frz (v : AV) (k : AV → Upd → Ask) : Ask :=
  match v with
  | .osl id => .get id fun
    | some ⟨.row sz xs, _⟩ => k (.sl sz false xs) [(id, some ⟨.row sz xs, true⟩)]
    | _ => .ret .bad
  | .own id p o => .get id fun
    | some ⟨c, _⟩ => k (.ref c p o) [(id, some ⟨c, true⟩)]
    | none => .ret .bad
  | v => if v.plain then k v [] else .ret .bad

def frzAll : List AV → (List AV → Upd → Ask) → Ask
  | [], k => k [] []
  | v :: vs, k => frz v fun v' u => frzAll vs fun vs' u' => k (v' :: vs') (u ++ u')

/-- Arguments: those at the places that m tells are handed on to be written. -/
def frzArgs (m : Nat) : Nat → List AV → (List AV → Upd → List (Nat × Nat) → Ask) → Ask
  | _, [], k => k [] [] []
  | i, v :: vs, k =>
    if m.testBit i then
      match v with
      | .osl id => .get id fun
        | some ⟨.row sz xs, false⟩ => frzArgs m (i + 1) vs fun vs' u ms => k (.mutsl sz xs :: vs') u ((i, id) :: ms)
        | _ => .ret .bad
      | .own id [] [] => .get id fun
        | some ⟨c, false⟩ => frzArgs m (i + 1) vs fun vs' u ms => k (.mutp c :: vs') u ((i, id) :: ms)
        | _ => .ret .bad
      | _ => .ret .bad
    else frz v fun v' u => frzArgs m (i + 1) vs fun vs' u' ms => k (v' :: vs') (u ++ u') ms

def intBin (op : BinOp) (k : IntKind) (a b : Int) : Ev :=
  match op with
  | .add => .val (.int k (k.wrap (a + b))) [] True
  | .sub => .val (.int k (k.wrap (a - b))) [] True
  | .mul => .val (.int k (k.wrap (a * b))) [] True
  | .quo => .val (.int k (k.wrap (a.tdiv b))) [] (b ≠ 0)
  | .rem => .val (.int k (a.tmod b)) [] (b ≠ 0)
  | .and => .val (.int k (k.wrap (BitVec.ofInt k.bits a &&& BitVec.ofInt k.bits b).toNat)) [] True
  | .or => .val (.int k (k.wrap (BitVec.ofInt k.bits a ||| BitVec.ofInt k.bits b).toNat)) [] True
  | .xor => .val (.int k (k.wrap (BitVec.ofInt k.bits a ^^^ BitVec.ofInt k.bits b).toNat)) [] True
  | .eql => .val (.bool (a == b)) [] True
  | .neq => .val (.bool (a != b)) [] True
  | .lss => .val (.bool (decide (a < b))) [] True
  | .leq => .val (.bool (decide (a ≤ b))) [] True
  | .gtr => .val (.bool (decide (a > b))) [] True
  | .geq => .val (.bool (decide (a ≥ b))) [] True
  | _ => .bad

def shBin (op : BinOp) (k : IntKind) (a b : Int) : Ev :=
  match op with
  | .shl => .val (.int k (k.wrap (a * 2 ^ (min b.toNat k.bits)))) [] (¬ b < 0)
  | .shr => .val (.int k (a.fdiv (2 ^ (min b.toNat k.bits)))) [] (¬ b < 0)
  | _ => .bad

def isSh : BinOp → Bool
  | .shl | .shr => true
  | _ => false

/-! Equality of values that lie in no memory. -/
mutual
def eqb : AV → AV → Bool
  | .int _ a, .int _ b => a == b
  | .bool a, .bool b => a == b
  | .arr _ _ xs, .arr _ _ ys => eqbs xs ys
  | .struct _ xs, .struct _ ys => eqbs xs ys
  | _, _ => false
def eqbs : List AV → List AV → Bool
  | x :: xs, y :: ys => eqb x y && eqbs xs ys
  | [], [] => true
  | _, _ => false
end

/-- Two values that '==' of the type t takes. -/
def Cmp (T : Tys) : Nat → Nat → AV → AV → Prop
  | 0, _, _, _ => False
  | d + 1, t, x, y =>
    match look T t with
    | none => False
    | some i => match i.d, x, y with
      | .int _, .int k _, .int k' _ => k = k'
      | .bool, .bool _, .bool _ => True
      | .arr n e, .arr sz m xs, .arr sz' m' ys => m = n ∧ m' = n ∧ sz' = sz ∧ (∃ j, look T e = some j ∧ j.size = sz) ∧ ∀ q, q < n → (nth xs q).isAgg = (nth ys q).isAgg ∧ Cmp T d e (nth xs q) (nth ys q)
      | _, _, _ => False

/-- The fields lie one behind the other, with these sizes. -/
def fieldsOk (T : Tys) : Nat → List (Nat × Nat) → List Nat → Bool
  | _, [], [] => true
  | off, f :: fs, s :: szs => Nat.beq f.1 off && (match look T f.2 with | some i => Nat.beq i.size s | none => false) && fieldsOk T (off + s) fs szs
  | _, _, _ => false

def isNilOp : Operand → Bool
  | .const (.slice none 0 0) => true
  | _ => false

def aop (T : Tys) (d : Nat) (e : Operand → AV) : AO → Ask
  | .mov x => .ret (.val (e x) [] True)
  | .asg m x t =>
    match m with
    | 0 => .ret (.val (e x) [] True)
    | 1 => match e x with
      | .top => .ret .bad
      | .tuple _ => .ret .bad
      | v => match look T t, v with
        | some ⟨.slice el, _, _, _⟩, .sl _ true [] => match look T el with
          | some i => .ret (.val (.sl i.size false []) [] True)
          | none => .ret .bad
        | _, v => frz v fun v' u => .ret (.val (loose v') u True)
    | _ => match look T t, e x with
      | some ⟨.slice el, _, _, _⟩, .sl _ true [] => match look T el with
        | some i => fresh (nid d 0) (.ret (.val (.osl (nid d 0)) [(nid d 0, some ⟨.row i.size [], false⟩)] True))
        | none => .ret .bad
      | _, v => .ret (.val v [] True)
  | .pick c a b => match e c with
    | .bool true => .ret (.val (e a) [] True)
    | .bool false => .ret (.val (e b) [] True)
    | _ => .ret .bad
  | .alloc t => match look T t with
    | some i => fresh (nid d 0) (.ret (.val (.own (nid d 0) [] []) [(nid d 0, some ⟨i.zero, false⟩)] True))
    | none => .ret .bad
  | .box _ x => frz (e x) fun v u => fresh (nid d 0) (.ret (.val (.own (nid d 0) [] []) ((nid d 0, some ⟨v, false⟩) :: u) True))
  | .build t ps => match look T t with
    | some ⟨.struct fs, _, _, .struct szs zs⟩ => frzAll (ps.map fun p => e p.2) fun vs u =>
        .ret (.val (.struct szs (((ps.map (·.1)).zip vs).foldl (fun l p => l.set p.1 (loose p.2)) zs)) u (fieldsOk T 0 fs szs = true ∧ ∀ p ∈ (ps.map (·.1)).zip vs, p.1 < zs.length ∧ p.2.size = szs.getD p.1 0))
    | some ⟨.arr _ el, _, _, .arr sz n zs⟩ => frzAll (ps.map fun p => e p.2) fun vs u =>
        .ret (.val (.arr sz n (((ps.map (·.1)).zip vs).foldl (fun l p => l.set p.1 (loose p.2)) zs)) u ((∃ i, look T el = some i ∧ i.size = sz) ∧ ∀ p ∈ (ps.map (·.1)).zip vs, p.1 < zs.length ∧ p.2.size = sz))
    | _ => .ret .bad
  | .bslice t n ps => match look T t with
    | some ⟨.slice el, _, _, _⟩ => match look T el with
      | some i => frzAll (ps.map fun p => e p.2) fun vs u =>
        .ret (.val (.sl i.size true (((ps.map (·.1)).zip vs).foldl (fun l p => l.set p.1 (loose p.2)) (List.replicate n i.zero))) u (n * i.size ≤ 16777216 ∧ 0 < i.size ∧ ∀ p ∈ (ps.map (·.1)).zip vs, p.1 < n ∧ p.2.size = i.size))
      | none => .ret .bad
    | _ => .ret .bad
  | .load t a => match look T t with
    | none => .ret .bad
    | some i => match e a with
      | .own id p o => .get id fun
        | some ⟨c, _⟩ => .ret (.val (atP p c) [] (hasP p c ∧ offs p c = o ∧ szAt p c = i.size ∧ (atP p c).isAgg = i.agg ∧ (atP p c).plain = true))
        | none => .ret .bad
      | .ref c p o => .ret (.val (atP p c) [] (hasP p c ∧ offs p c = o ∧ szAt p c = i.size ∧ (atP p c).isAgg = i.agg ∧ (atP p c).plain = true))
      | _ => .ret .bad
  | .store t a x => match look T t with
    | none => .ret .bad
    | some i => match e a with
      | .own id p o => frz (e x) fun v u => .get id fun
        | some ⟨c, false⟩ => .ret (.val .top ((id, some ⟨putP p c (loose v), false⟩) :: u) (hasP p c ∧ offs p c = o ∧ szAt p c = i.size ∧ v.size = i.size ∧ u.all (fun q => q.1 != id) = true ∧ (!p.isEmpty || c.plain) = true))
        | _ => .ret .bad
      | _ => .ret .bad
  | .nilCheck x => match e x with
    | .own id p o => .get id fun
      | some _ => .ret (.val (.own id p o) [] True)
      | none => .ret .bad
    | .ref v p o => .ret (.val (.ref v p o) [] True)
    | _ => .ret .bad
  | .bin op t x y => match isNilOp y, e x, look T t with
    | true, .sl _ _ xs, some ⟨.slice _, _, _, _⟩ => match op with
      | .eql => .ret (.split (xs = []) (.bool true) (.bool false))
      | .neq => .ret (.split (xs = []) (.bool false) (.bool true))
      | _ => .ret .bad
    | _, _, _ => match e x, e y with
        | .int k a, .int k' b => if isSh op then .ret (shBin op k a b) else if k = k' then .ret (intBin op k a b) else .ret .bad
        | .bool a, .bool b => match look T t, op with
          | some ⟨.bool, _, _, _⟩, .eql => .ret (.val (.bool (a == b)) [] True)
          | some ⟨.bool, _, _, _⟩, .neq => .ret (.val (.bool (!(a == b))) [] True)
          | _, _ => .ret .bad
        | .arr sz n xs, .arr sz' n' ys => match op with
          | .eql => .ret (.val (.bool (eqb (.arr sz n xs) (.arr sz' n' ys))) [] (Cmp T 9 t (.arr sz n xs) (.arr sz' n' ys)))
          | .neq => .ret (.val (.bool (!(eqb (.arr sz n xs) (.arr sz' n' ys)))) [] (Cmp T 9 t (.arr sz n xs) (.arr sz' n' ys)))
          | _ => .ret .bad
        | _, _ => .ret .bad
  | .un op x => match op, e x with
    | .neg, .int k n => .ret (.val (.int k (k.wrap (0 - n))) [] True)
    | .not, .bool b => .ret (.val (.bool (!b)) [] True)
    | _, _ => .ret .bad
  | .conv st dt x => match look T st, look T dt, e x with
    | some _, some ⟨.int k, _, _, _⟩, .int _ n => .ret (.val (.int k (k.wrap n)) [] True)
    | _, _, _ => .ret .bad
  | .mkfn f first caps => frzAll (first.map e) fun a u => frzAll (caps.map e) fun b u' => .ret (.val (.clo f a b) (u ++ u') ((∀ x ∈ a, x.size = 1 ∧ x.isAgg = false) ∧ ∀ x ∈ b, x.size = 1 ∧ x.isAgg = false))
  | .mkslice t l c => match look T t with
    | some ⟨.slice el, _, _, _⟩ => match look T el with
      | some i => match e l, e c with
        | .int _ n, .int _ m => fresh (nid d 0) (.ret (.val (.osl (nid d 0)) [(nid d 0, some ⟨.row i.size (List.replicate n.toNat i.zero), false⟩)] (m = n ∧ 0 ≤ n ∧ n ≤ 140737488355328 ∧ i.bytes * n ≤ 140737488355328 ∧ 0 < i.size)))
        | _, _ => .ret .bad
      | none => .ret .bad
    | _ => .ret .bad
  | .slice t x lo hi mx => match look T t with
    | some ⟨.slice el, _, _, _⟩ => match look T el with
      | some i => frz (e x) fun v u => match v, lo.map e, hi.map e, mx.map e with
        | .sl sz _ xs, none, some (.int _ h), none => .ret (.val (.sl sz false (xs.take h.toNat)) u (0 ≤ h ∧ h ≤ xs.length))
        | .sl sz _ xs, none, some (.int _ h), some (.int _ m) => .ret (.val (.sl sz true (xs.take h.toNat)) u (0 ≤ h ∧ h ≤ xs.length ∧ m = h))
        | .sl sz _ xs, some (.int _ l), none, none => .ret (.val (.sl sz false (xs.drop l.toNat)) u (0 ≤ l ∧ l ≤ xs.length ∧ sz = i.size))
        | .sl sz _ xs, some (.int _ l), some (.int _ h), none => .ret (.val (.sl sz false ((xs.take h.toNat).drop l.toNat)) u (0 ≤ l ∧ l ≤ h ∧ h ≤ xs.length ∧ sz = i.size))
        | _, _, _, _ => .ret .bad
      | none => .ret .bad
    | some ⟨.arr n el, _, _, _⟩ => match look T el, lo, hi, mx with
      | some i, none, none, none => frz (e x) fun v u => match v with
        | .ref c p o => match atP p c with
          | .arr sz m xs => .ret (.val (.sl sz true xs) u (m = n ∧ hasP p c ∧ offs p c = o ∧ sz = i.size))
          | _ => .ret .bad
        | _ => .ret .bad
      | _, _, _, _ => .ret .bad
    | _ => .ret .bad
  | .fieldAddr t x f => match look T t with
    | some ⟨.struct fs, _, _, _⟩ => match fs[f]? with
      | some (off, ft) => match look T ft with
        | some i => match e x with
          | .own id p o => .get id fun
            | some _ => .ret (.val (.own id (p ++ [f]) (o ++ [off])) [] (0 < i.size))
            | none => .ret .bad
          | .ref v p o => .ret (.val (.ref v (p ++ [f]) (o ++ [off])) [] (0 < i.size))
          | _ => .ret .bad
        | none => .ret .bad
      | none => .ret .bad
    | _ => .ret .bad
  | .field t x f => match look T t with
    | some ⟨.struct fs, _, _, _⟩ => match fs[f]? with
      | some (off, ft) => match look T ft with
        | some i => match e x with
          | .struct szs xs => .ret (.val (nth xs f) [] (f < xs.length ∧ off = (szs.take f).sum ∧ szs.getD f 0 = i.size ∧ (nth xs f).isAgg = i.agg ∧ (nth xs f).plain = true))
          | _ => .ret .bad
        | none => .ret .bad
      | none => .ret .bad
    | _ => .ret .bad
  | .indexAddr t x ix => match e ix with
    | .int _ j => match look T t with
      | some ⟨.arr n el, _, _, _⟩ => match look T el, e x with
        | some i, .own id p o => .get id fun
          | some _ => .ret (.val (.own id (p ++ [j.toNat]) (o ++ [j.toNat * i.size])) [] (0 ≤ j ∧ j < n))
          | none => .ret .bad
        | some i, .ref v p o => .ret (.val (.ref v (p ++ [j.toNat]) (o ++ [j.toNat * i.size])) [] (0 ≤ j ∧ j < n))
        | _, _ => .ret .bad
      | some ⟨.slice el, _, _, _⟩ => match look T el, e x with
        | some i, .sl sz _ xs => .ret (.val (.ref (.row sz xs) [j.toNat] [j.toNat * i.size]) [] (0 ≤ j ∧ j < xs.length))
        | some i, .osl id => .get id fun
          | some ⟨.row _ xs, _⟩ => .ret (.val (.own id [j.toNat] [j.toNat * i.size]) [] (0 ≤ j ∧ j < xs.length))
          | _ => .ret .bad
        | _, _ => .ret .bad
      | _ => .ret .bad
    | _ => .ret .bad
  | .index t x ix => match e ix with
    | .int _ j => match look T t with
      | some ⟨.arr n el, _, _, _⟩ => match look T el, e x with
        | some i, .arr sz m xs => .ret (.val (nth xs j.toNat) [] (0 ≤ j ∧ j < n ∧ m = n ∧ sz = i.size ∧ (nth xs j.toNat).isAgg = i.agg ∧ (nth xs j.toNat).plain = true))
        | _, _ => .ret .bad
      | some ⟨.string, _, _, _⟩ => match e x with
        | .str s => .ret (.val (.int .u8 (((s.data.toList.getD j.toNat 0).toNat : Nat) : Int)) [] (0 ≤ j ∧ j < s.size))
        | _ => .ret .bad
      | _ => .ret .bad
    | _ => .ret .bad
  | .extract x i => match e x with
    | .tuple xs => .ret (.val (nth xs i) [] (i < xs.length))
    | _ => .ret .bad
  | .call m f args => match e f with
    | .clo g first caps => frzArgs m 0 (args.map e) fun as u ms => .ret (.call g (first ++ as ++ caps) u (ms.map fun p => (p.1 + first.length, p.2)) True)
    | _ => .ret .bad
  | .blt m b args ts => match b, args.map e, ts with
    | .len, [v], [t] => match look T t with
      | some ⟨.slice _, _, _, _⟩ => match v with
        | .sl _ _ xs => .ret (.val (.int .i64 (xs.length : Nat)) [] True)
        | .osl id => .get id fun
          | some ⟨.row _ xs, _⟩ => .ret (.val (.int .i64 (xs.length : Nat)) [] True)
          | _ => .ret .bad
        | _ => .ret .bad
      | some ⟨.string, _, _, _⟩ => match v with
        | .str s => .ret (.val (.int .i64 (s.size : Nat)) [] True)
        | _ => .ret .bad
      | _ => .ret .bad
    | .max, [.int k a, .int _ b], _ => .ret (.val (.int k (if b > a then b else a)) [] True)
    | .min, [.int k a, .int _ b], _ => .ret (.val (.int k (if b < a then b else a)) [] True)
    | .append, [s, x], [t, t2] => match look T t, look T t2 with
      | some ⟨.slice el, _, _, _⟩, some ⟨.slice _, _, _, _⟩ => match look T el with
        | some i => frz x fun x' u => match x' with
          | .sl sz _ ys => match s with
            | .sl sz' true xs => match m with
              | 0 => fresh (nid d 0) (.ret (.val (.osl (nid d 0)) ((nid d 0, some ⟨.row i.size (xs ++ ys), false⟩) :: u) ((xs = [] ∨ ys ≠ []) ∧ (xs = [] ∨ sz' = i.size) ∧ (ys = [] ∨ sz = i.size) ∧ (xs.length + ys.length) * i.bytes ≤ 140737488355328 ∧ 0 < i.bytes ∧ 0 < i.size)))
              | _ => .ret (.val (.sl i.size false (xs ++ ys)) u ((xs = [] ∨ sz' = i.size) ∧ (ys = [] ∨ sz = i.size) ∧ (xs.length + ys.length) * i.bytes ≤ 140737488355328 ∧ 0 < i.bytes ∧ 0 < i.size))
            | .osl id => .get id fun
              | some ⟨.row sz' xs, false⟩ => fresh (nid d 0) (.ret (.val (.osl (nid d 0)) ((nid d 0, some ⟨.row i.size (xs ++ ys), false⟩) :: (id, none) :: u) (sz' = i.size ∧ (ys = [] ∨ sz = i.size) ∧ (xs.length + ys.length) * i.bytes ≤ 140737488355328 ∧ 0 < i.bytes ∧ 0 < i.size ∧ u.all (fun q => q.1 != id) = true)))
              | _ => .ret .bad
            | _ => .ret .bad
          | _ => .ret .bad
        | none => .ret .bad
      | _, _ => .ret .bad
    | _, _, _ => .ret .bad
  | .other => .ret .bad

end Go.Abs
