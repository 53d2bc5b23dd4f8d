/- A machine over data: values, memory of its own, and a reckoner of Go's code on them; what it says is carried over to the program (the texts behind this one). -/
import Derived.Tactics
import Derived.Below
import Derived.Deep.Quiet
import Derived.Laws.AppendOwn
import Derived.StillTail
import Derived.Laws.BytesArg
namespace Go.Am
open Go.RowKit
noncomputable section

/-- The kinds of elements: a Go type each, and the Lean type that they read as. -/
structure Kinds where
  Kc : Type
  deq : DecidableEq Kc
  ty : Kc → Type
  elem : Kc → TypeId
  sz : Kc → Nat
  bytes : Kc → Nat

instance {κ : Kinds} : DecidableEq κ.Kc := κ.deq

inductive AV (κ : Kinds) where
  | bot
  | val (v : Value)
  | agg (cs : List (AV κ))
  | tup (vs : List (AV κ))
  | ro (k : κ.Kc) (xs : List (κ.ty k))
  | rop (cs : List (AV κ))
  | arr (k : κ.Kc) (xs : List (κ.ty k))
  | tab (k : κ.Kc) (xs : List (κ.ty k))
  | own (k : κ.Kc) (i : Nat)
  | ptr (i off : Nat)
  | ptrE (k : κ.Kc) (i row col : Nat)
  | optr (i : Nat)
  | fn (f : FuncId) (caps : List (AV κ))

inductive Blk (κ : Kinds) where
  | dead
  | raw (t : TypeId) (cs : List (AV κ))
  | rows (k : κ.Kc) (xs : List (κ.ty k))

structure Encs (κ : Kinds) where
  enc : (k : κ.Kc) → κ.ty k → List (AV κ)
  dec : (k : κ.Kc) → List (AV κ) → Option (κ.ty k)
  dflt : (k : κ.Kc) → κ.ty k
  byte : (k : κ.Kc) → Option (κ.ty k → Int)

variable {κ : Kinds}

def AV.flat : AV κ → Bool
  | .val v => v.oneCell'
  | .ro _ _ => true
  | _ => false
def AV.one : AV κ → Bool
  | .val v => v.oneCell'
  | .bot | .agg _ | .tup _ | .arr _ _ => false
  | _ => true

structure Encs.Ok (E : Encs κ) : Prop where
  len : ∀ k x, (E.enc k x).length = κ.sz k
  put : ∀ k cs x, E.dec k cs = some x → E.enc k x = cs
  flat : ∀ k x c, c ∈ E.enc k x → c.flat = true
  pos : ∀ k, 0 < κ.sz k
  byte : ∀ k f x, E.byte k = some f → E.enc k x = [.val (.int .u8 (f x))]

def AV.cells : AV κ → List (AV κ)
  | .agg cs => cs
  | v => [v]

mutual
def AV.kill (i : Nat) : AV κ → AV κ
  | .own k j => if j = i then .bot else .own k j
  | .ptr j o => if j = i then .bot else .ptr j o
  | .ptrE k j r c => if j = i then .bot else .ptrE k j r c
  | .optr j => if j = i then .bot else .optr j
  | .agg cs => .agg (killL i cs)
  | .tup cs => .tup (killL i cs)
  | .fn f cs => .fn f (killL i cs)
  | .rop cs => .rop (killL i cs)
  | v => v
def killL (i : Nat) : List (AV κ) → List (AV κ)
  | [] => []
  | c :: cs => c.kill i :: killL i cs
end

def Blk.kill (i : Nat) : Blk κ → Blk κ
  | .raw t cs => .raw t (killL i cs)
  | b => b

structure St (κ : Kinds) where
  env : List (AV κ)
  S : List (Blk κ)
  al : List (Nat × Nat)

inductive Ex where
  | normal
  | exit (id : Nat)
  | ret
  deriving DecidableEq

def Ex.to : Ex → Exit
  | .normal => .normal
  | .exit i => .exit i
  | .ret => .ret

/-- A constant as a value of the machine. -/
def lift : Value → AV κ
  | .agg cs => .agg (cs.toList.map .val)
  | .func (.func f) ⟨[]⟩ cs => .fn f (cs.toList.map .val)
  | v => .val v

/-- Of some blocks only pointers (1), only slices (2) or nothing is known any more. -/
def kwO (m : List (Nat × Nat)) (i : Nat) : Bool := match m.lookup i with | none => true | some n => n == 2
def kwP (m : List (Nat × Nat)) (i : Nat) : Bool := match m.lookup i with | none => true | some n => n == 1
mutual
def AV.kw (m : List (Nat × Nat)) : AV κ → AV κ
  | .own k i => if kwO m i = true then .own k i else .bot
  | .ptr i o => if kwP m i = true then .ptr i o else .bot
  | .ptrE k i r c => if kwO m i = true then .ptrE k i r c else .bot
  | .optr i => if kwP m i = true then .optr i else .bot
  | .agg cs => .agg (kwL m cs)
  | .tup cs => .tup (kwL m cs)
  | .fn f cs => .fn f (kwL m cs)
  | .rop cs => .rop (kwL m cs)
  | v => v
def kwL (m : List (Nat × Nat)) : List (AV κ) → List (AV κ)
  | [] => []
  | c :: cs => c.kw m :: kwL m cs
end
def Blk.kw (m : List (Nat × Nat)) : Blk κ → Blk κ
  | .raw t cs => .raw t (kwL m cs)
  | b => b
def kwE (m : List (Nat × Nat)) (e : List (AV κ)) : List (AV κ) := match m with | [] => e | p :: m => kwL (p :: m) e
abbrev Ent (κ : Kinds) := ∀ {β : Type}, List (AV κ) → List (Blk κ) → (AV κ → List (Blk κ) → List (Nat × Nat) → Option β) → Option β
/-- A callee that hands back a scalar and leaves memory alone: it may stand where the order is open. -/
abbrev QEnt (κ : Kinds) := ∀ {β : Type}, List (AV κ) → List (Blk κ) → (AV κ → Option β) → Option β
abbrev Lam (κ : Kinds) := ∀ {β : Type}, St κ → (Ex → St κ → Option β) → Option β

/-- What the reckoner is given: the program, the readings, the variables of packages, the callees' and the loops' summaries. -/
structure Ctx (κ : Kinds) where
  P : Program
  E : Encs κ
  glob : Nat → AV κ
  Γ : FuncId → Ent κ
  Γq : FuncId → QEnt κ
  Λ : Nat → Lam κ

def St.get (s : St κ) (t : Nat) : AV κ := s.env.getD t .bot

def ev (C : Ctx κ) (s : St κ) : Operand → AV κ
  | .tmp t => s.env.getD t .bot
  | .const v => lift v
  | .global g => C.glob g
  | .func f => .fn f []

/-- The temporaries that hold the same as t. -/
def alike (t : Nat) : List (Nat × Nat) → List Nat
  | [] => [t]
  | (d, u) :: al =>
    let S := alike t al
    if S.contains u then d :: S else if S.contains d then u :: S else S

def setAll (v : AV κ) : List Nat → List (AV κ) → List (AV κ)
  | [], e => e
  | t :: ts, e => setAll v ts (e.set t v)

def St.refine (s : St κ) (t : Nat) (b : Bool) : St κ := { s with env := setAll (.val (.bool b)) (alike t s.al) s.env }

def isBool : AV κ → Bool
  | .val (.bool _) => true
  | _ => false

def St.put (s : St κ) (o : Oper) (v : AV κ) : St κ :=
  match o.dst with
  | none => s
  | some d =>
    let al := s.al.filter fun p => p.1 != d && p.2 != d
    { s with env := s.env.set d v, al := match o.op with
      | .move (.tmp t) => if isBool v && t != d && decide (d < s.env.length) then (d, t) :: al else al
      | _ => al }

def sizeOf? (P : Program) (t : TypeId) : Nat := ((P.info? t).map (·.size)).getD 0

/-- What lies at the begin of these cells, as a value of type t. -/
def part? (P : Program) (t : TypeId) (cs : List (AV κ)) : Option (AV κ) :=
  match P.underlying t, P.info? t with
  | some (.struct _), some i | some (.array _ _), some i => if i.size ≤ cs.length then some (.agg (cs.take i.size)) else none
  | some _, some _ => cs.head?
  | _, _ => none

def upd {α : Type} : List α → Nat → List α → List α
  | cs, _, [] => cs
  | cs, off, v :: vs => upd (cs.set off v) (off + 1) vs

/-- The cells from a pointer on. -/
def cellsAt (E : Encs κ) (S : List (Blk κ)) : AV κ → Option (List (AV κ))
  | .rop cs => some cs
  | .ptr i off => match S[i]? with
    | some (.raw _ cs) => some (cs.drop off)
    | _ => none
  | .ptrE k i row col => match S[i]? with
    | some (.rows k' xs) => if h : k' = k then some ((E.enc k ((h ▸ xs : List (κ.ty k)).getD row (E.dflt k))).drop col) else none
    | _ => none
  | _ => none

/-- Scalars alone: what a bare run of the model's own operation gives. -/
def pureRun {α : Type} (P : Program) : Sem α → Option α
  | .pure a => some a
  | .program k => pureRun P (k P)
  | _ => none

def bt (s : ByteArray) (i : Int) : Int := ((s.data.getD i.toNat 0).toNat : Int)
def quo (k : IntKind) (a b : Int) : Int := k.wrap (a.tdiv b)
def rem (a b : Int) : Int := a.tmod b
def shl (k : IntKind) (a b : Int) : Int := k.wrap (a * 2 ^ min b.toNat k.bits)
def shr (k : IntKind) (a b : Int) : Int := a.fdiv (2 ^ min b.toNat k.bits)

def capBytes : Nat := 140737488355328
structure TooLong (n : Nat) : Prop where
  h : (n : Int) > IntKind.i64.max
structure HasRoom (n : Nat) : Prop where
  h : n ≤ capBytes
/-- Whether a string is too long, whether a row has room: questions that no reckoning answers by itself. -/
def tooLong {β : Type} (n : Nat) (K : Option β) : Option β := @ite _ (TooLong n) (Classical.propDecidable _) none K
def room {β : Type} (n : Nat) (K : Option β) : Option β := @ite _ (HasRoom n) (Classical.propDecidable _) K none
theorem tooLong_some {β : Type} {n : Nat} {K : Option β} {r : β} : tooLong n K = some r ↔ ¬ (n : Int) > IntKind.i64.max ∧ K = some r := by
  unfold tooLong
  split
  · rename_i h; exact ⟨fun h => (by cases h), fun h' => absurd h.h h'.1⟩
  · rename_i h; exact ⟨fun h' => ⟨fun h2 => h ⟨h2⟩, h'⟩, fun h' => h'.2⟩
theorem room_some {β : Type} {n : Nat} {K : Option β} {r : β} : room n K = some r ↔ n ≤ capBytes ∧ K = some r := by
  unfold room
  split
  · rename_i h; exact ⟨fun h' => ⟨h.h, h'⟩, fun h' => h'.2⟩
  · rename_i h; exact ⟨fun h => (by cases h), fun h' => absurd ⟨h'.1⟩ h⟩
theorem room_ite {β : Type} (n : Nat) (K : Option β) : room n K = @ite _ (n ≤ capBytes) (Classical.propDecidable _) K none := by
  unfold room
  split
  · rename_i h; exact (if_pos h.h).symm
  · rename_i h; exact (if_neg fun h' => h ⟨h'⟩).symm
theorem tooLong_pos {β : Type} {n : Nat} {K : Option β} (h : ¬ (n : Int) > IntKind.i64.max) : tooLong n K = K := by
  unfold tooLong; exact if_neg fun h' => h h'.h
theorem room_pos {β : Type} {n : Nat} {K : Option β} (h : n ≤ capBytes) : room n K = K := by
  unfold room; exact if_pos ⟨h⟩

/-- An operation between two scalars. -/
def bin? {β : Type} (P : Program) (op : BinOp) (t : TypeId) (x y : Operand) (a b : Value) (K : AV κ → Option β) : Option β :=
  match op, a, b with
  | .quo, .int k m, .int k' n => if k = k' then (if n = 0 then none else K (.val (.int k (quo k m n)))) else none
  | .rem, .int k m, .int k' n => if k = k' then (if n = 0 then none else K (.val (.int k (rem m n)))) else none
  | .shl, .int k m, .int _ n => if n < 0 then none else K (.val (.int k (shl k m n)))
  | .shr, .int k m, .int _ n => if n < 0 then none else K (.val (.int k (shr k m n)))
  | .add, .string m, .string n => tooLong (m.size + n.size) (K (.val (.string (m ++ n))))
  | _, .agg _, _ => none
  | _, _, _ => match pureRun P (do eqGuard op t x y a b; binOp op t a b) with
    | some v => K (.val v)
    | none => none

/-- Whether two scalars are equal, and two structs of scalars. -/
def eqV (P : Program) (t : TypeId) : Value → Value → Option Bool
  | .int k a, .int k' b => match P.underlying t with
    | some (.int _) => if k = k' then some (a == b) else none
    | _ => none
  | .bool a, .bool b => match P.underlying t with
    | some .bool => some (a == b)
    | _ => none
  | .string a, .string b => match P.underlying t with
    | some .string => some (a.toList == b.toList)
    | _ => none
  | _, _ => none
def eqF (P : Program) (cs ds : List (AV κ)) : List Field → Option Bool
  | [] => some true
  | f :: fs => if f.name ≠ "_" then (match part? P f.type (cs.drop f.offset), part? P f.type (ds.drop f.offset), eqF P cs ds fs with
      | some (.val a), some (.val b), some r => match eqV P f.type a b with
        | some e => some (e && r)
        | none => none
      | _, _, _ => none) else eqF P cs ds fs
def binA? {β : Type} (P : Program) (op : BinOp) (t : TypeId) (cs ds : List (AV κ)) (K : AV κ → Option β) : Option β :=
  if P.eqGuardType P.depth t = false ∧ P.stoodInHeld t = false then (match P.underlying t with
    | some (.struct fs) => match eqF P cs ds fs.toList with
      | some r => match op with
        | .eql => K (.val (.bool r))
        | .neq => K (.val (.bool (!r)))
        | _ => none
      | none => none
    | _ => none) else none

/-- The parts of a literal, laid over the zero value's cells. -/
def fillA (place : Nat → Option (Nat × Nat)) (cells : List (AV κ)) : List (Nat × AV κ) → Option (List (AV κ))
  | [] => some cells
  | (i, v) :: rest => match place i with
    | none => none
    | some (off, size) => if v.cells.length = size ∧ off + size ≤ cells.length ∧ v.cells.all AV.one = true then fillA place (upd cells off v.cells) rest else none

def builtA (P : Program) (t : TypeId) (parts : List (Nat × AV κ)) : Option (List (AV κ)) :=
  match P.info? t, P.underlying t with
  | some it, some (.array _ e) => match it.zero, P.info? e with
    | some z, some ie => fillA (fun i => some (i * ie.size, ie.size)) (z.cells.toList.map .val) parts
    | _, _ => none
  | some it, some (.struct fields) => match it.zero, fields.toList.mapM (fun f => (P.info? f.type).map fun i => (f.offset, i.size)) with
    | some z, some places => fillA (places[·]?) (z.cells.toList.map .val) parts
    | _, _ => none
  | _, _ => none

def zeroCells? (P : Program) (t : TypeId) : Option (List (AV κ)) :=
  match (P.info? t).bind (·.zero) with
  | some z => some (z.cells.toList.map .val)
  | none => none

/-- One of the numbers from j on. -/
def caseK {β : Type} (i : Int) (f : Nat → Option β) : Nat → Nat → Option β
  | 0, _ => none
  | m + 1, j => if i = (j : Int) then f j else caseK i f m (j + 1)

/-- Operations that leave memory alone. -/
def quiet? {β : Type} (C : Ctx κ) (o : Oper) (s : St κ) (K : AV κ → Option β) : Option β :=
  match o.op with
  | .build t parts => match builtA C.P t (parts.toList.map fun p => (p.1, ev C s p.2)) with
    | some cs => K (.agg cs)
    | none => none
  | .makeFunc (.func f) first caps => if first.size = 0 then K (.fn f (caps.toList.map (ev C s))) else none
  | .slice t x lo hi none => match C.P.underlying t, ev C s x with
    | some .string, .val (.string b) => match lo, hi with
      | none, some h => match ev C s h with
        | .val (.int _ h) => if 0 ≤ h ∧ h ≤ (b.size : Int) then K (.val (.string (b.extract 0 h.toNat))) else none
        | _ => none
      | some l, none => match ev C s l with
        | .val (.int _ l) => if 0 ≤ l ∧ l ≤ (b.size : Int) then K (.val (.string (b.extract l.toNat b.size))) else none
        | _ => none
      | some l, some h => match ev C s l, ev C s h with
        | .val (.int _ l), .val (.int _ h) => if h ≤ (b.size : Int) ∧ 0 ≤ l ∧ l ≤ h then K (.val (.string (b.extract l.toNat h.toNat))) else none
        | _, _ => none
      | none, none => none
    | some (.slice e), .ro k xs => if sizeOf? C.P e = κ.sz k then (match lo, hi with
      | none, some h => match ev C s h with
        | .val (.int _ h) => if 0 ≤ h ∧ h ≤ (xs.length : Int) then K (.ro k (xs.take h.toNat)) else none
        | _ => none
      | some l, none => match ev C s l with
        | .val (.int _ l) => if 0 ≤ l ∧ l ≤ (xs.length : Int) then K (.ro k (xs.drop l.toNat)) else none
        | _ => none
      | some l, some h => match ev C s l, ev C s h with
        | .val (.int _ l), .val (.int _ h) => if h ≤ (xs.length : Int) ∧ 0 ≤ l ∧ l ≤ h then K (.ro k ((xs.take h.toNat).drop l.toNat)) else none
        | _, _ => none
      | none, none => none) else none
    | _, _ => none
  | .move x | .assign x => K (ev C s x)
  | .binOp op t x y _ => match ev C s x, ev C s y with
    | .val a, .val b => bin? C.P op t x y a b K
    | .agg cs, .agg ds => binA? C.P op t cs ds K
    | _, _ => none
  | .unOp op _ x => match ev C s x with
    | .val a => match pureRun C.P (Op.unary op a) with
      | some v => K (.val v)
      | none => none
    | _ => none
  | .convert src dst x => match ev C s x with
    | .val (.int q n) => match C.P.underlying src, C.P.underlying dst with
      | some _, some (.int k) => K (.val (.int k (k.wrap n)))
      | _, _ => match pureRun C.P (convert src dst (.int q n)) with
        | some v => K (.val v)
        | none => none
    | .val a => match pureRun C.P (convert src dst a) with
      | some v => K (.val v)
      | none => none
    | .ro k xs => match C.P.underlying src, C.P.underlying dst, C.E.byte k with
      | some (.slice e), some .string, some f => match C.P.underlying e with
        | some (.int .u8) => K (.val (.string (strOfNums (xs.map f))))
        | _ => none
      | _, _, _ => none
    | .own k i => match s.S[i]? with
      | some (.rows k' xs) => if k' = k then (match C.P.underlying src, C.P.underlying dst, C.E.byte k' with
        | some (.slice e), some .string, some f => (match C.P.underlying e with
          | some (.int .u8) => K (.val (.string (strOfNums (xs.map f))))
          | _ => none)
        | _, _, _ => none) else none
      | _ => none
    | _ => none
  | .nilCheck x => match ev C s x with
    | .rop cs => K (.rop cs)
    | .ptr i off => K (.ptr i off)
    | .ptrE k i r c => K (.ptrE k i r c)
    | .fn f cs => K (.fn f cs)
    | _ => none
  | .load t x => match ev C s x with
    | .tab k xs => match C.P.underlying t, C.P.info? t with
      | some (.array _ _), some i => if i.size = xs.length * κ.sz k then K (.arr k xs) else none
      | _, _ => none
    | p => match cellsAt C.E s.S p with
      | some cs => match part? C.P t cs with
        | some v => K v
        | none => none
      | none => none
  | .fieldAddr t x f => match C.P.underlying t with
    | some (.struct fs) => match fs[f]? with
      | some fd => if sizeOf? C.P fd.type = 0 then none else match ev C s x with
        | .rop cs => K (.rop (cs.drop fd.offset))
        | .ptr i off => K (.ptr i (off + fd.offset))
        | .ptrE k i r c => K (.ptrE k i r (c + fd.offset))
        | _ => none
      | none => none
    | _ => none
  | .field t x f => match C.P.underlying t, ev C s x with
    | some (.struct fs), .agg cs => match fs[f]? with
      | some fd => match part? C.P fd.type (cs.drop fd.offset) with
        | some v => K v
        | none => none
      | none => none
    | _, _ => none
  | .indexAddr t x ix => match C.P.underlying t, ev C s x, ev C s ix with
    | some (.slice e), .ro k xs, .val (.int _ i) => if sizeOf? C.P e = κ.sz k then (if 0 ≤ i ∧ i < (xs.length : Int) then K (.rop (C.E.enc k (xs.getD i.toNat (C.E.dflt k)))) else none) else none
    | some (.slice e), .own k b, .val (.int _ i) => match s.S[b]? with
      | some (.rows k' xs) => if k' = k ∧ sizeOf? C.P e = κ.sz k then (if 0 ≤ i ∧ i < (xs.length : Int) then K (.ptrE k b i.toNat 0) else none) else none
      | _ => none
    | some (.array n e), .tab k xs, .val (.int _ i) => if sizeOf? C.P e = κ.sz k ∧ xs.length = n then (if 0 ≤ i ∧ i < (n : Int) then K (.rop (C.E.enc k (xs.getD i.toNat (C.E.dflt k)))) else none) else none
    | some (.array n e), .rop cs, .val (.int _ i) => if 0 < sizeOf? C.P e then caseK i (fun j => K (.rop (cs.drop (j * sizeOf? C.P e)))) n 0 else none
    | some (.array n e), .ptr b off, .val (.int _ i) => if 0 < sizeOf? C.P e then caseK i (fun j => K (.ptr b (off + j * sizeOf? C.P e))) n 0 else none
    | _, _, _ => none
  | .index t x ix => match C.P.underlying t, ev C s x, ev C s ix with
    | some .string, .val (.string b), .val (.int _ i) => if 0 ≤ i ∧ i < (b.size : Int) then K (.val (.int .u8 (bt b i))) else none
    | some (.array n e), .arr k xs, .val (.int _ i) => if sizeOf? C.P e = κ.sz k ∧ xs.length = n then (if 0 ≤ i ∧ i < (n : Int) then (match part? C.P e (C.E.enc k (xs.getD i.toNat (C.E.dflt k))) with
      | some v => K v
      | none => none) else none) else none
    | some (.array n e), .agg cs, .val (.int _ i) => if 0 < sizeOf? C.P e then caseK i (fun j => match part? C.P e (cs.drop (j * sizeOf? C.P e)) with
      | some v => K v
      | none => none) n 0 else none
    | _, _, _ => none
  | .extract x ix => match ev C s x with
    | .tup vs => match vs[ix]? with
      | some v => K v
      | none => none
    | _ => none
  | .call c => match c.callee with
    | .builtin .len => match c.args.toList, c.argTypes.toList with
      | [x], [t] => match C.P.underlying t, ev C s x with
        | some .string, .val (.string b) => K (.val (.int .i64 (b.size : Int)))
        | some (.slice _), .ro _ xs => K (.val (.int .i64 (xs.length : Int)))
        | some (.slice _), .own k b => match s.S[b]? with
          | some (.rows k' xs) => if k' = k then K (.val (.int .i64 (xs.length : Int))) else none
          | _ => none
        | some (.slice _), .val (.slice _ n _) => K (.val (.int .i64 (n : Int)))
        | _, _ => none
      | _, _ => none
    | .builtin .max => match c.args.toList.map (ev C s) with
      | [.val (.int k a), .val (.int _ b)] => K (.val (.int k (max a b)))
      | [.val (.int k a), .val (.int _ b), .val (.int _ c)] => K (.val (.int k (max (max a b) c)))
      | _ => none
    | .builtin .min => match c.args.toList.map (ev C s) with
      | [.val (.int k a), .val (.int _ b)] => K (.val (.int k (min a b)))
      | [.val (.int k a), .val (.int _ b), .val (.int _ c)] => K (.val (.int k (min (min a b) c)))
      | _ => none
    | _ => none
  | _ => none

/-- A new block. -/
def St.fresh (s : St κ) (b : Blk κ) : St κ := { s with S := s.S ++ [b] }
/-- What was known of block i is forgotten everywhere, and it holds b now. -/
def St.turn (s : St κ) (i : Nat) (b : Blk κ) : St κ := { s with env := killL i s.env, S := (s.S.map (Blk.kill i)).set i b }
def St.setB (s : St κ) (i : Nat) (b : Blk κ) : St κ := { s with S := s.S.set i b }

def decL (E : Encs κ) (k : κ.Kc) : List (List (AV κ)) → Option (List (κ.ty k))
  | [] => some []
  | c :: cs => match E.dec k c, decL E k cs with
    | some x, some xs => some (x :: xs)
    | _, _ => none

/-- The rows of a slice that is read (an append's source). -/
def rowsOf (s : St κ) : AV κ → Option ((k : κ.Kc) × List (κ.ty k))
  | .ro k xs => some ⟨k, xs⟩
  | .own k i => match s.S[i]? with
    | some (.rows k' xs) => if k' = k then some ⟨k', xs⟩ else none
    | _ => none
  | _ => none


/-- The Go types of a value's cells. -/
def cellTypes (P : Program) : Nat → TypeId → List TypeId
  | 0, _ => []
  | n + 1, t => match P.underlying t with
    | some (.struct fs) => fs.toList.flatMap fun f => cellTypes P n f.type
    | some (.array m e) => (List.range m).flatMap fun _ => cellTypes P n e
    | _ => [t]
/-- Nil slices become memory of its own that is empty. -/
def nilOwn (P : Program) (kindOf : TypeId → Option κ.Kc) : List (AV κ) → List TypeId → St κ → List (AV κ) × St κ
  | .val (.slice none 0 0) :: cs, t :: ts, s => match P.underlying t with
    | some (.slice e) => match kindOf e with
      | some k => let r := nilOwn P kindOf cs ts (s.fresh (.rows k [])); (.own k s.S.length :: r.1, r.2)
      | none => let r := nilOwn P kindOf cs ts s; (.val (.slice none 0 0) :: r.1, r.2)
    | _ => let r := nilOwn P kindOf cs ts s; (.val (.slice none 0 0) :: r.1, r.2)
  | c :: cs, _ :: ts, s => let r := nilOwn P kindOf cs ts s; (c :: r.1, r.2)
  | cs, _, s => (cs, s)

/-- Operations that make memory or write to it. -/
def loud? {β : Type} (C : Ctx κ) (kindOf : TypeId → Option κ.Kc) (o : Oper) (s : St κ) (K : AV κ → St κ → Option β) : Option β :=
  match o.op with
  | .alloc t => match zeroCells? C.P t with
    | some z => let r := nilOwn C.P kindOf z (cellTypes C.P 8 t) s
      K (.ptr r.2.S.length 0) (r.2.fresh (.raw t r.1))
    | none => none
  | .assign (.const (.slice none 0 0)) => match nilOwn C.P kindOf [.val (.slice none 0 0)] [o.type] s with
    | ([v], s') => K v s'
    | _ => none
  | .box t x => let cs := (ev C s x).cells
    if cs.all AV.one then K (.ptr s.S.length 0) (s.fresh (.raw t cs)) else none
  | .store t p x => let cs := (ev C s x).cells
    if cs.length = sizeOf? C.P t ∧ cs.all AV.one = true ∧ 0 < cs.length then (match ev C s p with
      | .ptr i off => match s.S[i]? with
        | some (.raw u old) => if off + cs.length ≤ old.length then K .bot (s.setB i (.raw u (upd old off cs))) else none
        | _ => none
      | .ptrE k i row col => match s.S[i]? with
        | some (.rows k' xs) => if h : k' = k then (match C.E.dec k (upd (C.E.enc k ((h ▸ xs : List (κ.ty k)).getD row (C.E.dflt k))) col cs) with
          | some x => if col + cs.length ≤ κ.sz k then K .bot (s.setB i (.rows k ((h ▸ xs : List (κ.ty k)).set row x))) else none
          | none => none) else none
        | _ => none
      | _ => none) else none
  | .buildSlice t n parts => match C.P.underlying t with
    | some (.slice e) => match kindOf e with
      | some k => if κ.elem k = e ∧ 0 < n ∧ (parts.toList.map (·.1)) = List.range n ∧ n * κ.sz k ≤ 16777216 ∧ (parts.toList.all fun p => (ev C s p.2).cells.all AV.one) = true then
          (match decL C.E k (parts.toList.map fun p => (ev C s p.2).cells) with
          | some xs => K (.own k s.S.length) (s.fresh (.rows k xs))
          | none => none) else none
      | none => none
    | _ => none
  | .makeSlice t l c => match C.P.underlying t, ev C s l, ev C s c with
    | some (.slice e), .val (.int _ l), .val (.int _ c) => match kindOf e with
      | some k => if κ.elem k = e then (match (zeroCells? C.P e).bind (C.E.dec k) with
        | some z => if 0 ≤ l ∧ l ≤ c ∧ c * (κ.bytes k : Int) ≤ (capBytes : Int) then K (.own k s.S.length) (s.fresh (.rows k (List.replicate l.toNat z))) else none
        | none => none) else none
      | none => none
    | _, _, _ => none
  | .slice t x none (some h) none => match C.P.underlying t, ev C s x, ev C s h with
    | some (.slice e), .own k i, .val (.int _ h) => match s.S[i]? with
      | some (.rows k' xs) => if k' = k ∧ sizeOf? C.P e = κ.sz k then (if 0 ≤ h ∧ h ≤ (xs.length : Int) then K (.own k' i) (s.turn i (.rows k' (xs.take h.toNat))) else none) else none
      | _ => none
    | _, _, _ => none
  | .call c => match c.callee with
    | .builtin .append => match c.args.toList, c.argTypes.toList with
      | [x, y], [t, t'] => if t = t' then (match C.P.underlying t, rowsOf s (ev C s y) with
        | some (.slice e), some ⟨k, ys⟩ => if κ.elem k = e then (match ev C s x with
          | .val (.slice none 0 0) => room (ys.length * κ.bytes k) (K (.own k s.S.length) (s.fresh (.rows k ys)))
          | .own k' i => match s.S[i]? with
            | some (.rows k'' xs) => if h : k'' = k then (if k' = k then (room (((h ▸ xs : List (κ.ty k)).length + ys.length) * κ.bytes k) (K (.own k i) (s.turn i (.rows k ((h ▸ xs : List (κ.ty k)) ++ ys))))) else none) else none
            | _ => none
          | _ => none) else none
        | _, _ => none) else none
      | _, _ => none
    | .value f => match ev C s f with
      | .fn fid caps => C.Γ fid (c.args.toList.map (ev C s) ++ caps) s.S fun v S' m => K v { s with env := kwE m s.env, S := S' }
      | _ => none
    | _ => none
  | _ => none

def isQuiet (o : Oper) : Bool :=
  match o.op with
  | .move _ | .assign _ | .binOp .. | .unOp .. | .convert .. | .nilCheck _ | .load .. | .fieldAddr .. | .field .. | .indexAddr .. | .index .. | .extract .. | .build .. | .makeFunc .. => true
  | .call { callee := .builtin .len, .. } | .call { callee := .builtin .max, .. } | .call { callee := .builtin .min, .. } => true
  | _ => false

/-- What is noted beside the code: loops and pieces with a summary; in a region the operations whose result is shut for good. -/
inductive Note where
  | none
  | pair (l r : Note)
  | cut (id : Nat)
  | ops (shut : List Nat) (head : Nat)

def Note.l : Note → Note
  | .pair l _ => l
  | n => match n with | .pair l _ => l | _ => .none
def Note.r : Note → Note
  | .pair _ r => r
  | _ => .none
def Note.shut : Note → List Nat
  | .ops l _ => l
  | _ => []
def Note.head : Note → Nat
  | .ops _ n => n
  | _ => 0

/-- Memory of its own that is never written again from here on: a value that is read. -/
def shutV {β : Type} (s : St κ) (v : AV κ) (K : AV κ → St κ → Option β) : Option β :=
  match v with
  | .own k i => match s.S[i]? with
    | some (.rows k' xs) => if k' = k then K (.ro k' xs) (s.turn i .dead) else none
    | _ => none
  | .ptr i 0 => match s.S[i]? with
    | some (.raw _ cs) => if cs.all AV.flat then K (.rop cs) (s.turn i .dead) else none
    | _ => none
  | _ => none

/-- One operation. -/
def step {β : Type} (C : Ctx κ) (kindOf : TypeId → Option κ.Kc) (o : Oper) (s : St κ) (K : AV κ → St κ → Option β) : Option β :=
  match o.op with
  | .pick c a b => match ev C s c with
    | .val (.bool x) => match c with
      | .tmp t => if x = true then K (ev C (s.refine t true) a) (s.refine t true) else K (ev C (s.refine t false) b) (s.refine t false)
      | _ => if x = true then K (ev C s a) s else K (ev C s b) s
    | _ => none
  | .slice _ x _ _ _ => match ev C s x with
    | .own _ _ => loud? C kindOf o s K
    | _ => quiet? C o s fun v => K v s
  | .assign (.const (.slice none 0 0)) => loud? C kindOf o s K
  | _ => if isQuiet o then quiet? C o s fun v => K v s else loud? C kindOf o s K

def stepN {β : Type} (C : Ctx κ) (kindOf : TypeId → Option κ.Kc) (shut : Bool) (o : Oper) (s : St κ) (K : AV κ → St κ → Option β) : Option β :=
  match shut with
  | true => (match o.op with
    | .store _ (.tmp p) _ => step C kindOf o s fun _ s' => shutV s' (s'.get p) fun z s2 => K .bot { s2 with env := s2.env.set p z }
    | _ => step C kindOf o s fun v s' => shutV s' v K)
  | false => step C kindOf o s K

def execL {β : Type} (C : Ctx κ) (kindOf : TypeId → Option κ.Kc) (ops : Array Oper) (shut : List Nat) : Nat → List Oper → St κ → (St κ → Option β) → Option β
  | _, [], s, K => K s
  | i, o :: os, s, K => match o.guard with
    | none => stepN C kindOf (shut.contains i) o s fun v s' => execL C kindOf ops shut (i + 1) os (s'.put o v) K
    | some (j, want) => match (ops[j]?).bind (·.dst) with
      | none => none
      | some t => match s.get t with
        | .val (.bool c) => if c = want then stepN C kindOf (shut.contains i) o (s.refine t want) fun v s' => execL C kindOf ops shut (i + 1) os (s'.put o v) K
            else execL C kindOf ops shut (i + 1) os ((s.refine t (!want)).put o (.val undef)) K
        | .val (.tuple _) => execL C kindOf ops shut (i + 1) os (s.put o (.val undef)) K
        | _ => none

/-- One operation where the order is open: quiet ones alone, and calls that leave memory alone. -/
def stepQ {β : Type} (C : Ctx κ) (o : Oper) (s : St κ) (K : AV κ → St κ → Option β) : Option β :=
  match o.op with
  | .pick c a b => match ev C s c with
    | .val (.bool x) => match c with
      | .tmp t => if x = true then K (ev C (s.refine t true) a) (s.refine t true) else K (ev C (s.refine t false) b) (s.refine t false)
      | _ => if x = true then K (ev C s a) s else K (ev C s b) s
    | _ => none
  | .call ⟨.value f, args, _⟩ => match ev C s f with
    | .fn fid caps => C.Γq fid (args.toList.map (ev C s) ++ caps) s.S fun v => K v s
    | _ => none
  | _ => quiet? C o s fun v => K v s

def execQ {β : Type} (C : Ctx κ) (ops : Array Oper) : List Oper → St κ → (St κ → Option β) → Option β
  | [], s, K => K s
  | o :: os, s, K => match o.guard with
    | none => stepQ C o s fun v s' => execQ C ops os (s'.put o v) K
    | some (j, want) => match (ops[j]?).bind (·.dst) with
      | none => none
      | some t => match s.get t with
        | .val (.bool c) => if c = want then stepQ C o (s.refine t want) fun v s' => execQ C ops os (s'.put o v) K
            else execQ C ops os ((s.refine t (!want)).put o (.val undef)) K
        | .val (.tuple _) => execQ C ops os (s.put o (.val undef)) K
        | _ => none

def execD {β : Type} (C : Ctx κ) (kindOf : TypeId → Option κ.Kc) (ops : Array Oper) (n : Note) (s : St κ) (K : St κ → Option β) : Option β :=
  if n.head = ops.size then (if Region.lexB .any ops = true then execQ C ops ops.toList s K else none)
  else if Region.lexTailB .any ops n.head = true then execQ C ops (ops.toList.take n.head) s fun s' => execL C kindOf ops n.shut n.head (ops.toList.drop n.head) s' K
  else none

def exec {β : Type} (C : Ctx κ) (kindOf : TypeId → Option κ.Kc) : Code → Note → St κ → (Ex → St κ → Option β) → Option β
  | .skip, n, s, K => match n with | .cut id => C.Λ id s K | _ => K .normal s
  | .label _, n, s, K => match n with | .cut id => C.Λ id s K | _ => K .normal s
  | .region _ ops draw, n, s, K => match n with
    | .cut id => C.Λ id s K
    | n => if draw = true then execD C kindOf ops n { s with al := [] } fun s' => K .normal s' else execL C kindOf ops n.shut 0 ops.toList { s with al := [] } fun s' => K .normal s'
  | .seq a b, n, s, K => match n with
    | .cut id => C.Λ id s K
    | n => exec C kindOf a n.l s fun x s' => match x with
      | .normal => exec C kindOf b n.r s' K
      | x => K x s'
  | .cond c a b, n, s, K => match n with
    | .cut id => C.Λ id s K
    | n => match ev C s c with
      | .val (.bool x) => match c with
        | .tmp t => if x = true then exec C kindOf a n.l ({ s with al := [] }.refine t true) K else exec C kindOf b n.r ({ s with al := [] }.refine t false) K
        | _ => if x = true then exec C kindOf a n.l s K else exec C kindOf b n.r s K
      | _ => none
  | .block id c, n, s, K => match n with
    | .cut id => C.Λ id s K
    | n => exec C kindOf c n.l s fun x s' => match x with
      | .exit j => if j = id then K .normal s' else K (.exit j) s'
      | x => K x s'
  | .loop _, n, s, K => match n with | .cut id => C.Λ id s K | _ => none
  | .exit id, n, s, K => match n with | .cut id => C.Λ id s K | _ => K (.exit id) s
  | .ret, n, s, K => match n with | .cut id => C.Λ id s K | _ => K .ret s
  | _, _, _, _ => none
end
end Go.Am
