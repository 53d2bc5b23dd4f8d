/- Parts of this work, put into one text: Am1 Am2 Am3 Am4 Am5 Am5m Am6 Am7 Am8 -/
import Derived.Tactics
import Derived.Below
import Derived.Deep.Quiet
import Derived.Laws.AppendOwn
import Derived.StillTail
import Derived.Laws.BytesArg
import Derived.Laws.StructEq
import Derived.Laws.Tables
import Derived.Great.BuildSlice
import Derived.MapKept
import Derived.Laws.MakeOwn
section
namespace Go.Am
open Go.RowKit
noncomputable section

/-- The kinds of elements: a Go type each, and the Lean type that they read as. -/
structure Kinds where
  Kc : Type
  deq : DecidableEq Kc
  ty : Kc → Type
  elem : Kc → TypeId
  sz : Kc → Nat
  bytes : Kc → Nat

instance {κ : Kinds} : DecidableEq κ.Kc := κ.deq

inductive AV (κ : Kinds) where
  | bot
  | val (v : Value)
  | agg (cs : List (AV κ))
  | tup (vs : List (AV κ))
  | ro (k : κ.Kc) (xs : List (κ.ty k))
  | rop (cs : List (AV κ))
  | arr (k : κ.Kc) (xs : List (κ.ty k))
  | tab (k : κ.Kc) (xs : List (κ.ty k))
  | own (k : κ.Kc) (i : Nat)
  | sub (k : κ.Kc) (i : Nat) (lo : Int)
  | ptr (i off : Nat)
  | ptrE (k : κ.Kc) (i row col : Nat)
  | optr (i : Nat)
  | fn (f : FuncId) (caps : List (AV κ))
  | mp (i : Nat)

inductive Blk (κ : Kinds) where
  | dead
  | raw (t : TypeId) (cs : List (AV κ))
  | rows (k : κ.Kc) (xs : List (κ.ty k))
  | mp (k : κ.Kc) (xs : List (κ.ty k))

/-- A map's key: a text or a number. -/
inductive MKey where
  | no
  | s (b : ByteArray)
  | i (k : IntKind) (n : Int)
def MKey.toV : MKey → Value
  | .no => undef
  | .s b => .string b
  | .i k n => .int k n
def MKey.same : MKey → MKey → Bool
  | .s a, .s b => a.toList == b.toList
  | .i _ a, .i _ b => a == b
  | _, _ => false
/-- Of the same sort. -/
def MKey.like : MKey → MKey → Bool
  | .s _, .s _ => true
  | .i k _, .i k' _ => decide (k = k')
  | _, _ => false
def mhas {α : Type} (f : α → MKey) (xs : List α) (m : MKey) : Bool := xs.any fun x => (f x).same m
def mat {α : Type} (f : α → MKey) (d : α) (xs : List α) (m : MKey) : α := (xs.find? fun x => (f x).same m).getD d
def mput {α : Type} (f : α → MKey) (xs : List α) (x : α) : List α := if mhas f xs (f x) then xs.map fun y => if (f y).same (f x) then x else y else xs ++ [x]
def mdel {α : Type} (f : α → MKey) (xs : List α) (m : MKey) : List α := xs.filter fun y => !(f y).same m

structure Encs (κ : Kinds) where
  enc : (k : κ.Kc) → κ.ty k → List (AV κ)
  dec : (k : κ.Kc) → List (AV κ) → Option (κ.ty k)
  dflt : (k : κ.Kc) → κ.ty k
  byte : (k : κ.Kc) → Option (κ.ty k → Int)
  key : (k : κ.Kc) → κ.ty k → MKey := fun _ _ => .no
  mval : (k : κ.Kc) → κ.ty k → AV κ := fun _ _ => .val undef
  mmk : (k : κ.Kc) → MKey → AV κ → Option (κ.ty k) := fun _ _ _ => none

variable {κ : Kinds}

def AV.flat : AV κ → Bool
  | .val v => v.oneCell'
  | .ro _ _ => true
  | _ => false
def AV.one : AV κ → Bool
  | .val v => v.oneCell'
  | .bot | .agg _ | .tup _ | .arr _ _ => false
  | _ => true

/-- Values that bear no memory of its own. -/
def AV.still : AV κ → Bool
  | .agg cs => cs.all AV.flat
  | v => v.flat || match v with | .val _ => true | _ => false
structure Encs.Ok (E : Encs κ) : Prop where
  len : ∀ k x, (E.enc k x).length = κ.sz k
  put : ∀ k cs x, E.dec k cs = some x → E.enc k x = cs
  flat : ∀ k x c, c ∈ E.enc k x → c.flat = true
  pos : ∀ k, 0 < κ.sz k
  byte : ∀ k f x, E.byte k = some f → E.enc k x = [.val (.int .u8 (f x))]
  mmk : ∀ k m v x, E.mmk k m v = some x → E.key k x = m ∧ E.mval k x = v
  still : ∀ k x, (E.mval k x).still = true
  like : ∀ k x y, (E.key k x).like (E.key k y) = (E.key k x).like (E.key k x)

def AV.cells : AV κ → List (AV κ)
  | .agg cs => cs
  | v => [v]

mutual
def AV.kill (i : Nat) : AV κ → AV κ
  | .own k j => if j = i then .bot else .own k j
  | .sub k j lo => if j = i then .bot else .sub k j lo
  | .ptr j o => if j = i then .bot else .ptr j o
  | .ptrE k j r c => if j = i then .bot else .ptrE k j r c
  | .optr j => if j = i then .bot else .optr j
  | .mp j => if j = i then .bot else .mp j
  | .agg cs => .agg (killL i cs)
  | .tup cs => .tup (killL i cs)
  | .fn f cs => .fn f (killL i cs)
  | .rop cs => .rop (killL i cs)
  | v => v
def killL (i : Nat) : List (AV κ) → List (AV κ)
  | [] => []
  | c :: cs => c.kill i :: killL i cs
end

def Blk.kill (i : Nat) : Blk κ → Blk κ
  | .raw t cs => .raw t (killL i cs)
  | b => b

structure St (κ : Kinds) where
  env : List (AV κ)
  S : List (Blk κ)
  al : List (Nat × Nat)

inductive Ex where
  | normal
  | exit (id : Nat)
  | ret
  deriving DecidableEq

def Ex.to : Ex → Exit
  | .normal => .normal
  | .exit i => .exit i
  | .ret => .ret

/-- A constant as a value of the machine. -/
def lift : Value → AV κ
  | .agg cs => .agg (cs.toList.map .val)
  | .func (.func f) ⟨[]⟩ cs => .fn f (cs.toList.map .val)
  | v => .val v

/-- Of some blocks only pointers (1), only slices (2) or nothing is known any more. -/
def kwO (m : List (Nat × Nat)) (i : Nat) : Bool := match m.lookup i with | none => true | some n => n == 2
def kwP (m : List (Nat × Nat)) (i : Nat) : Bool := match m.lookup i with | none => true | some n => n == 1
mutual
def AV.kw (m : List (Nat × Nat)) : AV κ → AV κ
  | .own k i => if kwO m i = true then .own k i else .bot
  | .sub _ _ _ => .bot
  | .ptr i o => if kwP m i = true then .ptr i o else .bot
  | .ptrE k i r c => if kwO m i = true then .ptrE k i r c else .bot
  | .optr i => if kwP m i = true then .optr i else .bot
  | .mp i => if kwP m i = true then .mp i else .bot
  | .agg cs => .agg (kwL m cs)
  | .tup cs => .tup (kwL m cs)
  | .fn f cs => .fn f (kwL m cs)
  | .rop cs => .rop (kwL m cs)
  | v => v
def kwL (m : List (Nat × Nat)) : List (AV κ) → List (AV κ)
  | [] => []
  | c :: cs => c.kw m :: kwL m cs
end
def Blk.kw (m : List (Nat × Nat)) : Blk κ → Blk κ
  | .raw t cs => .raw t (kwL m cs)
  | b => b
def kwE (m : List (Nat × Nat)) (e : List (AV κ)) : List (AV κ) := match m with | [] => e | p :: m => kwL (p :: m) e
abbrev Ent (κ : Kinds) := ∀ {β : Type}, List (AV κ) → List (Blk κ) → (AV κ → List (Blk κ) → List (Nat × Nat) → Option β) → Option β
/-- A callee that hands back a scalar and leaves memory alone: it may stand where the order is open. -/
abbrev QEnt (κ : Kinds) := ∀ {β : Type}, List (AV κ) → List (Blk κ) → (AV κ → Option β) → Option β
abbrev Lam (κ : Kinds) := ∀ {β : Type}, St κ → (Ex → St κ → Option β) → Option β

/-- What the reckoner is given: the program, the readings, the variables of packages, the callees' and the loops' summaries. -/
structure Ctx (κ : Kinds) where
  P : Program
  E : Encs κ
  glob : Nat → AV κ
  Γ : FuncId → Ent κ
  Γq : FuncId → QEnt κ
  Λ : Nat → Lam κ

def St.get (s : St κ) (t : Nat) : AV κ := s.env.getD t .bot

def ev (C : Ctx κ) (s : St κ) : Operand → AV κ
  | .tmp t => s.env.getD t .bot
  | .const v => lift v
  | .global g => C.glob g
  | .func f => .fn f []

/-- The temporaries that hold the same as t. -/
def alike (t : Nat) : List (Nat × Nat) → List Nat
  | [] => [t]
  | (d, u) :: al =>
    let S := alike t al
    if S.contains u then d :: S else if S.contains d then u :: S else S

def setAll (v : AV κ) : List Nat → List (AV κ) → List (AV κ)
  | [], e => e
  | t :: ts, e => setAll v ts (e.set t v)

def St.refine (s : St κ) (t : Nat) (b : Bool) : St κ := { s with env := setAll (.val (.bool b)) (alike t s.al) s.env }

def isBool : AV κ → Bool
  | .val (.bool _) => true
  | _ => false

def St.put (s : St κ) (o : Oper) (v : AV κ) : St κ :=
  match o.dst with
  | none => s
  | some d =>
    let al := s.al.filter fun p => p.1 != d && p.2 != d
    { s with env := s.env.set d v, al := match o.op with
      | .move (.tmp t) => if isBool v && t != d && decide (d < s.env.length) then (d, t) :: al else al
      | _ => al }

def sizeOf? (P : Program) (t : TypeId) : Nat := ((P.info? t).map (·.size)).getD 0

/-- What lies at the begin of these cells, as a value of type t. -/
def part? (P : Program) (t : TypeId) (cs : List (AV κ)) : Option (AV κ) :=
  match P.underlying t, P.info? t with
  | some (.struct _), some i | some (.array _ _), some i => if i.size ≤ cs.length then some (.agg (cs.take i.size)) else none
  | some _, some _ => cs.head?
  | _, _ => none

def upd {α : Type} : List α → Nat → List α → List α
  | cs, _, [] => cs
  | cs, off, v :: vs => upd (cs.set off v) (off + 1) vs

/-- The cells from a pointer on. -/
def cellsAt (E : Encs κ) (S : List (Blk κ)) : AV κ → Option (List (AV κ))
  | .rop cs => some cs
  | .ptr i off => match S[i]? with
    | some (.raw _ cs) => some (cs.drop off)
    | _ => none
  | .ptrE k i row col => match S[i]? with
    | some (.rows k' xs) => if h : k' = k then some ((E.enc k ((h ▸ xs : List (κ.ty k)).getD row (E.dflt k))).drop col) else none
    | _ => none
  | _ => none

/-- Scalars alone: what a bare run of the model's own operation gives. -/
def pureRun {α : Type} (P : Program) : Sem α → Option α
  | .pure a => some a
  | .program k => pureRun P (k P)
  | _ => none

def bt (s : ByteArray) (i : Int) : Int := ((s.data.getD i.toNat 0).toNat : Int)
def quo (k : IntKind) (a b : Int) : Int := k.wrap (a.tdiv b)
def rem (a b : Int) : Int := a.tmod b
def shl (k : IntKind) (a b : Int) : Int := k.wrap (a * 2 ^ min b.toNat k.bits)
def shr (k : IntKind) (a b : Int) : Int := a.fdiv (2 ^ min b.toNat k.bits)

def capBytes : Nat := 140737488355328
structure TooLong (n : Nat) : Prop where
  h : (n : Int) > IntKind.i64.max
structure HasRoom (n : Nat) : Prop where
  h : n ≤ capBytes
/-- Whether a string is too long, whether a row has room: questions that no reckoning answers by itself. -/
def tooLong {β : Type} (n : Nat) (K : Option β) : Option β := @ite _ (TooLong n) (Classical.propDecidable _) none K
def room {β : Type} (n : Nat) (K : Option β) : Option β := @ite _ (HasRoom n) (Classical.propDecidable _) K none
theorem tooLong_some {β : Type} {n : Nat} {K : Option β} {r : β} : tooLong n K = some r ↔ ¬ (n : Int) > IntKind.i64.max ∧ K = some r := by
  unfold tooLong
  split
  · rename_i h; exact ⟨fun h => (by cases h), fun h' => absurd h.h h'.1⟩
  · rename_i h; exact ⟨fun h' => ⟨fun h2 => h ⟨h2⟩, h'⟩, fun h' => h'.2⟩
theorem room_some {β : Type} {n : Nat} {K : Option β} {r : β} : room n K = some r ↔ n ≤ capBytes ∧ K = some r := by
  unfold room
  split
  · rename_i h; exact ⟨fun h' => ⟨h.h, h'⟩, fun h' => h'.2⟩
  · rename_i h; exact ⟨fun h => (by cases h), fun h' => absurd ⟨h'.1⟩ h⟩
theorem room_ite {β : Type} (n : Nat) (K : Option β) : room n K = @ite _ (n ≤ capBytes) (Classical.propDecidable _) K none := by
  unfold room
  split
  · rename_i h; exact (if_pos h.h).symm
  · rename_i h; exact (if_neg fun h' => h ⟨h'⟩).symm
theorem tooLong_pos {β : Type} {n : Nat} {K : Option β} (h : ¬ (n : Int) > IntKind.i64.max) : tooLong n K = K := by
  unfold tooLong; exact if_neg fun h' => h h'.h
theorem room_pos {β : Type} {n : Nat} {K : Option β} (h : n ≤ capBytes) : room n K = K := by
  unfold room; exact if_pos ⟨h⟩

/-- An operation between two scalars. -/
def bin? {β : Type} (P : Program) (op : BinOp) (t : TypeId) (x y : Operand) (a b : Value) (K : AV κ → Option β) : Option β :=
  match op, a, b with
  | .quo, .int k m, .int k' n => if k = k' then (if n = 0 then none else K (.val (.int k (quo k m n)))) else none
  | .rem, .int k m, .int k' n => if k = k' then (if n = 0 then none else K (.val (.int k (rem m n)))) else none
  | .shl, .int k m, .int _ n => if n < 0 then none else K (.val (.int k (shl k m n)))
  | .shr, .int k m, .int _ n => if n < 0 then none else K (.val (.int k (shr k m n)))
  | .add, .string m, .string n => tooLong (m.size + n.size) (K (.val (.string (m ++ n))))
  | _, .agg _, _ => none
  | _, _, _ => match pureRun P (do eqGuard op t x y a b; binOp op t a b) with
    | some v => K (.val v)
    | none => none

/-- Whether two scalars are equal, and two structs of scalars. -/
def eqV (P : Program) (t : TypeId) : Value → Value → Option Bool
  | .int k a, .int k' b => match P.underlying t with
    | some (.int _) => if k = k' then some (a == b) else none
    | _ => none
  | .bool a, .bool b => match P.underlying t with
    | some .bool => some (a == b)
    | _ => none
  | .string a, .string b => match P.underlying t with
    | some .string => some (a.toList == b.toList)
    | _ => none
  | _, _ => none
def eqF (P : Program) (cs ds : List (AV κ)) : List Field → Option Bool
  | [] => some true
  | f :: fs => if f.name ≠ "_" then (match part? P f.type (cs.drop f.offset), part? P f.type (ds.drop f.offset), eqF P cs ds fs with
      | some (.val a), some (.val b), some r => match eqV P f.type a b with
        | some e => some (e && r)
        | none => none
      | _, _, _ => none) else eqF P cs ds fs
def binA? {β : Type} (P : Program) (op : BinOp) (t : TypeId) (cs ds : List (AV κ)) (K : AV κ → Option β) : Option β :=
  if P.eqGuardType P.depth t = false ∧ P.stoodInHeld t = false then (match P.underlying t with
    | some (.struct fs) => match eqF P cs ds fs.toList with
      | some r => match op with
        | .eql => K (.val (.bool r))
        | .neq => K (.val (.bool (!r)))
        | _ => none
      | none => none
    | _ => none) else none

/-- The parts of a literal, laid over the zero value's cells. -/
def fillA (place : Nat → Option (Nat × Nat)) (cells : List (AV κ)) : List (Nat × AV κ) → Option (List (AV κ))
  | [] => some cells
  | (i, v) :: rest => match place i with
    | none => none
    | some (off, size) => if v.cells.length = size ∧ off + size ≤ cells.length ∧ v.cells.all AV.one = true then fillA place (upd cells off v.cells) rest else none

def builtA (P : Program) (t : TypeId) (parts : List (Nat × AV κ)) : Option (List (AV κ)) :=
  match P.info? t, P.underlying t with
  | some it, some (.array _ e) => match it.zero, P.info? e with
    | some z, some ie => fillA (fun i => some (i * ie.size, ie.size)) (z.cells.toList.map .val) parts
    | _, _ => none
  | some it, some (.struct fields) => match it.zero, fields.toList.mapM (fun f => (P.info? f.type).map fun i => (f.offset, i.size)) with
    | some z, some places => fillA (places[·]?) (z.cells.toList.map .val) parts
    | _, _ => none
  | _, _ => none

def zeroCells? (P : Program) (t : TypeId) : Option (List (AV κ)) :=
  match (P.info? t).bind (·.zero) with
  | some z => some (z.cells.toList.map .val)
  | none => none

/-- One of the numbers from j on. -/
def caseK {β : Type} (i : Int) (f : Nat → Option β) : Nat → Nat → Option β
  | 0, _ => none
  | m + 1, j => if i = (j : Int) then f j else caseK i f m (j + 1)

/-- A value as a key of that type. -/
def keyV (P : Program) (kt : TypeId) : AV κ → Option MKey
  | .val (.string b) => match P.underlying kt with
    | some .string => some (.s b)
    | _ => none
  | .val (.int k n) => match P.underlying kt with
    | some (.int q) => if k = q then some (.i k n) else none
    | _ => none
  | _ => none
def zeroV? (P : Program) (t : TypeId) : Option Value := (P.info? t).bind (·.zero)

/-- Operations that leave memory alone. -/
def quiet? {β : Type} (C : Ctx κ) (o : Oper) (s : St κ) (K : AV κ → Option β) : Option β :=
  match o.op with
  | .build t parts => match builtA C.P t (parts.toList.map fun p => (p.1, ev C s p.2)) with
    | some cs => K (.agg cs)
    | none => none
  | .makeFunc (.func f) first caps => if first.size = 0 then K (.fn f (caps.toList.map (ev C s))) else none
  | .slice t x lo hi none => match C.P.underlying t, ev C s x with
    | some .string, .val (.string b) => match lo, hi with
      | none, some h => match ev C s h with
        | .val (.int _ h) => if 0 ≤ h ∧ h ≤ (b.size : Int) then K (.val (.string (b.extract 0 h.toNat))) else none
        | _ => none
      | some l, none => match ev C s l with
        | .val (.int _ l) => if 0 ≤ l ∧ l ≤ (b.size : Int) then K (.val (.string (b.extract l.toNat b.size))) else none
        | _ => none
      | some l, some h => match ev C s l, ev C s h with
        | .val (.int _ l), .val (.int _ h) => if h ≤ (b.size : Int) ∧ 0 ≤ l ∧ l ≤ h then K (.val (.string (b.extract l.toNat h.toNat))) else none
        | _, _ => none
      | none, none => none
    | some (.slice e), .ro k xs => if sizeOf? C.P e = κ.sz k then (match lo, hi with
      | none, some h => match ev C s h with
        | .val (.int _ h) => if 0 ≤ h ∧ h ≤ (xs.length : Int) then K (.ro k (xs.take h.toNat)) else none
        | _ => none
      | some l, none => match ev C s l with
        | .val (.int _ l) => if 0 ≤ l ∧ l ≤ (xs.length : Int) then K (.ro k (xs.drop l.toNat)) else none
        | _ => none
      | some l, some h => match ev C s l, ev C s h with
        | .val (.int _ l), .val (.int _ h) => if h ≤ (xs.length : Int) ∧ 0 ≤ l ∧ l ≤ h then K (.ro k ((xs.take h.toNat).drop l.toNat)) else none
        | _, _ => none
      | none, none => none) else none
    | some (.slice e), .own k i => match s.S[i]? with
      | some (.rows k' xs) => (match lo, hi with
        | some l, none => match ev C s l with
          | .val (.int _ l) => if k' = k ∧ sizeOf? C.P e = κ.sz k then (if 0 ≤ l ∧ l ≤ (xs.length : Int) then K (.sub k i l) else none) else none
          | _ => none
        | _, _ => none)
      | _ => none
    | _, _ => none
  | .move x | .assign x => K (ev C s x)
  | .binOp op t x y _ => match ev C s x, ev C s y with
    | .val a, .val b => bin? C.P op t x y a b K
    | .agg cs, .agg ds => binA? C.P op t cs ds K
    | _, _ => none
  | .unOp op _ x => match ev C s x with
    | .val a => match pureRun C.P (Op.unary op a) with
      | some v => K (.val v)
      | none => none
    | _ => none
  | .convert src dst x => match ev C s x with
    | .val (.int q n) => match C.P.underlying src, C.P.underlying dst with
      | some _, some (.int k) => K (.val (.int k (k.wrap n)))
      | _, _ => match pureRun C.P (convert src dst (.int q n)) with
        | some v => K (.val v)
        | none => none
    | .val a => match pureRun C.P (convert src dst a) with
      | some v => K (.val v)
      | none => none
    | .ro k xs => match C.P.underlying src, C.P.underlying dst, C.E.byte k with
      | some (.slice e), some .string, some f => match C.P.underlying e with
        | some (.int .u8) => K (.val (.string (strOfNums (xs.map f))))
        | _ => none
      | _, _, _ => none
    | .own k i => match s.S[i]? with
      | some (.rows k' xs) => if k' = k then (match C.P.underlying src, C.P.underlying dst, C.E.byte k' with
        | some (.slice e), some .string, some f => (match C.P.underlying e with
          | some (.int .u8) => K (.val (.string (strOfNums (xs.map f))))
          | _ => none)
        | _, _, _ => none) else none
      | _ => none
    | _ => none
  | .nilCheck x => match ev C s x with
    | .rop cs => K (.rop cs)
    | .ptr i off => K (.ptr i off)
    | .ptrE k i r c => K (.ptrE k i r c)
    | .fn f cs => K (.fn f cs)
    | _ => none
  | .load t x => match ev C s x with
    | .tab k xs => match C.P.underlying t, C.P.info? t with
      | some (.array _ _), some i => if i.size = xs.length * κ.sz k then K (.arr k xs) else none
      | _, _ => none
    | p => match cellsAt C.E s.S p with
      | some cs => match part? C.P t cs with
        | some v => K v
        | none => none
      | none => none
  | .fieldAddr t x f => match C.P.underlying t with
    | some (.struct fs) => match fs[f]? with
      | some fd => if sizeOf? C.P fd.type = 0 then none else match ev C s x with
        | .rop cs => K (.rop (cs.drop fd.offset))
        | .ptr i off => K (.ptr i (off + fd.offset))
        | .ptrE k i r c => K (.ptrE k i r (c + fd.offset))
        | _ => none
      | none => none
    | _ => none
  | .field t x f => match C.P.underlying t, ev C s x with
    | some (.struct fs), .agg cs => match fs[f]? with
      | some fd => match part? C.P fd.type (cs.drop fd.offset) with
        | some v => K v
        | none => none
      | none => none
    | _, _ => none
  | .indexAddr t x ix => match C.P.underlying t, ev C s x, ev C s ix with
    | some (.slice e), .ro k xs, .val (.int _ i) => if sizeOf? C.P e = κ.sz k then (if 0 ≤ i ∧ i < (xs.length : Int) then K (.rop (C.E.enc k (xs.getD i.toNat (C.E.dflt k)))) else none) else none
    | some (.slice e), .own k b, .val (.int _ i) => match s.S[b]? with
      | some (.rows k' xs) => if k' = k ∧ sizeOf? C.P e = κ.sz k then (if 0 ≤ i ∧ i < (xs.length : Int) then K (.ptrE k b i.toNat 0) else none) else none
      | _ => none
    | some (.slice e), .sub k b lo, .val (.int _ i) => match s.S[b]? with
      | some (.rows k' xs) => if k' = k ∧ sizeOf? C.P e = κ.sz k then (if 0 ≤ i ∧ lo + i < (xs.length : Int) then K (.ptrE k b (lo + i).toNat 0) else none) else none
      | _ => none
    | some (.array n e), .tab k xs, .val (.int _ i) => if sizeOf? C.P e = κ.sz k ∧ xs.length = n then (if 0 ≤ i ∧ i < (n : Int) then K (.rop (C.E.enc k (xs.getD i.toNat (C.E.dflt k)))) else none) else none
    | some (.array n e), .rop cs, .val (.int _ i) => if 0 < sizeOf? C.P e then caseK i (fun j => K (.rop (cs.drop (j * sizeOf? C.P e)))) n 0 else none
    | some (.array n e), .ptr b off, .val (.int _ i) => if 0 < sizeOf? C.P e then caseK i (fun j => K (.ptr b (off + j * sizeOf? C.P e))) n 0 else none
    | _, _, _ => none
  | .index t x ix => match C.P.underlying t, ev C s x, ev C s ix with
    | some .string, .val (.string b), .val (.int _ i) => if 0 ≤ i ∧ i < (b.size : Int) then K (.val (.int .u8 (bt b i))) else none
    | some (.array n e), .arr k xs, .val (.int _ i) => if sizeOf? C.P e = κ.sz k ∧ xs.length = n then (if 0 ≤ i ∧ i < (n : Int) then (match part? C.P e (C.E.enc k (xs.getD i.toNat (C.E.dflt k))) with
      | some v => K v
      | none => none) else none) else none
    | some (.array n e), .agg cs, .val (.int _ i) => if 0 < sizeOf? C.P e then caseK i (fun j => match part? C.P e (cs.drop (j * sizeOf? C.P e)) with
      | some v => K v
      | none => none) n 0 else none
    | _, _, _ => none
  | .lookup t x ix ok => match ev C s x with
    | .mp i => match s.S[i]? with
      | some (.mp k xs) => match C.P.underlying t with
        | some (.map kt et) => match keyV C.P kt (ev C s ix), zeroV? C.P et with
          | some m, some z => if m.like (C.E.key k (C.E.dflt k)) = true then (if mhas (C.E.key k) xs m = true
            then K (if ok then .tup [C.E.mval k (mat (C.E.key k) (C.E.dflt k) xs m), .val (.bool true)] else C.E.mval k (mat (C.E.key k) (C.E.dflt k) xs m))
            else K (if ok then .tup [lift z, .val (.bool false)] else lift z)) else none
          | _, _ => none
        | _ => none
      | _ => none
    | _ => none
  | .extract x ix => match ev C s x with
    | .tup vs => match vs[ix]? with
      | some v => K v
      | none => none
    | _ => none
  | .call c => match c.callee with
    | .builtin .len => match c.args.toList, c.argTypes.toList with
      | [x], [t] => match C.P.underlying t, ev C s x with
        | some .string, .val (.string b) => K (.val (.int .i64 (b.size : Int)))
        | some (.slice _), .ro _ xs => K (.val (.int .i64 (xs.length : Int)))
        | some (.slice _), .own k b => match s.S[b]? with
          | some (.rows k' xs) => if k' = k then K (.val (.int .i64 (xs.length : Int))) else none
          | _ => none
        | some (.slice _), .sub k b lo => match s.S[b]? with
          | some (.rows k' xs) => if k' = k then K (.val (.int .i64 ((xs.length : Int) - lo))) else none
          | _ => none
        | some (.slice _), .val (.slice _ n _) => K (.val (.int .i64 (n : Int)))
        | some (.map _ _), .mp b => match s.S[b]? with
          | some (.mp _ xs) => K (.val (.int .i64 (xs.length : Int)))
          | _ => none
        | _, _ => none
      | _, _ => none
    | .builtin .max => match c.args.toList.map (ev C s) with
      | [.val (.int k a), .val (.int _ b)] => K (.val (.int k (max a b)))
      | [.val (.int k a), .val (.int _ b), .val (.int _ c)] => K (.val (.int k (max (max a b) c)))
      | _ => none
    | .builtin .min => match c.args.toList.map (ev C s) with
      | [.val (.int k a), .val (.int _ b)] => K (.val (.int k (min a b)))
      | [.val (.int k a), .val (.int _ b), .val (.int _ c)] => K (.val (.int k (min (min a b) c)))
      | _ => none
    | _ => none
  | _ => none

/-- A new block. -/
def St.fresh (s : St κ) (b : Blk κ) : St κ := { s with S := s.S ++ [b] }
/-- What was known of block i is forgotten everywhere, and it holds b now. -/
def St.turn (s : St κ) (i : Nat) (b : Blk κ) : St κ := { s with env := killL i s.env, S := (s.S.map (Blk.kill i)).set i b }
def St.setB (s : St κ) (i : Nat) (b : Blk κ) : St κ := { s with S := s.S.set i b }

def decL (E : Encs κ) (k : κ.Kc) : List (List (AV κ)) → Option (List (κ.ty k))
  | [] => some []
  | c :: cs => match E.dec k c, decL E k cs with
    | some x, some xs => some (x :: xs)
    | _, _ => none

/-- The rows of a slice that is read (an append's source). -/
def rowsOf (s : St κ) : AV κ → Option ((k : κ.Kc) × List (κ.ty k))
  | .ro k xs => some ⟨k, xs⟩
  | .own k i => match s.S[i]? with
    | some (.rows k' xs) => if k' = k then some ⟨k', xs⟩ else none
    | _ => none
  | _ => none


/-- The Go types of a value's cells. -/
def cellTypes (P : Program) : Nat → TypeId → List TypeId
  | 0, _ => []
  | n + 1, t => match P.underlying t with
    | some (.struct fs) => fs.toList.flatMap fun f => cellTypes P n f.type
    | some (.array m e) => (List.range m).flatMap fun _ => cellTypes P n e
    | _ => [t]
/-- Nil slices become memory of its own that is empty. -/
def nilOwn (P : Program) (kindOf : TypeId → Option κ.Kc) : List (AV κ) → List TypeId → St κ → List (AV κ) × St κ
  | .val (.slice none 0 0) :: cs, t :: ts, s => match P.underlying t with
    | some (.slice e) => match kindOf e with
      | some k => let r := nilOwn P kindOf cs ts (s.fresh (.rows k [])); (.own k s.S.length :: r.1, r.2)
      | none => let r := nilOwn P kindOf cs ts s; (.val (.slice none 0 0) :: r.1, r.2)
    | _ => let r := nilOwn P kindOf cs ts s; (.val (.slice none 0 0) :: r.1, r.2)
  | c :: cs, _ :: ts, s => let r := nilOwn P kindOf cs ts s; (c :: r.1, r.2)
  | cs, _, s => (cs, s)

/-- A store of a value as it is. -/
def storeG {β : Type} (C : Ctx κ) (t : TypeId) (p x : Operand) (s : St κ) (K : AV κ → St κ → Option β) : Option β :=
  let cs := (ev C s x).cells
    if cs.length = sizeOf? C.P t ∧ cs.all AV.one = true ∧ 0 < cs.length then (match ev C s p with
      | .ptr i off => match s.S[i]? with
        | some (.raw u old) => if off + cs.length ≤ old.length then K .bot (s.setB i (.raw u (upd old off cs))) else none
        | _ => none
      | .ptrE k i row col => match s.S[i]? with
        | some (.rows k' xs) => if h : k' = k then (match C.E.dec k (upd (C.E.enc k ((h ▸ xs : List (κ.ty k)).getD row (C.E.dflt k))) col cs) with
          | some x => if col + cs.length ≤ κ.sz k then K .bot (s.setB i (.rows k ((h ▸ xs : List (κ.ty k)).set row x))) else none
          | none => none) else none
        | _ => none
      | _ => none) else none

/-- Operations that make memory or write to it. -/
def loud? {β : Type} (C : Ctx κ) (kindOf : TypeId → Option κ.Kc) (o : Oper) (s : St κ) (K : AV κ → St κ → Option β) : Option β :=
  match o.op with
  | .alloc t => match zeroCells? C.P t with
    | some z => let r := nilOwn C.P kindOf z (cellTypes C.P 8 t) s
      K (.ptr r.2.S.length 0) (r.2.fresh (.raw t r.1))
    | none => none
  | .assign (.const (.slice none 0 0)) => match nilOwn C.P kindOf [.val (.slice none 0 0)] [o.type] s with
    | ([v], s') => K v s'
    | _ => none
  | .box t x => let cs := (ev C s x).cells
    if cs.all AV.one then K (.ptr s.S.length 0) (s.fresh (.raw t cs)) else none
  | .store t p (.const (.slice none 0 0)) => match ev C s p with
    | .ptr i off => match s.S[i]?, C.P.underlying t with
      | some (.raw u old), some (.slice e) => match kindOf e with
        | some k => if sizeOf? C.P t = 1 ∧ off + 1 ≤ old.length then K .bot ((s.fresh (.rows k [])).setB i (.raw u (upd old off [.own k s.S.length]))) else none
        | none => storeG C t p (.const (.slice none 0 0)) s K
      | _, _ => none
    | _ => storeG C t p (.const (.slice none 0 0)) s K
  | .store t p x => storeG C t p x s K
  | .buildSlice t n parts => match C.P.underlying t with
    | some (.slice e) => match kindOf e with
      | some k => if κ.elem k = e ∧ 0 < n ∧ (parts.toList.map (·.1)) = List.range n ∧ n * κ.sz k ≤ 16777216 ∧ (parts.toList.all fun p => (ev C s p.2).cells.all AV.one) = true then
          (match decL C.E k (parts.toList.map fun p => (ev C s p.2).cells) with
          | some xs => K (.own k s.S.length) (s.fresh (.rows k xs))
          | none => none) else none
      | none => none
    | _ => none
  | .makeSlice t l c => match C.P.underlying t, ev C s l, ev C s c with
    | some (.slice e), .val (.int _ l), .val (.int _ c) => match kindOf e with
      | some k => if κ.elem k = e then (match (zeroCells? C.P e).bind (C.E.dec k) with
        | some z => if 0 ≤ l ∧ l ≤ c ∧ c * (κ.bytes k : Int) ≤ (capBytes : Int) then K (.own k s.S.length) (s.fresh (.rows k (List.replicate l.toNat z))) else none
        | none => none) else none
      | none => none
    | _, _, _ => none
  | .makeMap t r => match C.P.underlying t, kindOf t with
    | some (.map _ _), some k => (match r with
      | none => K (.mp s.S.length) (s.fresh (.mp k []))
      | some x => match ev C s x with
        | .val (.int _ _) => K (.mp s.S.length) (s.fresh (.mp k []))
        | _ => none)
    | _, _ => none
  | .mapUpdate t m kx x | .insert t m kx x => match ev C s m with
    | .mp i => match s.S[i]? with
      | some (.mp k xs) => match C.P.underlying t with
        | some (.map kt _) => match keyV C.P kt (ev C s kx) with
          | some mk => match C.E.mmk k mk (ev C s x) with
            | some y => if mk.like (C.E.key k (C.E.dflt k)) = true then K .bot (s.setB i (.mp k (mput (C.E.key k) xs y))) else none
            | none => none
          | none => none
        | _ => none
      | _ => none
    | _ => none
  | .slice t x none (some h) none => match C.P.underlying t, ev C s x, ev C s h with
    | some (.slice e), .own k i, .val (.int _ h) => match s.S[i]? with
      | some (.rows k' xs) => if k' = k ∧ sizeOf? C.P e = κ.sz k then (if 0 ≤ h ∧ h ≤ (xs.length : Int) then K (.own k' i) (s.turn i (.rows k' (xs.take h.toNat))) else none) else none
      | _ => none
    | _, _, _ => none
  | .call c => match c.callee with
    | .builtin .append => match c.args.toList, c.argTypes.toList with
      | [x, y], [t, t'] => if t = t' then (match C.P.underlying t, rowsOf s (ev C s y) with
        | some (.slice e), some ⟨k, ys⟩ => if κ.elem k = e then (match ev C s x with
          | .val (.slice none 0 0) => room (ys.length * κ.bytes k) (K (.own k s.S.length) (s.fresh (.rows k ys)))
          | .own k' i => match s.S[i]? with
            | some (.rows k'' xs) => if h : k'' = k then (if k' = k then (room (((h ▸ xs : List (κ.ty k)).length + ys.length) * κ.bytes k) (K (.own k i) (s.turn i (.rows k ((h ▸ xs : List (κ.ty k)) ++ ys))))) else none) else none
            | _ => none
          | _ => none) else none
        | _, _ => none) else none
      | _, _ => none
    | .value f => match ev C s f with
      | .fn fid caps => C.Γ fid (c.args.toList.map (ev C s) ++ caps) s.S fun v S' m => K v { s with env := kwE m s.env, S := S' }
      | _ => none
    | _ => none
  | _ => none

def isQuiet (o : Oper) : Bool :=
  match o.op with
  | .move _ | .assign _ | .binOp .. | .unOp .. | .convert .. | .nilCheck _ | .load .. | .fieldAddr .. | .field .. | .indexAddr .. | .index .. | .extract .. | .lookup .. | .build .. | .makeFunc .. => true
  | .call { callee := .builtin .len, .. } | .call { callee := .builtin .max, .. } | .call { callee := .builtin .min, .. } => true
  | _ => false

/-- What is noted beside the code: loops and pieces with a summary; in a region the operations whose result is shut for good. -/
inductive Note where
  | none
  | pair (l r : Note)
  | cut (id : Nat)
  | ops (shut : List Nat) (head : Nat)

def Note.l : Note → Note
  | .pair l _ => l
  | n => match n with | .pair l _ => l | _ => .none
def Note.r : Note → Note
  | .pair _ r => r
  | _ => .none
def Note.shut : Note → List Nat
  | .ops l _ => l
  | _ => []
def Note.head : Note → Nat
  | .ops _ n => n
  | _ => 0

/-- Memory of its own that is never written again from here on: a value that is read. -/
def shutV {β : Type} (s : St κ) (v : AV κ) (K : AV κ → St κ → Option β) : Option β :=
  match v with
  | .own k i => match s.S[i]? with
    | some (.rows k' xs) => if k' = k then K (.ro k' xs) (s.turn i .dead) else none
    | _ => none
  | .ptr i 0 => match s.S[i]? with
    | some (.raw _ cs) => if cs.all AV.flat then K (.rop cs) (s.turn i .dead) else none
    | _ => none
  | _ => none

/-- One operation. -/
def step {β : Type} (C : Ctx κ) (kindOf : TypeId → Option κ.Kc) (o : Oper) (s : St κ) (K : AV κ → St κ → Option β) : Option β :=
  match o.op with
  | .pick c a b => match ev C s c with
    | .val (.bool x) => match c with
      | .tmp t => if x = true then K (ev C (s.refine t true) a) (s.refine t true) else K (ev C (s.refine t false) b) (s.refine t false)
      | _ => if x = true then K (ev C s a) s else K (ev C s b) s
    | _ => none
  | .slice _ x lo _ _ => match ev C s x, lo with
    | .own _ _, none => loud? C kindOf o s K
    | _, _ => quiet? C o s fun v => K v s
  | .assign (.const (.slice none 0 0)) => loud? C kindOf o s K
  | _ => if isQuiet o then quiet? C o s fun v => K v s else loud? C kindOf o s K

def stepN {β : Type} (C : Ctx κ) (kindOf : TypeId → Option κ.Kc) (shut : Bool) (o : Oper) (s : St κ) (K : AV κ → St κ → Option β) : Option β :=
  match shut with
  | true => (match o.op with
    | .store _ (.tmp p) _ => step C kindOf o s fun _ s' => shutV s' (s'.get p) fun z s2 => K .bot { s2 with env := s2.env.set p z }
    | _ => step C kindOf o s fun v s' => shutV s' v K)
  | false => step C kindOf o s K

def execL {β : Type} (C : Ctx κ) (kindOf : TypeId → Option κ.Kc) (ops : Array Oper) (shut : List Nat) : Nat → List Oper → St κ → (St κ → Option β) → Option β
  | _, [], s, K => K s
  | i, o :: os, s, K => match o.guard with
    | none => stepN C kindOf (shut.contains i) o s fun v s' => execL C kindOf ops shut (i + 1) os (s'.put o v) K
    | some (j, want) => match (ops[j]?).bind (·.dst) with
      | none => none
      | some t => match s.get t with
        | .val (.bool c) => if c = want then stepN C kindOf (shut.contains i) o (s.refine t want) fun v s' => execL C kindOf ops shut (i + 1) os (s'.put o v) K
            else execL C kindOf ops shut (i + 1) os ((s.refine t (!want)).put o (.val undef)) K
        | .val (.tuple _) => execL C kindOf ops shut (i + 1) os (s.put o (.val undef)) K
        | _ => none

/-- One operation where the order is open: quiet ones alone, and calls that leave memory alone. -/
def stepQ {β : Type} (C : Ctx κ) (o : Oper) (s : St κ) (K : AV κ → St κ → Option β) : Option β :=
  match o.op with
  | .pick c a b => match ev C s c with
    | .val (.bool x) => match c with
      | .tmp t => if x = true then K (ev C (s.refine t true) a) (s.refine t true) else K (ev C (s.refine t false) b) (s.refine t false)
      | _ => if x = true then K (ev C s a) s else K (ev C s b) s
    | _ => none
  | .call ⟨.value f, args, _⟩ => match ev C s f with
    | .fn fid caps => C.Γq fid (args.toList.map (ev C s) ++ caps) s.S fun v => K v s
    | _ => none
  | _ => quiet? C o s fun v => K v s

def execQ {β : Type} (C : Ctx κ) (ops : Array Oper) : List Oper → St κ → (St κ → Option β) → Option β
  | [], s, K => K s
  | o :: os, s, K => match o.guard with
    | none => stepQ C o s fun v s' => execQ C ops os (s'.put o v) K
    | some (j, want) => match (ops[j]?).bind (·.dst) with
      | none => none
      | some t => match s.get t with
        | .val (.bool c) => if c = want then stepQ C o (s.refine t want) fun v s' => execQ C ops os (s'.put o v) K
            else execQ C ops os ((s.refine t (!want)).put o (.val undef)) K
        | .val (.tuple _) => execQ C ops os (s.put o (.val undef)) K
        | _ => none

def execD {β : Type} (C : Ctx κ) (kindOf : TypeId → Option κ.Kc) (ops : Array Oper) (n : Note) (s : St κ) (K : St κ → Option β) : Option β :=
  if n.head = ops.size then (if Region.lexB .any ops = true then execQ C ops ops.toList s K else none)
  else if Region.lexTailB .any ops n.head = true then execQ C ops (ops.toList.take n.head) s fun s' => execL C kindOf ops n.shut n.head (ops.toList.drop n.head) s' K
  else none

def exec {β : Type} (C : Ctx κ) (kindOf : TypeId → Option κ.Kc) : Code → Note → St κ → (Ex → St κ → Option β) → Option β
  | .skip, n, s, K => match n with | .cut id => C.Λ id s K | _ => K .normal s
  | .label _, n, s, K => match n with | .cut id => C.Λ id s K | _ => K .normal s
  | .region _ ops draw, n, s, K => match n with
    | .cut id => C.Λ id s K
    | n => if draw = true then execD C kindOf ops n { s with al := [] } fun s' => K .normal s' else execL C kindOf ops n.shut 0 ops.toList { s with al := [] } fun s' => K .normal s'
  | .seq a b, n, s, K => match n with
    | .cut id => C.Λ id s K
    | n => exec C kindOf a n.l s fun x s' => match x with
      | .normal => exec C kindOf b n.r s' K
      | x => K x s'
  | .cond c a b, n, s, K => match n with
    | .cut id => C.Λ id s K
    | n => match ev C s c with
      | .val (.bool x) => match c with
        | .tmp t => if x = true then exec C kindOf a n.l ({ s with al := [] }.refine t true) K else exec C kindOf b n.r ({ s with al := [] }.refine t false) K
        | _ => if x = true then exec C kindOf a n.l s K else exec C kindOf b n.r s K
      | _ => none
  | .block id c, n, s, K => match n with
    | .cut id => C.Λ id s K
    | n => exec C kindOf c n.l s fun x s' => match x with
      | .exit j => if j = id then K .normal s' else K (.exit j) s'
      | x => K x s'
  | .loop _, n, s, K => match n with | .cut id => C.Λ id s K | _ => none
  | .exit id, n, s, K => match n with | .cut id => C.Λ id s K | _ => K (.exit id) s
  | .ret, n, s, K => match n with | .cut id => C.Λ id s K | _ => K .ret s
  | _, _, _, _ => none
end
end Go.Am
end

section
namespace Go.Am
open Go.RowKit
variable {κ : Kinds}

structure Pl where
  g : Option Nat
  len : Nat
  cap : Nat

def FCell (F : Nat → Option Obj) (b o : Nat) : Option Value :=
  match F b with
  | some (.cells c _ _) => c[o]?
  | _ => none

/-- A frozen block of just so many cells. -/
def TabAt (F : Nat → Option Obj) (b n : Nat) : Prop := ∃ c t fr, F b = some (.cells c t fr) ∧ c.size = n

inductive Rep (E : Encs κ) (F : Nat → Option Obj) (φ : Nat → Option Pl) : AV κ → Value → Prop
  | bot (u : Value) : Rep E F φ .bot u
  | val (v : Value) : Rep E F φ (.val v) v
  | agg (cs : List (AV κ)) (us : Array Value) (hl : cs.length = us.size) (h : ∀ (j : Nat) (c : AV κ) (u : Value), cs[j]? = some c → us[j]? = some u → Rep E F φ c u) : Rep E F φ (.agg cs) (.agg us)
  | tup (cs : List (AV κ)) (us : Array Value) (hl : cs.length = us.size) (h : ∀ (j : Nat) (c : AV κ) (u : Value), cs[j]? = some c → us[j]? = some u → Rep E F φ c u) : Rep E F φ (.tup cs) (.tuple us)
  | ro (k : κ.Kc) (xs : List (κ.ty k)) (b off cap : Nat) (us : Nat → Nat → Value) (hcap : xs.length ≤ cap)
      (hc : ∀ r j, r < xs.length → j < κ.sz k → FCell F b (off + (r * κ.sz k + j)) = some (us r j))
      (h : ∀ (r : Nat) (x : κ.ty k) (j : Nat) (c : AV κ), xs[r]? = some x → (E.enc k x)[j]? = some c → Rep E F φ c (us r j)) : Rep E F φ (.ro k xs) (.slice (some ⟨b, off, none⟩) xs.length cap)
  | roNil (k : κ.Kc) : Rep E F φ (.ro k []) (.slice none 0 0)
  | roEmp (k : κ.Kc) (a : Addr) (cap : Nat) : Rep E F φ (.ro k []) (.slice (some a) 0 cap)
  | rop (cs : List (AV κ)) (b off : Nat) (us : Nat → Value) (hc : ∀ j, j < cs.length → FCell F b (off + j) = some (us j))
      (h : ∀ (j : Nat) (c : AV κ), cs[j]? = some c → Rep E F φ c (us j)) : Rep E F φ (.rop cs) (.pointer (some ⟨b, off, none⟩))
  | arr (k : κ.Kc) (xs : List (κ.ty k)) (u : Value) (h : Rep E F φ (.agg (xs.flatMap (E.enc k))) u) : Rep E F φ (.arr k xs) u
  | tab (k : κ.Kc) (xs : List (κ.ty k)) (b : Nat) (hx : TabAt F b (xs.length * κ.sz k)) (h : Rep E F φ (.rop (xs.flatMap (E.enc k))) (.pointer (some ⟨b, 0, none⟩))) : Rep E F φ (.tab k xs) (.pointer (some ⟨b, 0, none⟩))
  | own (k : κ.Kc) (i : Nat) (p : Pl) (g : Nat) (h : φ i = some p) (hg : p.g = some g) : Rep E F φ (.own k i) (.slice (some ⟨g, 0, none⟩) p.len p.cap)
  | ownNil (k : κ.Kc) (i : Nat) (p : Pl) (h : φ i = some p) (hg : p.g = none) : Rep E F φ (.own k i) (.slice none 0 0)
  | sub (k : κ.Kc) (i : Nat) (lo : Int) (p : Pl) (ad : Option Addr) (cap : Nat) (h : φ i = some p) (h0 : 0 ≤ lo) (hl : lo ≤ (p.len : Int))
      (ha : lo < (p.len : Int) → ∃ g, p.g = some g ∧ ad = some ⟨g, lo.toNat * κ.sz k, none⟩) : Rep E F φ (.sub k i lo) (.slice ad (p.len - lo.toNat) cap)
  | ptr (i off : Nat) (p : Pl) (g : Nat) (h : φ i = some p) (hg : p.g = some g) : Rep E F φ (.ptr i off) (.pointer (some ⟨g, off, none⟩))
  | ptrE (k : κ.Kc) (i row col : Nat) (p : Pl) (g : Nat) (h : φ i = some p) (hg : p.g = some g) (hr : row < p.len) : Rep E F φ (.ptrE k i row col) (.pointer (some ⟨g, row * κ.sz k + col, none⟩))
  | optrN (i : Nat) : Rep E F φ (.optr i) (.pointer none)
  | optr (i : Nat) (p : Pl) (g : Nat) (h : φ i = some p) (hg : p.g = some g) : Rep E F φ (.optr i) (.pointer (some ⟨g, 0, none⟩))
  | mp (i : Nat) (p : Pl) (g : Nat) (h : φ i = some p) (hg : p.g = some g) : Rep E F φ (.mp i) (.map (some g))
  | fn (f : FuncId) (cs : List (AV κ)) (us : Array Value) (hl : cs.length = us.size) (h : ∀ (j : Nat) (c : AV κ) (u : Value), cs[j]? = some c → us[j]? = some u → Rep E F φ c u) : Rep E F φ (.fn f cs) (.func (.func f) #[] us)

variable {E : Encs κ} {F F' : Nat → Option Obj} {φ φ' : Nat → Option Pl}

def Le (F F' : Nat → Option Obj) : Prop := ∀ b o, F b = some o → F' b = some o
theorem Le.refl (F : Nat → Option Obj) : Le F F := fun _ _ h => h
theorem Le.trans {F G H : Nat → Option Obj} (h : Le F G) (k : Le G H) : Le F H := fun b o x => k b o (h b o x)
theorem FCell.mono (h : Le F F') {b o : Nat} {v : Value} (hc : FCell F b o = some v) : FCell F' b o = some v := by
  unfold FCell at *
  cases hb : F b with
  | none => rw [hb] at hc; simp at hc
  | some x => rw [hb] at hc; rw [h b x hb]; exact hc

theorem Rep.mono (hF : Le F F') {v : AV κ} {u : Value} (h : Rep E F φ v u) : Rep E F' φ v u := by
  induction h with
  | bot u => exact .bot u
  | val v => exact .val v
  | agg cs us hl _ ih => exact .agg cs us hl ih
  | tup cs us hl _ ih => exact .tup cs us hl ih
  | ro k xs b off cap us hcap hc _ ih => exact .ro k xs b off cap us hcap (fun r j h1 h2 => FCell.mono hF (hc r j h1 h2)) ih
  | roNil k => exact .roNil k
  | roEmp k a cap => exact .roEmp k a cap
  | rop cs b off us hc _ ih => exact .rop cs b off us (fun j hj => FCell.mono hF (hc j hj)) ih
  | arr k xs u _ ih => exact .arr k xs u ih
  | tab k xs b hx _ ih => exact .tab k xs b (by obtain ⟨c, ty, fr, h1, h2⟩ := hx; exact ⟨c, ty, fr, hF _ _ h1, h2⟩) ih
  | own k i p g h hg => exact .own k i p g h hg
  | ownNil k i p h hg => exact .ownNil k i p h hg
  | sub k i lo p ad cap h h0 hl ha => exact .sub k i lo p ad cap h h0 hl ha
  | ptr i off p g h hg => exact .ptr i off p g h hg
  | ptrE k i row col p g h hg hr => exact .ptrE k i row col p g h hg hr
  | optrN i => exact .optrN i
  | optr i p g h hg => exact .optr i p g h hg
  | mp i p g h hg => exact .mp i p g h hg
  | fn f cs us hl _ ih => exact .fn f cs us hl ih

theorem killL_get (i : Nat) : ∀ (cs : List (AV κ)) (j : Nat), (killL i cs)[j]? = (cs[j]?).map (AV.kill i)
  | [], j => by simp [killL]
  | c :: cs, 0 => by simp [killL]
  | c :: cs, j + 1 => by simp [killL, killL_get i cs j]
theorem killL_length (i : Nat) : ∀ (cs : List (AV κ)), (killL i cs).length = cs.length
  | [] => rfl
  | c :: cs => by simp [killL, killL_length i cs]
theorem kill_flat (i : Nat) {c : AV κ} (h : c.flat = true) : c.kill i = c := by
  cases c <;> simp [AV.flat] at h <;> simp [AV.kill]

theorem killL_flat (i : Nat) : ∀ {cs : List (AV κ)}, (∀ c ∈ cs, c.flat = true) → killL i cs = cs
  | [], _ => rfl
  | c :: cs, h => by rw [killL, kill_flat i (h c List.mem_cons_self), killL_flat i fun c hc => h c (List.mem_cons_of_mem _ hc)]
theorem flats {E : Encs κ} (hE : E.Ok) {k : κ.Kc} {xs : List (κ.ty k)} : ∀ c ∈ xs.flatMap (E.enc k), c.flat = true := fun c hc => by
  obtain ⟨x, _, h⟩ := List.mem_flatMap.1 hc
  exact hE.flat k x c h
theorem Rep.kill {i : Nat} (hφ : ∀ j, j ≠ i → φ' j = φ j) (hE : E.Ok) {v : AV κ} {u : Value} (h : Rep E F φ v u) : Rep E F φ' (v.kill i) u := by
  induction h with
  | bot u => exact .bot u
  | val v => exact .val v
  | agg cs us hl _ ih =>
    refine .agg _ us (by rw [killL_length]; exact hl) fun j c u hc hu => ?_
    rw [killL_get] at hc
    obtain ⟨c', hc', rfl⟩ := Option.map_eq_some_iff.1 hc
    exact ih j c' u hc' hu
  | tup cs us hl _ ih =>
    refine .tup _ us (by rw [killL_length]; exact hl) fun j c u hc hu => ?_
    rw [killL_get] at hc
    obtain ⟨c', hc', rfl⟩ := Option.map_eq_some_iff.1 hc
    exact ih j c' u hc' hu
  | ro k xs b off cap us hcap hc _ ih =>
    refine .ro k xs b off cap us hcap hc fun r x j c hx hj => ?_
    have := ih r x j c hx hj
    rwa [kill_flat i (hE.flat k x c (List.mem_of_getElem? hj))] at this
  | roNil k => exact .roNil k
  | roEmp k a cap => exact .roEmp k a cap
  | rop cs b off us hc _ ih =>
    refine .rop _ b off us (fun j hj => hc j (by rwa [killL_length] at hj)) fun j c hj => ?_
    rw [killL_get] at hj
    obtain ⟨c', hc', rfl⟩ := Option.map_eq_some_iff.1 hj
    exact ih j c' hc'
  | arr k xs u _ ih =>
    refine .arr k xs u ?_
    have : AV.kill i (.agg (xs.flatMap (E.enc k))) = .agg (xs.flatMap (E.enc k)) := by rw [AV.kill, killL_flat i (flats hE)]
    rwa [this] at ih
  | tab k xs b hx _ ih =>
    refine .tab k xs b hx ?_
    have : AV.kill i (.rop (xs.flatMap (E.enc k))) = .rop (xs.flatMap (E.enc k)) := by rw [AV.kill, killL_flat i (flats hE)]
    rwa [this] at ih
  | own k j p g h hg =>
    unfold AV.kill
    split
    · exact .bot _
    · rename_i hne; exact .own k j p g (by rw [hφ j hne]; exact h) hg
  | ownNil k j p h hg =>
    unfold AV.kill
    split
    · exact .bot _
    · rename_i hne; exact .ownNil k j p (by rw [hφ j hne]; exact h) hg
  | sub k j lo p ad cap h h0 hl ha =>
    unfold AV.kill
    split
    · exact .bot _
    · rename_i hne; exact .sub k j lo p ad cap (by rw [hφ j hne]; exact h) h0 hl ha
  | ptr j off p g h hg =>
    unfold AV.kill
    split
    · exact .bot _
    · rename_i hne; exact .ptr j off p g (by rw [hφ j hne]; exact h) hg
  | ptrE k j row col p g h hg hr =>
    unfold AV.kill
    split
    · exact .bot _
    · rename_i hne; exact .ptrE k j row col p g (by rw [hφ j hne]; exact h) hg hr
  | optrN j =>
    unfold AV.kill
    split
    · exact .bot _
    · exact .optrN j
  | optr j p g h hg =>
    unfold AV.kill
    split
    · exact .bot _
    · rename_i hne; exact .optr j p g (by rw [hφ j hne]; exact h) hg
  | mp j p g h hg =>
    unfold AV.kill
    split
    · exact .bot _
    · rename_i hne; exact .mp j p g (by rw [hφ j hne]; exact h) hg
  | fn f cs us hl _ ih =>
    refine .fn f _ us (by rw [killL_length]; exact hl) fun j c u hc hu => ?_
    rw [killL_get] at hc
    obtain ⟨c', hc', rfl⟩ := Option.map_eq_some_iff.1 hc
    exact ih j c' u hc' hu

/-- Places that stay: what was known stays known. -/
theorem Rep.place (hφ : ∀ j p, φ j = some p → φ' j = some p) {v : AV κ} {u : Value} (h : Rep E F φ v u) : Rep E F φ' v u := by
  induction h with
  | bot u => exact .bot u
  | val v => exact .val v
  | agg cs us hl _ ih => exact .agg cs us hl ih
  | tup cs us hl _ ih => exact .tup cs us hl ih
  | ro k xs b off cap us hcap hc _ ih => exact .ro k xs b off cap us hcap hc ih
  | roNil k => exact .roNil k
  | roEmp k a cap => exact .roEmp k a cap
  | rop cs b off us hc _ ih => exact .rop cs b off us hc ih
  | arr k xs u _ ih => exact .arr k xs u ih
  | tab k xs b hx _ ih => exact .tab k xs b hx ih
  | own k i p g h hg => exact .own k i p g (hφ i p h) hg
  | ownNil k i p h hg => exact .ownNil k i p (hφ i p h) hg
  | sub k i lo p ad cap h h0 hl ha => exact .sub k i lo p ad cap (hφ i p h) h0 hl ha
  | ptr i off p g h hg => exact .ptr i off p g (hφ i p h) hg
  | ptrE k i row col p g h hg hr => exact .ptrE k i row col p g (hφ i p h) hg hr
  | optrN i => exact .optrN i
  | optr i p g h hg => exact .optr i p g (hφ i p h) hg
  | mp i p g h hg => exact .mp i p g (hφ i p h) hg
  | fn f cs us hl _ ih => exact .fn f cs us hl ih

theorem Rep.flat (hE : E.Ok) {v : AV κ} {u : Value} (h : Rep E F φ v u) (hf : v.flat = true) : Rep E F φ' v u ∧ u.oneCell' = true := by
  induction h with
  | val v => exact ⟨.val v, hf⟩
  | ro k xs b off cap us hcap hc _ ih => exact ⟨.ro k xs b off cap us hcap hc fun r x j c hx hj => (ih r x j c hx hj (hE.flat k x c (List.mem_of_getElem? hj))).1, rfl⟩
  | roNil k => exact ⟨.roNil k, rfl⟩
  | roEmp k a cap => exact ⟨.roEmp k a cap, rfl⟩
  | _ => simp [AV.flat] at hf
theorem Rep.still (hE : E.Ok) {v : AV κ} {u : Value} (h : Rep E F φ v u) (hf : v.still = true) : Rep E F φ' v u := by
  cases h with
  | val _ => exact .val _
  | agg cs us hl h =>
    simp only [AV.still] at hf
    exact .agg cs us hl fun j c u hc hu => ((h j c u hc hu).flat hE (List.all_eq_true.1 hf c (List.mem_of_getElem? hc))).1
  | ro k xs b off cap us hcap hc h => exact ((Rep.ro k xs b off cap us hcap hc h).flat hE rfl).1
  | roNil k => exact .roNil k
  | roEmp k a cap => exact .roEmp k a cap
  | _ => simp [AV.still, AV.flat] at hf
theorem Rep.one {v : AV κ} {u : Value} (h : Rep E F φ v u) (hf : v.one = true) : u.oneCell' = true := by
  cases h <;> first | exact hf | rfl | simp [AV.one] at hf

/-- What is known of one block of the call's own. -/
def OwnB (E : Encs κ) (F : Nat → Option Obj) (φ : Nat → Option Pl) (w : World) (i : Nat) : Blk κ → Prop
  | .dead => φ i = none
  | .raw t cs => ∃ p g cur, φ i = some p ∧ p.g = some g ∧ w.heap[g]? = some (.cells cur t (0, 0)) ∧ cur.size = cs.length ∧ ∀ (j : Nat) (c : AV κ) (u : Value), cs[j]? = some c → cur[j]? = some u → Rep E F φ c u
  | .rows k xs => ∃ p, φ i = some p ∧ p.len = xs.length ∧ ((p.g = none ∧ xs = []) ∨ ∃ g cur, p.g = some g ∧ w.heap[g]? = some (.cells cur (κ.elem k) (0, 0)) ∧ cur.size = p.cap * κ.sz k ∧ xs.length ≤ p.cap ∧ p.cap ≤ maxLen ∧
      ∀ (r : Nat) (x : κ.ty k) (j : Nat) (c : AV κ) (u : Value), xs[r]? = some x → (E.enc k x)[j]? = some c → cur[r * κ.sz k + j]? = some u → Rep E F φ c u)

  | .mp k xs => ∃ p g es clock, φ i = some p ∧ p.g = some g ∧ w.heap[g]? = some (.map es clock) ∧ es.size = xs.length ∧ (es.toList.map (·.key)).Nodup ∧
      ∀ (r : Nat) (x : κ.ty k) (e : MapEntry), xs[r]? = some x → es[r]? = some e → e.key = (E.key k x).toV ∧ Rep E F φ (E.mval k x) e.val

structure Rel (E : Encs κ) (F : Nat → Option Obj) (φ : Nat → Option Pl) (S : List (Blk κ)) (w : World) : Prop where
  frz : ∀ b o, F b = some o → w.heap[b]? = some o
  blk : ∀ i b, S[i]? = some b → OwnB E F φ w i b
  out : ∀ i, S.length ≤ i → φ i = none
  inj : ∀ i j p q g, φ i = some p → φ j = some q → p.g = some g → q.g = some g → i = j
  apart : ∀ i p g, φ i = some p → p.g = some g → F g = none
  lt : ∀ i p g, φ i = some p → p.g = some g → g < w.heap.size

def Held (φ : Nat → Option Pl) (b : Nat) : Prop := ∃ i p, φ i = some p ∧ p.g = some b

/-- From one moment to a later one. -/
structure Mv (w : World) (F : Nat → Option Obj) (φ : Nat → Option Pl) (w' : World) (F' : Nat → Option Obj) (φ' : Nat → Option Pl) : Prop where
  os : w'.os = w.os
  tape : w'.tape = w.tape
  output : w'.output = w.output
  size : w.heap.size ≤ w'.heap.size
  keep : ∀ b, b < w.heap.size → ¬ Held φ b → w'.heap[b]? = w.heap[b]?
  held : ∀ b, Held φ' b → b < w.heap.size → Held φ b
  le : Le F F'
  new : ∀ b o, F' b = some o → F b = none → w.heap.size ≤ b ∨ Held φ b

theorem Mv.refl (w : World) (F : Nat → Option Obj) (φ : Nat → Option Pl) : Mv w F φ w F φ :=
  ⟨rfl, rfl, rfl, Nat.le_refl _, fun _ _ _ => rfl, fun _ h _ => h, Le.refl F, fun b o h h' => by rw [h'] at h; cases h⟩
theorem Mv.trans {w w1 w2 : World} {F F1 F2 : Nat → Option Obj} {φ φ1 φ2 : Nat → Option Pl} (h : Mv w F φ w1 F1 φ1) (k : Mv w1 F1 φ1 w2 F2 φ2) : Mv w F φ w2 F2 φ2 where
  os := k.os.trans h.os
  tape := k.tape.trans h.tape
  output := k.output.trans h.output
  size := Nat.le_trans h.size k.size
  keep b hb hn := (k.keep b (Nat.lt_of_lt_of_le hb h.size) fun h1 => hn (h.held b h1 hb)).trans (h.keep b hb hn)
  held b h2 hb := h.held b (k.held b h2 (Nat.lt_of_lt_of_le hb h.size)) hb
  le := h.le.trans k.le
  new b o h2 h0 := by
    cases h1 : F1 b with
    | some x =>
      exact h.new b x h1 h0
    | none =>
      rcases k.new b o h2 h1 with h3 | h3
      · exact .inl (Nat.le_trans h.size h3)
      · rcases Nat.lt_or_ge b w.heap.size with hb | hb
        · exact .inr (h.held b h3 hb)
        · exact .inl hb

structure Good (E : Encs κ) (G : Nat → AV κ) (a : Act) (w : World) (s : St κ) (F : Nat → Option Obj) (φ : Nat → Option Pl) : Prop where
  rel : Rel E F φ s.S w
  env : ∀ (t : Nat) (v : AV κ), s.env[t]? = some v → Rep E F φ v (a.tmps.getD t undef)
  size : a.tmps.size = s.env.length
  defers : a.defers = []
  al : ∀ p, p ∈ s.al → a.tmps.getD p.1 undef = a.tmps.getD p.2 undef
  glob : ∀ (g : Nat) (ψ : Nat → Option Pl), Rep E F ψ (G g) (.pointer (some ⟨g, 0, none⟩))
end Go.Am
end

section
namespace Go.Am
open Go.RowKit
variable {κ : Kinds} {E : Encs κ} {F F' : Nat → Option Obj} {φ φ' : Nat → Option Pl} {P : Program}

theorem pureRun_sound {α : Type} {m : Sem α} {v : α} (h : pureRun P m = some v) (w : World) : m.run P w = .ok v w := by
  induction m with
  | pure a => simp only [pureRun, Option.some.injEq] at h; subst h; rfl
  | program k ih => simp only [pureRun] at h; exact ih P h
  | _ => simp [pureRun] at h

theorem lift_rep (v : Value) : Rep E F φ (lift v : AV κ) v := by
  unfold lift
  split
  · rename_i cs
    refine .agg _ cs (by simp) fun j c u hc hu => ?_
    rw [List.getElem?_map] at hc
    obtain ⟨x, hx, rfl⟩ := Option.map_eq_some_iff.1 hc
    rw [Array.getElem?_toList, hu] at hx
    obtain rfl := Option.some.inj hx
    exact .val _
  · rename_i f cs
    refine .fn f _ cs (by simp) fun j c u hc hu => ?_
    rw [List.getElem?_map] at hc
    obtain ⟨x, hx, rfl⟩ := Option.map_eq_some_iff.1 hc
    rw [Array.getElem?_toList, hu] at hx
    obtain rfl := Option.some.inj hx
    exact .val _
  · exact .val _

variable {C : Ctx κ} {a : Act} {w : World} {s : St κ}

theorem env_rep (h : Good C.E C.glob a w s F φ) (t : Nat) : Rep C.E F φ (s.env.getD t .bot) (a.tmps.getD t undef) := by
  rw [List.getD_eq_getElem?_getD]
  cases ht : s.env[t]? with
  | none => exact .bot _
  | some v => exact h.env t v ht
theorem ev_rep (h : Good C.E C.glob a w s F φ) (x : Operand) : Rep C.E F φ (ev C s x) (a.eval x) := by
  cases x with
  | tmp t => exact env_rep h t
  | const v => exact lift_rep v
  | global g => exact h.glob g φ
  | func f => exact .fn f [] #[] rfl fun j c u hc _ => by simp at hc

/-- All blocks of w lie in w'. -/
def Sub (w w' : World) : Prop := ∀ (b : Nat) (o : Obj), w.heap[b]? = some o → w'.heap[b]? = some o
theorem Sub.refl (w : World) : Sub w w := fun _ _ h => h

theorem cell_at {w : World} {b o : Nat} {c : Array Value} {e : TypeId} {fr : Nat × Nat} (h : w.heap[b]? = some (.cells c e fr)) : w.cell? ⟨b, o, none⟩ = c[o]? := by
  simp [World.cell?, h]
theorem fcell_cell (hF : ∀ b o, F b = some o → w.heap[b]? = some o) {b o : Nat} {v : Value} (h : FCell F b o = some v) : w.cell? ⟨b, o, none⟩ = some v := by
  unfold FCell at h
  split at h
  · rename_i c e fr hb
    rw [cell_at (hF _ _ hb)]; exact h
  · cases h

/-- From a pointer on memory reads as told, in every world that holds what this one holds. -/
theorem cellsAt_sound (hE : C.E.Ok) (h : Good C.E C.glob a w s F φ) {p : AV κ} {u : Value} (hp : Rep C.E F φ p u) {cs : List (AV κ)} (hc : cellsAt C.E s.S p = some cs) :
    ∃ b off, u = .pointer (some ⟨b, off, none⟩) ∧ ∃ us : Nat → Value, (∀ j, j < cs.length → ∀ w', Sub w w' → w'.cell? ⟨b, off + j, none⟩ = some (us j)) ∧ ∀ (j : Nat) (c : AV κ), cs[j]? = some c → Rep C.E F φ c (us j) := by
  cases p with
  | rop cs' =>
    simp only [cellsAt, Option.some.injEq] at hc
    subst hc
    cases hp with
    | rop _ b off us hc h' => exact ⟨b, off, rfl, us, fun j hj w' hw => fcell_cell (fun b o x => hw b o (h.rel.frz b o x)) (hc j hj), h'⟩
  | ptr i off =>
    simp only [cellsAt] at hc
    split at hc
    · rename_i t old hS
      simp only [Option.some.injEq] at hc
      subst hc
      cases hp with
      | ptr _ _ p g hφ hpg =>
        obtain ⟨p', g', cur, h1, hg', h2, h3, h4⟩ := h.rel.blk i _ hS
        obtain rfl := Option.some.inj (hφ.symm.trans h1)
        obtain rfl := Option.some.inj (hpg.symm.trans hg')
        refine ⟨g, off, rfl, fun j => cur.getD (off + j) undef, fun j hj w' hw => ?_, fun j c hj => ?_⟩
        · rw [cell_at (hw _ _ h2)]
          have : off + j < cur.size := by simp at hj; omega
          simp [this]
        · rw [List.getElem?_drop] at hj
          have hlt : off + j < cur.size := by rw [h3]; exact (List.getElem?_eq_some_iff.1 hj).1
          refine h4 _ _ _ hj ?_
          simp [hlt]
    · cases hc
  | ptrE k i row col =>
    simp only [cellsAt] at hc
    split at hc
    · rename_i k' xs hS
      split at hc
      · rename_i hk
        subst hk
        simp only [Option.some.injEq] at hc
        subst hc
        cases hp with
        | ptrE _ _ _ _ p g hφ hpg hr =>
          obtain ⟨p', h1, h4, hh⟩ := h.rel.blk i _ hS
          obtain rfl := Option.some.inj (hφ.symm.trans h1)
          rcases hh with ⟨hn, _⟩ | ⟨g', cur, hg', h2, h3, h5, h6, h7⟩
          · rw [hpg] at hn; cases hn
          obtain rfl := Option.some.inj (hpg.symm.trans hg')
          have hrow : row < xs.length := by omega
          have hget : xs.getD row (C.E.dflt k') = xs[row] := by rw [List.getD_eq_getElem?_getD, List.getElem?_eq_getElem hrow]; rfl
          have hlen := hE.len k' (xs[row])
          have hmul : (row + 1) * κ.sz k' ≤ p.cap * κ.sz k' := Nat.mul_le_mul_right _ (by omega)
          rw [Nat.add_mul, Nat.one_mul] at hmul
          refine ⟨g, row * κ.sz k' + col, rfl, fun j => cur.getD (row * κ.sz k' + col + j) undef, fun j hj w' hw => ?_, fun j c hj => ?_⟩
          · rw [cell_at (hw _ _ h2)]
            rw [hget] at hj
            have : row * κ.sz k' + col + j < cur.size := by simp at hj; omega
            simp [this]
          · rw [hget, List.getElem?_drop] at hj
            have hlt : col + j < κ.sz k' := by rw [← hlen]; exact (List.getElem?_eq_some_iff.1 hj).1
            have hlt2 : row * κ.sz k' + col + j < cur.size := by omega
            refine h7 row _ (col + j) c _ (List.getElem?_eq_getElem hrow) hj ?_
            simp [← Nat.add_assoc, hlt2]
      · cases hc
    · cases hc
  | _ => simp [cellsAt] at hc

theorem info_size {t : TypeId} {i : TypeInfo} (h : P.info? t = some i) : sizeOf? P t = i.size := by simp [sizeOf?, h]
theorem run_sizeOf' {t : TypeId} {i : TypeInfo} (h : P.info? t = some i) (w : World) : (sizeOf t).run P w = .ok i.size w := by
  simp [sizeOf, typeInfo, h]
def aggD : TypeDesc → Bool
  | .struct _ | .array _ _ => true
  | _ => false
theorem run_isAgg' {t : TypeId} {d : TypeDesc} (h : P.underlying t = some d) (w : World) : (isAgg t).run P w = .ok (aggD d) w := by
  unfold isAgg
  simp only [Sem.run_bind, run_underlying h, Result.andThen_ok]
  cases d <;> rfl

theorem part_load {t : TypeId} {cs : List (AV κ)} {v : AV κ} (h : part? P t cs = some v) {us : Nat → Value} (hr : ∀ (j : Nat) (c : AV κ), cs[j]? = some c → Rep E F φ c (us j)) :
    ∃ u, Rep E F φ v u ∧ ∀ (w : World) b off, (∀ j, j < cs.length → w.cell? ⟨b, off + j, none⟩ = some (us j)) → (loadVar t ⟨b, off, none⟩).run P w = .ok u w := by
  unfold part? at h
  have agg : ∀ (i : TypeInfo) (d : TypeDesc), P.underlying t = some d → P.info? t = some i → aggD d = true → (if i.size ≤ cs.length then some (AV.agg (cs.take i.size)) else none) = some v →
      ∃ u, Rep E F φ v u ∧ ∀ (w : World) b off, (∀ j, j < cs.length → w.cell? ⟨b, off + j, none⟩ = some (us j)) → (loadVar t ⟨b, off, none⟩).run P w = .ok u w := by
    intro i d hd hi hb h
    split at h
    · rename_i hle
      simp only [Option.some.injEq] at h
      subst h
      refine ⟨.agg ((List.range i.size).map us).toArray, .agg _ _ (by simp; omega) fun j c u hc hu => ?_, fun w b off hw => ?_⟩
      · rw [List.getElem?_take] at hc
        split at hc
        · rename_i hj
          simp [List.getElem?_range hj] at hu
          subst hu
          exact hr j c hc
        · cases hc
      · have hl := run_loadCells_list (P := P) (w := w) ⟨b, off, none⟩ ((List.range i.size).map us) (fun j v hj => by
          rw [Addr.add_lit]
          rw [List.getElem?_map] at hj
          obtain ⟨x, hx, rfl⟩ := Option.map_eq_some_iff.1 hj
          have hlt : j < i.size := by have := (List.getElem?_eq_some_iff.1 hx).1; simpa using this
          rw [List.getElem?_range hlt] at hx
          obtain rfl := Option.some.inj hx
          exact hw j (by omega))
        simp only [List.length_map, List.length_range] at hl
        simp [loadVar, Sem.run_bind, run_isAgg' hd, hb, run_sizeOf' hi, hl]
    · cases h
  cases hd : P.underlying t with
  | none => simp [hd] at h
  | some d =>
    cases hi : P.info? t with
    | none => rw [hd, hi] at h; cases d <;> simp at h
    | some i =>
      rw [hd, hi] at h
      cases hb : aggD d with
      | true => exact agg i d hd hi hb (by cases d <;> first | exact h | simp [aggD] at hb)
      | false =>
        have h' : cs.head? = some v := by cases d <;> first | exact h | simp [aggD] at hb
        refine ⟨us 0, hr 0 v (by rw [← List.head?_eq_getElem?]; exact h'), fun w b off hw => ?_⟩
        have hc := hw 0 (by cases cs <;> simp at h' ⊢)
        rw [Nat.add_zero] at hc
        simp [loadVar, Sem.run_bind, run_isAgg' hd, hb, load, Sem.run, hc]
end Go.Am
end

section
namespace Go.Am
open Go.RowKit
variable {κ : Kinds} {E : Encs κ} {F F' : Nat → Option Obj} {φ φ' : Nat → Option Pl} {P : Program} {C : Ctx κ} {a : Act} {w : World} {s : St κ} {o : Oper}

theorem part_agg {t : TypeId} {cs : List (AV κ)} {us : Array Value} {off : Nat} {v : AV κ} (h : part? P t (cs.drop off) = some v) (hl : cs.length = us.size) (hr : ∀ (j : Nat) (c : AV κ) (u : Value), cs[j]? = some c → us[j]? = some u → Rep E F φ c u) :
    ∃ u, Rep E F φ v u ∧ ∀ w, (part t us off).run P w = .ok u w := by
  unfold part? at h
  have agg : ∀ (i : TypeInfo) (d : TypeDesc), P.underlying t = some d → P.info? t = some i → aggD d = true → (if i.size ≤ (cs.drop off).length then some (AV.agg ((cs.drop off).take i.size)) else none) = some v →
      ∃ u, Rep E F φ v u ∧ ∀ w, (part t us off).run P w = .ok u w := by
    intro i d hd hi hb h
    split at h
    · rename_i hle
      simp only [Option.some.injEq] at h
      subst h
      simp only [List.length_drop] at hle
      refine ⟨.agg (us.extract off (off + i.size)), .agg _ _ (by simp; omega) fun j c u hc hu => ?_, fun w => ?_⟩
      · rw [List.getElem?_take] at hc
        split at hc
        · rename_i hj
          rw [List.getElem?_drop] at hc
          have : us[off + j]? = some u := by
            rw [Array.getElem?_extract] at hu
            split at hu
            · exact hu
            · cases hu
          exact hr _ _ _ hc this
        · cases hc
      · simp [part, Sem.run_bind, run_isAgg' hd, hb, run_sizeOf' hi]
    · cases h
  cases hd : P.underlying t with
  | none => simp [hd] at h
  | some d =>
    cases hi : P.info? t with
    | none => rw [hd, hi] at h; cases d <;> simp at h
    | some i =>
      rw [hd, hi] at h
      cases hb : aggD d with
      | true => exact agg i d hd hi hb (by cases d <;> first | exact h | simp [aggD] at hb)
      | false =>
        have h' : (cs.drop off).head? = some v := by cases d <;> first | exact h | simp [aggD] at hb
        rw [List.head?_eq_getElem?, List.getElem?_drop, Nat.add_zero] at h'
        have hlt : off < us.size := by rw [← hl]; exact (List.getElem?_eq_some_iff.1 h').1
        refine ⟨us[off], hr off v _ h' (by simp [hlt]), fun w => ?_⟩
        simp [part, Sem.run_bind, run_isAgg' hd, hb, hlt]

/-- A load from memory of its own. -/
def ownLoad (C : Ctx κ) (o : Oper) (s : St κ) : Bool := match o.op with
  | .load _ x => match ev C s x with
    | .rop _ | .tab _ _ => false
    | _ => true
  | .convert _ _ x => match ev C s x with
    | .own _ _ => true
    | _ => false
  | .lookup _ _ _ _ => true
  | .call c => match c.callee with
    | .builtin .len => match c.args.toList with
      | [x] => match ev C s x with
        | .mp _ => true
        | _ => false
      | _ => false
    | _ => false
  | _ => false
/-- What is frozen stands. -/
def Fr (F : Nat → Option Obj) (w : World) : Prop := ∀ b o, F b = some o → w.heap[b]? = some o
theorem Fr.cell {F : Nat → Option Obj} {w : World} (h : Fr F w) {b o : Nat} {v : Value} (hc : FCell F b o = some v) : w.cell? ⟨b, o, none⟩ = some v := by
  unfold FCell at hc
  split at hc
  · rename_i c ty fr hb
    rw [cell_at (h _ _ hb)]
    simpa using hc
  · cases hc
/-- What is shown of a quiet operation. -/
def QuietOk (C : Ctx κ) (o : Oper) (s : St κ) (v : AV κ) : Prop :=
  ∀ (a : Act) (w : World) (F : Nat → Option Obj) (φ : Nat → Option Pl), Good C.E C.glob a w s F φ → ∃ u, Rep C.E F φ v u ∧ (∀ t, o.op = .move (.tmp t) → u = a.tmps.getD t undef) ∧ (∀ w', Sub w w' → (execOp a.eval o).run C.P w' = .ok (.value u) w') ∧ (ownLoad C o s = false → ∀ w', Fr F w' → (execOp a.eval o).run C.P w' = .ok (.value u) w')

theorem QuietOk.pure {v : AV κ} (h : ∀ (a : Act) (F : Nat → Option Obj) (φ : Nat → Option Pl) (w : World), Good C.E C.glob a w s F φ → ∃ u, Rep C.E F φ v u ∧ (∀ t, o.op = .move (.tmp t) → u = a.tmps.getD t undef) ∧ ∀ w', (execOp a.eval o).run C.P w' = .ok (.value u) w') : QuietOk C o s v :=
  fun a w F φ hg => let ⟨u, h1, h2, h3⟩ := h a F φ w hg; ⟨u, h1, h2, fun w' _ => h3 w', fun _ w' _ => h3 w'⟩

theorem quiet_move {x : Operand} (ho : o.op = .move x ∨ o.op = .assign x) : QuietOk C o s (ev C s x) :=
  .pure fun a F φ w hg => ⟨a.eval x, ev_rep hg x, fun t ht => by rcases ho with ho | ho <;> rw [ho] at ht <;> simp at ht; subst ht; rfl, fun w' => by
    unfold execOp
    rcases ho with ho | ho <;> rw [ho] <;> rfl⟩

theorem run_v {m : Sem Value} {u : Value} {w w' : World} (h : m.run P w = .ok u w') : (do pure (Next.value (← m)) : Sem Next).run P w = .ok (.value u) w' := by
  simp [h]

theorem val_inv {v u : Value} (h : Rep E F φ (.val v) u) : u = v := by cases h; rfl

theorem bin_sound {β : Type} {op : BinOp} {t : TypeId} {x y : Operand} {m n : Value} {K : AV κ → Option β} {r : β} (h : bin? P op t x y m n K = some r) :
    ∃ u, K (.val u) = some r ∧ ∀ w, (do eqGuard op t x y m n; binOp op t m n : Sem Value).run P w = .ok u w := by
  have fallback : (match pureRun P (do eqGuard op t x y m n; binOp op t m n) with | some v => K (.val v) | none => none) = some r → ∃ u, K (.val u) = some r ∧ ∀ w, (do eqGuard op t x y m n; binOp op t m n : Sem Value).run P w = .ok u w := by
    intro h
    split at h
    · rename_i v hv
      exact ⟨v, h, fun w => pureRun_sound hv w⟩
    · cases h
  unfold bin? at h
  split at h
  · split at h
    · rename_i hk
      subst hk
      split at h
      · cases h
      · rename_i hn
        exact ⟨_, h, fun w => by simp [eqGuard, binOp, Op.intDiv, hn, quo]⟩
    · cases h
  · split at h
    · rename_i hk
      subst hk
      split at h
      · cases h
      · rename_i hn
        exact ⟨_, h, fun w => by simp [eqGuard, binOp, Op.intDiv, hn, rem]⟩
    · cases h
  · split at h
    · cases h
    · rename_i hn
      exact ⟨_, h, fun w => by simp [eqGuard, binOp, Op.shift, hn, shl]⟩
  · split at h
    · cases h
    · rename_i hn
      exact ⟨_, h, fun w => by simp [eqGuard, binOp, Op.shift, hn, shr]⟩
  · obtain ⟨hn, h⟩ := tooLong_some.1 h
    · exact ⟨_, h, fun w => by simp only [eqGuard, binOp, Op.stringOp]; simp only [if_neg hn]; rfl⟩
  · cases h
  · exact fallback h

theorem eqV_sound {t : TypeId} {a b : Value} {e : Bool} (h : eqV P t a b = some e) (d : Nat) (w : World) : (Op.equalIn (d + 1) t a b).run P w = .ok e w := by
  unfold eqV at h
  split at h
  · split at h
    · rename_i hu
      split at h
      · rename_i hk
        subst hk
        obtain rfl := Option.some.inj h
        exact run_equalIn_int w d t _ _ _ _ hu
      · cases h
    · cases h
  · split at h
    · rename_i hu
      obtain rfl := Option.some.inj h
      exact run_equalIn_bool' w d t _ _ hu
    · cases h
  · split at h
    · rename_i hu
      obtain rfl := Option.some.inj h
      exact run_equalIn_string w d t _ _ hu
    · cases h
  · cases h
theorem eqF_sound {cs ds : List (AV κ)} {us vs : Array Value} (hl : cs.length = us.size) (hr : ∀ (j : Nat) (c : AV κ) (u : Value), cs[j]? = some c → us[j]? = some u → Rep E F φ c u)
    (hl' : ds.length = vs.size) (hr' : ∀ (j : Nat) (c : AV κ) (u : Value), ds[j]? = some c → vs[j]? = some u → Rep E F φ c u) (d : Nat) (w : World) :
    ∀ {fs : List Field} {r : Bool}, eqF P cs ds fs = some r → (Op.eqFields (d + 1) us vs fs).run P w = .ok r w
  | [], r, h => by obtain rfl := Option.some.inj h; simp [Op.eqFields]
  | f :: fs, r, h => by
    simp only [eqF] at h
    split at h
    · rename_i hn
      split at h
      · rename_i a b r' h1 h2 h3
        split at h
        · rename_i e he
          obtain rfl := Option.some.inj h
          obtain ⟨u, hu, run1⟩ := part_agg h1 hl hr
          obtain ⟨v, hv, run2⟩ := part_agg h2 hl' hr'
          obtain rfl := val_inv hu
          obtain rfl := val_inv hv
          simp only [Op.eqFields, if_pos hn, Sem.run_bind, run1, run2, Result.andThen_ok, eqV_sound he d w]
          cases e
          · simp
          · simpa using eqF_sound hl hr hl' hr' d w h3
        · cases h
      · cases h
    · rename_i hn
      simp only [Op.eqFields, if_neg hn]
      exact eqF_sound hl hr hl' hr' d w h

theorem quiet_bin {β : Type} {op : BinOp} {t t' : TypeId} {x y : Operand} {K : AV κ → Option β} {r : β} (ho : o.op = .binOp op t x y t') (h : quiet? C o s K = some r) : ∃ v, K v = some r ∧ QuietOk C o s v := by
  simp only [quiet?, ho] at h
  split at h
  · rename_i m n hm hn
    obtain ⟨u, hu, hr⟩ := bin_sound h
    refine ⟨_, hu, .pure fun a F φ w hg => ⟨u, .val u, fun t ht => by rw [ho] at ht; simp at ht, fun w' => ?_⟩⟩
    have e1 := val_inv (hm ▸ ev_rep hg x)
    have e2 := val_inv (hn ▸ ev_rep hg y)
    unfold execOp
    rw [ho]
    simp only [e1, e2]
    exact run_v (hr w')
  · rename_i cs ds hm hn
    unfold binA? at h
    split at h
    · rename_i hg
      split at h
      · rename_i fs hfs
        split at h
        · rename_i r hr
          have key : ∀ (a : Act) (w : World) (F : Nat → Option Obj) (φ : Nat → Option Pl), Good C.E C.glob a w s F φ → ∃ us vs, a.eval x = .agg us ∧ a.eval y = .agg vs ∧ ∀ w', (Op.equalIn 10000 t (.agg us) (.agg vs)).run C.P w' = .ok r w' := by
            intro a w F φ hg'
            have e1 := hm ▸ ev_rep hg' x
            have e2 := hn ▸ ev_rep hg' y
            cases hu : a.eval x with
            | agg us =>
              cases hv : a.eval y with
              | agg vs =>
                rw [hu] at e1
                rw [hv] at e2
                cases e1 with
                | agg _ _ l1 r1 =>
                  cases e2 with
                  | agg _ _ l2 r2 =>
                    refine ⟨us, vs, rfl, rfl, fun w' => ?_⟩
                    have hf : C.P.fieldsOf t = fs := by simp [Program.fieldsOf, hfs]
                    have ht : C.P.underlying t = some (.struct (C.P.fieldsOf t)) := by rw [hf]; exact hfs
                    rw [show (10000 : Nat) = 9998 + 1 + 1 from rfl, run_equalIn_agg w' (9998 + 1) t us vs ht hg.2, hf]
                    exact eqF_sound l1 r1 l2 r2 9998 w' hr
              | _ => rw [hv] at e2; cases e2
            | _ => rw [hu] at e1; cases e1
          split at h
          · refine ⟨_, h, .pure fun a F φ w hg' => ⟨_, .val _, fun t ht => by rw [ho] at ht; simp at ht, fun w' => ?_⟩⟩
            obtain ⟨us, vs, k1, k2, k3⟩ := key a w F φ hg'
            unfold execOp
            rw [ho]
            simp only [k1, k2]
            refine run_v ?_
            simp only [Sem.run_bind, run_eqGuard_agg _ _ _ _ _ _ _ hg.1, Result.andThen_ok, run_eql_struct, k3]
          · refine ⟨_, h, .pure fun a F φ w hg' => ⟨_, .val _, fun t ht => by rw [ho] at ht; simp at ht, fun w' => ?_⟩⟩
            obtain ⟨us, vs, k1, k2, k3⟩ := key a w F φ hg'
            unfold execOp
            rw [ho]
            simp only [k1, k2]
            refine run_v ?_
            simp only [Sem.run_bind, run_eqGuard_agg _ _ _ _ _ _ _ hg.1, Result.andThen_ok, run_neq_struct, k3]
          · cases h
        · cases h
      · cases h
    · cases h
  · cases h

theorem quiet_un {β : Type} {op : UnOp} {t : TypeId} {x : Operand} {K : AV κ → Option β} {r : β} (ho : o.op = .unOp op t x) (h : quiet? C o s K = some r) : ∃ v, K v = some r ∧ QuietOk C o s v := by
  simp only [quiet?, ho] at h
  split at h
  · rename_i m hm
    split at h
    · rename_i u hu
      refine ⟨_, h, .pure fun a F φ w hg => ⟨u, .val u, fun t ht => by rw [ho] at ht; simp at ht, fun w' => ?_⟩⟩
      have e1 := val_inv (hm ▸ ev_rep hg x)
      unfold execOp
      rw [ho]
      simp only [e1]
      exact run_v (pureRun_sound hu w')
    · cases h
  · cases h

theorem conv_cells {src e dst : TypeId} (hs : P.underlying src = some (.slice e)) (he : P.underlying e = some (.int .u8)) (hd : P.underlying dst = some .string) {w : World} {b off len cap : Nat} {xs : List Int} (hl : xs.length = len) (hc : ∀ i, i < len → w.cell? ⟨b, off + i, none⟩ = some (.int .u8 (xs.getD i 0))) :
    (convert src dst (.slice (some ⟨b, off, none⟩) len cap)).run P w = .ok (.string (strOfNums xs)) w := run_convert_bytes_arg w src e hs he b off len cap xs hl hc dst hd
theorem conv_none {src e dst : TypeId} (hs : P.underlying src = some (.slice e)) (he : P.underlying e = some (.int .u8)) (hd : P.underlying dst = some .string) {w : World} {l c : Nat} :
    (convert src dst (.slice none l c)).run P w = .ok (.string (strOfNums [])) w := run_convert_bytes_nil w src e hs he l c dst hd
theorem conv_zero {src e dst : TypeId} (hs : P.underlying src = some (.slice e)) (he : P.underlying e = some (.int .u8)) (hd : P.underlying dst = some .string) {w : World} {a : Addr} {c : Nat} :
    (convert src dst (.slice (some a) 0 c)).run P w = .ok (.string (strOfNums [])) w := by
  rw [run_convert_bytes_string w src dst e _ 0 c hs he hd, run_bytesToString w a 0 c [] (by simp [loadCells, loadCellsFrom])]
  rfl
theorem byte_cell {E : Encs κ} (hE : E.Ok) {k : κ.Kc} {f : κ.ty k → Int} (hf : E.byte k = some f) {F : Nat → Option Obj} {φ : Nat → Option Pl} {x : κ.ty k} {u : Value} (h : ∀ (j : Nat) (c : AV κ), (E.enc k x)[j]? = some c → Rep E F φ c u) : u = .int .u8 (f x) := by
  have := h 0 (.val (.int .u8 (f x))) (by rw [hE.byte k f x hf]; rfl)
  cases this; rfl
theorem byte_sz {E : Encs κ} (hE : E.Ok) {k : κ.Kc} {f : κ.ty k → Int} (hf : E.byte k = some f) : κ.sz k = 1 := by
  have hp := hE.pos k
  cases hk : κ.sz k with
  | zero => omega
  | succ n =>
    have : ∀ x, (E.enc k x).length = 1 := fun x => by rw [hE.byte k f x hf]; rfl
    have h2 := hE.len k (E.dflt k)
    rw [this, hk] at h2
    omega
theorem quiet_nilCheck {β : Type} {x : Operand} {K : AV κ → Option β} {r : β} (ho : o.op = .nilCheck x) (h : quiet? C o s K = some r) : ∃ v, K v = some r ∧ QuietOk C o s v := by
  simp only [quiet?, ho] at h
  split at h
  all_goals first
    | (cases h; done)
    | (rename_i he
       refine ⟨_, h, .pure fun a F φ w hg => ?_⟩
       have hr := ev_rep hg x
       rw [he] at hr
       generalize hz : a.eval x = z at hr
       refine ⟨z, hr, fun t ht => by rw [ho] at ht; simp at ht, fun w' => ?_⟩
       unfold execOp
       rw [ho]
       simp only [hz]
       cases hr <;> rfl)

theorem quiet_load {β : Type} (hE : C.E.Ok) {t : TypeId} {x : Operand} {K : AV κ → Option β} {r : β} (ho : o.op = .load t x) (h : quiet? C o s K = some r) : ∃ v, K v = some r ∧ QuietOk C o s v := by
  simp only [quiet?, ho] at h
  split at h
  · rename_i k xs hx
    split at h
    · rename_i n e i hu hi
      split at h
      · rename_i hsz
        refine ⟨_, h, fun a w F φ hg => ?_⟩
        have hr := ev_rep hg x
        rw [hx] at hr
        generalize hz : a.eval x = z at hr
        cases hr with
        | tab _ _ b hx0 h' =>
          generalize hcs : xs.flatMap (C.E.enc k) = cs at h'
          have hlen : cs.length = i.size := by
            rw [← hcs, hsz, List.length_flatMap]
            have : (xs.map fun a => (C.E.enc k a).length) = List.replicate xs.length (κ.sz k) := by
              rw [List.eq_replicate_iff]
              exact ⟨by simp, fun n hn => by obtain ⟨y, _, rfl⟩ := List.mem_map.1 hn; exact hE.len k y⟩
            rw [this, List.sum_replicate_nat]
          cases h' with
          | rop _ _ _ us0 hc0 h0 =>
            have hp : part? C.P t cs = some (.agg cs) := by
              unfold part?
              rw [hu, hi]
              simp only
              rw [if_pos (by omega), ← hlen, List.take_length]
            obtain ⟨u, hru, hrun⟩ := part_load (P := C.P) hp h0
            have main : ∀ w', Fr F w' → (execOp a.eval o).run C.P w' = .ok (.value u) w' := fun w' hw' => by
              unfold execOp
              rw [ho]
              refine run_v ?_
              rw [hz]
              have := hrun w' b 0 (fun j hj => hw'.cell (hc0 j hj))
              simp [Instr.loadAt, Instr.sureAddr, this]
            exact ⟨u, .arr k xs u (by rw [hcs]; exact hru), fun t ht => by rw [ho] at ht; simp at ht, fun w' hw' => main w' fun b o hb => hw' _ _ (hg.rel.frz b o hb), fun _ => main⟩
      · cases h
    · cases h
  split at h
  · rename_i cs hcs
    split at h
    · rename_i v hv
      refine ⟨v, h, fun a w F φ hg => ?_⟩
      obtain ⟨b, off, hu, us, h1, h2⟩ := cellsAt_sound hE hg (ev_rep hg x) hcs
      obtain ⟨u, hr, hrun⟩ := part_load hv h2
      refine ⟨u, hr, fun t ht => by rw [ho] at ht; simp at ht, fun w' hw' => ?_, fun hol w' hw' => ?_⟩
      · unfold execOp
        rw [ho]
        refine run_v ?_
        rw [hu]
        have := hrun w' b off (fun j hj => h1 j hj w' hw')
        simp [Instr.loadAt, Instr.sureAddr, this]
      · unfold ownLoad at hol
        rw [ho] at hol
        simp only at hol
        have hrr := ev_rep hg x
        have key : ∃ us' : Nat → Value, (∀ j, j < cs.length → w'.cell? ⟨b, off + j, none⟩ = some (us' j)) ∧ ∀ j, j < cs.length → us' j = us j := by
          split at hol
          · rename_i cs' he
            rw [he] at hcs hrr
            obtain rfl := Option.some.inj (show some cs' = some cs from hcs)
            rw [hu] at hrr
            cases hrr with
            | rop _ _ _ us0 hc0 h0 =>
              refine ⟨us0, fun j hj => hw'.cell (hc0 j hj), fun j hj => ?_⟩
              have e1 := h1 j hj w (Sub.refl w)
              have e2 := Fr.cell (F := F) (w := w) hg.rel.frz (hc0 j hj)
              rw [e2] at e1
              exact Option.some.inj e1
          · rename_i k' xs' he
            rw [he] at hcs
            cases hcs
          · cases hol
        obtain ⟨us', k1, k2⟩ := key
        unfold execOp
        rw [ho]
        refine run_v ?_
        rw [hu]
        have := hrun w' b off (fun j hj => by rw [k1 j hj, k2 j hj])
        simp [Instr.loadAt, Instr.sureAddr, this]
    · cases h
  · cases h

theorem quiet_fieldAddr {β : Type} {t : TypeId} {x : Operand} {f : Nat} {K : AV κ → Option β} {r : β} (ho : o.op = .fieldAddr t x f) (h : quiet? C o s K = some r) : ∃ v, K v = some r ∧ QuietOk C o s v := by
  simp only [quiet?, ho] at h
  split at h
  · rename_i fs hfs
    split at h
    · rename_i fd hfd
      split at h
      · cases h
      · rename_i hsz
        have hi : ∃ i, C.P.info? fd.type = some i := by
          cases hi : C.P.info? fd.type with
          | none => simp [sizeOf?, hi] at hsz
          | some i => exact ⟨i, rfl⟩
        obtain ⟨i, hi⟩ := hi
        have hne : i.size ≠ 0 := by rw [info_size hi] at hsz; exact hsz
        have hrun : ∀ (a : Act) (b off : Nat) (w : World), a.eval x = .pointer (some ⟨b, off, none⟩) → (execOp a.eval o).run C.P w = .ok (.value (.pointer (some ⟨b, off + fd.offset, none⟩))) w := by
          intro a b off w e
          unfold execOp
          rw [ho]
          refine run_v ?_
          rw [e]
          simp [Instr.fieldAt, Instr.sureAddr, run_underlying hfs, hfd, fieldPlace, run_sizeOf' hi, hne, Addr.add_lit]
        split at h
        · rename_i cs he
          refine ⟨_, h, .pure fun a F φ w hg => ?_⟩
          have hr := ev_rep hg x
          rw [he] at hr
          generalize hz : a.eval x = z at hr
          cases hr with
          | rop _ b off us hc h' =>
            refine ⟨_, .rop _ b (off + fd.offset) (fun j => us (fd.offset + j)) (fun j hj => ?_) (fun j c hj => ?_), fun t ht => by rw [ho] at ht; simp at ht, fun w' => hrun a b off w' hz⟩
            · have := hc (fd.offset + j) (by simp at hj; omega)
              rw [← Nat.add_assoc] at this
              exact this
            · rw [List.getElem?_drop] at hj
              exact h' _ _ hj
        · rename_i j off he
          refine ⟨_, h, .pure fun a F φ w hg => ?_⟩
          have hr := ev_rep hg x
          rw [he] at hr
          generalize hz : a.eval x = z at hr
          cases hr with
          | ptr _ _ p g hp hpg => exact ⟨_, .ptr j _ p g hp hpg, fun t ht => by rw [ho] at ht; simp at ht, fun w' => hrun a _ _ w' hz⟩
        · rename_i k j row col he
          refine ⟨_, h, .pure fun a F φ w hg => ?_⟩
          have hr := ev_rep hg x
          rw [he] at hr
          generalize hz : a.eval x = z at hr
          cases hr with
          | ptrE _ _ _ _ p g hp hpg hrow =>
            refine ⟨_, .ptrE k j row _ p g hp hpg hrow, fun t ht => by rw [ho] at ht; simp at ht, fun w' => ?_⟩
            rw [hrun a _ _ w' hz, Nat.add_assoc]
        · cases h
    · cases h
  · cases h

theorem caseK_some {β : Type} {i : Int} {f : Nat → Option β} {r : β} : ∀ {m j : Nat}, caseK i f m j = some r → ∃ n, j ≤ n ∧ n < j + m ∧ i = (n : Int) ∧ f n = some r
  | 0, j, h => by cases h
  | m + 1, j, h => by
    unfold caseK at h
    split at h
    · rename_i hi; exact ⟨j, Nat.le_refl _, by omega, hi, h⟩
    · obtain ⟨n, h1, h2, h3, h4⟩ := caseK_some h
      exact ⟨n, by omega, by omega, h3, h4⟩
theorem info_pos {t : TypeId} (h : 0 < sizeOf? P t) : ∃ inf, P.info? t = some inf ∧ inf.size = sizeOf? P t := by
  unfold sizeOf? at h ⊢
  cases hi : P.info? t with
  | none => rw [hi] at h; simp at h
  | some i => exact ⟨i, rfl, rfl⟩
theorem flat_len {E : Encs κ} (hE : E.Ok) {k : κ.Kc} : ∀ {xs : List (κ.ty k)}, (xs.flatMap (E.enc k)).length = xs.length * κ.sz k
  | [] => by simp
  | x :: xs => by rw [List.flatMap_cons, List.length_append, hE.len, flat_len hE, List.length_cons, Nat.add_mul]; omega
theorem flat_drop {E : Encs κ} (hE : E.Ok) {k : κ.Kc} : ∀ {xs : List (κ.ty k)} {i : Nat} {x : κ.ty k}, xs[i]? = some x → ∃ rest, (xs.flatMap (E.enc k)).drop (i * κ.sz k) = E.enc k x ++ rest
  | [], i, x, h => by simp at h
  | y :: xs, 0, x, h => by simp at h; subst h; exact ⟨xs.flatMap (E.enc k), by simp⟩
  | y :: xs, i + 1, x, h => by
    obtain ⟨rest, hr⟩ := flat_drop hE (xs := xs) (i := i) (by simpa using h)
    refine ⟨rest, ?_⟩
    rw [List.flatMap_cons, Nat.add_mul, Nat.one_mul, Nat.add_comm, List.drop_append, List.drop_of_length_le (by rw [hE.len]; omega), hE.len, show κ.sz k + i * κ.sz k - κ.sz k = i * κ.sz k by omega, hr]
    rfl
theorem part_app {t : TypeId} {l r : List (AV κ)} (hl : l.length = sizeOf? P t) (h0 : 0 < sizeOf? P t) : part? P t (l ++ r) = part? P t l := by
  obtain ⟨inf, hi, hs⟩ := info_pos h0
  have hh : (l ++ r).head? = l.head? := by
    cases l with
    | nil => simp at hl; omega
    | cons c l => rfl
  unfold part?
  rw [hi]
  cases hu : P.underlying t with
  | none => rfl
  | some d =>
    cases d <;> first
      | exact hh
      | (simp only []
         rw [if_pos (by simp; omega), if_pos (by omega), List.take_append_of_le_length (by omega)])
theorem quiet_field {β : Type} {t : TypeId} {x : Operand} {f : Nat} {K : AV κ → Option β} {r : β} (ho : o.op = .field t x f) (h : quiet? C o s K = some r) : ∃ v, K v = some r ∧ QuietOk C o s v := by
  simp only [quiet?, ho] at h
  split at h
  · rename_i fs cs hfs he
    split at h
    · rename_i fd hfd
      split at h
      · rename_i v hv
        refine ⟨v, h, .pure fun a F φ w hg => ?_⟩
        have hr := ev_rep hg x
        rw [he] at hr
        generalize hz : a.eval x = z at hr
        cases hr with
        | agg _ us hl hp =>
          obtain ⟨u, h1, h2⟩ := part_agg hv hl hp
          refine ⟨u, h1, fun t ht => by rw [ho] at ht; simp at ht, fun w' => ?_⟩
          unfold execOp
          rw [ho]
          refine run_v ?_
          rw [hz]
          simp [Instr.field, run_underlying hfs, hfd, asAgg, h2]
      · cases h
    · cases h
  · cases h

theorem quiet_extract {β : Type} {x : Operand} {f : Nat} {K : AV κ → Option β} {r : β} (ho : o.op = .extract x f) (h : quiet? C o s K = some r) : ∃ v, K v = some r ∧ QuietOk C o s v := by
  simp only [quiet?, ho] at h
  split at h
  · rename_i cs he
    split at h
    · rename_i v hv
      refine ⟨v, h, .pure fun a F φ w hg => ?_⟩
      have hr := ev_rep hg x
      rw [he] at hr
      generalize hz : a.eval x = z at hr
      cases hr with
      | tup _ us hl hp =>
        have hlt : f < us.size := by rw [← hl]; exact (List.getElem?_eq_some_iff.1 hv).1
        refine ⟨us[f], hp f v _ hv (by simp [hlt]), fun t ht => by rw [ho] at ht; simp at ht, fun w' => ?_⟩
        unfold execOp
        rw [ho]
        refine run_v ?_
        rw [hz]
        simp [Instr.extract, hlt]
    · cases h
  · cases h

theorem quiet_index {β : Type} (hE : C.E.Ok) {t : TypeId} {x y : Operand} {K : AV κ → Option β} {r : β} (ho : o.op = .index t x y) (h : quiet? C o s K = some r) : ∃ v, K v = some r ∧ QuietOk C o s v := by
  simp only [quiet?, ho] at h
  split at h
  · rename_i d b k i hd hx hy
    split at h
    · rename_i hi
      refine ⟨_, h, .pure fun a F φ w hg => ⟨_, .val _, fun t ht => by rw [ho] at ht; simp at ht, fun w' => ?_⟩⟩
      have e1 := val_inv (hx ▸ ev_rep hg x)
      have e2 := val_inv (hy ▸ ev_rep hg y)
      unfold execOp
      rw [ho]
      refine run_v ?_
      rw [e1, e2]
      have hlt : i.toNat < b.size := by omega
      have hb : b[i.toNat]? = some (b[i.toNat]'hlt) := by rw [getElem?_pos]
      have hb2 : bt b i = ((b[i.toNat]'hlt).toNat : Int) := by
        unfold bt
        have : b.data.getD i.toNat 0 = b.data[i.toNat]'hlt := by simp [Array.getD, hlt]
        rw [this]
        rfl
      simp [Instr.index, asIntOf, run_underlying hd, hi.1, hb, hb2]
    · cases h
  · rename_i n e k xs ki i hu hx hy
    split at h
    · rename_i hc
      split at h
      · rename_i hi
        split at h
        · rename_i v hv
          refine ⟨v, h, .pure fun a F φ w hg => ?_⟩
          have hr := ev_rep hg x
          rw [hx] at hr
          have e2 := val_inv (hy ▸ ev_rep hg y)
          generalize hz : a.eval x = z at hr
          have hlt : i.toNat < xs.length := by omega
          have hget : xs[i.toNat]? = some (xs.getD i.toNat (C.E.dflt k)) := by rw [List.getD_eq_getElem?_getD, List.getElem?_eq_getElem hlt]; rfl
          have h0 : 0 < sizeOf? C.P e := by rw [hc.1]; exact hE.pos k
          obtain ⟨inf, hinf, hs⟩ := info_pos h0
          cases hr with
          | arr _ _ _ h' =>
            cases h' with
            | agg _ us hl hp =>
              obtain ⟨rest, hrest⟩ := flat_drop hE hget
              have hv' : part? C.P e ((xs.flatMap (C.E.enc k)).drop (i.toNat * inf.size)) = some v := by
                rw [hs, hc.1, hrest, part_app (by rw [hE.len, hc.1]) h0]; exact hv
              obtain ⟨u, h1, h2⟩ := part_agg hv' hl hp
              refine ⟨u, h1, fun t ht => by rw [ho] at ht; simp at ht, fun w' => ?_⟩
              unfold execOp
              rw [ho]
              refine run_v ?_
              rw [hz, e2]
              have hi2 : i < (n : Int) := hi.2
              simp [Instr.index, asIntOf, run_underlying hu, hi.1, hi2, run_sizeOf' hinf, h2]
        · cases h
      · cases h
    · cases h
  · rename_i n e cs ki i hu hx hy
    split at h
    · rename_i h0
      obtain ⟨inf, hinf, hs⟩ := info_pos h0
      obtain ⟨m, _, hm, rfl, hK⟩ := caseK_some h
      clear h
      split at hK
      · rename_i v hv
        refine ⟨v, hK, .pure fun a F φ w hg => ?_⟩
        have hr := ev_rep hg x
        rw [hx] at hr
        have e2 := val_inv (hy ▸ ev_rep hg y)
        generalize hz : a.eval x = z at hr
        cases hr with
        | agg _ us hl hp =>
          rw [← hs] at hv
          obtain ⟨u, h1, h2⟩ := part_agg hv hl hp
          refine ⟨u, h1, fun t ht => by rw [ho] at ht; simp at ht, fun w' => ?_⟩
          unfold execOp
          rw [ho]
          refine run_v ?_
          rw [hz, e2]
          have hm' : m < n := by omega
          simp [Instr.index, asIntOf, run_underlying hu, hm', run_sizeOf' hinf, h2]
      · cases hK
    · cases h
  · cases h
end Go.Am
end

section
namespace Go.Am
open Go.RowKit
variable {κ : Kinds} {E : Encs κ} {F F' : Nat → Option Obj} {φ φ' : Nat → Option Pl} {P : Program} {C : Ctx κ} {a : Act} {w : World} {s : St κ} {o : Oper}

theorem upd_eq {α : Type} : ∀ (vs cs : List α) (off : Nat), off + vs.length ≤ cs.length → upd cs off vs = cs.take off ++ vs ++ cs.drop (off + vs.length)
  | [], cs, off, _ => by simp [upd]
  | v :: vs, cs, off, h => by
    simp only [List.length_cons] at h
    unfold upd
    rw [upd_eq vs (cs.set off v) (off + 1) (by simp; omega)]
    have h1 : (cs.set off v).take (off + 1) = cs.take off ++ [v] := by
      rw [List.take_add_one, List.take_set_of_le (by omega), List.getElem?_set_self (by omega)]
      rfl
    have h2 : (cs.set off v).drop (off + 1 + vs.length) = cs.drop (off + (vs.length + 1)) := by
      rw [List.drop_set_of_lt (by omega)]
      congr 1
      omega
    rw [h1, h2]
    simp
theorem upd_length {α : Type} (vs cs : List α) (off : Nat) : (upd cs off vs).length = cs.length := by
  induction vs generalizing cs off with
  | nil => rfl
  | cons v vs ih => unfold upd; rw [ih]; simp
theorem upd_get {α : Type} {vs cs : List α} {off : Nat} (h : off + vs.length ≤ cs.length) (j : Nat) : (upd cs off vs)[j]? = if off ≤ j ∧ j < off + vs.length then vs[j - off]? else cs[j]? := by
  rw [upd_eq vs cs off h, List.append_assoc]
  by_cases h1 : j < off
  · rw [List.getElem?_append_left (by simp; omega), List.getElem?_take, if_pos h1, if_neg (by omega)]
  · rw [List.getElem?_append_right (by simp; omega)]
    have : (cs.take off).length = off := by simp; omega
    rw [this]
    by_cases h2 : j < off + vs.length
    · rw [List.getElem?_append_left (by omega), if_pos ⟨by omega, h2⟩]
    · rw [List.getElem?_append_right (by omega), List.getElem?_drop, if_neg (by omega)]
      congr 1
      omega

/-- Cells that stand for cells. -/
def Reps (E : Encs κ) (F : Nat → Option Obj) (φ : Nat → Option Pl) (cs : List (AV κ)) (us : List Value) : Prop :=
  cs.length = us.length ∧ ∀ (j : Nat) (c : AV κ) (u : Value), cs[j]? = some c → us[j]? = some u → Rep E F φ c u
theorem Reps.upd {cs : List (AV κ)} {us : List Value} {vs : List (AV κ)} {ws : List Value} {off : Nat} (h : Reps E F φ cs us) (k : Reps E F φ vs ws) (hl : off + vs.length ≤ cs.length) : Reps E F φ (upd cs off vs) (upd us off ws) := by
  refine ⟨by rw [upd_length, upd_length]; exact h.1, fun j c u hc hu => ?_⟩
  rw [upd_get hl] at hc
  rw [upd_get (by rw [← k.1, ← h.1]; exact hl)] at hu
  rw [← k.1] at hu
  split at hc
  · rename_i hj
    rw [if_pos hj] at hu
    exact k.2 _ _ _ hc hu
  · rename_i hj
    rw [if_neg hj] at hu
    exact h.2 _ _ _ hc hu
theorem Reps.vals (vs : List Value) : Reps E F φ (vs.map .val) vs := by
  refine ⟨by simp, fun j c u hc hu => ?_⟩
  rw [List.getElem?_map, hu] at hc
  obtain rfl := Option.some.inj hc
  exact .val _

theorem cells_rep {v : AV κ} {u : Value} (h : Rep E F φ v u) (ho : v.cells.all AV.one = true) : Reps E F φ v.cells u.cells.toList ∧ ∀ x ∈ u.cells.toList, x.oneCell' = true := by
  have one : v.one = true → v.cells = [v] → Reps E F φ v.cells u.cells.toList ∧ ∀ x ∈ u.cells.toList, x.oneCell' = true := by
    intro hone hv
    have h1 := h.one hone
    have hu : u.cells = #[u] := by cases u <;> first | rfl | simp [Value.oneCell'] at h1
    rw [hv, hu]
    refine ⟨⟨rfl, fun j c x hc hx => ?_⟩, fun x hx => by simp at hx; subst hx; exact h1⟩
    match j with
    | 0 => simp at hc hx; subst hc; subst hx; exact h
    | j + 1 => simp at hc
  cases v with
  | agg cs =>
    cases h with
    | agg _ us hl hr =>
      refine ⟨⟨by simpa [AV.cells, Value.cells] using hl, fun j c x hc hx => hr j c x hc (by simpa [Value.cells] using hx)⟩, fun x hx => ?_⟩
      simp only [Value.cells] at hx
      obtain ⟨j, hj⟩ := List.getElem?_of_mem hx
      have hlt : j < cs.length := by rw [hl]; simpa using (List.getElem?_eq_some_iff.1 hj).1
      exact (hr j cs[j] x (List.getElem?_eq_getElem hlt) (by simpa using hj)).one (List.all_eq_true.1 ho _ (by simp [AV.cells]))
  | _ => exact one (by simpa [AV.cells] using ho) rfl

theorem foldl_upd : ∀ (l : List Value) (k off : Nat) (A : Array Value), ((l.zipIdx k).foldl (fun cs x => cs.setIfInBounds (off + x.2) x.1) A).toList = upd A.toList (off + k) l
  | [], _, _, _ => rfl
  | v :: l, k, off, A => by
    simp only [List.zipIdx_cons, List.foldl_cons]
    rw [foldl_upd l (k + 1) off (A.setIfInBounds (off + k) v)]
    simp only [Array.toList_setIfInBounds]
    conv => rhs; unfold upd
    rw [Nat.add_assoc]

theorem fill_rep {place : Nat → Option (Nat × Nat)} : ∀ (parts : List (Nat × AV κ)) (vparts : List (Nat × Value)) (cs cs' : List (AV κ)) (A : Array Value), Reps E F φ cs A.toList →
    parts.map (·.1) = vparts.map (·.1) → (∀ (j : Nat) (p : Nat × AV κ) (q : Nat × Value), parts[j]? = some p → vparts[j]? = some q → Rep E F φ p.2 q.2) →
    fillA place cs parts = some cs' → ∃ A', Instr.fill place A vparts = some A' ∧ Reps E F φ cs' A'.toList
  | [], [], cs, cs', A, h, _, _, hf => by simp only [fillA, Option.some.injEq] at hf; subst hf; exact ⟨A, rfl, h⟩
  | [], _ :: _, _, _, _, _, hm, _, _ => by simp at hm
  | _ :: _, [], _, _, _, _, hm, _, _ => by simp at hm
  | (i, v) :: parts, (i', u) :: vparts, cs, cs', A, h, hm, hr, hf => by
    simp only [List.map_cons, List.cons.injEq] at hm
    obtain ⟨rfl, hm⟩ := hm
    simp only [fillA] at hf
    split at hf
    · cases hf
    · rename_i off size hp
      split at hf
      · rename_i hc
        obtain ⟨h1, h2, h3⟩ := hc
        have hv := hr 0 _ _ rfl rfl
        obtain ⟨hcr, _⟩ := cells_rep hv h3
        have hus : u.cells.size = size := by rw [← h1, hcr.1]; simp
        have hA : A.size = cs.length := by rw [h.1]; simp
        have hupd := h.upd hcr (off := off) (by rw [h1]; exact h2)
        obtain ⟨A', hA', hr'⟩ := fill_rep parts vparts _ cs' (u.cells.zipIdx.foldl (fun cs x => cs.setIfInBounds (off + x.2) x.1) A) (by
          rw [← Array.foldl_toList, Array.toList_zipIdx, foldl_upd]
          exact hupd) hm (fun j p q h1 h2 => hr (j + 1) p q (by simpa using h1) (by simpa using h2)) hf
        refine ⟨A', ?_, hr'⟩
        simp only [Instr.fill, hp]
        rw [if_neg (by simp [hus]; omega)]
        exact hA'
      · cases hf

theorem quiet_build {β : Type} {t : TypeId} {parts : Array (Nat × Operand)} {K : AV κ → Option β} {r : β} (ho : o.op = .build t parts) (h : quiet? C o s K = some r) : ∃ v, K v = some r ∧ QuietOk C o s v := by
  simp only [quiet?, ho] at h
  split at h
  · rename_i cs hcs
    refine ⟨_, h, .pure fun a F φ w hg => ?_⟩
    have hparts : ∃ cells, C.P.built t (parts.map fun (i, x) => (i, a.eval x)).toList = some cells ∧ Reps C.E F φ cs cells.toList := by
      have key := fun (place : Nat → Option (Nat × Nat)) (z : Value) (hf : fillA place (z.cells.toList.map AV.val) (parts.toList.map fun p => (p.1, ev C s p.2)) = some cs) =>
        fill_rep (E := C.E) (F := F) (φ := φ) (place := place) (parts.toList.map fun p => (p.1, ev C s p.2)) (parts.map fun (i, x) => (i, a.eval x)).toList _ cs z.cells (Reps.vals _) (by simp) (fun j p q h1 h2 => by
          simp only [Array.toList_map, List.getElem?_map] at h1 h2
          cases hj : parts.toList[j]? with
          | none => rw [hj] at h1; simp at h1
          | some x =>
            rw [hj] at h1 h2
            simp at h1 h2
            subst h1; subst h2
            exact ev_rep hg x.2) hf
      unfold builtA at hcs
      unfold Program.built
      split at hcs
      · rename_i it n e hit hu
        simp only [hit, hu]
        split at hcs
        · rename_i z ie hz hie
          simp only [hz, hie]
          exact key _ z hcs
        · cases hcs
      · rename_i it fields hit hu
        simp only [hit, hu]
        split at hcs
        · rename_i z places hz hp
          simp only [hz, hp]
          obtain ⟨A', h1, h2⟩ := key _ z hcs
          exact ⟨A', by simpa using h1, h2⟩
        · cases hcs
      · cases hcs
    obtain ⟨cells, hb, hr⟩ := hparts
    refine ⟨.agg cells, .agg _ _ (by simpa using hr.1) (fun j c u hc hu => hr.2 j c u hc (by simpa using hu)), fun t ht => by rw [ho] at ht; simp at ht, fun w' => ?_⟩
    unfold execOp
    rw [ho]
    exact run_v (run_build w' t _ _ hb)
  · cases h

theorem quiet_makeFunc {β : Type} {f : FuncId} {first caps : Array Operand} {K : AV κ → Option β} {r : β} (ho : o.op = .makeFunc (.func f) first caps) (h : quiet? C o s K = some r) : ∃ v, K v = some r ∧ QuietOk C o s v := by
  simp only [quiet?, ho] at h
  split at h
  · rename_i hs
    refine ⟨_, h, .pure fun a F φ w hg => ⟨.func (.func f) #[] (caps.map a.eval), .fn f _ _ (by simp) (fun j c u hc hu => ?_), fun t ht => by rw [ho] at ht; simp at ht, fun w' => ?_⟩⟩
    · simp only [List.getElem?_map, Array.getElem?_map] at hc hu
      cases hj : caps[j]? with
      | none => rw [hj] at hu; simp at hu
      | some x =>
        rw [hj] at hu
        rw [Array.getElem?_toList, hj] at hc
        simp at hc hu
        subst hc; subst hu
        exact ev_rep hg x
    · have : first = #[] := by simpa using hs
      subst this
      unfold execOp
      rw [ho]
      exact run_v (by simp [Instr.makeFunc])
  · cases h
end Go.Am
end

section
namespace Go.Am
open Go.RowKit Go.MapKept Go.ChangeMaps
variable {κ : Kinds} {E : Encs κ} {F F' : Nat → Option Obj} {φ φ' : Nat → Option Pl} {P : Program} {C : Ctx κ} {a : Act} {w w' : World} {s s' : St κ} {o : Oper}

theorem ba_toList (a : ByteArray) : a.toList = a.data.toList := by obtain ⟨⟨l⟩⟩ := a; simp
theorem ba_inj {a b : ByteArray} (h : a.toList = b.toList) : a = b := by
  rw [ba_toList, ba_toList] at h
  exact ByteArray.ext (Array.toList_inj.1 h)
theorem MKey.same_toV {a b : MKey} (h : a.like b = true) : a.same b = true ↔ a.toV = b.toV := by
  cases a <;> cases b <;> simp [MKey.like] at h
  · rename_i x y
    simp only [MKey.same, MKey.toV, beq_iff_eq, Value.string.injEq]
    exact ⟨ba_inj, fun h => by rw [h]⟩
  · rename_i k x k' y
    subst h
    simp [MKey.same, MKey.toV]
theorem MKey.like_symm {a b : MKey} (h : a.like b = true) : b.like a = true := by
  cases a <;> cases b <;> simp [MKey.like] at h ⊢
  exact h.symm
theorem MKey.like_trans {a b c : MKey} (h : a.like b = true) (k : b.like c = true) : a.like c = true := by
  cases a <;> cases b <;> simp [MKey.like] at h <;> cases c <;> simp [MKey.like] at k ⊢
  exact h.trans k
theorem MKey.like_self {a b : MKey} (h : a.like b = true) : a.like a = true := by
  cases a <;> cases b <;> simp [MKey.like] at h ⊢
theorem like_all (hE : E.Ok) {k : κ.Kc} {m : MKey} (h : m.like (E.key k (E.dflt k)) = true) (x : κ.ty k) : m.like (E.key k x) = true :=
  MKey.like_trans h ((hE.like k (E.dflt k) x).trans (MKey.like_self (MKey.like_symm h)))
theorem keyV_sound {kt : TypeId} {v : AV κ} {u : Value} {m : MKey} (h : keyV P kt v = some m) (hr : Rep E F φ v u) : u = m.toV ∧ ∃ d, P.underlying kt = some d ∧ IsKey d m.toV := by
  unfold keyV at h
  split at h
  · split at h
    · rename_i hk
      obtain rfl := Option.some.inj h
      cases hr
      exact ⟨rfl, _, hk, by simp [MKey.toV, IsKey]⟩
    · cases h
  · split at h
    · rename_i hk
      split at h
      · rename_i hq
        subst hq
        obtain rfl := Option.some.inj h
        cases hr
        exact ⟨rfl, _, hk, by simp [MKey.toV, IsKey]⟩
      · cases h
    · cases h
  · cases h
theorem isKey_like {d : TypeDesc} {m m' : MKey} (h : IsKey d m.toV) (hl : m.like m' = true) : IsKey d m'.toV := by
  cases m <;> cases m' <;> simp [MKey.like] at hl
  · cases d <;> simp_all [MKey.toV, IsKey]
  · subst hl; cases d <;> simp_all [MKey.toV, IsKey]

/-- Entries that stand for rows. -/
def MapAt (E : Encs κ) (F : Nat → Option Obj) (φ : Nat → Option Pl) (k : κ.Kc) (xs : List (κ.ty k)) (es : Array MapEntry) : Prop :=
  es.size = xs.length ∧ (es.toList.map (·.key)).Nodup ∧ ∀ (r : Nat) (x : κ.ty k) (e : MapEntry), xs[r]? = some x → es[r]? = some e → e.key = (E.key k x).toV ∧ Rep E F φ (E.mval k x) e.val

theorem MapAt.keys (hE : E.Ok) {k : κ.Kc} {xs : List (κ.ty k)} {es : Array MapEntry} (h : MapAt E F φ k xs es) {d : TypeDesc} {m : MKey} (hk : IsKey d m.toV) (hm : m.like (E.key k (E.dflt k)) = true) : ∀ x ∈ es.toList, IsKey d x.key := by
  intro x hx
  obtain ⟨r, hr⟩ := List.getElem?_of_mem hx
  rw [Array.getElem?_toList] at hr
  have hlt : r < xs.length := by rw [← h.1]; exact (Array.getElem?_eq_some_iff.1 hr).1
  rw [(h.2.2 r _ x (List.getElem?_eq_getElem hlt) hr).1]
  exact isKey_like hk (like_all hE hm _)
theorem find_uniq {α : Type} {f : α → MKey} {m : MKey} : ∀ (xs : List α) (es : List MapEntry) (j : Nat) (x : α), es.length = xs.length → (es.map (·.key)).Nodup → (∀ (r : Nat) x e, xs[r]? = some x → es[r]? = some e → e.key = (f x).toV) → (∀ x, m.like (f x) = true) →
    xs[j]? = some x → (f x).same m = true → xs.find? (fun x => (f x).same m) = some x
  | [], es, j, x, _, _, _, _, hx, _ => by simp at hx
  | y :: xs, [], j, x, hl, _, _, _, _, _ => by simp at hl
  | y :: xs, e :: es, 0, x, hl, hn, hk, hm, hx, hs => by
    simp at hx; subst hx
    simp [hs]
  | y :: xs, e :: es, j + 1, x, hl, hn, hk, hm, hx, hs => by
    simp only [List.getElem?_cons_succ] at hx
    simp only [List.map_cons, List.nodup_cons] at hn
    have hne : (f y).same m = false := by
      cases hb : (f y).same m with
      | false => rfl
      | true =>
        exfalso
        have h1 := (MKey.same_toV (MKey.like_symm (hm y))).1 hb
        have h2 := (MKey.same_toV (MKey.like_symm (hm x))).1 hs
        have hj : j < es.length := by
          have := (List.getElem?_eq_some_iff.1 hx).1
          simp at hl; omega
        have h3 := hk 0 y e rfl rfl
        have h4 := hk (j + 1) x es[j] (by simpa using hx) (by simp [hj])
        exact hn.1 (List.mem_map.2 ⟨es[j], List.getElem_mem hj, by rw [h4, h2, ← h1, ← h3]⟩)
    rw [List.find?_cons, hne]
    exact find_uniq xs es j x (by simpa using hl) hn.2 (fun r x e h1 h2 => hk (r + 1) x e (by simpa using h1) (by simpa using h2)) hm hx hs
theorem mhas_find {α : Type} {f : α → MKey} {xs : List α} {m : MKey} {x : α} (h : xs.find? (fun x => (f x).same m) = some x) : mhas f xs m = true := by
  have := List.find?_some h
  have hx := List.mem_of_find?_eq_some h
  unfold mhas
  exact List.any_eq_true.2 ⟨x, hx, this⟩
/-- What a key finds. -/
theorem MapAt.find (hE : E.Ok) {k : κ.Kc} {xs : List (κ.ty k)} {es : Array MapEntry} (h : MapAt E F φ k xs es) {d : TypeDesc} {m : MKey} (hk : IsKey d m.toV) (hm : m.like (E.key k (E.dflt k)) = true) :
    (Instr.findNow d m.toV es.toList 0 = some none ∧ mhas (E.key k) xs m = false ∧ ∀ x ∈ es.toList, x.key ≠ m.toV) ∨
    ∃ j x e, xs[j]? = some x ∧ es[j]? = some e ∧ e.key = m.toV ∧ Instr.findNow d m.toV es.toList 0 = some (some (j, e.val)) ∧ mhas (E.key k) xs m = true ∧ mat (E.key k) (E.dflt k) xs m = x ∧ (E.key k x).same m = true := by
  have hall := fun x => like_all hE hm x
  rcases findNow_spec hk es.toList 0 (h.keys hE hk hm) with ⟨h1, h2⟩ | ⟨j, e, h1, h2, h3⟩
  · refine .inl ⟨h1, ?_, h2⟩
    unfold mhas
    rw [Bool.eq_false_iff]
    intro hc
    obtain ⟨x, hx, hs⟩ := List.any_eq_true.1 hc
    obtain ⟨r, hr⟩ := List.getElem?_of_mem hx
    have hlt : r < es.size := by rw [h.1]; exact (List.getElem?_eq_some_iff.1 hr).1
    have := (h.2.2 r x es[r] hr (Array.getElem?_eq_getElem hlt)).1
    exact h2 es[r] (by simp) (by rw [this, (MKey.same_toV (MKey.like_symm (hall x))).1 hs])
  · rw [Array.getElem?_toList] at h2
    have hlt : j < xs.length := by rw [← h.1]; exact (Array.getElem?_eq_some_iff.1 h2).1
    have hx := List.getElem?_eq_getElem hlt
    have hkx := (h.2.2 j _ e hx h2).1
    have hs : (E.key k xs[j]).same m = true := (MKey.same_toV (MKey.like_symm (hall _))).2 (by rw [← hkx, h3])
    have hf := find_uniq xs es.toList j xs[j] (by simp [h.1]) h.2.1 (fun r x e h1 h2 => (h.2.2 r x e h1 (by simpa using h2)).1) hall hx hs
    exact .inr ⟨j, xs[j], e, hx, h2, h3, by simpa using h1, mhas_find hf, by unfold mat; rw [hf]; rfl, hs⟩

theorem run_zeroV {t : TypeId} {z : Value} (h : zeroV? P t = some z) (w : World) : (zeroValue t).run P w = .ok z w := by
  unfold zeroV? at h
  cases hi : P.info? t with
  | none => rw [hi] at h; cases h
  | some i =>
    rw [hi] at h
    simp only [Option.bind_some] at h
    simp [zeroValue, typeInfo, hi, h]

theorem mp_inv (hg : Good C.E C.glob a w s F φ) {i : Nat} {u : Value} (hr : Rep C.E F φ (.mp i) u) {k : κ.Kc} {xs : List (κ.ty k)} (hS : s.S[i]? = some (.mp k xs)) :
    ∃ p g es clock, φ i = some p ∧ p.g = some g ∧ u = .map (some g) ∧ w.heap[g]? = some (.map es clock) ∧ MapAt C.E F φ k xs es := by
  cases hr with
  | mp _ p g h hg' =>
    obtain ⟨p', g', es, clock, h1, h2, h3, h4, h5, h6⟩ := hg.rel.blk i _ hS
    obtain rfl := Option.some.inj (h.symm.trans h1)
    obtain rfl := Option.some.inj (hg'.symm.trans h2)
    exact ⟨p, g, es, clock, h, hg', rfl, h3, h4, h5, h6⟩

theorem quiet_lookup {β : Type} (hE : C.E.Ok) {t : TypeId} {x y : Operand} {ok : Bool} {K : AV κ → Option β} {r : β} (ho : o.op = .lookup t x y ok) (h : quiet? C o s K = some r) : ∃ v, K v = some r ∧ QuietOk C o s v := by
  simp only [quiet?, ho] at h
  split at h
  · rename_i i hx
    split at h
    · rename_i k xs hS
      split at h
      · rename_i kt et hu
        split at h
        · rename_i m z hm hz
          split at h
          · rename_i hlike
            refine ⟨(if mhas (C.E.key k) xs m = true then (if ok then .tup [C.E.mval k (mat (C.E.key k) (C.E.dflt k) xs m), .val (.bool true)] else C.E.mval k (mat (C.E.key k) (C.E.dflt k) xs m)) else (if ok then .tup [lift z, .val (.bool false)] else lift z)), by split at h <;> rename_i hc <;> simp only [hc, if_true, if_false] <;> exact h, fun a w F φ hg => ?_⟩
            obtain ⟨p, g, es, clock, h1, h2, h3, h4, h5⟩ := mp_inv hg (hx ▸ ev_rep hg x) hS
            obtain ⟨hku, d, hd, hkey⟩ := keyV_sound hm (ev_rep hg y)
            have hrun : ∀ w', Sub w w' → ∀ av, (Instr.lookup t (.map (some g)) m.toV ok).run C.P w' = .ok av w' → (execOp a.eval o).run C.P w' = .ok (.value av) w' := fun w' hw' av hav => by
              unfold execOp
              rw [ho]
              refine run_v ?_
              rw [h3, hku]
              exact hav
            rcases h5.find hE hkey hlike with ⟨h6, h7, _⟩ | ⟨j, q, e, h6, h7, h8, h9, h10, h11, _⟩
            · rw [h7, if_neg (by simp)]
              refine ⟨if ok then .tuple #[z, .bool false] else z, ?_, fun t ht => (by rw [ho] at ht; simp at ht), fun w' hw' => hrun w' hw' _ ?_, fun hol => by unfold ownLoad at hol; rw [ho] at hol; cases hol⟩
              · cases ok
                · exact lift_rep z
                · refine .tup _ _ rfl fun j c u hc hu => ?_
                  match j, hc, hu with
                  | 0, hc, hu => simp at hc hu; subst hc; subst hu; exact lift_rep z
                  | 1, hc, hu => simp at hc hu; subst hc; subst hu; exact .val _
                  | j + 2, hc, hu => simp at hc
              · simp [Instr.lookup, run_underlying hu, MapKept.run_getObj_map (hw' _ _ h4), run_checkKey hd hkey, run_findKey hd h6, run_zeroV hz, Result.andThen]
            · rw [h10, if_pos rfl, h11]
              have hrep := (h5.2.2 j q e h6 h7).2
              refine ⟨if ok then .tuple #[e.val, .bool true] else e.val, ?_, fun t ht => (by rw [ho] at ht; simp at ht), fun w' hw' => hrun w' hw' _ ?_, fun hol => by unfold ownLoad at hol; rw [ho] at hol; cases hol⟩
              · cases ok
                · exact hrep
                · refine .tup _ _ rfl fun j c u hc hu => ?_
                  match j, hc, hu with
                  | 0, hc, hu => simp at hc hu; subst hc; subst hu; exact hrep
                  | 1, hc, hu => simp at hc hu; subst hc; subst hu; exact .val _
                  | j + 2, hc, hu => simp at hc
              · simp [Instr.lookup, run_underlying hu, MapKept.run_getObj_map (hw' _ _ h4), run_checkKey hd hkey, run_findKey hd h9, Result.andThen]
          · cases h
        · cases h
      · cases h
    · cases h
  · cases h
end Go.Am
end

section
namespace Go.Am
open Go.RowKit
variable {κ : Kinds} {E : Encs κ} {F F' : Nat → Option Obj} {φ φ' : Nat → Option Pl} {P : Program} {C : Ctx κ} {a : Act} {w : World} {s : St κ} {o : Oper}

theorem info_of_pos {t : TypeId} (h : 0 < sizeOf? P t) : ∃ i, P.info? t = some i ∧ i.size = sizeOf? P t := by
  cases hi : P.info? t with
  | none => simp [sizeOf?, hi] at h
  | some i => exact ⟨i, rfl, (info_size hi).symm⟩

theorem run_indexAt {t e : TypeId} {b off len cap n : Nat} {k : IntKind} {i : Int} (hu : P.underlying t = some (.slice e)) (hn : 0 < sizeOf? P e) (hs : sizeOf? P e = n) (h0 : 0 ≤ i) (h1 : i < (len : Int)) (w : World) :
    (Instr.indexAt t (.slice (some ⟨b, off, none⟩) len cap) (.int k i)).run P w = .ok (.pointer (some ⟨b, off + i.toNat * n, none⟩)) w := by
  obtain ⟨inf, hi, hs'⟩ := info_of_pos hn
  subst hs
  simp [Instr.indexAt, asIntOf, run_underlying hu, h0, h1, run_sizeOf' hi, hs', Addr.add_lit]

theorem own_inv {k : κ.Kc} {i : Nat} {xs : List (κ.ty k)} {u : Value} (h : Good C.E C.glob a w s F φ) (hr : Rep C.E F φ (.own k i) u) (hS : s.S[i]? = some (.rows k xs)) :
    ∃ p, φ i = some p ∧ p.len = xs.length ∧ ((p.g = none ∧ xs = [] ∧ u = .slice none 0 0) ∨ ∃ g, p.g = some g ∧ u = .slice (some ⟨g, 0, none⟩) xs.length p.cap) := by
  obtain ⟨p, h1, h4, hh⟩ := h.rel.blk i _ hS
  refine ⟨p, h1, h4, ?_⟩
  rcases hh with ⟨hn, hx⟩ | ⟨g, cur, hg', h2, h3, h5, h6, h7⟩
  · cases hr with
    | own _ _ p' g hp hpg =>
      obtain rfl := Option.some.inj (h1.symm.trans hp)
      rw [hn] at hpg; cases hpg
    | ownNil _ _ _ _ _ => exact .inl ⟨hn, hx, rfl⟩
  · cases hr with
    | own _ _ p' g2 hp hpg =>
      obtain rfl := Option.some.inj (h1.symm.trans hp)
      exact .inr ⟨g2, hpg, by rw [h4]⟩
    | ownNil _ _ p' hp hpg =>
      obtain rfl := Option.some.inj (h1.symm.trans hp)
      rw [hg'] at hpg; cases hpg

theorem own_cap {k : κ.Kc} {i : Nat} {xs : List (κ.ty k)} {p : Pl} {g : Nat} (h : Good C.E C.glob a w s F φ) (hS : s.S[i]? = some (.rows k xs)) (hp : φ i = some p) (hg : p.g = some g) : xs.length ≤ p.cap := by
  obtain ⟨p', h1, h4, hh⟩ := h.rel.blk i _ hS
  obtain rfl := Option.some.inj (hp.symm.trans h1)
  rcases hh with ⟨hn, hx⟩ | ⟨g, cur, hg', h2, h3, h5, h6, h7⟩
  · rw [hn] at hg; cases hg
  · exact h5
theorem sub_inv {k : κ.Kc} {i : Nat} {lo : Int} {xs : List (κ.ty k)} {u : Value} (h : Good C.E C.glob a w s F φ) (hr : Rep C.E F φ (.sub k i lo) u) (hS : s.S[i]? = some (.rows k xs)) :
    ∃ p ad cap, φ i = some p ∧ p.len = xs.length ∧ 0 ≤ lo ∧ lo ≤ (xs.length : Int) ∧ u = .slice ad (xs.length - lo.toNat) cap ∧ (lo < (xs.length : Int) → ∃ g, p.g = some g ∧ ad = some ⟨g, lo.toNat * κ.sz k, none⟩) := by
  obtain ⟨p, h1, h4, hh⟩ := h.rel.blk i _ hS
  cases hr with
  | sub _ _ _ p' ad cap hp h0 hl ha =>
    obtain rfl := Option.some.inj (h1.symm.trans hp)
    rw [← h4]
    exact ⟨p, ad, cap, h1, rfl, h0, hl, rfl, ha⟩
theorem quiet_convert {β : Type} (hE : C.E.Ok) {t t' : TypeId} {x : Operand} {K : AV κ → Option β} {r : β} (ho : o.op = .convert t t' x) (h : quiet? C o s K = some r) : ∃ v, K v = some r ∧ QuietOk C o s v := by
  simp only [quiet?, ho] at h
  split at h
  · rename_i q n hm
    split at h
    · rename_i d k hs hd
      refine ⟨_, h, .pure fun a F φ w hg => ⟨_, .val _, fun t ht => by rw [ho] at ht; simp at ht, fun w' => ?_⟩⟩
      have e1 := val_inv (hm ▸ ev_rep hg x)
      unfold execOp
      rw [ho]
      simp only [e1]
      refine run_v ?_
      simp [convert, run_underlying hs, run_underlying hd, Conv.intToInt]
    · split at h
      · rename_i u hu
        refine ⟨_, h, .pure fun a F φ w hg => ⟨u, .val u, fun t ht => by rw [ho] at ht; simp at ht, fun w' => ?_⟩⟩
        have e1 := val_inv (hm ▸ ev_rep hg x)
        unfold execOp
        rw [ho]
        simp only [e1]
        exact run_v (pureRun_sound hu w')
      · cases h
  · rename_i m _ hm
    split at h
    · rename_i u hu
      refine ⟨_, h, .pure fun a F φ w hg => ⟨u, .val u, fun t ht => by rw [ho] at ht; simp at ht, fun w' => ?_⟩⟩
      have e1 := val_inv (hm ▸ ev_rep hg x)
      unfold execOp
      rw [ho]
      simp only [e1]
      exact run_v (pureRun_sound hu w')
    · cases h
  · rename_i k xs hx
    split at h
    · rename_i e f hs hd hf
      split at h
      · rename_i he
        refine ⟨_, h, fun a w F φ hg => ?_⟩
        have hr := ev_rep hg x
        rw [hx] at hr
        generalize hz : a.eval x = z at hr
        have hsz := byte_sz hE hf
        have main : ∀ w', Fr F w' → (execOp a.eval o).run C.P w' = .ok (.value (.string (strOfNums (xs.map f)))) w' := fun w' hw' => by
          unfold execOp
          rw [ho]
          refine run_v ?_
          rw [hz]
          cases hr with
          | ro _ _ b off cap us hcap hc h' =>
            refine conv_cells hs he hd (by simp) fun i hi => ?_
            have h1 := hw'.cell (hc i 0 hi (by omega))
            rw [hsz, Nat.mul_one, Nat.add_zero] at h1
            rw [h1]
            have := byte_cell hE hf (x := xs[i]) (u := us i 0) fun j c hj => by
              have hj0 : j = 0 := by have := (List.getElem?_eq_some_iff.1 hj).1; rw [hE.len, hsz] at this; omega
              subst hj0
              exact h' i xs[i] 0 c (List.getElem?_eq_getElem hi) hj
            rw [this]
            simp [hi]
          | roNil _ => exact conv_none hs he hd
          | roEmp _ _ _ => exact conv_zero hs he hd
        exact ⟨_, .val _, fun t ht => by rw [ho] at ht; simp at ht, fun w' hw' => main w' fun b o hb => hw' _ _ (hg.rel.frz b o hb), fun _ => main⟩
      · cases h
    · cases h
  · rename_i k i hx
    split at h
    · rename_i k' xs hS
      split at h
      · rename_i hk
        subst hk
        split at h
        · rename_i e f hs hd hf
          split at h
          · rename_i he
            refine ⟨_, h, fun a w F φ hg => ⟨_, .val _, fun t ht => by rw [ho] at ht; simp at ht, fun w' hw' => ?_, fun hol => ?_⟩⟩
            · have hr := ev_rep hg x
              rw [hx] at hr
              have hsz := byte_sz hE hf
              obtain ⟨p, hp, hlen, hh⟩ := own_inv hg hr hS
              unfold execOp
              rw [ho]
              refine run_v ?_
              rcases hh with ⟨_, hx0, hu⟩ | ⟨g, hpg, hu⟩
              · rw [hu]; subst hx0; exact conv_none hs he hd
              · rw [hu]
                obtain ⟨p', h1, h4, hh⟩ := hg.rel.blk i _ hS
                obtain rfl := Option.some.inj (hp.symm.trans h1)
                rcases hh with ⟨hn, _⟩ | ⟨g', cur, hg', h2, h3, h5, h6, h7⟩
                · rw [hpg] at hn; cases hn
                obtain rfl := Option.some.inj (hpg.symm.trans hg')
                refine conv_cells hs he hd (by simp) fun j hj => ?_
                have hjc : j < cur.size := by rw [h3, hsz]; omega
                rw [cell_at (hw' _ _ h2)]
                have := byte_cell hE hf (x := xs[j]) (u := cur[j]) fun q c hq => by
                  have hq0 : q = 0 := by have := (List.getElem?_eq_some_iff.1 hq).1; rw [hE.len, hsz] at this; omega
                  subst hq0
                  exact h7 j xs[j] 0 c _ (List.getElem?_eq_getElem hj) hq (by rw [hsz]; simp [hjc])
                simp [hjc, this, hj]
            · unfold ownLoad at hol
              rw [ho] at hol
              simp only [hx] at hol
              cases hol
          · cases h
        · cases h
      · cases h
    · cases h
  · cases h

theorem quiet_indexAddr {β : Type} (hE : C.E.Ok) {t : TypeId} {x y : Operand} {K : AV κ → Option β} {r : β} (ho : o.op = .indexAddr t x y) (h : quiet? C o s K = some r) : ∃ v, K v = some r ∧ QuietOk C o s v := by
  simp only [quiet?, ho] at h
  split at h
  · rename_i d e k xs ki i hu hx hy
    split at h
    · rename_i hsz
      split at h
      · rename_i hi
        refine ⟨_, h, .pure fun a F φ w hg => ?_⟩
        have hr := ev_rep hg x
        rw [hx] at hr
        have e2 := val_inv (hy ▸ ev_rep hg y)
        generalize hz : a.eval x = z at hr
        have hlt : i.toNat < xs.length := by omega
        have hget : xs[i.toNat]? = some (xs.getD i.toNat (C.E.dflt k)) := by rw [List.getD_eq_getElem?_getD, List.getElem?_eq_getElem hlt]; rfl
        cases hr with
        | ro _ _ b off cap us hcap hc h' =>
          refine ⟨_, .rop _ b (off + i.toNat * κ.sz k) (fun j => us i.toNat j) (fun j hj => ?_) (fun j c hj => h' _ _ j c hget hj), fun t ht => by rw [ho] at ht; simp at ht, fun w' => ?_⟩
          · rw [hE.len] at hj
            have := hc i.toNat j hlt hj
            rw [← Nat.add_assoc] at this
            exact this
          · unfold execOp
            rw [ho]
            refine run_v ?_
            rw [hz, e2]
            exact run_indexAt hu (by rw [hsz]; exact hE.pos k) hsz hi.1 hi.2 w'
        | roNil _ => simp at hlt
        | roEmp _ _ _ => simp at hlt
      · cases h
    · cases h
  · rename_i d e k b ki i hu hx hy
    split at h
    · rename_i k' xs hS
      split at h
      · rename_i hk
        obtain ⟨rfl, hsz⟩ := hk
        split at h
        · rename_i hi
          refine ⟨_, h, .pure fun a F φ w hg => ?_⟩
          have hr := ev_rep hg x
          rw [hx] at hr
          have e2 := val_inv (hy ▸ ev_rep hg y)
          have hlt : i.toNat < xs.length := by omega
          obtain ⟨p, hp, hlen, hh⟩ := own_inv hg hr hS
          rcases hh with ⟨_, hx0, _⟩ | ⟨g, hpg, hu'⟩
          · subst hx0; simp at hlt
          refine ⟨_, .ptrE k' b i.toNat 0 p g hp hpg (by omega), fun t ht => by rw [ho] at ht; simp at ht, fun w' => ?_⟩
          unfold execOp
          rw [ho]
          refine run_v ?_
          rw [hu', e2, run_indexAt hu (by rw [hsz]; exact hE.pos k') hsz hi.1 hi.2 w']
          simp
        · cases h
      · cases h
    · cases h
  · rename_i d e k b lo ki i hu hx hy
    split at h
    · rename_i k' xs hS
      split at h
      · rename_i hk
        obtain ⟨rfl, hsz⟩ := hk
        split at h
        · rename_i hi
          refine ⟨_, h, .pure fun a F φ w hg => ?_⟩
          have hr := ev_rep hg x
          rw [hx] at hr
          have e2 := val_inv (hy ▸ ev_rep hg y)
          obtain ⟨p, ad, cap, hp, hlen, h0, hl, hz, ha⟩ := sub_inv hg hr hS
          obtain ⟨g, hpg, rfl⟩ := ha (by omega)
          refine ⟨_, .ptrE k' b (lo + i).toNat 0 p g hp hpg (by omega), fun t ht => by rw [ho] at ht; simp at ht, fun w' => ?_⟩
          unfold execOp
          rw [ho]
          refine run_v ?_
          rw [hz, e2, run_indexAt hu (by rw [hsz]; exact hE.pos k') hsz hi.1 (by omega) w']
          rw [show (lo + i).toNat = lo.toNat + i.toNat by omega, Nat.add_mul, Nat.add_zero]
        · cases h
      · cases h
    · cases h
  · rename_i d n e k xs ki i hu hx hy
    split at h
    · rename_i hc
      split at h
      · rename_i hi
        refine ⟨_, h, .pure fun a F φ w hg => ?_⟩
        have hr := ev_rep hg x
        rw [hx] at hr
        have e2 := val_inv (hy ▸ ev_rep hg y)
        generalize hz : a.eval x = z at hr
        have hlt : i.toNat < xs.length := by omega
        have hget : xs[i.toNat]? = some (xs.getD i.toNat (C.E.dflt k)) := by rw [List.getD_eq_getElem?_getD, List.getElem?_eq_getElem hlt]; rfl
        have h0 : 0 < sizeOf? C.P e := by rw [hc.1]; exact hE.pos k
        obtain ⟨inf, hinf, hs⟩ := info_pos h0
        cases hr with
        | tab _ _ b hx0 h' =>
          obtain ⟨rest, hrest⟩ := flat_drop hE hget
          generalize hcs : xs.flatMap (C.E.enc k) = cs at h' hrest
          cases h' with
          | rop _ _ _ us hc0 h1 =>
            have hget2 : ∀ j, j < (C.E.enc k (xs.getD i.toNat (C.E.dflt k))).length → cs[i.toNat * κ.sz k + j]? = (C.E.enc k (xs.getD i.toNat (C.E.dflt k)))[j]? := fun j hj => by
              rw [← List.getElem?_drop, hrest, List.getElem?_append_left hj]
            refine ⟨_, .rop _ b (0 + i.toNat * κ.sz k) (fun j => us (i.toNat * κ.sz k + j)) (fun j hj => ?_) (fun j c hj => ?_), fun t ht => by rw [ho] at ht; simp at ht, fun w' => ?_⟩
            · have h2 := hget2 j hj
              have hlt2 : i.toNat * κ.sz k + j < cs.length := by
                rcases Nat.lt_or_ge (i.toNat * κ.sz k + j) cs.length with h | h
                · exact h
                · rw [List.getElem?_eq_none h, List.getElem?_eq_getElem hj] at h2; cases h2
              have := hc0 _ hlt2
              rwa [← Nat.add_assoc] at this
            · have hj' : j < (C.E.enc k (xs.getD i.toNat (C.E.dflt k))).length := (List.getElem?_eq_some_iff.1 hj).1
              exact h1 _ c (by rw [hget2 j hj']; exact hj)
            · unfold execOp
              rw [ho]
              refine run_v ?_
              rw [hz, e2]
              have hi2 : i < (n : Int) := hi.2
              simp [Instr.indexAt, asIntOf, run_underlying hu, hi.1, hi2, run_sizeOf' hinf, hs, hc.1, Instr.sureAddr, Addr.add_lit]
      · cases h
    · cases h
  · rename_i d n e cs ki i hu hx hy
    split at h
    · rename_i h0
      obtain ⟨inf, hinf, hs⟩ := info_pos h0
      obtain ⟨m, _, hm, rfl, hK⟩ := caseK_some h
      refine ⟨_, hK, .pure fun a F φ w hg => ?_⟩
      have hr := ev_rep hg x
      rw [hx] at hr
      have e2 := val_inv (hy ▸ ev_rep hg y)
      generalize hz : a.eval x = z at hr
      cases hr with
      | rop _ b off us hc0 h1 =>
        refine ⟨_, .rop _ b (off + m * sizeOf? C.P e) (fun j => us (m * sizeOf? C.P e + j)) (fun j hj => ?_) (fun j c hj => ?_), fun t ht => by rw [ho] at ht; simp at ht, fun w' => ?_⟩
        · have := hc0 (m * sizeOf? C.P e + j) (by rw [List.length_drop] at hj; omega)
          rwa [← Nat.add_assoc] at this
        · rw [List.getElem?_drop] at hj
          exact h1 _ c hj
        · unfold execOp
          rw [ho]
          refine run_v ?_
          rw [hz, e2]
          have hm' : m < n := by omega
          simp [Instr.indexAt, asIntOf, run_underlying hu, hm', run_sizeOf' hinf, hs, Instr.sureAddr, Addr.add_lit]
    · cases h
  · rename_i d n e b off ki i hu hx hy
    split at h
    · rename_i h0
      obtain ⟨inf, hinf, hs⟩ := info_pos h0
      obtain ⟨m, _, hm, rfl, hK⟩ := caseK_some h
      refine ⟨_, hK, .pure fun a F φ w hg => ?_⟩
      have hr := ev_rep hg x
      rw [hx] at hr
      have e2 := val_inv (hy ▸ ev_rep hg y)
      generalize hz : a.eval x = z at hr
      cases hr with
      | ptr _ _ p g hp hpg =>
        refine ⟨_, .ptr b _ p g hp hpg, fun t ht => by rw [ho] at ht; simp at ht, fun w' => ?_⟩
        unfold execOp
        rw [ho]
        refine run_v ?_
        rw [hz, e2]
        have hm' : m < n := by omega
        simp [Instr.indexAt, asIntOf, run_underlying hu, hm', run_sizeOf' hinf, hs, Instr.sureAddr, Addr.add_lit]
    · cases h
  · cases h

theorem quiet_len {β : Type} {args : Array Operand} {ts : Array TypeId} {K : AV κ → Option β} {r : β} (ho : o.op = .call ⟨.builtin .len, args, ts⟩) (h : quiet? C o s K = some r) : ∃ v, K v = some r ∧ QuietOk C o s v := by
  simp only [quiet?, ho] at h
  split at h
  · rename_i x t hargs hts
    have ha : args = #[x] := by cases args; simp_all
    have ht' : ts = #[t] := by cases ts; simp_all
    subst ha; subst ht'
    have done : ∀ (n : Nat), K (.val (.int .i64 (n : Int))) = some r → (∀ (a : Act) (F : Nat → Option Obj) (φ : Nat → Option Pl) (w : World), Good C.E C.glob a w s F φ → ∀ w', (Builtin.len_ #[t] o.type #[a.eval x]).run C.P w' = .ok (.int .i64 (n : Int)) w') → ∃ v, K v = some r ∧ QuietOk C o s v := by
      intro n hk hrun
      refine ⟨_, hk, .pure fun a F φ w hg => ⟨_, .val _, fun t ht => by rw [ho] at ht; simp at ht, fun w' => ?_⟩⟩
      unfold execOp
      rw [ho]
      simp only [resolve, invoke, builtin, Sem.run_bind, Sem.run_pure, Result.andThen_ok, List.map_toArray, List.map_cons, List.map_nil, hrun a F φ w hg w']
    split at h
    · rename_i d b hu hx
      exact done _ h fun a F φ w hg w' => by
        have e1 := val_inv (hx ▸ ev_rep hg x)
        rw [e1]
        simp [Builtin.len_, run_underlying hu, goInt]
    · rename_i d e k xs hu hx
      refine done _ h fun a F φ w hg w' => ?_
      have hr := ev_rep hg x
      rw [hx] at hr
      generalize a.eval x = z at hr
      cases hr <;> simp [Builtin.len_, run_underlying hu, goInt]
    · rename_i d e k b hu hx
      split at h
      · rename_i k' xs hS
        split at h
        · rename_i hk
          subst hk
          refine done _ h fun a F φ w hg w' => ?_
          have hr := ev_rep hg x
          rw [hx] at hr
          obtain ⟨p, hp, hlen, hh⟩ := own_inv hg hr hS
          rcases hh with ⟨_, hx0, hz⟩ | ⟨g, _, hz⟩
          · rw [hz, hx0]; simp [Builtin.len_, run_underlying hu, goInt]
          · rw [hz]; simp [Builtin.len_, run_underlying hu, goInt]
        · cases h
      · cases h
    · rename_i d e k b lo hu hx
      split at h
      · rename_i k' xs hS
        split at h
        · rename_i hk
          subst hk
          refine ⟨_, h, .pure fun a F φ w hg => ?_⟩
          have hr := ev_rep hg x
          rw [hx] at hr
          obtain ⟨p, ad, cap, hp, hlen, h0, hl, hz, ha⟩ := sub_inv hg hr hS
          refine ⟨_, .val _, fun t ht => by rw [ho] at ht; simp at ht, fun w' => ?_⟩
          have hrun : (Builtin.len_ #[t] o.type #[a.eval x]).run C.P w' = .ok (.int .i64 ((xs.length : Int) - lo)) w' := by
            rw [hz, show ((xs.length : Int) - lo) = ((xs.length - lo.toNat : Nat) : Int) by omega]
            simp [Builtin.len_, run_underlying hu, goInt]
          unfold execOp
          rw [ho]
          simp only [resolve, invoke, builtin, Sem.run_bind, Sem.run_pure, Result.andThen_ok, List.map_toArray, List.map_cons, List.map_nil, hrun]
        · cases h
      · cases h
    · rename_i d e n cap ad hu hx
      exact done _ h fun a F φ w hg w' => by
        have e1 := val_inv (hx ▸ ev_rep hg x)
        rw [e1]
        simp [Builtin.len_, run_underlying hu, goInt]
    · rename_i d kt et b hu hx
      split at h
      · rename_i k xs hS
        refine ⟨_, h, fun a w F φ hg => ?_⟩
        obtain ⟨p, g, es, clock, h1, h2, h3, h4, h5⟩ := mp_inv hg (hx ▸ ev_rep hg x) hS
        refine ⟨_, .val _, fun t ht => by rw [ho] at ht; simp at ht, fun w' hw' => ?_, fun hol => by unfold ownLoad at hol; rw [ho] at hol; simp [hx] at hol⟩
        have hrun : (Builtin.len_ #[t] o.type #[a.eval x]).run C.P w' = .ok (.int .i64 (xs.length : Int)) w' := by
          rw [h3]
          simp [Builtin.len_, run_underlying hu, goInt, MapKept.run_getObj_map (hw' _ _ h4), Result.andThen, h5.1]
        unfold execOp
        rw [ho]
        simp only [resolve, invoke, builtin, Sem.run_bind, Sem.run_pure, Result.andThen_ok, List.map_toArray, List.map_cons, List.map_nil, hrun]
      · cases h
    · cases h
  · cases h

theorem map_eval {xs : List Operand} {vs : List Value} (hg : Good C.E C.glob a w s F φ) (h : xs.map (ev C s) = vs.map AV.val) : xs.map a.eval = vs := by
  induction xs generalizing vs with
  | nil => cases vs <;> simp at h ⊢
  | cons x xs ih =>
    cases vs with
    | nil => simp at h
    | cons v vs =>
      simp only [List.map_cons, List.cons.injEq] at h ⊢
      exact ⟨val_inv (h.1 ▸ ev_rep hg x), ih h.2⟩

theorem quiet_max {β : Type} {args : Array Operand} {ts : Array TypeId} {K : AV κ → Option β} {r : β} (ho : o.op = .call ⟨.builtin .max, args, ts⟩) (h : quiet? C o s K = some r) : ∃ v, K v = some r ∧ QuietOk C o s v := by
  simp only [quiet?, ho] at h
  split at h
  · rename_i k m k' n he
    refine ⟨_, h, .pure fun a F φ w hg => ⟨_, .val _, fun t ht => by rw [ho] at ht; simp at ht, fun w' => ?_⟩⟩
    have e := map_eval (vs := [.int k m, .int k' n]) hg he
    have e' : args.map a.eval = #[.int k m, .int k' n] := by rw [← Array.toList_inj, Array.toList_map, e]
    unfold execOp
    rw [ho]
    simp only [resolve, invoke, builtin, Sem.run_bind, Sem.run_pure, Result.andThen_ok, e']
    have : (if n > m then n else m) = max m n := by split <;> omega
    simp [Builtin.max_, Builtin.max2, this]
  · rename_i k m k' n k'' q he
    refine ⟨_, h, .pure fun a F φ w hg => ⟨_, .val _, fun t ht => by rw [ho] at ht; simp at ht, fun w' => ?_⟩⟩
    have e := map_eval (vs := [.int k m, .int k' n, .int k'' q]) hg he
    have e' : args.map a.eval = #[.int k m, .int k' n, .int k'' q] := by rw [← Array.toList_inj, Array.toList_map, e]
    unfold execOp
    rw [ho]
    simp only [resolve, invoke, builtin, Sem.run_bind, Sem.run_pure, Result.andThen_ok, e']
    have : (if q > (if n > m then n else m) then q else if n > m then n else m) = max (max m n) q := by split <;> split <;> omega
    simp [Builtin.max_, Builtin.max2, this]
  · cases h

theorem quiet_min {β : Type} {args : Array Operand} {ts : Array TypeId} {K : AV κ → Option β} {r : β} (ho : o.op = .call ⟨.builtin .min, args, ts⟩) (h : quiet? C o s K = some r) : ∃ v, K v = some r ∧ QuietOk C o s v := by
  simp only [quiet?, ho] at h
  split at h
  · rename_i k m k' n he
    refine ⟨_, h, .pure fun a F φ w hg => ⟨_, .val _, fun t ht => by rw [ho] at ht; simp at ht, fun w' => ?_⟩⟩
    have e := map_eval (vs := [.int k m, .int k' n]) hg he
    have e' : args.map a.eval = #[.int k m, .int k' n] := by rw [← Array.toList_inj, Array.toList_map, e]
    unfold execOp
    rw [ho]
    simp only [resolve, invoke, builtin, Sem.run_bind, Sem.run_pure, Result.andThen_ok, e']
    have : (if n < m then n else m) = min m n := by split <;> omega
    simp [Builtin.min_, Builtin.min2, this]
  · rename_i k m k' n k'' q he
    refine ⟨_, h, .pure fun a F φ w hg => ⟨_, .val _, fun t ht => by rw [ho] at ht; simp at ht, fun w' => ?_⟩⟩
    have e := map_eval (vs := [.int k m, .int k' n, .int k'' q]) hg he
    have e' : args.map a.eval = #[.int k m, .int k' n, .int k'' q] := by rw [← Array.toList_inj, Array.toList_map, e]
    unfold execOp
    rw [ho]
    simp only [resolve, invoke, builtin, Sem.run_bind, Sem.run_pure, Result.andThen_ok, e']
    have : (if q < (if n < m then n else m) then q else if n < m then n else m) = min (min m n) q := by split <;> split <;> omega
    simp [Builtin.min_, Builtin.min2, this]
  · cases h

/-- A part of a slice that is read. -/
theorem ro_part {k : κ.Kc} {xs : List (κ.ty k)} {b off len cap : Nat} (h : Rep E F φ (.ro k xs) (.slice (some ⟨b, off, none⟩) len cap)) (l m : Nat) (hl : l ≤ m) (hm : m ≤ xs.length) :
    Rep E F φ (.ro k ((xs.take m).drop l)) (.slice (some (if cap = l then ⟨b, off, none⟩ else ⟨b, off + l * κ.sz k, none⟩)) (m - l) (cap - l)) := by
  cases h with
  | ro _ _ _ _ _ us hcap hc hr =>
    have hlen : ((xs.take m).drop l).length = m - l := by simp; omega
    by_cases hcl : cap = l
    · rw [if_pos hcl]
      have he : (xs.take m).drop l = [] := by apply List.eq_nil_of_length_eq_zero; omega
      rw [he]
      have : m - l = 0 := by omega
      rw [this]
      exact .ro k [] b off (cap - l) (fun _ _ => undef) (by simp) (fun r j hr => by simp at hr) (fun r x j c hx => by simp at hx)
    · rw [if_neg hcl, ← hlen]
      refine .ro k _ b (off + l * κ.sz k) (cap - l) (fun r j => us (l + r) j) (by omega) (fun r j hr' hj => ?_) (fun r x j c hx hj => ?_)
      · rw [hlen] at hr'
        have := hc (l + r) j (by omega) hj
        rw [Nat.add_mul] at this
        rw [show off + l * κ.sz k + (r * κ.sz k + j) = off + (l * κ.sz k + r * κ.sz k + j) by omega]
        exact this
      · rw [List.getElem?_drop, List.getElem?_take] at hx
        split at hx
        · exact hr _ _ _ _ hx hj
        · cases hx
  | roEmp _ _ _ =>
    have hm0 : m = 0 := by simpa using hm
    have hl0 : l = 0 := by omega
    subst hm0; subst hl0
    simp only [List.take_nil, List.drop_nil, Nat.sub_self]
    exact .roEmp k _ _

theorem run_sliceAt {t e : TypeId} {b off len cap n : Nat} {lo hi : Option Value} (l m : Nat) (hu : P.underlying t = some (.slice e)) (hn : 0 < sizeOf? P e) (hs : sizeOf? P e = n)
    (hb : ∀ w, (Instr.sliceBounds true len cap lo hi none).run P w = .ok (l, m, cap) w) (w : World) :
    (Instr.sliceAt t (.slice (some ⟨b, off, none⟩) len cap) lo hi none).run P w = .ok (.slice (some (if cap = l then ⟨b, off, none⟩ else ⟨b, off + l * n, none⟩)) (m - l) (cap - l)) w := by
  obtain ⟨inf, hi', hs'⟩ := info_of_pos hn
  subst hs
  simp only [Instr.sliceAt, run_underlying hu, Sem.run_bind, Result.andThen_ok, Instr.slice, hb, run_sizeOf' hi', hs', Sem.run_pure]
  by_cases hc : cap = l <;> simp [hc, Addr.add_lit]
theorem run_sliceNil {t e : TypeId} {lo hi : Option Value} (hu : P.underlying t = some (.slice e)) (hn : 0 < sizeOf? P e)
    (hb : ∀ w, (Instr.sliceBounds true 0 0 lo hi none).run P w = .ok (0, 0, 0) w) (w : World) :
    (Instr.sliceAt t (.slice none 0 0) lo hi none).run P w = .ok (.slice none 0 0) w := by
  obtain ⟨inf, hi', hs'⟩ := info_of_pos hn
  simp [Instr.sliceAt, Instr.slice, run_underlying hu, hb, run_sizeOf' hi']

theorem run_sliceEmp {t e : TypeId} {ad : Addr} {cap : Nat} {lo hi : Option Value} (hu : P.underlying t = some (.slice e)) (hn : 0 < sizeOf? P e)
    (hb : ∀ w, (Instr.sliceBounds true 0 cap lo hi none).run P w = .ok (0, 0, cap) w) :
    ∃ ad' : Addr, ∀ w, (Instr.sliceAt t (.slice (some ad) 0 cap) lo hi none).run P w = .ok (.slice (some ad') 0 cap) w := by
  obtain ⟨inf, hi', hs'⟩ := info_of_pos hn
  refine ⟨if cap = 0 then ad else ad.add (0 * inf.size), fun w => ?_⟩
  simp only [Instr.sliceAt, run_underlying hu, Sem.run_bind, Result.andThen_ok, Instr.slice, hb, run_sizeOf' hi', Sem.run_pure]
  by_cases hc : cap = 0 <;> simp [hc]

theorem run_bound {v : Int} {k : IntKind} {y : Nat} {code : BoundsCode} (h0 : 0 ≤ v) (h1 : v ≤ (y : Int)) (w : World) : (Instr.sliceBound (.int k v) y code).run P w = .ok v.toNat w := by
  simp [Instr.sliceBound, asIntOf, h0, h1]

theorem ro_inv {k : κ.Kc} {xs : List (κ.ty k)} {u : Value} (h : Rep E F φ (.ro k xs) u) : (xs = [] ∧ u = .slice none 0 0) ∨ (xs = [] ∧ ∃ a cap, u = .slice (some a) 0 cap) ∨ ∃ b off cap, xs.length ≤ cap ∧ u = .slice (some ⟨b, off, none⟩) xs.length cap := by
  cases h with
  | ro _ _ b off cap us hcap hc hr => exact .inr (.inr ⟨b, off, cap, hcap, rfl⟩)
  | roNil _ => exact .inl ⟨rfl, rfl⟩
  | roEmp _ a cap => exact .inr (.inl ⟨rfl, a, cap, rfl⟩)

theorem quiet_slice {β : Type} (hE : C.E.Ok) {t : TypeId} {x : Operand} {lo hi mx : Option Operand} {K : AV κ → Option β} {r : β} (ho : o.op = .slice t x lo hi mx) (h : quiet? C o s K = some r) : ∃ v, K v = some r ∧ QuietOk C o s v := by
  cases mx with
  | some m => simp [quiet?, ho] at h
  | none =>
  simp only [quiet?, ho] at h
  -- a slice that is read
  have roCase : ∀ (e : TypeId) (k : κ.Kc) (xs : List (κ.ty k)) (l m : Nat), C.P.underlying t = some (.slice e) → ev C s x = .ro k xs → sizeOf? C.P e = κ.sz k → l ≤ m → m ≤ xs.length →
      (∀ (a : Act) (w : World) (F : Nat → Option Obj) (φ : Nat → Option Pl), Good C.E C.glob a w s F φ → ∀ cap, xs.length ≤ cap → ∀ w', (Instr.sliceBounds true xs.length cap (lo.map a.eval) (hi.map a.eval) none).run C.P w' = .ok (l, m, cap) w') →
      QuietOk C o s (.ro k ((xs.take m).drop l)) := by
    intro e k xs l m hu hx hsz hl hm hb
    refine .pure fun a F φ w hg => ?_
    have hr := ev_rep hg x
    rw [hx] at hr
    rcases ro_inv hr with ⟨h0, hz⟩ | ⟨h0, ad, cap, hz⟩ | ⟨b, off, cap, hcap, hz⟩
    · subst h0
      refine ⟨.slice none 0 0, ?_, fun t ht => by rw [ho] at ht; simp at ht, fun w' => ?_⟩
      · simp only [List.take_nil, List.drop_nil]; exact .roNil k
      · have hl0 : l = 0 := by simp at hm; omega
        have hm0 : m = 0 := by simpa using hm
        subst hl0; subst hm0
        unfold execOp
        rw [ho]
        refine run_v ?_
        rw [hz]
        exact run_sliceNil hu (by rw [hsz]; exact hE.pos k) (fun w' => hb a w F φ hg 0 (by simp) w') w'
    · subst h0
      have hl0 : l = 0 := by simp at hm; omega
      have hm0 : m = 0 := by simpa using hm
      subst hl0; subst hm0
      obtain ⟨ad', hrun⟩ := run_sliceEmp (P := C.P) (ad := ad) (cap := cap) hu (by rw [hsz]; exact hE.pos k) (fun w' => hb a w F φ hg cap (by simp) w')
      refine ⟨.slice (some ad') 0 cap, ?_, fun t ht => by rw [ho] at ht; simp at ht, fun w' => ?_⟩
      · simp only [List.take_nil, List.drop_nil]; exact .roEmp k ad' cap
      · unfold execOp
        rw [ho]
        refine run_v ?_
        rw [hz]
        exact hrun w'
    · rw [hz] at hr
      refine ⟨_, ro_part hr l m hl hm, fun t ht => by rw [ho] at ht; simp at ht, fun w' => ?_⟩
      unfold execOp
      rw [ho]
      refine run_v ?_
      rw [hz]
      exact run_sliceAt l m hu (by rw [hsz]; exact hE.pos k) hsz (fun w' => hb a w F φ hg cap hcap w') w'
  split at h
  · rename_i d b hu hx
    have strCase : ∀ (l m : Nat), (∀ (a : Act) (w : World) (F : Nat → Option Obj) (φ : Nat → Option Pl), Good C.E C.glob a w s F φ → ∀ w', (Instr.sliceBounds false b.size b.size (lo.map a.eval) (hi.map a.eval) none).run C.P w' = .ok (l, m, b.size) w') → QuietOk C o s (.val (.string (b.extract l m))) := by
      intro l m hb
      refine .pure fun a F φ w hg => ⟨_, .val _, fun t ht => by rw [ho] at ht; simp at ht, fun w' => ?_⟩
      have e1 := val_inv (hx ▸ ev_rep hg x)
      unfold execOp
      rw [ho]
      refine run_v ?_
      rw [e1]
      simp [Instr.sliceAt, Instr.slice, run_underlying hu, hb a w F φ hg]
    split at h
    · rename_i hh
      split at h
      · rename_i kh vh hvh
        split at h
        · rename_i hc
          refine ⟨_, h, strCase 0 vh.toNat fun a w F φ hg w' => ?_⟩
          have e2 := val_inv (hvh ▸ ev_rep hg hh)
          simp [Instr.sliceBounds, e2, run_bound hc.1 hc.2]
        · cases h
      · cases h
    · rename_i ll
      split at h
      · rename_i kl vl hvl
        split at h
        · rename_i hc
          refine ⟨_, h, strCase vl.toNat b.size fun a w F φ hg w' => ?_⟩
          have e2 := val_inv (hvl ▸ ev_rep hg ll)
          simp [Instr.sliceBounds, e2, run_bound hc.1 hc.2]
        · cases h
      · cases h
    · rename_i ll hh
      split at h
      · rename_i kl vl kh vh hvl hvh
        split at h
        · rename_i hc
          refine ⟨_, h, strCase vl.toNat vh.toNat fun a w F φ hg w' => ?_⟩
          have e2 := val_inv (hvl ▸ ev_rep hg ll)
          have e3 := val_inv (hvh ▸ ev_rep hg hh)
          simp [Instr.sliceBounds, e2, e3, run_bound (show 0 ≤ vh by omega) hc.1, run_bound (y := vh.toNat) hc.2.1 (by omega)]
        · cases h
      · cases h
    · cases h
  · rename_i d e k xs hu hx
    split at h
    · rename_i hsz
      split at h
      · rename_i hh
        split at h
        · rename_i kh vh hvh
          split at h
          · rename_i hc
            refine ⟨_, h, ?_⟩
            have := roCase e k xs 0 vh.toNat hu hx hsz (by omega) (by omega) fun a w F φ hg cap hcap w' => by
              have e2 := val_inv (hvh ▸ ev_rep hg hh)
              simp [Instr.sliceBounds, e2, run_bound (y := cap) hc.1 (by omega)]
            simpa using this
          · cases h
        · cases h
      · rename_i ll
        split at h
        · rename_i kl vl hvl
          split at h
          · rename_i hc
            refine ⟨_, h, ?_⟩
            have := roCase e k xs vl.toNat xs.length hu hx hsz (by omega) (by omega) fun a w F φ hg cap hcap w' => by
              have e2 := val_inv (hvl ▸ ev_rep hg ll)
              simp [Instr.sliceBounds, e2, run_bound hc.1 hc.2]
            simpa using this
          · cases h
        · cases h
      · rename_i ll hh
        split at h
        · rename_i kl vl kh vh hvl hvh
          split at h
          · rename_i hc
            refine ⟨_, h, roCase e k xs vl.toNat vh.toNat hu hx hsz (by omega) (by omega) fun a w F φ hg cap hcap w' => ?_⟩
            have e2 := val_inv (hvl ▸ ev_rep hg ll)
            have e3 := val_inv (hvh ▸ ev_rep hg hh)
            simp [Instr.sliceBounds, e2, e3, run_bound (y := cap) (show 0 ≤ vh by omega) (by omega), run_bound (y := vh.toNat) hc.2.1 (by omega)]
          · cases h
        · cases h
      · cases h
    · cases h
  · rename_i d e k i hu hx
    split at h
    · rename_i k' xs hS
      split at h
      · rename_i ll
        split at h
        · rename_i kl vl hvl
          split at h
          · rename_i hk
            obtain ⟨rfl, hsz⟩ := hk
            split at h
            · rename_i hc
              refine ⟨_, h, .pure fun a F φ w hg => ?_⟩
              have hr := ev_rep hg x
              rw [hx] at hr
              have e2 := val_inv (hvl ▸ ev_rep hg ll)
              obtain ⟨p, hp, hlen, hh⟩ := own_inv hg hr hS
              rcases hh with ⟨_, hx0, hz⟩ | ⟨g, hpg, hz⟩
              · subst hx0
                have hl0 : vl.toNat = 0 := by simp at hc; omega
                refine ⟨.slice none (p.len - vl.toNat) 0, .sub k' i vl p none 0 hp hc.1 (by rw [hlen]; exact hc.2) (fun hlt => by rw [hlen] at hlt; simp at hlt hc; omega), fun t ht => by rw [ho] at ht; simp at ht, fun w' => ?_⟩
                unfold execOp
                rw [ho]
                refine run_v ?_
                rw [hz, hlen]
                have := run_sliceNil (P := C.P) (lo := some (a.eval ll)) (hi := none) hu (by rw [hsz]; exact hE.pos k') (fun w' => by simp [Instr.sliceBounds, e2, run_bound (y := 0) hc.1 (by simpa using hc.2), hl0]) w'
                simpa using this
              · have hcap : xs.length ≤ p.cap := own_cap hg hS hp hpg
                refine ⟨.slice (some (if p.cap = vl.toNat then ⟨g, 0, none⟩ else ⟨g, 0 + vl.toNat * κ.sz k', none⟩)) (p.len - vl.toNat) (p.cap - vl.toNat), .sub k' i vl p _ _ hp hc.1 (by rw [hlen]; exact hc.2) (fun hlt => ⟨g, hpg, by rw [if_neg (by rw [hlen] at hlt; omega), Nat.zero_add]⟩), fun t ht => by rw [ho] at ht; simp at ht, fun w' => ?_⟩
                unfold execOp
                rw [ho]
                refine run_v ?_
                rw [hz, hlen]
                exact run_sliceAt vl.toNat xs.length hu (by rw [hsz]; exact hE.pos k') hsz (fun w' => by simp [Instr.sliceBounds, e2, run_bound hc.1 hc.2]) w'
            · cases h
          · cases h
        · cases h
      · cases h
    · cases h
  · cases h

/-- **All quiet operations.** -/
theorem quiet_sound {β : Type} (hE : C.E.Ok) {K : AV κ → Option β} {r : β} (h : quiet? C o s K = some r) : ∃ v, K v = some r ∧ QuietOk C o s v := by
  cases ho : o.op with
  | move x => simp only [quiet?, ho] at h; exact ⟨_, h, quiet_move (.inl ho)⟩
  | assign x => simp only [quiet?, ho] at h; exact ⟨_, h, quiet_move (.inr ho)⟩
  | build t ps => exact quiet_build ho h
  | load t x => exact quiet_load hE ho h
  | nilCheck x => exact quiet_nilCheck ho h
  | binOp op t x y t' => exact quiet_bin ho h
  | unOp op t x => exact quiet_un ho h
  | convert t t' x => exact quiet_convert hE ho h
  | makeFunc f first caps =>
    cases f with
    | func f => exact quiet_makeFunc ho h
    | _ => simp [quiet?, ho] at h
  | slice t x lo hi mx => exact quiet_slice hE ho h
  | fieldAddr t x f => exact quiet_fieldAddr ho h
  | field t x f => exact quiet_field ho h
  | indexAddr t x y => exact quiet_indexAddr hE ho h
  | index t x y => exact quiet_index hE ho h
  | extract x f => exact quiet_extract ho h
  | lookup t x y ok => exact quiet_lookup hE ho h
  | call c =>
    obtain ⟨callee, args, ts⟩ := c
    cases callee with
    | builtin b =>
      cases b with
      | len => exact quiet_len ho h
      | max => exact quiet_max ho h
      | min => exact quiet_min ho h
      | _ => simp [quiet?, ho] at h
    | _ => simp [quiet?, ho] at h
  | _ => simp [quiet?, ho] at h
end Go.Am
end

section
namespace Go.Am
open Go.RowKit
variable {κ : Kinds} {E : Encs κ} {F F' : Nat → Option Obj} {φ φ' : Nat → Option Pl} {P : Program} {C : Ctx κ} {a : Act} {w w' : World} {s : St κ} {o : Oper}

def at_ (φ : Nat → Option Pl) (n : Nat) (p : Option Pl) : Nat → Option Pl := fun j => if j = n then p else φ j
theorem at_self (φ : Nat → Option Pl) (n : Nat) (p : Option Pl) : at_ φ n p n = p := by simp [at_]
theorem at_ne (φ : Nat → Option Pl) {n j : Nat} (p : Option Pl) (h : j ≠ n) : at_ φ n p j = φ j := by simp [at_, h]

theorem OwnB.keep {i : Nat} {b : Blk κ} (h : OwnB E F φ w i b) (hi : φ' i = φ i) (hφ : ∀ j p, φ j = some p → φ' j = some p) (hw : ∀ p g ob, φ i = some p → p.g = some g → w.heap[g]? = some ob → w'.heap[g]? = some ob) : OwnB E F φ' w' i b := by
  cases b with
  | dead => exact hi.trans h
  | raw t cs =>
    obtain ⟨p, g, cur, h1, h2, h3, h4, h5⟩ := h
    exact ⟨p, g, cur, hi.trans h1, h2, hw p g _ h1 h2 h3, h4, fun j c u hc hu => (h5 j c u hc hu).place hφ⟩
  | rows k xs =>
    obtain ⟨p, h1, h2, hh⟩ := h
    refine ⟨p, hi.trans h1, h2, ?_⟩
    rcases hh with hh | ⟨g, cur, h3, h4, h5, h6, h7, h8⟩
    · exact .inl hh
    · exact .inr ⟨g, cur, h3, hw p g _ h1 h3 h4, h5, h6, h7, fun r x j c u hx hc hu => (h8 r x j c u hx hc hu).place hφ⟩
  | mp k xs =>
    obtain ⟨p, g, es, clock, h1, h2, h3, h4, h5, h6⟩ := h
    exact ⟨p, g, es, clock, hi.trans h1, h2, hw p g _ h1 h2 h3, h4, h5, fun r x e hx he => ⟨(h6 r x e hx he).1, (h6 r x e hx he).2.place hφ⟩⟩
theorem OwnB.mono {i : Nat} {b : Blk κ} (h : OwnB E F φ w i b) (hF : Le F F') : OwnB E F' φ w i b := by
  cases b with
  | dead => exact h
  | raw t cs =>
    obtain ⟨p, g, cur, h1, h2, h3, h4, h5⟩ := h
    exact ⟨p, g, cur, h1, h2, h3, h4, fun j c u hc hu => (h5 j c u hc hu).mono hF⟩
  | rows k xs =>
    obtain ⟨p, h1, h2, hh⟩ := h
    refine ⟨p, h1, h2, ?_⟩
    rcases hh with hh | ⟨g, cur, h3, h4, h5, h6, h7, h8⟩
    · exact .inl hh
    · exact .inr ⟨g, cur, h3, h4, h5, h6, h7, fun r x j c u hx hc hu => (h8 r x j c u hx hc hu).mono hF⟩
  | mp k xs =>
    obtain ⟨p, g, es, clock, h1, h2, h3, h4, h5, h6⟩ := h
    exact ⟨p, g, es, clock, h1, h2, h3, h4, h5, fun r x e hx he => ⟨(h6 r x e hx he).1, (h6 r x e hx he).2.mono hF⟩⟩
theorem OwnB.kill (hE : E.Ok) {i j : Nat} {b : Blk κ} (h : OwnB E F φ w j b) (hj : j ≠ i) (hφ : ∀ j, j ≠ i → φ' j = φ j) (hw : ∀ p g ob, φ j = some p → p.g = some g → w.heap[g]? = some ob → w'.heap[g]? = some ob) : OwnB E F φ' w' j (b.kill i) := by
  cases b with
  | dead => exact (hφ j hj).trans h
  | raw t cs =>
    obtain ⟨p, g, cur, h1, h2, h3, h4, h5⟩ := h
    refine ⟨p, g, cur, (hφ j hj).trans h1, h2, hw p g _ h1 h2 h3, by rw [killL_length]; exact h4, fun j c u hc hu => ?_⟩
    rw [killL_get] at hc
    obtain ⟨c', hc', rfl⟩ := Option.map_eq_some_iff.1 hc
    exact (h5 j c' u hc' hu).kill hφ hE
  | rows k xs =>
    obtain ⟨p, h1, h2, hh⟩ := h
    refine ⟨p, (hφ j hj).trans h1, h2, ?_⟩
    rcases hh with hh | ⟨g, cur, h3, h4, h5, h6, h7, h8⟩
    · exact .inl hh
    · refine .inr ⟨g, cur, h3, hw p g _ h1 h3 h4, h5, h6, h7, fun r x j c u hx hc hu => ?_⟩
      exact ((h8 r x j c u hx hc hu).flat hE (hE.flat k x c (List.mem_of_getElem? hc))).1
  | mp k xs =>
    obtain ⟨p, g, es, clock, h1, h2, h3, h4, h5, h6⟩ := h
    exact ⟨p, g, es, clock, (hφ j hj).trans h1, h2, hw p g _ h1 h2 h3, h4, h5, fun r x e hx he => ⟨(h6 r x e hx he).1, (h6 r x e hx he).2.still hE (hE.still k x)⟩⟩

theorem fresh_good (hg : Good C.E C.glob a w s F φ) (pl : Pl) (hw : w.grownBy w' none) (hpl : ∀ g, pl.g = some g → w.heap.size ≤ g ∧ g < w'.heap.size) {b : Blk κ} (hb : OwnB C.E F (at_ φ s.S.length (some pl)) w' s.S.length b) :
    Good C.E C.glob a w' (s.fresh b) F (at_ φ s.S.length (some pl)) ∧ Mv w F φ w' F (at_ φ s.S.length (some pl)) := by
  have hn := hg.rel.out s.S.length (Nat.le_refl _)
  have hφ : ∀ j p, φ j = some p → at_ φ s.S.length (some pl) j = some p := fun j p h => by
    by_cases hj : j = s.S.length
    · subst hj; rw [hn] at h; cases h
    · rw [at_ne _ _ hj]; exact h
  have old : ∀ j p g ob, φ j = some p → p.g = some g → w.heap[g]? = some ob → w'.heap[g]? = some ob := fun j p g ob h1 h2 h3 => by
    rw [hw.block g (hg.rel.lt j p g h1 h2) (by simp)]; exact h3
  refine ⟨⟨⟨fun x ob h => ?_, fun i c h => ?_, fun i h => ?_, fun i j p q g h1 h2 h3 h4 => ?_, fun i p g h1 h2 => ?_, fun i p g h1 h2 => ?_⟩, fun t v h => (hg.env t v h).place hφ, hg.size, hg.defers, hg.al, hg.glob⟩, ?_⟩
  · have h' := hg.rel.frz x ob h
    rw [hw.block x (Array.getElem?_eq_some_iff.1 h').1 (by simp)]; exact h'
  · simp only [St.fresh] at h
    by_cases hi : i < s.S.length
    · rw [List.getElem?_append_left hi] at h
      exact (hg.rel.blk i c h).keep (at_ne _ _ (by omega)) hφ (old i)
    · rw [List.getElem?_append_right (by omega)] at h
      by_cases hi2 : i = s.S.length
      · subst hi2
        simp at h
        subst h
        exact hb
      · rw [List.getElem?_eq_none (by simp; omega)] at h
        cases h
  · simp only [St.fresh, List.length_append, List.length_cons, List.length_nil] at h
    rw [at_ne _ _ (by omega)]
    exact hg.rel.out i (by omega)
  · by_cases hi : i = s.S.length
    · by_cases hj : j = s.S.length
      · omega
      · subst hi
        rw [at_self] at h1
        rw [at_ne _ _ hj] at h2
        obtain rfl := Option.some.inj h1
        have := hg.rel.lt j q g h2 h4
        have := (hpl g h3).1
        omega
    · by_cases hj : j = s.S.length
      · subst hj
        rw [at_self] at h2
        rw [at_ne _ _ hi] at h1
        obtain rfl := Option.some.inj h2
        have := hg.rel.lt i p g h1 h3
        have := (hpl g h4).1
        omega
      · rw [at_ne _ _ hi] at h1
        rw [at_ne _ _ hj] at h2
        exact hg.rel.inj i j p q g h1 h2 h3 h4
  · by_cases hi : i = s.S.length
    · subst hi
      rw [at_self] at h1
      obtain rfl := Option.some.inj h1
      cases hF : F g with
      | none => rfl
      | some ob =>
        have := (Array.getElem?_eq_some_iff.1 (hg.rel.frz g ob hF)).1
        have := (hpl g h2).1
        omega
    · rw [at_ne _ _ hi] at h1
      exact hg.rel.apart i p g h1 h2
  · by_cases hi : i = s.S.length
    · subst hi
      rw [at_self] at h1
      obtain rfl := Option.some.inj h1
      exact (hpl g h2).2
    · rw [at_ne _ _ hi] at h1
      have := hg.rel.lt i p g h1 h2
      have := hw.size
      omega
  · refine ⟨hw.os, hw.tape, hw.output, hw.size, fun x hx _ => hw.block x hx (by simp), fun x hx hlt => ?_, Le.refl F, fun x ob h1 h2 => by rw [h2] at h1; cases h1⟩
    obtain ⟨i, p, h1, h2⟩ := hx
    by_cases hi : i = s.S.length
    · subst hi
      rw [at_self] at h1
      obtain rfl := Option.some.inj h1
      have := (hpl x h2).1
      omega
    · rw [at_ne _ _ hi] at h1
      exact ⟨i, p, h1, h2⟩

/-- A block of its own is written. -/
theorem set_good (hg : Good C.E C.glob a w s F φ) {i : Nat} {p : Pl} {g : Nat} {cs : Array Value} {b b' : Blk κ} (hS : s.S[i]? = some b) (hp : φ i = some p) (hpg : p.g = some g) (hb : OwnB C.E F φ (w.setRow g cs) i b') :
    Good C.E C.glob a (w.setRow g cs) (s.setB i b') F φ ∧ Mv w F φ (w.setRow g cs) F φ := by
  have hlt : i < s.S.length := (List.getElem?_eq_some_iff.1 hS).1
  have hsz : (w.setRow g cs).heap.size = w.heap.size := by simp [World.setRow]
  refine ⟨⟨⟨fun x ob h => ?_, fun j c h => ?_, fun j h => hg.rel.out j (by simpa [St.setB] using h), hg.rel.inj, hg.rel.apart, fun j q g' h1 h2 => ?_⟩, hg.env, hg.size, hg.defers, hg.al, hg.glob⟩, ?_⟩
  · rw [setRow_other]
    · exact hg.rel.frz x ob h
    · intro e
      subst e
      rw [hg.rel.apart i p x hp hpg] at h
      cases h
  · simp only [St.setB] at h
    by_cases hj : j = i
    · subst hj
      rw [List.getElem?_set_self hlt] at h
      obtain rfl := Option.some.inj h
      exact hb
    · rw [List.getElem?_set_ne (Ne.symm hj)] at h
      refine (hg.rel.blk j c h).keep rfl (fun _ _ h => h) fun q g' ob h1 h2 h3 => ?_
      rw [setRow_other]
      · exact h3
      · intro e
        subst e
        exact hj (hg.rel.inj j i q p g' h1 hp h2 hpg)
  · rw [hsz]; exact hg.rel.lt j q g' h1 h2
  · refine ⟨rfl, rfl, rfl, by omega, fun x hx hn => ?_, fun x hx _ => hx, Le.refl F, fun x ob h1 h2 => by rw [h2] at h1; cases h1⟩
    rw [setRow_other]
    intro e
    subst e
    exact hn ⟨i, p, hp, hpg⟩

/-- A block's place turns: what was known of it is forgotten. -/
theorem turn_good (hE : C.E.Ok) (hg : Good C.E C.glob a w s F φ) {i : Nat} {b b' : Blk κ} (hS : s.S[i]? = some b) {row : Option Nat} (hw : w.grownBy w' row) (hrow : ∀ k, row = some k → ∃ q, φ i = some q ∧ q.g = some k) (np : Option Pl)
    (hnp : ∀ p g, np = some p → p.g = some g → g < w'.heap.size ∧ ((∃ q, φ i = some q ∧ q.g = some g) ∨ w.heap.size ≤ g))
    (hF : Le F F') (hFw : ∀ x ob, F' x = some ob → w'.heap[x]? = some ob) (hFa : ∀ j p g, at_ φ i np j = some p → p.g = some g → F' g = none) (hFn : ∀ x ob, F' x = some ob → F x = none → w.heap.size ≤ x ∨ Held φ x)
    (hb : OwnB C.E F' (at_ φ i np) w' i b') : Good C.E C.glob a w' (s.turn i b') F' (at_ φ i np) ∧ Mv w F φ w' F' (at_ φ i np) := by
  have hlt : i < s.S.length := (List.getElem?_eq_some_iff.1 hS).1
  have hφ : ∀ j, j ≠ i → at_ φ i np j = φ j := fun j hj => at_ne _ _ hj
  have old : ∀ j, j ≠ i → ∀ p g ob, φ j = some p → p.g = some g → w.heap[g]? = some ob → w'.heap[g]? = some ob := fun j hj p g ob h1 h2 h3 => by
    rw [hw.block g (hg.rel.lt j p g h1 h2)]
    · exact h3
    · intro e
      obtain ⟨q, h4, h5⟩ := hrow g e.symm
      exact hj (hg.rel.inj j i p q g h1 h4 h2 h5)
  have news : ∀ p g, np = some p → p.g = some g → ∀ j q, j ≠ i → φ j = some q → q.g ≠ some g := fun p g h1 h2 j q hj h3 h4 => by
    rcases (hnp p g h1 h2).2 with ⟨q', h5, h6⟩ | h5
    · exact hj (hg.rel.inj j i q q' g h3 h5 h4 h6)
    · have := hg.rel.lt j q g h3 h4
      omega
  refine ⟨⟨⟨hFw, fun j c h => ?_, fun j h => ?_, fun j k p q g h1 h2 h3 h4 => ?_, hFa, fun j p g h1 h2 => ?_⟩, fun t v h => ?_, ?_, hg.defers, ?_, fun g ψ => (hg.glob g ψ).mono hF⟩, ?_⟩
  · simp only [St.turn] at h
    by_cases hj : j = i
    · subst hj
      rw [List.getElem?_set_self (by simpa using hlt)] at h
      obtain rfl := Option.some.inj h
      exact hb
    · rw [List.getElem?_set_ne (Ne.symm hj), List.getElem?_map] at h
      obtain ⟨c', hc', rfl⟩ := Option.map_eq_some_iff.1 h
      exact ((hg.rel.blk j c' hc').mono hF).kill hE hj hφ (old j hj)
  · simp only [St.turn, List.length_set, List.length_map] at h
    rw [hφ j (by omega)]
    exact hg.rel.out j h
  · by_cases hj : j = i
    · by_cases hk : k = i
      · omega
      · subst hj
        rw [at_self] at h1
        rw [hφ k hk] at h2
        exact absurd h4 (news p g h1 h3 k q hk h2)
    · by_cases hk : k = i
      · subst hk
        rw [at_self] at h2
        rw [hφ j hj] at h1
        exact absurd h3 (news q g h2 h4 j p hj h1)
      · rw [hφ j hj] at h1
        rw [hφ k hk] at h2
        exact hg.rel.inj j k p q g h1 h2 h3 h4
  · by_cases hj : j = i
    · subst hj
      rw [at_self] at h1
      exact (hnp p g h1 h2).1
    · rw [hφ j hj] at h1
      have := hg.rel.lt j p g h1 h2
      have := hw.size
      omega
  · simp only [St.turn, killL_get] at h
    obtain ⟨v', hv', rfl⟩ := Option.map_eq_some_iff.1 h
    exact ((hg.env t v' hv').mono hF).kill hφ hE
  · simp only [St.turn, killL_length]; exact hg.size
  · simpa [St.turn] using hg.al
  · refine ⟨hw.os, hw.tape, hw.output, hw.size, fun x hx hn => hw.block x hx ?_, fun x hx hlt' => ?_, hF, hFn⟩
    · intro e
      obtain ⟨q, h1, h2⟩ := hrow x e.symm
      exact hn ⟨i, q, h1, h2⟩
    · obtain ⟨j, p, h1, h2⟩ := hx
      by_cases hj : j = i
      · subst hj
        rw [at_self] at h1
        rcases (hnp p x h1 h2).2 with ⟨q, h3, h4⟩ | h3
        · exact ⟨j, q, h3, h4⟩
        · omega
      · rw [hφ j hj] at h1
        exact ⟨j, p, h1, h2⟩
end Go.Am
end

section
namespace Go.Am
open Go.RowKit
variable {κ : Kinds} {E : Encs κ} {F F' : Nat → Option Obj} {φ φ' : Nat → Option Pl} {P : Program} {C : Ctx κ} {a : Act} {w w' : World} {s s' : St κ} {o : Oper}

def Fit (P : Program) (k : κ.Kc) : Prop := ∃ i z, P.info? (κ.elem k) = some i ∧ i.size = κ.sz k ∧ i.bytes = κ.bytes k ∧ i.zero = some z ∧ z.cells.size = κ.sz k ∧ 0 < κ.sz k ∧ 0 < κ.bytes k

def LoudOk (C : Ctx κ) (o : Oper) (s : St κ) (v : AV κ) (s' : St κ) : Prop :=
  ∀ (a : Act) (w : World) (F : Nat → Option Obj) (φ : Nat → Option Pl), Good C.E C.glob a w s F φ → ∀ (next : Act → World → Prop) (Q : Exit → Act → World → Prop),
    (∀ u w' F' φ', Good C.E C.glob a w' s' F' φ' → Rep C.E F' φ' v u → Mv w F φ w' F' φ' → next (a.put o.dst u) w') → o.wp C.P a w next Q

theorem wp_value {next : Act → World → Prop} {Q : Exit → Act → World → Prop} {u : Value} (h : (execOp a.eval o).run P w = .ok (.value u) w') (hn : next (a.put o.dst u) w') : o.wp P a w next Q := by
  unfold Oper.wp; rw [h]; exact hn
theorem wp_skip' {next : Act → World → Prop} {Q : Exit → Act → World → Prop} (h : (execOp a.eval o).run P w = .ok .skip w') (hn : next (a.put o.dst undef) w') : o.wp P a w next Q := by
  unfold Oper.wp; rw [h]; exact hn

theorem grown_alloc (w : World) (ob : Obj) : w.grownBy (w.alloc ob) none := World.grownBy_alloc w ob none

theorem raw_fresh (hg : Good C.E C.glob a w s F φ) {t : TypeId} {cs : List (AV κ)} {us : Array Value} (h : Reps C.E F φ cs us.toList) :
    Good C.E C.glob a (w.alloc (.cells us t)) (s.fresh (.raw t cs)) F (at_ φ s.S.length (some ⟨some w.heap.size, 0, 0⟩)) ∧ Rep C.E F (at_ φ s.S.length (some ⟨some w.heap.size, 0, 0⟩)) (.ptr s.S.length 0) (.pointer (some ⟨w.heap.size, 0, none⟩)) ∧
    Mv w F φ (w.alloc (.cells us t)) F (at_ φ s.S.length (some ⟨some w.heap.size, 0, 0⟩)) := by
  have hn := hg.rel.out s.S.length (Nat.le_refl _)
  have hφ : ∀ j p, φ j = some p → at_ φ s.S.length (some ⟨some w.heap.size, 0, 0⟩) j = some p := fun j p h => by
    by_cases hj : j = s.S.length
    · subst hj; rw [hn] at h; cases h
    · rw [at_ne _ _ hj]; exact h
  have := fresh_good hg ⟨some w.heap.size, 0, 0⟩ (grown_alloc w (.cells us t)) (fun g h => by simp at h; subst h; exact ⟨Nat.le_refl _, by show _ < (w.heap.push _).size; simp⟩) (b := .raw t cs)
    ⟨⟨some w.heap.size, 0, 0⟩, w.heap.size, us, at_self _ _ _, rfl, heap_alloc_new w _, by simpa using h.1.symm, fun j c u hc hu => (h.2 j c u hc (by simpa using hu)).place hφ⟩
  exact ⟨this.1, .ptr _ 0 ⟨some w.heap.size, 0, 0⟩ _ (at_self _ _ _) rfl, this.2⟩

theorem loud_box {β : Type} {kindOf : TypeId → Option κ.Kc} {t : TypeId} {x : Operand} {K : AV κ → St κ → Option β} {r : β} (ho : o.op = .box t x) (h : loud? C kindOf o s K = some r) : ∃ v s', K v s' = some r ∧ LoudOk C o s v s' := by
  simp only [loud?, ho] at h
  split at h
  · rename_i hc
    refine ⟨_, _, h, fun a w F φ hg next Q hn => ?_⟩
    obtain ⟨h1, h2, h3⟩ := raw_fresh hg (t := t) (us := (a.eval x).cells) (cs := (ev C s x).cells) (cells_rep (ev_rep hg x) hc).1
    refine wp_value (u := .pointer (some ⟨w.heap.size, 0, none⟩)) (w' := w.alloc (.cells (a.eval x).cells t)) ?_ (hn _ _ _ _ h1 h2 h3)
    unfold execOp
    rw [ho]
    refine run_v ?_
    simp [Instr.box, newVar, newRow]
  · cases h

theorem run_storeAt {t : TypeId} {g off : Nat} {u : Value} {cur : Array Value} {e : TypeId} (hg : w.heap[g]? = some (.cells cur e (0, 0))) (hs : u.cells.size = sizeOf? P t) (hp : 0 < u.cells.size) (hl : off + u.cells.size ≤ cur.size) (h1 : ∀ x ∈ u.cells.toList, x.oneCell' = true) :
    (Instr.storeAt t (.pointer (some ⟨g, off, none⟩)) u).run P w = .ok () (w.setRow g (upd cur.toList off u.cells.toList).toArray) := by
  obtain ⟨i, hi, his⟩ := info_of_pos (t := t) (P := P) (by omega)
  have hst := run_storeCells_at P g off e u.cells.toList 0 cur w hg (by simpa using hl) h1
  simp only [Nat.add_zero] at hst
  rw [upd_eq _ _ _ (by simpa using hl)]
  simp [Instr.storeAt, Instr.sureAddr, storeVar, run_sizeOf' hi, hs, his, hst]

theorem cells_pos {v : AV κ} {u : Value} (h : Reps E F φ v.cells u.cells.toList) : v.cells.length = u.cells.size := by simpa using h.1

theorem storeG_sound {β : Type} (hE : C.E.Ok) {t : TypeId} {p x : Operand} {K : AV κ → St κ → Option β} {r : β} (ho : o.op = .store t p x) (h : storeG C t p x s K = some r) : ∃ v s', K v s' = some r ∧ LoudOk C o s v s' := by
  simp only [storeG] at h
  split at h
  · rename_i hc
    obtain ⟨hsz, hone, hpos⟩ := hc
    split at h
    · rename_i i off hp
      split at h
      · rename_i e old hS
        split at h
        · rename_i hl
          refine ⟨_, _, h, fun a w F φ hg next Q hn => ?_⟩
          obtain ⟨hr, h1⟩ := cells_rep (ev_rep hg x) hone
          have hlen := cells_pos hr
          have hpr := ev_rep hg p
          rw [hp] at hpr
          generalize hz : a.eval p = z at hpr
          cases hpr with
          | ptr _ _ q g hq hqg =>
            obtain ⟨q', g', cur, h2, h3, h4, h5, h6⟩ := hg.rel.blk i _ hS
            obtain rfl := Option.some.inj (hq.symm.trans h2)
            obtain rfl := Option.some.inj (hqg.symm.trans h3)
            have hrun := run_storeAt (P := C.P) (t := t) (off := off) (u := a.eval x) h4 (by rw [← hlen]; exact hsz) (by rw [← hlen]; exact hpos) (by rw [← hlen, h5]; exact hl) h1
            have hreps : Reps C.E F φ old cur.toList := ⟨by simpa using h5.symm, fun j c u hc hu => h6 j c u hc (by simpa using hu)⟩
            have hnew := hreps.upd hr (off := off) hl
            obtain ⟨h7, h8⟩ := set_good hg hS hq hqg (cs := (upd cur.toList off (a.eval x).cells.toList).toArray) (b' := .raw e (upd old off (ev C s x).cells))
              ⟨q, g, _, hq, hqg, setRow_heap w g cur _ e _ h4, by simpa using hnew.1.symm, fun j c u hc hu => hnew.2 j c u hc (by simpa using hu)⟩
            refine wp_skip' (w' := w.setRow g (upd cur.toList off (a.eval x).cells.toList).toArray) ?_ (hn _ _ _ _ h7 (.bot _) h8)
            unfold execOp
            rw [ho]
            simp [hz, hrun]
        · cases h
      · cases h
    · rename_i k i row col hp
      split at h
      · rename_i k' xs hS
        split at h
        · rename_i hk
          subst hk
          split at h
          · rename_i y hy
            split at h
            · rename_i hcol
              refine ⟨_, _, h, fun a w F φ hg next Q hn => ?_⟩
              obtain ⟨hr, h1⟩ := cells_rep (ev_rep hg x) hone
              have hlen := cells_pos hr
              have hpr := ev_rep hg p
              rw [hp] at hpr
              generalize hz : a.eval p = z at hpr
              cases hpr with
              | ptrE _ _ _ _ q g hq hqg hrow =>
                obtain ⟨q', h2, h3, hh⟩ := hg.rel.blk i _ hS
                obtain rfl := Option.some.inj (hq.symm.trans h2)
                rcases hh with ⟨hn, _⟩ | ⟨g', cur, hg', h4, h5, h6, h7, h8⟩
                · rw [hqg] at hn; cases hn
                obtain rfl := Option.some.inj (hqg.symm.trans hg')
                have hrow' : row < xs.length := by omega
                have hget : xs.getD row (C.E.dflt k') = xs[row] := by rw [List.getD_eq_getElem?_getD, List.getElem?_eq_getElem hrow']; rfl
                have hmul : (row + 1) * κ.sz k' ≤ q.cap * κ.sz k' := Nat.mul_le_mul_right _ (by omega)
                rw [Nat.add_mul, Nat.one_mul] at hmul
                have hfit : row * κ.sz k' + col + (a.eval x).cells.size ≤ cur.size := by rw [← hlen]; omega
                have hrun := run_storeAt (P := C.P) (t := t) (off := row * κ.sz k' + col) (u := a.eval x) h4 (by rw [← hlen]; exact hsz) (by rw [← hlen]; exact hpos) hfit h1
                have hency := hE.put _ _ _ hy
                simp only [hget] at hency
                have hfit' : row * κ.sz k' + col + (a.eval x).cells.toList.length ≤ cur.toList.length := by simpa using hfit
                obtain ⟨h9, h10⟩ := set_good hg hS hq hqg (cs := (upd cur.toList (row * κ.sz k' + col) (a.eval x).cells.toList).toArray) (b' := .rows k' (xs.set row y))
                  ⟨q, hq, by simpa using h3, .inr ⟨g, _, hqg, setRow_heap w g cur _ _ _ h4, by rw [List.size_toArray, upd_length]; simpa using h5, by simpa using h6, h7, fun r z j c u hz' hc hu => by
                    have hj : j < κ.sz k' := by rw [← hE.len k' z]; exact (List.getElem?_eq_some_iff.1 hc).1
                    simp only [List.getElem?_toArray] at hu
                    rw [upd_get hfit'] at hu
                    have hxl : (a.eval x).cells.toList.length = (ev C s x).cells.length := hr.1.symm
                    rw [hxl] at hu
                    by_cases hrr : r = row
                    · subst hrr
                      rw [List.getElem?_set_self hrow'] at hz'
                      obtain rfl := Option.some.inj hz'
                      rw [hency, upd_get (by rw [hE.len]; exact hcol)] at hc
                      split at hc
                      · rename_i hin
                        rw [if_pos ⟨by omega, by omega⟩] at hu
                        rw [show r * κ.sz k' + j - (r * κ.sz k' + col) = j - col by omega] at hu
                        exact hr.2 _ _ _ hc hu
                      · rename_i hin
                        rw [if_neg (by omega)] at hu
                        exact h8 r _ j c u (List.getElem?_eq_getElem hrow') hc (by simpa using hu)
                    · rw [List.getElem?_set_ne (Ne.symm hrr)] at hz'
                      have hout : ¬ (row * κ.sz k' + col ≤ r * κ.sz k' + j ∧ r * κ.sz k' + j < row * κ.sz k' + col + (ev C s x).cells.length) := by
                        rcases Nat.lt_or_gt_of_ne hrr with hlt | hlt
                        · have := Nat.mul_le_mul_right (κ.sz k') (show r + 1 ≤ row from hlt)
                          rw [Nat.add_mul, Nat.one_mul] at this
                          omega
                        · have := Nat.mul_le_mul_right (κ.sz k') (show row + 1 ≤ r from hlt)
                          rw [Nat.add_mul, Nat.one_mul] at this
                          omega
                      rw [if_neg hout] at hu
                      exact h8 r z j c u hz' hc (by simpa using hu)⟩⟩
                refine wp_skip' (w' := w.setRow g (upd cur.toList (row * κ.sz k' + col) (a.eval x).cells.toList).toArray) ?_ (hn _ _ _ _ h9 (.bot _) h10)
                unfold execOp
                rw [ho]
                simp [hz, hrun]
            · cases h
          · cases h
        · cases h
      · cases h
    · cases h
  · cases h
end Go.Am
end
