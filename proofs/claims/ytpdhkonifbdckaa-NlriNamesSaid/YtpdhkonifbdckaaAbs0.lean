/- An abstract interpreter of the model's code: definitions only. Its soundness is proved in the texts that follow. -/
import GoSem.Dispatch
import GoSem.Step
import Derived.Laws.Sem
namespace Go.Proofs.Ytpdhkonifbdckaa.Abs
open Go

/-! ### A map from numbers -/
inductive Trie (α : Type) where
  | nil
  | node (v : Option α) (l r : Trie α)

namespace Trie
variable {α : Type}
def val : Trie α → Option α
  | nil => none
  | node v _ _ => v
def left : Trie α → Trie α
  | nil => nil
  | node _ l _ => l
def right : Trie α → Trie α
  | nil => nil
  | node _ _ r => r
def get : Trie α → Nat → Option α
  | nil, _ => none
  | node v _ _, 0 => v
  | node _ l r, n + 1 => match n % 2 with
    | 0 => l.get (n / 2)
    | _ => r.get (n / 2)
def setF : Nat → Trie α → Nat → α → Trie α
  | _, t, 0, v => node (some v) t.left t.right
  | 0, t, _ + 1, _ => t
  | f + 1, t, n + 1, v => match n % 2 with
    | 0 => node t.val (setF f t.left (n / 2) v) t.right
    | _ => node t.val t.left (setF f t.right (n / 2) v)
def set (t : Trie α) (n : Nat) (v : α) : Trie α := setF n t n v
def ofList : List α → Nat → Trie α → Trie α
  | [], _, t => t
  | v :: l, n, t => ofList l (n + 1) (t.set n v)
end Trie

/-! ### Answers -/
structure Ans (R : Type) where
  bad : R
  all : List R → R
  ex : (Nat → R) → R
  eqv : Value → Value → R → R

def aeq (a b : Addr) : Bool := Nat.beq a.block b.block && Nat.beq a.off b.off && (match a.spot, b.spot with | none, none => true | _, _ => false)
/-- Equal values (an answer 'true' is right; the other one need not be). -/
def veqCell : Value → Value → Bool
  | .bool a, .bool b => a == b
  | .int k a, .int k' b => decide (k = k') && a == b
  | .string a, .string b => a.data.toList == b.data.toList
  | .pointer none, .pointer none => true
  | .pointer (some a), .pointer (some b) => aeq a b
  | .slice none n c, .slice none n' c' => Nat.beq n n' && Nat.beq c c'
  | .slice (some a) n c, .slice (some b) n' c' => aeq a b && Nat.beq n n' && Nat.beq c c'
  | .map none, .map none => true
  | .map (some a), .map (some b) => Nat.beq a b
  | .nilFunc, .nilFunc => true
  | .nilIface, .nilIface => true
  | _, _ => false
def veqs : List Value → List Value → Bool
  | [], [] => true
  | a :: l, b :: m => veqCell a b && veqs l m
  | _, _ => false
def veqIn : Value → Value → Bool
  | .agg a, .agg b => veqs a.toList b.toList
  | a, b => veqCell a b
def veqIns : List Value → List Value → Bool
  | [], [] => true
  | a :: l, b :: m => veqIn a b && veqIns l m
  | _, _ => false
def veq : Value → Value → Bool
  | .agg a, .agg b => veqs a.toList b.toList
  | .tuple a, .tuple b => veqIns a.toList b.toList
  | .func (.func f) a b, .func (.func g) c d => Nat.beq f g && veqs a.toList c.toList && veqs b.toList d.toList
  | a, b => veqCell a b

def ansB : Ans Bool := { bad := false, all := fun l => l.foldr (fun a b => a && b) true, ex := fun f => f 100000, eqv := fun a b r => match veq a b with | true => r | false => false }
def ansP : Ans Prop := { bad := False, all := fun l => ∀ p, p ∈ l → p, ex := fun f => ∃ n, f n, eqv := fun a b r => a = b ∧ r }

/-! ### Memory -/
structure MEnt where
  key : Value
  val : Value
  born : Nat

/-- What a frame runs when it leaves: the end of a loop over a function (its block), a deferred call. -/
inductive Mark where
  | blk (m : Nat)
  | call (f : FuncId) (args : List Value)

/-- A frame; its marks, the last one first. -/
structure Fr where
  tm : Trie Value
  nt : Nat
  marks : List Mark := []

inductive AX where
  | normal
  | exit (id : Nat)
  | ret

/-- loop: a range over a function: its state (0 ready, 1 busy, 2 done, 3 exhausted), the jump that waits, the frame of its rounds · dblk: the block for its rounds' deferred calls. -/
inductive AObj where
  | row (cs : List Value) (es : Nat) (el : Bool)
  | map (es : List MEnt) (clock : Nat)
  | iter (m : Option Nat) (since : Nat) (seen : List Nat) (last : Nat)
  | loop (st : Nat) (pend : Option AX) (fr : Fr) (ps : List Nat) (assign body : Code)
  | dblk
  | dead

structure St where
  mem : Trie AObj
  next : Nat

structure Ctx where
  P : Program
  B0 : Nat
  old : Nat → Option (List Value)
  ext : FuncId → List Value → Option Value

/-- The capacity of a slice that reaches to the end of its row, of unknown length. -/
def EL : Nat := 18446744073709551616

def Fr.get (fr : Fr) (t : Nat) : Value := match fr.tm.get t with
  | some v => v
  | none => undef
def Fr.eval (fr : Fr) : Operand → Value
  | .tmp t => fr.get t
  | .const v => v
  | .global _ => undef
  | .func f => .func (.func f) #[] #[]
def Fr.put (fr : Fr) (d : Option Tmp) (v : Value) : Fr := match d with
  | some t => match Nat.blt t fr.nt with
    | true => { fr with tm := fr.tm.set t v }
    | false => fr
  | none => fr
/-- Operands that the interpreter takes: no variable of a package, no constant with an address. -/
def plainCell : Value → Bool
  | .bool _ | .int _ _ | .string _ | .nilFunc | .nilIface | .pointer none | .map none => true
  | .slice none 0 0 => true
  | _ => false
def plainConst : Value → Bool
  | .agg cs => cs.toList.all plainCell
  | .tuple cs => cs.toList.isEmpty
  | v => plainCell v
def okOperand : Operand → Bool
  | .tmp _ | .func _ => true
  | .const v => plainConst v
  | .global _ => false

section
variable (C : Ctx)

def St.obj (s : St) (b : Nat) : Option AObj := s.mem.get b
def St.setObj (s : St) (b : Nat) (o : AObj) : St := { s with mem := s.mem.set b o }
def St.alloc (s : St) (o : AObj) : St := { mem := s.mem.set s.next o, next := s.next + 1 }

/-- The cells of a block: an old one's, or one of the run's own. -/
def rowOf (s : St) (b : Nat) : Option (List Value) := match Nat.blt b C.B0 with
  | true => C.old b
  | false => match s.obj b with
    | some (.row cs _ _) => some cs
    | _ => none

def cut (cs : List Value) (o n : Nat) : Option (List Value) :=
  let r := (cs.drop o).take n
  match Nat.beq r.length n with
  | true => some r
  | false => none

def sizeAt (t : TypeId) : Option Nat := match C.P.info? t with
  | some i => some i.size
  | none => none
def aggAt (t : TypeId) : Option Bool := match C.P.underlying t with
  | some (.struct _) | some (.array _ _) => some true
  | some _ => some false
  | none => none

/-- The value of a variable of type t out of its cells. -/
def valueOf (agg : Bool) (r : List Value) : Option Value := match agg, r with
  | true, r => some (.agg r.toArray)
  | false, [v] => some v
  | false, _ => none

def aload (s : St) (t : TypeId) (v : Value) : Option Value := match v with
  | .pointer (some ⟨b, o, none⟩) =>
    match aggAt C t, sizeAt C t, rowOf C s b with
    | some g, some n, some cs => (cut cs o (if g then n else 1)).bind (valueOf g)
    | _, _, _ => none
  | _ => none

def storeRow (cs : List Value) (o : Nat) (vs : List Value) : Option (List Value) :=
  match Nat.ble (o + vs.length) cs.length, vs.all Value.oneCell' with
  | true, true => some (cs.take o ++ (vs ++ cs.drop (o + vs.length)))
  | _, _ => none

/-- Store cells into a row of the run's own. -/
def putCells (s : St) (b o : Nat) (vs : List Value) : Option St := match Nat.ble C.B0 b, s.obj b with
  | true, some (.row cs es el) => match storeRow cs o vs with
    | some cs' => some (s.setObj b (.row cs' es el))
    | none => none
  | _, _ => none

def astore (s : St) (t : TypeId) (a v : Value) : Option St := match a with
  | .pointer (some ⟨b, o, none⟩) =>
    match sizeAt C t with
    | some n => match Nat.beq v.cells.size n with
      | true => putCells C s b o v.cells.toList
      | false => none
    | none => none
  | _ => none

/-! ### Operations that only compute -/
def apart' (t : TypeId) (cs : List Value) (off : Nat) : Option Value :=
  match aggAt C t, sizeAt C t with
  | some true, some n => (cut cs off n).bind (valueOf true)
  | some false, some _ => cs[off]?
  | _, _ => none

def fieldsAt (t : TypeId) : Option (Array Field) := match C.P.underlying t with
  | some (.struct fs) => some fs
  | _ => none

def places : List Field → Option (List (Nat × Nat))
  | [] => some []
  | f :: fs => match sizeAt C f.type, places fs with
    | some n, some l => some ((f.offset, n) :: l)
    | _, _ => none

def zeroCellsOf (t : TypeId) : Option (Array Value) := match C.P.info? t with
  | some i => match i.zero with
    | some z => match plainConst z with
      | true => some z.cells
      | false => none
    | none => none
  | none => none

def partsOk (parts : List (Nat × Value)) : Bool := parts.all fun p => p.2.cells.toList.all Value.oneCell'

def abuild (t : TypeId) (parts : List (Nat × Value)) : Option Value :=
  match partsOk parts with
  | false => none
  | true => match zeroCellsOf C t, C.P.underlying t with
  | some zero, some (.struct fs) => match places C fs.toList with
    | some ps => (Instr.fill (fun i => ps[i]?) zero parts).map .agg
    | none => none
  | some zero, some (.array _ e) => match sizeAt C e with
    | some n => (Instr.fill (fun i => some (i * n, n)) zero parts).map .agg
    | none => none
  | _, _ => none

def abuildSlice (t : TypeId) (len : Nat) (parts : List (Nat × Value)) : Option (AObj × (Nat → Value)) :=
  match C.P.underlying t with
  | some (.slice e) => match sizeAt C e, zeroCellsOf C e with
    | some n, some zero => match Nat.ble (len * n) 16777216, Nat.blt 0 n, Nat.beq zero.size n with
      | true, true, true => match partsOk parts with
       | false => none
       | true => match Instr.fill (fun i => some (i * n, n)) ((List.replicate len zero.toList).flatten.toArray) parts with
        | some cells => some (.row cells.toList n false, fun b => .slice (some ⟨b, 0, none⟩) len len)
        | none => none
      | _, _, _ => none
    | _, _ => none
  | _ => none

def scalCell : Value → Bool
  | .bool _ | .int _ _ | .string _ => true
  | _ => false
def scal : Value → Bool
  | .agg cs => cs.toList.all scalCell
  | v => scalCell v

def fieldsEq (eq : TypeId → Value → Value → Option Bool) : List Field → List Value → List Value → Option Bool
  | [], _, _ => some true
  | f :: fs, xs, ys =>
    if f.name ≠ "_" then
      match apart' C f.type xs f.offset, apart' C f.type ys f.offset with
      | some a, some b => match eq f.type a b with
        | some true => fieldsEq eq fs xs ys
        | some false => some false
        | none => none
      | _, _ => none
    else fieldsEq eq fs xs ys
def elemsEq (eq : TypeId → Value → Value → Option Bool) (e : TypeId) (k : Nat) (xs ys : List Value) : Nat → Nat → Option Bool
  | 0, _ => some true
  | n + 1, i =>
    match apart' C e xs (i * k), apart' C e ys (i * k) with
    | some a, some b => match eq e a b with
      | some true => elemsEq eq e k xs ys n (i + 1)
      | some false => some false
      | none => none
    | _, _ => none

def aequal : Nat → TypeId → Value → Value → Option Bool
  | 0, _, _, _ => none
  | d + 1, t, x, y => match C.P.underlying t, x, y with
    | some .bool, .bool a, .bool b => some (a == b)
    | some (.int _), .int k a, .int k' b => if k = k' then some (a == b) else none
    | some .string, .string a, .string b => some (a == b)
    | some (.pointer _), .pointer none, .pointer b => some b.isNone
    | some (.pointer _), .pointer _, .pointer none => some false
    | some (.slice _), .slice none _ _, .slice b _ _ => some b.isNone
    | some (.slice _), .slice _ _ _, .slice none _ _ => some false
    | some (.map _ _), .map none, .map b => some b.isNone
    | some (.map _ _), .map _, .map none => some false
    | some (.func _ _ _), .nilFunc, .nilFunc => some true
    | some (.func _ _ _), .nilFunc, .func _ _ _ => some false
    | some (.func _ _ _), .func _ _ _, .nilFunc => some false
    | some (.struct fs), .agg xs, .agg ys => match C.P.stoodInHeld t with
      | true => none
      | false => fieldsEq C (aequal d) fs.toList xs.toList ys.toList
    | some (.array n e), .agg xs, .agg ys => match sizeAt C e with
      | some k => elemsEq C (aequal d) e k xs.toList ys.toList n 0
      | none => none
    | _, _, _ => none

/-- Is the check for two nil values of an interface type with methods idle? -/
def eqIdle (t : TypeId) (a b : Value) : Bool := match a, b with
  | .agg _, .agg _ => !C.P.eqGuardType C.P.depth t
  | .nilIface, .nilIface => false
  | _, _ => true

def aint (op : BinOp) (k : IntKind) (a b : Int) : Option Value := match op with
  | .add => some (.int k (k.wrap (a + b)))
  | .sub => some (.int k (k.wrap (a - b)))
  | .mul => some (.int k (k.wrap (a * b)))
  | .quo => if b = 0 then none else some (.int k (k.wrap (a.tdiv b)))
  | .rem => if b = 0 then none else some (.int k (a.tmod b))
  | .and => some (.int k (k.wrap (BitVec.ofInt k.bits a &&& BitVec.ofInt k.bits b).toNat))
  | .or => some (.int k (k.wrap (BitVec.ofInt k.bits a ||| BitVec.ofInt k.bits b).toNat))
  | .xor => some (.int k (k.wrap (BitVec.ofInt k.bits a ^^^ BitVec.ofInt k.bits b).toNat))
  | .andNot => some (.int k (k.wrap (BitVec.ofInt k.bits a &&& ~~~BitVec.ofInt k.bits b).toNat))
  | .eql => some (.bool (a == b))
  | .neq => some (.bool (a != b))
  | .lss => some (.bool (decide (a < b)))
  | .leq => some (.bool (decide (a ≤ b)))
  | .gtr => some (.bool (decide (a > b)))
  | .geq => some (.bool (decide (a ≥ b)))
  | _ => none

def ashift (op : BinOp) (k : IntKind) (x y : Int) : Option Value :=
  if y < 0 then none else match op with
  | .shl => some (.int k (k.wrap (x * 2 ^ (min y.toNat k.bits))))
  | .shr => some (.int k (x.fdiv (2 ^ (min y.toNat k.bits))))
  | _ => none

def isShift : BinOp → Bool
  | .shl | .shr => true
  | _ => false

def abin (op : BinOp) (t : TypeId) (a b : Value) : Option Value := match a, b with
  | .int k x, .int k' y => match isShift op with
    | true => ashift op k x y
    | false => if k = k' then aint op k x y else none
  | .string x, .string y => match op with
    | .eql => some (.bool (x.toList == y.toList))
    | .neq => some (.bool !(x.toList == y.toList))
    | .add => match Nat.ble (x.data.toList.length + y.data.toList.length) 1048576 with
      | true => some (.string ⟨(x.data.toList ++ y.data.toList).toArray⟩)
      | false => none
    | _ => none
  | a, b => match op, eqIdle C t a b with
    | .eql, true => (aequal C Op.maxDepth t a b).map .bool
    | .neq, true => (aequal C Op.maxDepth t a b).map fun r => .bool !r
    | _, _ => none

def aun (op : UnOp) (x : Value) : Option Value := match op, x with
  | .neg, .int k n => some (.int k (k.wrap (0 - n)))
  | .xor, .int k n => aint .xor k (if k.signed then -1 else k.max) n
  | .not, .bool b => some (.bool !b)
  | _, _ => none

def aconv (src dst : TypeId) (x : Value) : Option Value := match x with
  | .int _ n => match C.P.underlying src, C.P.underlying dst with
    | some _, some (.int k) => some (.int k (k.wrap n))
    | _, _ => none
  | _ => none

def natOf (v : Value) : Option Nat := match v with
  | .int _ n => if 0 ≤ n then some n.toNat else none
  | _ => none

/-- A bound of a slice expression; none: the expression has none; a value that is no number from 0 to y: no answer. -/
def boundOr (dflt y : Nat) : Option Value → Option Nat
  | none => some dflt
  | some v => match natOf v with
    | some n => match Nat.ble n y with
      | true => some n
      | false => none
    | none => none

/-- The bounds (low, high, top) of a slice expression. -/
def bnds (len top : Nat) (lo hi mx : Option Value) : Option (Nat × Nat × Nat) :=
  if mx.isSome = true ∧ hi.isSome = false then none else
  (boundOr top top mx).bind fun m => (boundOr len m hi).bind fun h => (boundOr 0 h lo).map fun l => (l, h, m)

/-- The slice: el: its capacity reaches to the end of its row, and no third index bounds it. -/
def cutSlice (k cap : Nat) (el : Bool) (a : Option Addr) (b : Nat × Nat × Nat) : Option Value := match a, b with
  | none, (l, h, m) => if h = l ∧ m = l then some (.slice none 0 0) else none
  | some ⟨b, o, none⟩, (l, h, m) => match el with
    | true =>
      if l = 0 then some (.slice (some ⟨b, o, none⟩) h cap)
      else if l = h then some (.slice (some ⟨C.B0, 0, none⟩) 0 cap)
      else some (.slice (some ⟨b, o + l * k, none⟩) (h - l) cap)
    | false =>
      if m - l < EL then some (.slice (some ⟨b, if m = l then o else o + l * k, none⟩) (h - l) (m - l)) else none
  | _, _ => none

def aslice (t : TypeId) (x : Value) (lo hi mx : Option Value) : Option Value :=
  match C.P.underlying t, x with
  | some .string, .string s => match mx with
    | some _ => none
    | none => (bnds s.size s.size lo hi none).map fun b => .string (s.extract b.1 b.2.1)
  | some (.slice e), .slice a len cap => match sizeAt C e with
    | none => none
    | some k => if EL ≤ cap then
        (if cap = EL + k then (bnds len len lo hi mx).bind (cutSlice C k cap mx.isNone a) else none)
      else (bnds len cap lo hi mx).bind (cutSlice C k cap false a)
  | some (.array n e), .pointer (some a) => match sizeAt C e with
    | none => none
    | some k => (bnds n n lo hi mx).bind (cutSlice C k n false (some a))
  | _, _ => none

def aindexAddr (t : TypeId) (x i : Value) : Option Value := match C.P.underlying t, x, natOf i with
  | some (.slice e), .slice (some ⟨b, o, none⟩) len _, some i => match Nat.blt i len, sizeAt C e with
    | true, some k => some (.pointer (some ⟨b, o + i * k, none⟩))
    | _, _ => none
  | some (.array len e), .pointer (some ⟨b, o, none⟩), some i => match Nat.blt i len, sizeAt C e with
    | true, some k => some (.pointer (some ⟨b, o + i * k, none⟩))
    | _, _ => none
  | _, _, _ => none

def aindex (t : TypeId) (x i : Value) : Option Value := match C.P.underlying t, x, natOf i with
  | some (.array len e), .agg cs, some i => match Nat.blt i len, sizeAt C e with
    | true, some k => apart' C e cs.toList (i * k)
    | _, _ => none
  | some .string, .string s, some i => match s[i]? with
    | some b => some (.int .u8 b.toNat)
    | none => none
  | _, _, _ => none

/-- A tuple that is neither unknown nor a token. -/
def exOk : List Value → Bool
  | .nilFunc :: .bool _ :: _ => true
  | .nilFunc :: _ => false
  | _ => true
def afieldAddr (s : TypeId) (x : Value) (f : Nat) : Option Value := match fieldsAt C s, x with
  | some fs, .pointer (some ⟨b, o, none⟩) => match fs[f]? with
    | some fd => match sizeAt C fd.type with
      | some (_ + 1) => some (.pointer (some ⟨b, o + fd.offset, none⟩))
      | _ => none
    | none => none
  | _, _ => none

def afield (t : TypeId) (x : Value) (f : Nat) : Option Value := match fieldsAt C t, x with
  | some fs, .agg cs => match fs[f]? with
    | some fd => apart' C fd.type cs.toList fd.offset
    | none => none
  | _, _ => none

def alen (t : TypeId) (x : Value) : Option Value := match C.P.underlying t, x with
  | some .string, .string s => some (goInt s.size)
  | some (.array n _), _ => some (goInt n)
  | some (.slice _), .slice _ n _ => some (goInt n)
  | some (.map _ _), .map none => some (goInt 0)
  | _, _ => none

def aminmax (mx : Bool) (k : IntKind) (x : Int) : List Value → Option Value
  | [] => some (.int k x)
  | .int _ y :: rest => aminmax mx k (if mx then (if y > x then y else x) else (if y < x then y else x)) rest
  | _ => none

def atypeAssert (x : Value) (asserted : TypeId) (ok : Bool) : Option Value := match C.P.underlying asserted, x with
  | some (.interface _), _ => none
  | some _, .iface t v =>
    if t = asserted then some (if ok then .tuple #[v, .bool true] else v)
    else match ok, C.P.info? asserted with
      | true, some i => match i.zero with
        | some z => match plainConst z with
          | true => some (.tuple #[z, .bool false])
          | false => none
        | none => none
      | _, _ => none
  | _, _ => none

/-- Operations that compute a value out of their operands. -/
def aarrayAt (t : TypeId) (x : Value) : Option Value := match C.P.underlying t, x with
  | some (.array n _), .slice (some a) len _ => match Nat.ble n len with
    | true => some (.pointer (some a))
    | false => none
  | _, _ => none

def aP (o : Op) (ρ : Operand → Value) : Option Value := match o with
  | .move x | .assign x => some (ρ x)
  | .pick c a b => match ρ c with
    | .bool true => some (ρ a)
    | .bool false => some (ρ b)
    | _ => none
  | .build t ps => abuild C t (ps.toList.map fun p => (p.1, ρ p.2))
  | .nilCheck x => match ρ x with
    | .pointer (some a) => some (.pointer (some a))
    | .func (.func f) a b => some (.func (.func f) a b)
    | .iface t v => some (.iface t v)
    | _ => none
  | .binOp op t x y _ => abin C op t (ρ x) (ρ y)
  | .unOp op _ x => aun op (ρ x)
  | .convert s d x => aconv C s d (ρ x)
  | .makeInterface t x => match C.P.underlying t with
    | some (.interface _) => none
    | some _ => some (.iface t (ρ x))
    | none => none
  | .makeFunc (.func f) a b => some (.func (.func f) (a.map ρ) (b.map ρ))
  | .slice t x l h m => aslice C t (ρ x) (l.map ρ) (h.map ρ) (m.map ρ)
  | .fieldAddr t x f => afieldAddr C t (ρ x) f
  | .field t x f => afield C t (ρ x) f
  | .indexAddr t x i => aindexAddr C t (ρ x) (ρ i)
  | .sliceToArrayPointer t x => aarrayAt C t (ρ x)
  | .index t x i => aindex C t (ρ x) (ρ i)
  | .typeAssert x _ a ok => atypeAssert C (ρ x) a ok
  | .extract t i => match ρ t with
    | .tuple vs => match exOk vs.toList with
      | true => vs.toList[i]?
      | false => none
    | _ => none
  | .call { callee := .builtin .len, args, argTypes } => match args.toList, argTypes.toList with
    | [x], [t] => alen C t (ρ x)
    | _, _ => none
  | .call { callee := .builtin .min, args, .. } => match args.toList.map ρ with
    | .int k x :: rest => aminmax false k x rest
    | _ => none
  | .call { callee := .builtin .max, args, .. } => match args.toList.map ρ with
    | .int k x :: rest => aminmax true k x rest
    | _ => none
  | _ => none

/-! ### Operations that read memory -/
def akeyOk : Nat → TypeId → Value → Bool
  | 0, _, _ => false
  | n + 1, t, v => match C.P.underlying t, v with
    | some (.struct fs), .agg cs => fs.toList.all fun f => match apart' C f.type cs.toList f.offset with
      | some x => akeyOk n f.type x
      | none => false
    | some (.array len e), .agg cs => match sizeAt C e with
      | some k => (List.range len).all fun i => match apart' C e cs.toList (i * k) with
        | some x => akeyOk n e x
        | none => false
      | none => false
    | some (.interface _), _ | some (.struct _), _ | some (.array _ _), _ | none, _ => false
    | _, _ => true

def afind (t : TypeId) (k : Value) : List MEnt → Nat → Option (Option (Nat × Value))
  | [], _ => some none
  | e :: es, i => match aequal C Op.maxDepth t k e.key with
    | some true => some (some (i, e.val))
    | some false => afind t k es (i + 1)
    | none => none

def mapOf (s : St) (v : Value) : Option (Nat × List MEnt × Nat) := match v with
  | .map (some b) => match Nat.ble C.B0 b, s.obj b with
    | true, some (.map es c) => some (b, es, c)
    | _, _ => none
  | _ => none

def entsOf (s : St) (m : Value) : Option (List MEnt) := match m with
  | .map none => some []
  | m => match mapOf C s m with
    | some (_, es, _) => some es
    | none => none

def alookup (s : St) (t : TypeId) (m k : Value) (ok : Bool) : Option Value := match C.P.underlying t with
  | some (.map kt et) => match akeyOk C 10000 kt k && scal k, C.P.info? et with
    | true, some i => match i.zero with
      | none => none
      | some z => match plainConst z with
        | false => none
        | true => match entsOf C s m with
          | none => none
          | some es => match afind C kt k es 0 with
            | none => none
            | some (some (_, v)) => some (if ok then .tuple #[v, .bool true] else v)
            | some none => some (if ok then .tuple #[z, .bool false] else z)
    | _, _ => none
  | _ => none

def aR (s : St) (o : Op) (ρ : Operand → Value) : Option Value := match o with
  | .load t a => aload C s t (ρ a)
  | .lookup t m k ok => alookup C s t (ρ m) (ρ k) ok
  | .call { callee := .builtin .len, args, argTypes } => match args.toList, argTypes.toList with
    | [x], [t] => match C.P.underlying t, mapOf C s (ρ x) with
      | some (.map _ _), some (_, es, _) => some (goInt es.length)
      | _, _ => none
    | _, _ => none
  | .convert src dst x => match C.P.underlying src, C.P.underlying dst with
    | some (.slice e), some .string => match C.P.underlying e, ρ x with
      | some (.int .u8), .slice none _ _ => some (.string .empty)
      | some (.int .u8), .slice (some ⟨b, o, none⟩) len _ => match rowOf C s b with
        | some cs => match cut cs o len with
          | some r => match bytesOf r [] with
            | some l => some (.string ⟨l.toArray⟩)
            | none => none
          | none => none
        | none => none
      | _, _ => none
    | _, _ => none
  | .entry it => match ρ it with
    | .pointer (some ⟨r, 0, none⟩) => match Nat.ble C.B0 r, s.obj r with
      | true, some (.iter (some m) _ seen stepped) => match seen.getLast?, Nat.ble C.B0 m, s.obj m with
        | some stamp, true, some (.map es clock) => match Nat.beq clock stepped with
          | true => match es.find? (fun e => Nat.beq e.born stamp) with
            | some e => some (.tuple #[e.key, e.val])
            | none => none
          | false => none
        | _, _, _ => none
      | _, _ => none
    | _ => none
  | _ => none
where
  bytesOf : List Value → List UInt8 → Option (List UInt8)
    | [], acc => some acc.reverse
    | .int .u8 n :: l, acc => bytesOf l (UInt8.ofNat n.toNat :: acc)
    | _, _ => none

/-! ### Operations that make one block -/
def aA (o : Op) (ρ : Operand → Value) : Option (AObj × (Nat → Value)) := match o with
  | .alloc e => match zeroCellsOf C e, sizeAt C e with
    | some z, some n => match Nat.beq z.size n with
      | true => some (.row z.toList n false, fun b => .pointer (some ⟨b, 0, none⟩))
      | false => none
    | _, _ => none
  | .box e x => match sizeAt C e with
    | some n => match Nat.beq (ρ x).cells.size n, (ρ x).cells.toList.all Value.oneCell' with
      | true, true => some (.row (ρ x).cells.toList n false, fun b => .pointer (some ⟨b, 0, none⟩))
      | _, _ => none
    | none => none
  | .buildSlice t len ps => abuildSlice C t len (ps.toList.map fun p => (p.1, ρ p.2))
  | .makeMap t r => match C.P.underlying t, r.map ρ with
    | some (.map _ _), none => some (.map [] 0, fun b => .map (some b))
    | some (.map _ _), some (.int _ _) => some (.map [] 0, fun b => .map (some b))
    | _, _ => none
  | .makeSlice t l c => match C.P.underlying t, natOf (ρ l), natOf (ρ c) with
    | some (.slice e), some l, some c => match C.P.info? e, zeroCellsOf C e with
      | some i, some z => match Nat.ble l c, Nat.ble (i.bytes * c) 1099511627776, Nat.ble c 1099511627776, Nat.beq z.size i.size with
        | true, true, true, true => match Nat.blt 0 i.size with
          | true => some (.row (List.replicate c z.toList).flatten i.size false, fun b => .slice (some ⟨b, 0, none⟩) l c)
          | false => none
        | _, _, _, _ => none
      | _, _ => none
    | _, _, _ => none
  | _ => none

/-! ### Operations that write -/
def srcCells (s : St) (k n : Nat) (x : Value) : Option (List Value) := match x with
  | .slice (some ⟨b, o, none⟩) _ _ => match rowOf C s b with
    | some cs => cut cs o (n * k)
    | none => none
  | .string str => some ((str.data.toList.take n).map fun b => .int .u8 b.toNat)
  | _ => none

def lenOf' : Value → Option Nat
  | .slice _ n _ => some n
  | .string s => some s.size
  | _ => none

def notInt : TypeDesc → Bool
  | .int _ => false
  | _ => true

/-- Append to a slice that reaches to the end of its row. -/
def appendEl (s : St) (b o len n k : Nat) (xs : List Value) : Option (Value × St) := match s.obj b with
  | some (.row cs _ true) =>
    if b < C.B0 then none
    else if o + (len + n) * k ≤ cs.length then (putCells C s b (o + len * k) xs).map fun s' => (.slice (some ⟨b, o, none⟩) (len + n) (EL + k), s')
    else if o = 0 ∧ len * k ≤ cs.length then
      some (.slice (some ⟨s.next, 0, none⟩) (len + n) (EL + k), (s.setObj b .dead).alloc (.row (cs.take (len * k) ++ xs) k true))
    else none
  | _ => none

def oldCells (s : St) (b o m : Nat) : Option (List Value) := if m = 0 then some [] else (rowOf C s b).bind fun cs => cut cs o m

def appendTo (s : St) (k bytes n : Nat) (xs : List Value) (sv : Value) : Option (Value × St) := match sv with
  | .slice none 0 0 => if (2 * n + 192) * (bytes + 1) ≤ 281474976710656 then some (.slice (some ⟨s.next, 0, none⟩) n (EL + k), s.alloc (.row xs k true)) else none
  | .slice (some ⟨b, o, none⟩) len cap =>
    if (2 * (len + n) + 192) * (bytes + 1) ≤ 281474976710656 then
      if cap = EL + k then appendEl C s b o len n k xs
      else if EL ≤ cap then none
      else if len + n ≤ cap then (putCells C s b (o + len * k) xs).map fun s' => (.slice (some ⟨b, o, none⟩) (len + n) cap, s')
      else (oldCells C s b o (len * k)).map fun old => (.slice (some ⟨s.next, 0, none⟩) (len + n) (EL + k), s.alloc (.row (old ++ xs) k true))
    else none
  | _ => none

def aappend (s : St) (st xt : TypeId) (sv x : Value) : Option (Value × St) :=
  match C.P.underlying st, C.P.underlying xt, lenOf' x with
  | some (.slice e), some xd, some n => match notInt xd, C.P.info? e, zeroCellsOf C e with
    | true, some i, some z =>
      if n = 0 then match sv with
        | .slice _ _ _ => some (sv, s)
        | _ => none
      else match srcCells C s i.size n x with
        | some xs => if xs.length = n * i.size ∧ 0 < i.size ∧ z.size = i.size ∧ xs.all Value.oneCell' = true then appendTo C s i.size i.bytes n xs sv else none
        | none => none
    | _, _, _ => none
  | _, _, _ => none

def setNth {α : Type} (f : α → α) : List α → Nat → List α
  | [], _ => []
  | a :: l, 0 => f a :: l
  | a :: l, n + 1 => a :: setNth f l n

def aupdate (s : St) (t : TypeId) (m k v : Value) : Option St := match C.P.underlying t, mapOf C s m with
  | some (.map kt _), some (b, es, clock) => match akeyOk C 10000 kt k && scal k with
    | false => none
    | true => match afind C kt k es 0 with
      | none => none
      | some (some (i, _)) => match es[i]? with
        | some e => match Instr.sameBits 10000 e.key k with
          | true => some (s.setObj b (.map (setNth (fun e => { e with key := k, val := v }) es i) clock))
          | false => none
        | none => none
      | some none => some (s.setObj b (.map (es ++ [{ key := k, val := v, born := clock }]) (clock + 1)))
  | _, _ => none

def adelete (s : St) (t : TypeId) (m k : Value) : Option St := match C.P.underlying t with
  | some (.map kt _) => match akeyOk C 10000 kt k && scal k with
    | false => none
    | true => match m with
      | .map none => some s
      | m => match mapOf C s m with
        | some (b, es, clock) => match afind C kt k es 0 with
          | none => none
          | some (some (i, _)) => some (s.setObj b (.map (es.eraseIdx i) clock))
          | some none => some (s.setObj b (.map es clock))
        | none => none
  | _ => none

def acopy (s : St) (dt : TypeId) (d x : Value) : Option (Value × St) := match C.P.underlying dt, lenOf' x, d with
  | some (.slice e), some n, .slice (some ⟨b, o, none⟩) len _ => match sizeAt C e with
    | none => none
    | some k =>
      if Nat.min n len = 0 then some (goInt 0, s)
      else (srcCells C s k (Nat.min n len) x).bind fun xs => (putCells C s b o xs).map fun s' => (goInt (Nat.min n len : Nat), s')
  | _, _, _ => none

def aclear (s : St) (t : TypeId) (x : Value) : Option St := match C.P.underlying t, x with
  | some (.slice _), .slice none _ _ => some s
  | some (.slice e), .slice (some ⟨b, o, none⟩) n _ => match n with
    | 0 => some s
    | n + 1 => match zeroCellsOf C e with
      | some z => match Nat.blt 0 z.size with
        | true => putCells C s b o (List.replicate (n + 1) z.toList).flatten
        | false => none
      | none => none
  | _, _ => none

/-- A string's bytes in a new row, whose capacity is not known. -/
def astrB (s : St) (src dst : TypeId) (x : Value) : Option (Value × St) := match C.P.underlying src, C.P.underlying dst, x with
  | some .string, some (.slice e), .string str => match C.P.underlying e, Nat.blt 0 str.size with
    | some (.int .u8), true => some (.slice (some ⟨s.next, 0, none⟩) str.size (EL + 1), s.alloc (.row (str.data.toList.map fun b => .int .u8 b.toNat) 1 true))
    | _, _ => none
  | _, _, _ => none

def aW (s : St) (o : Op) (ρ : Operand → Value) : Option (Value × St) := match o with
  | .store t a v => (astore C s t (ρ a) (ρ v)).map fun s => (undef, s)
  | .mapUpdate t m k v | .insert t m k v => (aupdate C s t (ρ m) (ρ k) (ρ v)).map fun s => (undef, s)
  | .range t x => match C.P.underlying t, ρ x with
    | some (.map _ _), .map none => some (.pointer (some ⟨s.next, 0, none⟩), s.alloc (.iter none 0 [] 0))
    | some (.map _ _), x => match mapOf C s x with
      | some (b, _, clock) => some (.pointer (some ⟨s.next, 0, none⟩), s.alloc (.iter (some b) clock [] clock))
      | none => none
    | _, _ => none
  | .call { callee := .builtin .append, args, argTypes } => match args.toList, argTypes.toList with
    | [a, x], [st, xt] => aappend C s st xt (ρ a) (ρ x)
    | _, _ => none
  | .call { callee := .builtin .delete, args, argTypes } => match args.toList, argTypes.toList with
    | m :: k :: _, t :: _ => (adelete C s t (ρ m) (ρ k)).map fun s => (.tuple #[], s)
    | _, _ => none
  | .call { callee := .builtin .copy, args, argTypes } => match args.toList, argTypes.toList with
    | a :: x :: _, t :: _ => acopy C s t (ρ a) (ρ x)
    | _, _ => none
  | .call { callee := .builtin .clear, args, argTypes } => match args.toList, argTypes.toList with
    | x :: _, t :: _ => (aclear C s t (ρ x)).map fun s => (.tuple #[], s)
    | _, _ => none
  | .convert src dst x => astrB C s src dst (ρ x)
  | _ => none

/-! ### The next entry of a map -/
def cands (since : Nat) (seen : List Nat) (es : List MEnt) : List (Option MEnt) :=
  let left := es.filter fun e => !seen.contains e.born
  let old := left.filter fun e => Nat.blt e.born since
  let new := left.filter fun e => !Nat.blt e.born since
  (if old.isEmpty then [none] else []) ++ (old ++ new).map some

variable {R : Type} (A : Ans R)

def anext (s : St) (it : Value) (k : Value → St → R) : R := match it with
  | .pointer (some ⟨r, 0, none⟩) => match Nat.ble C.B0 r, s.obj r with
    | true, some (.iter none _ _ _) => k (.tuple #[.bool false]) s
    | true, some (.iter (some m) since seen last) => match Nat.ble C.B0 m, s.obj m with
      | true, some (.map es clock) =>
        match !seen.isEmpty && !es.isEmpty && es.all fun e => Nat.ble last e.born with
        | true => A.bad
        | false => A.all ((cands since seen es).map fun c => match c with
          | some e => k (.tuple #[.bool true, e.key, e.val]) (s.setObj r (.iter (some m) since (seen ++ [e.born]) clock))
          | none => k (.tuple #[.bool false]) s)
      | _, _ => A.bad
    | _, _ => A.bad
  | _ => A.bad

/-! ### Calls, code -/
def H (R : Type) := FuncId → List Value → St → (Value → St → R) → R
/-- What runs calls, and what runs the code of a round. -/
structure HH (R : Type) where
  call : H R
  code : Code → Fr → St → (AX → Fr → St → R) → R

def amethod (s : St) (recv : Value) (name : String) : Option (FuncId × Value) := match recv with
  | .iface t v => match C.P.info? t, C.P.underlying t with
    | some i, some d => match i.methods.toList.find? (·.name == name) with
      | some m => match m.path.toList, m.func, d with
        | [], some (f, true), .pointer _ => some (f, v)
        | [], some (f, false), .pointer e => match v with
          | .pointer (some a) => (aload C s e (.pointer (some a))).map fun x => (f, x)
          | _ => none
        | [], some (f, false), _ => some (f, v)
        | _, _, _ => none
      | none => none
    | _, _ => none
  | _ => none

/-- A function with a body that a call enters. -/
def callable (g : FuncId) : Bool := match C.P.funcs[g]? with
  | some fn => match fn.body with
    | some _ => !(fn.name == "runtime.NumGoroutine")
    | none => false
  | none => false

/-- The library's clone of a map: a function without a body. -/
def isClone (g : FuncId) : Bool := match C.P.funcs[g]? with
  | some fn => match fn.body with
    | some _ => false
    | none => fn.name == "maps.clone" && fn.origin == ""
  | none => false
def aclone (s : St) (g : FuncId) (args : List Value) : Option (Value × St) := match isClone C g, args with
  | true, [.iface t (.map (some m))] => match Nat.ble C.B0 m, s.obj m with
    | true, some (.map es c) => some (.iface t (.map (some s.next)), s.alloc (.map es c))
    | _, _ => none
  | _, _ => none

def setParams : List Nat → List Value → Fr → Fr
  | t :: ts, v :: vs, fr => setParams ts vs (fr.put (some t) v)
  | _, _, fr => fr

/-- A round of a range over a function. -/
def around (h : HH R) (s : St) (l : Nat) (args : List Value) (k : Value → St → R) : R := match Nat.ble C.B0 l, s.obj l with
  | true, some (.loop 0 _ fr ps assign body) => match Nat.beq args.length ps.length with
    | true => h.code assign (setParams ps args fr) s fun e fr1 s1 => match e, s1.obj l with
      | .normal, some (.loop 0 q f p a b) => h.code body fr1 (s1.setObj l (.loop 1 q f p a b)) fun e _ s2 => match s2.obj l with
        | some (.loop _ _ f p a b) => match e with
          | .normal => k (.bool true) (s2.setObj l (.loop 0 none f p a b))
          | e => k (.bool false) (s2.setObj l (.loop 2 (some e) f p a b))
        | _ => A.bad
      | _, _ => A.bad
    | false => A.bad
  | _, _ => A.bad

def acallOp (h : HH R) (s : St) (c : Call) (ρ : Operand → Value) (k : Value → St → R) : R := match c.callee with
  | .value f => match ρ f with
    | .func (.func g) first cap => match callable C g with
      | true => h.call g (first.toList ++ (c.args.toList.map ρ ++ cap.toList)) s k
      | false => match aclone C s g (first.toList ++ (c.args.toList.map ρ ++ cap.toList)) with
        | some (v, s') => k v s'
        | none => A.bad
    | .func (.yield l) _ _ => around C A h s l (c.args.toList.map ρ) k
    | _ => A.bad
  | .invoke r name => match amethod C s (ρ r) name with
    | some (g, v) => match callable C g with
      | true => h.call g (v :: c.args.toList.map ρ) s k
      | false => A.bad
    | none => A.bad
  | .builtin _ => A.bad

/-- An operation of the spine: it writes, calls or chooses. -/
def aE (h : HH R) (s : St) (o : Op) (ρ : Operand → Value) (k : Value → St → R) : R := match aW C s o ρ with
  | some (v, s') => k v s'
  | none => match o with
    | .call c => acallOp C A h s c ρ k
    | .next it false => anext C A s (ρ it) k
    | _ => A.bad

def aop (h : HH R) (s : St) (o : Op) (ρ : Operand → Value) (k : Value → St → R) : R := match o.operands.toList.all okOperand with
  | false => A.bad
  | true => match aP C o ρ with
    | some v => k v s
    | none => match aR C s o ρ with
      | some v => k v s
      | none => match aA C o ρ with
        | some (ob, mk) => k (mk s.next) (s.alloc ob)
        | none => aE C A h s o ρ k

/-- Is the operation wanted? No answer where its guard is neither a bool nor skipped itself. -/
def awanted (ops : Array Oper) (o : Oper) (fr : Fr) : Option Bool := match o.guard with
  | none => some true
  | some (j, want) => match ops.toList[j]? with
    | some g => match g.dst with
      | some d => match fr.get d with
        | .bool b => some (b == want)
        | .tuple vs => if vs.size = 0 then some false else none
        | _ => none
      | none => some false
    | none => some false

def deferOf : Op → Option Call
  | .defer c => some c
  | _ => none
def noDefer (ops : Array Oper) : Bool := ops.toList.all fun o => (deferOf o.op).isNone
/-- A call that is deferred. -/
def adefer (c : Call) (ρ : Operand → Value) : Option Mark := match c.callee with
  | .value f => match ρ f with
    | .func (.func g) first cap => match okOperand f && c.args.toList.all okOperand, callable C g with
      | true, true => some (.call g (first.toList ++ (c.args.toList.map ρ ++ cap.toList)))
      | _, _ => none
    | _ => none
  | _ => none

def runSeq (h : HH R) (ops : Array Oper) : List Oper → Fr → St → (Fr → St → R) → R
  | [], fr, s, k => k fr s
  | o :: os, fr, s, k => match awanted ops o fr with
    | some true => match deferOf o.op with
      | none => aop C A h s o.op fr.eval fun v s => runSeq h ops os (fr.put o.dst v) s k
      | some c => match adefer C c fr.eval with
        | some m => runSeq h ops os { fr.put o.dst undef with marks := m :: fr.marks } s k
        | none => A.bad
    | some false => runSeq h ops os (fr.put o.dst undef) s k
    | none => A.bad

/-! ### Regions that draw their order -/
/-- An operation that changes nothing. -/
def isFloat : Op → Bool
  | .move _ | .assign _ | .pick .. | .build .. | .nilCheck _ | .binOp .. | .unOp .. | .convert .. | .makeInterface .. | .makeFunc .. | .slice .. | .fieldAddr .. | .field .. | .indexAddr .. | .index ..
  | .typeAssert .. | .extract .. | .load .. | .lookup .. | .entry _ => true
  | .call { callee := .builtin .len, .. } | .call { callee := .builtin .min, .. } | .call { callee := .builtin .max, .. } => true
  | _ => false

def maskOf (o : Oper) (acc : List Nat) : Nat := o.after.toList.foldl (fun m e => match Region.binds .any e with | true => m ||| (2 ^ e.on ||| acc.getD e.on 0) | false => m) 0
/-- For each operation those that come before it in every order, as bits. -/
def masksGo : List Oper → List Nat → List Nat
  | [], acc => acc
  | o :: os, acc => masksGo os (acc ++ [maskOf o acc])
def masksOf (ops : Array Oper) : List Nat := masksGo ops.toList []

/-- The temporaries that an operation names. -/
def namesOf (ops : List Oper) (o : Oper) : List Nat :=
  o.dst.toList ++ (o.op.operands.toList.filterMap fun | .tmp t => some t | _ => none) ++ (match o.guard with
    | some (j, _) => match ops[j]? with
      | some g => g.dst.toList
      | none => []
    | none => [])
def writesIn (o : Oper) (l : List Nat) : Bool := match o.dst with
  | some d => l.contains d
  | none => false

/-- An operation that makes one block. -/
def isMaker : Op → Bool
  | .alloc _ | .box .. | .buildSlice .. | .makeMap .. | .makeSlice .. => true
  | _ => false
def opTmps (o : Oper) : List Nat := o.op.operands.toList.filterMap fun | .tmp t => some t | _ => none
def dstIs (o : Oper) (d : Nat) : Bool := match o.dst with
  | some e => Nat.beq e d
  | none => false
/-- A maker that may run ahead of its place in the plan: not guarded, alone in what it writes, and nothing that it names comes from a maker. -/
def canEarly (ops : List Oper) (o : Oper) : Bool := isMaker o.op && o.guard.isNone && (match o.dst with
  | some d => Nat.beq (ops.filter fun p => dstIs p d).length 1 && ops.all fun p => !isMaker p.op || !writesIn p (opTmps o)
  | none => false)
/-- x stands before y in the plan: may it? -/
def pairOk (ops : List Oper) (E masks : List Nat) (x y : Nat) : Bool := match ops[x]?, ops[y]?, masks[y]? with
  | some a, some b, some m => !Nat.beq x y && (((isFloat a.op && !writesIn a (namesOf ops b) && !writesIn b (namesOf ops a)) || m.testBit x) || (E.contains y && !writesIn a (namesOf ops b) && !writesIn b (namesOf ops a)))
  | _, _, _ => false
def pairsOk (ops : List Oper) (E masks : List Nat) : List Nat → Bool
  | [] => true
  | x :: l => l.all (pairOk ops E masks x) && pairsOk ops E masks l
/-- The makers of a plan that stand behind an operation of the spine that need not come before them. -/
def earlyGo (ops : List Oper) (masks : List Nat) : List Nat → List Nat → List Nat
  | _, [] => []
  | seen, y :: l => match (match ops[y]?, masks[y]? with
      | some b, some m => isMaker b.op && seen.any fun x => match ops[x]? with
        | some a => !isFloat a.op && !m.testBit x
        | none => false
      | _, _ => false) with
    | true => y :: earlyGo ops masks (y :: seen) l
    | false => earlyGo ops masks (y :: seen) l
def earlyOf (ops : Array Oper) (masks plan : List Nat) : List Nat := earlyGo ops.toList masks [] plan
/-- Every edge that binds leads back. -/
def backEdges (md : Region.Mode) : Nat → List Oper → Bool
  | _, [] => true
  | i, o :: os => (o.after.toList.all fun e => !Region.binds md e || Nat.blt e.on i) && backEdges md (i + 1) os
/-- Every edge that binds leads back along the list. -/
def topoOk (md : Region.Mode) (ops : List Oper) : List Nat → List Nat → Bool
  | _, [] => true
  | seen, i :: l => match ops[i]? with
    | some o => (o.after.toList.all fun e => !Region.binds md e || seen.contains e.on) && topoOk md ops (i :: seen) l
    | none => false
def orderOk (md : Region.Mode) (ops : Array Oper) : Bool := match backEdges md 0 ops.toList with
  | true => true
  | false => ((List.range ops.size).all fun i => (Region.linearise md ops 0).contains i) && topoOk md ops.toList [] (Region.linearise md ops 0)
def planOk (ops : Array Oper) (E masks : List Nat) (plan : List Nat) : Bool :=
  ((List.range ops.size).all fun i => plan.contains i) && ((plan.all fun i => Nat.blt i ops.size) && E.all fun x => match ops.toList[x]? with
    | some o => canEarly ops.toList o
    | none => false) && pairsOk ops.toList E masks plan && (orderOk .any ops && (orderOk .text ops && orderOk .gc ops))

def firstReady (ops : List Oper) (masks : List Nat) (done : Nat) (p : Op → Bool) : List Nat → Option Nat
  | [] => none
  | i :: l => match ops[i]?, masks[i]? with
    | some o, some m => if p o.op && Nat.beq (m &&& done) m then some i else firstReady ops masks done p l
    | _, _ => none
def planGo (ops : List Oper) (masks : List Nat) : Nat → List Nat → Nat → List Nat
  | 0, _, _ => []
  | f + 1, rem, done => match firstReady ops masks done isFloat rem with
    | some i => i :: planGo ops masks f (rem.filter fun j => !Nat.beq j i) (done ||| 2 ^ i)
    | none => match firstReady ops masks done (fun o => !isFloat o && !isMaker o) rem with
      | some i => i :: planGo ops masks f (rem.filter fun j => !Nat.beq j i) (done ||| 2 ^ i)
      | none => match firstReady ops masks done isMaker rem with
        | some i => i :: planGo ops masks f (rem.filter fun j => !Nat.beq j i) (done ||| 2 ^ i)
        | none => []
def planOf (ops : Array Oper) : List Nat := planGo ops.toList (masksOf ops) ops.size (List.range ops.size) 0

/-- An operation that was run: its number, itself, the frame that it was run in, its value. -/
structure Ent where
  i : Nat
  o : Oper
  fr : Fr
  v : Value

/-- Read again, behind the operation e of the spine, what was read and need not have been read before it. -/
def recheck (m : Nat) (s : St) : List Ent → R → R
  | [], r => r
  | e :: l, r => match m.testBit e.i with
    | true => recheck m s l r
    | false => match aR C s e.o.op e.fr.eval with
      | some v => A.eqv v e.v (recheck m s l r)
      | none => A.bad

/-- What may have run ahead is made: of those that could be ready. -/
def lateOk (ops : Array Oper) (E masks rest : List Nat) (fr : Fr) : Bool := E.all fun x => match rest.contains x, ops.toList[x]?, masks[x]? with
  | true, some o, some m => match rest.all fun j => !m.testBit j || E.contains j with
    | true => o.op.operands.toList.all okOperand && (aA C o.op fr.eval).isSome
    | false => true
  | _, _, _ => true
/-- The slots of what may run ahead are not known. -/
def blank (ops : Array Oper) : List Nat → Fr → Fr
  | [], fr => fr
  | x :: E, fr => match ops.toList[x]? with
    | some o => blank ops E (fr.put o.dst (.tuple #[.nilFunc]))
    | none => blank ops E fr

def runPlan (h : HH R) (ops : Array Oper) (E masks : List Nat) : List Nat → List Ent → Fr → St → (Fr → St → R) → R
  | [], _, fr, s, k => k fr s
  | i :: rest, reads, fr, s, k => match ops.toList[i]?, masks[i]? with
    | some o, some m => match awanted ops o fr with
      | none => A.bad
      | some false => runPlan h ops E masks rest reads (fr.put o.dst undef) s k
      | some true => match isFloat o.op, o.op.operands.toList.all okOperand with
        | _, false => A.bad
        | true, true => match aP C o.op fr.eval with
          | some v => runPlan h ops E masks rest reads (fr.put o.dst v) s k
          | none => match aR C s o.op fr.eval with
            | some v => runPlan h ops E masks rest ({ i, o, fr, v } :: reads) (fr.put o.dst v) s k
            | none => A.bad
        | false, true => match lateOk C ops E masks (i :: rest) fr with
          | true => aop C A h s o.op fr.eval fun v s' => recheck C A m s' reads (runPlan h ops E masks rest reads (fr.put o.dst v) s' k)
          | false => A.bad
    | _, _ => A.bad

def runDraw (h : HH R) (ops : Array Oper) (fr : Fr) (s : St) (k : Fr → St → R) : R := match planOk ops (earlyOf ops (masksOf ops) (planOf ops)) (masksOf ops) (planOf ops) with
  | true => runPlan C A h ops (earlyOf ops (masksOf ops) (planOf ops)) (masksOf ops) (planOf ops) [] (blank ops (earlyOf ops (masksOf ops) (planOf ops)) fr) s k
  | false => A.bad

def loopN (body : Fr → St → (AX → Fr → St → R) → R) : Nat → Fr → St → (AX → Fr → St → R) → R
  | 0, _, _, _ => A.bad
  | n + 1, fr, s, k => body fr s fun e fr s => match e with
    | .normal => loopN body n fr s k
    | e => k e fr s

def acode (h : HH R) (rd : Bool) : Code → Fr → St → (AX → Fr → St → R) → R
  | .skip, fr, s, k => k .normal fr s
  | .label _, fr, s, k => k .normal fr s
  | .region _ ops false, fr, s, k => match rd && !noDefer ops with
    | true => A.bad
    | false => runSeq C A h ops ops.toList fr s fun fr s => k .normal fr s
  | .region _ ops true, fr, s, k => runDraw C A h ops fr s fun fr s => k .normal fr s
  | .seq a b, fr, s, k => acode h rd a fr s fun e fr s => match e with
    | .normal => acode h rd b fr s k
    | e => k e fr s
  | .cond c t e, fr, s, k => match okOperand c, fr.eval c with
    | true, .bool true => acode h rd t fr s k
    | true, .bool false => acode h rd e fr s k
    | _, _ => A.bad
  | .block id b, fr, s, k => acode h rd b fr s fun e fr s => match e with
    | .exit i => match Nat.beq i id with
      | true => k .normal fr s
      | false => k (.exit i) fr s
    | e => k e fr s
  | .loop b, fr, s, k => A.ex fun n => loopN A (acode h rd b) n fr s k
  | .exit id, fr, s, k => k (.exit id) fr s
  | .scope b, fr, s, k => match rd with
    | true => A.bad
    | false => acode h rd b fr s k
  | .rangeFunc g ps assign body, fr, s, k => match rd, okOperand g, fr.eval g with
    | false, true, .func (.func f) first cap => match callable C f with
      | true => h.call f (first.toList ++ (.func (.yield (s.next + 1)) #[] #[] :: cap.toList)) ((s.alloc .dblk).alloc (.loop 0 none { fr with marks := [] } ps.toList assign body)) fun _ s3 =>
        match s3.obj (s.next + 1) with
        | some (.loop st q f p a b) => match Nat.beq st 1 with
          | true => A.bad
          | false => match q with
            | none => k .normal { fr with marks := .blk s.next :: fr.marks } (s3.setObj (s.next + 1) (.loop 3 none f p a b))
            | some e => k e { fr with marks := .blk s.next :: fr.marks } (s3.setObj (s.next + 1) (.loop 3 (some e) f p a b))
        | _ => A.bad
      | false => A.bad
    | _, _, _ => A.bad
  | .ret, fr, s, k => k .ret fr s
  | _, _, _, _ => A.bad

def aresult (fr : Fr) (s : St) : ResultVar → Option Value
  | .tmp t => some (fr.get t)
  | .cell a t => match fr.get a with
    | .pointer (some p) => aload C s t (.pointer (some p))
    | _ => none
def aresults (fr : Fr) (s : St) : List ResultVar → Option (List Value)
  | [] => some []
  | r :: rs => match aresult C fr s r, aresults fr s rs with
    | some v, some vs => some (v :: vs)
    | _, _ => none
def tupled : List Value → Value
  | [v] => v
  | vs => .tuple vs.toArray

/-- A frame leaves. -/
def leave (h : HH R) : List Mark → St → (St → R) → R
  | [], s, k => k s
  | .blk m :: ms, s, k => match Nat.ble C.B0 m, s.obj m with
    | true, some .dblk => leave h ms (s.setObj m .dead) k
    | _, _ => A.bad
  | .call f args :: ms, s, k => match callable C f, C.P.funcs[f]? with
    | true, some fn => match fn.body with
      | some c => acode C A h false c { tm := Trie.ofList args 0 .nil, nt := max args.length fn.ntmps } s fun e fr s => match e with
        | .exit _ => A.bad
        | _ => match fr.marks, aresults C fr s fn.results.toList with
          | [], some _ => leave h ms s k
          | _, _ => A.bad
      | none => A.bad
    | _, _ => A.bad

def ahand : Nat → HH R
  | 0 => { call := fun _ _ _ _ => A.bad, code := fun _ _ _ _ => A.bad }
  | n + 1 => {
    call := fun f args s k => match C.ext f args with
    | some v => k v s
    | none => match C.P.funcs[f]? with
      | some fn => match fn.body with
        | some c => acode C A (ahand n) false c { tm := Trie.ofList args 0 .nil, nt := max args.length fn.ntmps } s fun e fr s => match e with
          | .exit _ => A.bad
          | _ => leave C A (ahand n) fr.marks s fun s => match aresults C fr s fn.results.toList with
            | some vs => k (tupled vs) s
            | none => A.bad
        | none => A.bad
      | none => A.bad
    code := fun c fr s k => acode C A (ahand n) true c fr s k }
def acall (n : Nat) : H R := (ahand C A n).call
end
end Go.Proofs.Ytpdhkonifbdckaa.Abs
