/- A deterministic reading of the program's code, and its soundness: part 1 of 3. -/
import GoSem.Claims
import Derived.Calls
import Derived.Laws.Sem
import Derived.Laws.World
import Derived.RunT
import Derived.Laws.Small
import Derived.Laws.Strings2
import Derived.Laws.Concat
import Derived.Laws.Pointers
import Derived.Laws.Cells
import Derived.Laws.Append
import Derived.Lib.AppendZeros

/- The deterministic reading of a program: values, heaps, operations, code, calls. Plain definitions; nothing here speaks of the model's world. -/
namespace Go.Det

/-- A value that nobody writes any more: what it leads to is told in place. -/
inductive FV where
  | int (k : IntKind) (n : Int)
  | bool (b : Bool)
  | str (s : List UInt8)
  | nilPtr
  | ptr (cs : List FV)
  | nilSl
  | sl (x : Bool) (n : Nat) (cs : List FV)
  | map (ks vs : List FV)
  | nilMap
  | func (fn : Fn) (caps : List FV)
  | nilFunc
  | iface (t : TypeId) (v : FV)
  | nilIface
  | agg (cs : List FV)
  | tup (cs : List FV)
  deriving Repr, Inhabited

mutual
def FV.beq : FV → FV → Bool
  | .int k n, .int k' n' => k == k' && n == n'
  | .bool b, .bool b' => b == b'
  | .str s, .str s' => s == s'
  | .nilPtr, .nilPtr => true
  | .nilSl, .nilSl => true
  | .ptr cs, .ptr ds => FV.beqs cs ds
  | .sl x n cs, .sl y m ds => x == y && n == m && FV.beqs cs ds
  | .map a b, .map c d => FV.beqs a c && FV.beqs b d
  | .nilMap, .nilMap => true
  | .func f cs, .func g ds => f == g && FV.beqs cs ds
  | .nilFunc, .nilFunc => true
  | .iface t v, .iface u w => t == u && FV.beq v w
  | .nilIface, .nilIface => true
  | .agg cs, .agg ds => FV.beqs cs ds
  | .tup cs, .tup ds => FV.beqs cs ds
  | _, _ => false
def FV.beqs : List FV → List FV → Bool
  | [], [] => true
  | a :: as, b :: bs => FV.beq a b && FV.beqs as bs
  | _, _ => false
end

/-- A value in the hands of running code: frozen, or one that leads to the heap at hand. -/
inductive SV where
  | f (v : FV)
  | ptr (b o ver : Nat)
  | row (b o n ver : Nat) (x : Bool)
  | map (b : Nat)
  | it (b : Nat)
  | yield (b : Nat)
  | func (fn : Fn) (caps : List SV)
  | iface (t : TypeId) (v : SV)
  | agg (cs : List SV)
  | tup (cs : List SV)
  | dead
  deriving Repr, Inhabited

mutual
def SV.beq : SV → SV → Bool
  | .f v, .f w => FV.beq v w
  | .ptr b o v, .ptr b' o' v' => b == b' && o == o' && v == v'
  | .row b o n v x, .row b' o' n' v' x' => b == b' && o == o' && n == n' && v == v' && x == x'
  | .map b, .map b' => b == b'
  | .it b, .it b' => b == b'
  | .yield b, .yield b' => b == b'
  | .func p cs, .func q ds => p == q && SV.beqs cs ds
  | .iface t v, .iface u w => t == u && SV.beq v w
  | .agg cs, .agg ds => SV.beqs cs ds
  | .tup cs, .tup ds => SV.beqs cs ds
  | .dead, .dead => true
  | _, _ => false
def SV.beqs : List SV → List SV → Bool
  | [], [] => true
  | a :: as, b :: bs => SV.beq a b && SV.beqs as bs
  | _, _ => false
end
abbrev undefF : FV := .tup []
abbrev U : SV := .f (.tup [])

inductive Opd where
  | t (n : Nat)
  | c (v : FV)
  | bad
  deriving Repr, Inhabited

/-- What an operation on a slice or a pointer to an array has to know. -/
inductive SKind where
  | str
  | sl (esz : Nat)
  | arr (len esz : Nat)
  deriving Repr, Inhabited, DecidableEq

inductive NKind where
  | ptr | map | func | iface
  deriving Repr, Inhabited, DecidableEq
inductive KKind where
  | int | str | bool
  deriving Repr, Inhabited, DecidableEq
inductive LKind where
  | str | sl | map
  deriving Repr, Inhabited, DecidableEq
inductive DOp where
  | mov (x : Opd)
  | pick (c a b : Opd)
  | box (ty : TypeId) (v : Opd)
  | alloc (ty : TypeId) (zero : List FV)
  | build (zero : List FV) (parts : List (Nat × Nat × Opd))
  | mkslice (len : Nat) (zero : List FV) (parts : List (Nat × Nat × Opd)) (ty esz : Nat)
  | load (agg : Bool) (size : Nat) (a : Opd)
  | store (size : Nat) (a v : Opd)
  | nilchk (x : Opd)
  | bin (op : BinOp) (x y : Opd)
  | eqB (neg : Bool) (x y : Opd)
  | eqAgg (neg : Bool) (ks : List KKind) (x y : Opd)
  | isnil (k : NKind) (neg : Bool) (x : Opd)
  | isnilSl (neg : Bool) (x : Opd)
  | un (op : UnOp) (x : Opd)
  | cvInt (k : IntKind) (x : Opd)
  | cvStr (x : Opd)
  | cvRune (x : Opd)
  | toBytes (ty : TypeId) (x : Opd)
  | ofBytes (x : Opd)
  | mkiface (t : TypeId) (x : Opd)
  | mkfunc (fn : Fn) (caps : List Opd)
  | mkmap
  | makeslice (zero : List FV) (ty esz bytes : Nat) (len cap : Opd)
  | slice (k : SKind) (x : Opd) (lo hi mx : Option Opd)
  | faddr (off : Nat) (x : Opd)
  | field (agg : Bool) (off size : Nat) (x : Opd)
  | iaddr (k : SKind) (x i : Opd)
  | index (k : SKind) (agg : Bool) (x i : Opd)
  | lookup (kk : KKind) (zero : FV) (ok : Bool) (m k : Opd)
  | mapset (kk : KKind) (m k v : Opd)
  | mapentry (kk : KKind) (zero : FV) (m k : Opd)
  | entryset (m s v : Opd)
  | range (x : Opd)
  | next (it : Opd)
  | entry (it : Opd)
  | extract (x : Opd) (i : Nat)
  | call (f : FuncId) (args : List Opd)
  | callv (f : Opd) (args : List Opd)
  | len (k : LKind) (x : Opd)
  | lenArr (n : Nat)
  | cap (x : Opd)
  | append (ty esz bytes : Nat) (s x : Opd)
  | appendz (zero : List FV) (ty esz bytes : Nat) (s n : Opd)
  | copy (esz : Nat) (d s : Opd)
  | minmax (mx : Bool) (args : List Opd)
  | sliceData (x : Opd)
  | unsafeStr (ty : TypeId) (p n : Opd)
  | toUns (x : Opd)
  | fromUns (u size : Nat) (x : Opd)
  | eqPtr (neg : Bool) (x y : Opd)
  | delete (m k : Opd)
  | tassert (t : TypeId) (x : Opd)
  | bad
  deriving Repr, Inhabited

structure DOper where
  dst : Option Nat
  op : DOp
  guard : Option (Nat × Bool)
  anc : Nat := 0
  deriving Repr, Inhabited

inductive DCode where
  | skip
  | region (ops : List DOper)
  | draw (free : Nat) (ops : List DOper)
  | seq (a b : DCode)
  | cond (c : Opd) (a b : DCode)
  | block (id : Nat) (a : DCode)
  | loop (keep : Option (List Nat)) (a : DCode)
  | again (L : Nat) (keep : Option (List Nat)) (a : DCode)
  | exit (id : Nat)
  | ret
  | rangeFunc (f : Opd) (params : List Nat) (assign body : DCode)
  | bad
  deriving Repr, Inhabited

inductive Ex where
  | normal
  | exit (id : Nat)
  | ret
  deriving Repr, Inhabited, DecidableEq

inductive LState where
  | ready | busy | done | exhausted
  deriving Repr, Inhabited, DecidableEq

inductive SObj where
  | cells (ty esz : Nat) (cs : List SV)
  | map (es : List (FV × SV × Nat)) (clock : Nat)
  | iter (m : SV) (since : Nat) (seen : List Nat) (stepped : Nat)
  | loop (env : List SV) (params : List Nat) (assign body : DCode) (st : LState) (jump : Ex)
  | dead
  deriving Repr, Inhabited

structure St where
  env : List SV
  h : List SObj
  deriving Repr, Inhabited

/-- All outcomes, or a fault. -/
abbrev Out (α : Type) := Option (List α)
namespace Out
@[inline] def ret {α : Type} (a : α) : Out α := some [a]
def flat {α β : Type} (k : α → Out β) : List α → Out β
  | [] => some []
  | a :: as => match k a with
    | none => none
    | some l => match flat k as with
      | none => none
      | some m => some (l ++ m)
def bind {α β : Type} (o : Out α) (k : α → Out β) : Out β :=
  match o with
  | none => none
  | some [a] => k a
  | some l => flat k l
def ofOption {α : Type} : Option α → Out α
  | none => none
  | some a => some [a]
end Out

/-! ### values -/
def allF : List SV → Option (List FV)
  | [] => some []
  | .f v :: r => match allF r with
    | some l => some (v :: l)
    | none => none
  | _ :: _ => none
def mkAgg (cs : List SV) : SV := match allF cs with | some l => .f (.agg l) | none => .agg cs
def mkTup (cs : List SV) : SV := match allF cs with | some l => .f (.tup l) | none => .tup cs
def mkFunc (fn : Fn) (cs : List SV) : SV := match allF cs with | some l => .f (.func fn l) | none => .func fn cs
def mkIface (t : TypeId) : SV → SV
  | .f v => .f (.iface t v)
  | v => .iface t v
def cellsOf : SV → Option (List SV)
  | .f (.agg cs) => some (cs.map .f)
  | .agg cs => some cs
  | .f (.tup _) | .tup _ | .dead => none
  | v => some [v]
def elems : SV → Option (List SV)
  | .f (.tup cs) => some (cs.map .f)
  | .tup cs => some cs
  | _ => none
def ofCells (agg : Bool) (cs : List SV) : Option SV :=
  if agg then some (mkAgg cs) else match cs with | [v] => some v | _ => none
def bytesOf : List SV → Option (List UInt8)
  | [] => some []
  | .f (.int .u8 n) :: r => match bytesOf r with
    | some l => some (UInt8.ofNat n.toNat :: l)
    | none => none
  | _ :: _ => none
def byteVals (s : List UInt8) : List FV := s.map fun b => .int .u8 b.toNat

/-! ### the heap -/
def hcells (h : List SObj) (b ver : Nat) : Option (List SV) :=
  match h[b]? with
  | some (.cells _ _ cs) => if cs.length = ver then some cs else none
  | _ => none
/-- The cells of a slice. -/
def sliceCells (h : List SObj) (esz : Nat) : SV → Option (Nat × List SV)
  | .f .nilSl => some (0, [])
  | .f (.sl _ n cs) => if cs.length = n * esz then some (n, cs.map .f) else none
  | .row b o n ver _ => match hcells h b ver with
    | some cs => if o + n * esz ≤ ver then some (n, (cs.drop o).take (n * esz)) else none
    | none => none
  | _ => none
def ldCells (h : List SObj) (size : Nat) : SV → Option (List SV)
  | .f (.ptr cs) => if size ≤ cs.length then some ((cs.take size).map .f) else none
  | .ptr b o ver => match hcells h b ver with
    | some cs => if o + size ≤ ver then some ((cs.drop o).take size) else none
    | none => none
  | _ => none
def ldV (h : List SObj) (agg : Bool) (size : Nat) : SV → Option SV
  | .f (.ptr cs) =>
    if agg then (if size ≤ cs.length then some (.f (.agg (cs.take size))) else none)
    else match cs with | v :: _ => if size = 1 then some (.f v) else none | [] => none
  | p => match ldCells h size p with
    | some cs => ofCells agg cs
    | none => none
def stV (h : List SObj) (size : Nat) (p v : SV) : Option (List SObj) :=
  match p with
  | .ptr b o ver => match h[b]? with
    | some (.cells ty e cs) => match cellsOf v with
      | some new => if cs.length = ver ∧ new.length = size ∧ o + size ≤ ver then some (h.set b (.cells ty e (cs.take o ++ new ++ cs.drop (o + size)))) else none
      | none => none
    | _ => none
  | _ => none

/-! ### freezing: what a value leads to, told in place -/
def frzL (g : SV → Option FV) : List SV → Option (List FV)
  | [] => some []
  | v :: r => match g v with
    | some v => match frzL g r with
      | some l => some (v :: l)
      | none => none
    | none => none
def frz (h : List SObj) : Nat → SV → Option FV
  | 0, .f v => some v
  | 0, _ => none
  | n + 1, v =>
    match v with
    | .f v => some v
    | .ptr b o ver => match hcells h b ver with
      | some cs => (frzL (frz h n) (cs.drop o)).map .ptr
      | none => none
    | .row b o m ver x => match h[b]? with
      | some (.cells _ e cs) => if cs.length = ver ∧ o + m * e ≤ ver ∧ (o = 0 ∨ 0 < m) then (frzL (frz h n) ((cs.drop o).take (m * e))).map (.sl x m) else none
      | _ => none
    | .map b => match h[b]? with
      | some (.map es _) => match frzL (frz h n) (es.map (·.2.1)) with
        | some vs => some (.map (es.map (·.1)) vs)
        | none => none
      | _ => none
    | .func fn cs => (frzL (frz h n) cs).map (.func fn)
    | .iface t v => (frz h n v).map (.iface t)
    | .agg cs => (frzL (frz h n) cs).map .agg
    | .tup cs => (frzL (frz h n) cs).map .tup
    | .it _ | .yield _ | .dead => none
/-- It leads nowhere. -/
def flat0 : FV → Bool
  | .int .. | .bool .. | .str .. | .nilPtr | .nilSl | .nilMap | .nilFunc | .nilIface => true
  | .sl _ 0 [] => true
  | _ => false
def flatV : FV → Bool
  | .tup cs => cs.all fun | .agg ds => ds.all flat0 | v => flat0 v
  | .agg cs => cs.all flat0
  | v => flat0 v

/-! ### which heap objects a value names -/
mutual
def below (L : Nat) : SV → Bool
  | .f _ | .dead => true
  | .ptr b _ _ | .row b _ _ _ _ | .map b | .it b | .yield b => b < L
  | .func _ cs | .agg cs | .tup cs => belows L cs
  | .iface _ v => below L v
def belows (L : Nat) : List SV → Bool
  | [] => true
  | v :: r => below L v && belows L r
end
def belowO (L : Nat) : SObj → Bool
  | .cells _ _ cs => belows L cs
  | .map es _ => belows L (es.map (·.2.1))
  | .iter m _ _ _ => below L m
  | .loop env _ _ _ _ _ => belows L env
  | .dead => true
/-- What was made since the heap had L objects is let go, if nothing leads to it. -/
def trim (L : Nat) (vs : List SV) (h : List SObj) : List SObj :=
  if h.length = L then h else
  if belows L vs && (h.take L).all (belowO L) then h.take L else h

/-! ### operations -/
def get (env : List SV) : Opd → SV
  | .t n => env.getD n U
  | .c v => .f v
  | .bad => U
def put (env : List SV) (d : Option Nat) (v : SV) : List SV :=
  match d with
  | some d => env.set d v
  | none => env
def cmpInt (op : BinOp) (x y : Int) : Option Bool :=
  match op with
  | .eql => some (x == y) | .neq => some (x != y) | .lss => some (decide (x < y)) | .leq => some (decide (x ≤ y)) | .gtr => some (decide (x > y)) | .geq => some (decide (x ≥ y))
  | _ => none
def bytesLess : List UInt8 → List UInt8 → Bool
  | _, [] => false
  | [], _ :: _ => true
  | a :: x, b :: y => decide (a < b) || (a == b && bytesLess x y)
def binF (op : BinOp) : FV → FV → Option FV
  | .int k a, .int k' b =>
    match op with
    | .shl => if b < 0 then none else some (.int k (k.wrap (a * 2 ^ (min b.toNat k.bits))))
    | .shr => if b < 0 then none else some (.int k (a.fdiv (2 ^ (min b.toNat k.bits))))
    | _ => if k ≠ k' then none else
      match op with
      | .add => some (.int k (k.wrap (a + b)))
      | .sub => some (.int k (k.wrap (a - b)))
      | .mul => some (.int k (k.wrap (a * b)))
      | .quo => if b = 0 then none else some (.int k (k.wrap (a.tdiv b)))
      | .rem => if b = 0 then none else some (.int k (a.tmod b))
      | .and => some (.int k (k.wrap (BitVec.ofInt k.bits a &&& BitVec.ofInt k.bits b).toNat))
      | .or => some (.int k (k.wrap (BitVec.ofInt k.bits a ||| BitVec.ofInt k.bits b).toNat))
      | .xor => some (.int k (k.wrap (BitVec.ofInt k.bits a ^^^ BitVec.ofInt k.bits b).toNat))
      | .andNot => some (.int k (k.wrap (BitVec.ofInt k.bits a &&& ~~~ (BitVec.ofInt k.bits b)).toNat))
      | op => (cmpInt op a b).map .bool
  | .str a, .str b =>
    match op with
    | .add => if a.length + b.length ≤ 9223372036854775807 then some (.str (a ++ b)) else none
    | .eql => some (.bool (a == b))
    | .neq => some (.bool (!(a == b)))
    | .lss => some (.bool (bytesLess a b))
    | .leq => some (.bool (bytesLess a b || a == b))
    | .gtr => some (.bool (!(bytesLess a b || a == b)))
    | .geq => some (.bool (!bytesLess a b))
    | _ => none
  | _, _ => none
def eqB (neg : Bool) : SV → SV → Option SV
  | .f (.bool a), .f (.bool b) => some (.f (.bool ((a == b) != neg)))
  | _, _ => none
def isNil (k : NKind) (v : SV) : Option Bool :=
  match k with
  | .ptr => match v with
    | .f .nilPtr => some true
    | .f (.ptr _) | .ptr .. => some false
    | _ => none
  | .map => match v with
    | .f .nilMap => some true
    | .f (.map ..) | .map _ => some false
    | _ => none
  | .func => match v with
    | .f .nilFunc => some true
    | .f (.func ..) | .func .. | .yield _ => some false
    | _ => none
  | .iface => match v with
    | .f .nilIface => some true
    | .f (.iface ..) | .iface .. => some false
    | _ => none
/-- What a check for nil lets by. -/
def notNil : SV → Bool
  | .f (.ptr _) | .ptr .. | .f (.func (.func _) _) | .func (.func _) _ | .yield _ | .f (.iface ..) | .iface .. => true
  | _ => false
def bin (op : BinOp) : SV → SV → Option SV
  | .f a, .f b => (binF op a b).map .f
  | _, _ => none
def un (op : UnOp) : SV → Option SV
  | .f (.bool b) => match op with | .not => some (.f (.bool (!b))) | _ => none
  | .f (.int k n) => match op with
    | .neg => some (.f (.int k (k.wrap (0 - n))))
    | .xor => (binF .xor (.int k (if k.signed then -1 else k.max)) (.int k n)).map .f
    | _ => none
  | _ => none
def intOf? : SV → Option Int
  | .f (.int _ n) => some n
  | _ => none
/-- A bound of a slice expression. -/
def bound (dflt hi : Nat) : Option SV → Option Nat
  | none => some dflt
  | some (.f (.int _ i)) => if 0 ≤ i ∧ i ≤ hi then some i.toNat else none
  | _ => none
def sliceOp (k : SKind) (x : SV) (lo hi mx : Option SV) : Option SV :=
  match k, x with
  | .str, .f (.str s) =>
    match mx, bound s.length s.length hi with
    | none, some h => match bound 0 h lo with
      | some l => some (.f (.str ((s.take h).drop l)))
      | none => none
    | _, _ => none
  | .sl _, .f .nilSl =>
    match bound 0 0 mx, bound 0 0 hi, bound 0 0 lo with
    | some _, some _, some _ => if mx.isSome && hi.isNone then none else some (.f .nilSl)
    | _, _, _ => none
  | .sl e, .f (.sl x n cs) =>
    match bound n n mx with
    | some m => match bound n (if mx.isSome then m else n) hi with
      | some h => match bound 0 h lo with
        | some l => if mx.isSome && hi.isNone then none else some (.f (.sl (if mx.isSome then h == m else x && h == n) (h - l) ((cs.take (h * e)).drop (l * e))))
        | none => none
      | none => none
    | none => none
  | .sl e, .row b o n ver x =>
    match bound n n mx with
    | some m => match bound n (if mx.isSome then m else n) hi with
      | some h => match bound 0 h lo with
        | some l => if mx.isSome && hi.isNone then none else if x && !(h == n) then none else if (mx.isSome && !(h == m)) || e == 0 then none else some (.row b (o + l * e) (h - l) ver (if mx.isSome then h == m else x && h == n))
        | none => none
      | none => none
    | none => none
  | .arr n e, .ptr b o ver =>
    match mx, bound n n hi with
    | none, some h => match bound 0 h lo with
      | some l => if h = n then some (.row b (o + l * e) (h - l) ver true) else none
      | none => none
    | _, _ => none
  | .arr n e, .f (.ptr cs) =>
    match mx, bound n n hi with
    | none, some h => match bound 0 h lo with
      | some l => some (.f (.sl (h == n) (h - l) ((cs.take (h * e)).drop (l * e))))
      | none => none
    | _, _ => none
  | _, _ => none
def faddr (off : Nat) : SV → Option SV
  | .f (.ptr cs) => some (.f (.ptr (cs.drop off)))
  | .ptr b o ver => some (.ptr b (o + off) ver)
  | _ => none
def iaddr (k : SKind) (x i : SV) : Option SV :=
  match i with
  | .f (.int _ i) => match k, x with
    | .sl e, .f (.sl _ n cs) => if 0 ≤ i ∧ i < n then some (.f (.ptr (cs.drop (i.toNat * e)))) else none
    | .sl e, .row b o n ver _ => if 0 ≤ i ∧ i < n then some (.ptr b (o + i.toNat * e) ver) else none
    | .arr n e, .ptr b o ver => if 0 ≤ i ∧ i < n then some (.ptr b (o + i.toNat * e) ver) else none
    | .arr n e, .f (.ptr cs) => if 0 ≤ i ∧ i < n then some (.f (.ptr (cs.drop (i.toNat * e)))) else none
    | _, _ => none
  | _ => none
def index (k : SKind) (agg : Bool) (x i : SV) : Option SV :=
  match i with
  | .f (.int _ i) => match k with
    | .str => match x with
      | .f (.str s) => if 0 ≤ i then match s[i.toNat]? with
          | some b => some (.f (.int .u8 b.toNat))
          | none => none
        else none
      | _ => none
    | .arr n e => if 0 ≤ i ∧ i < n then match x with
        | .f (.agg cs) => ofCells agg (((cs.drop (i.toNat * e)).take e).map .f)
        | .agg cs => ofCells agg ((cs.drop (i.toNat * e)).take e)
        | _ => none
      else none
    | _ => none
  | _ => none
def fieldOp (agg : Bool) (off size : Nat) (x : SV) : Option SV :=
  match x with
  | .f (.agg cs) => if agg then some (.f (.agg ((cs.drop off).take size))) else match cs[off]? with
    | some v => some (.f v)
    | none => none
  | .agg cs => if agg then some (mkAgg ((cs.drop off).take size)) else cs[off]?
  | _ => none
/-- Parts put into cells: where, how many cells, what. -/
def fill (cells : List SV) : List (Nat × Nat × SV) → Option (List SV)
  | [] => some cells
  | (off, size, v) :: r => match cellsOf v with
    | some new => if new.length = size ∧ off + size ≤ cells.length then fill (cells.take off ++ new ++ cells.drop (off + size)) r else none
    | none => none
def opt1 : SV → Option FV
  | .f v => some v
  | _ => none
/-- Are two keys one? -/
def keyEq (kk : KKind) (a b : FV) : Option Bool :=
  match kk, a, b with
  | .int, .int k x, .int k' y => if k = k' then some (x == y) else none
  | .str, .str x, .str y => some (x == y)
  | .bool, .bool x, .bool y => some (x == y)
  | _, _, _ => none
def eqKs : List KKind → List FV → List FV → Option Bool
  | [], _, _ => some true
  | k :: ks, a :: as, b :: bs => match keyEq k a b with
    | some true => eqKs ks as bs
    | some false => some false
    | none => none
  | _, _, _ => none
def eqAgg (neg : Bool) (ks : List KKind) : SV → SV → Option SV
  | .f (.agg a), .f (.agg b) => (eqKs ks a b).map fun r => .f (.bool (r != neg))
  | _, _ => none
/-- Where a key stands among others. -/
def findIx (kk : KKind) (k : FV) : List FV → Nat → Option (Option Nat)
  | [], _ => some none
  | k' :: r, i => match keyEq kk k k' with
    | some true => some (some i)
    | some false => findIx kk k r (i + 1)
    | none => none
def lookup (h : List SObj) (kk : KKind) (zero : FV) (ok : Bool) (m k : SV) : Option SV :=
  match k with
  | .f k =>
    let r : Option (Option SV) := match m with
      | .f .nilMap => some none
      | .f (.map ks vs) => match findIx kk k ks 0 with
        | some (some i) => match vs[i]? with
          | some v => some (some (.f v))
          | none => none
        | some none => some none
        | none => none
      | .map b => match h[b]? with
        | some (.map es _) => match findIx kk k (es.map (·.1)) 0 with
          | some (some i) => match es[i]? with
            | some e => some (some e.2.1)
            | none => none
          | some none => some none
          | none => none
        | _ => none
      | _ => none
    match r with
    | none => none
    | some (some v) => some (if ok then mkTup [v, .f (.bool true)] else v)
    | some none => some (if ok then .f (.tup [zero, .bool false]) else .f zero)
  | _ => none
def mapset (h : List SObj) (kk : KKind) (m k v : SV) : Option (List SObj) :=
  match m, k with
  | .map b, .f k => match h[b]? with
    | some (.map es c) => match findIx kk k (es.map (·.1)) 0 with
      | some (some i) => match es[i]? with
        | some e => some (h.set b (.map (es.set i (k, v, e.2.2)) c))
        | none => none
      | some none => some (h.set b (.map (es ++ [(k, v, c)]) (c + 1)))
      | none => none
    | _ => none
  | _, _ => none
def mapentry (h : List SObj) (kk : KKind) (zero : FV) (m k : SV) : Option (SV × List SObj) :=
  match m, k with
  | .map b, .f k => match h[b]? with
    | some (.map es c) => match findIx kk k (es.map (·.1)) 0 with
      | some (some i) => match es[i]? with
        | some e => some (mkTup [e.2.1, .f (.int .i64 e.2.2)], h.set b (.map (es.set i (k, e.2)) c))
        | none => none
      | some none => some (.f (.tup [zero, .int .i64 c]), h.set b (.map (es ++ [(k, .f zero, c)]) (c + 1)))
      | none => none
    | _ => none
  | _, _ => none
def setBorn (s : Int) (v : SV) : List (FV × SV × Nat) → Option (List (FV × SV × Nat))
  | [] => none
  | (k, w, b) :: r => if (b : Int) = s then some ((k, v, b) :: r) else (setBorn s v r).map ((k, w, b) :: ·)
def entryset (h : List SObj) (m s v : SV) : Option (List SObj) :=
  match m, s with
  | .map b, .f (.int _ s) => match h[b]? with
    | some (.map es c) => (setBorn s v es).map fun es' => h.set b (.map es' c)
    | _ => none
  | _, _ => none
def rangeOp (h : List SObj) (x : SV) : Option (SV × List SObj) :=
  match x with
  | .f .nilMap => some (.it h.length, h ++ [.iter x 0 [] 0])
  | .map b => match h[b]? with
    | some (.map _ c) => some (.it h.length, h ++ [.iter x c [] c])
    | _ => none
  | _ => none
def nextOp (h : List SObj) (x : SV) : Out (SV × List SObj) :=
  match x with
  | .it b => match h[b]? with
    | some (.iter (.f .nilMap) _ _ _) => some [(.f (.tup [.bool false]), h)]
    | some (.iter (.map m) since seen last) => match h[m]? with
      | some (.map es c) =>
        if !seen.isEmpty && !es.isEmpty && es.all (fun e => decide (last ≤ e.2.2)) then none else
        let left := es.filter fun e => !seen.contains e.2.2
        if left.all (fun e => decide (e.2.2 < since)) then
          match left with
          | [] => some [(.f (.tup [.bool false]), h)]
          | l => some (l.map fun e => (mkTup [.f (.bool true), .f e.1, e.2.1], h.set b (.iter (.map m) since (seen ++ [e.2.2]) c)))
        else none
      | _ => none
    | _ => none
  | _ => none
def findBorn (s : Nat) : List (FV × SV × Nat) → Option (FV × SV)
  | [] => none
  | (k, v, b) :: r => if b = s then some (k, v) else findBorn s r
def entryOp (h : List SObj) (x : SV) : Option SV :=
  match x with
  | .it b => match h[b]? with
    | some (.iter (.map m) _ seen stepped) => match h[m]?, seen.getLast? with
      | some (.map es c), some s => if c = stepped then match findBorn s es with
          | some (k, v) => some (mkTup [.f k, v])
          | none => none
        else none
      | _, _ => none
    | _ => none
  | _ => none
/-- What is appended or copied: how many elements, their cells. -/
def srcCells (h : List SObj) (esz : Nat) : SV → Option (Nat × List SV)
  | .f (.str b) => if esz = 1 then some (b.length, (byteVals b).map .f) else none
  | x => sliceCells h esz x
def appendOp (h : List SObj) (ty esz bytes : Nat) (s x : SV) : Option (SV × List SObj) :=
  match srcCells h esz x with
  | none => none
  | some (m, new) =>
    if m = 0 then match s with
      | .f .nilSl | .f (.sl ..) | .row .. => some (s, h)
      | _ => none
    else if new.length = 0 then none
    else match s with
    | .f .nilSl => if m * bytes ≤ 140737488355328 then some (.row h.length 0 m new.length false, h ++ [.cells ty esz new]) else none
    | .f (.sl true n cs) => if (n + m) * bytes ≤ 140737488355328 ∧ cs.length = n * esz then some (.row h.length 0 (n + m) (cs.length + new.length) false, h ++ [.cells ty esz (cs.map .f ++ new)]) else none
    | .row b o n ver x => match h[b]? with
      | some (.cells t e cs) =>
        if cs.length = ver ∧ (n + m) * bytes ≤ 140737488355328 then
          if x then (if o + n * esz ≤ ver then some (.row h.length 0 (n + m) (n * esz + new.length) false, h ++ [.cells ty esz ((cs.drop o).take (n * esz) ++ new)]) else none)
          else if o = 0 ∧ n * esz = ver ∧ e = esz ∧ t = ty then some (.row b 0 (n + m) (ver + new.length) false, h.set b (.cells t e (cs ++ new)))
          else if o = 0 ∧ (n + m) * esz ≤ ver ∧ e = esz ∧ t = ty then some (.row b 0 (n + m) ver false, h.set b (.cells t e (cs.take (n * esz) ++ new ++ cs.drop (n * esz + new.length)))) else none
        else none
      | _ => none
    | _ => none
/-- Zeros behind nothing. -/
def appendzOp (h : List SObj) (zero : List FV) (ty esz bytes : Nat) (s n : SV) : Option (SV × List SObj) :=
  match s, n with
  | .f .nilSl, .f (.int .i64 n) =>
    if 0 < n ∧ n * bytes ≤ 140737488355328 ∧ 0 < esz ∧ 0 < bytes ∧ zero.length = esz then
      some (.row h.length 0 n.toNat (n.toNat * esz) false, h ++ [.cells ty esz ((List.replicate n.toNat zero).flatten.map .f)])
    else none
  | _, _ => none
def copyOp (h : List SObj) (esz : Nat) (d s : SV) : Option (SV × List SObj) :=
  match srcCells h esz s, d with
  | some (m, new), .row b o n ver _ => match h[b]? with
    | some (.cells t e cs) =>
      let k := min m n
      let part := new.take (k * esz)
      if cs.length = ver ∧ o + n * esz ≤ ver then some (.f (.int .i64 k), h.set b (.cells t e (cs.take o ++ part ++ cs.drop (o + part.length)))) else none
    | _ => none
  | some (_, _), .f .nilSl => some (.f (.int .i64 0), h)
  | some (m, _), .f (.sl _ n _) => if min m n = 0 then some (.f (.int .i64 0), h) else none
  | _, _ => none
def min2 (mx : Bool) : FV → FV → Option FV
  | .int k x, .int _ y => some (.int k (if mx then (if y > x then y else x) else (if y < x then y else x)))
  | .str x, .str y => some (.str (if mx then (if !bytesLess x y then x else y) else (if bytesLess x y || x == y then x else y)))
  | _, _ => none
def minmax (mx : Bool) : List SV → Option SV
  | .f x :: r => go x r
  | _ => none
where
  go : FV → List SV → Option SV
    | x, [] => some (.f x)
    | x, .f y :: r => match min2 mx x y with
      | some z => go z r
      | none => none
    | _, _ => none
def makeslice (h : List SObj) (zero : List FV) (ty esz bytes : Nat) (l c : SV) : Option (SV × List SObj) :=
  match l, c with
  | .f (.int .i64 l), .f (.int .i64 c) =>
    if 0 ≤ l ∧ l ≤ c ∧ c ≤ 9223372036854775807 ∧ c * bytes ≤ 140737488355328 ∧ zero.length = esz then
      some (.row h.length 0 l.toNat (l.toNat * esz) false, h ++ [.cells ty esz ((List.replicate l.toNat zero).flatten.map .f)])
    else none
  | _, _ => none
def lenOp (h : List SObj) (k : LKind) (v : SV) : Option Nat :=
  match k with
  | .str => match v with
    | .f (.str s) => some s.length
    | _ => none
  | .sl => match v with
    | .f .nilSl => some 0
    | .f (.sl _ n _) => some n
    | .row _ _ n _ _ => some n
    | _ => none
  | .map => match v with
    | .f .nilMap => some 0
    | .f (.map ks _) => some ks.length
    | .map b => match h[b]? with
      | some (.map es _) => some es.length
      | _ => none
    | _ => none
def okByte : SV → Bool
  | .f (.int .u8 v) => decide (0 ≤ v) && decide (v < 256)
  | _ => false
/-- A text of the bytes of a row: the row is written no more. -/
def unsafeStr (h : List SObj) (ty : TypeId) (p n : SV) : Option (SV × List SObj) :=
  match n with
  | .f (.int .i64 n) =>
    if n = 0 then (match p with | .f .nilPtr | .f (.ptr _) | .ptr .. => some (.f (.str []), h) | _ => none)
    else match p with
      | .ptr b 0 ver => match h[b]? with
        | some (.cells t _ cs) =>
          if cs.length = ver ∧ t = ty ∧ 0 < n ∧ n ≤ ver ∧ n ≤ 9223372036854775807 ∧ (cs.take n.toNat).all okByte then (bytesOf (cs.take n.toNat)).map fun s => (.f (.str s), h.set b .dead) else none
        | _ => none
      | _ => none
  | _ => none
def toUns (h : List SObj) : SV → Option SV
  | .f .nilPtr => some (.f .nilPtr)
  | .ptr b o ver => match hcells h b ver with
    | some _ => if o < ver then some (.ptr b o ver) else none
    | none => none
  | _ => none
def fromUns (h : List SObj) (u size : Nat) : SV → Option SV
  | .f .nilPtr => some (.f .nilPtr)
  | .ptr b o ver => match h[b]? with
    | some (.cells t _ cs) => if cs.length = ver ∧ t = u ∧ o = 0 ∧ 0 < size ∧ size ≤ ver then some (.ptr b o ver) else none
    | _ => none
  | _ => none
def eqPtr (h : List SObj) (neg : Bool) : SV → SV → Option SV
  | .ptr b o v, .ptr b' o' v' => if b = b' ∧ o = o' ∧ v = v' ∧ (hcells h b v).isSome then some (.f (.bool (true != neg))) else none
  | _, _ => none
def capOp (h : List SObj) : SV → Option SV
  | .f .nilSl => some (.f (.int .i64 0))
  | .f (.sl true n _) => some (.f (.int .i64 n))
  | .row b _ n ver true => if (hcells h b ver).isSome then some (.f (.int .i64 n)) else none
  | _ => none
def sliceData : SV → Option SV
  | .f .nilSl => some (.f .nilPtr)
  | .f (.sl _ (_ + 1) cs) => some (.f (.ptr cs))
  | .row b o (_ + 1) ver _ => some (.ptr b o ver)
  | _ => none

/-! ### outcomes that are one -/
def esBeq : List (FV × SV × Nat) → List (FV × SV × Nat) → Bool
  | [], [] => true
  | (k, v, n) :: r, (k', v', n') :: r' => FV.beq k k' && SV.beq v v' && n == n' && esBeq r r'
  | _, _ => false
def SObj.beq : SObj → SObj → Bool
  | .cells t e cs, .cells t' e' cs' => t == t' && e == e' && SV.beqs cs cs'
  | .map es c, .map es' c' => esBeq es es' && c == c'
  | .iter m a s l, .iter m' a' s' l' => SV.beq m m' && a == a' && s == s' && l == l'
  | .dead, .dead => true
  | _, _ => false
def hBeq : List SObj → List SObj → Bool
  | [], [] => true
  | a :: as, b :: bs => SObj.beq a b && hBeq as bs
  | _, _ => false
def dedup : List (SV × List SObj) → List (SV × List SObj)
  | a :: b :: r => match dedup (b :: r) with
    | c :: r' => if SV.beq a.1 c.1 && hBeq a.2 c.2 then c :: r' else a :: c :: r'
    | [] => [a]
  | l => l

/-- No loop over a function in it. -/
def noRF : DCode → Bool
  | .seq a b => noRF a && noRF b
  | .cond _ a b => noRF a && noRF b
  | .block _ a | .loop _ a | .again _ _ a => noRF a
  | .rangeFunc _ _ _ _ => false
  | _ => true
/-! ### functions -/
inductive RVar where
  | tmp (t : Nat)
  | cell (t size : Nat) (agg : Bool)
  deriving Repr, Inhabited
inductive Ext where
  | cmpstring
  | noEscape
  | clone
  | indexByte
  | countByte
  deriving Repr, Inhabited, DecidableEq
structure DFunc where
  ntmps : Nat
  results : List RVar
  body : DCode
  live : Bool
  ext : Option Ext := none
  deriving Repr, Inhabited

def resVal (s : St) : RVar → Option SV
  | .tmp t => some (s.env.getD t U)
  | .cell t size agg => ldV s.h agg size (s.env.getD t U)
def resVals (s : St) : List RVar → Option (List SV)
  | [] => some []
  | r :: rs => match resVal s r with
    | some v => match resVals s rs with
      | some l => some (v :: l)
      | none => none
    | none => none
def result (s : St) (rs : List RVar) : Option SV :=
  match resVals s rs with
  | some [v] => some v
  | some vs => some (mkTup vs)
  | none => none
def zip3 : List FV → List FV → Nat → List (FV × SV × Nat)
  | k :: ks, v :: vs, n => (k, .f v, n) :: zip3 ks vs (n + 1)
  | _, _, _ => []
def ixB (c : UInt8) : List UInt8 → Nat → Int
  | [], _ => -1
  | b :: r, i => if b == c then i else ixB c r (i + 1)
def ctB (c : UInt8) : List UInt8 → Nat
  | [] => 0
  | b :: r => if b == c then ctB c r + 1 else ctB c r
def extern (e : Ext) (args : List SV) (h : List SObj) : Option (SV × List SObj) :=
  match e, args with
  | .cmpstring, [.f (.str a), .f (.str b)] => some (.f (.int .i64 (if bytesLess a b then -1 else if a == b then 0 else 1)), h)
  | .noEscape, [x] => some (x, h)
  | .clone, [.iface t (.map b)] => match h[b]? with
    | some (.map es c) => some (.iface t (.map h.length), h ++ [.map es c])
    | _ => none
  | .indexByte, [.f (.str a), .f (.int .u8 c)] => some (.f (.int .i64 (ixB (UInt8.ofNat c.toNat) a 0)), h)
  | .countByte, [.f (.str a), .f (.int .u8 c)] => some (.f (.int .i64 (ctB (UInt8.ofNat c.toNat) a)), h)
  | _, _ => none

abbrev Run := DCode → St → Out (Ex × St)
def frzAll (h : List SObj) : List SV → Option (List FV) := frzL (frz h 100)
def the : List FV → Option FV
  | [] => none
  | v :: r => if r.all (FV.beq v) then some v else none
def endOf (d : DFunc) : Ex × St → Option (SV × St)
  | (.exit _, _) => none
  | (_, s) => match result s d.results with
    | some r => some (r, s)
    | none => none
/-- What the outcomes of a body give, frozen. -/
def ends (d : DFunc) : List (Ex × St) → Option (List FV)
  | [] => some []
  | e :: l => match endOf d e with
    | none => none
    | some (r, s) => match frz s.h 100 r with
      | none => none
      | some v => match ends d l with
        | none => none
        | some vs => some (v :: vs)
/-- A call that sees nothing but frozen values. -/
def pcallR (prog : FuncId → Option DFunc) (R : Run) (f : FuncId) (args : List FV) : Option FV :=
  match prog f with
  | none => none
  | some d => match d.ext with
    | some e => match extern e (args.map .f) [] with
      | some (.f v, _) => some v
      | _ => none
    | none =>
      match R d.body ⟨args.map .f ++ List.replicate (d.ntmps - args.length) U, []⟩ with
      | none => none
      | some l => match ends d l with
        | some rs => the rs
        | none => none
def lcallR (prog : FuncId → Option DFunc) (R : Run) (f : FuncId) (args : List SV) (h : List SObj) : Out (SV × List SObj) :=
  match prog f with
  | none => none
  | some d => match d.ext with
    | some e => (extern e args h).map fun x => [x]
    | none =>
      if d.live then
        (Out.bind (R d.body ⟨args ++ List.replicate (d.ntmps - args.length) U, h⟩) fun e =>
          match endOf d e with
          | some (r, s) => some [(r, trim h.length [r] s.h)]
          | none => none).map dedup
      else match frzAll h args with
        | none => none
        | some fargs => match pcallR prog R f fargs with
          | none => none
          | some r => if flatV r || (allF args).isSome then some [(.f r, h)] else none
def callV (prog : FuncId → Option DFunc) (R : Run) (f : SV) (args : List SV) (h : List SObj) : Out (SV × List SObj) :=
  match f with
  | .f (.func (.func g) caps) => lcallR prog R g (args ++ caps.map .f) h
  | .func (.func g) caps => lcallR prog R g (args ++ caps) h
  | .yield b => match h[b]? with
    | some (.loop env params assign bd .ready _) =>
      if args.length = params.length ∧ noRF assign = true ∧ noRF bd = true then
        Out.bind (R assign ⟨(params.zip args).foldl (fun e (p, a) => e.set p a) env, h⟩) fun (x, s) =>
          if x = .normal then
            match s.h[b]? with
            | some (.loop e p a bd' .ready j) =>
              Out.bind (R bd ⟨s.env, s.h.set b (.loop e p a bd' .busy j)⟩) fun (x, s) =>
                match s.h[b]? with
                | some (.loop e p a bd _ _) => some [(.f (.bool (x == .normal)), s.h.set b (.loop e p a bd (if x == .normal then .ready else .done) x))]
                | _ => none
            | _ => none
          else none
      else none
    | _ => none
  | _ => none

def mapOpd (env : List SV) (xs : List Opd) : List SV := xs.map (get env)
def partsOf (env : List SV) (ps : List (Nat × Nat × Opd)) : List (Nat × Nat × SV) := ps.map fun (a, b, x) => (a, b, get env x)
def outV (h : List SObj) : Option SV → Out (SV × List SObj)
  | some x => some [(x, h)]
  | none => none
def outH : Option (List SObj) → Out (SV × List SObj)
  | some h => some [(U, h)]
  | none => none
def outB : Option (SV × List SObj) → Out (SV × List SObj)
  | some x => some [x]
  | none => none
def isNilSl (neg : Bool) (h : List SObj) : SV → Out (SV × List SObj)
  | .f .nilSl => some [(.f (.bool (true != neg)), h)]
  | .f (.sl _ _ _) => some [(.f (.bool (false != neg)), h)]
  | .row _ _ (_ + 1) _ _ => some [(.f (.bool (false != neg)), h)]
  | _ => none
def unwrap (t : TypeId) : SV → Option SV
  | .f (.iface u w) => if t = u then some (.f w) else none
  | .iface u w => if t = u then some w else none
  | _ => none
/-- One operation: what it yields, and the heap behind it. -/
def evalOp (prog : FuncId → Option DFunc) (R : Run) (o : DOp) (env : List SV) (h : List SObj) : Out (SV × List SObj) :=
  match o with
  | .mov x => some [(get env x, h)]
  | .pick c a b => match get env c with
    | .f (.bool t) => some [(if t then get env a else get env b, h)]
    | _ => none
  | .box ty x => match cellsOf (get env x) with
    | some cs => some [(.ptr h.length 0 cs.length, h ++ [.cells ty 0 cs])]
    | none => none
  | .alloc ty zero => some [(.ptr h.length 0 zero.length, h ++ [.cells ty 0 (zero.map .f)])]
  | .build zero ps => outV h ((fill (zero.map .f) (partsOf env ps)).map mkAgg)
  | .mkslice n zero ps ty esz => match fill ((List.replicate n zero).flatten.map .f) (partsOf env ps) with
    | none => none
    | some cs => match allF cs with
      | some l => some [(.f (.sl true n l), h)]
      | none => some [(.row h.length 0 n cs.length true, h ++ [.cells ty esz cs])]
  | .load agg size a => outV h (ldV h agg size (get env a))
  | .store size a x => outH (stV h size (get env a) (get env x))
  | .nilchk x => outV h (if notNil (get env x) then some (get env x) else none)
  | .bin op x y => outV h (bin op (get env x) (get env y))
  | .eqB neg x y => outV h (eqB neg (get env x) (get env y))
  | .eqAgg neg ks x y => outV h (eqAgg neg ks (get env x) (get env y))
  | .isnilSl neg x => isNilSl neg h (get env x)
  | .isnil k neg x => outV h ((isNil k (get env x)).map fun r => .f (.bool (r != neg)))
  | .un op x => outV h (un op (get env x))
  | .cvInt k x => match get env x with
    | .f (.int _ n) => some [(.f (.int k (k.wrap n)), h)]
    | _ => none
  | .cvStr x => match get env x with
    | .f (.str s) => some [(.f (.str s), h)]
    | _ => none
  | .cvRune x => match get env x with
    | .f (.int _ n) => some [(.f (.str (Utf8.encode n).data.toList), h)]
    | _ => none
  | .toBytes ty x => match get env x with
    | .f (.str s) => some [(.row h.length 0 s.length s.length false, h ++ [.cells ty 1 ((byteVals s).map .f)])]
    | _ => none
  | .ofBytes x => match sliceCells h 1 (get env x) with
    | some (_, cs) => outV h ((bytesOf cs).map fun s => .f (.str s))
    | none => none
  | .mkiface t x => some [(mkIface t (get env x), h)]
  | .mkfunc fn caps => some [(mkFunc fn (mapOpd env caps), h)]
  | .mkmap => some [(.map h.length, h ++ [.map [] 0])]
  | .makeslice zero ty esz bytes l c => outB (makeslice h zero ty esz bytes (get env l) (get env c))
  | .slice k x lo hi mx => outV h (sliceOp k (get env x) (lo.map (get env)) (hi.map (get env)) (mx.map (get env)))
  | .faddr off x => outV h (faddr off (get env x))
  | .field agg off size x => outV h (fieldOp agg off size (get env x))
  | .iaddr k x i => outV h (iaddr k (get env x) (get env i))
  | .index k agg x i => outV h (index k agg (get env x) (get env i))
  | .lookup kk zero ok m k => outV h (lookup h kk zero ok (get env m) (get env k))
  | .mapset kk m k x => outH (mapset h kk (get env m) (get env k) (get env x))
  | .mapentry kk zero m k => outB (mapentry h kk zero (get env m) (get env k))
  | .entryset m s x => outH (entryset h (get env m) (get env s) (get env x))
  | .range x => outB (rangeOp h (get env x))
  | .next x => nextOp h (get env x)
  | .entry x => outV h (entryOp h (get env x))
  | .extract x i => match elems (get env x) with
    | some vs => outV h vs[i]?
    | none => none
  | .call f args => lcallR prog R f (mapOpd env args) h
  | .callv f args => callV prog R (get env f) (mapOpd env args) h
  | .len k x => outV h ((lenOp h k (get env x)).map fun (n : Nat) => SV.f (.int .i64 (n : Int)))
  | .lenArr n => some [(.f (.int .i64 n), h)]
  | .cap x => outV h (capOp h (get env x))
  | .appendz zero ty esz bytes s n => outB (appendzOp h zero ty esz bytes (get env s) (get env n))
  | .append ty esz bytes s x => outB (appendOp h ty esz bytes (get env s) (get env x))
  | .copy esz d s => outB (copyOp h esz (get env d) (get env s))
  | .minmax mx xs => outV h (minmax mx (mapOpd env xs))
  | .sliceData x => outV h (sliceData (get env x))
  | .unsafeStr ty p n => outB (unsafeStr h ty (get env p) (get env n))
  | .toUns x => outV h (toUns h (get env x))
  | .fromUns u size x => outV h (fromUns h u size (get env x))
  | .eqPtr neg x y => outV h (eqPtr h neg (get env x) (get env y))
  | .delete _ _ => none
  | .tassert t x => outV h (unwrap t (get env x))
  | .bad => none

def wanted (env : List SV) : Option (Nat × Bool) → Option Bool
  | none => some true
  | some (t, b) => match env.getD t U with
    | .f (.bool c) => some (c == b)
    | .f (.tup []) => some false
    | _ => none
def evalOper (prog : FuncId → Option DFunc) (R : Run) (o : DOper) (s : St) : Out St :=
  match wanted s.env o.guard with
  | some true => Out.bind (evalOp prog R o.op s.env s.h) fun (v, h) => some [⟨put s.env o.dst v, h⟩]
  | some false => some [⟨put s.env o.dst U, s.h⟩]
  | none => none
def evalOps (prog : FuncId → Option DFunc) (R : Run) : List DOper → St → Out St
  | [], s => some [s]
  | o :: r, s => Out.bind (evalOper prog R o s) (evalOps prog R r)

def killEnv (keep : List Nat) : Nat → List SV → List SV
  | _, [] => []
  | i, v :: r => (if keep.contains i then v else .dead) :: killEnv keep (i + 1) r
def killK (keep : Option (List Nat)) (env : List SV) : List SV :=
  match keep with
  | none => env
  | some l => killEnv l 0 env

/-! ### a region whose order is open -/
/-- It leaves the heap as it is. -/
def neutral (prog : FuncId → Option DFunc) (env : List SV) : DOp → Bool
  | .box .. | .alloc .. | .isnilSl .. | .store .. | .mkmap | .makeslice .. | .mapset .. | .mapentry .. | .entryset .. | .range _ | .next _ | .append .. | .appendz .. | .copy .. | .toBytes .. | .delete .. | .unsafeStr .. | .bad => false
  | .mkslice n zero ps _ _ => match fill ((List.replicate n zero).flatten.map .f) (partsOf env ps) with
    | some cs => (allF cs).isSome
    | none => false
  | .call f _ => match prog f with
    | some d => !d.live
    | none => false
  | .callv f _ => match get env f with
    | .f (.func (.func g) _) | .func (.func g) _ => match prog g with
      | some d => !d.live
      | none => false
    | _ => false
  | _ => true
/-- The operations in the text's order, each with one outcome: what they yield. -/
def textRun (prog : FuncId → Option DFunc) (R : Run) : List DOper → List SV → List SObj → Option (List SV)
  | [], _, _ => some []
  | o :: r, env, h => match wanted env o.guard with
    | some false => (textRun prog R r (put env o.dst U) h).map (U :: ·)
    | some true => match evalOp prog R o.op env h with
      | some [(v, h)] => (textRun prog R r (put env o.dst v) h).map (v :: ·)
      | _ => none
    | none => none
def puts (env : List SV) : List DOper → List SV → List SV
  | o :: os, v :: vs => puts (put env o.dst v) os vs
  | _, _ => env
def afterB (a : Nat) : Option Nat → Bool
  | some j => a.testBit j
  | none => true
/-- The heaps behind the operations that turn it, one behind the other; each yields what it did; each is ahead of the next. -/
def chain (prog : FuncId → Option DFunc) (R : Run) (V : List SV) : Option Nat → Nat → List DOper → List SV → List SObj → Option (List (Nat × Nat × List SObj))
  | last, i, o :: os, v :: vs, h => match wanted V o.guard with
    | none => none
    | some false => if SV.beq v U then chain prog R V last (i + 1) os vs h else none
    | some true =>
      if neutral prog V o.op then chain prog R V last (i + 1) os vs h else
      if afterB o.anc last then
        match evalOp prog R o.op V h with
        | some [(v', h')] => if SV.beq v v' then (chain prog R V (some i) (i + 1) os vs h').map ((i, o.anc, h') :: ·) else none
        | _ => none
      else none
  | _, _, [], [], _ => some []
  | _, _, _, _, _ => none
/-- Wherever operation i may come up among those that turn the heap, it yields v. -/
def stab (prog : FuncId → Option DFunc) (R : Run) (V : List SV) (o : DOper) (i : Nat) (v : SV) (done : List Nat) (h : List SObj) (rest : List (Nat × Nat × List SObj)) : Bool :=
  (if rest.all (fun e => !o.anc.testBit e.1) && done.all (fun a => !a.testBit i) then
    match evalOp prog R o.op V h with
    | some [(v', _)] => SV.beq v v'
    | _ => false
   else true) &&
  match rest with
  | [] => true
  | (_, a, h') :: r => stab prog R V o i v (a :: done) h' r
def stabs (prog : FuncId → Option DFunc) (R : Run) (V : List SV) (hs : List (Nat × Nat × List SObj)) (h : List SObj) : Nat → List DOper → List SV → Bool
  | i, o :: os, v :: vs =>
    (if (match wanted V o.guard with | some b => b | none => false) && neutral prog V o.op then stab prog R V o i v [] h hs else true) && stabs prog R V hs h (i + 1) os vs
  | _, _, _ => true
def lastHeap (h : List SObj) : List (Nat × Nat × List SObj) → List SObj
  | [] => h
  | (_, _, h') :: r => lastHeap h' r
def evalDraw (prog : FuncId → Option DFunc) (R : Run) (m : Nat) (ops : List DOper) (s : St) : Out St :=
  match textRun prog R (ops.take m) s.env s.h with
  | none => none
  | some vs =>
    let V := puts s.env (ops.take m) vs
    match chain prog R V none 0 (ops.take m) vs s.h with
    | none => none
    | some hs =>
      if stabs prog R V hs s.h 0 (ops.take m) vs then evalOps prog R (ops.drop m) ⟨V, lastHeap s.h hs⟩ else none

/-- One level of code over a given runner. -/
def stepD (prog : FuncId → Option DFunc) (R : Run) : Run
  | .skip, s => some [(.normal, s)]
  | .region ops, s => Out.bind (evalOps prog R ops s) fun s => some [(.normal, s)]
  | .draw m ops, s => Out.bind (evalDraw prog R m ops s) fun s => some [(.normal, s)]
  | .seq a b, s => Out.bind (R a s) fun (x, s) => if x = .normal then R b s else some [(x, s)]
  | .cond c a b, s => match get s.env c with
    | .f (.bool t) => R (if t then a else b) s
    | _ => none
  | .block id a, s => Out.bind (R a s) fun (x, s) => some [(if x = .exit id then .normal else x, s)]
  | .loop keep a, s => R (.again s.h.length keep a) ⟨killK keep s.env, s.h⟩
  | .again L keep a, s => Out.bind (R a s) fun (x, s) =>
    if x = .normal then let env := killK keep s.env; R (.again L keep a) ⟨env, trim L env s.h⟩ else some [(x, s)]
  | .exit id, s => some [(.exit id, s)]
  | .ret, s => some [(.ret, s)]
  | .rangeFunc f ps a b, s =>
    let l := s.h.length
    Out.bind (callV prog R (get s.env f) [.yield l] (s.h ++ [.loop s.env ps a b .ready .normal])) fun (_, h) =>
      match h[l]? with
      | some (.loop _ _ _ _ st j) => if st = .busy then none else some [(j, ⟨s.env, trim l s.env (h.set l .dead)⟩)]
      | _ => none
  | .bad, _ => none

def runD (prog : FuncId → Option DFunc) : Nat → Run :=
  Nat.rec (fun _ _ => none) fun _ R => stepD prog R

end Go.Det

/- The reading of the model's code as the deterministic code of DCore. -/
set_option linter.unusedVariables false
namespace Go.Det

def atomB : Value → Bool
  | .agg _ | .tuple _ => false
  | _ => true
def fvsOf (g : Value → Option FV) : List Value → Option (List FV)
  | [] => some []
  | v :: r => match g v with
    | some x => match fvsOf g r with
      | some l => some (x :: l)
      | none => none
    | none => none
def fvOf : Nat → Value → Option FV
  | 0, _ => none
  | n + 1, v =>
    match v with
    | .int k i => some (.int k i)
    | .bool b => some (.bool b)
    | .string s => some (.str s.data.toList)
    | .pointer none => some .nilPtr
    | .slice none 0 0 => some .nilSl
    | .map none => some .nilMap
    | .nilFunc => some .nilFunc
    | .nilIface => some .nilIface
    | .agg cs => if cs.toList.all atomB then match fvsOf (fvOf n) cs.toList with
        | some l => some (.agg l)
        | none => none
      else none
    | .tuple cs => match fvsOf (fvOf n) cs.toList with
      | some l => some (.tup l)
      | none => none
    | _ => none
def cellsF : FV → List FV
  | .agg cs => cs
  | v => [v]

structure Cx where
  p : Program
  g : Nat → Option (List FV)

def zeroOf (p : Program) (t : TypeId) : Option FV :=
  match p.info? t with
  | some i => match i.zero with
    | some z => fvOf 3 z
    | none => none
  | none => none
def zeroCells (p : Program) (t : TypeId) : Option (List FV) :=
  match zeroOf p t with
  | some (.tup _) => none
  | some z => some (cellsF z)
  | none => none
def aggB (p : Program) (t : TypeId) : Bool :=
  match p.underlying t with
  | some (.struct _) | some (.array _ _) => true
  | _ => false
def sizeB (p : Program) (t : TypeId) : Nat := p.cellsOf t
/-- The type has its rows. -/
def okT (p : Program) (t : TypeId) : Bool := (p.info? t).isSome && (p.underlying t).isSome
def opd (c : Cx) : Operand → Opd
  | .tmp n => .t n
  | .const v => match fvOf 3 v with | some v => .c v | none => .bad
  | .func f => .c (.func (.func f) [])
  | .global g => match c.g g with | some cs => .c (.ptr cs) | none => .bad
def okOpd : Opd → Bool
  | .bad => false
  | _ => true
def skind (p : Program) (t : TypeId) : Option SKind :=
  match p.underlying t with
  | some .string => some .str
  | some (.slice e) => if okT p e then some (.sl (sizeB p e)) else none
  | some (.array n e) => if okT p e then some (.arr n (sizeB p e)) else none
  | _ => none
/-- The parts of an aggregate, or the elements of a slice, have their rows. -/
def partsOk (p : Program) (t : TypeId) : Bool :=
  match p.underlying t with
  | some (.struct fs) => fs.all fun f => okT p f.type
  | some (.array _ e) | some (.slice e) => okT p e
  | _ => false
def kkind (p : Program) (t : TypeId) : Option KKind :=
  match p.underlying t with
  | some (.int _) => some .int
  | some .string => some .str
  | some .bool => some .bool
  | _ => none
def flatK (p : Program) : Nat → List Field → Option (List KKind)
  | _, [] => some []
  | i, f :: fs => if f.name != "_" && f.offset == i && okT p f.type then
      match kkind p f.type, flatK p (i + 1) fs with
      | some k, some ks => some (k :: ks)
      | _, _ => none
    else none
/-- A struct of numbers, bools and strings, each with a name, cell behind cell: of which kinds. -/
def flatS (p : Program) (t : TypeId) : Option (List KKind) :=
  match p.underlying t with
  | some (.struct fs) => if !p.stoodInHeld t && !p.eqGuardType p.depth t then flatK p 0 fs.toList else none
  | _ => none
def partOffs (p : Program) (t : TypeId) (parts : List (Nat × Operand)) (c : Cx) : Option (List (Nat × Nat × Opd)) :=
  match p.underlying t with
  | some (.struct fs) => parts.mapM fun (i, x) => match fs[i]? with
    | some f => some (f.offset, sizeB p f.type, opd c x)
    | none => none
  | some (.array _ e) => some (parts.map fun (i, x) => (i * sizeB p e, sizeB p e, opd c x))
  | some (.slice e) => some (parts.map fun (i, x) => (i * sizeB p e, sizeB p e, opd c x))
  | _ => none
/-- What len looks at. -/
def lenOp? (p : Program) (t : TypeId) (x : Opd) : DOp :=
  match p.underlying t with
  | some (.array n _) => .lenArr n
  | some (.pointer a) => match p.underlying a with
    | some (.array n _) => .lenArr n
    | _ => .bad
  | some .string => .len .str x
  | some (.slice _) => .len .sl x
  | some (.map _ _) => .len .map x
  | _ => .bad
def appOp? (p : Program) (t u : TypeId) (s x : Opd) : DOp :=
  match p.underlying t, p.underlying u with
  | some (.slice e), some (.slice _) | some (.slice e), some .string => match p.info? e, zeroCells p e with
    | some i, some z => if okT p e && decide (0 < i.bytes) && z.length == sizeB p e then .append e (sizeB p e) i.bytes s x else .bad
    | _, _ => .bad
  | some (.slice e), some (.int _) => match p.info? e, zeroCells p e with
    | some i, some z => if okT p e then .appendz z e (sizeB p e) i.bytes s x else .bad
    | _, _ => .bad
  | _, _ => .bad
def compCall (c : Cx) (cl : Call) : DOp :=
  match cl.callee with
  | .value (.func f) => .call f (cl.args.toList.map (opd c))
  | .value x => .callv (opd c x) (cl.args.toList.map (opd c))
  | .invoke _ _ => .bad
  | .builtin b =>
    match b, cl.args.toList, cl.argTypes.toList with
    | .len, [x], [t] => lenOp? c.p t (opd c x)
    | .append, [s, x], [t, u] => appOp? c.p t u (opd c s) (opd c x)
    | .min, xs, _ => .minmax false (xs.map (opd c))
    | .max, xs, _ => .minmax true (xs.map (opd c))
    | .cap, [x], [t] => match c.p.underlying t with
      | some (.slice _) => .cap (opd c x)
      | _ => .bad
    | .unsafeSliceData, [x], [_] => .sliceData (opd c x)
    | .unsafeString, [x, n], [pt, _] => match c.p.underlying pt with
      | some (.pointer e) => if c.p.cellsOf e = 1 then .unsafeStr e (opd c x) (opd c n) else .bad
      | _ => .bad
    | _, _, _ => .bad
def compEq (c : Cx) (op : BinOp) (t : TypeId) (x y : Operand) : DOp :=
  let p := c.p
  match p.underlying t with
  | some (.int _) | some .string => .bin op (opd c x) (opd c y)
  | some .bool => .eqB (op == .neq) (opd c x) (opd c y)
  | some (.struct _) => match flatS p t with
    | some ks => .eqAgg (op == .neq) ks (opd c x) (opd c y)
    | none => .bad
  | some (.pointer e) => match y with
    | .const (.pointer none) => .isnil .ptr (op == .neq) (opd c x)
    | _ => if (p.info? e).isSome then .eqPtr (op == .neq) (opd c x) (opd c y) else .bad
  | some (.map ..) => match y with
    | .const (.map none) => .isnil .map (op == .neq) (opd c x)
    | _ => .bad
  | some (.func ..) => match y with
    | .const .nilFunc => .isnil .func (op == .neq) (opd c x)
    | _ => .bad
  | some (.interface _) => match y with
    | .const .nilIface => .isnil .iface (op == .neq) (opd c x)
    | _ => .bad
  | some (.slice _) => match y with
    | .const (.slice none 0 0) => .isnilSl (op == .neq) (opd c x)
    | _ => .bad
  | _ => .bad
def compOp (c : Cx) (o : Op) : DOp :=
  let p := c.p
  match o with
  | .move x | .assign x => .mov (opd c x)
  | .pick a b d => .pick (opd c a) (opd c b) (opd c d)
  | .alloc t => match zeroCells p t with
    | some z => .alloc t z
    | none => .bad
  | .box t x => .box t (opd c x)
  | .build t parts => match zeroCells p t, partOffs p t parts.toList c with
    | some z, some ps => if aggB p t && partsOk p t then .build z ps else .bad
    | _, _ => .bad
  | .buildSlice t len parts => match p.underlying t with
    | some (.slice e) => match zeroCells p e, partOffs p t parts.toList c with
      | some z, some ps => if len * sizeB p e ≤ 2 ^ 24 && z.length == sizeB p e && okT p e then   .mkslice len z ps e (sizeB p e) else .bad
      | _, _ => .bad
    | _ => .bad
  | .load t a => if okT p t && (aggB p t || sizeB p t == 1) then .load (aggB p t) (sizeB p t) (opd c a) else .bad
  | .store t a x => if okT p t then .store (sizeB p t) (opd c a) (opd c x) else .bad
  | .nilCheck x => .nilchk (opd c x)
  | .binOp op t x y _ =>
    match op with
    | .eql | .neq => compEq c op t x y
    | _ => .bin op (opd c x) (opd c y)
  | .unOp op _ x => .un op (opd c x)
  | .convert s d x => match p.underlying s, p.underlying d with
    | some (.int _), some (.int k) => .cvInt k (opd c x)
    | some .string, some .string => .cvStr (opd c x)
    | some (.int _), some .string => .cvRune (opd c x)
    | some (.pointer t), some .unsafePointer => match p.info? t with
      | some i => if i.size ≠ 0 then .toUns (opd c x) else .bad
      | none => .bad
    | some .unsafePointer, some (.pointer u) => if (p.info? u).isSome then .fromUns u (sizeB p u) (opd c x) else .bad
    | some .string, some (.slice e) => .bad
    | some (.slice e), some .string => .bad
    | _, _ => .bad
  | .makeInterface t x => match p.underlying t with
    | none | some (.interface _) => .bad
    | some _ => .mkiface t (opd c x)
  | .makeFunc fn first caps => if first.size = 0 then .mkfunc fn (caps.toList.map (opd c)) else .bad
  | .makeMap _ r => match r with
    | none => .mkmap
    | some _ => .bad
  | .makeSlice t l k => match p.underlying t with
    | some (.slice e) => match zeroCells p e, p.info? e with
      | some z, some i => if okT p e && z.length == sizeB p e then .makeslice z e (sizeB p e) i.bytes (opd c l) (opd c k) else .bad
      | _, _ => .bad
    | _ => .bad
  | .slice t x lo hi mx => match skind p t with
    | some k => .slice k (opd c x) (lo.map (opd c)) (hi.map (opd c)) (mx.map (opd c))
    | none => .bad
  | .fieldAddr t x i => match p.underlying t with
    | some (.struct fs) => match fs[i]? with
      | some f => if sizeB p f.type = 0 || !okT p f.type then .bad else .faddr f.offset (opd c x)
      | none => .bad
    | _ => .bad
  | .field t x i => match p.underlying t with
    | some (.struct fs) => match fs[i]? with
      | some f => if okT p f.type then .field (aggB p f.type) f.offset (sizeB p f.type) (opd c x) else .bad
      | none => .bad
    | _ => .bad
  | .indexAddr t x i => match skind p t with
    | some .str | none => .bad
    | some k => .iaddr k (opd c x) (opd c i)
  | .index t x i => match p.underlying t with
    | some .string => .index .str false (opd c x) (opd c i)
    | some (.array n e) => if okT p e && (aggB p e || sizeB p e == 1) then .index (.arr n (sizeB p e)) (aggB p e) (opd c x) (opd c i) else .bad
    | _ => .bad
  | .lookup t m k ok => match p.underlying t with
    | some (.map kt e) => match kkind p kt, zeroOf p e with
      | some kk, some z => .lookup kk z ok (opd c m) (opd c k)
      | _, _ => .bad
    | _ => .bad
  | .mapUpdate t m k x | .insert t m k x => match p.underlying t with
    | some (.map kt _) => match kkind p kt with
      | some kk => .mapset kk (opd c m) (opd c k) (opd c x)
      | none => .bad
    | _ => .bad
  | .range t x => match p.underlying t with
    | some (.map _ _) => .range (opd c x)
    | _ => .bad
  | .next it s => match s with
    | true => .bad
    | false => .next (opd c it)
  | .entry it => .entry (opd c it)
  | .extract x i => .extract (opd c x) i
  | .typeAssert x _ t ok => match ok, p.underlying t with
    | true, _ | _, none | _, some (.interface _) => .bad
    | false, some _ => .tassert t (opd c x)
  | .call cl => compCall c cl
  | _ => .bad
/-- The operands of an operation. -/
def opds : DOp → List Opd
  | .mov x | .box _ x | .load _ _ x | .nilchk x | .isnil _ _ x | .isnilSl _ x | .un _ x | .cvInt _ x | .cvStr x | .cvRune x | .toBytes _ x | .ofBytes x | .mkiface _ x | .faddr _ x | .field _ _ _ x | .range x | .next x | .entry x | .extract x _ | .len _ x | .cap x | .sliceData x | .tassert _ x | .toUns x | .fromUns _ _ x => [x]
  | .pick a b d | .mapset _ a b d | .entryset a b d => [a, b, d]
  | .build _ ps | .mkslice _ _ ps _ _ => ps.map (·.2.2)
  | .store _ a b | .bin _ a b | .eqB _ a b | .eqAgg _ _ a b | .makeslice _ _ _ _ a b | .iaddr _ a b | .index _ _ a b | .lookup _ _ _ a b | .mapentry _ _ a b | .append _ _ _ a b | .appendz _ _ _ _ a b | .copy _ a b | .unsafeStr _ a b | .delete a b | .eqPtr _ a b => [a, b]
  | .mkfunc _ xs | .call _ xs | .minmax _ xs => xs
  | .callv f xs => f :: xs
  | .slice _ x lo hi mx => x :: (lo.toList ++ hi.toList ++ mx.toList)
  | .alloc _ _ | .mkmap | .lenArr _ | .bad => []
def compOpOk (c : Cx) (o : Op) : DOp :=
  let d := compOp c o
  if (opds d).all okOpd then d else .bad
def compOper (c : Cx) (ops : Array Oper) (o : Oper) (anc : Nat) : DOper :=
  match o.guard with
  | none => { dst := o.dst, op := compOpOk c o.op, anc, guard := none }
  | some (j, b) => match (ops[j]?).bind (·.dst) with
    | some t => { dst := o.dst, op := compOpOk c o.op, anc, guard := some (t, b) }
    | none => { dst := o.dst, op := .bad, anc, guard := none }
def opers (c : Cx) (ops : Array Oper) : List Oper → List Nat → List DOper
  | o :: os, a :: as => compOper c ops o a :: opers c ops os as
  | _, _ => []
/-- The slots that an operation looks at. -/
def dlooks (o : DOper) : List Nat :=
  ((opds o.op).filterMap fun | .t n => some n | _ => none) ++ (match o.guard with | some (t, _) => [t] | none => [])
/-- How many operations stand ahead of the first from which on each waits for all ahead of it. -/
def freeOf : Nat → List Nat → Nat → Nat
  | _, [], m => m
  | i, a :: as, m => freeOf (i + 1) as (if a % 2 ^ i = 2 ^ i - 1 then m else i + 1)
/-- Each edge leads back; the masks are those of the edges; behind the free part each waits for all; in the free part each slot is written once, and whoever looks at it waits for its writer. -/
def drawOk (ops : Array Oper) (ds : List DOper) (anc : List Nat) (m : Nat) : Bool :=
  let l := ops.toList.zipIdx
  decide (m ≤ ops.size) && decide (anc.length = ops.size) &&
  (l.all fun (o, i) => o.after.toList.all fun e => !Region.binds .any e || decide (e.on < i)) &&
  (l.all fun (o, i) => anc.getD i 0 == o.after.toList.foldl (fun s e => if Region.binds .any e then s ||| 2 ^ e.on ||| anc.getD e.on 0 else s) 0) &&
  (anc.zipIdx.all fun (a, i) => decide (i < m) || a % 2 ^ i == 2 ^ i - 1) &&
  (let f := (ds.take m).zipIdx
   f.all fun (o, i) => match o.dst with
    | none => true
    | some d => f.all fun (o', j) => (i == j || o'.dst != some d) && (!(dlooks o').contains d || o'.anc.testBit i))
def compCode (c : Cx) (keep : Nat → Option (List Nat)) : Code → DCode
  | .skip => .skip
  | .region id ops draw =>
    if draw then
      let anc := (Region.before ops).toList
      let ds := opers c ops ops.toList anc
      let m := freeOf 0 anc 0
      if drawOk ops ds anc m then .draw m ds else .bad
    else .region (opers c ops ops.toList (List.replicate ops.size 0))
  | .seq a b => .seq (compCode c keep a) (compCode c keep b)
  | .cond x a b => if okOpd (opd c x) then .cond (opd c x) (compCode c keep a) (compCode c keep b) else .bad
  | .block id a => .block id (compCode c keep a)
  | .loop a => .loop (keep (firstRegion a)) (compCode c keep a)
  | .rangeFunc f ps a b =>
    let a' := compCode c keep a
    let b' := compCode c keep b
    if noRF a' && noRF b' && okOpd (opd c f) then .rangeFunc (opd c f) ps.toList a' b' else .bad
  | .exit id => .exit id
  | .ret => .ret
  | _ => .bad
where
  firstRegion : Code → Nat
    | .region id _ _ => id
    | .seq a _ => firstRegion a
    | .cond _ a _ => firstRegion a
    | .block _ a => firstRegion a
    | .loop a => firstRegion a
    | _ => 0
def compRes (p : Program) : ResultVar → RVar
  | .tmp t => .tmp t
  | .cell a t => .cell a (sizeB p t) (aggB p t)
def extOf (name : String) : Option Ext :=
  if name = "internal/bytealg.abigen_runtime_cmpstring" then some .cmpstring
  else if name = "internal/abi.NoEscape" then some .noEscape
  else if name = "maps.clone" then some .clone
  else if name = "internal/bytealg.IndexByteString" then some .indexByte
  else if name = "internal/bytealg.CountString" then some .countByte
  else none
def okRes (p : Program) : ResultVar → Bool
  | .tmp _ => true
  | .cell _ t => okT p t
def compFunc (c : Cx) (live : FuncId → Bool) (keep : FuncId → Nat → Option (List Nat)) (f : FuncId) : Option DFunc :=
  match c.p.funcs[f]? with
  | none => none
  | some fn => match fn.body with
    | some b => if fn.name == "runtime.NumGoroutine" || !(fn.results.toList.all (okRes c.p)) then none else some { ntmps := fn.ntmps, results := fn.results.toList.map (compRes c.p), body := compCode c (keep f) b, live := live f }
    | none => if fn.origin == "" then match extOf fn.name with
      | some e => some { ntmps := 0, results := [], body := .bad, live := true, ext := some e }
      | none => none
      else none
end Go.Det

/- How the deterministic values and heaps stand to the model's. -/
set_option linter.unusedVariables false
namespace Go.Det

/-- Memory that nobody writes any more. -/
structure Mem where
  cell : Nat → Nat → Option Value
  obj : Nat → Option Obj
def Mem.le (M M' : Mem) : Prop := (∀ b o v, M.cell b o = some v → M'.cell b o = some v) ∧ (∀ r x, M.obj r = some x → M'.obj r = some x)
theorem Mem.le_refl (M : Mem) : M.le M := ⟨fun _ _ _ h => h, fun _ _ h => h⟩
theorem Mem.le_trans {A B C : Mem} (h : A.le B) (k : B.le C) : A.le C := ⟨fun b o v e => k.1 _ _ _ (h.1 _ _ _ e), fun r x e => k.2 _ _ (h.2 _ _ e)⟩
def Mem.has (M : Mem) (k : Nat) : Prop := (∃ o v, M.cell k o = some v) ∨ ∃ x, M.obj k = some x

inductive VR (M : Mem) : FV → Value → Prop
  | int (k n) : VR M (.int k n) (.int k n)
  | bool (b) : VR M (.bool b) (.bool b)
  | str (s : ByteArray) : VR M (.str s.data.toList) (.string s)
  | nilPtr : VR M .nilPtr (.pointer none)
  | ptr (cs : List FV) (b o : Nat) (vs : Nat → Value) (hm : ∀ i, i < cs.length → M.cell b (o + i) = some (vs i)) (hv : ∀ i c, cs[i]? = some c → VR M c (vs i)) : VR M (.ptr cs) (.pointer (some ⟨b, o, none⟩))
  | sl (x : Bool) (n : Nat) (cs : List FV) (b o cap : Nat) (vs : Nat → Value) (hm : ∀ i, i < cs.length → M.cell b (o + i) = some (vs i)) (hv : ∀ i c, cs[i]? = some c → VR M c (vs i)) (hx : x = true → cap = n) (hc : n ≤ cap) : VR M (.sl x n cs) (.slice (some ⟨b, o, none⟩) n cap)
  | nilSl : VR M .nilSl (.slice none 0 0)
  | slE (x : Bool) (a : Addr) : VR M (.sl x 0 []) (.slice (some a) 0 0)
  | map (ks vs : List FV) (r : Nat) (es : Array MapEntry) (clock : Nat) (hm : M.obj r = some (.map es clock)) (hk : ks.length = es.size) (hl : vs.length = es.size)
      (hks : ∀ i k, ks[i]? = some k → VR M k (es.getD i default).key) (hvs : ∀ i v, vs[i]? = some v → VR M v (es.getD i default).val) : VR M (.map ks vs) (.map (some r))
  | nilMap : VR M .nilMap (.map none)
  | func (fn : Fn) (cs : List FV) (arr : Array Value) (hl : arr.size = cs.length) (hv : ∀ i c, cs[i]? = some c → VR M c (arr.getD i undef)) : VR M (.func fn cs) (.func fn #[] arr)
  | nilFunc : VR M .nilFunc .nilFunc
  | iface (t v x) (h : VR M v x) : VR M (.iface t v) (.iface t x)
  | nilIface : VR M .nilIface .nilIface
  | agg (cs : List FV) (arr : Array Value) (hl : arr.size = cs.length) (ha : ∀ i, i < cs.length → (arr.getD i undef).oneCell' = true) (hv : ∀ i c, cs[i]? = some c → VR M c (arr.getD i undef)) : VR M (.agg cs) (.agg arr)
  | tup (cs : List FV) (arr : Array Value) (hl : arr.size = cs.length) (hv : ∀ i c, cs[i]? = some c → VR M c (arr.getD i undef)) : VR M (.tup cs) (.tuple arr)

theorem VR.mono {M M' : Mem} (hM : M.le M') {v : FV} {x : Value} (h : VR M v x) : VR M' v x := by
  induction h with
  | int => exact .int ..
  | bool => exact .bool _
  | str => exact .str _
  | nilPtr => exact .nilPtr
  | ptr cs b o vs hm _ ih => exact .ptr cs b o vs (fun i hi => hM.1 _ _ _ (hm i hi)) ih
  | sl x n cs b o cap vs hm _ hx hc ih => exact .sl x n cs b o cap vs (fun i hi => hM.1 _ _ _ (hm i hi)) ih hx hc
  | nilSl => exact .nilSl
  | slE x a => exact .slE x a
  | map ks vs r es c hm hk hl _ _ ih1 ih2 => exact .map ks vs r es c (hM.2 _ _ hm) hk hl ih1 ih2
  | nilMap => exact .nilMap
  | func fn cs arr hl _ ih => exact .func fn cs arr hl ih
  | nilFunc => exact .nilFunc
  | iface t v x _ ih => exact .iface t v x ih
  | nilIface => exact .nilIface
  | agg cs arr hl ha _ ih => exact .agg cs arr hl ha ih
  | tup cs arr hl _ ih => exact .tup cs arr hl ih

abbrev Place := Nat → Nat × Nat
inductive SVR (M : Mem) (φ : Place) (H : List SObj) : SV → Value → Prop
  | f (v x) (h : VR M v x) : SVR M φ H (.f v) x
  | ptr (b o ver k j) (hb : b < H.length) (hle : ∀ ty e cs, H[b]? = some (.cells ty e cs) → ver ≤ cs.length)
      (h : ∀ ty e cs, H[b]? = some (.cells ty e cs) → cs.length = ver → k = (φ b).1 ∧ j = o) : SVR M φ H (.ptr b o ver) (.pointer (some ⟨k, j, none⟩))
  | row (b o n ver x a cap) (hc : n ≤ cap) (ha : 0 < n → ∃ k j, a = some ⟨k, j, none⟩) (hb : b < H.length) (hle : ∀ ty e cs, H[b]? = some (.cells ty e cs) → ver ≤ cs.length)
      (h : ∀ ty e cs, H[b]? = some (.cells ty e cs) → cs.length = ver → (a = some ⟨(φ b).1, o, none⟩ ∨ (n = 0 ∧ o ≠ 0)) ∧ (x = true → cap = n) ∧ (x = false → o = 0 → ver ≤ cap * e ∧ cap * e ≤ (φ b).2)) : SVR M φ H (.row b o n ver x) (.slice a n cap)
  | map (b r) (hb : b < H.length) (h : ∀ es c, H[b]? = some (.map es c) → r = (φ b).1) : SVR M φ H (.map b) (.map (some r))
  | it (b k) (hb : b < H.length) (h : ∀ m a s t, H[b]? = some (.iter m a s t) → k = (φ b).1) : SVR M φ H (.it b) (.pointer (some ⟨k, 0, none⟩))
  | yield (b l) (hb : b < H.length) (h : ∀ e p a c s j, H[b]? = some (.loop e p a c s j) → l = (φ b).1) : SVR M φ H (.yield b) (.func (.yield l) #[] #[])
  | func (fn : Fn) (cs : List SV) (arr : Array Value) (hl : arr.size = cs.length) (hv : ∀ i c, cs[i]? = some c → SVR M φ H c (arr.getD i undef)) : SVR M φ H (.func fn cs) (.func fn #[] arr)
  | iface (t v x) (h : SVR M φ H v x) : SVR M φ H (.iface t v) (.iface t x)
  | agg (cs : List SV) (arr : Array Value) (hl : arr.size = cs.length) (ha : ∀ i, i < cs.length → (arr.getD i undef).oneCell' = true) (hv : ∀ i c, cs[i]? = some c → SVR M φ H c (arr.getD i undef)) : SVR M φ H (.agg cs) (.agg arr)
  | tup (cs : List SV) (arr : Array Value) (hl : arr.size = cs.length) (hv : ∀ i c, cs[i]? = some c → SVR M φ H c (arr.getD i undef)) : SVR M φ H (.tup cs) (.tuple arr)
  | dead (x) : SVR M φ H .dead x

theorem belows_get {L : Nat} : ∀ {cs : List SV}, belows L cs = true → ∀ (i : Nat) (c : SV), cs[i]? = some c → below L c = true
  | [], _, i, c, h => by simp at h
  | v :: r, hb, i, c, h => by
    simp only [belows, Bool.and_eq_true] at hb
    cases i with
    | zero => simp at h; rw [← h]; exact hb.1
    | succ i => exact belows_get hb.2 i c (by simpa using h)
theorem belows_of {L : Nat} : ∀ {cs : List SV}, (∀ (i : Nat) (c : SV), cs[i]? = some c → below L c = true) → belows L cs = true
  | [], _ => rfl
  | v :: r, h => by
    simp only [belows, Bool.and_eq_true]
    exact ⟨h 0 v rfl, belows_of fun i c hc => h (i + 1) c (by simpa using hc)⟩
theorem SVR.bel {M : Mem} {φ : Place} {H : List SObj} {v : SV} {x : Value} (h : SVR M φ H v x) : Det.below H.length v = true := by
  induction h with
  | f => simp [Det.below]
  | ptr b o ver k j hb => simpa [Det.below] using hb
  | row b o n ver x a cap hc ha hb => simpa [Det.below] using hb
  | map b r hb => simpa [Det.below] using hb
  | it b k hb => simpa [Det.below] using hb
  | yield b l hb => simpa [Det.below] using hb
  | func fn cs arr hl _ ih => simpa [Det.below] using belows_of ih
  | iface t v x _ ih => simpa [Det.below] using ih
  | agg cs arr hl ha _ ih => simpa [Det.below] using belows_of ih
  | tup cs arr hl _ ih => simpa [Det.below] using belows_of ih
  | dead => simp [Det.below]

/-- Object b is still what it was, or no longer the one that an elder value names. -/
structure Same (φ : Place) (H : List SObj) (φ' : Place) (H' : List SObj) (b : Nat) : Prop where
  cells : ∀ ty e cs', H'[b]? = some (.cells ty e cs') → ∃ cs, H[b]? = some (.cells ty e cs) ∧ cs.length ≤ cs'.length ∧ (cs.length = cs'.length → φ' b = φ b)
  map : ∀ es c, H'[b]? = some (.map es c) → (∃ es c, H[b]? = some (.map es c)) ∧ φ' b = φ b
  iter : ∀ m a s t, H'[b]? = some (.iter m a s t) → (∃ m a s t, H[b]? = some (.iter m a s t)) ∧ φ' b = φ b
  loop : ∀ e p a c s j, H'[b]? = some (.loop e p a c s j) → (∃ e p a c s j, H[b]? = some (.loop e p a c s j)) ∧ φ' b = φ b
theorem Same.refl (φ : Place) (H : List SObj) (b : Nat) : Same φ H φ H b :=
  ⟨fun ty e cs h => ⟨cs, h, Nat.le_refl _, fun _ => rfl⟩, fun es c h => ⟨⟨_, _, h⟩, rfl⟩, fun _ _ _ _ h => ⟨⟨_, _, _, _, h⟩, rfl⟩, fun _ _ _ _ _ _ h => ⟨⟨_, _, _, _, _, _, h⟩, rfl⟩⟩
theorem Same.trans {φ φ1 φ2 : Place} {H H1 H2 : List SObj} {b : Nat} (h : Same φ H φ1 H1 b) (k : Same φ1 H1 φ2 H2 b) : Same φ H φ2 H2 b where
  cells ty e cs' hc := by
    obtain ⟨c1, h1, l1, e1⟩ := k.cells ty e cs' hc
    obtain ⟨c0, h0, l0, e0⟩ := h.cells ty e c1 h1
    exact ⟨c0, h0, by omega, fun he => (e1 (by omega)).trans (e0 (by omega))⟩
  map es c hc := by
    obtain ⟨⟨_, _, h1⟩, e1⟩ := k.map es c hc
    obtain ⟨h0, e0⟩ := h.map _ _ h1
    exact ⟨h0, e1.trans e0⟩
  iter m a s t hc := by
    obtain ⟨⟨_, _, _, _, h1⟩, e1⟩ := k.iter m a s t hc
    obtain ⟨h0, e0⟩ := h.iter _ _ _ _ h1
    exact ⟨h0, e1.trans e0⟩
  loop e p a c s j hc := by
    obtain ⟨⟨_, _, _, _, _, _, h1⟩, e1⟩ := k.loop e p a c s j hc
    obtain ⟨h0, e0⟩ := h.loop _ _ _ _ _ _ h1
    exact ⟨h0, e1.trans e0⟩

theorem SVR.step {M M' : Mem} {φ φ' : Place} {H H' : List SObj} {L : Nat} (hM : M.le M') (hl : L ≤ H'.length) (hs : ∀ b, b < L → Same φ H φ' H' b)
    {v : SV} {x : Value} (h : SVR M φ H v x) (hb : Det.below L v = true) : SVR M' φ' H' v x := by
  induction h with
  | f v x h => exact .f v x (h.mono hM)
  | ptr b o ver k j _ hle h =>
    have hbL : b < L := by simpa [Det.below] using hb
    refine .ptr b o ver k j (by omega) (fun ty e cs' hc => ?_) fun ty e cs' hc he => ?_
    · obtain ⟨cs, h0, l0, _⟩ := (hs b hbL).cells ty e cs' hc
      exact Nat.le_trans (hle ty e cs h0) l0
    · obtain ⟨cs, h0, l0, e0⟩ := (hs b hbL).cells ty e cs' hc
      have := hle ty e cs h0
      rw [e0 (by omega)]; exact h ty e cs h0 (by omega)
  | row b o n ver x a cap hcap ha _ hle h =>
    have hbL : b < L := by simpa [Det.below] using hb
    refine .row b o n ver x a cap hcap ha (by omega) (fun ty e cs' hc => ?_) fun ty e cs' hc he => ?_
    · obtain ⟨cs, h0, l0, _⟩ := (hs b hbL).cells ty e cs' hc
      exact Nat.le_trans (hle ty e cs h0) l0
    · obtain ⟨cs, h0, l0, e0⟩ := (hs b hbL).cells ty e cs' hc
      have := hle ty e cs h0
      rw [e0 (by omega)]
      exact h ty e cs h0 (by omega)
  | map b r _ h =>
    have hbL : b < L := by simpa [Det.below] using hb
    refine .map b r (by omega) fun es c hc => ?_
    obtain ⟨⟨_, _, h0⟩, e0⟩ := (hs b hbL).map es c hc
    rw [e0]; exact h _ _ h0
  | it b k _ h =>
    have hbL : b < L := by simpa [Det.below] using hb
    refine .it b k (by omega) fun m a s t hc => ?_
    obtain ⟨⟨_, _, _, _, h0⟩, e0⟩ := (hs b hbL).iter m a s t hc
    rw [e0]; exact h _ _ _ _ h0
  | yield b l _ h =>
    have hbL : b < L := by simpa [Det.below] using hb
    refine .yield b l (by omega) fun e p a c s j hc => ?_
    obtain ⟨⟨_, _, _, _, _, _, h0⟩, e0⟩ := (hs b hbL).loop e p a c s j hc
    rw [e0]; exact h _ _ _ _ _ _ h0
  | func fn cs arr hl' _ ih => exact .func fn cs arr hl' fun i c hc => ih i c hc (belows_get (by simpa [Det.below] using hb) i c hc)
  | iface t v x _ ih => exact .iface t v x (ih (by simpa [Det.below] using hb))
  | agg cs arr hl' ha _ ih => exact .agg cs arr hl' ha fun i c hc => ih i c hc (belows_get (by simpa [Det.below] using hb) i c hc)
  | tup cs arr hl' _ ih => exact .tup cs arr hl' fun i c hc => ih i c hc (belows_get (by simpa [Det.below] using hb) i c hc)
  | dead x => exact .dead x

/-! ### objects and worlds -/
def exCode : Ex → Option Code
  | .normal => none
  | .exit id => some (.exit id)
  | .ret => some .ret
def lst : LState → LoopState
  | .ready => .ready | .busy => .busy | .done => .done | .exhausted => .exhausted
abbrev Keep := FuncId → Nat → Option (List Nat)
/-- What is fixed: the program, what its global tables hold, which slots a loop keeps. -/
structure Fix where
  c : Cx
  keep : Keep

def OR (X : Fix) (M : Mem) (φ : Place) (H : List SObj) (b : Nat) (w : World) : SObj → Prop
  | .cells ty _ cs => ∃ arr fr, w.heap[(φ b).1]? = some (.cells arr ty fr) ∧ arr.size = (φ b).2 ∧ cs.length ≤ arr.size ∧ (∀ i, i < arr.size → ¬ (fr.1 ≤ i ∧ i < fr.2)) ∧
      (∀ i, i < arr.size → (arr.getD i undef).oneCell' = true) ∧ (∀ i c, cs[i]? = some c → SVR M φ H c (arr.getD i undef))
  | .map es c => ∃ arr, w.heap[(φ b).1]? = some (.map arr c) ∧ arr.size = es.length ∧ (∀ i e, es[i]? = some e → VR M e.1 (arr.getD i default).key ∧ SVR M φ H e.2.1 (arr.getD i default).val ∧ (arr.getD i default).born = e.2.2)
  | .iter m since seen st => ∃ mr, w.heap[(φ b).1]? = some (.mapIter mr since seen.toArray st) ∧ SVR M φ H m (.map mr)
  | .loop env ps a bd st j => ∃ l : Loop, w.heap[(φ b).1]? = some (.loop l) ∧ l.state = lst st ∧ l.pending = exCode j ∧ l.params = ps.toArray ∧ a = compCode X.c (X.keep l.fn) l.assign ∧ bd = compCode X.c (X.keep l.fn) l.body ∧
      l.tmps.size = env.length ∧ (∀ i v, env[i]? = some v → SVR M φ H v (l.tmps.getD i undef))
  | .dead => True
def live (H : List SObj) (b : Nat) : Prop := ∃ x, H[b]? = some x ∧ x ≠ .dead

structure Rel (X : Fix) (M : Mem) (φ : Place) (H : List SObj) (w : World) : Prop where
  gl : ∀ g cs, X.c.g g = some cs → VR M (.ptr cs) (.pointer (some ⟨g, 0, none⟩))
  mc : ∀ b o v, M.cell b o = some v → v.oneCell' = true ∧ w.cell? ⟨b, o, none⟩ = some v
  mo : ∀ r x, M.obj r = some x → w.heap[r]? = some x
  ob : ∀ b x, H[b]? = some x → OR X M φ H b w x
  inj : ∀ b b', live H b → live H b' → (φ b).1 = (φ b').1 → b = b'
  sep : ∀ b, live H b → ¬ M.has (φ b).1
theorem Rel.lt {X : Fix} {M : Mem} {φ : Place} {H : List SObj} {w : World} (h : Rel X M φ H w) {b : Nat} (hb : live H b) : (φ b).1 < w.heap.size := by
  obtain ⟨x, hx, hd⟩ := hb
  have ho := h.ob b x hx
  have key : ∀ {y : Obj}, w.heap[(φ b).1]? = some y → (φ b).1 < w.heap.size := fun h => (Array.getElem?_eq_some_iff.1 h).1
  cases x with
  | dead => exact absurd rfl hd
  | cells ty e cs => obtain ⟨_, _, h, _⟩ := ho; exact key h
  | map es c => obtain ⟨_, h, _⟩ := ho; exact key h
  | iter m a s t => obtain ⟨_, h, _⟩ := ho; exact key h
  | loop e p a c s j => obtain ⟨_, h, _⟩ := ho; exact key h
theorem cell_lt {w : World} {b o : Nat} {v : Value} (h : w.cell? ⟨b, o, none⟩ = some v) : b < w.heap.size := by
  unfold World.cell? at h
  split at h
  · rename_i c e f hb; exact (Array.getElem?_eq_some_iff.1 hb).1
  · simp at h
theorem Rel.has_lt {X : Fix} {M : Mem} {φ : Place} {H : List SObj} {w : World} (h : Rel X M φ H w) {k : Nat} (hk : M.has k) : k < w.heap.size := by
  rcases hk with ⟨o, v, hc⟩ | ⟨x, hx⟩
  · exact cell_lt (h.mc _ _ _ hc).2
  · exact (Array.getElem?_eq_some_iff.1 (h.mo _ _ hx)).1

structure Trans (L : Nat) (M : Mem) (φ : Place) (H : List SObj) (w : World) (M' : Mem) (φ' : Place) (H' : List SObj) (w' : World) : Prop where
  le : M.le M'
  len : L ≤ H'.length
  ext : ∀ b, b < L → Same φ H φ' H' b
  os : w'.os = w.os
  tape : w'.tape = w.tape
  output : w'.output = w.output
  size : w.heap.size ≤ w'.heap.size
  foot : ∀ k, k < w.heap.size → (∀ b, live H b → (φ b).1 ≠ k) → w'.heap[k]? = w.heap[k]?
  newL : ∀ b, live H' b → (∃ b0, live H b0 ∧ (φ b0).1 = (φ' b).1) ∨ w.heap.size ≤ (φ' b).1
  newM : ∀ k, M'.has k → M.has k ∨ (∃ b0, live H b0 ∧ (φ b0).1 = k) ∨ w.heap.size ≤ k
theorem Trans.refl {L : Nat} {M : Mem} {φ : Place} {H : List SObj} {w : World} (hL : L ≤ H.length) : Trans L M φ H w M φ H w :=
  ⟨Mem.le_refl _, hL, fun b _ => Same.refl _ _ _, rfl, rfl, rfl, Nat.le_refl _, fun _ _ _ => rfl, fun b hb => .inl ⟨b, hb, rfl⟩, fun k h => .inl h⟩
theorem Trans.drawn {L : Nat} {M : Mem} {φ : Place} {H : List SObj} {w : World} (hL : L ≤ H.length) (n : Nat) : Trans L M φ H w M φ H { w with drawn := n } :=
  ⟨Mem.le_refl _, hL, fun b _ => Same.refl _ _ _, rfl, rfl, rfl, Nat.le_refl _, fun _ _ _ => rfl, fun b hb => .inl ⟨b, hb, rfl⟩, fun k h => .inl h⟩
theorem Trans.trans {L : Nat} {M M1 M2 : Mem} {φ φ1 φ2 : Place} {H H1 H2 : List SObj} {w w1 w2 : World}
    (h : Trans L M φ H w M1 φ1 H1 w1) (k : Trans L M1 φ1 H1 w1 M2 φ2 H2 w2) : Trans L M φ H w M2 φ2 H2 w2 where
  le := Mem.le_trans h.le k.le
  len := k.len
  ext b hb := (h.ext b hb).trans (k.ext b hb)
  os := k.os.trans h.os
  tape := k.tape.trans h.tape
  output := k.output.trans h.output
  size := Nat.le_trans h.size k.size
  foot j hj hn := by
    rw [k.foot j (Nat.lt_of_lt_of_le hj h.size) (fun b hb => ?_), h.foot j hj hn]
    rcases h.newL b hb with ⟨b0, l0, e0⟩ | hge
    · rw [← e0]; exact hn b0 l0
    · omega
  newL b hb := by
    rcases k.newL b hb with ⟨b1, l1, e1⟩ | hge
    · rw [← e1]; exact h.newL b1 l1
    · exact .inr (Nat.le_trans h.size hge)
  newM j hj := by
    rcases k.newM j hj with h1 | ⟨b1, l1, e1⟩ | hge
    · exact h.newM j h1
    · rcases h.newL b1 l1 with ⟨b0, l0, e0⟩ | hge
      · exact .inr (.inl ⟨b0, l0, e0.trans e1⟩)
      · exact .inr (.inr (e1 ▸ hge))
    · exact .inr (.inr (Nat.le_trans h.size hge))
theorem Trans.weaken {L L' : Nat} {M M' : Mem} {φ φ' : Place} {H H' : List SObj} {w w' : World} (h : Trans L M φ H w M' φ' H' w') (hL : L' ≤ L) : Trans L' M φ H w M' φ' H' w' :=
  { h with len := Nat.le_trans hL h.len, ext := fun b hb => h.ext b (Nat.lt_of_lt_of_le hb hL) }
theorem SVR.over {L : Nat} {M M' : Mem} {φ φ' : Place} {H H' : List SObj} {w w' : World} (t : Trans L M φ H w M' φ' H' w') {v : SV} {x : Value} (h : SVR M φ H v x) (hb : Det.below L v = true) : SVR M' φ' H' v x :=
  h.step t.le t.len t.ext hb
theorem below_mono {L L' : Nat} (hL : L ≤ L') : ∀ {v : SV}, Det.below L v = true → Det.below L' v = true := by
  intro v
  apply SV.rec (motive_1 := fun v => Det.below L v = true → Det.below L' v = true) (motive_2 := fun cs => belows L cs = true → belows L' cs = true)
  all_goals simp only [Det.below, belows, decide_eq_true_eq, Bool.and_eq_true]
  all_goals intros
  all_goals first | omega | assumption | trivial | skip
  all_goals first | (constructor <;> simp_all; done) | simp_all

def EnvR (M : Mem) (φ : Place) (H : List SObj) (env : List SV) (t : Array Value) : Prop :=
  t.size = env.length ∧ ∀ i v, env[i]? = some v → SVR M φ H v (t.getD i undef)
theorem EnvR.over {L : Nat} {M M' : Mem} {φ φ' : Place} {H H' : List SObj} {w w' : World} (t : Trans L M φ H w M' φ' H' w') {env : List SV} {a : Array Value} (h : EnvR M φ H env a) (hb : belows L env = true) : EnvR M' φ' H' env a :=
  ⟨h.1, fun i v hv => (h.2 i v hv).over t (belows_get hb i v hv)⟩
theorem EnvR.bel {M : Mem} {φ : Place} {H : List SObj} {env : List SV} {a : Array Value} (h : EnvR M φ H env a) : belows H.length env = true := belows_of fun i c hc => (h.2 i c hc).bel
end Go.Det

/- Steps of the model's machine, for a frame of either kind (a function's, a round's). -/
namespace Go.Det
variable {P : Program}

def fat (b : Frame) (t : Array Value) (d : List Deferred) (todo : List Item) : Frame := { b with tmps := t, defers := d, todo, mode := .run }
def evalT (t : Array Value) : Operand → Value
  | .tmp n => t.getD n undef
  | .const v => v
  | .global g => .pointer (some ⟨g, 0, none⟩)
  | .func f => .func (.func f) #[] #[]
theorem eval_fat (b : Frame) (t : Array Value) (d : List Deferred) (todo : List Item) : (fat b t d todo).eval = evalT t := by
  funext x; cases x <;> rfl
def putT (t : Array Value) (dst : Option Tmp) (v : Value) : Array Value :=
  match dst with
  | some d => t.setIfInBounds d v
  | none => t
theorem finish_fat (b : Frame) (t : Array Value) (d : List Deferred) (ops : Array Oper) (i : Nat) (rest : List Nat) (k : List Item) (v : Value) :
    (fat b t d (.inRegion ops (i :: rest) :: k)).finish v = fat b (putT t ((ops[i]?).bind (·.dst)) v) d (.inRegion ops rest :: k) := by
  cases h : (ops[i]?).bind (·.dst) <;> simp [Frame.finish, fat, putT, h]

section moves
variable {b : Frame} {t : Array Value} {d : List Deferred} {k : List Item} {cs : List Frame} {w : World}
theorem m_skip : step P (lone (fat b t d (.code .skip :: k)) cs w) = .next (lone (fat b t d k) cs w) := step_lone_go (by simp [stepG, stepG.exec, fat])
theorem m_inBlock {id : Nat} : step P (lone (fat b t d (.inBlock id :: k)) cs w) = .next (lone (fat b t d k) cs w) := step_lone_go (by simp [stepG, stepG.exec, fat])
theorem m_seq {x y : Code} : step P (lone (fat b t d (.code (.seq x y) :: k)) cs w) = .next (lone (fat b t d (.code x :: .code y :: k)) cs w) := step_lone_go (by simp [stepG, stepG.exec, fat])
theorem m_cond {c : Operand} {x y : Code} {z : Bool} (h : evalT t c = .bool z) : step P (lone (fat b t d (.code (.cond c x y) :: k)) cs w) = .next (lone (fat b t d (.code (if z then x else y) :: k)) cs w) :=
  step_lone_go (by
    have := congrFun (eval_fat b t d (.code (.cond c x y) :: k)) c
    simp only [fat] at this
    simp [stepG, stepG.exec, fat, this, h])
theorem m_block {id : Nat} {c : Code} : step P (lone (fat b t d (.code (.block id c) :: k)) cs w) = .next (lone (fat b t d (.code c :: .inBlock id :: k)) cs w) := step_lone_go (by simp [stepG, stepG.exec, fat])
theorem m_loop {c : Code} : step P (lone (fat b t d (.code (.loop c) :: k)) cs w) = .next (lone (fat b t d (.code c :: .inLoop c :: k)) cs w) := step_lone_go (by simp [stepG, stepG.exec, fat])
theorem m_inLoop {c : Code} : step P (lone (fat b t d (.inLoop c :: k)) cs w) = .next (lone (fat b t d (.code c :: .inLoop c :: k)) cs w) := step_lone_go (by simp [stepG, stepG.exec, fat])
theorem m_exit {id : Nat} {k' : List Item} (h : exitTo id k = some k') : step P (lone (fat b t d (.code (.exit id) :: k)) cs w) = .next (lone (fat b t d k') cs w) := step_lone_go (by simp [stepG, stepG.exec, fat, h])
theorem m_ret (hb : b.roundOf = none) : step P (lone (fat b t d (.code .ret :: k)) cs w) = .next (lone { fat b t d (.code .ret :: k) with mode := .returning } cs w) := step_lone_go (by simp [stepG, stepG.exec, fat, hb])
theorem m_end (hb : b.roundOf = none) : step P (lone (fat b t d []) cs w) = .next (lone { fat b t d [] with mode := .returning } cs w) := step_lone_go (by simp [stepG, stepG.exec, fat, hb])
theorem m_region {id : Nat} {ops : Array Oper} : step P (lone (fat b t d (.code (.region id ops false) :: k)) cs w) = .next (lone (fat b t d (.inRegion ops (List.range ops.size) :: k)) cs w) := step_lone_go (by simp [stepG, stepG.exec, fat])
theorem m_region_draw {id : Nat} {ops : Array Oper} : step P (lone (fat b t d (.code (.region id ops true) :: k)) cs w) =
      .next (lone (fat b t d (.inRegion ops (Region.schedule (P.follows .mixedOrders) ops (w.tape w.drawn (.order b.fn id))) :: k)) cs { w with drawn := w.drawn + 1 }) :=
  step_lone_go (by simp [stepG, stepG.exec, fat, choose, Sem.run, Question.forced, Question.cut])
theorem m_region_end {ops : Array Oper} : step P (lone (fat b t d (.inRegion ops [] :: k)) cs w) = .next (lone (fat b t d k) cs w) := step_lone_go (by simp [stepG, stepG.exec, fat])
theorem m_op_skip {ops : Array Oper} {i : Nat} {rest : List Nat} {o : Oper} (ho : ops[i]? = some o) (h : Region.wanted o (yielded ops t) = false) :
    step P (lone (fat b t d (.inRegion ops (i :: rest) :: k)) cs w) = .next (lone (fat b (putT t o.dst undef) d (.inRegion ops rest :: k)) cs w) := by
  have hf := finish_fat b t d ops i rest k undef
  rw [ho] at hf
  rw [show putT t o.dst undef = putT t ((some o).bind (·.dst)) undef from rfl, ← hf]
  exact step_lone_go (by simp [stepG, stepG.exec, fat, ho, h])
theorem m_op {ops : Array Oper} {i : Nat} {rest : List Nat} {o : Oper} (ho : ops[i]? = some o) (hw : Region.wanted o (yielded ops t) = true) (hd : ∀ c, o.op ≠ .defer c) :
    stepG P true { frame := fat b t d (.inRegion ops (i :: rest) :: k), callers := cs, status := .running, dying := none } w =
      stepG.apply P true (fat b t d (.inRegion ops (i :: rest) :: k)) cs none (execOp (evalT t) o) w := by
  have he := eval_fat b t d (.inRegion ops (i :: rest) :: k)
  simp only [fat] at he
  simp only [stepG, stepG.exec, fat, ho, Option.map_some, hw, Option.getD_some, if_true, stepG.oper, Frame.oper?, he]
  cases hr : b.roundOf with
  | none => rfl
  | some l => cases hop : o.op <;> first | rfl | exact absurd hop (hd _)
end moves

/-- How a piece of code is left, in whatever stands behind it. -/
def Arr (P : Program) (m : Machine) (b : Frame) (k : List Item) (cs : List Frame) : Ex → Array Value → List Deferred → World → Prop
  | .normal, t, d, w => Steps P m (lone (fat b t d k) cs w)
  | .exit id, t, d, w => (∀ k', exitTo id k = some k' → Steps P m (lone (fat b t d k') cs w)) ∧ (exitTo id k = none → ∃ kk, exitTo id kk = none ∧ Steps P m (lone (fat b t d (.code (.exit id) :: kk)) cs w))
  | .ret, t, d, w => ∃ kk, Steps P m (lone (fat b t d (.code .ret :: kk)) cs w)
theorem Arr.of_steps {m m1 : Machine} {b : Frame} {k : List Item} {cs : List Frame} {e : Ex} {t : Array Value} {d : List Deferred} {w : World} (h : Steps P m m1) (h' : Arr P m1 b k cs e t d w) : Arr P m b k cs e t d w := by
  cases e with
  | normal => exact h.trans h'
  | exit id => exact ⟨fun k' hk => h.trans (h'.1 k' hk), fun hn => let ⟨kk, a, s⟩ := h'.2 hn; ⟨kk, a, h.trans s⟩⟩
  | ret => obtain ⟨kk, s⟩ := h'; exact ⟨kk, h.trans s⟩
theorem Arr.pass {m : Machine} {b : Frame} {x : Item} {k : List Item} {cs : List Frame} {e : Ex} {t : Array Value} {d : List Deferred} {w : World} (hx : x.plain = true) (he : e ≠ .normal) (h : Arr P m b (x :: k) cs e t d w) : Arr P m b k cs e t d w := by
  cases e with
  | normal => exact absurd rfl he
  | exit id =>
    have hk : exitTo id (x :: k) = exitTo id k := by cases x <;> simp_all [exitTo, Item.plain]
    simpa only [Arr, hk] using h
  | ret => exact h

/-! ### operations -/
section
variable {b : Frame} {t : Array Value} {d : List Deferred} {k : List Item} {cs : List Frame} {w w' : World} {ops : Array Oper} {i : Nat} {rest : List Nat} {o : Oper}
theorem m_value {v : Value} (ho : ops[i]? = some o) (hw : Region.wanted o (yielded ops t) = true) (hd : ∀ c, o.op ≠ .defer c) (hr : (execOp (evalT t) o).run P w = .ok (.value v) w') :
    step P (lone (fat b t d (.inRegion ops (i :: rest) :: k)) cs w) = .next (lone (fat b (putT t o.dst v) d (.inRegion ops rest :: k)) cs w') := by
  have hf := finish_fat b t d ops i rest k v
  rw [ho] at hf
  rw [show putT t o.dst v = putT t ((some o).bind (·.dst)) v from rfl, ← hf]
  exact step_lone_go (by rw [m_op ho hw hd]; simp [stepG.apply, hr])
theorem m_skipv (ho : ops[i]? = some o) (hw : Region.wanted o (yielded ops t) = true) (hd : ∀ c, o.op ≠ .defer c) (hr : (execOp (evalT t) o).run P w = .ok .skip w') :
    step P (lone (fat b t d (.inRegion ops (i :: rest) :: k)) cs w) = .next (lone (fat b (putT t o.dst undef) d (.inRegion ops rest :: k)) cs w') := by
  have hf := finish_fat b t d ops i rest k undef
  rw [ho] at hf
  rw [show putT t o.dst undef = putT t ((some o).bind (·.dst)) undef from rfl, ← hf]
  exact step_lone_go (by rw [m_op ho hw hd]; simp [stepG.apply, hr])
end
/-- What an operation (or an invocation) comes to, whoever waits for it: v, in the world w'. -/
inductive Runs (P : Program) (s : Sem Next) (w : World) (v : Value) (w' : World) : Prop
  | value (h : s.run P w = .ok (.value v) w')
  | skip (h : s.run P w = .ok .skip w') (hv : v = undef)
  | enter (f : FuncId) (as : Array Value) (w1 : World) (h : s.run P w = .ok (.enter f as) w1) (hs : ∀ c cs, Steps P (lone (Frame.enter P f as .normal) (c :: cs) w1) (lone (c.finish v) cs w'))
  | round (l : Nat) (f : FuncId) (tm : Array Value) (a bd : Code) (w1 : World) (h : s.run P w = .ok (.round l f tm a bd) w1) (hs : ∀ c cs, Steps P (lone (Frame.round l f tm a bd .normal) (c :: cs) w1) (lone (c.finish v) cs w'))
theorem m_runs {b : Frame} {t : Array Value} {d : List Deferred} {k : List Item} {cs : List Frame} {w w' : World} {ops : Array Oper} {i : Nat} {rest : List Nat} {o : Oper} {v : Value}
    (ho : ops[i]? = some o) (hw : Region.wanted o (yielded ops t) = true) (hd : ∀ c, o.op ≠ .defer c) (hr : Runs P (execOp (evalT t) o) w v w') :
    Steps P (lone (fat b t d (.inRegion ops (i :: rest) :: k)) cs w) (lone (fat b (putT t o.dst v) d (.inRegion ops rest :: k)) cs w') := by
  cases hr with
  | value h => exact .one (m_value ho hw hd h)
  | skip h hv => subst hv; exact .one (m_skipv ho hw hd h)
  | enter f as w1 h hs =>
    have hf := finish_fat b t d ops i rest k v
    rw [ho] at hf
    have henter : step P (lone (fat b t d (.inRegion ops (i :: rest) :: k)) cs w) = .next (lone (Frame.enter P f as .normal) (fat b t d (.inRegion ops (i :: rest) :: k) :: cs) w1) :=
      step_lone_go (by rw [m_op ho hw hd]; simp [stepG.apply, h, fat])
    have := hs (fat b t d (.inRegion ops (i :: rest) :: k)) cs
    rw [hf] at this
    exact .head henter this
  | round l f tm a bd w1 h hs =>
    have hf := finish_fat b t d ops i rest k v
    rw [ho] at hf
    have henter : step P (lone (fat b t d (.inRegion ops (i :: rest) :: k)) cs w) = .next (lone (Frame.round l f tm a bd .normal) (fat b t d (.inRegion ops (i :: rest) :: k) :: cs) w1) :=
      step_lone_go (by rw [m_op ho hw hd]; simp [stepG.apply, h, fat])
    have := hs (fat b t d (.inRegion ops (i :: rest) :: k)) cs
    rw [hf] at this
    exact .head henter this
end Go.Det

/- Operations that leave the heap as it is: what the deterministic code yields is what the model yields. -/
set_option linter.unusedVariables false
set_option linter.unusedSimpArgs false
namespace Go.Det
variable {X : Fix} {P : Program} {M : Mem} {φ : Place} {H : List SObj} {w : World}

/-! ### frozen constants -/
theorem atomB_eq (v : Value) : atomB v = v.oneCell' := by cases v <;> rfl
theorem fvsOf_get {g : Value → Option FV} : ∀ {l : List Value} {r : List FV}, fvsOf g l = some r → r.length = l.length ∧ ∀ (i : Nat) c, r[i]? = some c → ∃ x, l[i]? = some x ∧ g x = some c
  | [], r, h => by simp [fvsOf] at h; subst h; simp
  | v :: l, r, h => by
    simp only [fvsOf] at h
    cases hg : g v with
    | none => simp [hg] at h
    | some x =>
      cases hr : fvsOf g l with
      | none => simp [hg, hr] at h
      | some l' =>
        simp [hg, hr] at h
        subst h
        obtain ⟨h1, h2⟩ := fvsOf_get hr
        refine ⟨by simp [h1], fun i c hc => ?_⟩
        cases i with
        | zero => simp at hc; subst hc; exact ⟨v, rfl, hg⟩
        | succ i => simpa using h2 i c (by simpa using hc)
theorem getD_of_toList {α : Type} {a : Array α} {i : Nat} {x d : α} (h : a.toList[i]? = some x) : a.getD i d = x := by
  simp only [Array.getElem?_toList] at h
  simp [Array.getD_eq_getD_getElem?, h]
theorem fvOf_sound : ∀ (n : Nat) (v : Value) (f : FV), fvOf n v = some f → VR M f v
  | 0, v, f, h => by simp [fvOf] at h
  | n + 1, v, f, h => by
    unfold fvOf at h
    split at h
    · injection h with h; subst h; exact .int ..
    · injection h with h; subst h; exact .bool _
    · injection h with h; subst h; exact .str _
    · injection h with h; subst h; exact .nilPtr
    · injection h with h; subst h; exact .nilSl
    · injection h with h; subst h; exact .nilMap
    · injection h with h; subst h; exact .nilFunc
    · injection h with h; subst h; exact .nilIface
    · rename_i cs
      split at h
      · rename_i hall
        split at h
        · rename_i l hl
          injection h with h; subst h
          obtain ⟨h1, h2⟩ := fvsOf_get hl
          refine .agg l cs (by simpa using h1.symm) (fun i hi => ?_) fun i c hc => ?_
          · obtain ⟨x, hx, hg⟩ := h2 i (l[i]'hi) (List.getElem?_eq_getElem hi)
            rw [getD_of_toList hx, ← atomB_eq]
            exact List.all_eq_true.1 hall x (List.mem_of_getElem? hx)
          · obtain ⟨x, hx, hg⟩ := h2 i c hc
            rw [getD_of_toList hx]
            exact fvOf_sound n x c hg
        · cases h
      · cases h
    · rename_i cs
      split at h
      · rename_i l hl
        injection h with h; subst h
        obtain ⟨h1, h2⟩ := fvsOf_get hl
        refine .tup l cs (by simpa using h1.symm) fun i c hc => ?_
        obtain ⟨x, hx, hg⟩ := h2 i c hc
        rw [getD_of_toList hx]
        exact fvOf_sound n x c hg
      · cases h
    · cases h

/-! ### operands -/
theorem opd_sound (hR : Rel X M φ H w) {env : List SV} {t : Array Value} (hE : EnvR M φ H env t) {x : Operand} (ho : okOpd (opd X.c x) = true) :
    SVR M φ H (get env (opd X.c x)) (evalT t x) := by
  cases x with
  | tmp n =>
    simp only [opd, get, evalT]
    by_cases hn : n < env.length
    · rw [List.getD_eq_getElem?_getD, List.getElem?_eq_getElem hn]
      exact hE.2 n _ (List.getElem?_eq_getElem hn)
    · rw [List.getD_eq_getElem?_getD, List.getElem?_eq_none (Nat.le_of_not_lt hn)]
      have : t.getD n undef = undef := by rw [Array.getD_eq_getD_getElem?, Array.getElem?_eq_none (by rw [hE.1]; exact Nat.le_of_not_lt hn)]; rfl
      rw [this]
      exact .f _ _ (.tup [] #[] rfl (fun i c hc => by simp at hc))
  | const v =>
    simp only [opd] at ho ⊢
    cases hv : fvOf 3 v with
    | none => simp [hv, okOpd] at ho
    | some f => simp only [get, evalT]; exact .f _ _ (fvOf_sound 3 v f hv)
  | func f =>
    simp only [opd, get, evalT]
    exact .f _ _ (.func (.func f) [] #[] rfl fun i c hc => by simp at hc)
  | global g =>
    simp only [opd] at ho ⊢
    cases hg : X.c.g g with
    | none => simp [hg, okOpd] at ho
    | some cs => simp only [get, evalT]; exact .f _ _ (hR.gl g cs hg)

/-! ### looking into values -/
theorem SVR.toF {f : FV} {x : Value} (h : SVR M φ H (.f f) x) : VR M f x := by cases h; assumption
theorem VR.int' {k : IntKind} {n : Int} {x : Value} (h : VR M (.int k n) x) : x = .int k n := by cases h; rfl
theorem VR.bool' {b : Bool} {x : Value} (h : VR M (.bool b) x) : x = .bool b := by cases h; rfl
theorem VR.str' {l : List UInt8} {x : Value} (h : VR M (.str l) x) : x = .string ⟨l.toArray⟩ := by cases h; rfl
theorem VR.mkstr (l : List UInt8) : VR M (.str l) (.string ⟨l.toArray⟩) := VR.str (⟨l.toArray⟩ : ByteArray)
theorem SVR.int' {k : IntKind} {n : Int} {x : Value} (h : SVR M φ H (.f (.int k n)) x) : x = .int k n := h.toF.int'
theorem SVR.bool' {b : Bool} {x : Value} (h : SVR M φ H (.f (.bool b)) x) : x = .bool b := h.toF.bool'
theorem SVR.str' {l : List UInt8} {x : Value} (h : SVR M φ H (.f (.str l)) x) : x = .string ⟨l.toArray⟩ := h.toF.str'
theorem SVR.mkbool (b : Bool) : SVR M φ H (.f (.bool b)) (.bool b) := .f _ _ (.bool b)
theorem SVR.mkint (k : IntKind) (n : Int) : SVR M φ H (.f (.int k n)) (.int k n) := .f _ _ (.int k n)
theorem allF_get : ∀ {cs : List SV} {l : List FV}, allF cs = some l → cs = l.map .f
  | [], l, h => by simp [allF] at h; subst h; rfl
  | .f v :: r, l, h => by
    simp only [allF] at h
    cases hr : allF r with
    | none => simp [hr] at h
    | some l' => simp [hr] at h; subst h; simp [allF_get hr]
  | .ptr .. :: _, l, h | .row .. :: _, l, h | .map _ :: _, l, h | .it _ :: _, l, h | .yield _ :: _, l, h | .func .. :: _, l, h | .iface .. :: _, l, h | .agg _ :: _, l, h | .tup _ :: _, l, h => by simp [allF] at h
theorem allF_map (l : List FV) : allF (l.map .f) = some l := by induction l with
  | nil => rfl
  | cons v r ih => simp [allF, ih]
/-- Frozen parts, each as the model has it. -/
theorem parts_f {cs : List FV} {arr : Array Value} (h : ∀ i c, (cs.map SV.f)[i]? = some c → SVR M φ H c (arr.getD i undef)) (i : Nat) (c : FV) (hc : cs[i]? = some c) : VR M c (arr.getD i undef) :=
  (h i (.f c) (by simp [hc])).toF
theorem mkAgg_sound {cs : List SV} {arr : Array Value} (hl : arr.size = cs.length) (ha : ∀ i, i < cs.length → (arr.getD i undef).oneCell' = true) (hv : ∀ i c, cs[i]? = some c → SVR M φ H c (arr.getD i undef)) :
    SVR M φ H (mkAgg cs) (.agg arr) := by
  unfold mkAgg
  cases h : allF cs with
  | none => exact .agg cs arr hl ha hv
  | some l =>
    have := allF_get h; subst this
    exact .f _ _ (.agg l arr (by simpa using hl) (fun i hi => ha i (by simpa using hi)) (parts_f hv))
theorem mkTup_sound {cs : List SV} {arr : Array Value} (hl : arr.size = cs.length) (hv : ∀ i c, cs[i]? = some c → SVR M φ H c (arr.getD i undef)) : SVR M φ H (mkTup cs) (.tuple arr) := by
  unfold mkTup
  cases h : allF cs with
  | none => exact .tup cs arr hl hv
  | some l =>
    have := allF_get h; subst this
    exact .f _ _ (.tup l arr (by simpa using hl) (parts_f hv))
theorem mkFunc_sound {fn : Fn} {cs : List SV} {arr : Array Value} (hl : arr.size = cs.length) (hv : ∀ i c, cs[i]? = some c → SVR M φ H c (arr.getD i undef)) : SVR M φ H (mkFunc fn cs) (.func fn #[] arr) := by
  unfold mkFunc
  cases h : allF cs with
  | none => exact .func fn cs arr hl hv
  | some l =>
    have := allF_get h; subst this
    exact .f _ _ (.func fn l arr (by simpa using hl) (parts_f hv))
theorem mkIface_sound {t : TypeId} {v : SV} {x : Value} (h : SVR M φ H v x) : SVR M φ H (mkIface t v) (.iface t x) := by
  cases v with
  | f v => exact .f _ _ (.iface t v x h.toF)
  | _ => exact .iface t _ _ h
/-- The parts of a tuple. -/
theorem elems_sound {v : SV} {x : Value} {l : List SV} (h : SVR M φ H v x) (he : elems v = some l) : ∃ arr, x = .tuple arr ∧ arr.size = l.length ∧ ∀ i c, l[i]? = some c → SVR M φ H c (arr.getD i undef) := by
  cases h with
  | f v x h =>
    cases h with
    | tup cs arr hl hv =>
      simp [elems] at he; subst he
      exact ⟨arr, rfl, by simpa using hl, fun i c hc => by
        simp only [List.getElem?_map, Option.map_eq_some_iff] at hc
        obtain ⟨f, hf, rfl⟩ := hc
        exact .f _ _ (hv i f hf)⟩
    | _ => simp [elems] at he
  | tup cs arr hl hv => simp [elems] at he; subst he; exact ⟨arr, rfl, hl, hv⟩
  | _ => simp [elems] at he
theorem cells_one {x : Value} (h : x.oneCell' = true) : x.cells = #[x] := by cases x <;> first | rfl | simp [Value.oneCell'] at h
/-- The cells of a value. -/
theorem cellsOf_sound {v : SV} {x : Value} {l : List SV} (h : SVR M φ H v x) (he : cellsOf v = some l) : x.cells.size = l.length ∧ (∀ i, i < l.length → (x.cells.getD i undef).oneCell' = true) ∧ ∀ i c, l[i]? = some c → SVR M φ H c (x.cells.getD i undef) := by
  have one : ∀ {v : SV} {x : Value}, SVR M φ H v x → x.cells = #[x] → x.oneCell' = true → x.cells.size = [v].length ∧ (∀ i, i < [v].length → (x.cells.getD i undef).oneCell' = true) ∧ ∀ i c, [v][i]? = some c → SVR M φ H c (x.cells.getD i undef) := by
    intro v x h hc ho
    rw [hc]
    refine ⟨rfl, fun i hi => ?_, fun i c hi => ?_⟩
    · have : i = 0 := by simpa using hi
      subst this; exact ho
    · cases i with
      | zero => simp at hi; subst hi; exact h
      | succ i => simp at hi
  cases h with
  | f v x h =>
    cases h with
    | agg cs arr hl ha hv =>
      simp [cellsOf] at he; subst he
      refine ⟨by simpa [Value.cells] using hl, fun i hi => ha i (by simpa using hi), fun i c hc => ?_⟩
      simp only [List.getElem?_map, Option.map_eq_some_iff] at hc
      obtain ⟨f, hf, rfl⟩ := hc
      exact .f _ _ (hv i f hf)
    | tup => simp [cellsOf] at he
    | int k n => simp [cellsOf] at he; subst he; exact one (.f _ _ (.int k n)) rfl rfl
    | bool b => simp [cellsOf] at he; subst he; exact one (.f _ _ (.bool b)) rfl rfl
    | str s => simp [cellsOf] at he; subst he; exact one (.f _ _ (.str s)) rfl rfl
    | nilPtr => simp [cellsOf] at he; subst he; exact one (.f _ _ .nilPtr) rfl rfl
    | ptr cs b o vs hm hv => simp [cellsOf] at he; subst he; exact one (.f _ _ (.ptr cs b o vs hm hv)) rfl rfl
    | sl x n cs b o cap vs hm hv hx hc => simp [cellsOf] at he; subst he; exact one (.f _ _ (.sl x n cs b o cap vs hm hv hx hc)) rfl rfl
    | nilSl => simp [cellsOf] at he; subst he; exact one (.f _ _ .nilSl) rfl rfl
    | slE x a => simp [cellsOf] at he; subst he; exact one (.f _ _ (.slE x a)) rfl rfl
    | map ks vs r es c hm hk hl h1 h2 => simp [cellsOf] at he; subst he; exact one (.f _ _ (.map ks vs r es c hm hk hl h1 h2)) rfl rfl
    | nilMap => simp [cellsOf] at he; subst he; exact one (.f _ _ .nilMap) rfl rfl
    | func fn cs arr hl hv => simp [cellsOf] at he; subst he; exact one (.f _ _ (.func fn cs arr hl hv)) rfl rfl
    | nilFunc => simp [cellsOf] at he; subst he; exact one (.f _ _ .nilFunc) rfl rfl
    | iface t v x h => simp [cellsOf] at he; subst he; exact one (.f _ _ (.iface t v x h)) rfl rfl
    | nilIface => simp [cellsOf] at he; subst he; exact one (.f _ _ .nilIface) rfl rfl
  | agg cs arr hl ha hv => simp [cellsOf] at he; subst he; exact ⟨hl, ha, hv⟩
  | tup => simp [cellsOf] at he
  | dead => simp [cellsOf] at he
  | func fn cs arr hl hv => simp [cellsOf] at he; subst he; exact one (.func fn cs arr hl hv) rfl rfl
  | iface t v x h => simp [cellsOf] at he; subst he; exact one (.iface t v x h) rfl rfl
  | ptr b o ver k j hb hle h => simp [cellsOf] at he; subst he; exact one (.ptr b o ver k j hb hle h) rfl rfl
  | row b o n ver x a cap hc ha hb hle h => simp [cellsOf] at he; subst he; exact one (.row b o n ver x a cap hc ha hb hle h) rfl rfl
  | map b r hb h => simp [cellsOf] at he; subst he; exact one (.map b r hb h) rfl rfl
  | it b k hb h => simp [cellsOf] at he; subst he; exact one (.it b k hb h) rfl rfl
  | yield b l hb h => simp [cellsOf] at he; subst he; exact one (.yield b l hb h) rfl rfl
end Go.Det

/- Operations on values alone. -/
set_option linter.unusedVariables false
set_option linter.unusedSimpArgs false
namespace Go.Det
variable {X : Fix} {M : Mem} {φ : Place} {H : List SObj} {w : World}

/-- What an operation comes to: one of the outcomes, in a world that fits it. -/
def OpOut (X : Fix) (M : Mem) (φ : Place) (H : List SObj) (w : World) (r : SV × List SObj) (s : Sem Next) : Prop :=
  ∃ v w' M' φ', Runs X.c.p s w v w' ∧ SVR M' φ' r.2 r.1 v ∧ Rel X M' φ' r.2 w' ∧ Trans H.length M φ H w M' φ' r.2 w'
theorem OpOut.same (hR : Rel X M φ H w) {sv : SV} {v : Value} {s : Sem Next} (hr : s.run X.c.p w = .ok (.value v) w) (hv : SVR M φ H sv v) : OpOut X M φ H w (sv, H) s :=
  ⟨v, w, M, φ, .value hr, hv, hR, Trans.refl (Nat.le_refl _)⟩
theorem run_next {P : Program} {s : Sem Value} {v : Value} {w w' : World} (h : s.run P w = .ok v w') : (do pure (Next.value (← s)) : Sem Next).run P w = .ok (.value v) w' := by simp [h]
theorem OpOut.val (hR : Rel X M φ H w) {sv : SV} {v : Value} {s : Sem Value} (hr : s.run X.c.p w = .ok v w) (hv : SVR M φ H sv v) : OpOut X M φ H w (sv, H) (do pure (Next.value (← s))) :=
  OpOut.same hR (run_next hr) hv

/-! ### numbers, strings, bools -/
theorem bytesLess_eq : ∀ a b : List UInt8, Op.bytesLess a b = bytesLess a b
  | _, [] => by simp [Op.bytesLess, bytesLess]
  | [], _ :: _ => by simp [Op.bytesLess, bytesLess]
  | a :: x, b :: y => by simp [Op.bytesLess, bytesLess, bytesLess_eq x y]
theorem toList_mk (l : List UInt8) : (⟨l.toArray⟩ : ByteArray).toList = l := by rw [ByteArray.toList_eq]
theorem append_mk (a b : List UInt8) : (⟨a.toArray⟩ : ByteArray) ++ ⟨b.toArray⟩ = ⟨(a ++ b).toArray⟩ := ByteArray.mk_append_mk a b
theorem size_mk (l : List UInt8) : (⟨l.toArray⟩ : ByteArray).size = l.length := by simp [ByteArray.size]

theorem binF_sound {op : BinOp} {a b r : FV} {x y : Value} (t : TypeId) (h : binF op a b = some r) (hx : VR M a x) (hy : VR M b y) : ∃ v, (∀ w, (binOp op t x y).run X.c.p w = .ok v w) ∧ VR M r v := by
  unfold binF at h
  split at h
  · -- numbers
    rename_i k i k' j
    rw [hx.int', hy.int']
    split at h
    · split at h
      · cases h
      · rename_i hj
        injection h with h; subst h
        (refine ⟨_, fun w => ?_, .int _ _⟩; simp [binOp, Op.shift, hj])
    · split at h
      · cases h
      · rename_i hj
        injection h with h; subst h
        (refine ⟨_, fun w => ?_, .int _ _⟩; simp [binOp, Op.shift, hj])
    · rename_i n1 n2
      split at h
      · cases h
      · rename_i hk
        have hk : k = k' := Classical.not_not.1 hk
        subst hk
        cases op
        case shl => exact absurd rfl n1
        case shr => exact absurd rfl n2
        case quo => simp only at h; split at h
                    · cases h
                    · rename_i hb; injection h with h; subst h; (refine ⟨_, fun w => ?_, .int _ _⟩; simp [binOp, Op.intDiv, hb])
        case rem => simp only at h; split at h
                    · cases h
                    · rename_i hb; injection h with h; subst h; (refine ⟨_, fun w => ?_, .int _ _⟩; simp [binOp, Op.intDiv, hb])
        all_goals
          simp only [cmpInt, Option.map_some, Option.some.injEq] at h
          subst h
          first | refine ⟨_, fun w => ?_, .int _ _⟩ | refine ⟨_, fun w => ?_, .bool _⟩
          simp [binOp, Op.intArith, Op.intBits, Op.intCmp]
  · -- strings
    rename_i l m
    rw [hx.str', hy.str']
    cases op
    case add =>
      simp only at h; split at h
      · rename_i hle
        injection h with h; subst h
        refine ⟨.string ⟨(l ++ m).toArray⟩, fun w => ?_, VR.mkstr _⟩
        have : ¬ ((((⟨l.toArray⟩ : ByteArray).size + (⟨m.toArray⟩ : ByteArray).size : Nat) : Int) > IntKind.i64.max) := by
          rw [size_mk, size_mk]; show ¬ (((l.length + m.length : Nat) : Int) > 9223372036854775807); omega
        simp only [binOp, Op.stringOp, if_neg this, append_mk, Sem.run_pure]
      · cases h
    all_goals first
      | (simp at h; done)
      | (simp only [Option.some.injEq] at h; subst h
         refine ⟨_, fun w => ?_, .bool _⟩
         simp only [binOp, Op.stringOp, toList_mk, bytesLess_eq, Sem.run_pure])
  · cases h
theorem eqGuard_scalar {op : BinOp} (t : TypeId) (xo yo : Operand) {x y : Value} (hx : ∀ arr, x ≠ .agg arr) (hx' : x ≠ .nilIface) (P : Program) (w : World) : (eqGuard op t xo yo x y).run P w = .ok () w := by
  unfold eqGuard
  cases op <;> cases x <;> first | rfl | exact absurd rfl hx' | exact absurd rfl (hx _)
theorem un_sound {op : UnOp} {a r : SV} {x : Value} (h : un op a = some r) (hx : SVR M φ H a x) : ∃ v, (∀ (P : Program) w, (Op.unary op x).run P w = .ok v w) ∧ SVR M φ H r v := by
  unfold un at h
  split at h
  · rename_i b
    rw [hx.bool']
    cases op <;> simp at h
    subst h; exact ⟨_, fun P w => rfl, .mkbool _⟩
  · rename_i k n
    rw [hx.int']
    cases op
    case neg => simp only [Option.some.injEq] at h; subst h; exact ⟨_, fun P w => rfl, .mkint ..⟩
    case xor => simp [binF] at h; subst h; exact ⟨_, fun P w => by simp [Op.unary, Op.intBits], .mkint ..⟩
    all_goals (simp at h; done)
  · cases h
/-! ### strings cut and read -/
theorem extract_mk (l : List UInt8) (a b : Nat) : (⟨l.toArray⟩ : ByteArray).extract a b = ⟨((l.take b).drop a).toArray⟩ := by
  rw [ByteArray.extract_mk, List.drop_take]
theorem getElem_mk (l : List UInt8) (i : Nat) : (⟨l.toArray⟩ : ByteArray)[i]? = l[i]? := by
  by_cases h : i < l.length
  · rw [ByteArray.getElem?_lt' _ _ (by rw [size_mk]; exact h), List.getElem?_eq_getElem h]
    simp [ByteArray.getElem_eq_getElem_data]
  · rw [ByteArray.getElem?_ge' _ _ (by rw [size_mk]; exact h), List.getElem?_eq_none (by omega)]
end Go.Det

/- Operations that look at memory. -/
set_option linter.unusedVariables false
set_option linter.unusedSimpArgs false
namespace Go.Det
variable {X : Fix} {M : Mem} {φ : Place} {H : List SObj} {w : World}

theorem add_plain (b o i : Nat) : (⟨b, o, none⟩ : Addr).add i = ⟨b, o + i, none⟩ := by
  unfold Addr.add; split <;> simp_all
theorem run_typeInfo {P : Program} {t : TypeId} {i : TypeInfo} (h : P.info? t = some i) (w : World) : (typeInfo t).run P w = .ok i w := by simp [typeInfo, h]
theorem run_underlying' {P : Program} {t : TypeId} {d : TypeDesc} (h : P.underlying t = some d) (w : World) : (underlying t).run P w = .ok d w := by simp [underlying, h]
theorem run_sizeOf' {P : Program} {t : TypeId} (h : okT P t = true) (w : World) : (sizeOf t).run P w = .ok (sizeB P t) w := by
  simp only [okT, Bool.and_eq_true, Option.isSome_iff_exists] at h
  obtain ⟨⟨i, hi⟩, _⟩ := h
  simp [sizeOf, typeInfo, hi, sizeB, Program.cellsOf]
theorem run_isAgg' {P : Program} {t : TypeId} (h : okT P t = true) (w : World) : (isAgg t).run P w = .ok (aggB P t) w := by
  simp only [okT, Bool.and_eq_true, Option.isSome_iff_exists] at h
  obtain ⟨_, d, hd⟩ := h
  unfold isAgg aggB
  rw [hd]
  simp only [Sem.run_bind, run_underlying' hd, Result.andThen_ok]
  cases d <;> rfl
/-- A live object's cells. -/
theorem live_cells (hR : Rel X M φ H w) {b ty e : Nat} {cs : List SV} (hb : H[b]? = some (.cells ty e cs)) :
    ∃ arr fr, w.heap[(φ b).1]? = some (.cells arr ty fr) ∧ arr.size = (φ b).2 ∧ cs.length ≤ arr.size ∧ (∀ i, i < arr.size → ¬ (fr.1 ≤ i ∧ i < fr.2)) ∧
      (∀ i, i < arr.size → (arr.getD i undef).oneCell' = true) ∧ (∀ i c, cs[i]? = some c → SVR M φ H c (arr.getD i undef)) := hR.ob b _ hb
theorem cell_of {w : World} {b : Nat} {arr : Array Value} {t : TypeId} {fr : Nat × Nat} (h : w.heap[b]? = some (.cells arr t fr)) (i : Nat) : w.cell? ⟨b, i, none⟩ = arr[i]? := by
  simp [World.cell?, h]
theorem getD_some {α : Type} {a : Array α} {i : Nat} {d : α} (h : i < a.size) : a[i]? = some (a.getD i d) := by
  simp [Array.getD, h]
theorem hcells_some {h : List SObj} {b ver : Nat} {cs : List SV} (hc : hcells h b ver = some cs) : ∃ ty e, h[b]? = some (.cells ty e cs) ∧ cs.length = ver := by
  unfold hcells at hc
  split at hc
  · rename_i ty e cs' hb
    split at hc
    · rename_i hl; injection hc with hc; subst hc; exact ⟨ty, e, hb, hl⟩
    · cases hc
  · cases hc
/-- Some cells behind an address. -/
def CellsAt (w : World) (M : Mem) (φ : Place) (H : List SObj) (a : Addr) (n : Nat) (cs : List SV) : Prop :=
  cs.length = n ∧ ∃ vs : Nat → Value, (∀ i, i < n → w.cell? (a.add i) = some (vs i) ∧ (vs i).oneCell' = true) ∧ ∀ i c, cs[i]? = some c → SVR M φ H c (vs i)
theorem frozen_cells (hR : Rel X M φ H w) {cs : List FV} {b o : Nat} {vs : Nat → Value} (hm : ∀ i, i < cs.length → M.cell b (o + i) = some (vs i)) (hv : ∀ i c, cs[i]? = some c → VR M c (vs i)) :
    CellsAt w M φ H ⟨b, o, none⟩ cs.length (cs.map .f) := by
  refine ⟨by simp, vs, fun i hi => ?_, fun i c hc => ?_⟩
  · obtain ⟨h1, h2⟩ := hR.mc _ _ _ (hm i hi)
    rw [add_plain]; exact ⟨h2, h1⟩
  · simp only [List.getElem?_map, Option.map_eq_some_iff] at hc
    obtain ⟨f, hf, rfl⟩ := hc
    exact .f _ _ (hv i f hf)
theorem CellsAt.part {a : Addr} {n k m : Nat} {cs : List SV} (h : CellsAt w M φ H a n cs) (ha : a.spot = none) (hk : k + m ≤ n) : CellsAt w M φ H (a.add k) m ((cs.drop k).take m) := by
  obtain ⟨hl, vs, h1, h2⟩ := h
  obtain ⟨b, o, s⟩ := a
  cases ha
  refine ⟨by simp; omega, fun i => vs (k + i), fun i hi => ?_, fun i c hc => ?_⟩
  · have := h1 (k + i) (by omega)
    rw [add_plain] at this
    rw [add_plain, add_plain, Nat.add_assoc]; exact this
  · rw [List.getElem?_take] at hc
    split at hc
    · rw [List.getElem?_drop] at hc; exact h2 _ _ hc
    · cases hc
theorem live_at (hR : Rel X M φ H w) {b ty e : Nat} {cs : List SV} (hb : H[b]? = some (.cells ty e cs)) : CellsAt w M φ H ⟨(φ b).1, 0, none⟩ cs.length cs := by
  obtain ⟨arr, fr, hw, hs, hl, hf, ha, hv⟩ := live_cells hR hb
  refine ⟨rfl, fun i => arr.getD i undef, fun i hi => ?_, hv⟩
  rw [add_plain, cell_of hw, Nat.zero_add, getD_some (d := undef) (by omega)]
  exact ⟨rfl, ha i (by omega)⟩
theorem ldCells_sound (hR : Rel X M φ H w) {size : Nat} {p : SV} {x : Value} {cs : List SV} (h : ldCells H size p = some cs) (hx : SVR M φ H p x) :
    ∃ a, x = .pointer (some a) ∧ a.spot = none ∧ CellsAt w M φ H a size cs := by
  unfold ldCells at h
  split at h
  · rename_i fs
    split at h
    · rename_i hle
      injection h with h; subst h
      cases hx.toF with
      | ptr _ b o vs hm hv =>
        refine ⟨_, rfl, rfl, ?_⟩
        have := (frozen_cells (X := X) (φ := φ) (H := H) hR hm hv).part (k := 0) (m := size) rfl (by omega)
        simpa [Addr.add] using this
    · cases h
  · rename_i b o ver
    split at h
    · rename_i cs' hc
      obtain ⟨ty, e, hb, hl⟩ := hcells_some hc
      split at h
      · rename_i hle
        injection h with h; subst h
        cases hx with
        | ptr _ _ _ _ _ _ _ hx =>
          obtain ⟨hk, hj⟩ := hx ty e cs' hb hl
          rw [hk, hj]
          refine ⟨_, rfl, rfl, ?_⟩
          have := (live_at hR hb).part (k := o) (m := size) rfl (by omega)
          simpa [add_plain] using this
      · cases h
    · cases h
  · cases h
theorem CellsAt.load {P : Program} {a : Addr} {n : Nat} {cs : List SV} (h : CellsAt w M φ H a n cs) : ∃ arr : Array Value, (loadCells a n).run P w = .ok arr w ∧ arr.size = n ∧ (∀ i, i < n → (arr.getD i undef).oneCell' = true) ∧ ∀ i c, cs[i]? = some c → SVR M φ H c (arr.getD i undef) := by
  obtain ⟨hl, vs, h1, h2⟩ := h
  have hg : ∀ i, i < n → (((List.range n).map vs).toArray).getD i undef = vs i := by intro i hi; simp [Array.getD, hi]
  refine ⟨_, run_loadCells w a n vs (fun j hj => (h1 j hj).1), by simp, fun i hi => ?_, fun i c hc => ?_⟩
  · rw [hg i hi]; exact (h1 i hi).2
  · have hi : i < n := by have := (List.getElem?_eq_some_iff.1 hc).1; omega
    rw [hg i hi]; exact h2 i c hc
theorem load_ld {agg : Bool} {size : Nat} {p v : SV} (h : ldV H agg size p = some v) : ∃ cs, ldCells H size p = some cs ∧ ofCells agg cs = some v := by
  unfold ldV at h
  split at h
  · rename_i fs
    split at h
    · rename_i ha
      split at h
      · rename_i hle
        injection h with h; subst h
        refine ⟨(fs.take size).map .f, by simp only [ldCells, if_pos hle], ?_⟩
        simp only [ofCells, ha, if_true, mkAgg, allF_map]
      · cases h
    · rename_i ha
      split at h
      · rename_i v r
        split at h
        · rename_i hs
          injection h with h; subst h; subst hs
          refine ⟨[.f v], by simp [ldCells], ?_⟩
          simp [ofCells, ha]
        · cases h
      · cases h
  · split at h
    · rename_i cs hc
      exact ⟨cs, hc, h⟩
    · cases h
theorem run_load_plain {P : Program} {a : Addr} {v : Value} (h : w.cell? a = some v) : (Go.load a : Sem Value).run P w = .ok v w := by simp [Go.load, Sem.run, h]
theorem loadVar_sound (hR : Rel X M φ H w) {t : TypeId} {a : Addr} {cs : List SV} {v : SV} (ht : okT X.c.p t = true) (hc : CellsAt w M φ H a (sizeB X.c.p t) cs) (hv : ofCells (aggB X.c.p t) cs = some v) (hs : a.spot = none) :
    ∃ y, (loadVar t a).run X.c.p w = .ok y w ∧ SVR M φ H v y := by
  unfold ofCells at hv
  cases ha : aggB X.c.p t with
  | true =>
    simp only [ha, if_true, Option.some.injEq] at hv; subst hv
    obtain ⟨arr, hr, hl, h1, h2⟩ := hc.load (P := X.c.p)
    have hlen := hc.1
    refine ⟨.agg arr, by simp [loadVar, run_isAgg' ht, ha, run_sizeOf' ht, hr], mkAgg_sound (by omega) (fun i hi => h1 i (by omega)) h2⟩
  | false =>
    simp only [ha, Bool.false_eq_true, if_false] at hv
    split at hv
    · rename_i v'
      injection hv with hv; subst hv
      obtain ⟨hl, vs, h1, h2⟩ := hc
      have h0 := h1 0 (by rw [← hl]; simp)
      obtain ⟨b, o, s⟩ := a
      cases hs
      rw [add_plain, Nat.add_zero] at h0
      exact ⟨vs 0, by simp [loadVar, run_isAgg' ht, ha, h0.1], h2 0 _ rfl⟩
    · cases hv
theorem load_sound (hR : Rel X M φ H w) {t : TypeId} {p v : SV} {x : Value} (ht : okT X.c.p t = true) (h : ldV H (aggB X.c.p t) (sizeB X.c.p t) p = some v) (hx : SVR M φ H p x) :
    ∃ y, (Instr.loadAt t x).run X.c.p w = .ok y w ∧ SVR M φ H v y := by
  obtain ⟨cs, hc, hv⟩ := load_ld h
  obtain ⟨a, rfl, hs, hca⟩ := ldCells_sound hR hc hx
  obtain ⟨y, hy, hs⟩ := loadVar_sound hR ht hca hv hs
  exact ⟨y, by simp [Instr.loadAt, Instr.sureAddr, hy], hs⟩

/-! ### addresses -/
theorem SVR.ptr_add {b o ver : Nat} {x : Value} (k : Nat) (h : SVR M φ H (.ptr b o ver) x) : ∃ g j, x = .pointer (some ⟨g, j, none⟩) ∧ SVR M φ H (.ptr b (o + k) ver) (.pointer (some ⟨g, j + k, none⟩)) := by
  cases h with
  | ptr _ _ _ g j hb hle h => exact ⟨g, j, rfl, .ptr b (o + k) ver g (j + k) hb hle fun ty e cs hc hl => ⟨(h ty e cs hc hl).1, by rw [(h ty e cs hc hl).2]⟩⟩
theorem ptr_drop {cs : List FV} {x : Value} (k : Nat) (h : VR M (.ptr cs) x) : ∃ b o, x = .pointer (some ⟨b, o, none⟩) ∧ VR M (.ptr (cs.drop k)) (.pointer (some ⟨b, o + k, none⟩)) := by
  cases h with
  | ptr _ b o vs hm hv =>
    refine ⟨b, o, rfl, .ptr _ b (o + k) (fun i => vs (k + i)) (fun i hi => ?_) fun i c hc => ?_⟩
    · rw [Nat.add_assoc]; exact hm (k + i) (by simp at hi; omega)
    · exact hv _ _ (by simpa using hc)
end Go.Det

/- Addresses, parts, slices, lengths, conversions, nil. -/
set_option linter.unusedVariables false
set_option linter.unusedSimpArgs false
namespace Go.Det
variable {X : Fix} {M : Mem} {φ : Place} {H : List SObj} {w : World}

theorem fieldAt_run {P : Program} {s : TypeId} {fs : Array Field} {i : Nat} {f : Field} {a : Addr} (hs : P.underlying s = some (.struct fs)) (hf : fs[i]? = some f) (h0 : sizeB P f.type ≠ 0) (hk : okT P f.type = true) (w : World) :
    (Instr.fieldAt s (.pointer (some a)) i).run P w = .ok (.pointer (some (a.add f.offset))) w := by
  simp [Instr.fieldAt, run_underlying' hs, hf, Instr.sureAddr, fieldPlace, run_sizeOf' hk, h0]
theorem faddr_sound {s : TypeId} {fs : Array Field} {i : Nat} {f : Field} {p v : SV} {x : Value} (hs : X.c.p.underlying s = some (.struct fs)) (hf : fs[i]? = some f) (h0 : sizeB X.c.p f.type ≠ 0) (hk : okT X.c.p f.type = true)
    (h : faddr f.offset p = some v) (hx : SVR M φ H p x) : ∃ y, (Instr.fieldAt s x i).run X.c.p w = .ok y w ∧ SVR M φ H v y := by
  unfold faddr at h
  split at h
  · injection h with h; subst h
    obtain ⟨b, o, rfl, hv⟩ := ptr_drop f.offset hx.toF
    exact ⟨_, fieldAt_run hs hf h0 hk w, by rw [add_plain]; exact .f _ _ hv⟩
  · injection h with h; subst h
    obtain ⟨g, j, rfl, hv⟩ := SVR.ptr_add f.offset hx
    exact ⟨_, fieldAt_run hs hf h0 hk w, by rw [add_plain]; exact hv⟩
  · cases h
theorem skind_sl {P : Program} {t : TypeId} {e : Nat} (h : skind P t = some (.sl e)) : ∃ u, P.underlying t = some (.slice u) ∧ okT P u = true ∧ e = sizeB P u := by
  unfold skind at h
  split at h
  · cases h
  · rename_i u hu
    split at h
    · rename_i hk; injection h with h; injection h with h; exact ⟨u, hu, hk, h.symm⟩
    · cases h
  · split at h
    · injection h with h; cases h
    · cases h
  · cases h
theorem skind_arr {P : Program} {t : TypeId} {n e : Nat} (h : skind P t = some (.arr n e)) : ∃ u, P.underlying t = some (.array n u) ∧ okT P u = true ∧ e = sizeB P u := by
  unfold skind at h
  split at h
  · cases h
  · split at h
    · injection h with h; cases h
    · cases h
  · rename_i m u hu
    split at h
    · rename_i hk; injection h with h; injection h with h1 h2; subst h1; exact ⟨u, hu, hk, h2.symm⟩
    · cases h
  · cases h
theorem skind_str {P : Program} {t : TypeId} (h : skind P t = some .str) : P.underlying t = some .string := by
  unfold skind at h
  split at h
  · assumption
  · split at h
    · injection h with h; cases h
    · cases h
  · split at h
    · injection h with h; cases h
    · cases h
  · cases h
theorem iaddr_sound {t : TypeId} {k : SKind} {p i v : SV} {x y : Value} (hk : skind X.c.p t = some k) (h : iaddr k p i = some v) (hx : SVR M φ H p x) (hi : SVR M φ H i y) :
    ∃ z, (Instr.indexAt t x y).run X.c.p w = .ok z w ∧ SVR M φ H v z := by
  unfold iaddr at h
  split at h
  · rename_i kk n
    rw [hi.int']
    split at h
    · -- a frozen slice
      rename_i e x' m cs
      obtain ⟨u, hu, ho, rfl⟩ := skind_sl hk
      split at h
      · rename_i hn
        injection h with h; subst h
        cases hx.toF with
        | sl _ _ _ b o cap vs hm hv hxx _ =>
          refine ⟨.pointer (some ⟨b, o + n.toNat * sizeB X.c.p u, none⟩), by simp [Instr.indexAt, run_underlying' hu, asIntOf, hn, run_sizeOf' ho, add_plain], ?_⟩
          obtain ⟨b', o', he, hv'⟩ := ptr_drop (M := M) (n.toNat * sizeB X.c.p u) (.ptr cs b o vs hm hv)
          cases he
          exact .f _ _ hv'
        | slE _ a => exfalso; omega
      · cases h
    · -- a live one
      rename_i e b o m ver x'
      obtain ⟨u, hu, ho, rfl⟩ := skind_sl hk
      split at h
      · rename_i hn
        injection h with h; subst h
        cases hx with
        | row _ _ _ _ _ a cap _ ha hb hle hx =>
          obtain ⟨g, j, rfl⟩ := ha (by omega)
          refine ⟨.pointer (some ⟨g, j + n.toNat * sizeB X.c.p u, none⟩), by simp [Instr.indexAt, run_underlying' hu, asIntOf, hn, run_sizeOf' ho, add_plain], ?_⟩
          refine .ptr b _ ver g _ hb hle fun ty e cs hc hl => ?_
          rcases (hx ty e cs hc hl).1 with h | h
          · injection h with h; injection h with h1 h2; subst h1; subst h2; exact ⟨rfl, rfl⟩
          · omega
      · cases h
    · rename_i m e b o ver
      obtain ⟨u, hu, ho, rfl⟩ := skind_arr hk
      split at h
      · rename_i hn
        injection h with h; subst h
        obtain ⟨g, j, rfl, hv⟩ := SVR.ptr_add (n.toNat * sizeB X.c.p u) hx
        exact ⟨_, by simp [Instr.indexAt, run_underlying' hu, asIntOf, hn, run_sizeOf' ho, add_plain, Instr.sureAddr], hv⟩
      · cases h
    · rename_i m e cs
      obtain ⟨u, hu, ho, rfl⟩ := skind_arr hk
      split at h
      · rename_i hn
        injection h with h; subst h
        obtain ⟨b, o, rfl, hv⟩ := ptr_drop (n.toNat * sizeB X.c.p u) hx.toF
        exact ⟨_, by simp [Instr.indexAt, run_underlying' hu, asIntOf, hn, run_sizeOf' ho, add_plain, Instr.sureAddr], .f _ _ hv⟩
      · cases h
    · cases h
  · cases h
/-- The cells of an aggregate. -/
theorem agg_cells {v : SV} {x : Value} {l : List SV} (h : SVR M φ H v x) (hl : (∃ cs, v = .f (.agg cs) ∧ l = cs.map .f) ∨ v = .agg l) :
    ∃ arr, x = .agg arr ∧ arr.size = l.length ∧ (∀ i, i < l.length → (arr.getD i undef).oneCell' = true) ∧ ∀ i c, l[i]? = some c → SVR M φ H c (arr.getD i undef) := by
  rcases hl with ⟨cs, rfl, rfl⟩ | rfl
  · cases h.toF with
    | agg _ arr hl ha hv =>
      refine ⟨arr, rfl, by simpa using hl, fun i hi => ha i (by simpa using hi), fun i c hc => ?_⟩
      simp only [List.getElem?_map, Option.map_eq_some_iff] at hc
      obtain ⟨f, hf, rfl⟩ := hc
      exact .f _ _ (hv i f hf)
  · cases h with
    | agg _ arr hl ha hv => exact ⟨arr, rfl, hl, ha, hv⟩
theorem getD_extract {α : Type} {a : Array α} {i j k : Nat} {d : α} (h : i + k < j) : (a.extract i j).getD k d = a.getD (i + k) d := by
  rw [Array.getD_eq_getD_getElem?, Array.getD_eq_getD_getElem?, Array.getElem?_extract]
  split
  · rfl
  · rename_i hn
    rw [Array.getElem?_eq_none (by omega)]
theorem part_sound {t : TypeId} {arr : Array Value} {l : List SV} {off : Nat} {v : SV} (ht : okT X.c.p t = true) (hl : arr.size = l.length) (ha : ∀ i, i < l.length → (arr.getD i undef).oneCell' = true) (hv : ∀ i c, l[i]? = some c → SVR M φ H c (arr.getD i undef))
    (h : (aggB X.c.p t = true ∧ v = mkAgg ((l.drop off).take (sizeB X.c.p t))) ∨ (aggB X.c.p t = false ∧ l[off]? = some v)) :
    ∃ y, (part t arr off).run X.c.p w = .ok y w ∧ SVR M φ H v y := by
  rcases h with ⟨ha', rfl⟩ | ⟨ha', hg⟩
  · refine ⟨.agg (arr.extract off (off + sizeB X.c.p t)), by simp only [part, Sem.run_bind, run_isAgg' ht, Result.andThen_ok, ha', if_true, run_sizeOf' ht, Sem.run_pure], mkAgg_sound (by rw [Array.size_extract, List.length_take, List.length_drop]; omega) (fun i hi => ?_) fun i c hc => ?_⟩
    · rw [List.length_take, List.length_drop] at hi
      rw [getD_extract (by omega)]; exact ha _ (by omega)
    · rw [List.getElem?_take] at hc
      split at hc
      · rename_i hi
        rw [List.getElem?_drop] at hc
        rw [getD_extract (by omega)]; exact hv _ _ hc
      · cases hc
  · have hi : off < l.length := (List.getElem?_eq_some_iff.1 hg).1
    exact ⟨arr.getD off undef, by simp only [part, Sem.run_bind, run_isAgg' ht, Result.andThen_ok, ha', Bool.false_eq_true, if_false, getD_some (d := undef) (show off < arr.size by omega), Sem.run_pure], hv _ _ hg⟩
theorem field_sound {s : TypeId} {fs : Array Field} {i : Nat} {f : Field} {p v : SV} {x : Value} (hs : X.c.p.underlying s = some (.struct fs)) (hf : fs[i]? = some f) (hk : okT X.c.p f.type = true)
    (h : fieldOp (aggB X.c.p f.type) f.offset (sizeB X.c.p f.type) p = some v) (hx : SVR M φ H p x) : ∃ y, (Instr.field s x i).run X.c.p w = .ok y w ∧ SVR M φ H v y := by
  have key : ∀ l : List SV, ((∃ cs, p = .f (.agg cs) ∧ l = cs.map .f) ∨ p = .agg l) → ((aggB X.c.p f.type = true ∧ v = mkAgg ((l.drop f.offset).take (sizeB X.c.p f.type))) ∨ (aggB X.c.p f.type = false ∧ l[f.offset]? = some v)) →
      ∃ y, (Instr.field s x i).run X.c.p w = .ok y w ∧ SVR M φ H v y := by
    intro l hl hp
    obtain ⟨arr, rfl, h1, h2, h3⟩ := agg_cells hx hl
    obtain ⟨y, hy, hv⟩ := part_sound (X := X) (w := w) hk h1 h2 h3 hp
    exact ⟨y, by simp [Instr.field, run_underlying' hs, hf, asAgg, hy], hv⟩
  unfold fieldOp at h
  split at h
  · rename_i cs
    refine key _ (.inl ⟨cs, rfl, rfl⟩) ?_
    split at h
    · rename_i ha
      injection h with h; subst h
      exact .inl ⟨ha, by rw [← List.map_drop, ← List.map_take, mkAgg, allF_map]⟩
    · rename_i ha
      split at h
      · rename_i c hc
        injection h with h; subst h
        exact .inr ⟨by simpa using ha, by simp [hc]⟩
      · cases h
  · rename_i cs
    refine key cs (.inr rfl) ?_
    split at h
    · rename_i ha; injection h with h; exact .inl ⟨ha, h.symm⟩
    · rename_i ha; exact .inr ⟨by simpa using ha, h⟩
  · cases h
theorem ofCells_part {agg : Bool} {e off : Nat} {l : List SV} {v : SV} (he : agg = false → e = 1) (h : ofCells agg ((l.drop off).take e) = some v) :
    (agg = true ∧ v = mkAgg ((l.drop off).take e)) ∨ (agg = false ∧ l[off]? = some v) := by
  unfold ofCells at h
  split at h
  · rename_i ha; injection h with h; exact .inl ⟨ha, h.symm⟩
  · rename_i ha
    have ha : agg = false := by simpa using ha
    have he := he ha; subst he
    refine .inr ⟨ha, ?_⟩
    split at h
    · rename_i c hc
      injection h with h; subst h
      have : ((l.drop off).take 1)[0]? = some c := by rw [hc]; rfl
      simpa [List.getElem?_take, List.getElem?_drop] using this
    · cases h
theorem index_str_sound {t : TypeId} {p i v : SV} {x y : Value} (ht : X.c.p.underlying t = some .string) (h : index .str false p i = some v) (hx : SVR M φ H p x) (hi : SVR M φ H i y) :
    ∃ z, (Instr.index t x y).run X.c.p w = .ok z w ∧ SVR M φ H v z := by
  unfold index at h
  split at h
  · rename_i k n
    rw [hi.int']
    simp only at h
    split at h
    · rename_i s
      rw [hx.str']
      split at h
      · rename_i hn
        split at h
        · rename_i b hb
          injection h with h; subst h
          exact ⟨_, by simp [Instr.index, asIntOf, run_underlying' ht, hn, getElem_mk, hb], .mkint ..⟩
        · cases h
      · cases h
    · cases h
  · cases h
theorem index_arr_sound {t u : TypeId} {n : Nat} {p i v : SV} {x y : Value} (ht : X.c.p.underlying t = some (.array n u)) (hk : okT X.c.p u = true) (h1 : aggB X.c.p u = false → sizeB X.c.p u = 1)
    (h : index (.arr n (sizeB X.c.p u)) (aggB X.c.p u) p i = some v) (hx : SVR M φ H p x) (hi : SVR M φ H i y) :
    ∃ z, (Instr.index t x y).run X.c.p w = .ok z w ∧ SVR M φ H v z := by
  unfold index at h
  split at h
  · rename_i k m
    rw [hi.int']
    simp only at h
    split at h
    · rename_i hn
      have key : ∀ l : List SV, ((∃ cs, p = .f (.agg cs) ∧ l = cs.map .f) ∨ p = .agg l) → ofCells (aggB X.c.p u) ((l.drop (m.toNat * sizeB X.c.p u)).take (sizeB X.c.p u)) = some v → ∃ z, (Instr.index t x (.int k m)).run X.c.p w = .ok z w ∧ SVR M φ H v z := by
        intro l hl hp
        obtain ⟨arr, rfl, g1, g2, g3⟩ := agg_cells hx hl
        obtain ⟨z, hz, hv⟩ := part_sound (X := X) (w := w) hk g1 g2 g3 (ofCells_part h1 hp)
        exact ⟨z, by simp [Instr.index, asIntOf, run_underlying' ht, hn, run_sizeOf' hk, hz], hv⟩
      split at h
      · rename_i cs; exact key _ (.inl ⟨cs, rfl, rfl⟩) (by rw [← List.map_drop, ← List.map_take]; exact h)
      · rename_i cs; exact key cs (.inr rfl) h
      · cases h
    · cases h
  · cases h

/-! ### slices of slices and strings -/
inductive OptR (M : Mem) (φ : Place) (H : List SObj) : Option SV → Option Value → Prop
  | none : OptR M φ H none none
  | some (v x) (h : SVR M φ H v x) : OptR M φ H (some v) (some x)
theorem bound_sound {d hi n : Nat} {o : Option SV} {x : Option Value} (h : bound d hi o = some n) (hx : OptR M φ H o x) :
    (x = none ∧ n = d) ∨ ∃ k i, x = some (.int k i) ∧ 0 ≤ i ∧ i ≤ hi ∧ n = i.toNat := by
  cases hx with
  | none => simp [bound] at h; exact .inl ⟨rfl, h.symm⟩
  | some v x hx =>
    unfold bound at h
    split at h
    · rename_i heq; cases heq
    · rename_i k i heq
      injection heq with heq; subst heq
      split at h
      · rename_i hi'
        injection h with h
        exact .inr ⟨k, i, by rw [hx.int'], hi'.1, hi'.2, h.symm⟩
      · cases h
    · cases h
theorem bound_le {hi n : Nat} {o : Option SV} (h : bound hi hi o = some n) : n ≤ hi := by
  unfold bound at h
  split at h
  · injection h with h; omega
  · split at h
    · injection h with h; omega
    · cases h
  · cases h
theorem run_sliceBound {P : Program} {k : IntKind} {i : Int} {y : Nat} (code : BoundsCode) (h0 : 0 ≤ i) (h1 : i ≤ y) (w : World) : (Instr.sliceBound (.int k i) y code).run P w = .ok i.toNat w := by
  simp [Instr.sliceBound, asIntOf, h0, h1]
/-- The bounds of a slice expression, as the model reckons them: c, the capacity, may be more than what is known of it. -/
theorem sliceBounds_sound {P : Program} {isSlice : Bool} {n c l h m : Nat} {lo hi mx : Option SV} {xlo xhi xmx : Option Value} (hc : n ≤ c)
    (hm : bound n n mx = some m) (hh : bound n (if mx.isSome then m else n) hi = some h) (hl : bound 0 h lo = some l) (hmh : (mx.isSome && hi.isNone) = false)
    (rl : OptR M φ H lo xlo) (rh : OptR M φ H hi xhi) (rm : OptR M φ H mx xmx) :
    (Instr.sliceBounds isSlice n c xlo xhi xmx).run P w = .ok (l, h, if mx.isSome then m else c) w ∧ l ≤ h ∧ h ≤ n ∧ (mx.isSome → h ≤ m ∧ m ≤ n) := by
  have e1 := bound_sound hm rm
  have e2 := bound_sound hh rh
  have e3 := bound_sound hl rl
  cases rm with
  | none =>
    simp only [Option.isSome_none, Bool.false_eq_true, if_false] at hh e2 ⊢
    rcases e2 with ⟨rfl, rfl⟩ | ⟨k2, i2, rfl, p2, q2, rfl⟩
    · rcases e3 with ⟨rfl, rfl⟩ | ⟨k3, i3, rfl, p3, q3, rfl⟩
      · exact ⟨by simp [Instr.sliceBounds], by omega, by omega, by simp⟩
      · exact ⟨by simp [Instr.sliceBounds, run_sliceBound _ p3 q3], by omega, by omega, by simp⟩
    · have q2' : i2 ≤ (c : Int) := by omega
      rcases e3 with ⟨rfl, rfl⟩ | ⟨k3, i3, rfl, p3, q3, rfl⟩
      · exact ⟨by simp [Instr.sliceBounds, run_sliceBound _ p2 q2'], by omega, by omega, by simp⟩
      · exact ⟨by simp [Instr.sliceBounds, run_sliceBound _ p2 q2', run_sliceBound _ p3 q3], by omega, by omega, by simp⟩
  | some v x hv =>
    simp only [Option.isSome_some, if_true, Bool.true_and] at hh hmh e2 ⊢
    rcases e1 with ⟨h, _⟩ | ⟨k1, i1, e1, p1, q1, rfl⟩
    · cases h
    · injection e1 with e1; subst e1
      have q1' : i1 ≤ (c : Int) := by omega
      cases rh with
      | none => simp at hmh
      | some v2 x2 hv2 =>
        rcases e2 with ⟨h, _⟩ | ⟨k2, i2, e2, p2, q2, rfl⟩
        · cases h
        · injection e2 with e2; subst e2
          rcases e3 with ⟨rfl, rfl⟩ | ⟨k3, i3, rfl, p3, q3, rfl⟩
          · exact ⟨by simp [Instr.sliceBounds, run_sliceBound _ p1 q1', run_sliceBound _ p2 q2], by omega, by omega, by omega⟩
          · exact ⟨by simp [Instr.sliceBounds, run_sliceBound _ p1 q1', run_sliceBound _ p2 q2, run_sliceBound _ p3 q3], by omega, by omega, by omega⟩
end Go.Det

/- Slices cut, lengths, nil, tuples, conversions. -/
set_option linter.unusedVariables false
set_option linter.unusedSimpArgs false
namespace Go.Det
variable {X : Fix} {M : Mem} {φ : Place} {H : List SObj} {w : World}

theorem drop_take_nil {α : Type} {l : List α} (k : Nat) : (l.take k).drop k = [] := by
  rw [List.drop_eq_nil_iff, List.length_take]; omega
/-- A frozen slice, cut. -/
theorem cut_frozen {cs : List FV} {b o e l h : Nat} {vs : Nat → Value} {x' : Bool} {m : Nat} (hm : ∀ i, i < cs.length → M.cell b (o + i) = some (vs i)) (hv : ∀ i c, cs[i]? = some c → VR M c (vs i))
    (hlh : l ≤ h) (hhm : h ≤ m) (hx : x' = true → m = h) : VR M (.sl x' (h - l) ((cs.take (h * e)).drop (l * e))) (.slice (if m = l then some ⟨b, o, none⟩ else (some (⟨b, o, none⟩ : Addr)).map (·.add (l * e))) (h - l) (m - l)) := by
  by_cases hml : m = l
  · have : h = l := by omega
    subst this
    rw [if_pos hml, drop_take_nil]
    exact .sl x' _ [] b o _ (fun _ => undef) (fun i hi => by simp at hi) (fun i c hc => by simp at hc) (fun hxx => by have := hx hxx; omega) (by omega)
  · rw [if_neg hml, Option.map_some, add_plain]
    refine .sl x' _ _ b (o + l * e) _ (fun i => vs (l * e + i)) (fun i hi => ?_) (fun i c hc => ?_) (fun hxx => by have := hx hxx; omega) (by omega)
    · rw [List.length_drop, List.length_take] at hi
      rw [Nat.add_assoc]; exact hm _ (by omega)
    · rw [List.getElem?_drop, List.getElem?_take] at hc
      split at hc
      · exact hv _ _ hc
      · cases hc
theorem slice_sound {t : TypeId} {k : SKind} {p lo hi mx : _} {v : SV} {x : Value} {xlo xhi xmx : Option Value} (hk : skind X.c.p t = some k) (h : sliceOp k p lo hi mx = some v) (hx : SVR M φ H p x)
    (rl : OptR M φ H lo xlo) (rh : OptR M φ H hi xhi) (rm : OptR M φ H mx xmx) : ∃ z, (Instr.sliceAt t x xlo xhi xmx).run X.c.p w = .ok z w ∧ SVR M φ H v z := by
  unfold sliceOp at h
  split at h
  · -- a string
    rename_i s
    have hu := skind_str hk
    rw [hx.str']
    split at h
    · rename_i hh hhi
      split at h
      · rename_i l hlo
        injection h with h; subst h
        cases rm
        obtain ⟨hr, h1, h2, _⟩ := sliceBounds_sound (P := X.c.p) (w := w) (isSlice := false) (n := s.length) (c := s.length) (m := s.length) (mx := none) (Nat.le_refl _) rfl hhi hlo rfl rl rh .none
        refine ⟨_, ?_, .f _ _ (VR.mkstr _)⟩
        simp only [Instr.sliceAt, Instr.slice, Sem.run_bind, run_underlying' hu, Result.andThen_ok, Option.isSome_none, Bool.false_eq_true, if_false, size_mk, hr, extract_mk, Sem.run_pure]
      · cases h
    · cases h
  · -- nil
    rename_i e
    obtain ⟨u, hu, ho, rfl⟩ := skind_sl hk
    split at h
    · rename_i m hh l hm hhi hlo
      split at h
      · cases h
      · rename_i hmh
        injection h with h; subst h
        have hmh : (mx.isSome && hi.isNone) = false := by cases hq : (mx.isSome && hi.isNone) with | false => rfl | true => exact absurd hq hmh
        cases hx.toF with
        | nilSl =>
          have hm' : bound 0 (if mx.isSome then m else 0) hi = some hh := by
            have : (if mx.isSome = true then m else 0) = 0 := by
              split
              · have := bound_le hm; omega
              · rfl
            rw [this]; exact hhi
          have hh' : hh = 0 := by have := bound_le hhi; omega
          have hlo' : bound 0 hh lo = some l := by rw [hh']; exact hlo
          obtain ⟨hr, h1, h2, h3⟩ := sliceBounds_sound (P := X.c.p) (w := w) (isSlice := true) (n := 0) (c := 0) (Nat.le_refl _) hm hm' hlo' hmh rl rh rm
          have hh0 : hh = 0 := by omega
          have hl0 : l = 0 := by omega
          subst hh0; subst hl0
          have hm0 : (if mx.isSome = true then m else 0) = 0 := by
            split <;> rename_i hs
            · have := (h3 hs).2; omega
            · rfl
          refine ⟨.slice none 0 0, ?_, SVR.f _ _ .nilSl⟩
          simp only [Instr.sliceAt, Instr.slice, Sem.run_bind, run_underlying' hu, Result.andThen_ok, hr, run_sizeOf' ho, Sem.run_pure, hm0]
          rfl
    · cases h
  · -- a frozen slice
    rename_i e x' n cs
    obtain ⟨u, hu, ho, rfl⟩ := skind_sl hk
    split at h
    · rename_i m hm
      split at h
      · rename_i hh hhi
        split at h
        · rename_i l hlo
          split at h
          · cases h
          · rename_i hmh
            injection h with h; subst h
            have hmh : (mx.isSome && hi.isNone) = false := by cases hq : (mx.isSome && hi.isNone) with | false => rfl | true => exact absurd hq hmh
            cases hx.toF with
            | sl _ _ _ b o cap vs gm gv gx gc =>
              obtain ⟨hr, h1, h2, h3⟩ := sliceBounds_sound (P := X.c.p) (w := w) (isSlice := true) (c := cap) gc hm hhi hlo hmh rl rh rm
              refine ⟨_, ?_, .f _ _ (cut_frozen (e := sizeB X.c.p u) (m := if mx.isSome then m else cap) gm gv h1 ?_ ?_)⟩
              · simp only [Instr.sliceAt, Instr.slice, Sem.run_bind, run_underlying' hu, Result.andThen_ok, hr, run_sizeOf' ho, Sem.run_pure]
              · split <;> rename_i hs
                · exact (h3 hs).1
                · omega
              · split <;> rename_i hs
                · intro he; have := eq_of_beq he; omega
                · intro he
                  simp only [Bool.and_eq_true] at he
                  have := gx he.1; have := eq_of_beq he.2; omega
            | slE _ a =>
              obtain ⟨hr, h1, h2, h3⟩ := sliceBounds_sound (P := X.c.p) (w := w) (isSlice := true) (c := 0) (Nat.le_refl _) hm hhi hlo hmh rl rh rm
              have hm0 : (if mx.isSome = true then m else 0) = 0 := by
                split <;> rename_i hs
                · have := (h3 hs).2; omega
                · rfl
              have hh0 : hh = 0 := by omega
              have hl0 : l = 0 := by omega
              subst hh0; subst hl0
              refine ⟨.slice (some a) 0 0, ?_, .f _ _ (by simpa using VR.slE _ a)⟩
              simp only [Instr.sliceAt, Instr.slice, Sem.run_bind, run_underlying' hu, Result.andThen_ok, hr, run_sizeOf' ho, Sem.run_pure, hm0]
              rfl
        · cases h
      · cases h
    · cases h
  · -- a live slice
    rename_i e b o n ver x'
    obtain ⟨u, hu, ho, rfl⟩ := skind_sl hk
    split at h
    · rename_i m hm
      split at h
      · rename_i hh hhi
        split at h
        · rename_i l hlo
          split at h
          · cases h
          · rename_i hmh
            split at h
            · cases h
            rename_i hxn
            split at h
            · cases h
            rename_i hmxh0
            simp only [Bool.or_eq_true, beq_iff_eq, not_or] at hmxh0
            obtain ⟨hmxh, hez⟩ := hmxh0
            injection h with h; subst h
            have hmh : (mx.isSome && hi.isNone) = false := by cases hq : (mx.isSome && hi.isNone) with | false => rfl | true => exact absurd hq hmh
            cases hx with
            | row _ _ _ _ _ a cap gc ga gb gle gx =>
              obtain ⟨hr, h1, h2, h3⟩ := sliceBounds_sound (P := X.c.p) (w := w) (isSlice := true) (c := cap) gc hm hhi hlo hmh rl rh rm
              generalize hmm : (if mx.isSome = true then m else cap) = mm at hr
              have hmm1 : hh ≤ mm := by
                rw [← hmm]; split <;> rename_i hs
                · exact (h3 hs).1
                · omega
              have hmm2 : mm ≤ cap := by
                rw [← hmm]; split <;> rename_i hs
                · have := (h3 hs).2; omega
                · omega
              refine ⟨.slice (if mm = l then a else a.map (·.add (l * sizeB X.c.p u))) (hh - l) (mm - l), ?_, ?_⟩
              · simp only [Instr.sliceAt, Instr.slice, Sem.run_bind, run_underlying' hu, Result.andThen_ok, hr, run_sizeOf' ho, Sem.run_pure]
              · refine .row b _ _ ver _ _ _ (by omega) (fun hpos => ?_) gb gle fun ty e cs hc hl => ⟨?_, fun hxx => ?_, fun hxx h0 => ?_⟩
                · obtain ⟨k, j, rfl⟩ := ga (by omega)
                  rw [if_neg (by omega), Option.map_some, add_plain]
                  exact ⟨_, _, rfl⟩
                · rcases (gx ty e cs hc hl).1 with rfl | ⟨rfl, h0⟩
                  · by_cases hml : mm = l
                    · rw [if_pos hml]
                      by_cases hz : l * sizeB X.c.p u = 0
                      · left; rw [hz, Nat.add_zero]
                      · right; omega
                    · rw [if_neg hml, Option.map_some, add_plain]; exact .inl rfl
                  · right; omega
                · cases hs : mx.isSome with
                  | true =>
                    rw [hs] at hmm hxx
                    simp only [if_true] at hmm hxx
                    have := eq_of_beq hxx; omega
                  | false =>
                    rw [hs] at hmm hxx
                    simp only [Bool.false_eq_true, if_false, Bool.and_eq_true] at hmm hxx
                    have := (gx ty e cs hc hl).2.1 hxx.1; have := eq_of_beq hxx.2; omega
                · have hx0 : x' = false ∨ x' = true := by cases x' <;> simp
                  rcases hx0 with hx0 | hx0
                  · have hl0 : l * sizeB X.c.p u = 0 := by omega
                    obtain ⟨g1, g2⟩ := (gx ty e cs hc hl).2.2 hx0 (by omega)
                    cases hs : mx.isSome with
                    | true =>
                      rw [hs] at hxx hmxh
                      simp only [if_true] at hxx
                      simp [hxx] at hmxh
                    | false =>
                      rw [hs] at hmm
                      simp only [Bool.false_eq_true, if_false] at hmm
                      subst hmm
                      rcases Nat.mul_eq_zero.1 hl0 with h | h
                      · subst h; exact ⟨by simpa using g1, by simpa using g2⟩
                      · exact absurd h hez
                  · subst hx0
                    have hhn : hh = n := by
                      cases hq : hh == n with
                      | true => exact eq_of_beq hq
                      | false => exact absurd (by simp [hq]) hxn
                    cases hs : mx.isSome with
                    | false => rw [hs] at hxx; simp [hhn] at hxx
                    | true =>
                      rw [hs] at hxx
                      have h4 := h3 hs
                      simp only [if_true] at hxx
                      have : ¬ hh = m := by intro hq; simp [hq] at hxx
                      omega
        · cases h
      · cases h
    · cases h
  · -- an array behind a pointer
    rename_i n e b o ver
    obtain ⟨u, hu, ho, rfl⟩ := skind_arr hk
    split at h
    · rename_i hh hhi
      split at h
      · rename_i l hlo
        split at h
        · rename_i hn
          injection h with h; subst h; subst hn
          cases rm
          obtain ⟨hr, h1, h2, _⟩ := sliceBounds_sound (P := X.c.p) (w := w) (isSlice := false) (n := hh) (c := hh) (m := hh) (mx := none) (Nat.le_refl _) rfl hhi hlo rfl rl rh .none
          simp only [Option.isSome_none, Bool.false_eq_true, if_false] at hr
          cases hx with
          | ptr _ _ _ g j gb gle gx =>
            refine ⟨.slice (some (if hh = l then ⟨g, j, none⟩ else (⟨g, j, none⟩ : Addr).add (l * sizeB X.c.p u))) (hh - l) (hh - l), ?_, ?_⟩
            · simp only [Instr.sliceAt, Sem.run_bind, run_underlying' hu, Result.andThen_ok, Instr.sureAddr, Sem.run_pure, hr, run_sizeOf' ho]
            · refine .row b _ _ ver _ _ _ (Nat.le_refl _) (fun hpos => ?_) gb gle fun ty e cs hc hl => ⟨?_, fun _ => rfl, fun hxx => by cases hxx⟩
              · rw [if_neg (by omega), add_plain]; exact ⟨_, _, rfl⟩
              · obtain ⟨rfl, rfl⟩ := gx ty e cs hc hl
                by_cases hml : hh = l
                · rw [if_pos hml]
                  by_cases hz : l * sizeB X.c.p u = 0
                  · left; rw [hz, Nat.add_zero]
                  · right; omega
                · rw [if_neg hml, add_plain]; exact .inl rfl
        · cases h
      · cases h
    · cases h
  · -- a frozen array behind a pointer
    rename_i n e cs
    obtain ⟨u, hu, ho, rfl⟩ := skind_arr hk
    split at h
    · rename_i hh hhi
      split at h
      · rename_i l hlo
        injection h with h; subst h
        cases rm
        obtain ⟨hr, h1, h2, _⟩ := sliceBounds_sound (P := X.c.p) (w := w) (isSlice := false) (n := n) (c := n) (m := n) (mx := none) (Nat.le_refl _) rfl hhi hlo rfl rl rh .none
        simp only [Option.isSome_none, Bool.false_eq_true, if_false] at hr
        cases hx.toF with
        | ptr _ b o vs gm gv =>
          have := cut_frozen (e := sizeB X.c.p u) (m := n) (x' := hh == n) gm gv h1 h2 (fun hxx => (eq_of_beq hxx).symm)
          refine ⟨_, ?_, .f _ _ this⟩
          simp only [Instr.sliceAt, Sem.run_bind, run_underlying' hu, Result.andThen_ok, Instr.sureAddr, Sem.run_pure, hr, run_sizeOf' ho]
          congr 2
          split <;> rfl
      · cases h
    · cases h
  · cases h
end Go.Det

/- Lengths, nil, tuples, conversions, the least and the greatest, slices read whole. -/
set_option linter.unusedVariables false
set_option linter.unusedSimpArgs false
namespace Go.Det
variable {X : Fix} {M : Mem} {φ : Place} {H : List SObj} {w : World}

theorem len_sound (hR : Rel X M φ H w) {k : LKind} {t ty : TypeId} {v : SV} {x : Value} {n : Nat} (h : lenOp H k v = some n) (hx : SVR M φ H v x)
    (ht : match k with | .str => X.c.p.underlying t = some .string | .sl => ∃ e, X.c.p.underlying t = some (.slice e) | .map => ∃ a b, X.c.p.underlying t = some (.map a b)) :
    (Builtin.len_ #[t] ty #[x]).run X.c.p w = .ok (.int .i64 n) w := by
  unfold lenOp at h
  cases k with
  | str =>
    simp only at h ht
    split at h
    · injection h with h; subst h; rw [hx.str']; simp [Builtin.len_, run_underlying' ht, goInt, size_mk]
    · cases h
  | sl =>
    obtain ⟨e, ht⟩ := ht
    simp only at h
    split at h
    · injection h with h; subst h
      cases hx.toF with
      | nilSl => simp [Builtin.len_, run_underlying' ht, goInt]
    · injection h with h; subst h
      cases hx.toF with
      | sl => simp [Builtin.len_, run_underlying' ht, goInt]
      | slE => simp [Builtin.len_, run_underlying' ht, goInt]
    · injection h with h; subst h
      cases hx with
      | row => simp [Builtin.len_, run_underlying' ht, goInt]
    · cases h
  | map =>
    obtain ⟨a, b, ht⟩ := ht
    simp only at h
    split at h
    · injection h with h; subst h
      cases hx.toF; simp [Builtin.len_, run_underlying' ht, goInt]
    · injection h with h; subst h
      cases hx.toF with
      | map ks vs r es c hm hk hl h1 h2 =>
        have := hR.mo _ _ hm
        simp [Builtin.len_, run_underlying' ht, goInt, getObj, Sem.run, this, hk]
    · split at h
      · rename_i es c hb
        injection h with h; subst h
        cases hx with
        | map b r _ hx =>
          obtain ⟨arr, ho, hl, _⟩ := hR.ob _ _ hb
          have := hx es c hb; subst this
          simp [Builtin.len_, run_underlying' ht, goInt, getObj, Sem.run, ho, hl]
      · cases h
    · cases h
theorem nilchk_sound {v : SV} {x : Value} (h : notNil v = true) (hx : SVR M φ H v x) (P : Program) (ρ : Operand → Value) (o : Operand) (oper : Oper) (ho : oper.op = .nilCheck o) (hρ : ρ o = x) : (execOp ρ oper).run P w = .ok (.value x) w := by
  unfold notNil at h
  unfold execOp
  rw [ho]
  simp only [hρ]
  split at h
  · cases hx.toF; rfl
  · cases hx; rfl
  · cases hx.toF; rfl
  · cases hx; rfl
  · cases hx; rfl
  · cases hx.toF; rfl
  · cases hx; rfl
  · cases h
theorem eqIn_ptr {P : Program} (d : Nat) {t e : TypeId} (p : Option Addr) (ht : P.underlying t = some (.pointer e)) : (Op.equalIn (d + 1) t (.pointer p) (.pointer none)).run P w = .ok p.isNone w := by
  unfold Op.equalIn
  rw [Sem.run_bind, run_underlying' ht]
  cases p <;> rfl
theorem eqIn_map {P : Program} (d : Nat) {t a b : TypeId} (p : Option Nat) (ht : P.underlying t = some (.map a b)) : (Op.equalIn (d + 1) t (.map p) (.map none)).run P w = .ok p.isNone w := by
  unfold Op.equalIn
  rw [Sem.run_bind, run_underlying' ht]
  cases p <;> rfl
theorem eqIn_func {P : Program} (d : Nat) {t : TypeId} {a b c} (fn : Fn) (x y : Array Value) (ht : P.underlying t = some (.func a b c)) : (Op.equalIn (d + 1) t (.func fn x y) .nilFunc).run P w = .ok false w := by
  unfold Op.equalIn
  rw [Sem.run_bind, run_underlying' ht]
  rfl
theorem eqIn_nilFunc {P : Program} (d : Nat) {t : TypeId} {a b c} (ht : P.underlying t = some (.func a b c)) : (Op.equalIn (d + 1) t .nilFunc .nilFunc).run P w = .ok true w := by
  unfold Op.equalIn
  rw [Sem.run_bind, run_underlying' ht]
  rfl
theorem eqIn_iface {P : Program} (d : Nat) {t : TypeId} {m} (u : TypeId) (x : Value) (ht : P.underlying t = some (.interface m)) : (Op.equalIn (d + 1) t (.iface u x) .nilIface).run P w = .ok false w := by
  unfold Op.equalIn
  rw [Sem.run_bind, run_underlying' ht]
  rfl
theorem eqIn_nilIface {P : Program} (d : Nat) {t : TypeId} {m} (ht : P.underlying t = some (.interface m)) : (Op.equalIn (d + 1) t .nilIface .nilIface).run P w = .ok true w := by
  unfold Op.equalIn
  rw [Sem.run_bind, run_underlying' ht]
  rfl
theorem eqIn_slice {P : Program} (d : Nat) {t e : TypeId} (a : Option Addr) (n c : Nat) (ht : P.underlying t = some (.slice e)) : (Op.equalIn (d + 1) t (.slice a n c) (.slice none 0 0)).run P w = .ok a.isNone w := by
  unfold Op.equalIn
  rw [Sem.run_bind, run_underlying' ht]
  cases a <;> rfl
theorem isnil_sound {k : NKind} {v : SV} {x y : Value} {t : TypeId} {r : Bool} (h : isNil k v = some r) (hx : SVR M φ H v x)
    (ht : match k with
      | .ptr => (∃ e, X.c.p.underlying t = some (.pointer e)) ∧ y = .pointer none
      | .map => (∃ a b, X.c.p.underlying t = some (.map a b)) ∧ y = .map none
      | .func => (∃ a b c, X.c.p.underlying t = some (.func a b c)) ∧ y = .nilFunc
      | .iface => (∃ m, X.c.p.underlying t = some (.interface m)) ∧ y = .nilIface) :
    (Op.equal t x y).run X.c.p w = .ok r w := by
  have e : Op.equal t x y = Op.equalIn (9999 + 1) t x y := rfl
  rw [e]
  generalize 9999 = d
  cases k with
  | ptr =>
    obtain ⟨⟨u, ht⟩, rfl⟩ := ht
    simp only [isNil] at h
    split at h
    · injection h with h; subst h; cases hx.toF; exact eqIn_ptr d _ ht
    · injection h with h; subst h; cases hx.toF; exact eqIn_ptr d _ ht
    · injection h with h; subst h; cases hx; exact eqIn_ptr d _ ht
    · cases h
  | map =>
    obtain ⟨⟨u, u', ht⟩, rfl⟩ := ht
    simp only [isNil] at h
    split at h
    · injection h with h; subst h; cases hx.toF; exact eqIn_map d _ ht
    · injection h with h; subst h; cases hx.toF; exact eqIn_map d _ ht
    · injection h with h; subst h; cases hx; exact eqIn_map d _ ht
    · cases h
  | func =>
    obtain ⟨⟨u, u', u'', ht⟩, rfl⟩ := ht
    simp only [isNil] at h
    split at h
    · injection h with h; subst h; cases hx.toF; exact eqIn_nilFunc d ht
    · injection h with h; subst h; cases hx.toF; exact eqIn_func d _ _ _ ht
    · injection h with h; subst h; cases hx; exact eqIn_func d _ _ _ ht
    · injection h with h; subst h; cases hx; exact eqIn_func d _ _ _ ht
    · cases h
  | iface =>
    obtain ⟨⟨u, ht⟩, rfl⟩ := ht
    simp only [isNil] at h
    split at h
    · injection h with h; subst h; cases hx.toF; exact eqIn_nilIface d ht
    · injection h with h; subst h; cases hx.toF; exact eqIn_iface d _ _ ht
    · injection h with h; subst h; cases hx; exact eqIn_iface d _ _ ht
    · cases h
theorem isnilSl_equal {a : Option Addr} {n c : Nat} {t e : TypeId} (ht : X.c.p.underlying t = some (.slice e)) :
    (Op.equal t (.slice a n c) (.slice none 0 0)).run X.c.p w = .ok a.isNone w := eqIn_slice 9999 a n c ht
theorem min2_sound {mx : Bool} {a b r : FV} {x y : Value} (h : min2 mx a b = some r) (hx : VR M a x) (hy : VR M b y) :
    ∃ v, (∀ (P : Program) w, (if mx then Builtin.max2 x y else Builtin.min2 x y).run P w = .ok v w) ∧ VR M r v := by
  unfold min2 at h
  split at h
  · rename_i k i k' j
    rw [hx.int', hy.int']
    injection h with h; subst h
    cases mx
    · exact ⟨_, fun P w => by simp [Builtin.min2], .int ..⟩
    · exact ⟨_, fun P w => by simp [Builtin.max2], .int ..⟩
  · rename_i l m
    rw [hx.str', hy.str']
    injection h with h; subst h
    cases mx
    · refine ⟨.string ⟨(if bytesLess l m || l == m then l else m).toArray⟩, fun P w => ?_, VR.mkstr _⟩
      simp only [Builtin.min2, Op.stringOp, toList_mk, bytesLess_eq, Sem.run_bind, Sem.run_pure, Result.andThen_ok, asBool, Bool.false_eq_true, if_false]
      split <;> rfl
    · refine ⟨.string ⟨(if !bytesLess l m then l else m).toArray⟩, fun P w => ?_, VR.mkstr _⟩
      simp only [Builtin.max2, Op.stringOp, toList_mk, bytesLess_eq, Sem.run_bind, Sem.run_pure, Result.andThen_ok, asBool, if_true]
      split <;> rfl
  · cases h
theorem minmax_sound {mx : Bool} {t : TypeId} {ts : Array TypeId} {vs : List SV} {xs : List Value} {r : SV} (h : minmax mx vs = some r) (hl : xs.length = vs.length) (hx : ∀ i v, vs[i]? = some v → SVR M φ H v (xs.getD i undef)) :
    ∃ y, (if mx then Builtin.max_ ts t xs.toArray else Builtin.min_ ts t xs.toArray).run X.c.p w = .ok y w ∧ SVR M φ H r y := by
  have go : ∀ (vs : List SV) (xs : List Value) (a : FV) (x : Value), minmax.go mx a vs = some r → xs.length = vs.length → (∀ i v, vs[i]? = some v → SVR M φ H v (xs.getD i undef)) → VR M a x →
      ∃ y, (xs.foldlM (if mx then Builtin.max2 else Builtin.min2) x : Sem Value).run X.c.p w = .ok y w ∧ SVR M φ H r y := by
    intro vs
    induction vs with
    | nil =>
      intro xs a x h hl hx ha
      simp only [minmax.go, Option.some.injEq] at h; subst h
      obtain rfl : xs = [] := List.eq_nil_of_length_eq_zero hl
      exact ⟨x, rfl, .f _ _ ha⟩
    | cons v vs ih =>
      intro xs a x h hl hx ha
      cases xs with
      | nil => simp at hl
      | cons y ys =>
        have h0 := hx 0 v rfl
        simp only [List.getD_cons_zero] at h0
        cases v with
        | f b =>
          simp only [minmax.go] at h
          split at h
          · rename_i z hz
            obtain ⟨u, hu, hv⟩ := min2_sound hz ha h0.toF
            obtain ⟨y', hy', hs⟩ := ih ys z u h (by simpa using hl) (fun i v hv => by have := hx (i + 1) v (by simpa using hv); simpa using this) hv
            refine ⟨y', ?_, hs⟩
            simp only [List.foldlM_cons, Sem.run_bind]
            have := hu X.c.p w
            cases mx <;> simp_all
          · cases h
        | _ => simp [minmax.go] at h
  unfold minmax at h
  split at h
  · rename_i a r'
    cases xs with
    | nil => simp at hl
    | cons x xs =>
      have h0 := hx 0 _ rfl
      simp only [List.getD_cons_zero] at h0
      obtain ⟨y, hy, hs⟩ := go r' xs a x h (by simpa using hl) (fun i v hv => by have := hx (i + 1) v (by simpa using hv); simpa using this) h0.toF
      refine ⟨y, ?_, hs⟩
      cases mx <;> simpa [Builtin.max_, Builtin.min_] using hy
  · cases h
theorem sliceCells_sound (hR : Rel X M φ H w) {esz n : Nat} {v : SV} {x : Value} {cs : List SV} (h : sliceCells H esz v = some (n, cs)) (hx : SVR M φ H v x) :
    cs.length = n * esz ∧ ∃ a cap, x = .slice a n cap ∧ n ≤ cap ∧ (n * esz = 0 ∨ ∃ b o, a = some ⟨b, o, none⟩ ∧ CellsAt w M φ H ⟨b, o, none⟩ (n * esz) cs) := by
  unfold sliceCells at h
  split at h
  · injection h with h; injection h with h1 h2; subst h1; subst h2
    cases hx.toF with
    | nilSl => exact ⟨by simp, none, 0, rfl, Nat.le_refl _, .inl (by simp)⟩
  · rename_i x' m fs
    split at h
    · rename_i hl
      injection h with h; injection h with h1 h2; subst h1; subst h2
      refine ⟨by simpa using hl, ?_⟩
      cases hx.toF with
      | sl _ _ _ b o cap vs gm gv gx gc =>
        have := frozen_cells (X := X) (φ := φ) (H := H) hR gm gv
        rw [hl] at this
        exact ⟨_, cap, rfl, gc, .inr ⟨b, o, rfl, this⟩⟩
      | slE _ a => exact ⟨_, 0, rfl, Nat.le_refl _, .inl (by simp)⟩
    · cases h
  · rename_i b o m ver x'
    split at h
    · rename_i cs' hc
      obtain ⟨ty, e, hb, hl⟩ := hcells_some hc
      split at h
      · rename_i hle
        injection h with h; injection h with h1 h2; subst h1; subst h2
        refine ⟨by rw [List.length_take, List.length_drop]; omega, ?_⟩
        cases hx with
        | row _ _ _ _ _ a cap gc ga gb gle gx =>
          refine ⟨a, cap, rfl, gc, ?_⟩
          rcases (gx ty e cs' hb hl).1 with rfl | ⟨rfl, _⟩
          · right
            have := (live_at hR hb).part (k := o) (m := m * esz) rfl (by omega)
            rw [add_plain, Nat.zero_add] at this
            exact ⟨_, _, rfl, this⟩
          · left; simp
      · cases h
    · cases h
  · cases h
theorem firstCells_sound (hR : Rel X M φ H w) {esz n : Nat} {v : SV} {x : Value} {cs : List SV} (h : sliceCells H esz v = some (n, cs)) (hx : SVR M φ H v x) :
    ∃ arr : Array Value, (Builtin.firstCells esz n x).run X.c.p w = .ok arr w ∧ arr.size = n * esz ∧ cs.length = n * esz ∧ (∀ i, i < n * esz → (arr.getD i undef).oneCell' = true) ∧ ∀ i c, cs[i]? = some c → SVR M φ H c (arr.getD i undef) := by
  obtain ⟨hl, a, cap, rfl, hc, h0⟩ := sliceCells_sound hR h hx
  rcases h0 with h0 | ⟨b, o, rfl, hca⟩
  · have hcs : cs = [] := List.eq_nil_of_length_eq_zero (by omega)
    subst hcs
    refine ⟨#[], ?_, by simp [h0], by simp [h0], fun i hi => by omega, fun i c hc => by simp at hc⟩
    cases a with
    | none => rfl
    | some ad => simp [Builtin.firstCells, h0, loadCells, loadCellsFrom]
  · obtain ⟨arr, hr, h1, h2, h3⟩ := hca.load (P := X.c.p)
    exact ⟨arr, by simpa [Builtin.firstCells] using hr, h1, hl, h2, h3⟩
end Go.Det

/- One object of the heap is made, turned or moved: everything else stands. -/
set_option linter.unusedVariables false
set_option linter.unusedSimpArgs false
namespace Go.Det
variable {X : Fix} {M M' : Mem} {φ φ' : Place} {H H' : List SObj} {w w' : World} {b : Nat}

theorem OR.keep {b : Nat} {x : SObj} (hM : M.le M') (hS : ∀ v y, SVR M φ H v y → SVR M' φ' H' v y) (hφ : φ' b = φ b) (hw : w'.heap[(φ b).1]? = w.heap[(φ b).1]?) (h : OR X M φ H b w x) : OR X M' φ' H' b w' x := by
  cases x with
  | dead => trivial
  | cells ty e cs =>
    obtain ⟨arr, fr, h1, h2, h3, h4, h5, h6⟩ := h
    exact ⟨arr, fr, by rw [hφ, hw]; exact h1, by rw [hφ]; exact h2, h3, h4, h5, fun i c hc => hS _ _ (h6 i c hc)⟩
  | map es c =>
    obtain ⟨arr, h1, h2, h3⟩ := h
    exact ⟨arr, by rw [hφ, hw]; exact h1, h2, fun i e he => ⟨(h3 i e he).1.mono hM, hS _ _ (h3 i e he).2.1, (h3 i e he).2.2⟩⟩
  | iter m a s t =>
    obtain ⟨mr, h1, h2⟩ := h
    exact ⟨mr, by rw [hφ, hw]; exact h1, hS _ _ h2⟩
  | loop env ps a bd st j =>
    obtain ⟨l, h1, h2, h3, h4, h5, h6, h7, h8⟩ := h
    exact ⟨l, by rw [hφ, hw]; exact h1, h2, h3, h4, h5, h6, h7, fun i v hv => hS _ _ (h8 i v hv)⟩

structure Change (X : Fix) (M : Mem) (φ : Place) (H : List SObj) (w : World) (b : Nat) (M' : Mem) (φ' : Place) (H' : List SObj) (w' : World) : Prop where
  hH : ∀ b', b' ≠ b → H'[b']? = H[b']?
  hφ : ∀ b', b' ≠ b → φ' b' = φ b'
  hlen : H.length ≤ H'.length
  os : w'.os = w.os
  tape : w'.tape = w.tape
  output : w'.output = w.output
  size : w.heap.size ≤ w'.heap.size
  heap : ∀ k, k < w.heap.size → (live H b → k ≠ (φ b).1) → w'.heap[k]? = w.heap[k]?
  le : M.le M'
  mc : ∀ b o v, M'.cell b o = some v → M.cell b o = some v ∨ (v.oneCell' = true ∧ w'.cell? ⟨b, o, none⟩ = some v)
  mo : ∀ r x, M'.obj r = some x → M.obj r = some x ∨ w'.heap[r]? = some x
  has : ∀ k, M'.has k → M.has k ∨ w.heap.size ≤ k
  place : live H' b → (live H b ∧ (φ' b).1 = (φ b).1) ∨ (w.heap.size ≤ (φ' b).1 ∧ ¬ M'.has (φ' b).1)
  same : b < H.length → Same φ H φ' H' b
theorem Change.same' (c : Change X M φ H w b M' φ' H' w') (b' : Nat) (hb : b' < H.length) : Same φ H φ' H' b' := by
  by_cases h : b' = b
  · subst h; exact c.same hb
  · have h1 := c.hH b' h
    have h2 := c.hφ b' h
    refine ⟨fun ty e cs' hc => ⟨cs', by rw [← h1]; exact hc, Nat.le_refl _, fun _ => h2⟩, fun es k hc => ⟨⟨es, k, by rw [← h1]; exact hc⟩, h2⟩, fun m a s t hc => ⟨⟨m, a, s, t, by rw [← h1]; exact hc⟩, h2⟩, fun e p a k s j hc => ⟨⟨e, p, a, k, s, j, by rw [← h1]; exact hc⟩, h2⟩⟩
theorem Change.svr (c : Change X M φ H w b M' φ' H' w') {v : SV} {x : Value} (h : SVR M φ H v x) : SVR M' φ' H' v x := h.step c.le c.hlen c.same' h.bel
theorem cell?_of_heap {w w' : World} {b o : Nat} (h : w'.heap[b]? = w.heap[b]?) : w'.cell? ⟨b, o, none⟩ = w.cell? ⟨b, o, none⟩ := by simp [World.cell?, h]
theorem Change.rel (c : Change X M φ H w b M' φ' H' w') (hR : Rel X M φ H w) (hO : ∀ x, H'[b]? = some x → OR X M' φ' H' b w' x) : Rel X M' φ' H' w' where
  gl g cs hg := (hR.gl g cs hg).mono c.le
  mc k o v hv := by
    rcases c.mc k o v hv with h | h
    · obtain ⟨h1, h2⟩ := hR.mc _ _ _ h
      refine ⟨h1, ?_⟩
      rw [cell?_of_heap (c.heap k (cell_lt h2) fun hl he => hR.sep b hl (by rw [← he]; exact .inl ⟨o, v, h⟩))]; exact h2
    · exact h
  mo r x hx := by
    rcases c.mo r x hx with h | h
    · have h2 := hR.mo _ _ h
      rw [c.heap r (Array.getElem?_eq_some_iff.1 h2).1 fun hl he => hR.sep b hl (by rw [← he]; exact .inr ⟨x, h⟩)]; exact h2
    · exact h
  ob b' x hx := by
    by_cases h : b' = b
    · subst h; exact hO x hx
    · rw [c.hH b' h] at hx
      cases hd : x with
      | dead => trivial
      | _ =>
        have hl : live H b' := ⟨x, hx, by rw [hd]; intro h; cases h⟩
        rw [← hd]
        exact (hR.ob b' x hx).keep c.le (fun v y hv => c.svr hv) (c.hφ b' h) (c.heap _ (hR.lt hl) fun hb he => h (hR.inj b' b hl hb he))
  inj b1 b2 h1 h2 he := by
    have key : ∀ b', b' ≠ b → live H' b' → live H b' := fun b' hb ⟨x, hx, hd⟩ => ⟨x, by rw [← c.hH b' hb]; exact hx, hd⟩
    by_cases e1 : b1 = b
    · by_cases e2 : b2 = b
      · rw [e1, e2]
      · subst e1
        have l2 := key b2 e2 h2
        rw [c.hφ b2 e2] at he
        rcases c.place h1 with ⟨l1, p1⟩ | ⟨p1, _⟩
        · exact hR.inj _ _ l1 l2 (p1.symm.trans he)
        · have := hR.lt l2; omega
    · have l1 := key b1 e1 h1
      rw [c.hφ b1 e1] at he
      by_cases e2 : b2 = b
      · subst e2
        rcases c.place h2 with ⟨l2, p2⟩ | ⟨p2, _⟩
        · exact hR.inj _ _ l1 l2 (he.trans p2)
        · have := hR.lt l1; omega
      · rw [c.hφ b2 e2] at he
        exact hR.inj _ _ l1 (key b2 e2 h2) he
  sep b' hl hm := by
    by_cases e : b' = b
    · subst e
      rcases c.place hl with ⟨l, p⟩ | ⟨_, p⟩
      · rw [p] at hm
        rcases c.has _ hm with h | h
        · exact hR.sep _ l h
        · have := hR.lt l; omega
      · exact p hm
    · obtain ⟨x, hx, hd⟩ := hl
      have l : live H b' := ⟨x, by rw [← c.hH b' e]; exact hx, hd⟩
      rw [c.hφ b' e] at hm
      rcases c.has _ hm with h | h
      · exact hR.sep _ l h
      · have := hR.lt l; omega
theorem Change.trans (c : Change X M φ H w b M' φ' H' w') : Trans H.length M φ H w M' φ' H' w' where
  le := c.le
  len := c.hlen
  ext := c.same'
  os := c.os
  tape := c.tape
  output := c.output
  size := c.size
  foot k hk hn := c.heap k hk fun hl he => hn b hl he.symm
  newL b' hl := by
    by_cases e : b' = b
    · subst e
      rcases c.place hl with ⟨l, p⟩ | ⟨p, _⟩
      · exact .inl ⟨b', l, p.symm⟩
      · exact .inr p
    · obtain ⟨x, hx, hd⟩ := hl
      exact .inl ⟨b', ⟨x, by rw [← c.hH b' e]; exact hx, hd⟩, by rw [c.hφ b' e]⟩
  newM k hk := by
    rcases c.has k hk with h | h
    · exact .inl h
    · exact .inr (.inr h)

/-! ### a new object -/
def upd (φ : Place) (b : Nat) (p : Nat × Nat) : Place := fun i => if i = b then p else φ i
theorem upd_same (φ : Place) (b : Nat) (p : Nat × Nat) : upd φ b p b = p := by simp [upd]
theorem upd_other (φ : Place) {b i : Nat} (p : Nat × Nat) (h : i ≠ b) : upd φ b p i = φ i := by simp [upd, h]
theorem get_snoc {H : List SObj} {x : SObj} : (H ++ [x])[H.length]? = some x := by simp
theorem get_snoc_ne {H : List SObj} {x : SObj} {b : Nat} (h : b ≠ H.length) : (H ++ [x])[b]? = H[b]? := by
  by_cases hb : b < H.length
  · rw [List.getElem?_append_left hb]
  · rw [List.getElem?_eq_none (by simp; omega), List.getElem?_eq_none (by omega)]
theorem not_live_end {H : List SObj} : ¬ live H H.length := fun ⟨x, hx, _⟩ => by simp at hx
theorem push_old {w : World} {o : Obj} {k : Nat} (h : k < w.heap.size) : (w.heap.push o)[k]? = w.heap[k]? := by
  rw [Array.getElem?_push]; simp [show k ≠ w.heap.size by omega]
theorem push_change (hR : Rel X M φ H w) (o : Obj) (x : SObj) (sz : Nat) : Change X M φ H w H.length M (upd φ H.length (w.heap.size, sz)) (H ++ [x]) { w with heap := w.heap.push o } where
  hH b' h := get_snoc_ne h
  hφ b' h := upd_other φ _ h
  hlen := by simp
  os := rfl
  tape := rfl
  output := rfl
  size := by simp
  heap k hk _ := push_old hk
  le := Mem.le_refl _
  mc _ _ _ h := .inl h
  mo _ _ h := .inl h
  has _ h := .inl h
  place _ := .inr (by rw [upd_same]; exact ⟨Nat.le_refl _, fun h => by have := hR.has_lt h; omega⟩)
  same h := absurd h (by omega)
/-- A new object, out of what is there. -/
theorem push_sound (hR : Rel X M φ H w) {o : Obj} {x : SObj} {sz : Nat}
    (hO : ∀ φ', (∀ v y, SVR M φ H v y → SVR M φ' (H ++ [x]) v y) → φ' H.length = (w.heap.size, sz) → OR X M φ' (H ++ [x]) H.length { w with heap := w.heap.push o } x) :
    ∃ φ', Rel X M φ' (H ++ [x]) { w with heap := w.heap.push o } ∧ Trans H.length M φ H w M φ' (H ++ [x]) { w with heap := w.heap.push o } ∧ φ' H.length = (w.heap.size, sz) ∧ ∀ v y, SVR M φ H v y → SVR M φ' (H ++ [x]) v y := by
  have c := push_change hR o x sz
  have hS : ∀ v y, SVR M φ H v y → SVR M (upd φ H.length (w.heap.size, sz)) (H ++ [x]) v y := fun v y hv => c.svr hv
  refine ⟨_, c.rel hR fun y hy => ?_, c.trans, upd_same .., hS⟩
  rw [get_snoc] at hy; injection hy with hy; subst hy
  exact hO _ hS (upd_same ..)
theorem push_get {w : World} {o : Obj} : (w.heap.push o)[w.heap.size]? = some o := by simp
theorem OR_cells {b ty e : Nat} {cs : List SV} {arr : Array Value} {fr : Nat × Nat} (hw : w.heap[(φ b).1]? = some (.cells arr ty fr)) (hs : arr.size = (φ b).2) (hl : cs.length ≤ arr.size) (hf : ∀ i, i < arr.size → ¬ (fr.1 ≤ i ∧ i < fr.2))
    (ha : ∀ i, i < arr.size → (arr.getD i undef).oneCell' = true) (hv : ∀ i c, cs[i]? = some c → SVR M φ H c (arr.getD i undef)) : OR X M φ H b w (.cells ty e cs) := ⟨arr, fr, hw, hs, hl, hf, ha, hv⟩
/-- New cells that are all known. -/
theorem push_cells (hR : Rel X M φ H w) {arr : Array Value} {ty e : Nat} {cs : List SV} (fr : Nat × Nat) (hf : ∀ i, i < arr.size → ¬ (fr.1 ≤ i ∧ i < fr.2)) (hl : cs.length ≤ arr.size) (ha : ∀ i, i < arr.size → (arr.getD i undef).oneCell' = true) (hv : ∀ i c, cs[i]? = some c → SVR M φ H c (arr.getD i undef)) :
    ∃ φ', Rel X M φ' (H ++ [.cells ty e cs]) { w with heap := w.heap.push (.cells arr ty fr) } ∧ Trans H.length M φ H w M φ' (H ++ [.cells ty e cs]) { w with heap := w.heap.push (.cells arr ty fr) } ∧ φ' H.length = (w.heap.size, arr.size) ∧
      ∀ v y, SVR M φ H v y → SVR M φ' (H ++ [.cells ty e cs]) v y :=
  push_sound hR fun φ' hS hp => OR_cells (by rw [hp]; exact push_get) (by rw [hp]) hl hf ha fun i c hc => hS _ _ (hv i c hc)
theorem ptr_new {ty e : Nat} {cs : List SV} {p : Nat × Nat} (hp : φ' H.length = p) : SVR M φ' (H ++ [.cells ty e cs]) (.ptr H.length 0 cs.length) (.pointer (some ⟨p.1, 0, none⟩)) := by
  refine .ptr _ _ _ _ _ (by simp) (fun ty' e' cs' h => ?_) fun ty' e' cs' h hl => ⟨by rw [hp], rfl⟩
  rw [get_snoc] at h; injection h with h; injection h with _ _ h; subst h; exact Nat.le_refl _
theorem row_new {ty e n cap : Nat} {cs : List SV} {p : Nat × Nat} {x : Bool} (hp : φ' H.length = p) (hc : n ≤ cap) (hx : x = true → cap = n) (hcap : cap * e ≤ p.2) (hver : x = false → cs.length ≤ cap * e) : SVR M φ' (H ++ [.cells ty e cs]) (.row H.length 0 n cs.length x) (.slice (some ⟨p.1, 0, none⟩) n cap) := by
  refine .row _ _ _ _ _ _ _ hc (fun _ => ⟨_, _, rfl⟩) (by simp) (fun ty' e' cs' h => ?_) fun ty' e' cs' h hl => ⟨.inl (by rw [hp]), hx, fun hx' _ => ?_⟩
  · rw [get_snoc] at h; injection h with h; injection h with _ _ h; subst h; exact Nat.le_refl _
  · rw [get_snoc] at h; injection h with h; injection h with _ h _; subst h; rw [hp]; exact ⟨hver hx', hcap⟩
/-- New cells that nobody writes. -/
theorem push_frozen (hR : Rel X M φ H w) {arr : Array Value} {ty : Nat} (fr : Nat × Nat) (ha : ∀ i, i < arr.size → (arr.getD i undef).oneCell' = true) :
    ∃ M', Rel X M' φ H { w with heap := w.heap.push (.cells arr ty fr) } ∧ Trans H.length M φ H w M' φ H { w with heap := w.heap.push (.cells arr ty fr) } ∧ (∀ i, i < arr.size → M'.cell w.heap.size i = some (arr.getD i undef)) ∧ M.le M' := by
  let M' : Mem := { cell := fun b o => if b = w.heap.size then arr[o]? else M.cell b o, obj := M.obj }
  have hno : ¬ M.has w.heap.size := fun h => by have := hR.has_lt h; omega
  have hle : M.le M' := ⟨fun b o v h => by
    show (if b = w.heap.size then arr[o]? else M.cell b o) = some v
    rw [if_neg (fun e => hno (by rw [← e]; exact .inl ⟨o, v, h⟩))]; exact h, fun r x h => h⟩
  have c : Change X M φ H w H.length M' φ H { w with heap := w.heap.push (.cells arr ty fr) } := {
    hH := fun _ _ => rfl, hφ := fun _ _ => rfl, hlen := Nat.le_refl _, os := rfl, tape := rfl, output := rfl, size := by simp, heap := fun k hk _ => push_old hk, le := hle
    mc := fun b o v h' => by
      have h : (if b = w.heap.size then arr[o]? else M.cell b o) = some v := h'
      clear h'
      split at h
      · rename_i e; subst e
        have ho : o < arr.size := (Array.getElem?_eq_some_iff.1 h).1
        have hv : arr.getD o undef = v := by rw [Array.getD_eq_getD_getElem?, h]; rfl
        exact .inr ⟨by rw [← hv]; exact ha o ho, by rw [cell_of push_get]; exact h⟩
      · exact .inl h
    mo := fun _ _ h => .inl h
    has := fun k h => by
      rcases h with ⟨o, v, h⟩ | h
      · have h : (if k = w.heap.size then arr[o]? else M.cell k o) = some v := h
        split at h
        · rename_i e; exact .inr (by omega)
        · exact .inl (.inl ⟨o, v, h⟩)
      · exact .inl (.inr h)
    place := fun h => absurd h not_live_end
    same := fun h => absurd h (by omega) }
  refine ⟨M', c.rel hR fun x hx => by simp at hx, c.trans, fun i hi => ?_, hle⟩
  show (if w.heap.size = w.heap.size then arr[i]? else M.cell w.heap.size i) = _
  rw [if_pos rfl, getD_some (d := undef) hi]

/-! ### an object turned in its place -/
theorem set_change {b : Nat} {x x' : SObj} {w' : World} (hb : H[b]? = some x) (hx : x ≠ .dead) (hos : w'.os = w.os) (htp : w'.tape = w.tape) (hout : w'.output = w.output) (hsz : w'.heap.size = w.heap.size)
    (hh : ∀ k, k ≠ (φ b).1 → w'.heap[k]? = w.heap[k]?) (hs : Same φ H φ (H.set b x') b) : Change X M φ H w b M φ (H.set b x') w' where
  hH b' h := by rw [List.getElem?_set_ne (Ne.symm h)]
  hφ _ _ := rfl
  hlen := by simp
  os := hos
  tape := htp
  output := hout
  size := by omega
  heap k _ hk := hh k (hk ⟨x, hb, hx⟩)
  le := Mem.le_refl _
  mc _ _ _ h := .inl h
  mo _ _ h := .inl h
  has _ h := .inl h
  place _ := .inl ⟨⟨x, hb, hx⟩, rfl⟩
  same _ := hs
theorem get_set {b : Nat} {x x' : SObj} (hb : H[b]? = some x) : (H.set b x')[b]? = some x' := by
  rw [List.getElem?_set_self (List.getElem?_eq_some_iff.1 hb).1]
theorem set_cells_same {b ty e : Nat} {cs cs' : List SV} (hb : H[b]? = some (.cells ty e cs)) (hl : cs.length ≤ cs'.length) : Same φ H φ (H.set b (.cells ty e cs')) b := by
  have hg := get_set (x' := .cells ty e cs') hb
  refine ⟨fun ty1 e1 c1 h => ?_, fun es c h => ?_, fun m a s t h => ?_, fun e' p a c s j h => ?_⟩
  · rw [hg] at h; injection h with h; injection h with h1 h2 h3; subst h1; subst h2; subst h3; exact ⟨cs, hb, hl, fun _ => rfl⟩
  all_goals (rw [hg] at h; cases h)
theorem set_map_same {b c c' : Nat} {es es' : List (FV × SV × Nat)} (hb : H[b]? = some (.map es c)) : Same φ H φ (H.set b (.map es' c')) b := by
  have hg := get_set (x' := .map es' c') hb
  refine ⟨fun ty1 e1 c1 h => ?_, fun es c h => ⟨⟨_, _, hb⟩, rfl⟩, fun m a s t h => ?_, fun e' p a c s j h => ?_⟩
  all_goals (rw [hg] at h; cases h)
theorem set_iter_same {b : Nat} {m m' : SV} {a a' : Nat} {s s' : List Nat} {t t' : Nat} (hb : H[b]? = some (.iter m a s t)) : Same φ H φ (H.set b (.iter m' a' s' t')) b := by
  have hg := get_set (x' := .iter m' a' s' t') hb
  refine ⟨fun ty1 e1 c1 h => ?_, fun es c h => ?_, fun m a s t h => ⟨⟨_, _, _, _, hb⟩, rfl⟩, fun e' p a c s j h => ?_⟩
  all_goals (rw [hg] at h; cases h)
theorem set_loop_same {b : Nat} {e e' : List SV} {p p' : List Nat} {a a' c c' : DCode} {s s' : LState} {j j' : Ex} (hb : H[b]? = some (.loop e p a c s j)) : Same φ H φ (H.set b (.loop e' p' a' c' s' j')) b := by
  have hg := get_set (x' := .loop e' p' a' c' s' j') hb
  refine ⟨fun ty1 e1 c1 h => ?_, fun es c h => ?_, fun m a s t h => ?_, fun e' p a c s j h => ⟨⟨_, _, _, _, _, _, hb⟩, rfl⟩⟩
  all_goals (rw [hg] at h; cases h)
end Go.Det

/- Variables, aggregates, slices that are made, stores. -/
set_option linter.unusedVariables false
set_option linter.unusedSimpArgs false
namespace Go.Det
variable {X : Fix} {M : Mem} {φ : Place} {H : List SObj} {w : World}

/-- Cells and the model's, one by one. -/
structure CR (M : Mem) (φ : Place) (H : List SObj) (cs : List SV) (arr : Array Value) : Prop where
  len : arr.size = cs.length
  one : ∀ i, i < cs.length → (arr.getD i undef).oneCell' = true
  val : ∀ i c, cs[i]? = some c → SVR M φ H c (arr.getD i undef)
theorem CR.of_cells {v : SV} {x : Value} {l : List SV} (h : SVR M φ H v x) (he : cellsOf v = some l) : CR M φ H l x.cells :=
  ⟨(cellsOf_sound h he).1, (cellsOf_sound h he).2.1, (cellsOf_sound h he).2.2⟩
theorem cr_f {cs : List FV} {arr : Array Value} (hl : arr.size = cs.length) (ha : ∀ i, i < cs.length → (arr.getD i undef).oneCell' = true) (hv : ∀ i c, cs[i]? = some c → VR M c (arr.getD i undef)) : CR M φ H (cs.map .f) arr :=
  ⟨by simpa using hl, fun i hi => ha i (by simpa using hi), fun i c hc => by
    simp only [List.getElem?_map, Option.map_eq_some_iff] at hc
    obtain ⟨f, hf, rfl⟩ := hc
    exact .f _ _ (hv i f hf)⟩
/-- A type's zero value. -/
theorem zeroOf_sound {t : TypeId} {z : FV} (h : zeroOf X.c.p t = some z) : ∃ x, (∀ w, (zeroValue t).run X.c.p w = .ok x w) ∧ VR M z x := by
  unfold zeroOf at h
  split at h
  · rename_i i hi
    split at h
    · rename_i v hv
      exact ⟨v, fun w => by simp [zeroValue, typeInfo, hi, hv], fvOf_sound 3 v z h⟩
    · cases h
  · cases h
theorem one_of_VR {z : FV} {x : Value} (h : VR M z x) (hz : ∀ cs, z ≠ .agg cs) (hz' : ∀ cs, z ≠ .tup cs) : x.oneCell' = true := by
  cases h <;> first | rfl | exact absurd rfl (hz _) | exact absurd rfl (hz' _)
theorem zeroCells_sound {t : TypeId} {z : List FV} (h : zeroCells X.c.p t = some z) : ∃ x, (∀ w, (zeroValue t).run X.c.p w = .ok x w) ∧ CR M φ H (z.map .f) x.cells := by
  have ⟨f, hf, hnt, hz⟩ : ∃ f, zeroOf X.c.p t = some f ∧ (∀ cs, f ≠ .tup cs) ∧ cellsF f = z := by
    unfold zeroCells at h
    split at h
    · cases h
    · rename_i f hn hf; injection h with h; exact ⟨f, hf, fun cs he => hn cs (by rw [he]), h⟩
    · cases h
  obtain ⟨x, hx, hv⟩ := zeroOf_sound (M := M) hf
  refine ⟨x, hx, ?_⟩
  cases f with
  | agg cs =>
    simp only [cellsF] at hz; subst hz
    cases hv with
    | agg _ arr hl ha hv => exact cr_f hl ha hv
  | tup cs => exact absurd rfl (hnt cs)
  | _ =>
    simp only [cellsF] at hz; subst hz
    have ho : x.oneCell' = true := one_of_VR hv (fun _ h => by cases h) (fun _ h => by cases h)
    rw [cells_one ho]
    refine cr_f rfl (fun i hi => ?_) fun i c hc => ?_
    · have : i = 0 := by simpa using hi
      subst this; exact ho
    · cases i with
      | zero => simp at hc; subst hc; exact hv
      | succ i => simp at hc
theorem box_sound (hR : Rel X M φ H w) {t : TypeId} {v : SV} {x : Value} {cs : List SV} (hv : SVR M φ H v x) (hc : cellsOf v = some cs) :
    OpOut X M φ H w (.ptr H.length 0 cs.length, H ++ [.cells t 0 cs]) (do pure (Next.value (← Instr.box t x))) := by
  have c := CR.of_cells hv hc
  obtain ⟨φ', h1, h2, h3, h4⟩ := push_cells (ty := t) (e := 0) hR (0, 0) (by simp) (Nat.le_of_eq c.len.symm) (fun i hi => c.one i (by rw [← c.len]; exact hi)) c.val
  exact ⟨.pointer (some ⟨w.heap.size, 0, none⟩), _, M, φ', .value (run_next (by simp [Instr.box, newVar, newRow])), ptr_new h3, h1, h2⟩
theorem alloc_sound (hR : Rel X M φ H w) {t : TypeId} {z : List FV} (h : zeroCells X.c.p t = some z) :
    OpOut X M φ H w (.ptr H.length 0 z.length, H ++ [.cells t 0 (z.map .f)]) (do pure (Next.value (← Instr.alloc t true (.tuple #[])))) := by
  obtain ⟨x, hx, c⟩ := zeroCells_sound (M := M) (φ := φ) (H := H) h
  obtain ⟨φ', h1, h2, h3, h4⟩ := push_cells (ty := t) (e := 0) hR (0, 0) (by simp) (Nat.le_of_eq c.len.symm) (fun i hi => c.one i (by rw [← c.len]; exact hi)) c.val
  refine ⟨.pointer (some ⟨w.heap.size, 0, none⟩), _, M, φ', .value (run_next (by simp [Instr.alloc, hx, newVar, newRow])), ?_, h1, h2⟩
  have := ptr_new (M := M) (e := 0) (ty := t) (cs := z.map .f) h3
  simpa using this

/-! ### cells put into cells -/
theorem foldl_put (off : Nat) : ∀ (l : List Value) (k : Nat) (arr : Array Value),
    ((l.zipIdx k).foldl (fun cs (p : Value × Nat) => cs.setIfInBounds (off + p.2) p.1) arr).size = arr.size ∧
    ∀ i, ((l.zipIdx k).foldl (fun cs (p : Value × Nat) => cs.setIfInBounds (off + p.2) p.1) arr).getD i undef = if off + k ≤ i ∧ i < off + k + l.length ∧ i < arr.size then l.getD (i - (off + k)) undef else arr.getD i undef
  | [], k, arr => ⟨rfl, fun i => by simp only [List.zipIdx_nil, List.foldl_nil, List.length_nil]; rw [if_neg (by omega)]⟩
  | v :: l, k, arr => by
    simp only [List.zipIdx_cons, List.foldl_cons]
    obtain ⟨h1, h2⟩ := foldl_put off l (k + 1) (arr.setIfInBounds (off + k) v)
    refine ⟨by rw [h1]; simp, fun i => ?_⟩
    rw [h2 i]
    simp only [Array.size_setIfInBounds, List.length_cons]
    by_cases hi : i = off + k
    · subst hi
      by_cases hs : off + k < arr.size
      · rw [if_neg (by omega), if_pos (by omega)]
        rw [Array.getD_eq_getD_getElem?, Array.getElem?_setIfInBounds_self_of_lt hs]
        simp
      · rw [if_neg (by omega), if_neg (by omega)]
        rw [Array.getD_eq_getD_getElem?, Array.getD_eq_getD_getElem?, Array.getElem?_eq_none (by simp; omega), Array.getElem?_eq_none (by omega)]
    · have he : (arr.setIfInBounds (off + k) v).getD i undef = arr.getD i undef := by
        rw [Array.getD_eq_getD_getElem?, Array.getD_eq_getD_getElem?, Array.getElem?_setIfInBounds_ne (Ne.symm hi)]
      rw [he]
      by_cases hc : off + (k + 1) ≤ i ∧ i < off + (k + 1) + l.length ∧ i < arr.size
      · rw [if_pos hc, if_pos (by omega)]
        rw [show i - (off + k) = (i - (off + (k + 1))) + 1 by omega, List.getD_cons_succ]
      · rw [if_neg hc, if_neg (by omega)]
theorem put_sound {cs new : List SV} {arr narr : Array Value} {off : Nat} (hc : CR M φ H cs arr) (hn : CR M φ H new narr) (hle : off + new.length ≤ cs.length) :
    CR M φ H (cs.take off ++ new ++ cs.drop (off + new.length)) (narr.zipIdx.foldl (fun cs (p : Value × Nat) => cs.setIfInBounds (off + p.2) p.1) arr) := by
  have e : narr.zipIdx.foldl (fun cs (p : Value × Nat) => cs.setIfInBounds (off + p.2) p.1) arr = (narr.toList.zipIdx 0).foldl (fun cs (p : Value × Nat) => cs.setIfInBounds (off + p.2) p.1) arr := by
    rw [← Array.foldl_toList, Array.toList_zipIdx]
  rw [e]
  obtain ⟨h1, h2⟩ := foldl_put off narr.toList 0 arr
  have hnl : narr.toList.length = new.length := by rw [Array.length_toList, hn.len]
  have hget : ∀ j, narr.toList.getD j undef = narr.getD j undef := fun j => by
    rw [List.getD_eq_getElem?_getD, Array.getD_eq_getD_getElem?, Array.getElem?_toList]
  have hlen : (cs.take off ++ new ++ cs.drop (off + new.length)).length = cs.length := by simp; omega
  have hgl : ∀ i, (cs.take off ++ new ++ cs.drop (off + new.length))[i]? = if off ≤ i ∧ i < off + new.length then new[i - off]? else cs[i]? := by
    intro i
    by_cases hi : i < off
    · rw [if_neg (by omega), List.append_assoc, List.getElem?_append_left (by simp; omega), List.getElem?_take, if_pos hi]
    · by_cases hi2 : i < off + new.length
      · rw [if_pos (by omega), List.append_assoc, List.getElem?_append_right (by simp; omega), List.getElem?_append_left (by simp; omega)]
        congr 1; simp; omega
      · rw [if_neg (by omega), List.getElem?_append_right (by simp; omega), List.getElem?_drop]
        congr 1; simp; omega
  refine ⟨by rw [h1, hlen]; exact hc.len, fun i hi => ?_, fun i c hci => ?_⟩
  · rw [hlen] at hi
    rw [h2 i, hnl, hget]
    have := hc.len
    split
    · exact hn.one _ (by omega)
    · exact hc.one i hi
  · rw [hgl] at hci
    have hi : i < cs.length := by
      split at hci
      · omega
      · exact (List.getElem?_eq_some_iff.1 hci).1
    have := hc.len
    rw [h2 i, hnl, hget]
    by_cases hif : off ≤ i ∧ i < off + new.length
    · rw [if_pos hif] at hci
      rw [if_pos (by omega), Nat.add_zero]; exact hn.val _ _ hci
    · rw [if_neg hif] at hci
      rw [if_neg (by omega)]; exact hc.val _ _ hci
/-- Parts, each with its place. -/
inductive PR (M : Mem) (φ : Place) (H : List SObj) (place : Nat → Option (Nat × Nat)) : List (Nat × Nat × SV) → List (Nat × Value) → Prop
  | nil : PR M φ H place [] []
  | cons (off size v i x r r') (hp : place i = some (off, size)) (hv : SVR M φ H v x) (h : PR M φ H place r r') : PR M φ H place ((off, size, v) :: r) ((i, x) :: r')
theorem fill_sound {place : Nat → Option (Nat × Nat)} {ps : List (Nat × Nat × SV)} {rs : List (Nat × Value)} (h : PR M φ H place ps rs) : ∀ {cs cs' : List SV} {arr : Array Value}, fill cs ps = some cs' → CR M φ H cs arr →
    ∃ arr', Instr.fill place arr rs = some arr' ∧ CR M φ H cs' arr' := by
  induction h with
  | nil => intro cs cs' arr h hc; simp [fill] at h; subst h; exact ⟨arr, rfl, hc⟩
  | cons off size v i x r r' hp hv _ ih =>
    intro cs cs' arr h hc
    simp only [fill] at h
    split at h
    · rename_i new hn
      split at h
      · rename_i hg
        have cn := CR.of_cells hv hn
        have hput := put_sound hc cn (off := off) (by omega)
        rw [hg.1] at hput
        obtain ⟨arr', h1, h2⟩ := ih h hput
        refine ⟨arr', ?_, h2⟩
        have e1 := cn.len
        have e2 := hc.len
        have hcond : (decide (x.cells.size ≠ size) || decide (off + x.cells.size > arr.size)) = false := by
          rw [e1, e2]; simp; omega
        simp only [Instr.fill, hp]
        rw [hcond]
        exact h1
      · cases h
    · cases h

theorem partOffs_sound (hR : Rel X M φ H w) {env : List SV} {tm : Array Value} (hE : EnvR M φ H env tm) {place : Nat → Option (Nat × Nat)} (f : Nat → Option (Nat × Nat)) (hf : ∀ i p, f i = some p → place i = some p) :
    ∀ (parts : List (Nat × Operand)) (ps : List (Nat × Nat × Opd)), parts.mapM (fun (q : Nat × Operand) => (f q.1).map fun p => (p.1, p.2, opd X.c q.2)) = some ps → (ps.map (·.2.2)).all okOpd = true →
      PR M φ H place (partsOf env ps) (parts.map fun (i, x) => (i, evalT tm x))
  | [], ps, h, _ => by simp at h; subst h; exact .nil
  | (i, x) :: r, ps, h, ho => by
    simp only [List.mapM_cons, Option.bind_eq_bind] at h
    cases hfi : f i with
    | none => simp [hfi] at h
    | some p =>
      cases hr : r.mapM (fun (q : Nat × Operand) => (f q.1).map fun p => (p.1, p.2, opd X.c q.2)) with
      | none => simp [hfi, hr] at h
      | some ps' =>
        simp [hfi, hr] at h
        subst h
        simp only [List.map_cons, List.all_cons, Bool.and_eq_true] at ho
        exact .cons p.1 p.2 _ i _ _ _ (hf i p hfi) (opd_sound hR hE ho.1) (partOffs_sound hR hE f hf r ps' hr ho.2)
/-- 'partOffs', by the place of each part. -/
def placeOf (p : Program) (t : TypeId) : Nat → Option (Nat × Nat) :=
  match p.underlying t with
  | some (.struct fs) => fun i => (fs[i]?).map fun f => (f.offset, sizeB p f.type)
  | some (.array _ e) | some (.slice e) => fun i => some (i * sizeB p e, sizeB p e)
  | _ => fun _ => none
theorem partOffs_place {t : TypeId} {parts : List (Nat × Operand)} {ps : List (Nat × Nat × Opd)} (h : partOffs X.c.p t parts X.c = some ps) :
    parts.mapM (fun (q : Nat × Operand) => (placeOf X.c.p t q.1).map fun p => (p.1, p.2, opd X.c q.2)) = some ps := by
  unfold partOffs at h
  unfold placeOf
  split at h
  · rename_i fs hu
    rw [hu]
    rw [← h]
    congr 1
    funext q
    cases hq : fs[q.1]? <;> simp [hq]
  · rename_i n e hu
    rw [hu, ← h]
    simp only [Option.map_some]
    clear h
    induction parts with
    | nil => rfl
    | cons q r ih => simp [List.mapM_cons, ih]
  · rename_i e hu
    rw [hu, ← h]
    simp only [Option.map_some]
    clear h
    induction parts with
    | nil => rfl
    | cons q r ih => simp [List.mapM_cons, ih]
  · cases h
end Go.Det

/- Aggregates, slices that are made, stores. -/
set_option linter.unusedVariables false
set_option linter.unusedSimpArgs false
namespace Go.Det
variable {X : Fix} {M : Mem} {φ : Place} {H : List SObj} {w : World}

theorem run_mapM {P : Program} {α β : Type} {f : α → Sem β} {g : α → β} (l : List α) (h : ∀ a ∈ l, ∀ w, (f a).run P w = .ok (g a) w) : (l.mapM f).run P w = .ok (l.map g) w := by
  induction l with
  | nil => rfl
  | cons a l ih =>
    simp only [List.mapM_cons, Sem.run_bind, h a (by simp), Result.andThen_ok, ih fun b hb => h b (by simp [hb]), Sem.run_pure, List.map_cons]
theorem run_places {P : Program} {fs : Array Field} (h : (fs.all fun f => okT P f.type) = true) : (fs.mapM fun f => do pure (f.offset, ← sizeOf f.type) : Sem (Array (Nat × Nat))).run P w = .ok (fs.map fun f => (f.offset, sizeB P f.type)) w := by
  rw [Array.mapM_eq_mapM_toList, Sem.run_map, run_mapM (g := fun f => (f.offset, sizeB P f.type)) fs.toList fun f hf w => by
    have := Array.all_eq_true_iff_forall_mem.1 h f (by simpa using hf)
    simp [run_sizeOf' this]]
  simp only [Result.andThen_ok]
  congr 1
  apply Array.ext'; simp
theorem build_sound (hR : Rel X M φ H w) {env : List SV} {tm : Array Value} (hE : EnvR M φ H env tm) {t : TypeId} {parts : Array (Nat × Operand)} {z : List FV} {ps : List (Nat × Nat × Opd)} {cs : List SV}
    (hz : zeroCells X.c.p t = some z) (hp : partOffs X.c.p t parts.toList X.c = some ps) (ha : aggB X.c.p t = true) (hk : partsOk X.c.p t = true) (ho : (ps.map (·.2.2)).all okOpd = true) (hf : fill (z.map .f) (partsOf env ps) = some cs) :
    ∃ y, (Instr.build t (parts.map fun (i, x) => (i, evalT tm x))).run X.c.p w = .ok y w ∧ SVR M φ H (mkAgg cs) y := by
  obtain ⟨zx, hzx, cz⟩ := zeroCells_sound (M := M) (φ := φ) (H := H) hz
  have hpl := partOffs_place hp
  cases hu : X.c.p.underlying t with
  | none => simp [aggB, hu] at ha
  | some d =>
    cases d with
    | struct fs =>
      simp only [partsOk, hu] at hk
      have hpr := partOffs_sound hR hE (place := fun i => (fs.map fun f => (f.offset, sizeB X.c.p f.type))[i]?) (placeOf X.c.p t) (fun i p h => by simp only [placeOf, hu] at h; simpa using h) parts.toList ps hpl ho
      obtain ⟨arr', h1, h2⟩ := fill_sound hpr hf cz
      refine ⟨.agg arr', ?_, mkAgg_sound h2.len h2.one h2.val⟩
      simp only [Instr.build, Sem.run_bind, hzx, Result.andThen_ok, run_underlying' hu, run_places hk, Array.toList_map, h1, Sem.run_pure]
    | array n e =>
      simp only [partsOk, hu] at hk
      have hpr := partOffs_sound hR hE (place := fun i => some (i * sizeB X.c.p e, sizeB X.c.p e)) (placeOf X.c.p t) (fun i p h => by simp only [placeOf, hu] at h; exact h) parts.toList ps hpl ho
      obtain ⟨arr', h1, h2⟩ := fill_sound hpr hf cz
      refine ⟨.agg arr', ?_, mkAgg_sound h2.len h2.one h2.val⟩
      simp only [Instr.build, Sem.run_bind, hzx, Result.andThen_ok, run_underlying' hu, run_sizeOf' hk, Array.toList_map, h1, Sem.run_pure]
    | _ => simp [aggB, hu] at ha
theorem rep_get {α : Type} (z : List α) (hp : 0 < z.length) : ∀ n i, i < n * z.length → (List.replicate n z).flatten[i]? = z[i % z.length]?
  | 0, i, h => by omega
  | n + 1, i, h => by
    rw [List.replicate_succ, List.flatten_cons]
    by_cases hi : i < z.length
    · rw [List.getElem?_append_left hi, Nat.mod_eq_of_lt hi]
    · rw [List.getElem?_append_right (by omega), Nat.mod_eq_sub_mod (by omega)]
      exact rep_get z hp n _ (by rw [Nat.succ_mul] at h; omega)
/-- A row of zero values. -/
theorem zeros_sound {z : List FV} {zx : Array Value} {n : Nat} (c : CR M φ H (z.map .f) zx) (hz : 0 < z.length ∨ n = 0) :
    CR M φ H ((List.replicate n z).flatten.map .f) ((Array.range (n * z.length)).map (zx[· % zx.size]!)) := by
  have hlen : (List.replicate n z).flatten.length = n * z.length := by simp
  have hs : zx.size = z.length := by simpa using c.len
  have hp : ∀ {i : Nat}, i < n * z.length → 0 < z.length := fun hi => by rcases hz with h | h; exact h; subst h; omega
  have hg : ∀ i, i < n * z.length → ((Array.range (n * z.length)).map (zx[· % zx.size]!)).getD i undef = zx.getD (i % z.length) undef := by
    intro i hi
    have hm : i % z.length < zx.size := by rw [hs]; exact Nat.mod_lt _ (hp hi)
    rw [Array.getD_eq_getD_getElem?, Array.getElem?_map, Array.getElem?_range, if_pos hi]
    simp only [Option.map_some, Option.getD_some, hs]
    rw [Array.getD_eq_getD_getElem?, Array.getElem?_eq_getElem hm]
    simp [hm]
  refine ⟨by simp, fun i hi => ?_, fun i v hv => ?_⟩
  · rw [List.length_map, hlen] at hi
    rw [hg i hi]
    exact c.one _ (by rw [List.length_map]; exact Nat.mod_lt _ (hp hi))
  · have hi : i < n * z.length := by have := (List.getElem?_eq_some_iff.1 hv).1; rw [List.length_map, hlen] at this; exact this
    rw [hg i hi]
    rw [List.getElem?_map, rep_get z (hp hi) n i hi, ← List.getElem?_map] at hv
    exact c.val _ _ hv
theorem fill_len : ∀ (ps : List (Nat × Nat × SV)) (cs cs' : List SV), fill cs ps = some cs' → cs'.length = cs.length
  | [], cs, cs', h => by simp [fill] at h; rw [h]
  | (off, size, v) :: r, cs, cs', h => by
    simp only [fill] at h
    split at h
    · rename_i new hn
      split at h
      · rename_i hg
        rw [fill_len r _ _ h]
        simp; omega
      · cases h
    · cases h
/-- A slice by its elements. -/
theorem mkslice_sound (hR : Rel X M φ H w) {env : List SV} {tm : Array Value} (hE : EnvR M φ H env tm) {t e : TypeId} {n : Nat} {parts : Array (Nat × Operand)} {z : List FV} {ps : List (Nat × Nat × Opd)} {cs : List SV}
    (hu : X.c.p.underlying t = some (.slice e)) (hz : zeroCells X.c.p e = some z) (hp : partOffs X.c.p t parts.toList X.c = some ps) (hk : okT X.c.p e = true) (hlz : z.length = sizeB X.c.p e) (hsz : n * sizeB X.c.p e ≤ 2 ^ 24) (ho : (ps.map (·.2.2)).all okOpd = true)
    (hf : fill ((List.replicate n z).flatten.map .f) (partsOf env ps) = some cs) :
    (∀ l, allF cs = some l → OpOut X M φ H w (.f (.sl true n l), H) (do pure (Next.value (← Instr.buildSlice t n (parts.map fun (i, x) => (i, evalT tm x)))))) ∧
    OpOut X M φ H w (.row H.length 0 n cs.length true, H ++ [.cells e (sizeB X.c.p e) cs]) (do pure (Next.value (← Instr.buildSlice t n (parts.map fun (i, x) => (i, evalT tm x))))) := by
  have hpr := partOffs_sound hR hE (place := fun i => some (i * sizeB X.c.p e, sizeB X.c.p e)) (placeOf X.c.p t) (fun i p h => by simp only [placeOf, hu] at h; exact h) parts.toList ps (partOffs_place hp) ho
  have key : ∃ arr, CR M φ H cs arr ∧ (Instr.buildSlice t n (parts.map fun (i, x) => (i, evalT tm x))).run X.c.p w = .ok (.slice (some ⟨w.heap.size, 0, none⟩) n n) { w with heap := w.heap.push (.cells arr e) } := by
    obtain ⟨zx, hzx, cz⟩ := zeroCells_sound (M := M) (φ := φ) (H := H) hz
    have hs : zx.cells.size = z.length := by simpa using cz.len
    have h24 : ¬ n * sizeB X.c.p e > 2 ^ 24 := by omega
    by_cases h0 : n * sizeB X.c.p e = 0
    · have hrow : CR M φ H ((List.replicate n z).flatten.map .f) ((Array.range (n * sizeB X.c.p e)).map ((#[] : Array Value)[· % (#[] : Array Value).size]!)) := by
        have : (List.replicate n z).flatten = [] := List.eq_nil_of_length_eq_zero (by rw [List.length_flatten]; simp [hlz, h0])
        rw [this, h0]
        exact ⟨by simp, fun i hi => by simp at hi, fun i c hc => by simp at hc⟩
      obtain ⟨arr, h1, h2⟩ := fill_sound hpr hf hrow
      refine ⟨arr, h2, ?_⟩
      simp only [Instr.buildSlice, Sem.run_bind, run_underlying' hu, Result.andThen_ok, run_sizeOf' hk, if_neg h24, if_pos h0, Sem.run_pure, Array.toList_map, h1, newRow, run_newObj]
    · have hrow := zeros_sound (n := n) cz (.inl (by rw [hlz]; exact Nat.pos_of_ne_zero fun h => h0 (by rw [h, Nat.mul_zero])))
      rw [hlz] at hrow
      obtain ⟨arr, h1, h2⟩ := fill_sound hpr hf hrow
      refine ⟨arr, h2, ?_⟩
      simp only [Instr.buildSlice, Sem.run_bind, run_underlying' hu, Result.andThen_ok, run_sizeOf' hk, if_neg h24, if_neg h0, hzx, Sem.run_pure, Array.toList_map, h1, newRow, run_newObj]
  obtain ⟨arr, hc, hr⟩ := key
  have hone : ∀ i, i < arr.size → (arr.getD i undef).oneCell' = true := fun i hi => hc.one i (by rw [← hc.len]; exact hi)
  constructor
  · intro l hl
    have := allF_get hl; subst this
    obtain ⟨M', h1, h2, h3, h4⟩ := push_frozen (ty := e) hR (0, 0) hone
    have hal : arr.size = l.length := by simpa using hc.len
    refine ⟨_, _, M', φ, .value (run_next hr), .f _ _ (.sl true n l _ _ _ (fun i => arr.getD i undef) (fun i hi => by rw [Nat.zero_add]; exact h3 i (by omega)) (fun i c hci => ?_) (fun _ => rfl) (Nat.le_refl _)), h1, h2⟩
    exact (parts_f hc.val i c hci).mono h4
  · obtain ⟨φ', h1, h2, h3, h4⟩ := push_cells (ty := e) (e := sizeB X.c.p e) hR (0, 0) (by simp) (Nat.le_of_eq hc.len.symm) hone hc.val
    refine ⟨_, _, M, φ', .value (run_next hr), row_new h3 (Nat.le_refl _) (fun _ => rfl) ?_ (fun h => nomatch h), h1, h2⟩
    have := fill_len _ _ _ hf
    rw [List.length_map, List.length_flatten] at this
    simp at this
    show n * sizeB X.c.p e ≤ arr.size
    rw [hc.len, this, hlz]; exact Nat.le_refl _

/-! ### stores -/
theorem storeCells_run {P : Program} {blk : Nat} {ty : TypeId} {fr : Nat × Nat} : ∀ (vs : List Value) (i off : Nat) (arr : Array Value) (w : World), w.heap[blk]? = some (.cells arr ty fr) → off + i + vs.length ≤ arr.size → (∀ k, k < arr.size → ¬ (fr.1 ≤ k ∧ k < fr.2)) →
    (∀ v ∈ vs, v.oneCell' = true) → ∃ w' arr', (storeCells ⟨blk, off, none⟩ vs i).run P w = .ok () w' ∧ w'.os = w.os ∧ w'.tape = w.tape ∧ w'.output = w.output ∧ w'.heap.size = w.heap.size ∧ (∀ k, k ≠ blk → w'.heap[k]? = w.heap[k]?) ∧
      w'.heap[blk]? = some (.cells arr' ty fr) ∧ arr'.size = arr.size ∧ ∀ k, arr'.getD k undef = if off + i ≤ k ∧ k < off + i + vs.length then vs.getD (k - (off + i)) undef else arr.getD k undef
  | [], i, off, arr, w, hb, hl, hf, ho => ⟨w, arr, rfl, rfl, rfl, rfl, rfl, fun _ _ => rfl, hb, rfl, fun k => by rw [if_neg (by simp only [List.length_nil]; omega)]⟩
  | v :: vs, i, off, arr, w, hb, hl, hf, ho => by
    simp only [List.length_cons] at hl
    have hbs : blk < w.heap.size := (Array.getElem?_eq_some_iff.1 hb).1
    have hc : w.cell? ((⟨blk, off, none⟩ : Addr).add i) = some (arr.getD (off + i) undef) := by rw [add_plain, cell_of hb, getD_some (d := undef) (by omega)]
    have hz : w.frozen? ((⟨blk, off, none⟩ : Addr).add i) = false := by
      rw [add_plain]
      have h := hf (off + i) (by omega)
      obtain ⟨lo, hi⟩ := fr
      simp only [World.frozen?, hb]
      cases hq : (decide (lo ≤ off + i) && decide (off + i < hi)) with
      | false => rfl
      | true => simp only [Bool.and_eq_true, decide_eq_true_eq] at hq; exact absurd hq h
    have hset : (w.setCell ((⟨blk, off, none⟩ : Addr).add i) v).heap[blk]? = some (.cells (arr.setIfInBounds (off + i) v) ty fr) := by
      rw [add_plain]
      simp only [World.setCell, Array.getElem?_modify, if_true, hb, Option.map_some]
      rfl
    have hother : ∀ k, k ≠ blk → (w.setCell ((⟨blk, off, none⟩ : Addr).add i) v).heap[k]? = w.heap[k]? := by
      intro k hk
      rw [add_plain]
      simp only [World.setCell, Array.getElem?_modify, if_neg (Ne.symm hk)]
    obtain ⟨w', arr', h1, h2, h3, h4, h5, h6, h7, h8, h9⟩ := storeCells_run (P := P) vs (i + 1) off (arr.setIfInBounds (off + i) v) _ hset (by simp; omega) (by simpa using hf) (fun u hu => ho u (by simp [hu]))
    refine ⟨w', arr', ?_, h2, h3, h4, ?_, fun k hk => (h6 k hk).trans (hother k hk), h7, by simpa using h8, fun k => ?_⟩
    · simp only [storeCells, Sem.run_bind, run_store P w _ v _ (ho v (by simp)), hc, hz, Bool.false_eq_true, if_false, Result.andThen_ok]
      exact h1
    · rw [h5]; simp [World.setCell]
    · rw [h9 k]
      simp only [List.length_cons]
      by_cases hk : k = off + i
      · subst hk
        rw [if_neg (by omega), if_pos (by omega), Nat.sub_self, List.getD_cons_zero, Array.getD_eq_getD_getElem?, Array.getElem?_setIfInBounds_self_of_lt (by omega)]
        rfl
      · have he : (arr.setIfInBounds (off + i) v).getD k undef = arr.getD k undef := by
          rw [Array.getD_eq_getD_getElem?, Array.getD_eq_getD_getElem?, Array.getElem?_setIfInBounds_ne (Ne.symm hk)]
        rw [he]
        by_cases hc2 : off + (i + 1) ≤ k ∧ k < off + (i + 1) + vs.length
        · rw [if_pos hc2, if_pos (by omega), show k - (off + i) = (k - (off + (i + 1))) + 1 by omega, List.getD_cons_succ]
        · rw [if_neg hc2, if_neg (by omega)]
/-- Cells behind one another, put into a live object. -/
theorem splice_get {cs new : List SV} {off i : Nat} (hle : off + new.length ≤ cs.length) : (cs.take off ++ new ++ cs.drop (off + new.length))[i]? = if off ≤ i ∧ i < off + new.length then new[i - off]? else cs[i]? := by
  by_cases hi : i < off
  · rw [if_neg (by omega), List.append_assoc, List.getElem?_append_left (by simp; omega), List.getElem?_take, if_pos hi]
  · by_cases hi2 : i < off + new.length
    · rw [if_pos (by omega), List.append_assoc, List.getElem?_append_right (by simp; omega), List.getElem?_append_left (by simp; omega)]
      congr 1; simp; omega
    · rw [if_neg (by omega), List.getElem?_append_right (by simp; omega), List.getElem?_drop]
      congr 1; simp; omega
/-- Cells stored into a live object from off on; the object may thereby get longer. -/
theorem put_live (hR : Rel X M φ H w) {b ty e off : Nat} {cs cs' new : List SV} {vs : List Value} (hb : H[b]? = some (.cells ty e cs)) (hl : cs.length ≤ cs'.length) (hfit : off + vs.length ≤ (φ b).2) (hcap : cs'.length ≤ (φ b).2)
    (hnl : vs.length = new.length) (hn1 : ∀ v ∈ vs, v.oneCell' = true) (hnv : ∀ i c, new[i]? = some c → SVR M φ H c (vs.getD i undef))
    (hget : ∀ i, cs'[i]? = if off ≤ i ∧ i < off + new.length then new[i - off]? else cs[i]?) (P : Program) :
    ∃ w', (storeCells ⟨(φ b).1, off, none⟩ vs).run P w = .ok () w' ∧ Rel X M φ (H.set b (.cells ty e cs')) w' ∧ Trans H.length M φ H w M φ (H.set b (.cells ty e cs')) w' ∧ ∀ v y, SVR M φ H v y → SVR M φ (H.set b (.cells ty e cs')) v y := by
  obtain ⟨arr, fr, g1, g2, g3, g4, g5, g6⟩ := live_cells hR hb
  obtain ⟨w', arr', h1, h2, h3, h4, h5, h6, h7, h8, h9⟩ := storeCells_run (P := P) vs 0 off arr w g1 (by omega) g4 hn1
  simp only [Nat.add_zero] at h9
  have c := set_change (X := X) (M := M) (x' := .cells ty e cs') hb (by intro h; cases h) h2 h3 h4 h5 h6 (set_cells_same (φ := φ) hb hl)
  refine ⟨w', h1, c.rel hR fun x hx => ?_, c.trans, fun v y hv => c.svr hv⟩
  rw [get_set hb] at hx; injection hx with hx; subst hx
  refine OR_cells h7 (by rw [h8]; exact g2) (by omega) (by rw [h8]; exact g4) (fun i hi => ?_) fun i v hv => ?_
  · rw [h9]
    split
    · rename_i hc
      have : vs.getD (i - off) undef ∈ vs := by
        rw [List.getD_eq_getElem?_getD, List.getElem?_eq_getElem (by omega)]; exact List.getElem_mem _
      exact hn1 _ this
    · exact g5 i (by omega)
  · rw [hget] at hv
    rw [h9, hnl]
    split at hv
    · rename_i hc; rw [if_pos hc]; exact c.svr (hnv _ _ hv)
    · rename_i hc; rw [if_neg hc]; exact c.svr (g6 _ _ hv)
theorem store_sound (hR : Rel X M φ H w) {t : TypeId} {p v : SV} {x y : Value} {H' : List SObj} (ht : okT X.c.p t = true) (h : stV H (sizeB X.c.p t) p v = some H') (hp : SVR M φ H p x) (hv : SVR M φ H v y) :
    OpOut X M φ H w (U, H') (do Instr.storeAt t x y; pure .skip) := by
  unfold stV at h
  split at h
  · rename_i b o ver
    split at h
    · rename_i ty e cs hb
      split at h
      · rename_i new hn
        split at h
        · rename_i hg
          obtain ⟨g1, g2, g3⟩ := hg
          injection h with h; subst h
          have c := CR.of_cells hv hn
          cases hp with
          | ptr _ _ _ k j _ _ hx =>
            obtain ⟨hk, hj⟩ := hx ty e cs hb g1
            rw [hk, hj]
            obtain ⟨arr, fr, l1, l2, l3, _⟩ := live_cells hR hb
            have hvl : y.cells.toList.length = new.length := by rw [Array.length_toList]; exact c.len
            obtain ⟨w', h1, h2, h3, h4⟩ := put_live (vs := y.cells.toList) (new := new) (off := o) (cs' := cs.take o ++ new ++ cs.drop (o + sizeB X.c.p t)) hR hb (by simp; omega) (by omega) (by simp; omega) hvl (fun v hv => by
                obtain ⟨i, hi, rfl⟩ := List.getElem_of_mem hv
                have := c.one i (by omega)
                rw [Array.getD_eq_getD_getElem?, ← Array.getElem?_toList, List.getElem?_eq_getElem hi] at this
                exact this) (fun i s hs => by
                have := c.val i s hs
                rw [Array.getD_eq_getD_getElem?, ← Array.getElem?_toList] at this
                rwa [List.getD_eq_getElem?_getD]) (fun i => by rw [← g2]; exact splice_get (by omega)) X.c.p
            refine ⟨undef, w', M, φ, .skip ?_ rfl, .f _ _ (.tup [] #[] rfl fun i c hc => by simp at hc), h2, h3⟩
            have hsz : y.cells.size = sizeB X.c.p t := by rw [c.len]; exact g2
            simp only [Instr.storeAt, Instr.sureAddr, storeVar, Sem.run_bind, Sem.run_pure, Result.andThen_ok, run_sizeOf' ht, hsz, ne_eq, not_true_eq_false, if_false, h1]
        · cases h
      · cases h
    · cases h
  · cases h
end Go.Det

/- append and copy. -/
set_option linter.unusedVariables false
set_option linter.unusedSimpArgs false
namespace Go.Det
variable {X : Fix} {M : Mem} {φ : Place} {H : List SObj} {w : World}

theorem Rel.drawn (h : Rel X M φ H w) (n : Nat) : Rel X M φ H { w with drawn := n } where
  gl := h.gl
  mc := h.mc
  mo := h.mo
  ob b x hx := by
    have := h.ob b x hx
    cases x <;> exact this
  inj := h.inj
  sep := h.sep
theorem CR.append {cs ds : List SV} {a b : Array Value} (h : CR M φ H cs a) (k : CR M φ H ds b) : CR M φ H (cs ++ ds) (a ++ b) := by
  have hg : ∀ i, (a ++ b).getD i undef = if i < a.size then a.getD i undef else b.getD (i - a.size) undef := by
    intro i
    rw [Array.getD_eq_getD_getElem?, Array.getD_eq_getD_getElem?, Array.getD_eq_getD_getElem?]
    by_cases hi : i < a.size
    · rw [if_pos hi, Array.getElem?_append_left hi]
    · rw [if_neg hi, Array.getElem?_append_right (by omega)]
  have hl := h.len
  refine ⟨by simp [h.len, k.len], fun i hi => ?_, fun i c hc => ?_⟩
  · rw [hg]
    rw [List.length_append] at hi
    by_cases h1 : i < a.size
    · rw [if_pos h1]; exact h.one i (by omega)
    · rw [if_neg h1]; exact k.one (i - a.size) (by omega)
  · rw [hg]
    by_cases hi : i < cs.length
    · rw [List.getElem?_append_left hi] at hc
      rw [if_pos (by omega)]; exact h.val _ _ hc
    · rw [List.getElem?_append_right (by omega)] at hc
      rw [if_neg (by omega), hl]; exact k.val _ _ hc
theorem src_sound (hR : Rel X M φ H w) {esz m : Nat} {v : SV} {x : Value} {new : List SV} (h : srcCells H esz v = some (m, new)) (hx : SVR M φ H v x) :
    new.length = m * esz ∧ (∀ w', (Builtin.lenOf x).run X.c.p w' = .ok m w') ∧ ∃ arr, CR M φ H new arr ∧ (Builtin.firstCells esz m x).run X.c.p w = .ok arr w := by
  unfold srcCells at h
  split at h
  · rename_i b
    split at h
    · rename_i he
      injection h with h; injection h with h1 h2; subst h1; subst h2; subst he
      rw [hx.str']
      refine ⟨by simp [byteVals], fun w' => by simp [Builtin.lenOf, size_mk], ?_⟩
      refine ⟨b.toArray.map fun b => .int .u8 b.toNat, cr_f (by simp [byteVals]) (fun i hi => ?_) (fun i c hc => ?_), ?_⟩
      · have hi : i < b.length := by simpa [byteVals] using hi
        simp [Array.getD_eq_getD_getElem?, hi, Value.oneCell']
      · simp only [byteVals, List.getElem?_map, Option.map_eq_some_iff] at hc
        obtain ⟨u, hu, rfl⟩ := hc
        simp [Array.getD_eq_getD_getElem?, hu]
        exact .int ..
      · have : (⟨b.toArray⟩ : ByteArray).extract 0 b.length = ⟨b.toArray⟩ := by rw [extract_mk]; simp
        simp [Builtin.firstCells, this]
    · cases h
  · obtain ⟨hl, a, cap, rfl, _⟩ := sliceCells_sound hR h hx
    obtain ⟨arr, h1, h2, h3, h4, h5⟩ := firstCells_sound hR h hx
    exact ⟨hl, fun w' => by simp [Builtin.lenOf], arr, ⟨by omega, fun i hi => h4 i (by omega), h5⟩, h1⟩
/-- What 'append' has to know of its types. -/
structure AppT (p : Program) (t1 t2 e : TypeId) (bytes : Nat) : Prop where
  sl : p.underlying t1 = some (.slice e)
  src : (∃ u, p.underlying t2 = some (.slice u)) ∨ p.underlying t2 = some .string
  ok : okT p e = true
  info : ∃ i, p.info? e = some i ∧ i.bytes = bytes
  pos : 0 < bytes
  zero : ∃ z, zeroCells p e = some z ∧ z.length = sizeB p e
theorem AppT.zeros {t1 t2 e : TypeId} {bytes : Nat} (a : AppT X.c.p t1 t2 e bytes) (w : World) : ((underlying t2 >>= fun d => pure (d matches .int _) : Sem Bool)).run X.c.p w = .ok false w := by
  rcases a.src with ⟨u, h⟩ | h <;> simp [run_underlying' h]
/-- The row that 'append' makes when there is no room. -/
theorem grow_run (hR : Rel X M φ H w) {t1 t2 e ty : TypeId} {bytes n m cap : Nat} {a : Option Addr} {x : Value} {cs new : List SV} (T : AppT X.c.p t1 t2 e bytes) (hb : (n + m) * bytes ≤ 140737488355328) (hcap : cap < n + m)
    (hcs : cs.length = n * sizeB X.c.p e) (hn : new.length = m * sizeB X.c.p e) (hlen : ∀ w', (Builtin.lenOf x).run X.c.p w' = .ok m w')
    (hold : ∀ w', Rel X M φ H w' → ∃ arr, CR M φ H cs arr ∧ (Builtin.firstCells (sizeB X.c.p e) n (.slice a n cap)).run X.c.p w' = .ok arr w')
    (hnew : ∀ w', Rel X M φ H w' → ∃ arr, CR M φ H new arr ∧ (Builtin.firstCells (sizeB X.c.p e) m x).run X.c.p w' = .ok arr w') :
    ∃ arr c', (Builtin.append_ #[t1, t2] ty #[.slice a n cap, x]).run X.c.p w = .ok (.slice (some ⟨w.heap.size, 0, none⟩) (n + m) c') { w with drawn := w.drawn + 1, heap := w.heap.push (.cells arr e) } ∧
      n + m ≤ c' ∧ c' * sizeB X.c.p e = arr.size ∧ (cs ++ new).length ≤ arr.size ∧ (∀ i, i < arr.size → (arr.getD i undef).oneCell' = true) ∧ (∀ i c, (cs ++ new)[i]? = some c → SVR M φ H c (arr.getD i undef)) := by
  obtain ⟨i, hi, rfl⟩ := T.info
  obtain ⟨z, hz, hzl⟩ := T.zero
  obtain ⟨zx, hzx, cz⟩ := zeroCells_sound (M := M) (φ := φ) (H := H) hz
  have hR1 : Rel X M φ H { w with drawn := w.drawn + 1 } := hR.drawn _
  obtain ⟨old, c1, r1⟩ := hold _ hR1
  obtain ⟨nw, c2, r2⟩ := hnew _ hR1
  have hc' : n + m ≤ Question.cut (.appendCap (n + m) cap e) (w.tape w.drawn (.appendCap (n + m) cap e)) := by simp only [Question.cut]; omega
  generalize hce : Question.cut (.appendCap (n + m) cap e) (w.tape w.drawn (.appendCap (n + m) cap e)) = c' at hc'
  have hrest : CR M φ H ((List.replicate (c' - (n + m)) z).flatten.map .f) (Builtin.zeroCells zx.cells (c' - (n + m))) := by
    have hs : zx.cells.size = z.length := by simpa using cz.len
    by_cases h0 : 0 < z.length
    · have := zeros_sound (n := c' - (n + m)) cz (.inl h0)
      simpa [Builtin.zeroCells, hs] using this
    · have hz0 : z = [] := List.eq_nil_of_length_eq_zero (by omega)
      subst hz0
      have : (List.replicate (c' - (n + m)) ([] : List FV)).flatten = [] := by simp
      rw [this]
      refine ⟨by simp [Builtin.zeroCells, hs], fun i hi => by simp at hi, fun i c hc => by simp at hc⟩
  have call := (c1.append c2).append hrest
  refine ⟨old ++ nw ++ Builtin.zeroCells zx.cells (c' - (n + m)), c', ?_, hc', ?_, ?_, fun i hi => call.one i (by rw [← call.len]; exact hi), fun i c hc => call.val i c (by rw [List.getElem?_append_left (List.getElem?_eq_some_iff.1 hc).1]; exact hc)⟩
  · have hnn : ¬ (n + m ≤ cap) := by omega
    have hg : ¬ (Builtin.nextslicecap (n + m) cap * i.bytes > 2 ^ 48) := by have := growslice_fits (bytes := i.bytes) hcap hb; omega
    have hbz : ¬ (i.bytes = 0) := by have := T.pos; omega
    have hz' := T.zeros w
    simp only [Sem.run_bind] at hz'
    have hsz : (sizeOf e).run X.c.p w = .ok (sizeB X.c.p e) w := run_sizeOf' T.ok w
    simp only [Builtin.append_, List.getElem?_toArray, List.getElem?_cons_zero, List.getElem?_cons_succ, Sem.run_bind, run_underlying' T.sl, Result.andThen_ok, hsz]
    rcases T.src with ⟨u, h2⟩ | h2
    all_goals
      simp only [run_underlying' h2, Result.andThen_ok, Sem.run_pure, Bool.false_eq_true, if_false, hlen, if_neg hnn, run_typeInfo hi, hbz, false_or, and_false, hg, Sem.run_ite, run_choose, Question.forced, run_askRoom, Sem.run_bind]
      simp only [hce, r1, r2, hzx, Result.andThen_ok, Bool.not_false, if_true, newRow, Sem.run_bind, run_newObj, Sem.run_pure]
  · have := call.len
    simp only [List.length_append, List.length_map, List.length_flatten, List.map_replicate, List.sum_replicate_nat, hcs, hn, hzl] at this
    rw [this, ← Nat.add_mul, ← Nat.add_mul]
    congr 1; omega
  · rw [call.len]; simp

/-- There is room: the cells are stored behind what is there. -/
theorem fit_run {t1 t2 e ty : TypeId} {bytes n m cap : Nat} {a : Option Addr} {x : Value} {arr : Array Value} {w' : World} (T : AppT X.c.p t1 t2 e bytes) (hcap : n + m ≤ cap) (hlen : ∀ w', (Builtin.lenOf x).run X.c.p w' = .ok m w')
    (hnew : (Builtin.firstCells (sizeB X.c.p e) m x).run X.c.p w = .ok arr w) (hst : match a with | some ad => (storeCells (ad.add (n * sizeB X.c.p e)) arr.toList).run X.c.p w = .ok () w' | none => w' = w) :
    (Builtin.append_ #[t1, t2] ty #[.slice a n cap, x]).run X.c.p w = .ok (.slice a (n + m) cap) w' := by
  have hsz : (sizeOf e).run X.c.p w = .ok (sizeB X.c.p e) w := run_sizeOf' T.ok w
  simp only [Builtin.append_, List.getElem?_toArray, List.getElem?_cons_zero, List.getElem?_cons_succ, Sem.run_bind, run_underlying' T.sl, Result.andThen_ok, hsz]
  rcases T.src with ⟨u, h2⟩ | h2
  all_goals
    simp only [run_underlying' h2, Result.andThen_ok, Sem.run_pure, Bool.false_eq_true, if_false, hlen, if_pos hcap, Sem.run_ite, Sem.run_bind, Bool.not_false, if_true, hnew]
    cases a with
    | none => subst hst; rfl
    | some ad => simp only [hst, Sem.run_bind, Result.andThen_ok, Sem.run_pure]
theorem append_sound (hR : Rel X M φ H w) {t1 t2 e ty : TypeId} {bytes : Nat} {s v : SV} {x y : Value} {r : SV × List SObj} (T : AppT X.c.p t1 t2 e bytes) (h : appendOp H e (sizeB X.c.p e) bytes s v = some r) (hs : SVR M φ H s x) (hv : SVR M φ H v y) :
    OpOut X M φ H w r (do pure (Next.value (← Builtin.append_ #[t1, t2] ty #[x, y]))) := by
  unfold appendOp at h
  split at h
  · cases h
  · rename_i m new hsrc
    obtain ⟨hnl, hlen, narr, cn, hfc⟩ := src_sound hR hsrc hv
    have hnew : ∀ w', Rel X M φ H w' → ∃ arr, CR M φ H new arr ∧ (Builtin.firstCells (sizeB X.c.p e) m y).run X.c.p w' = .ok arr w' := fun w' hw => by
      obtain ⟨_, _, a, c, f⟩ := src_sound hw hsrc hv
      exact ⟨a, c, f⟩
    split at h
    · -- nothing to append
      rename_i hm
      subst hm
      have hn0 : new = [] := List.eq_nil_of_length_eq_zero (by rw [hnl]; simp)
      have hna : narr.toList = [] := List.eq_nil_of_length_eq_zero (by rw [Array.length_toList, cn.len, hn0]; rfl)
      have key : ∀ (a : Option Addr) (n cap : Nat), n ≤ cap → (Builtin.append_ #[t1, t2] ty #[.slice a n cap, y]).run X.c.p w = .ok (.slice a n cap) w := by
        intro a n cap hc
        have := fit_run (ty := ty) (a := a) (n := n) (cap := cap) (w' := w) T (by omega) hlen hfc (by cases a <;> simp [hna, storeCells])
        simpa using this
      split at h
      · injection h with h; subst h
        cases hs.toF with
        | nilSl => exact OpOut.val hR (key _ _ _ (Nat.le_refl _)) hs
      · injection h with h; subst h
        cases hs.toF with
        | sl x' n cs b o cap vs hm hv' hx hc => exact OpOut.val hR (key _ _ _ hc) hs
        | slE x' a => exact OpOut.val hR (key _ _ _ (Nat.le_refl _)) hs
      · injection h with h; subst h
        cases hs with
        | row _ _ _ _ _ a cap hc ha hb hle hx => exact OpOut.val hR (key _ _ _ hc) (.row _ _ _ _ _ a cap hc ha hb hle hx)
      · cases h
    · rename_i hm
      split at h
      · cases h
      · rename_i hnz
        split at h
        · -- nil
          split at h
          · rename_i hg1
            injection h with h; subst h
            cases hs.toF with
            | nilSl =>
              have hsa : SVR M φ H (.f .nilSl) (.slice none 0 0) := hs
              obtain ⟨arr, c', g1, g2, g3, g4, g5, g6⟩ := grow_run (ty := ty) (cs := []) (new := new) (a := none) (n := 0) (cap := 0) hR T (by simpa using hg1) (by omega) (by simp) hnl hlen (fun w' hw => by
                obtain ⟨arr, f1, f2, f3, f4, f5⟩ := firstCells_sound hw (cs := []) (v := .f .nilSl) (esz := sizeB X.c.p e) (n := 0) (by simp [sliceCells]) hsa
                exact ⟨arr, ⟨by simp at f2; simp [f2], fun i hi => by simp at hi, f5⟩, f1⟩) hnew
              simp only [Nat.zero_add, List.nil_append] at g1 g2 g4 g6
              obtain ⟨φ', p1, p2, p3, p4⟩ := push_cells (ty := e) (e := sizeB X.c.p e) (hR.drawn (w.drawn + 1)) (0, 0) (by simp) g4 g5 g6
              refine ⟨_, _, M, φ', .value (run_next g1), ?_, p1, (Trans.drawn (Nat.le_refl _) (w.drawn + 1)).trans p2⟩
              exact row_new (M := M) (ty := e) (e := sizeB X.c.p e) (cs := new) (n := m) (cap := c') (x := false) p3 g2 (fun h => by cases h) (by rw [g3]; exact Nat.le_refl _) (fun _ => by rw [hnl]; exact Nat.mul_le_mul_right _ g2)
          · cases h
        · -- a frozen slice without room
          rename_i n cs
          split at h
          · rename_i hg
            obtain ⟨hg1, hg2⟩ := hg
            injection h with h; subst h
            have fin : ∀ (a : Option Addr), SVR M φ H (.f (.sl true n cs)) (.slice a n n) → OpOut X M φ H w (.row H.length 0 (n + m) (cs.length + new.length) false, H ++ [.cells e (sizeB X.c.p e) (cs.map .f ++ new)]) (do pure (Next.value (← Builtin.append_ #[t1, t2] ty #[.slice a n n, y]))) := by
              intro a hsa
              obtain ⟨arr, c', g1, g2, g3, g4, g5, g6⟩ := grow_run (ty := ty) (cs := cs.map .f) (new := new) (a := a) (cap := n) hR T hg1 (by omega) (by simpa using hg2) hnl hlen (fun w' hw => by
                obtain ⟨arr, f1, f2, f3, f4, f5⟩ := firstCells_sound hw (cs := cs.map .f) (v := .f (.sl true n cs)) (esz := sizeB X.c.p e) (n := n) (by simp [sliceCells, hg2]) hsa
                exact ⟨arr, ⟨by omega, fun i hi => f4 i (by omega), f5⟩, f1⟩) hnew
              obtain ⟨φ', p1, p2, p3, p4⟩ := push_cells (ty := e) (e := sizeB X.c.p e) (hR.drawn (w.drawn + 1)) (0, 0) (by simp) g4 g5 g6
              have hl : (cs.map SV.f ++ new).length = cs.length + new.length := by simp
              refine ⟨_, _, M, φ', .value (run_next g1), ?_, p1, ?_⟩
              · have := row_new (M := M) (ty := e) (e := sizeB X.c.p e) (cs := cs.map .f ++ new) (n := n + m) (cap := c') (x := false) p3 g2 (fun h => by cases h) (by rw [g3]; exact Nat.le_refl _) (fun _ => by rw [hl, hnl, hg2, ← Nat.add_mul]; exact Nat.mul_le_mul_right _ g2)
                rwa [hl] at this
              · exact (Trans.drawn (Nat.le_refl _) (w.drawn + 1)).trans p2
            cases hs.toF with
            | sl _ _ _ b o cap vs hm' hv' hx hc =>
              have := hx rfl; subst this
              exact fin _ hs
            | slE _ a => exact fin _ hs
          · cases h
        · rename_i b o n ver x'
          split at h
          · rename_i t es cs hb
            split at h
            · rename_i hg
              obtain ⟨hg1, hg2⟩ := hg
              split at h
              · -- cut to its length: a new row
                rename_i hx'
                split at h
                · rename_i hle
                  injection h with h; subst h
                  have hhc : hcells H b ver = some cs := by simp [hcells, hb, hg1]
                  have hsl : sliceCells H (sizeB X.c.p e) (.row b o n ver x') = some (n, (cs.drop o).take (n * sizeB X.c.p e)) := by simp only [sliceCells, hhc, if_pos hle]
                  cases hs with
                  | row _ _ _ _ _ a cap hc ha hb' hle' hx =>
                    have hcap : cap = n := (hx t es cs hb hg1).2.1 hx'
                    subst hcap
                    have hsv : SVR M φ H (.row b o cap ver x') (.slice a cap cap) := .row _ _ _ _ _ _ _ hc ha hb' hle' hx
                    obtain ⟨arr, c', g1, g2, g3, g4, g5, g6⟩ := grow_run (ty := ty) (cs := (cs.drop o).take (cap * sizeB X.c.p e)) (new := new) (a := a) (cap := cap) hR T hg2 (by omega) (by rw [List.length_take, List.length_drop]; omega) hnl hlen (fun w' hw => by
                      obtain ⟨arr, f1, f2, f3, f4, f5⟩ := firstCells_sound hw hsl hsv
                      exact ⟨arr, ⟨by omega, fun i hi => f4 i (by omega), f5⟩, f1⟩) hnew
                    obtain ⟨φ', p1, p2, p3, p4⟩ := push_cells (ty := e) (e := sizeB X.c.p e) (hR.drawn (w.drawn + 1)) (0, 0) (by simp) g4 g5 g6
                    have hl : ((cs.drop o).take (cap * sizeB X.c.p e) ++ new).length = cap * sizeB X.c.p e + new.length := by rw [List.length_append, List.length_take, List.length_drop]; omega
                    refine ⟨_, _, M, φ', .value (run_next g1), ?_, p1, (Trans.drawn (Nat.le_refl _) (w.drawn + 1)).trans p2⟩
                    have := row_new (M := M) (ty := e) (e := sizeB X.c.p e) (cs := (cs.drop o).take (cap * sizeB X.c.p e) ++ new) (n := cap + m) (cap := c') (x := false) p3 g2 (fun h => by cases h) (by rw [g3]; exact Nat.le_refl _) (fun _ => by rw [hl, hnl, ← Nat.add_mul]; exact Nat.mul_le_mul_right _ g2)
                    rwa [hl] at this
                · cases h
              · rename_i hx'
                split at h
                · -- a row of one's own
                  rename_i ho
                  obtain ⟨ho1, ho2, ho3, ho4⟩ := ho
                  subst ho1; subst ho3; subst ho4
                  injection h with h; subst h
                  have hx'' : x' = false := by cases x' <;> simp_all
                  subst hx''
                  cases hs with
                  | row _ _ _ _ _ a cap hc ha hb' hle' hx =>
                    obtain ⟨q1, _, q3⟩ := hx _ _ cs hb hg1
                    have q1 : a = some ⟨(φ b).1, 0, none⟩ := by rcases q1 with h | ⟨_, h⟩; exact h; exact absurd rfl h
                    obtain ⟨q2', q3⟩ := q3 rfl rfl
                    subst q1
                    have hvl : (cs ++ new).length = ver + new.length := by simp [hg1]
                    by_cases hroom : n + m ≤ cap
                    · have hfit : ver + new.length ≤ (φ b).2 := by
                        rw [hnl, ← ho2, ← Nat.add_mul]; exact Nat.le_trans (Nat.mul_le_mul_right _ hroom) q3
                      obtain ⟨w', h1, h2, h3, h4⟩ := put_live (vs := narr.toList) (new := new) (off := ver) (cs' := cs ++ new) hR hb (by simp) (by rw [Array.length_toList, cn.len]; omega) (by rw [hvl]; exact hfit) (by rw [Array.length_toList]; exact cn.len) (fun v hv => by
                          obtain ⟨i, hi, rfl⟩ := List.getElem_of_mem hv
                          have := cn.one i (by rw [← cn.len]; simpa using hi)
                          rw [Array.getD_eq_getD_getElem?, ← Array.getElem?_toList, List.getElem?_eq_getElem hi] at this
                          exact this) (fun i s hs => by
                          have := cn.val i s hs
                          rw [Array.getD_eq_getD_getElem?, ← Array.getElem?_toList] at this
                          rwa [List.getD_eq_getElem?_getD]) (fun i => by
                          by_cases hi : i < ver
                          · rw [if_neg (by omega), List.getElem?_append_left (by omega)]
                          · by_cases hi2 : i < ver + new.length
                            · rw [if_pos (by omega), List.getElem?_append_right (by omega), hg1]
                            · rw [if_neg (by omega), List.getElem?_eq_none (by simp; omega), List.getElem?_eq_none (by omega)]) X.c.p
                      refine ⟨_, w', M, φ, .value (run_next (fit_run (ty := ty) T hroom hlen hfc ?_)), ?_, h2, h3⟩
                      · show (storeCells ((⟨(φ b).1, 0, none⟩ : Addr).add (n * _)) narr.toList).run X.c.p w = .ok () w'
                        rw [add_plain, ho2, Nat.zero_add]; exact h1
                      · refine .row _ _ _ _ _ _ _ hroom (fun _ => ⟨_, _, rfl⟩) (by simpa using hb') (fun ty' e' cs' hc' => ?_) fun ty' e' cs' hc' hl' => ⟨.inl rfl, (fun h => nomatch h), fun _ _ => ?_⟩
                        · rw [get_set hb] at hc'; injection hc' with hc'; injection hc' with _ _ hc'; subst hc'; omega
                        · rw [get_set hb] at hc'; injection hc' with hc'; injection hc' with _ hc' _; subst hc'; exact ⟨by rw [hnl, ← ho2, ← Nat.add_mul]; exact Nat.mul_le_mul_right _ hroom, q3⟩
                    · have hsl : sliceCells H (sizeB X.c.p t) (.row b 0 n ver false) = some (n, cs) := by
                        have hhc : hcells H b ver = some cs := by simp [hcells, hb, hg1]
                        simp only [sliceCells, hhc]
                        rw [if_pos (by omega), List.drop_zero, ho2, ← hg1, List.take_length]
                      have hsv : SVR M φ H (.row b 0 n ver false) (.slice (some ⟨(φ b).1, 0, none⟩) n cap) := .row _ _ _ _ _ _ _ hc ha hb' hle' hx
                      obtain ⟨arr, c', g1, g2, g3, g4, g5, g6⟩ := grow_run (ty := ty) (cs := cs) (new := new) (a := some ⟨(φ b).1, 0, none⟩) (cap := cap) hR T hg2 (by omega) (by omega) hnl hlen (fun w' hw => by
                        obtain ⟨arr, f1, f2, f3, f4, f5⟩ := firstCells_sound hw hsl hsv
                        exact ⟨arr, ⟨by omega, fun i hi => f4 i (by omega), f5⟩, f1⟩) hnew
                      have hR1 : Rel X M φ H { w with drawn := w.drawn + 1 } := hR.drawn _
                      have hg := get_set (x' := .cells t (sizeB X.c.p t) (cs ++ new)) hb
                      have ch : Change X M φ H { w with drawn := w.drawn + 1 } b M (upd φ b (w.heap.size, arr.size)) (H.set b (.cells t (sizeB X.c.p t) (cs ++ new))) { w with drawn := w.drawn + 1, heap := w.heap.push (.cells arr t) } := {
                        hH := fun b' h => by rw [List.getElem?_set_ne (Ne.symm h)]
                        hφ := fun b' h => upd_other φ _ h
                        hlen := by simp
                        os := rfl, tape := rfl, output := rfl
                        size := by simp
                        heap := fun k hk _ => push_old (w := w) hk
                        le := Mem.le_refl _
                        mc := fun _ _ _ h => .inl h
                        mo := fun _ _ h => .inl h
                        has := fun _ h => .inl h
                        place := fun _ => .inr (by rw [upd_same]; exact ⟨Nat.le_refl _, fun h => by have := hR.has_lt h; omega⟩)
                        same := fun _ => ⟨fun ty' e' cs' hc' => by
                            rw [hg] at hc'; injection hc' with hc'; injection hc' with a1 a2 a3; subst a1; subst a2; subst a3
                            exact ⟨cs, hb, by simp, fun he => by simp at he; exact absurd (by simp [he]) hnz⟩,
                          (fun _ _ hc' => by rw [hg] at hc'; cases hc'), (fun _ _ _ _ hc' => by rw [hg] at hc'; cases hc'), (fun _ _ _ _ _ _ hc' => by rw [hg] at hc'; cases hc')⟩ }
                      refine ⟨_, _, M, _, .value (run_next g1), ?_, ch.rel hR1 fun x hx => ?_, (Trans.drawn (Nat.le_refl _) (w.drawn + 1)).trans ch.trans⟩
                      · refine .row _ _ _ _ _ _ _ g2 (fun _ => ⟨_, _, rfl⟩) (by simpa using hb') (fun ty' e' cs' hc' => ?_) fun ty' e' cs' hc' hl' => ⟨.inl (by rw [upd_same]), (fun h => nomatch h), fun _ _ => ?_⟩
                        · rw [hg] at hc'; injection hc' with hc'; injection hc' with _ _ hc'; subst hc'; omega
                        · rw [hg] at hc'; injection hc' with hc'; injection hc' with _ hc' _; subst hc'; rw [upd_same, g3]; exact ⟨by rw [← g3, hnl, ← ho2, ← Nat.add_mul]; exact Nat.mul_le_mul_right _ g2, Nat.le_refl _⟩
                      · rw [hg] at hx; injection hx with hx; subst hx
                        exact OR_cells (by rw [upd_same]; exact push_get (w := w)) (by rw [upd_same]) g4 (by simp) g5 fun i c hc' => ch.svr (g6 i c hc')
                · split at h
                  · -- room that is known
                    rename_i ho
                    obtain ⟨ho1, ho2, ho3, ho4⟩ := ho
                    subst ho1; subst ho3; subst ho4
                    injection h with h; subst h
                    have hx'' : x' = false := by cases x' <;> simp_all
                    subst hx''
                    cases hs with
                    | row _ _ _ _ _ a cap hc ha hb' hle' hx =>
                      obtain ⟨q1, _, q3⟩ := hx _ _ cs hb hg1
                      have q1 : a = some ⟨(φ b).1, 0, none⟩ := by rcases q1 with h | ⟨_, h⟩; exact h; exact absurd rfl h
                      obtain ⟨q2', q3⟩ := q3 rfl rfl
                      subst q1
                      have hpos : 0 < sizeB X.c.p t := by
                        rcases Nat.eq_zero_or_pos (sizeB X.c.p t) with h | h
                        · rw [h, Nat.mul_zero] at hnl; exact absurd hnl hnz
                        · exact h
                      have hroom : n + m ≤ cap := Nat.le_of_mul_le_mul_right (Nat.le_trans ho2 q2') hpos
                      have hnm : n * sizeB X.c.p t + new.length ≤ ver := by rw [hnl, ← Nat.add_mul]; exact ho2
                      have hcl : (cs.take (n * sizeB X.c.p t) ++ new ++ cs.drop (n * sizeB X.c.p t + new.length)).length = cs.length := by
                        simp only [List.length_append, List.length_take, List.length_drop]; omega
                      obtain ⟨w', h1, h2, h3, h4⟩ := put_live (vs := narr.toList) (new := new) (off := n * sizeB X.c.p t) (cs' := cs.take (n * sizeB X.c.p t) ++ new ++ cs.drop (n * sizeB X.c.p t + new.length)) hR hb (by rw [hcl]; exact Nat.le_refl _) (by rw [Array.length_toList, cn.len]; omega) (by rw [hcl]; omega) (by rw [Array.length_toList]; exact cn.len) (fun v hv => by
                          obtain ⟨i, hi, rfl⟩ := List.getElem_of_mem hv
                          have := cn.one i (by rw [← cn.len]; simpa using hi)
                          rw [Array.getD_eq_getD_getElem?, ← Array.getElem?_toList, List.getElem?_eq_getElem hi] at this
                          exact this) (fun i s hs => by
                          have := cn.val i s hs
                          rw [Array.getD_eq_getD_getElem?, ← Array.getElem?_toList] at this
                          rwa [List.getD_eq_getElem?_getD]) (fun i => by
                          have htl : (cs.take (n * sizeB X.c.p t)).length = n * sizeB X.c.p t := by rw [List.length_take]; omega
                          by_cases hi : i < n * sizeB X.c.p t
                          · rw [if_neg (by omega), List.append_assoc, List.getElem?_append_left (by omega), List.getElem?_take, if_pos hi]
                          · by_cases hi2 : i < n * sizeB X.c.p t + new.length
                            · rw [if_pos (by omega), List.append_assoc, List.getElem?_append_right (by omega), List.getElem?_append_left (by omega), htl]
                            · rw [if_neg (by omega), List.getElem?_append_right (by simp only [List.length_append]; omega), List.getElem?_drop]
                              congr 1
                              simp only [List.length_append]; omega) X.c.p
                      refine ⟨_, w', M, φ, .value (run_next (fit_run (ty := ty) T hroom hlen hfc ?_)), ?_, h2, h3⟩
                      · show (storeCells ((⟨(φ b).1, 0, none⟩ : Addr).add (n * _)) narr.toList).run X.c.p w = .ok () w'
                        rw [add_plain, Nat.zero_add]; exact h1
                      · refine .row _ _ _ _ _ _ _ hroom (fun _ => ⟨_, _, rfl⟩) (by simpa using hb') (fun ty' e' cs' hc' => ?_) fun ty' e' cs' hc' hl' => ⟨.inl rfl, (fun h => nomatch h), fun _ _ => ?_⟩
                        · rw [get_set hb] at hc'; injection hc' with hc'; injection hc' with _ _ hc'; subst hc'; omega
                        · rw [get_set hb] at hc'; injection hc' with hc'; injection hc' with _ hc' _; subst hc'; exact ⟨q2', q3⟩
                  · cases h
            · cases h
          · cases h
        · cases h
end Go.Det

/- Zeros behind nothing. -/
set_option linter.unusedVariables false
set_option linter.unusedSimpArgs false
namespace Go.Det
variable {X : Fix} {M : Mem} {φ : Place} {H : List SObj} {w : World}

theorem appendz_sound (hR : Rel X M φ H w) {t1 t2 e ty : TypeId} {kn : IntKind} {i : TypeInfo} {z : List FV} {s v : SV} {x y : Value} {r : SV × List SObj} (h1 : X.c.p.underlying t1 = some (.slice e)) (h2 : X.c.p.underlying t2 = some (.int kn)) (hi : X.c.p.info? e = some i)
    (hz : zeroCells X.c.p e = some z) (h : appendzOp H z e (sizeB X.c.p e) i.bytes s v = some r) (hs : SVR M φ H s x) (hv : SVR M φ H v y) :
    OpOut X M φ H w r (do pure (Next.value (← Builtin.append_ #[t1, t2] ty #[x, y]))) := by
  unfold appendzOp at h
  split at h
  · rename_i n
    split at h
    · rename_i hg
      obtain ⟨g1, g2, g3, g4, g5⟩ := hg
      injection h with h; subst h
      rw [hv.int']
      cases hs.toF with
      | nilSl =>
        obtain ⟨zx, hzx, cz⟩ := zeroCells_sound (M := M) (φ := φ) (H := H) hz
        have hzi : i.zero = some zx := by
          have := hzx w
          unfold zeroCells zeroOf at hz
          cases hq : i.zero with
          | none => simp [hi, hq] at hz
          | some q =>
            simp [zeroValue, typeInfo, hi, hq] at this
            rw [this]
        have hsz : i.size = sizeB X.c.p e := by simp [sizeB, Program.cellsOf, hi]
        obtain ⟨m, rfl⟩ : ∃ m : Nat, n = (m : Int) := ⟨n.toNat, by omega⟩
        have hb : m * i.bytes ≤ 140737488355328 := by
          have : ((m * i.bytes : Nat) : Int) ≤ 140737488355328 := by rw [Int.natCast_mul]; exact g2
          omega
        have hm : 0 < m := by omega
        have hm63 : (m : Int) ≤ 9223372036854775807 := by
          have : m * 1 ≤ m * i.bytes := Nat.mul_le_mul_left _ g4
          omega
        have hrun := Lib.run_append_nil_zeros (P := X.c.p) w t1 t2 ty e i zx .i64 kn h1 h2 hi hzi m hm (by omega) hm63 (by omega)
        have hge := grownCap_ge w m 0 e
        generalize grownCap w m 0 e = c' at hrun hge
        have hzl : zx.cells.size = z.length := by simpa using cz.len
        have hz1 := zeros_sound (n := m) cz (.inl (by omega))
        have hz2 := zeros_sound (n := c' - m) cz (.inl (by omega))
        have call := CR.append hz1 hz2
        have e1 : ∀ k, (Array.range (k * z.length)).map (zx.cells[· % zx.cells.size]!) = Builtin.zeroCells zx.cells k := fun k => by simp [Builtin.zeroCells, hzl]
        rw [e1, e1] at call
        have hsize : (Builtin.zeroCells zx.cells m ++ Builtin.zeroCells zx.cells (c' - m)).size = c' * sizeB X.c.p e := by
          rw [call.len]
          simp only [List.length_append, List.length_map, List.length_flatten, List.map_replicate, List.sum_replicate_nat, g5]
          rw [← Nat.add_mul]; congr 1; omega
        have hfl : ((List.replicate m z).flatten.map SV.f).length = m * sizeB X.c.p e := by simp [g5]
        obtain ⟨φ', p1, p2, p3, p4⟩ := push_cells (ty := e) (e := sizeB X.c.p e) (cs := (List.replicate m z).flatten.map SV.f) (hR.drawn (w.drawn + 1)) (0, 0) (by simp) (by rw [hsize, hfl]; exact Nat.mul_le_mul_right _ hge) (fun k hk => call.one k (by rw [← call.len]; exact hk)) (fun k c hc => call.val k c (by rw [List.getElem?_append_left (List.getElem?_eq_some_iff.1 hc).1]; exact hc))
        refine ⟨_, _, M, φ', .value (run_next hrun), ?_, p1, (Trans.drawn (Nat.le_refl _) (w.drawn + 1)).trans p2⟩
        have := row_new (M := M) (H := H) (ty := e) (e := sizeB X.c.p e) (cs := (List.replicate m z).flatten.map SV.f) (n := m) (cap := c') (x := false) p3 hge (fun h => by cases h) (by rw [hsize]; exact Nat.le_refl _) (fun _ => by rw [hfl]; exact Nat.mul_le_mul_right _ hge)
        rw [hfl] at this
        simpa using this
    · cases h
  · cases h
end Go.Det
