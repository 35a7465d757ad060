/- The abstract machine, part 1: its values, its instructions, its interpreter. Nothing here speaks of the model's worlds. -/
import Derived.Orders
import Derived.Laws.Cells
import Derived.KernelRfl
import Derived.Laws.World
import Derived.Laws.StructEq
import Derived.Laws.Cover3
import Derived.ChangeKeysEq
import Derived.Laws.BytesString
import Derived.Laws.Build
import Derived.Lib.Strings
set_option linter.unusedVariables false
set_option linter.unusedSimpArgs false
namespace Go.Proofs.YtoccgkgdhobmfaaDoor.Am
open Go

/-- A value of the abstract machine. -/
inductive V where
  | junk
  | int (k : IntKind) (n : Int)
  | bool (b : Bool)
  | str (s : List UInt8)
  | nilp
  | nils (esz : Nat)
  | nilf
  | nili
  | ptr (i off : Nat)
  | ept (i j off : Nat)
  | imp (cells : List V) (off : Nat)
  | sl (esz : Nat) (xs : List (List V))
  | vsl (i st len : Nat)
  | bsl (i off len esz : Nat)
  | own (esz : Nat) (xs : List (List V))
  | fn (f : Nat) (caps : List V)
  | iface (t : Nat) (v : V)
  | agg (cells : List V)
  | tup (vs : List V)
  deriving Inhabited

def V.cells : V → List V
  | .agg cs => cs
  | v => [v]

/-- An object of the abstract heap. -/
inductive AObj where
  | dead
  | box (cs : List V)
  | vec (esz : Nat) (xs : List (List V))
  | fbox (cs : List V)
  | fvec (esz : Nat) (xs : List (List V))
  deriving Inhabited

abbrev Hp := Nat → AObj
abbrev Env := Nat → V

def hput (o : Hp) (i : Nat) (x : AObj) : Hp := fun j => if j = i then x else o j
def eput (e : Env) (d : Nat) (v : V) : Env := fun s => if s = d then v else e s
def eputO (e : Env) (d : Option Nat) (v : V) : Env := match d with | some d => eput e d v | none => e
def hputs (o : Hp) : List (Nat × AObj) → Hp
  | [] => o
  | (i, x) :: r => hputs (hput o i x) r

inductive Arg where
  | tmp (t : Nat)
  | const (v : V)
  | glob (g : Nat)
  | fn (f : Nat)
  deriving Inhabited

/-- Instructions. 'k' is the number of the new object among those of the region. -/
inductive I where
  | mov (x : Arg)
  | pick (c a b : Arg)
  | alloc (k : Nat) (zero : List V)
  | box (k : Nat) (x : Arg)
  | build (zero : List V) (parts : List (Nat × Nat × Arg))
  | lit (k : Nat) (esz : Nat) (zero : List (List V)) (parts : List (Nat × Arg))
  | ilit (esz : Nat) (zero : List (List V)) (parts : List (Nat × Arg))
  | load (agg : Option Nat) (a : Arg)
  | store (n : Nat) (a x : Arg)
  | nilCheck (x : Arg)
  | bin (op : BinOp) (x y : Arg)
  | eqv (neg : Bool) (ks : List Nat) (x y : Arg)
  | eqp (neg : Bool) (x y : Arg)
  | eqb (neg : Bool) (x y : Arg)
  | un (op : UnOp) (x : Arg)
  | convInt (k : IntKind) (x : Arg)
  | convStr (x : Arg)
  | convBytes (x : Arg)
  | convSl (x : Arg)
  | arrPtr (n : Nat) (x : Arg)
  | mkIface (t : Nat) (x : Arg)
  | mkFn (f : Nat) (caps : List Arg)
  | sliceS (x : Arg) (lo hi : Option Arg)
  | sliceL (esz : Nat) (x : Arg) (lo hi : Option Arg)
  | sliceA (n esz : Nat) (x : Arg) (lo hi : Option Arg)
  | fieldAddr (off : Nat) (x : Arg)
  | field (off : Nat) (agg : Option Nat) (x : Arg)
  | indexAddrA (n esz : Nat) (x i : Arg)
  | indexAddrL (esz : Nat) (x i : Arg)
  | indexS (x i : Arg)
  | indexA (n esz : Nat) (agg : Bool) (x i : Arg)
  | append (k esz ebytes : Nat) (s x : Arg)
  | appendZ (k esz ebytes : Nat) (zero : List V) (s n : Arg)
  | copy (esz : Nat) (d s : Arg)
  | len (x : Arg)
  | lenS (x : Arg)
  | lenA (n : Nat)
  | cap0 (x : Arg)
  | mmax (xs : List Arg)
  | mmin (xs : List Arg)
  | make (k esz ebytes : Nat) (zero : List V) (len cap : Arg)
  | extract (x : Arg) (i : Nat)
  | call (f : Arg) (args : List Arg) (raw : List Bool) (own : Option Nat)
  | panic (x : Arg)
  deriving Inhabited

structure Op' where
  dst : Option Nat
  i : I
  guard : Option (Nat × Bool)
  deriving Inhabited

inductive MC where
  | skip
  | region (draw : Option (List (Nat × Nat) × List Nat)) (nalloc : Nat) (ops : List Op')
  | seq (a b : MC)
  | cond (c : Arg) (a b : MC)
  | block (id : Nat) (a : MC)
  | loop (a : MC)
  | exit (id : Nat)
  | scope (a : MC)
  | ret
  deriving Inhabited

inductive Res where
  | tmp (t : Nat)
  | cell (t : Nat) (agg : Option Nat)
  deriving Inhabited

structure MF where
  np : Nat
  ntmps : Nat
  res : List Res
  body : MC
  deriving Inhabited

/-! ### Small functions on values -/

def evA (G : Nat → Option (List V)) (e : Env) : Arg → V
  | .tmp t => e t
  | .const v => v
  | .glob g => match G g with | some cs => .imp cs 0 | none => .junk
  | .fn f => .fn f []

def byteV (b : UInt8) : List V := [.int .u8 b.toNat]
def bytesV (s : List UInt8) : List (List V) := s.map byteV

/-- The bytes that a list of one-celled elements holds. -/
def bytesOf : List (List V) → Option (List UInt8)
  | [] => some []
  | [.int .u8 n] :: r => (bytesOf r).map (UInt8.ofNat n.toNat :: ·)
  | _ => none

/-- 'm' pieces of 'n' cells each. -/
def chunks (n : Nat) : Nat → List V → List (List V)
  | 0, _ => []
  | m + 1, l => l.take n :: chunks n m (l.drop n)

/-- A value of one cell. -/
def cellV : V → Bool
  | .junk | .agg _ | .tup _ | .own _ _ => false
  | _ => true
def okCells : V → Bool
  | .agg _ => true
  | v => cellV v

def aggOf (a : Option Nat) (cs : List V) : Option V :=
  match a with
  | some _ => some (.agg cs)
  | none => cs.head?

def cut (off n : Nat) (cs : List V) : Option (List V) := if off + n ≤ cs.length then some ((cs.drop off).take n) else none
def splice (off : Nat) (new cs : List V) : Option (List V) :=
  if off + new.length ≤ cs.length then some (cs.take off ++ (new ++ cs.drop (off + new.length))) else none

def rdBox (o : Hp) (i : Nat) : Option (List V) := match o i with | .box cs | .fbox cs => some cs | _ => none
def rdVec (o : Hp) (i : Nat) : Option (Nat × List (List V)) := match o i with | .vec e xs | .fvec e xs => some (e, xs) | _ => none

/-- What stands at an address: so many cells; and the objects that were looked at. -/
def peek (o : Hp) (n : Nat) : V → Option (List V × List Nat)
  | .ptr i off => (rdBox o i).bind fun cs => (cut off n cs).map (·, [i])
  | .ept i j off => (rdVec o i).bind fun ex => (ex.2[j]?).bind fun c => (cut off n c).map (·, [i])
  | .imp cs off => (cut off n cs).map (·, [])
  | _ => none

def poke (o : Hp) (new : List V) : V → Option (List (Nat × AObj))
  | .ptr i off => match o i with
    | .box cs => (splice off new cs).map fun cs' => [(i, .box cs')]
    | _ => none
  | .ept i j off => match o i with
    | .vec e xs => (xs[j]?).bind fun c => (splice off new c).map fun c' => [(i, .vec e (xs.set j c'))]
    | _ => none
  | _ => none

/-- The elements of a slice (or of a string), of the given size; and the objects that were looked at. -/
def elemsOf (o : Hp) (esz : Nat) : V → Option (List (List V) × List Nat)
  | .nils e => if e = esz then some ([], []) else none
  | .sl e xs => if e = esz then some (xs, []) else none
  | .str s => if esz = 1 then some (bytesV s, []) else none
  | .vsl i st len => (rdVec o i).bind fun ex => if ex.1 = esz ∧ st + len ≤ ex.2.length then some ((ex.2.drop st).take len, [i]) else none
  | .bsl i off len e => if e = esz then (rdBox o i).bind fun cs => (cut off (len * esz) cs).map fun c => (chunks esz len c, [i]) else none
  | _ => none

def isStrV : V → Bool
  | .str _ => true
  | _ => false

def lenOf : V → Option Nat
  | .nils _ => some 0
  | .sl _ xs => some xs.length
  | .vsl _ _ n => some n
  | .bsl _ _ n _ => some n
  | _ => none

def asI : V → Option (IntKind × Int)
  | .int k n => some (k, n)
  | _ => none
def asN : V → Option Nat
  | .int _ n => if 0 ≤ n then some n.toNat else none
  | _ => none
def optN (G : Nat → Option (List V)) (e : Env) (d : Nat) : Option Arg → Option Nat
  | none => some d
  | some x => asN (evA G e x)

def cmpI (op : BinOp) (a b : Int) : Option V :=
  match op with
  | .eql => some (.bool (a == b))
  | .neq => some (.bool (a != b))
  | .lss => some (.bool (decide (a < b)))
  | .leq => some (.bool (decide (a ≤ b)))
  | .gtr => some (.bool (decide (a > b)))
  | .geq => some (.bool (decide (a ≥ b)))
  | _ => none

def bitI (f : ∀ {n : Nat}, BitVec n → BitVec n → BitVec n) (k : IntKind) (a b : Int) : V :=
  .int k (k.wrap ((f (BitVec.ofInt k.bits a) (BitVec.ofInt k.bits b)).toNat : Int))

def binI (op : BinOp) (k : IntKind) (a : Int) (k' : IntKind) (b : Int) : Option V :=
  match op with
  | .shl => if b < 0 then none else some (.int k (k.wrap (a * 2 ^ (min b.toNat k.bits))))
  | .shr => if b < 0 then none else some (.int k (a.fdiv (2 ^ (min b.toNat k.bits))))
  | .add => if k = k' then some (.int k (k.wrap (a + b))) else none
  | .sub => if k = k' then some (.int k (k.wrap (a - b))) else none
  | .mul => if k = k' then some (.int k (k.wrap (a * b))) else none
  | .quo => if k = k' then (if b = 0 then none else some (.int k (k.wrap (a.tdiv b)))) else none
  | .rem => if k = k' then (if b = 0 then none else some (.int k (a.tmod b))) else none
  | .and => if k = k' then some (bitI (· &&& ·) k a b) else none
  | .or => if k = k' then some (bitI (· ||| ·) k a b) else none
  | .xor => if k = k' then some (bitI (· ^^^ ·) k a b) else none
  | .andNot => if k = k' then some (bitI (fun x y => x &&& ~~~y) k a b) else none
  | op => if k = k' then cmpI op a b else none

def binS (op : BinOp) (x y : List UInt8) : Option V :=
  match op with
  | .add => if x.length + y.length ≤ 140737488355328 then some (.str (x ++ y)) else none
  | .eql => some (.bool (x == y))
  | .neq => some (.bool (!(x == y)))
  | .lss => some (.bool (Go.Op.bytesLess x y))
  | .leq => some (.bool (Go.Op.bytesLess x y || x == y))
  | .gtr => some (.bool (!(Go.Op.bytesLess x y || x == y)))
  | .geq => some (.bool (!(Go.Op.bytesLess x y)))
  | _ => none

def binV (op : BinOp) : V → V → Option V
  | .int k a, .int k' b => binI op k a k' b
  | .str x, .str y => binS op x y
  | _, _ => none

def unV (op : UnOp) : V → Option V
  | .int k n => match op with
    | .neg => some (.int k (k.wrap (0 - n)))
    | .xor => some (bitI (· ^^^ ·) k (if k.signed then -1 else k.max) n)
    | _ => none
  | .bool b => match op with
    | .not => some (.bool !b)
    | _ => none
  | _ => none

/-- Equality of one cell of a kind: 0 truth, 1 number, 2 string. -/
def eqK : Nat → V → V → Option Bool
  | 0, .bool a, .bool b => some (a == b)
  | 1, .int k a, .int k' b => if k = k' then some (a == b) else none
  | 2, .str a, .str b => some (a == b)
  | _, _, _ => none
def eqCells : List Nat → List V → List V → Option Bool
  | [], [], [] => some true
  | k :: ks, a :: as, b :: bs => (eqK k a b).bind fun x => (eqCells ks as bs).map (x && ·)
  | _, _, _ => none
/-- A pointer against nil. -/
def eqP : V → V → Option Bool
  | .nilp, .nilp => some true
  | .nilp, .ptr _ _ | .ptr _ _, .nilp | .nilp, .imp _ _ | .imp _ _, .nilp | .nilp, .ept _ _ _ | .ept _ _ _, .nilp => some false
  | _, _ => none

def maxI : V → V → Option V
  | .int k x, .int k' y => some (.int k (if y > x then y else x))
  | _, _ => none
def minI : V → V → Option V
  | .int k x, .int k' y => some (.int k (if y < x then y else x))
  | _, _ => none
def foldV (f : V → V → Option V) : V → List V → Option V
  | a, [] => some a
  | a, b :: r => (f a b).bind fun c => foldV f c r

/-- A value that no object of the call's own is named in; nil slices become empty lists. -/
def nrm : V → Option V
  | .nils e => some (.sl e [])
  | .int k n => some (.int k n)
  | .bool b => some (.bool b)
  | .str s => some (.str s)
  | .nilp => some .nilp
  | .nilf => some .nilf
  | .nili => some .nili
  | .imp c o => some (.imp c o)
  | .sl e xs => some (.sl e xs)
  | .iface t v => match v with
    | .int k n => some (.iface t (.int k n))
    | _ => none
  | _ => none
def nrmL : List V → Option (List V)
  | [] => some []
  | a :: r => (nrm a).bind fun a' => (nrmL r).map (a' :: ·)
def nrmLL : List (List V) → Option (List (List V))
  | [] => some []
  | a :: r => (nrmL a).bind fun a' => (nrmLL r).map (a' :: ·)

/-- Results that hold no address and no element. -/
def scalarV : V → Bool
  | .int _ _ | .bool _ | .str _ | .nilp | .nilf | .nili | .nils _ => true
  | .sl _ xs => xs.isEmpty
  | .iface _ v => match v with | .int _ _ | .bool _ | .str _ => true | _ => false
  | _ => false
def scalar : V → Bool
  | .agg cs => cs.all scalarV
  | .tup vs => vs.all fun v => match v with | .agg cs => cs.all scalarV | v => scalarV v
  | v => scalarV v

/-! ### What stands still: a value, and what it leads to, as it is now -/

def seqM {α β γ : Type} (f : α → Option (β × List γ)) : List α → Option (List β × List γ)
  | [] => some ([], [])
  | a :: l => (f a).bind fun r => (seqM f l).map fun s => (r.1 :: s.1, r.2 ++ s.2)

/-- A cell that names no object of the call's own, and no nil slice. -/
def flat : V → Bool
  | .int _ _ | .bool _ | .str _ | .nilp | .nilf | .nili | .imp _ _ | .sl _ _ => true
  | _ => false

def frz (o : Hp) : Nat → V → Option (V × List (Nat × AObj))
  | 0, _ => none
  | n + 1, v => match v with
    | .int k m => some (.int k m, [])
    | .bool b => some (.bool b, [])
    | .str s => some (.str s, [])
    | .nilp => some (.nilp, [])
    | .nilf => some (.nilf, [])
    | .nili => some (.nili, [])
    | .imp c off => some (.imp c off, [])
    | .sl e xs => some (.sl e xs, [])
    | .nils e => some (.sl e [], [])
    | .ptr i off => match o i with
      | .box cs => (seqM (frz o n) cs).map fun r => (.imp r.1 off, (i, .fbox r.1) :: r.2)
      | .fbox cs => some (.imp cs off, [])
      | _ => none
    | .vsl i st len => match o i with
      | .vec e xs => if st + len ≤ xs.length then (seqM (seqM (frz o n)) xs).map fun r => (.sl e ((r.1.drop st).take len), (i, .fvec e r.1) :: r.2) else none
      | .fvec e xs => if st + len ≤ xs.length then some (.sl e ((xs.drop st).take len), []) else none
      | _ => none
    | .bsl i off len e => match o i with
      | .box cs => (seqM (frz o n) cs).bind fun r => (cut off (len * e) r.1).map fun c => (.sl e (chunks e len c), (i, .fbox r.1) :: r.2)
      | .fbox cs => (cut off (len * e) cs).map fun c => (.sl e (chunks e len c), [])
      | _ => none
    | .fn f caps => (seqM (frz o n) caps).map fun r => (.fn f r.1, r.2)
    | .iface t v => (frz o n v).map fun r => (.iface t r.1, r.2)
    | .agg cs => (seqM (frz o n) cs).map fun r => (.agg r.1, r.2)
    | .tup vs => (seqM (frz o n) vs).map fun r => (.tup r.1, r.2)
    | .ept _ _ _ | .own _ _ | .junk => none

/-- The depth to which values are followed. -/
def deep : Nat := 8

/-- Arguments: each as it is ('raw'), or standing still. -/
def frzArgs (o : Hp) : List V → List Bool → Option (List V × List (Nat × AObj))
  | [], _ => some ([], [])
  | a :: l, true :: m => (frzArgs o l m).map fun s => (a :: s.1, s.2)
  | a :: l, m => (frz o deep a).bind fun r => (frzArgs o l m.tail).map fun s => (r.1 :: s.1, r.2 ++ s.2)

/-- The objects that are looked at. -/
def looks (o : Hp) : Nat → V → List Nat
  | 0, _ => []
  | n + 1, v => match v with
    | .ptr i _ => i :: (match o i with | .box cs => cs.flatMap (looks o n) | _ => [])
    | .bsl i _ _ _ => i :: (match o i with | .box cs => cs.flatMap (looks o n) | _ => [])
    | .vsl i _ _ => i :: (match o i with | .vec _ xs => xs.flatMap fun l => l.flatMap (looks o n) | _ => [])
    | .fn _ caps => caps.flatMap (looks o n)
    | .iface _ v => looks o n v
    | .agg cs => cs.flatMap (looks o n)
    | .tup vs => vs.flatMap (looks o n)
    | _ => []
def looksArgs (o : Hp) : List V → List Bool → List Nat
  | [], _ => []
  | _ :: l, true :: m => looksArgs o l m
  | a :: l, m => looks o deep a ++ looksArgs o l m.tail

/-! ### Which objects a value names -/

def refs : Nat → V → Option (List Nat)
  | 0, _ => none
  | n + 1, v => match v with
    | .ptr i _ | .ept i _ _ | .vsl i _ _ | .bsl i _ _ _ => some [i]
    | .fn _ caps => (seqM (fun v => (refs n v).map fun l => ((), l)) caps).map (·.2)
    | .agg cs => (seqM (fun v => (refs n v).map fun l => ((), l)) cs).map (·.2)
    | .tup cs => (seqM (fun v => (refs n v).map fun l => ((), l)) cs).map (·.2)
    | .iface _ v => refs n v
    | .own _ _ => none
    | _ => some []
def refsL (cs : List V) : Option (List Nat) := (seqM (fun v => (refs deep v).map fun l => ((), l)) cs).map (·.2)

def objRefs : AObj → Option (List Nat)
  | .dead => none
  | .box cs => refsL cs
  | .vec _ xs => if xs.all (·.all flat) then some [] else none
  | .fbox _ | .fvec _ _ => some []

/-- All objects that are led to. -/
def reach (o : Hp) : Nat → List Nat → List Nat → Option (List Nat)
  | 0, _, _ => none
  | n + 1, todo, acc => match todo with
    | [] => some acc
    | i :: r => if acc.contains i then reach o n r acc else (objRefs (o i)).bind fun l => reach o n (l ++ r) (i :: acc)

def rawRefs : List V → List Bool → Option (List Nat)
  | [], _ => some []
  | a :: l, true :: m => (refs deep a).bind fun r => (rawRefs l m).map (r ++ ·)
  | _ :: l, m => rawRefs l m.tail

def closedIn (o : Hp) (L : List Nat) : List Nat → Bool
  | [] => true
  | i :: r => (match objRefs (o i) with | some l => l.all (L.contains ·) | none => false) && closedIn o L r

def restrict (o : Hp) (L : List Nat) : Hp := fun i => if L.contains i then o i else .dead
def merge (o o' : Hp) (L : List Nat) : Hp := fun i => if L.contains i then o' i else o i

/-! ### Results -/

/-- What a call hands back, and how objects turn: a row of the call's own is handed over; all else stands still. -/
def result (o : Hp) (N : Nat) (v : V) : Option (V × List (Nat × AObj)) :=
  match v with
  | .vsl i 0 len => match o i with
    | .vec e xs => if N ≤ i then
        if len ≤ xs.length then (seqM (seqM (frz o deep)) (xs.take len)).bind fun r => if (r.2.map (·.1)).contains i then none else some (.own e r.1, r.2 ++ [(i, .vec e r.1)])
        else none
      else frz o deep v
    | _ => frz o deep v
  | v => frz o deep v

/-- The caller's side: a row that is handed over stands still ('none'), or becomes an object of the caller's. -/
def thaw (id : Option Nat) : V → V × List (Nat × AObj)
  | .own e xs => match id with
    | none => (.sl e xs, [])
    | some i => (.vsl i 0 xs.length, [(i, .vec e xs)])
  | v => (v, [])

/-! ### One instruction -/

structure Act where
  val : V
  ups : List (Nat × AObj)
  rd : List Nat
  deriving Inhabited

def ok (v : V) : Option Act := some ⟨v, [], []⟩
def okV (v : Option V) : Option Act := v.map (⟨·, [], []⟩)

def fillParts (G : Nat → Option (List V)) (e : Env) : List (Nat × Nat × Arg) → List V → Option (List V)
  | [], cs => some cs
  | (off, n, x) :: r, cs =>
    let new := (evA G e x).cells
    if new.length = n ∧ okCells (evA G e x) = true then (splice off new cs).bind (fillParts G e r) else none
def fillElems (G : Nat → Option (List V)) (e : Env) (esz : Nat) : List (Nat × Arg) → List (List V) → Option (List (List V))
  | [], xs => some xs
  | (j, x) :: r, xs =>
    let new := (evA G e x).cells
    if new.length = esz ∧ j < xs.length ∧ okCells (evA G e x) = true then fillElems G e esz r (xs.set j new) else none
def bounds (lo hi len : Nat) : Option (Nat × Nat) := if lo ≤ hi ∧ hi ≤ len then some (lo, hi) else none

def sliceElems (o : Hp) (esz lo hi : Nat) : V → Option Act
  | .nils e => if e = esz ∧ lo = 0 ∧ hi = 0 then ok (.nils e) else none
  | .sl e xs => if e = esz ∧ lo ≤ hi ∧ hi ≤ xs.length then ok (.sl e ((xs.drop lo).take (hi - lo))) else none
  | .vsl i st len => (rdVec o i).bind fun ex => if ex.1 = esz ∧ lo ≤ hi ∧ hi ≤ len then some ⟨.vsl i (st + lo) (hi - lo), [], [i]⟩ else none
  | .bsl i off len e => if e = esz ∧ lo ≤ hi ∧ hi ≤ len then ok (.bsl i (off + lo * e) (hi - lo) e) else none
  | _ => none

def room (n ebytes : Nat) : Bool := decide (n * ebytes ≤ 17592186044416)

/-- append: the row that was, and what comes to it. -/
def appendTo (o : Hp) (id esz ebytes : Nat) (new : List (List V)) (rd : List Nat) : V → Option Act
  | .nils e => if e = esz ∧ room new.length ebytes then (if new.isEmpty then some ⟨.nils e, [], rd⟩ else some ⟨.vsl id 0 new.length, [(id, .vec esz new)], rd⟩) else none
  | .sl e xs => if new.isEmpty then some ⟨.sl e xs, [], rd⟩ else none
  | .vsl i st len => match o i with
    | .vec e xs => if e = esz ∧ st = 0 ∧ len ≤ xs.length ∧ room (len + new.length) ebytes ∧ !rd.contains i then
        some ⟨.vsl id 0 (len + new.length), [(i, .dead), (id, .vec esz (xs.take len ++ new))], rd⟩ else none
    | _ => none
  | _ => none

def lenB (n : Nat) : V := .int .i64 n

/-- The address of an element of a slice. -/
def idxL (o : Hp) (esz j : Nat) : V → Option Act
  | .sl s xs => if s = esz then (xs[j]?).bind fun c => ok (.imp c 0) else none
  | .vsl i st len => (rdVec o i).bind fun ex => if ex.1 = esz ∧ j < len then some ⟨.ept i (st + j) 0, [], [i]⟩ else none
  | .bsl i off len s => if s = esz ∧ j < len then ok (.ptr i (off + j * esz)) else none
  | _ => none

def stepI (G : Nat → Option (List V)) (e : Env) (o : Hp) (base : Nat) : I → Option Act
  | .mov x => ok (evA G e x)
  | .pick c a b => match evA G e c with
    | .bool t => ok (if t then evA G e a else evA G e b)
    | _ => none
  | .alloc k zero => some ⟨.ptr (base + k) 0, [(base + k, .box zero)], []⟩
  | .box k x => if okCells (evA G e x) then some ⟨.ptr (base + k) 0, [(base + k, .box (evA G e x).cells)], []⟩ else none
  | .build zero parts => okV ((fillParts G e parts zero).map .agg)
  | .lit k esz zero parts => (fillElems G e esz parts zero).map fun xs => ⟨.vsl (base + k) 0 xs.length, [(base + k, .vec esz xs)], []⟩
  | .ilit esz zero parts => okV (((fillElems G e esz parts zero).bind nrmLL).map (.sl esz))
  | .load agg a => (peek o (agg.getD 1) (evA G e a)).bind fun r => (aggOf agg r.1).map fun v => ⟨v, [], r.2⟩
  | .store n a x => if (evA G e x).cells.length = n ∧ okCells (evA G e x) = true then (poke o (evA G e x).cells (evA G e a)).map fun u => ⟨.junk, u, []⟩ else none
  | .nilCheck x => match evA G e x with
    | .ptr i off => ok (.ptr i off)
    | .ept i j off => ok (.ept i j off)
    | .imp c off => ok (.imp c off)
    | .fn f c => ok (.fn f c)
    | _ => none
  | .bin op x y => okV (binV op (evA G e x) (evA G e y))
  | .eqv neg ks x y => match evA G e x, evA G e y with
    | .agg a, .agg b => okV ((eqCells ks a b).map fun b => .bool (if neg then !b else b))
    | _, _ => none
  | .eqb neg x y => match evA G e x, evA G e y with
    | .bool a, .bool b => ok (.bool (if neg then !(a == b) else (a == b)))
    | _, _ => none
  | .eqp neg x y => okV ((eqP (evA G e x) (evA G e y)).map fun b => .bool (if neg then !b else b))
  | .un op x => okV (unV op (evA G e x))
  | .convInt k x => match evA G e x with
    | .int _ n => ok (.int k (k.wrap n))
    | _ => none
  | .convStr x => if isStrV (evA G e x) then none else (elemsOf o 1 (evA G e x)).bind fun r => (bytesOf r.1).map fun s => ⟨.str s, [], r.2⟩
  | .convBytes x => match evA G e x with
    | .str s => ok (.sl 1 (bytesV s))
    | _ => none
  | .convSl x => match evA G e x with
    | .vsl i st len => match o i with
      | .vec s xs => if 0 < len then some ⟨.vsl i st len, [(i, .vec s xs)], []⟩ else none
      | _ => none
    | _ => none
  | .arrPtr n x => match evA G e x with
    | .bsl i off len _ => if 0 < n ∧ n ≤ len then ok (.ptr i off) else none
    | _ => none
  | .mkIface t x => ok (.iface t (evA G e x))
  | .mkFn f caps => ok (.fn f (caps.map (evA G e)))
  | .sliceS x lo hi => match evA G e x with
    | .str s => (optN G e 0 lo).bind fun l => (optN G e s.length hi).bind fun h =>
        if l ≤ h ∧ h ≤ s.length then ok (.str ((s.drop l).take (h - l))) else none
    | _ => none
  | .sliceL esz x lo hi => (lenOf (evA G e x)).bind fun n => (optN G e 0 lo).bind fun l => (optN G e n hi).bind fun h => sliceElems o esz l h (evA G e x)
  | .sliceA n esz x lo hi => match evA G e x with
    | .ptr i off => (optN G e 0 lo).bind fun l => (optN G e n hi).bind fun h =>
        if l ≤ h ∧ h ≤ n then ok (.bsl i (off + l * esz) (h - l) esz) else none
    | _ => none
  | .fieldAddr off x => match evA G e x with
    | .ptr i a => ok (.ptr i (a + off))
    | .ept i j a => ok (.ept i j (a + off))
    | .imp c a => ok (.imp c (a + off))
    | _ => none
  | .field off agg x => match evA G e x with
    | .agg cs => okV ((cut off (agg.getD 1) cs).bind (aggOf agg))
    | _ => none
  | .indexAddrA n esz x i => (asN (evA G e i)).bind fun j => if j < n then (match evA G e x with
    | .ptr i a => ok (.ptr i (a + j * esz))
    | .ept i k a => ok (.ept i k (a + j * esz))
    | .imp c a => ok (.imp c (a + j * esz))
    | _ => none) else none
  | .indexAddrL esz x i => (asN (evA G e i)).bind fun j => idxL o esz j (evA G e x)
  | .indexS x i => (asN (evA G e i)).bind fun j => match evA G e x with
    | .str s => (s[j]?).bind fun b => ok (.int .u8 b.toNat)
    | _ => none
  | .indexA n esz agg x i => (asN (evA G e i)).bind fun j => match evA G e x with
    | .agg cs => if j < n then okV ((cut (j * esz) esz cs).bind (aggOf (if agg then some esz else none))) else none
    | _ => none
  | .append k esz ebytes s x => (elemsOf o esz (evA G e x)).bind fun r => appendTo o (base + k) esz ebytes r.1 r.2 (evA G e s)
  | .appendZ k esz ebytes zero s n => (asN (evA G e n)).bind fun m => if room m ebytes then appendTo o (base + k) esz ebytes (List.replicate m zero) [] (evA G e s) else none
  | .copy esz d s => (elemsOf o esz (evA G e s)).bind fun r => match evA G e d with
    | .bsl i off len t => if t = esz ∧ !r.2.contains i then (match o i with
      | .box cs => (splice off (r.1.take len).flatten cs).map fun c => ⟨lenB (min r.1.length len), [(i, .box c)], r.2⟩
      | _ => none) else none
    | _ => none
  | .len x => okV ((lenOf (evA G e x)).map lenB)
  | .lenS x => match evA G e x with
    | .str s => ok (lenB s.length)
    | _ => none
  | .lenA n => ok (lenB n)
  | .cap0 x => match evA G e x with
    | .nils _ => ok (lenB 0)
    | _ => none
  | .mmax xs => match xs.map (evA G e) with | a :: r => okV (foldV maxI a r) | [] => none
  | .mmin xs => match xs.map (evA G e) with | a :: r => okV (foldV minI a r) | [] => none
  | .make k esz ebytes zero len cap => (asN (evA G e len)).bind fun n => (asN (evA G e cap)).bind fun c =>
      if n ≤ c ∧ room c ebytes then some ⟨.vsl (base + k) 0 n, [(base + k, .vec esz (List.replicate n zero))], []⟩ else none
  | .extract x i => match evA G e x with
    | .tup vs => okV (vs[i]?)
    | _ => none
  | .call _ _ _ _ => none
  | .panic _ => none

/-! ### Calls, regions, code -/

inductive Out where
  | ret (v : V) (o : Hp)
  | panic (v : V)

abbrev CallFn := Nat → List V → Hp → Nat → Option Out

/-- What one operation did. -/
structure Fp where
  rd : List Nat
  wr : List Nat
  deriving Inhabited

inductive Did where
  | act (val : V) (ups : List (Nat × AObj)) (fp : Fp)
  | panic (v : V)

def ids (u : List (Nat × AObj)) : List Nat := u.map (·.1)
def notRef (L : List Nat) (u : List (Nat × AObj)) : Bool := u.all fun x => !L.contains x.1

/-- A call: arguments that stand still, objects that are handed on by address, what comes back. -/
def doCall (cf : CallFn) (o : Hp) (base cx : Nat) (f : V) (args : List V) (raw : List Bool) (own : Option Nat) : Option Did :=
  match f with
  | .fn g caps =>
    let all := args ++ caps
    (rawRefs all raw).bind fun r0 => (reach o 64 r0 []).bind fun L => (frzArgs o all raw).bind fun fa =>
      if notRef L fa.2 then
        match (if L.isEmpty then cf g fa.1 (fun _ => .dead) 0 else cf g fa.1 (restrict o L) cx) with
        | some (.ret v o') =>
          let t := thaw (own.map (base + ·)) v
          if closedIn o' L L then
            let keep := if L.isEmpty && scalar v then [] else fa.2
            some (.act t.1 (L.map (fun i => (i, o' i)) ++ keep ++ t.2) ⟨looksArgs o all raw, L ++ ids keep ++ ids t.2⟩)
          else none
        | some (.panic v) => some (.panic v)
        | none => none
      else none
  | _ => none

def doOp (G : Nat → Option (List V)) (cf : CallFn) (base cx : Nat) (e : Env) (o : Hp) : I → Option Did
  | .call f args raw own => doCall cf o base cx (evA G e f) (args.map (evA G e)) raw own
  | .panic x => match evA G e x with
    | .iface t v => match v with
      | .int k n => some (.panic (.iface t (.int k n)))
      | .str s => some (.panic (.iface t (.str s)))
      | _ => none
    | _ => none
  | i => (stepI G e o base i).map fun a => .act a.val a.ups ⟨a.rd, ids a.ups⟩

inductive RR where
  | ok (e : Env) (o : Hp) (fps : List Fp)
  | panic (v : V) (fps : List Fp)

def wantedV (e : Env) : Option (Nat × Bool) → Option Bool
  | none => some true
  | some (t, b) => match e t with
    | .bool c => some (c == b)
    | _ => none

def runOps (G : Nat → Option (List V)) (cf : CallFn) (base cx : Nat) : List Op' → Env → Hp → List Fp → Option RR
  | [], e, o, fps => some (.ok e o fps.reverse)
  | p :: r, e, o, fps =>
    match wantedV e p.guard with
    | some true =>
      match doOp G cf base cx e o p.i with
      | some (.act v u fp) => runOps G cf base cx r (eputO e p.dst v) (hputs o u) (fp :: fps)
      | some (.panic v) => some (.panic v fps.reverse)
      | none => none
    | some false => runOps G cf base cx r (eputO e p.dst .junk) o (⟨[], []⟩ :: fps)
    | none => none

def apart (a b : List Nat) : Bool := a.all fun i => !b.contains i
def fpsApart (a b : Fp) : Bool := apart a.wr b.wr && apart a.wr b.rd && apart b.wr a.rd
def checkPairs (fps : List Fp) : List (Nat × Nat) → Bool
  | [] => true
  | (i, j) :: r => fpsApart (fps.getD i ⟨[], []⟩) (fps.getD j ⟨[], []⟩) && checkPairs fps r

structure St where
  e : Env
  o : Hp
  N : Nat

inductive Ex where
  | normal
  | exit (id : Nat)
  | ret
  | panic (v : V)

def drawOK : Option (List (Nat × Nat) × List Nat) → List Fp → Bool
  | none, _ => true
  | some l, fps => checkPairs fps l.1
def drawPan : Option (List (Nat × Nat) × List Nat) → List Fp → Bool
  | none, _ => true
  | some l, fps => checkPairs fps l.1 && l.2.contains fps.length

def runRegion (G : Nat → Option (List V)) (cf : CallFn) (draw : Option (List (Nat × Nat) × List Nat)) (nalloc : Nat) (ops : List Op') (s : St) : Option (Ex × St) :=
  match runOps G cf s.N (s.N + nalloc) ops s.e s.o [] with
  | some (.ok e o fps) => if drawOK draw fps then some (.normal, ⟨e, o, s.N + nalloc⟩) else none
  | some (.panic v fps) => if drawPan draw fps then some (.panic v, s) else none
  | none => none

def iter (body : St → Option (Ex × St)) : Nat → St → Option (Ex × St)
  | 0, _ => none
  | n + 1, s => match body s with
    | some (.normal, s') => iter body n s'
    | r => r

def exec (G : Nat → Option (List V)) (cf : CallFn) (n : Nat) : MC → St → Option (Ex × St)
  | .skip, s => some (.normal, s)
  | .region d k ops, s => runRegion G cf d k ops s
  | .seq a b, s => match exec G cf n a s with
    | some (.normal, s') => exec G cf n b s'
    | r => r
  | .cond c a b, s => match evA G s.e c with
    | .bool true => exec G cf n a s
    | .bool false => exec G cf n b s
    | _ => none
  | .block id a, s => match exec G cf n a s with
    | some (.exit j, s') => if j = id then some (.normal, s') else some (.exit j, s')
    | r => r
  | .loop a, s => iter (exec G cf n a) n s
  | .exit id, s => some (.exit id, s)
  | .scope a, s => exec G cf n a s
  | .ret, s => some (.ret, s)

def initEnv (args : List V) : Env := fun s => args.getD s .junk

def resOf (o : Hp) (e : Env) : Res → Option V
  | .tmp t => some (e t)
  | .cell t agg => (peek o (agg.getD 1) (e t)).bind fun r => aggOf agg r.1
def resAll (o : Hp) (e : Env) : List Res → Option (List V)
  | [] => some []
  | r :: l => (resOf o e r).bind fun v => (resAll o e l).map (v :: ·)
def resV : List V → V
  | [v] => v
  | l => .tup l

def finish (m : MF) (N : Nat) (s : St) : Option Out :=
  (resAll s.o s.e m.res).bind fun vs => (result s.o N (resV vs)).map fun r => .ret r.1 (hputs s.o r.2)

def callF (G : Nat → Option (List V)) (T : Nat → Option MF) (E : Nat → Option (CallFn → List V → Hp → Nat → Option Out)) : Nat → CallFn
  | 0 => fun _ _ _ _ => none
  | n + 1 => fun f args o N =>
    match E f with
    | some x => x (callF G T E n) args o N
    | none => match T f with
      | none => none
      | some m => if args.length = m.np then
          match exec G (callF G T E n) n m.body ⟨initEnv args, o, N⟩ with
          | some (.normal, s) => finish m N s
          | some (.ret, s) => finish m N s
          | some (.panic v, _) => some (.panic v)
          | _ => none
        else none

end Go.Proofs.YtoccgkgdhobmfaaDoor.Am

/- The abstract machine, part 2: how its values stand to the model's. -/
set_option linter.unusedVariables false
set_option linter.unusedSimpArgs false
namespace Go.Proofs.YtoccgkgdhobmfaaDoor.Am
open Go

abbrev Mem := Nat → Option Obj
structure Blk where
  b : Nat
  size : Nat
  esz : Nat
abbrev Names := Nat → Option Blk

def cellAt (M : Mem) (b off : Nat) : Option Value :=
  match M b with
  | some (.cells c _ _) => c[off]?
  | _ => none

theorem cellAt_mono {M M' : Mem} (h : ∀ b x, M b = some x → M' b = some x) {b off : Nat} {v : Value} (hc : cellAt M b off = some v) : cellAt M' b off = some v := by
  unfold cellAt at *
  cases hb : M b with
  | none => simp [hb] at hc
  | some x => rw [h b x hb]; simpa [hb] using hc

/-- A value that names no object of the call's own, and the model's value; 'M': the blocks that stand still. -/
inductive PRel (M : Mem) : V → Value → Prop
  | junk (x : Value) : PRel M .junk x
  | int (k : IntKind) (n : Int) : PRel M (.int k n) (.int k n)
  | bool (b : Bool) : PRel M (.bool b) (.bool b)
  | str (s : List UInt8) : PRel M (.str s) (.string ⟨s.toArray⟩)
  | nilp : PRel M .nilp (.pointer none)
  | nils (e : Nat) : PRel M (.nils e) (.slice none 0 0)
  | nilf : PRel M .nilf .nilFunc
  | nili : PRel M .nili .nilIface
  | imp (cells : List V) (off b base : Nat) (x : Nat → Value)
      (hc : ∀ (j : Nat) (v : V), cells[j]? = some v → cellAt M b (base + j) = some (x j))
      (ho : ∀ (j : Nat) (v : V), cells[j]? = some v → (x j).oneCell' = true)
      (hr : ∀ (j : Nat) (v : V), cells[j]? = some v → PRel M v (x j)) : PRel M (.imp cells off) (.pointer (some ⟨b, base + off, none⟩))
  | sl (e : Nat) (xs : List (List V)) (a : Option Addr) (cap b off : Nat) (x : Nat → Nat → Value)
      (hcap : xs.length ≤ cap)
      (ha : xs ≠ [] → a = some ⟨b, off, none⟩)
      (he : ∀ (i : Nat) (c : List V), xs[i]? = some c → c.length = e)
      (hc : ∀ (i : Nat) (c : List V) (j : Nat) (v : V), xs[i]? = some c → c[j]? = some v → cellAt M b (off + (i * e + j)) = some (x i j))
      (ho : ∀ (i : Nat) (c : List V) (j : Nat) (v : V), xs[i]? = some c → c[j]? = some v → (x i j).oneCell' = true)
      (hr : ∀ (i : Nat) (c : List V) (j : Nat) (v : V), xs[i]? = some c → c[j]? = some v → PRel M v (x i j)) : PRel M (.sl e xs) (.slice a xs.length cap)
  | fn (f : Nat) (caps : List V) (xs : Array Value) (hl : xs.size = caps.length)
      (hr : ∀ (j : Nat) (v : V), caps[j]? = some v → PRel M v (xs.getD j undef)) : PRel M (.fn f caps) (.func (.func f) #[] xs)
  | iface (t : Nat) (v : V) (x : Value) (hr : PRel M v x) : PRel M (.iface t v) (.iface t x)
  | agg (cells : List V) (xs : Array Value) (hl : xs.size = cells.length)
      (ho : ∀ (j : Nat) (v : V), cells[j]? = some v → (xs.getD j undef).oneCell' = true)
      (hr : ∀ (j : Nat) (v : V), cells[j]? = some v → PRel M v (xs.getD j undef)) : PRel M (.agg cells) (.agg xs)
  | tup (vs : List V) (xs : Array Value) (hl : xs.size = vs.length)
      (hr : ∀ (j : Nat) (v : V), vs[j]? = some v → PRel M v (xs.getD j undef)) : PRel M (.tup vs) (.tuple xs)

theorem PRel.mono {M M' : Mem} (h : ∀ b x, M b = some x → M' b = some x) {v : V} {x : Value} (hv : PRel M v x) : PRel M' v x := by
  induction hv with
  | junk x => exact .junk x
  | int k n => exact .int k n
  | bool b => exact .bool b
  | str s => exact .str s
  | nilp => exact .nilp
  | nils e => exact .nils e
  | nilf => exact .nilf
  | nili => exact .nili
  | imp cells off b base x hc ho hr ih => exact .imp cells off b base x (fun j v hj => cellAt_mono h (hc j v hj)) ho ih
  | sl e xs a cap b off x hcap ha he hc ho hr ih => exact .sl e xs a cap b off x hcap ha he (fun i c j v hi hj => cellAt_mono h (hc i c j v hi hj)) ho ih
  | fn f caps xs hl hr ih => exact .fn f caps xs hl ih
  | iface t v x hr ih => exact .iface t v x ih
  | agg cells xs hl ho hr ih => exact .agg cells xs hl ho ih
  | tup vs xs hl hr ih => exact .tup vs xs hl ih

/-- The same where objects of the call's own are named. -/
inductive Rel (M : Mem) (β : Names) : V → Value → Prop
  | pure {v : V} {x : Value} (h : PRel M v x) : Rel M β v x
  | ptr (i off : Nat) (k : Blk) (h : β i = some k) : Rel M β (.ptr i off) (.pointer (some ⟨k.b, off, none⟩))
  | ept (i j off : Nat) (k : Blk) (h : β i = some k) : Rel M β (.ept i j off) (.pointer (some ⟨k.b, j * k.esz + off, none⟩))
  | vsl (i st len cap : Nat) (k : Blk) (h : β i = some k) (hl : len ≤ cap) (hs : st * k.esz + cap * k.esz ≤ k.size) :
      Rel M β (.vsl i st len) (.slice (some ⟨k.b, st * k.esz, none⟩) len cap)
  | vslE (i st cap : Nat) (a : Option Addr) (h : st ≠ 0) : Rel M β (.vsl i st 0) (.slice a 0 cap)
  | bsl (i off len e cap : Nat) (k : Blk) (h : β i = some k) (hl : len ≤ cap) : Rel M β (.bsl i off len e) (.slice (some ⟨k.b, off, none⟩) len cap)
  | bslE (i off e cap : Nat) (a : Option Addr) : Rel M β (.bsl i off 0 e) (.slice a 0 cap)
  | fn (f : Nat) (caps : List V) (xs : Array Value) (hl : xs.size = caps.length)
      (hr : ∀ (j : Nat) (v : V), caps[j]? = some v → Rel M β v (xs.getD j undef)) : Rel M β (.fn f caps) (.func (.func f) #[] xs)
  | iface (t : Nat) (v : V) (x : Value) (hr : Rel M β v x) : Rel M β (.iface t v) (.iface t x)
  | agg (cells : List V) (xs : Array Value) (hl : xs.size = cells.length)
      (ho : ∀ (j : Nat) (v : V), cells[j]? = some v → (xs.getD j undef).oneCell' = true)
      (hr : ∀ (j : Nat) (v : V), cells[j]? = some v → Rel M β v (xs.getD j undef)) : Rel M β (.agg cells) (.agg xs)
  | tup (vs : List V) (xs : Array Value) (hl : xs.size = vs.length)
      (hr : ∀ (j : Nat) (v : V), vs[j]? = some v → Rel M β v (xs.getD j undef)) : Rel M β (.tup vs) (.tuple xs)

theorem Rel.mono {M M' : Mem} {β β' : Names} (h : ∀ b x, M b = some x → M' b = some x) (hβ : ∀ i k, β i = some k → β' i = some k)
    {v : V} {x : Value} (hv : Rel M β v x) : Rel M' β' v x := by
  induction hv with
  | pure hp => exact .pure (hp.mono h)
  | ptr i off k hk => exact .ptr i off k (hβ i k hk)
  | ept i j off k hk => exact .ept i j off k (hβ i k hk)
  | vsl i st len cap k hk hl hs => exact .vsl i st len cap k (hβ i k hk) hl hs
  | vslE i st cap a hs => exact .vslE i st cap a hs
  | bsl i off len e cap k hk hl => exact .bsl i off len e cap k (hβ i k hk) hl
  | bslE i off e cap a => exact .bslE i off e cap a
  | fn f caps xs hl hr ih => exact .fn f caps xs hl ih
  | iface t v x hr ih => exact .iface t v x ih
  | agg cells xs hl ho hr ih => exact .agg cells xs hl ho ih
  | tup vs xs hl hr ih => exact .tup vs xs hl ih

/-! ### What a value looks like -/

section inv
variable {M : Mem} {β : Names} {x : Value}

theorem Rel.int_inv {k n} (h : Rel M β (.int k n) x) : x = .int k n := by
  cases h with | pure h => cases h; rfl
theorem Rel.bool_inv {b} (h : Rel M β (.bool b) x) : x = .bool b := by
  cases h with | pure h => cases h; rfl
theorem Rel.str_inv {s} (h : Rel M β (.str s) x) : x = .string ⟨s.toArray⟩ := by
  cases h with | pure h => cases h; rfl
theorem Rel.nilp_inv (h : Rel M β .nilp x) : x = .pointer none := by
  cases h with | pure h => cases h; rfl
theorem Rel.nils_inv {e} (h : Rel M β (.nils e) x) : x = .slice none 0 0 := by
  cases h with | pure h => cases h; rfl
theorem Rel.nilf_inv (h : Rel M β .nilf x) : x = .nilFunc := by
  cases h with | pure h => cases h; rfl
theorem Rel.nili_inv (h : Rel M β .nili x) : x = .nilIface := by
  cases h with | pure h => cases h; rfl
theorem Rel.ptr_inv {i off} (h : Rel M β (.ptr i off) x) : ∃ k, β i = some k ∧ x = .pointer (some ⟨k.b, off, none⟩) := by
  cases h with
  | pure h => cases h
  | ptr _ _ k hk => exact ⟨k, hk, rfl⟩
theorem Rel.ept_inv {i j off} (h : Rel M β (.ept i j off) x) : ∃ k, β i = some k ∧ x = .pointer (some ⟨k.b, j * k.esz + off, none⟩) := by
  cases h with
  | pure h => cases h
  | ept _ _ _ k hk => exact ⟨k, hk, rfl⟩
theorem Rel.imp_inv {cells off} (h : Rel M β (.imp cells off) x) : PRel M (.imp cells off) x := by
  cases h with | pure h => exact h
theorem Rel.sl_inv {e xs} (h : Rel M β (.sl e xs) x) : PRel M (.sl e xs) x := by
  cases h with | pure h => exact h
theorem Rel.agg_inv {cs} (h : Rel M β (.agg cs) x) : ∃ xs, x = .agg xs ∧ xs.size = cs.length ∧ (∀ j v, cs[j]? = some v → (xs.getD j undef).oneCell' = true) ∧
    ∀ j v, cs[j]? = some v → Rel M β v (xs.getD j undef) := by
  cases h with
  | pure h => cases h with | agg _ xs hl ho hr => exact ⟨xs, rfl, hl, ho, fun j v hj => .pure (hr j v hj)⟩
  | agg _ xs hl ho hr => exact ⟨xs, rfl, hl, ho, hr⟩
theorem Rel.tup_inv {cs} (h : Rel M β (.tup cs) x) : ∃ xs, x = .tuple xs ∧ xs.size = cs.length ∧ ∀ j v, cs[j]? = some v → Rel M β v (xs.getD j undef) := by
  cases h with
  | pure h => cases h with | tup _ xs hl hr => exact ⟨xs, rfl, hl, fun j v hj => .pure (hr j v hj)⟩
  | tup _ xs hl hr => exact ⟨xs, rfl, hl, hr⟩
theorem Rel.fn_inv {f cs} (h : Rel M β (.fn f cs) x) : ∃ xs, x = .func (.func f) #[] xs ∧ xs.size = cs.length ∧ ∀ j v, cs[j]? = some v → Rel M β v (xs.getD j undef) := by
  cases h with
  | pure h => cases h with | fn _ _ xs hl hr => exact ⟨xs, rfl, hl, fun j v hj => .pure (hr j v hj)⟩
  | fn _ _ xs hl hr => exact ⟨xs, rfl, hl, hr⟩
theorem Rel.iface_inv {t v} (h : Rel M β (.iface t v) x) : ∃ y, x = .iface t y ∧ Rel M β v y := by
  cases h with
  | pure h => cases h with | iface _ _ y hr => exact ⟨y, rfl, .pure hr⟩
  | iface _ _ y hr => exact ⟨y, rfl, hr⟩
theorem Rel.own_inv {e xs} (h : Rel M β (.own e xs) x) : False := by
  cases h with | pure h => cases h
theorem PRel.agg_inv {cs} (h : PRel M (.agg cs) x) : ∃ xs, x = .agg xs ∧ xs.size = cs.length ∧ (∀ j v, cs[j]? = some v → (xs.getD j undef).oneCell' = true) ∧
    ∀ j v, cs[j]? = some v → PRel M v (xs.getD j undef) := by
  cases h with | agg _ xs hl ho hr => exact ⟨xs, rfl, hl, ho, hr⟩

/-- A value of one cell stands for one. -/
theorem Rel.one {v : V} (h : Rel M β v x) (hv : cellV v = true) : x.oneCell' = true := by
  cases h with
  | pure h => cases h <;> first | rfl | simp [cellV] at hv
  | agg _ _ _ _ _ => simp [cellV] at hv
  | tup _ _ _ _ => simp [cellV] at hv
  | _ => rfl
end inv

/-! ### Lists of cells -/

/-- Cell by cell. -/
def RelL (M : Mem) (β : Names) (cs : List V) (xs : List Value) : Prop :=
  cs.length = xs.length ∧ (∀ (j : Nat) (v : V) (x : Value), cs[j]? = some v → xs[j]? = some x → Rel M β v x) ∧ ∀ x ∈ xs, x.oneCell' = true

theorem cells_of_one {x : Value} (h : x.oneCell' = true) : x.cells = #[x] := by cases x <;> simp_all [Value.oneCell', Value.cells]

theorem getD_of_getElem? {α} {xs : Array α} {j : Nat} {x d : α} (h : xs[j]? = some x) : xs.getD j d = x := by
  simp [Array.getD_eq_getD_getElem?, h]

theorem Rel.cells {M : Mem} {β : Names} {v : V} {x : Value} (h : Rel M β v x) (hv : okCells v = true) : RelL M β v.cells x.cells.toList := by
  have scal : cellV v = true → RelL M β v.cells x.cells.toList := by
    intro hc
    have hx := h.one hc
    rw [cells_of_one hx]
    have hvc : v.cells = [v] := by cases v <;> simp_all [cellV, V.cells]
    rw [hvc]
    refine ⟨rfl, ?_, by simpa using hx⟩
    intro j w y hj hy
    cases j with
    | zero => simp at hj hy; subst hj; subst hy; exact h
    | succ j => simp at hj
  cases v with
  | agg cs =>
    obtain ⟨xs, rfl, hl, ho, hr⟩ := h.agg_inv
    refine ⟨by simp [V.cells, Value.cells, hl], ?_, ?_⟩
    · intro j v x hj hx
      simp only [Value.cells, Array.getElem?_toList] at hx
      have := hr j v hj
      rwa [getD_of_getElem? hx] at this
    · intro x hx
      obtain ⟨j, hj⟩ := List.getElem?_of_mem hx
      simp only [Value.cells, Array.getElem?_toList] at hj
      have hlt : j < xs.size := (Array.getElem?_eq_some_iff.1 hj).1
      have hcs : ∃ v, cs[j]? = some v := ⟨cs[j]'(by omega), List.getElem?_eq_getElem (by omega)⟩
      obtain ⟨v, hv'⟩ := hcs
      have := ho j v hv'
      rwa [getD_of_getElem? hj] at this
  | _ => exact scal hv

theorem RelL.mono {M M' : Mem} {β β' : Names} (h : ∀ b x, M b = some x → M' b = some x) (hβ : ∀ i k, β i = some k → β' i = some k)
    {cs : List V} {xs : List Value} (hv : RelL M β cs xs) : RelL M' β' cs xs :=
  ⟨hv.1, fun j v x hj hx => (hv.2.1 j v x hj hx).mono h hβ, hv.2.2⟩

theorem RelL.agg {M : Mem} {β : Names} {cs : List V} {xs : List Value} (h : RelL M β cs xs) : Rel M β (.agg cs) (.agg xs.toArray) := by
  refine .agg cs _ (by simp [h.1]) ?_ ?_
  · intro j v hj
    have hlt : j < xs.length := by rw [← h.1]; exact (List.getElem?_eq_some_iff.1 hj).1
    have hx : xs.toArray[j]? = some xs[j] := by simp [hlt]
    rw [getD_of_getElem? hx]; exact h.2.2 _ (List.getElem_mem _)
  · intro j v hj
    have hlt : j < xs.length := by rw [← h.1]; exact (List.getElem?_eq_some_iff.1 hj).1
    have hx : xs.toArray[j]? = some xs[j] := by simp [hlt]
    rw [getD_of_getElem? hx]; exact h.2.1 j v _ hj (by simp [hlt])

theorem RelL.take {M : Mem} {β : Names} {cs : List V} {xs : List Value} (h : RelL M β cs xs) (n : Nat) : RelL M β (cs.take n) (xs.take n) := by
  refine ⟨by simp [h.1], ?_, fun x hx => h.2.2 x (List.mem_of_mem_take hx)⟩
  intro j v x hj hx
  rw [List.getElem?_take] at hj hx
  split at hj
  · rename_i hlt; simp [hlt] at hx; exact h.2.1 j v x hj hx
  · cases hj
theorem RelL.drop {M : Mem} {β : Names} {cs : List V} {xs : List Value} (h : RelL M β cs xs) (n : Nat) : RelL M β (cs.drop n) (xs.drop n) := by
  refine ⟨by simp [h.1], ?_, fun x hx => h.2.2 x (List.mem_of_mem_drop hx)⟩
  intro j v x hj hx
  rw [List.getElem?_drop] at hj hx
  exact h.2.1 _ v x hj hx
theorem RelL.append {M : Mem} {β : Names} {cs ds : List V} {xs ys : List Value} (h : RelL M β cs xs) (k : RelL M β ds ys) : RelL M β (cs ++ ds) (xs ++ ys) := by
  refine ⟨by simp [h.1, k.1], ?_, fun x hx => (List.mem_append.1 hx).elim (h.2.2 x) (k.2.2 x)⟩
  intro j v x hj hx
  rw [List.getElem?_append] at hj hx
  rw [← h.1] at hx
  split at hj
  · rename_i hlt; simp [hlt] at hx; exact h.2.1 j v x hj hx
  · rename_i hlt; simp [hlt] at hx; exact k.2.1 _ v x hj hx
theorem RelL.nil {M : Mem} {β : Names} : RelL M β [] [] := ⟨rfl, by simp, by simp⟩

end Go.Proofs.YtoccgkgdhobmfaaDoor.Am

/- The abstract machine, part 3: its heap and the model's; what a new block, a store, a value that stands still from now on do to them. -/
set_option linter.unusedVariables false
set_option linter.unusedSimpArgs false
namespace Go.Proofs.YtoccgkgdhobmfaaDoor.Am
open Go

def Clear (c : Array Value) (fr : Nat × Nat) : Prop := fr.1 = fr.2 ∨ c.size ≤ fr.1

/-- A block holds these cells first. -/
def BoxAt (ob : Option Obj) (size : Nat) (R : V → Value → Prop) (cs : List V) : Prop :=
  ∃ c ty fr, ob = some (.cells c ty fr) ∧ Clear c fr ∧ c.size = size ∧ cs.length ≤ c.size ∧
    ∀ (j : Nat) (v : V), cs[j]? = some v → ∃ x, c[j]? = some x ∧ x.oneCell' = true ∧ R v x

theorem BoxAt.mono {ob ob' : Option Obj} {size : Nat} {R R' : V → Value → Prop} {cs : List V} (h : BoxAt ob size R cs) (ho : ∀ x, ob = some x → ob' = some x)
    (hR : ∀ v x, R v x → R' v x) : BoxAt ob' size R' cs := by
  obtain ⟨c, ty, fr, hb, hc, hs, hl, hr⟩ := h
  exact ⟨c, ty, fr, ho _ hb, hc, hs, hl, fun j v hj => let ⟨x, a, b, d⟩ := hr j v hj; ⟨x, a, b, hR _ _ d⟩⟩

def wrt : AObj → Bool
  | .box _ | .vec _ _ => true
  | _ => false

def Holds (M : Mem) (β : Names) (Wr : Nat → Prop) (w : World) (k : Blk) : AObj → Prop
  | .dead => True
  | .box cs => Wr k.b ∧ M k.b = none ∧ BoxAt w.heap[k.b]? k.size (Rel M β) cs
  | .vec e xs => Wr k.b ∧ M k.b = none ∧ k.esz = e ∧ (∀ l ∈ xs, l.length = e) ∧ BoxAt w.heap[k.b]? k.size (Rel M β) xs.flatten
  | .fbox cs => BoxAt (M k.b) k.size (PRel M) cs
  | .fvec e xs => k.esz = e ∧ (∀ l ∈ xs, l.length = e) ∧ BoxAt (M k.b) k.size (PRel M) xs.flatten

structure SR (M : Mem) (β : Names) (N : Nat) (Wr : Nat → Prop) (o : Hp) (w : World) : Prop where
  sub : ∀ b x, M b = some x → w.heap[b]? = some x
  bnd : ∀ i k, β i = some k → i < N
  live : ∀ i, o i ≠ .dead → ∃ k, β i = some k ∧ Holds M β Wr w k (o i)
  inj : ∀ i j ki kj, wrt (o i) = true → wrt (o j) = true → β i = some ki → β j = some kj → ki.b = kj.b → i = j

/-- Of what was there when the call began only the blocks of 'Lb' may have turned. -/
structure Kp (Lb : Nat → Prop) (w w' : World) : Prop where
  os : w'.os = w.os
  tape : w'.tape = w.tape
  output : w'.output = w.output
  size : w.heap.size ≤ w'.heap.size
  block : ∀ b, b < w.heap.size → ¬ Lb b → w'.heap[b]? = w.heap[b]?

theorem Kp.refl (Lb : Nat → Prop) (w : World) : Kp Lb w w := ⟨rfl, rfl, rfl, Nat.le_refl _, fun _ _ _ => rfl⟩
theorem Kp.trans {Lb : Nat → Prop} {a b c : World} (h : Kp Lb a b) (k : Kp (fun x => a.heap.size ≤ x ∨ Lb x) b c) : Kp Lb a c :=
  ⟨k.os.trans h.os, k.tape.trans h.tape, k.output.trans h.output, Nat.le_trans h.size k.size, fun i hi hn =>
    (k.block i (Nat.lt_of_lt_of_le hi h.size) (fun hh => hh.elim (fun h1 => by omega) hn)).trans (h.block i hi hn)⟩
theorem Kp.mono {Lb Lb' : Nat → Prop} {a b : World} (h : Kp Lb a b) (hl : ∀ x, Lb x → Lb' x) : Kp Lb' a b :=
  ⟨h.os, h.tape, h.output, h.size, fun i hi hn => h.block i hi (fun hh => hn (hl i hh))⟩

def wset (w : World) (b : Nat) (ob : Obj) : World := { w with heap := w.heap.setIfInBounds b ob }

theorem heap_alloc_lt (w : World) (ob : Obj) (b : Nat) (h : b < w.heap.size) : (w.alloc ob).heap[b]? = w.heap[b]? := by
  show (w.heap.push ob)[b]? = _
  rw [Array.getElem?_push, if_neg (by omega)]
theorem heap_alloc_eq (w : World) (ob : Obj) : (w.alloc ob).heap[w.heap.size]? = some ob := by
  show (w.heap.push ob)[w.heap.size]? = _
  simp
theorem heap_wset_eq (w : World) (b : Nat) (ob : Obj) (h : b < w.heap.size) : (wset w b ob).heap[b]? = some ob := by
  simp [wset, Array.getElem?_setIfInBounds, h]
theorem heap_wset_ne (w : World) (b b' : Nat) (ob : Obj) (h : b' ≠ b) : (wset w b ob).heap[b']? = w.heap[b']? := by
  simp only [wset, Array.getElem?_setIfInBounds]
  rw [if_neg (fun e => h e.symm)]
theorem lt_of_some {α} {xs : Array α} {b : Nat} {x : α} (h : xs[b]? = some x) : b < xs.size := (Array.getElem?_eq_some_iff.1 h).1

theorem Kp.alloc {Lb : Nat → Prop} {w0 w : World} (h : Kp Lb w0 w) (ob : Obj) : Kp Lb w0 (w.alloc ob) :=
  h.trans ⟨rfl, rfl, rfl, by simp, fun b hb _ => heap_alloc_lt w ob b hb⟩
theorem Kp.drew {Lb : Nat → Prop} {w0 w : World} (h : Kp Lb w0 w) : Kp Lb w0 w.drew := ⟨h.os, h.tape, h.output, h.size, h.block⟩
theorem Kp.wset {Lb : Nat → Prop} {w0 w : World} (h : Kp Lb w0 w) (b : Nat) (ob : Obj) (hb : w0.heap.size ≤ b ∨ Lb b) : Kp Lb w0 (wset w b ob) :=
  h.trans ⟨rfl, rfl, rfl, by simp [Am.wset], fun b' hb' hn => heap_wset_ne w b b' ob (fun e => hn (e ▸ hb))⟩

section steps
variable {M : Mem} {β : Names} {N : Nat} {Wr : Nat → Prop} {o : Hp} {w : World}

theorem Holds.world {k : Blk} {x : AObj} {w' : World} (h : Holds M β Wr w k x) (hw : wrt x = true → w'.heap[k.b]? = w.heap[k.b]?) : Holds M β Wr w' k x := by
  cases x with
  | box cs => obtain ⟨h1, h2, h3⟩ := h; exact ⟨h1, h2, by rw [hw rfl]; exact h3⟩
  | vec e xs => obtain ⟨h1, h2, h3, h4, h5⟩ := h; exact ⟨h1, h2, h3, h4, by rw [hw rfl]; exact h5⟩
  | dead => exact h
  | fbox cs => exact h
  | fvec e xs => exact h

theorem Holds.lt {k : Blk} {x : AObj} (h : Holds M β Wr w k x) (hx : wrt x = true) : k.b < w.heap.size := by
  cases x with
  | box cs => obtain ⟨_, _, c, ty, fr, hb, _⟩ := h; exact lt_of_some hb
  | vec e xs => obtain ⟨_, _, _, _, c, ty, fr, hb, _⟩ := h; exact lt_of_some hb
  | dead => cases hx
  | fbox cs => cases hx
  | fvec e xs => cases hx

theorem Holds.none {k : Blk} {x : AObj} (h : Holds M β Wr w k x) (hx : wrt x = true) : M k.b = none := by
  cases x with
  | box cs => exact h.2.1
  | vec e xs => exact h.2.1
  | dead => cases hx
  | fbox cs => cases hx
  | fvec e xs => cases hx

theorem Holds.wr {k : Blk} {x : AObj} (h : Holds M β Wr w k x) (hx : wrt x = true) : Wr k.b := by
  cases x with
  | box cs => exact h.1
  | vec e xs => exact h.1
  | dead => cases hx
  | fbox cs => cases hx
  | fvec e xs => cases hx

theorem Holds.names {k : Blk} {x : AObj} {β' : Names} (h : Holds M β Wr w k x) (hβ : ∀ i k, β i = some k → β' i = some k) : Holds M β' Wr w k x := by
  cases x with
  | box cs => obtain ⟨h1, h2, h3⟩ := h; exact ⟨h1, h2, h3.mono (fun _ h => h) fun _ _ h => h.mono (fun _ _ h => h) hβ⟩
  | vec e xs => obtain ⟨h1, h2, h3, h4, h5⟩ := h; exact ⟨h1, h2, h3, h4, h5.mono (fun _ h => h) fun _ _ h => h.mono (fun _ _ h => h) hβ⟩
  | dead => exact h
  | fbox cs => exact h
  | fvec e xs => exact h

/-- The blocks of the objects that may be written stay as they are: the rest of the world may turn. -/
theorem SR.world {w' : World} (h : SR M β N Wr o w) (hw : ∀ b, b < w.heap.size → w'.heap[b]? = w.heap[b]?) : SR M β N Wr o w' where
  sub b x hx := by
    have := h.sub b x hx
    rw [hw b (lt_of_some this)]; exact this
  bnd := h.bnd
  live i hi := by
    obtain ⟨k, hk, hh⟩ := h.live i hi
    exact ⟨k, hk, hh.world fun hx => hw _ (hh.lt hx)⟩
  inj := h.inj

theorem SR.alloc (h : SR M β N Wr o w) (ob : Obj) : SR M β N Wr o (w.alloc ob) := h.world fun b hb => heap_alloc_lt w ob b hb
theorem SR.drew (h : SR M β N Wr o w) : SR M β N Wr o w.drew := h.world fun _ _ => rfl

theorem SR.fresh (h : SR M β N Wr o w) : M w.heap.size = none := by
  cases hm : M w.heap.size with
  | none => rfl
  | some x => have := lt_of_some (h.sub _ x hm); omega

def nput (β : Names) (i : Nat) (k : Blk) : Names := fun j => if j = i then some k else β j
theorem nput_le {i : Nat} {k : Blk} (h : β i = none) : ∀ j kj, β j = some kj → nput β i k j = some kj := by
  intro j kj hj
  unfold nput
  rw [if_neg (fun e => by rw [e, h] at hj; cases hj)]; exact hj
theorem nput_eq {i : Nat} {k : Blk} : nput β i k i = some k := by simp [nput]

/-- A new object in the newest block. -/
theorem SR.new (h : SR M β N Wr o w) {i : Nat} {k : Blk} {x : AObj} (hi : β i = none) (hiN : i < N) (hx : wrt x = true)
    (hne : ∀ j kj, wrt (o j) = true → β j = some kj → kj.b ≠ k.b) (hh : Holds M (nput β i k) Wr w k x) : SR M (nput β i k) N Wr (hput o i x) w where
  sub := h.sub
  bnd j kj hj := by
    unfold nput at hj
    split at hj
    · rename_i e; omega
    · exact h.bnd j kj hj
  live j hj := by
    unfold hput at hj ⊢
    by_cases e : j = i
    · subst e; simp only [if_true]; exact ⟨k, nput_eq, hh⟩
    · rw [if_neg e] at hj ⊢
      obtain ⟨kj, hkj, hhj⟩ := h.live j hj
      exact ⟨kj, nput_le hi j kj hkj, hhj.names (nput_le hi)⟩
  inj a b ka kb ha hb hka hkb hab := by
    unfold hput at ha hb
    unfold nput at hka hkb
    by_cases ea : a = i <;> by_cases eb : b = i
    · rw [ea, eb]
    · simp only [ea, eb, if_true, if_false] at ha hb hka hkb
      cases hka
      exact absurd hab.symm (hne b kb hb hkb)
    · simp only [ea, eb, if_true, if_false] at ha hb hka hkb
      cases hkb
      exact absurd hab (hne a ka ha hka)
    · simp only [ea, eb, if_false] at ha hb hka hkb
      exact h.inj a b ka kb ha hb hka hkb hab

/-- An object of the call's own turns in place: its block alone is written. -/
theorem SR.write (h : SR M β N Wr o w) {i : Nat} {k : Blk} {x : AObj} {ob : Obj} (hi : β i = some k) (hwi : wrt (o i) = true) (hx : wrt x = true)
    (hh : Holds M β Wr (wset w k.b ob) k x) : SR M β N Wr (hput o i x) (wset w k.b ob) where
  sub b y hy := by
    obtain ⟨k', hk', hhi⟩ := h.live i (fun e => by rw [e] at hwi; cases hwi)
    rw [hi] at hk'; cases hk'
    have hne : b ≠ k.b := fun e => by have := hhi.none hwi; rw [← e, hy] at this; cases this
    rw [heap_wset_ne _ _ _ _ hne]; exact h.sub b y hy
  bnd := h.bnd
  live j hj := by
    unfold hput at hj ⊢
    by_cases e : j = i
    · subst e; simp only [if_true]; exact ⟨k, hi, hh⟩
    · rw [if_neg e] at hj ⊢
      obtain ⟨kj, hkj, hhj⟩ := h.live j hj
      refine ⟨kj, hkj, hhj.world fun hwj => heap_wset_ne _ _ _ _ fun eb => e (h.inj j i kj k hwj hwi hkj hi eb)⟩
  inj a b ka kb ha hb hka hkb hab := by
    unfold hput at ha hb
    refine h.inj a b ka kb ?_ ?_ hka hkb hab
    · by_cases ea : a = i
      · rw [ea]; exact hwi
      · rwa [if_neg ea] at ha
    · by_cases eb : b = i
      · rw [eb]; exact hwi
      · rwa [if_neg eb] at hb

theorem SR.kill (h : SR M β N Wr o w) (i : Nat) : SR M β N Wr (hput o i .dead) w where
  sub := h.sub
  bnd := h.bnd
  live j hj := by
    unfold hput at hj ⊢
    by_cases e : j = i
    · rw [if_pos e] at hj; exact absurd rfl hj
    · rw [if_neg e] at hj ⊢; exact h.live j hj
  inj a b ka kb ha hb hka hkb hab := by
    unfold hput at ha hb
    refine h.inj a b ka kb ?_ ?_ hka hkb hab
    · by_cases ea : a = i
      · rw [if_pos ea] at ha; cases ha
      · rwa [if_neg ea] at ha
    · by_cases eb : b = i
      · rw [if_pos eb] at hb; cases hb
      · rwa [if_neg eb] at hb
end steps

/-! ### Cells in the model's heap -/

theorem addr_add (b off n : Nat) : (⟨b, off, none⟩ : Addr).add n = ⟨b, off + n, none⟩ := by
  unfold Addr.add; split <;> simp_all

theorem cell_at {w : World} {b off : Nat} {c : Array Value} {ty : TypeId} {fr : Nat × Nat} (h : w.heap[b]? = some (.cells c ty fr)) :
    w.cell? ⟨b, off, none⟩ = c[off]? := by simp [World.cell?, h]

theorem frozen_at {w : World} {b off : Nat} {c : Array Value} {ty : TypeId} {fr : Nat × Nat} (h : w.heap[b]? = some (.cells c ty fr)) (hc : Clear c fr) (ho : off < c.size) :
    w.frozen? ⟨b, off, none⟩ = false := by
  obtain ⟨lo, hi⟩ := fr
  simp only [World.frozen?, h]
  simp only [Bool.and_eq_false_iff, decide_eq_false_iff_not, Nat.not_le, Nat.not_lt]
  simp only [Clear] at hc
  omega

theorem setCell_eq {w : World} {b off : Nat} {c : Array Value} {ty : TypeId} {fr : Nat × Nat} (h : w.heap[b]? = some (.cells c ty fr)) (v : Value) :
    w.setCell ⟨b, off, none⟩ v = wset w b (.cells (c.setIfInBounds off v) ty fr) := by
  have hlt := lt_of_some h
  have hx : w.heap[b] = .cells c ty fr := by simpa [Array.getElem?_eq_getElem hlt] using h
  unfold World.setCell wset
  congr 1
  apply Array.ext
  · simp
  · intro i h1 h2
    simp only [Array.getElem_modify]
    by_cases e : b = i
    · subst e; simp [hx]
    · simp only [e, if_false]
      rw [Array.getElem_setIfInBounds]
      rw [if_neg e]

/-- Writes behind one another. -/
def wcells (c : Array Value) (off : Nat) : List Value → Array Value
  | [] => c
  | v :: r => wcells (c.setIfInBounds off v) (off + 1) r

theorem wcells_size (c : Array Value) (off : Nat) (vs : List Value) : (wcells c off vs).size = c.size := by
  induction vs generalizing c off with
  | nil => rfl
  | cons v r ih => simp [wcells, ih]

theorem wcells_get (vs : List Value) : ∀ (c : Array Value) (off : Nat), off + vs.length ≤ c.size → ∀ j,
    (wcells c off vs)[j]? = if off ≤ j ∧ j < off + vs.length then vs[j - off]? else c[j]? := by
  induction vs with
  | nil => intro c off h j; simp only [wcells, List.length_nil, Nat.add_zero]; rw [if_neg (by omega)]
  | cons v r ih =>
    intro c off h j
    simp only [List.length_cons] at h
    simp only [wcells]
    rw [ih _ _ (by simp; omega) j]
    by_cases h1 : off + 1 ≤ j ∧ j < off + 1 + r.length
    · rw [if_pos h1, if_pos (by simp; omega)]
      have : j - off = (j - (off + 1)) + 1 := by omega
      rw [this, List.getElem?_cons_succ]
    · rw [if_neg h1, Array.getElem?_setIfInBounds]
      by_cases h2 : off = j
      · subst h2
        rw [if_pos rfl, if_pos (by omega), if_pos (by simp)]
        simp
      · rw [if_neg h2, if_neg (by simp; omega)]

theorem wset_wset (w : World) (b : Nat) (x y : Obj) : wset (wset w b x) b y = wset w b y := by
  unfold wset; simp

theorem wset_same {w : World} {b : Nat} {x : Obj} (h : w.heap[b]? = some x) : wset w b x = w := by
  have hlt := lt_of_some h
  have hx : w.heap[b] = x := by simpa [Array.getElem?_eq_getElem hlt] using h
  have : w.heap.setIfInBounds b x = w.heap := by
    apply Array.ext
    · simp
    · intro i h1 h2
      rw [Array.getElem_setIfInBounds]
      split
      · rename_i e; subst e; exact hx.symm
      · rfl
  unfold wset; rw [this]

/-- Stores into a block that may be written. -/
theorem run_storeCells {P : Program} {ty : TypeId} {fr : Nat × Nat} (b off : Nat) (vs : List Value) : ∀ (w : World) (c : Array Value) (i : Nat), w.heap[b]? = some (.cells c ty fr) → Clear c fr →
    off + i + vs.length ≤ c.size → (∀ v ∈ vs, v.oneCell' = true) → (storeCells ⟨b, off, none⟩ vs i).run P w = .ok () (wset w b (.cells (wcells c (off + i) vs) ty fr)) := by
  induction vs with
  | nil =>
    intro w c i h hc hl hv
    simp only [storeCells, wcells, Sem.run_pure]
    rw [wset_same h]
  | cons v r ih =>
    intro w c i h hc hl hv
    simp only [List.length_cons] at hl
    have hlt : off + i < c.size := by omega
    have h1 : (store ((⟨b, off, none⟩ : Addr).add i) v).run P w = .ok () (wset w b (.cells (c.setIfInBounds (off + i) v) ty fr)) := by
      rw [addr_add, run_store P w _ v .plain (hv v (by simp)), cell_at h, Array.getElem?_eq_getElem hlt]
      simp only [frozen_at h hc hlt, Bool.false_eq_true, if_false]
      rw [setCell_eq h]
    have h2 := ih (wset w b (.cells (c.setIfInBounds (off + i) v) ty fr)) (c.setIfInBounds (off + i) v) (i + 1) (heap_wset_eq _ _ _ (lt_of_some h))
      (by simpa [Clear] using hc) (by simp; omega) (fun v hv' => hv v (by simp [hv']))
    simp only [storeCells, Sem.run_bind, h1, Result.andThen_ok]
    rw [h2, wset_wset]
    simp only [wcells, Nat.add_assoc]

theorem run_loadCells_at {P : Program} {w : World} {b off n : Nat} {c : Array Value} {ty : TypeId} {fr : Nat × Nat} (h : w.heap[b]? = some (.cells c ty fr)) (hn : off + n ≤ c.size) :
    (loadCells ⟨b, off, none⟩ n).run P w = .ok ((c.toList.drop off).take n).toArray w := by
  have hl := run_loadCells_list (P := P) (w := w) ⟨b, off, none⟩ ((c.toList.drop off).take n) (by
    intro j v hj
    rw [List.getElem?_take] at hj
    split at hj
    · rw [addr_add, cell_at h]
      rw [List.getElem?_drop, Array.getElem?_toList] at hj
      exact hj
    · cases hj)
  have : ((c.toList.drop off).take n).length = n := by simp; omega
  rw [this] at hl
  exact hl

end Go.Proofs.YtoccgkgdhobmfaaDoor.Am

/- The abstract machine, part 4: which instruction stands for which operation of the model; what each does to both. -/
set_option linter.unusedVariables false
set_option linter.unusedSimpArgs false
namespace Go.Proofs.YtoccgkgdhobmfaaDoor.Am
open Go

/-! ### Constants and operands -/

def chkV : Value → V → Bool
  | .int k n, .int k' n' => k == k' && n == n'
  | .bool b, .bool c => b == c
  | .string s, .str l => s.data.toList == l
  | .pointer none, .nilp => true
  | .slice none 0 0, .nils _ => true
  | .nilFunc, .nilf => true
  | .nilIface, .nili => true
  | _, _ => false
def chkCells : List Value → List V → Bool
  | [], [] => true
  | x :: xs, v :: vs => chkV x v && chkCells xs vs
  | _, _ => false
def chkC : Value → V → Bool
  | .agg xs, .agg vs => chkCells xs.toList vs
  | x, v => chkV x v
def chkA : Operand → Arg → Bool
  | .tmp t, .tmp s => t == s
  | .const x, .const v => chkC x v
  | .global g, .glob h => g == h
  | .func f, .fn h => f == h
  | _, _ => false

theorem chkV_sound {M : Mem} {x : Value} {v : V} (h : chkV x v = true) : PRel M v x ∧ cellV v = true := by
  unfold chkV at h
  split at h
  · simp only [Bool.and_eq_true, beq_iff_eq] at h; obtain ⟨rfl, rfl⟩ := h; exact ⟨.int _ _, rfl⟩
  · simp only [beq_iff_eq] at h; subst h; exact ⟨.bool _, rfl⟩
  · rename_i s l
    simp only [beq_iff_eq] at h; subst h
    have : s = ⟨s.data.toList.toArray⟩ := by simp
    refine ⟨?_, rfl⟩
    rw [this]; exact .str _
  · exact ⟨.nilp, rfl⟩
  · exact ⟨.nils _, rfl⟩
  · exact ⟨.nilf, rfl⟩
  · exact ⟨.nili, rfl⟩
  · cases h
theorem PRel.one {M : Mem} {v : V} {x : Value} (h : PRel M v x) (hv : cellV v = true) : x.oneCell' = true := (Rel.pure (β := fun _ => none) h).one hv

theorem chkCells_sound {M : Mem} {β : Names} : ∀ {xs : List Value} {vs : List V}, chkCells xs vs = true → RelL M β vs xs ∧ vs.all cellV = true := by
  intro xs
  induction xs with
  | nil => intro vs h; cases vs with | nil => exact ⟨RelL.nil, rfl⟩ | cons v vs => cases h
  | cons x xs ih =>
    intro vs h
    cases vs with
    | nil => cases h
    | cons v vs =>
      simp only [chkCells, Bool.and_eq_true] at h
      obtain ⟨h1, h2⟩ := chkV_sound (M := M) h.1
      obtain ⟨h3, h4⟩ := ih h.2
      refine ⟨?_, by simp [h2, h4]⟩
      have := RelL.append (M := M) (β := β) (cs := [v]) (xs := [x]) ⟨rfl, fun j u y hj hy => by
        cases j with
        | zero => simp at hj hy; subst hj; subst hy; exact .pure h1
        | succ j => simp at hj, by simpa using h1.one h2⟩ h3
      simpa using this
theorem chkC_sound {M : Mem} {β : Names} {x : Value} {v : V} (h : chkC x v = true) : Rel M β v x := by
  unfold chkC at h
  split at h
  · rename_i xs vs
    have := (chkCells_sound (M := M) (β := β) h).1.agg
    simpa using this
  · exact .pure (chkV_sound h).1

def EnvR (M : Mem) (β : Names) (e : Env) (a : Go.Act) : Prop := ∀ s, Rel M β (e s) (a.tmps.getD s undef)
def GOK (M : Mem) (G : Nat → Option (List V)) : Prop := ∀ g cs, G g = some cs → PRel M (.imp cs 0) (.pointer (some ⟨g, 0, none⟩))

section
variable {M : Mem} {β : Names} {G : Nat → Option (List V)} {e : Env} {a : Go.Act}
theorem evA_sound {x : Operand} {y : Arg} (h : chkA x y = true) (he : EnvR M β e a) (hg : GOK M G) : Rel M β (evA G e y) (a.eval x) := by
  unfold chkA at h
  split at h
  · simp only [beq_iff_eq] at h; subst h; exact he _
  · exact chkC_sound h
  · simp only [beq_iff_eq] at h; subst h
    simp only [evA, Go.Act.eval]
    split
    · rename_i cs hcs; exact .pure (hg _ _ hcs)
    · exact .pure (.junk _)
  · simp only [beq_iff_eq] at h; subst h
    exact .pure (.fn _ [] #[] rfl (by simp))
  · cases h
end

/-! ### What a step comes to -/

def WrOf (Lb : Nat → Prop) (w0 : World) : Nat → Prop := fun b => w0.heap.size ≤ b ∨ Lb b

structure Ok (M : Mem) (β : Names) (N : Nat) (Lb : Nat → Prop) (w0 : World) (o : Hp) (w : World) : Prop where
  sr : SR M β N (WrOf Lb w0) o w
  kp : Kp Lb w0 w

/-- The step's ends: memory that stands still, names, the heap, the value. -/
def Gd (M : Mem) (β : Names) (N : Nat) (Lb : Nat → Prop) (w0 : World) (ks : List Nat) (o' : Hp) (v' : V) (r : Result Next) : Prop :=
  ∃ x w' M' β', (r = .ok (.value x) w' ∨ (r = .ok .skip w' ∧ x = undef)) ∧ (∀ b y, M b = some y → M' b = some y) ∧ (∀ b, b < w0.heap.size → M' b = M b) ∧
    (∀ i k, β i = some k → β' i = some k) ∧ (∀ i k, β' i = some k → β i = some k ∨ i ∈ ks) ∧ Ok M' β' N Lb w0 o' w' ∧ Rel M' β' v' x

section gd
variable {P : Program} {M : Mem} {β : Names} {N : Nat} {Lb : Nat → Prop} {w0 w : World} {o : Hp} {ks : List Nat}

theorem Gd.pure {v' : V} {x : Value} {r : Result Next} (h : Ok M β N Lb w0 o w) (hr : r = .ok (.value x) w) (hv : Rel M β v' x) : Gd M β N Lb w0 ks o v' r :=
  ⟨x, w, M, β, .inl hr, fun _ _ h => h, fun _ _ => rfl, fun _ _ h => h, fun _ _ h => .inl h, h, hv⟩

theorem flat_get {e : Nat} : ∀ {xs : List (List V)} {i j : Nat} {l : List V} {v : V}, (∀ l ∈ xs, l.length = e) → xs[i]? = some l → l[j]? = some v → xs.flatten[i * e + j]? = some v := by
  intro xs
  induction xs with
  | nil => intro i j l v h hi; simp at hi
  | cons a r ih =>
    intro i j l v h hi hj
    have ha : a.length = e := h a (by simp)
    simp only [List.flatten_cons]
    cases i with
    | zero =>
      simp at hi; subst hi
      have hlt := (List.getElem?_eq_some_iff.1 hj).1
      rw [List.getElem?_append_left (by omega)]; simpa using hj
    | succ i =>
      simp at hi
      rw [List.getElem?_append_right (by rw [ha, Nat.succ_mul]; omega)]
      have := ih (fun l hl => h l (by simp [hl])) hi hj
      rw [← this]; congr 1; rw [ha, Nat.succ_mul]; omega

theorem flat_len {e : Nat} : ∀ {xs : List (List V)}, (∀ l ∈ xs, l.length = e) → xs.flatten.length = xs.length * e := by
  intro xs
  induction xs with
  | nil => intro _; simp
  | cons a r ih => intro h; simp only [List.flatten_cons, List.length_append, List.length_cons, Nat.succ_mul]; rw [ih (fun l hl => h l (by simp [hl])), h a (by simp)]; omega

theorem flat_cut {e : Nat} : ∀ {xs : List (List V)} {j : Nat} {c : List V}, (∀ l ∈ xs, l.length = e) → xs[j]? = some c → (xs.flatten.drop (j * e)).take e = c := by
  intro xs
  induction xs with
  | nil => intro j c h hj; simp at hj
  | cons a r ih =>
    intro j c h hj
    have ha : a.length = e := h a (by simp)
    cases j with
    | zero => simp at hj; subst hj; simp [ha]
    | succ j =>
      simp at hj
      have := ih (fun l hl => h l (by simp [hl])) hj
      rw [← this, List.flatten_cons]
      have h1 : (j + 1) * e = a.length + j * e := by rw [ha, Nat.succ_mul]; omega
      rw [h1, List.drop_append, List.drop_eq_nil_of_le (by omega), List.nil_append]
      congr 2; omega
end gd

/-! ### Types -/

def tsize (P : Program) (t n : Nat) : Bool := match P.info? t with | some i => i.size == n | none => false
def tbytes (P : Program) (t n : Nat) : Bool := match P.info? t with | some i => i.bytes == n | none => false
def tzero (P : Program) (t : Nat) (zero : List V) : Bool :=
  match P.info? t with
  | some i => match i.zero with
    | some z => chkCells z.cells.toList zero
    | none => false
  | none => false
def tagg (P : Program) (t : Nat) : Bool := match P.underlying t with | some (.struct _) | some (.array _ _) => true | _ => false
def tsome (P : Program) (t : Nat) : Bool := (P.underlying t).isSome

section types
variable {P : Program} {t n : Nat} {w : World}
theorem tsize_run (h : tsize P t n = true) : (sizeOf t).run P w = .ok n w := by
  unfold tsize at h
  split at h
  · rename_i i hi; simp only [beq_iff_eq] at h; subst h
    simp [sizeOf, typeInfo, hi]
  · cases h
theorem tbytes_run (h : tbytes P t n = true) : ∃ i, (typeInfo t).run P w = .ok i w ∧ i.bytes = n := by
  unfold tbytes at h
  split at h
  · rename_i i hi; simp only [beq_iff_eq] at h; subst h
    exact ⟨i, by simp [typeInfo, hi], rfl⟩
  · cases h
theorem tzero_run {M : Mem} {β : Names} {zero : List V} (h : tzero P t zero = true) : ∃ z, (zeroValue t).run P w = .ok z w ∧ RelL M β zero z.cells.toList ∧ zero.all cellV = true := by
  unfold tzero at h
  split at h
  · rename_i i hi
    split at h
    · rename_i z hz
      exact ⟨z, by simp [zeroValue, typeInfo, hi, hz], (chkCells_sound h).1, (chkCells_sound (M := M) (β := β) h).2⟩
    · cases h
  · cases h
theorem tagg_run (h : tagg P t = true) : (isAgg t).run P w = .ok true w := by
  unfold tagg at h
  split at h
  · rename_i fs hf; simp [isAgg, run_underlying hf]
  · rename_i k e hf; simp [isAgg, run_underlying hf]
  · cases h
theorem tagg_run' (h : tagg P t = false) (hs : tsome P t = true) : (isAgg t).run P w = .ok false w := by
  unfold tagg at h
  unfold tsome at hs
  cases hu : P.underlying t with
  | none => simp [hu] at hs
  | some d =>
    rw [hu] at h
    cases d <;> first | (simp at h; done) | simp [isAgg, run_underlying hu]
end types

end Go.Proofs.YtoccgkgdhobmfaaDoor.Am

/- The abstract machine, part 5: the operations that leave memory alone, or only read it. -/
set_option linter.unusedVariables false
set_option linter.unusedSimpArgs false
namespace Go.Proofs.YtoccgkgdhobmfaaDoor.Am
open Go

section
variable {P : Program} {M : Mem} {β : Names} {N : Nat} {Lb : Nat → Prop} {w0 w : World} {o : Hp} {ks : List Nat} {e : Env} {a : Go.Act} {G : Nat → Option (List V)}

def asOk (r : Option Act) (act : Act) : Prop := r = some act

theorem ok_some {v : V} {act : Act} (h : ok v = some act) : act = ⟨v, [], []⟩ := by unfold ok at h; cases h; rfl
theorem okV_some {v : Option V} {act : Act} (h : okV v = some act) : ∃ u, v = some u ∧ act = ⟨u, [], []⟩ := by
  unfold okV at h
  cases v with
  | none => cases h
  | some u => cases h; exact ⟨u, rfl, rfl⟩

/-! ### move, pick -/

def chkMov (op : Go.Op) (x : Arg) : Bool := match op with | .move y | .assign y => chkA y x | _ => false
def chkPick (op : Go.Op) (c x y : Arg) : Bool := match op with | .pick c' x' y' => chkA c' c && chkA x' x && chkA y' y | _ => false

theorem snd_mov {p : Oper} {x : Arg} (hc : chkMov p.op x = true) (hk : Ok M β N Lb w0 o w) (he : EnvR M β e a) (hg : GOK M G) :
    Gd M β N Lb w0 ks o (evA G e x) ((execOp a.eval p).run P w) := by
  unfold chkMov at hc
  split at hc
  · rename_i y hop; exact .pure hk (by simp [execOp, hop]) (evA_sound hc he hg)
  · rename_i y hop; exact .pure hk (by simp [execOp, hop]) (evA_sound hc he hg)
  · cases hc

theorem snd_pick {p : Oper} {c x y : Arg} {t : Bool} (hc : chkPick p.op c x y = true) (ht : evA G e c = .bool t) (hk : Ok M β N Lb w0 o w) (he : EnvR M β e a) (hg : GOK M G) :
    Gd M β N Lb w0 ks o (if t then evA G e x else evA G e y) ((execOp a.eval p).run P w) := by
  unfold chkPick at hc
  split at hc
  · rename_i c' x' y' hop
    simp only [Bool.and_eq_true] at hc
    have h1 := evA_sound hc.1.1 he hg
    rw [ht] at h1
    have h2 := h1.bool_inv
    refine .pure (x := if t then a.eval x' else a.eval y') hk ?_ ?_
    · simp only [execOp, hop, Sem.run_bind, h2, asBool, Sem.run_pure, Result.andThen_ok]
    · cases t
      · exact evA_sound hc.2 he hg
      · exact evA_sound hc.1.2 he hg
  · cases hc

/-! ### Numbers, strings, truth -/

def chkBin (P : Program) (op : Go.Op) (b : BinOp) (x y : Arg) : Bool := match op with | .binOp b' _ x' y' _ => b == b' && chkA x' x && chkA y' y | _ => false

theorem bytesToList (s : List UInt8) : (⟨s.toArray⟩ : ByteArray).toList = s := by rw [ByteArray.toList_eq]

/-- A scalar, as the model has it. -/
def sv : V → Value
  | .int k n => .int k n
  | .bool b => .bool b
  | .str s => .string ⟨s.toArray⟩
  | _ => undef

theorem run_binI {op : BinOp} {k k' : IntKind} {m n : Int} {v : V} (h : binI op k m k' n = some v) (t : TypeId) :
    (binOp op t (.int k m) (.int k' n)).run P w = .ok (sv v) w ∧ Rel M β v (sv v) := by
  cases op <;> simp only [binI, cmpI] at h <;> (repeat (first | split at h | (cases h; done))) <;>
    (try cases h) <;> (try subst_vars) <;>
    first
      | (refine ⟨by simp [binOp, Op.intArith, Op.intDiv, Op.intBits, Op.intCmp, Op.shift, sv, bitI, *], ?_⟩; exact .pure (.int _ _))
      | (refine ⟨by simp [binOp, Op.intArith, Op.intDiv, Op.intBits, Op.intCmp, Op.shift, sv, *], ?_⟩; exact .pure (.bool _))

theorem run_binS {op : BinOp} {x y : List UInt8} {v : V} (h : binS op x y = some v) (t : TypeId) :
    (binOp op t (.string ⟨x.toArray⟩) (.string ⟨y.toArray⟩)).run P w = .ok (sv v) w ∧ Rel M β v (sv v) := by
  have happ : (⟨x.toArray⟩ : ByteArray) ++ ⟨y.toArray⟩ = ⟨(x ++ y).toArray⟩ := by
    apply ByteArray.ext
    simp [ByteArray.data_append]
  have hsz : ∀ l : List UInt8, (⟨l.toArray⟩ : ByteArray).size = l.length := fun l => by simp [ByteArray.size]
  cases op <;> simp only [binS] at h <;> (repeat (first | split at h | (cases h; done))) <;> (try cases h)
  · rename_i hl
    refine ⟨?_, .pure (.str _)⟩
    simp only [binOp, Op.stringOp, hsz, happ, sv]
    rw [if_neg (by simp [IntKind.max, IntKind.signed, IntKind.bits]; omega)]
    simp
  all_goals (refine ⟨by simp [binOp, Op.stringOp, bytesToList, sv], .pure (.bool _)⟩)

theorem run_binV {op : BinOp} {x y : V} {v : V} (h : binV op x y = some v) (t : TypeId) {u z : Value} (hu : Rel M β x u) (hz : Rel M β y z) (X Y : Operand) :
    (do eqGuard op t X Y u z; binOp op t u z : Sem Value).run P w = .ok (sv v) w ∧ Rel M β v (sv v) := by
  unfold binV at h
  split at h
  · have h1 := hu.int_inv; have h2 := hz.int_inv; subst h1; subst h2
    obtain ⟨h3, h4⟩ := run_binI (P := P) (M := M) (β := β) (w := w) h t
    refine ⟨?_, h4⟩
    have hge : ∀ k m k' n, (eqGuard op t X Y (.int k m) (.int k' n)).run P w = .ok () w := by intro k m k' n; unfold eqGuard; cases op <;> rfl
    simp only [Sem.run_bind, hge, Result.andThen_ok, h3]
  · have h1 := hu.str_inv; have h2 := hz.str_inv; subst h1; subst h2
    obtain ⟨h3, h4⟩ := run_binS (P := P) (M := M) (β := β) (w := w) h t
    refine ⟨?_, h4⟩
    have hge : ∀ m n, (eqGuard op t X Y (.string m) (.string n)).run P w = .ok () w := by intro m n; unfold eqGuard; cases op <;> rfl
    simp only [Sem.run_bind, hge, Result.andThen_ok, h3]
  · cases h

theorem snd_bin {p : Oper} {b : BinOp} {x y : Arg} {v : V} (hc : chkBin P p.op b x y = true) (hv : binV b (evA G e x) (evA G e y) = some v) (hk : Ok M β N Lb w0 o w) (he : EnvR M β e a) (hg : GOK M G) :
    Gd M β N Lb w0 ks o v ((execOp a.eval p).run P w) := by
  unfold chkBin at hc
  split at hc
  · rename_i b' t x' y' yt hop
    simp only [Bool.and_eq_true] at hc
    have hb : b = b' := by have := hc.1.1; cases b <;> cases b' <;> first | rfl | (exact absurd this (by decide))
    subst hb
    obtain ⟨h1, h2⟩ := run_binV (P := P) (w := w) hv t (evA_sound hc.1.2 he hg) (evA_sound hc.2 he hg) x' y'
    simp only [Sem.run_bind] at h1
    refine .pure hk ?_ h2
    simp only [execOp, hop, Sem.run_bind, h1, Result.andThen_ok, Sem.run_pure]
  · cases hc

def chkUn (op : Go.Op) (u : UnOp) (x : Arg) : Bool := match op with | .unOp u' _ x' => u == u' && chkA x' x | _ => false

theorem snd_un {p : Oper} {u : UnOp} {x : Arg} {v : V} (hc : chkUn p.op u x = true) (hv : unV u (evA G e x) = some v) (hk : Ok M β N Lb w0 o w) (he : EnvR M β e a) (hg : GOK M G) :
    Gd M β N Lb w0 ks o v ((execOp a.eval p).run P w) := by
  unfold chkUn at hc
  split at hc
  · rename_i u' t x' hop
    simp only [Bool.and_eq_true] at hc
    have hb : u = u' := by have := hc.1; cases u <;> cases u' <;> first | rfl | (exact absurd this (by decide))
    subst hb
    have hx := evA_sound hc.2 he hg
    have key : ∀ z, Rel M β (evA G e x) z → (Op.unary u z).run P w = .ok (sv v) w ∧ Rel M β v (sv v) := by
      intro z hz
      unfold unV at hv
      split at hv
      · rename_i k n hxe
        rw [hxe] at hz; have := hz.int_inv; subst this
        split at hv
        · cases hv; exact ⟨by simp [Op.unary, Op.intArith, sv], .pure (.int _ _)⟩
        · cases hv; exact ⟨by simp [Op.unary, Op.intBits, sv, bitI], .pure (.int _ _)⟩
        · cases hv
      · rename_i t hxe
        rw [hxe] at hz; have := hz.bool_inv; subst this
        split at hv
        · cases hv; exact ⟨by simp [Op.unary, sv], .pure (.bool _)⟩
        · cases hv
      · cases hv
    obtain ⟨h1, h2⟩ := key _ hx
    exact .pure hk (by simp only [execOp, hop, Sem.run_bind, h1, Result.andThen_ok, Sem.run_pure]) h2
  · cases hc

def isInt (P : Program) (t : Nat) : Bool := match P.underlying t with | some (.int _) => true | _ => false
def isIntK (P : Program) (t : Nat) (k : IntKind) : Bool := match P.underlying t with | some (.int k') => k == k' | _ => false
def isStr (P : Program) (t : Nat) : Bool := match P.underlying t with | some .string => true | _ => false
def isBytes (P : Program) (t : Nat) : Bool := match P.underlying t with | some (.slice e) => isIntK P e .u8 | _ => false
theorem isIntK_of {t : Nat} {k : IntKind} (h : isIntK P t k = true) : P.underlying t = some (.int k) := by
  unfold isIntK at h
  split at h
  · simp only [beq_iff_eq] at h; subst h; assumption
  · cases h
theorem isInt_of {t : Nat} (h : isInt P t = true) : ∃ k, P.underlying t = some (.int k) := by
  unfold isInt at h
  split at h
  · exact ⟨_, by assumption⟩
  · cases h
theorem isStr_of {t : Nat} (h : isStr P t = true) : P.underlying t = some .string := by
  unfold isStr at h
  split at h
  · assumption
  · cases h
theorem isBytes_of {t : Nat} (h : isBytes P t = true) : ∃ e, P.underlying t = some (.slice e) ∧ P.underlying e = some (.int .u8) := by
  unfold isBytes at h
  split at h
  · exact ⟨_, by assumption, isIntK_of h⟩
  · cases h

def chkConvInt (P : Program) (op : Go.Op) (k : IntKind) (x : Arg) : Bool := match op with | .convert s d x' => isInt P s && isIntK P d k && chkA x' x | _ => false
theorem snd_convInt {p : Oper} {k j : IntKind} {n : Int} {x : Arg} (hc : chkConvInt P p.op k x = true) (hv : evA G e x = .int j n) (hk : Ok M β N Lb w0 o w) (he : EnvR M β e a) (hg : GOK M G) :
    Gd M β N Lb w0 ks o (.int k (k.wrap n)) ((execOp a.eval p).run P w) := by
  unfold chkConvInt at hc
  split at hc
  · rename_i s d x' hop
    simp only [Bool.and_eq_true] at hc
    have hx := evA_sound hc.2 he hg
    rw [hv] at hx
    obtain ⟨ks, hs⟩ := isInt_of hc.1.1
    have hd := isIntK_of hc.1.2
    refine .pure hk ?_ (.pure (.int _ _))
    simp [execOp, hop, convert, run_underlying hs, run_underlying hd, hx.int_inv, Conv.intToInt]
  · cases hc

/-! ### Parts of values -/

def chkExtract (op : Go.Op) (x : Arg) (i : Nat) : Bool := match op with | .extract x' j => i == j && chkA x' x | _ => false
theorem snd_extract {p : Oper} {x : Arg} {i : Nat} {vs : List V} {v : V} (hc : chkExtract p.op x i = true) (hx : evA G e x = .tup vs) (hv : vs[i]? = some v) (hk : Ok M β N Lb w0 o w) (he : EnvR M β e a) (hg : GOK M G) :
    Gd M β N Lb w0 ks o v ((execOp a.eval p).run P w) := by
  unfold chkExtract at hc
  split at hc
  · rename_i x' j hop
    simp only [Bool.and_eq_true, beq_iff_eq] at hc
    obtain ⟨rfl, hc⟩ := hc
    have h1 := evA_sound hc he hg
    rw [hx] at h1
    obtain ⟨xs, h2, h3, h4⟩ := h1.tup_inv
    have hlt : i < xs.size := by rw [h3]; exact (List.getElem?_eq_some_iff.1 hv).1
    have hxi : xs[i]? = some xs[i] := by simp [hlt]
    have := h4 i v hv
    rw [getD_of_getElem? hxi] at this
    refine .pure hk ?_ this
    simp only [execOp, hop, h2, Instr.extract, hxi, Sem.run_bind, Sem.run_pure, Result.andThen_ok]
  · cases hc

def chkIface (P : Program) (op : Go.Op) (t : Nat) (x : Arg) : Bool := match op with | .makeInterface t' x' => t == t' && chkA x' x && P.concrete t | _ => false
theorem snd_iface {p : Oper} {x : Arg} {t : Nat} (hc : chkIface P p.op t x = true) (hk : Ok M β N Lb w0 o w) (he : EnvR M β e a) (hg : GOK M G) :
    Gd M β N Lb w0 ks o (.iface t (evA G e x)) ((execOp a.eval p).run P w) := by
  unfold chkIface at hc
  split at hc
  · rename_i t' x' hop
    simp only [Bool.and_eq_true, beq_iff_eq] at hc
    obtain ⟨⟨rfl, hc⟩, hcon⟩ := hc
    refine .pure hk ?_ (.iface _ _ _ (evA_sound hc he hg))
    have := run_makeInterface (P := P) w t (a.eval x') hcon
    simp only [execOp, hop, Sem.run_bind, this, Result.andThen_ok, Sem.run_pure]
  · cases hc

def chkArgs : List Operand → List Arg → Bool
  | [], [] => true
  | x :: xs, y :: ys => chkA x y && chkArgs xs ys
  | _, _ => false
theorem chkArgs_sound : ∀ {xs : List Operand} {ys : List Arg}, chkArgs xs ys = true → EnvR M β e a → GOK M G →
    xs.length = ys.length ∧ ∀ (j : Nat) v x, (ys.map (evA G e))[j]? = some v → (xs.map a.eval)[j]? = some x → Rel M β v x := by
  intro xs
  induction xs with
  | nil => intro ys h he hg; cases ys with | nil => exact ⟨rfl, by simp⟩ | cons y ys => cases h
  | cons x xs ih =>
    intro ys h he hg
    cases ys with
    | nil => cases h
    | cons y ys =>
      simp only [chkArgs, Bool.and_eq_true] at h
      obtain ⟨h1, h2⟩ := ih h.2 he hg
      refine ⟨by simp [h1], ?_⟩
      intro j v u hv hu
      cases j with
      | zero => simp at hv hu; subst hv; subst hu; exact evA_sound h.1 he hg
      | succ j => simp only [List.map_cons, List.getElem?_cons_succ] at hv hu; exact h2 j v u hv hu

theorem args_rel {xs : Array Operand} {ys : List Arg} (h : chkArgs xs.toList ys = true) (he : EnvR M β e a) (hg : GOK M G) :
    (xs.map a.eval).size = (ys.map (evA G e)).length ∧ ∀ (j : Nat) v, (ys.map (evA G e))[j]? = some v → Rel M β v ((xs.map a.eval).getD j undef) := by
  obtain ⟨h1, h2⟩ := chkArgs_sound h he hg
  refine ⟨by simpa using h1, ?_⟩
  intro j v hv
  have hlt : j < xs.size := by
    have := (List.getElem?_eq_some_iff.1 hv).1
    simp at this h1; omega
  have hx : (xs.map a.eval)[j]? = some (a.eval xs[j]) := by simp [hlt]
  rw [getD_of_getElem? hx]
  exact h2 j v _ hv (by simp [hlt])

def chkFn (op : Go.Op) (f : Nat) (caps : List Arg) : Bool := match op with
  | .makeFunc (.func g) first captured => f == g && first.isEmpty && chkArgs captured.toList caps
  | _ => false
theorem snd_fn {p : Oper} {f : Nat} {caps : List Arg} (hc : chkFn p.op f caps = true) (hk : Ok M β N Lb w0 o w) (he : EnvR M β e a) (hg : GOK M G) :
    Gd M β N Lb w0 ks o (.fn f (caps.map (evA G e))) ((execOp a.eval p).run P w) := by
  unfold chkFn at hc
  split at hc
  · rename_i g first captured hop
    simp only [Bool.and_eq_true, beq_iff_eq] at hc
    obtain ⟨⟨rfl, hf⟩, hc⟩ := hc
    have hf' : first = #[] := by simpa using hf
    subst hf'
    obtain ⟨h1, h2⟩ := args_rel hc he hg
    refine .pure (x := .func (.func f) #[] (captured.map a.eval)) hk ?_ (.fn f _ _ h1 h2)
    simp [execOp, hop, Instr.makeFunc]
  · cases hc

def chkNil (op : Go.Op) (x : Arg) : Bool := match op with | .nilCheck y => chkA y x | _ => false
theorem snd_nil {p : Oper} {x : Arg} {v : V} (hc : chkNil p.op x = true) (hv : evA G e x = v) (hw : match v with | .ptr _ _ | .ept _ _ _ | .imp _ _ | .fn _ _ => True | _ => False)
    (hk : Ok M β N Lb w0 o w) (he : EnvR M β e a) (hg : GOK M G) : Gd M β N Lb w0 ks o v ((execOp a.eval p).run P w) := by
  unfold chkNil at hc
  split at hc
  · rename_i y hop
    have h1 := evA_sound hc he hg
    rw [hv] at h1
    refine .pure hk ?_ h1
    cases v with
    | ptr i off => obtain ⟨k, _, h2⟩ := h1.ptr_inv; simp [execOp, hop, h2]
    | ept i j off => obtain ⟨k, _, h2⟩ := h1.ept_inv; simp [execOp, hop, h2]
    | imp c off => have h2 := h1.imp_inv; generalize hz : a.eval y = z at *; cases h2; simp [execOp, hop, hz]
    | fn f c => obtain ⟨xs, h2, _⟩ := h1.fn_inv; simp [execOp, hop, h2]
    | _ => exact hw.elim
  · cases hc

def chkLenA (P : Program) (op : Go.Op) (n : Nat) : Bool := match op with
  | .call { callee := .builtin .len, args, argTypes } => args.size == 1 && (match argTypes[0]? with
    | some t => (match P.underlying t with
      | some (.array m _) => n == m
      | some (.pointer t') => (match P.underlying t' with | some (.array m _) => n == m | _ => false)
      | _ => false)
    | none => false)
  | _ => false
def chkLen (P : Program) (op : Go.Op) (x : Arg) : Bool := match op with
  | .call { callee := .builtin .len, args, argTypes } => chkArgs args.toList [x] && (match argTypes[0]? with
    | some t => (match P.underlying t with | some (.slice _) => true | _ => false)
    | none => false)
  | _ => false
def chkLenS (P : Program) (op : Go.Op) (x : Arg) : Bool := match op with
  | .call { callee := .builtin .len, args, argTypes } => chkArgs args.toList [x] && (match argTypes[0]? with
    | some t => isStr P t
    | none => false)
  | _ => false

theorem chkArgs_one {xs : List Operand} {y : Arg} (h : chkArgs xs [y] = true) : ∃ x, xs = [x] ∧ chkA x y = true := by
  cases xs with
  | nil => cases h
  | cons x r =>
    cases r with
    | nil => simp only [chkArgs, Bool.and_eq_true] at h; exact ⟨x, rfl, h.1⟩
    | cons z r => simp [chkArgs] at h
theorem chkArgs_two {xs : List Operand} {y z : Arg} (h : chkArgs xs [y, z] = true) : ∃ x u, xs = [x, u] ∧ chkA x y = true ∧ chkA u z = true := by
  cases xs with
  | nil => cases h
  | cons x r =>
    simp only [chkArgs, Bool.and_eq_true] at h
    obtain ⟨u, rfl, hu⟩ := chkArgs_one h.2
    exact ⟨x, u, rfl, h.1, hu⟩
theorem arr_one {α} {xs : Array α} {x : α} (h : xs.toList = [x]) : xs = #[x] := by cases xs; simp at h; subst h; rfl
theorem arr_two {α} {xs : Array α} {x y : α} (h : xs.toList = [x, y]) : xs = #[x, y] := by cases xs; simp at h; subst h; rfl

/-- A slice: its length. -/
theorem lenOf_sound {v : V} {x : Value} {n : Nat} (h : lenOf v = some n) (hr : Rel M β v x) : ∃ a c, x = .slice a n c ∧ n ≤ c := by
  cases v <;> simp only [lenOf] at h <;> (try cases h)
  · exact ⟨none, 0, hr.nils_inv, by omega⟩
  · have := hr.sl_inv; cases this; exact ⟨_, _, rfl, by assumption⟩
  · cases hr with
    | pure h => cases h
    | vsl _ _ _ cap k _ hl _ => exact ⟨_, _, rfl, hl⟩
    | vslE _ _ cap a _ => exact ⟨_, _, rfl, by omega⟩
  · cases hr with
    | pure h => cases h
    | bsl _ _ _ _ cap k _ hl => exact ⟨_, _, rfl, hl⟩
    | bslE _ _ _ cap a => exact ⟨_, _, rfl, by omega⟩

theorem snd_len {p : Oper} {x : Arg} {n : Nat} (hc : chkLen P p.op x = true) (hv : lenOf (evA G e x) = some n) (hk : Ok M β N Lb w0 o w) (he : EnvR M β e a) (hg : GOK M G) :
    Gd M β N Lb w0 ks o (lenB n) ((execOp a.eval p).run P w) := by
  unfold chkLen at hc
  split at hc
  · rename_i args argTypes hop
    simp only [Bool.and_eq_true] at hc
    obtain ⟨y, hy, hxy⟩ := chkArgs_one hc.1
    have hy' := arr_one hy
    subst hy'
    obtain ⟨ad, c, hx, _⟩ := lenOf_sound hv (evA_sound hxy he hg)
    have hc2 := hc.2
    split at hc2
    · rename_i t ht
      split at hc2
      · rename_i el hu
        refine .pure hk ?_ (.pure (.int _ _))
        simp [execOp, hop, resolve, invoke, builtin, hx, Builtin.len_, ht, run_underlying hu, goInt]
      · cases hc2
    · cases hc2
  · cases hc

theorem size_str (l : List UInt8) : (⟨l.toArray⟩ : ByteArray).size = l.length := by simp [ByteArray.size]

theorem snd_lenS {p : Oper} {x : Arg} {s : List UInt8} (hc : chkLenS P p.op x = true) (hv : evA G e x = .str s) (hk : Ok M β N Lb w0 o w) (he : EnvR M β e a) (hg : GOK M G) :
    Gd M β N Lb w0 ks o (lenB s.length) ((execOp a.eval p).run P w) := by
  unfold chkLenS at hc
  split at hc
  · rename_i args argTypes hop
    simp only [Bool.and_eq_true] at hc
    obtain ⟨y, hy, hxy⟩ := chkArgs_one hc.1
    have hy' := arr_one hy
    subst hy'
    have h1 := evA_sound hxy he hg
    rw [hv] at h1
    have hx := h1.str_inv
    have hc2 := hc.2
    split at hc2
    · rename_i t ht
      have hu := isStr_of hc2
      refine .pure hk ?_ (.pure (.int _ _))
      simp [execOp, hop, resolve, invoke, builtin, hx, Builtin.len_, ht, run_underlying hu, goInt, size_str]
    · cases hc2
  · cases hc

theorem snd_lenA {p : Oper} {n : Nat} (hc : chkLenA P p.op n = true) (hk : Ok M β N Lb w0 o w) :
    Gd M β N Lb w0 ks o (lenB n) ((execOp a.eval p).run P w) := by
  unfold chkLenA at hc
  split at hc
  · rename_i args argTypes hop
    simp only [Bool.and_eq_true, beq_iff_eq] at hc
    have hx : ∃ y, args = #[y] := by
      obtain ⟨l⟩ := args
      cases l with
      | nil => simp at hc
      | cons y r => cases r with
        | nil => exact ⟨y, rfl⟩
        | cons z r => simp at hc
    obtain ⟨y, rfl⟩ := hx
    have hc2 := hc.2
    split at hc2
    · rename_i t ht
      split at hc2
      · rename_i m el hu
        simp only [beq_iff_eq] at hc2; subst hc2
        refine .pure hk ?_ (.pure (.int _ _))
        simp [execOp, hop, resolve, invoke, builtin, Builtin.len_, ht, run_underlying hu, goInt]
      · rename_i t' hu
        split at hc2
        · rename_i m el hu'
          simp only [beq_iff_eq] at hc2; subst hc2
          refine .pure hk ?_ (.pure (.int _ _))
          simp [execOp, hop, resolve, invoke, builtin, Builtin.len_, ht, run_underlying hu, run_underlying hu', goInt]
        · cases hc2
      · cases hc2
    · cases hc2
  · cases hc

def chkCap (P : Program) (op : Go.Op) (x : Arg) : Bool := match op with
  | .call { callee := .builtin .cap, args, argTypes } => chkArgs args.toList [x] && (match argTypes[0]? with
    | some t => (match P.underlying t with | some (.slice _) => true | _ => false)
    | none => false)
  | _ => false
theorem snd_cap {p : Oper} {x : Arg} {s : Nat} (hc : chkCap P p.op x = true) (hv : evA G e x = .nils s) (hk : Ok M β N Lb w0 o w) (he : EnvR M β e a) (hg : GOK M G) :
    Gd M β N Lb w0 ks o (lenB 0) ((execOp a.eval p).run P w) := by
  unfold chkCap at hc
  split at hc
  · rename_i args argTypes hop
    simp only [Bool.and_eq_true] at hc
    obtain ⟨y, hy, hxy⟩ := chkArgs_one hc.1
    have hy' := arr_one hy
    subst hy'
    have h1 := evA_sound hxy he hg
    rw [hv] at h1
    have hx := h1.nils_inv
    have hc2 := hc.2
    split at hc2
    · rename_i t ht
      split at hc2
      · rename_i el hu
        refine .pure hk ?_ (.pure (.int _ _))
        simp [execOp, hop, resolve, invoke, builtin, hx, Builtin.cap_, ht, run_underlying hu, goInt]
      · cases hc2
    · cases hc2
  · cases hc

/-! ### min, max -/

inductive Fa (R : V → Value → Prop) : List V → List Value → Prop
  | nil : Fa R [] []
  | cons {v : V} {x : Value} {vs : List V} {xs : List Value} (h : R v x) (t : Fa R vs xs) : Fa R (v :: vs) (x :: xs)

theorem chkArgs_map {xs : List Operand} {ys : List Arg} (h : chkArgs xs ys = true) (he : EnvR M β e a) (hg : GOK M G) :
    Fa (Rel M β) (ys.map (evA G e)) (xs.map a.eval) := by
  induction xs generalizing ys with
  | nil => cases ys with | nil => exact .nil | cons y ys => cases h
  | cons x xs ih =>
    cases ys with
    | nil => cases h
    | cons y ys =>
      simp only [chkArgs, Bool.and_eq_true] at h
      exact .cons (evA_sound h.1 he hg) (ih h.2)

theorem fold_sound {f : V → V → Option V} {F : Value → Value → Sem Value} (hf : ∀ a b c x y, f a b = some c → Rel M β a x → Rel M β b y → (F x y).run P w = .ok (sv c) w ∧ Rel M β c (sv c)) :
    ∀ {vs : List V} {xs : List Value}, Fa (Rel M β) vs xs → ∀ {a c : V} {x : Value}, foldV f a vs = some c → Rel M β a x → ∃ z, (xs.foldlM F x).run P w = .ok z w ∧ Rel M β c z := by
  intro vs xs h
  induction h with
  | nil => intro a c x hc hx; cases hc; exact ⟨x, rfl, hx⟩
  | cons h1 h2 ih =>
    intro a c x hc hx
    simp only [foldV] at hc
    cases hb : f a _ with
    | none => rw [hb] at hc; cases hc
    | some b =>
      rw [hb] at hc
      obtain ⟨h3, h4⟩ := hf _ _ _ _ _ hb hx h1
      obtain ⟨z, h5, h6⟩ := ih hc h4
      exact ⟨z, by simp only [List.foldlM_cons, Sem.run_bind, h3, Result.andThen_ok, h5], h6⟩

def chkMax (op : Go.Op) (xs : List Arg) : Bool := match op with | .call { callee := .builtin .max, args, argTypes } => chkArgs args.toList xs | _ => false
def chkMin (op : Go.Op) (xs : List Arg) : Bool := match op with | .call { callee := .builtin .min, args, argTypes } => chkArgs args.toList xs | _ => false

theorem snd_max {p : Oper} {y : Arg} {ys : List Arg} {v : V} (hc : chkMax p.op (y :: ys) = true) (hv : foldV maxI (evA G e y) (ys.map (evA G e)) = some v) (hk : Ok M β N Lb w0 o w) (he : EnvR M β e a) (hg : GOK M G) :
    Gd M β N Lb w0 ks o v ((execOp a.eval p).run P w) := by
  unfold chkMax at hc
  split at hc
  · rename_i args argTypes hop
    obtain ⟨l⟩ := args
    cases l with
    | nil => cases hc
    | cons x xs =>
      simp only [chkArgs, Bool.and_eq_true] at hc
      obtain ⟨z, h1, h2⟩ := fold_sound (P := P) (w := w) (F := Builtin.max2) (f := maxI) (by
        intro a b c x y h hx hy
        unfold maxI at h
        split at h
        · cases h
          rw [hx.int_inv, hy.int_inv]
          exact ⟨rfl, .pure (.int _ _)⟩
        · cases h) (chkArgs_map hc.2 he hg) hv (evA_sound hc.1 he hg)
      refine .pure hk ?_ h2
      simp [execOp, hop, resolve, invoke, builtin, Builtin.max_, h1]
  · cases hc
theorem snd_min {p : Oper} {y : Arg} {ys : List Arg} {v : V} (hc : chkMin p.op (y :: ys) = true) (hv : foldV minI (evA G e y) (ys.map (evA G e)) = some v) (hk : Ok M β N Lb w0 o w) (he : EnvR M β e a) (hg : GOK M G) :
    Gd M β N Lb w0 ks o v ((execOp a.eval p).run P w) := by
  unfold chkMin at hc
  split at hc
  · rename_i args argTypes hop
    obtain ⟨l⟩ := args
    cases l with
    | nil => cases hc
    | cons x xs =>
      simp only [chkArgs, Bool.and_eq_true] at hc
      obtain ⟨z, h1, h2⟩ := fold_sound (P := P) (w := w) (F := Builtin.min2) (f := minI) (by
        intro a b c x y h hx hy
        unfold minI at h
        split at h
        · cases h
          rw [hx.int_inv, hy.int_inv]
          exact ⟨rfl, .pure (.int _ _)⟩
        · cases h) (chkArgs_map hc.2 he hg) hv (evA_sound hc.1 he hg)
      refine .pure hk ?_ h2
      simp [execOp, hop, resolve, invoke, builtin, Builtin.min_, h1]
  · cases hc
end
end Go.Proofs.YtoccgkgdhobmfaaDoor.Am

/- The abstract machine, part 6: addresses, loads, parts of structs, slices. -/
set_option linter.unusedVariables false
set_option linter.unusedSimpArgs false
namespace Go.Proofs.YtoccgkgdhobmfaaDoor.Am
open Go

section
variable {P : Program} {M : Mem} {β : Names} {N : Nat} {Lb : Nat → Prop} {w0 w : World} {o : Hp} {ks : List Nat} {e : Env} {a : Go.Act} {G : Nat → Option (List V)}

theorem RelL.of_get {cs : List V} {xs : List Value} (hl : cs.length = xs.length) (h : ∀ (j : Nat) (v : V), cs[j]? = some v → ∃ x, xs[j]? = some x ∧ x.oneCell' = true ∧ Rel M β v x) : RelL M β cs xs := by
  refine ⟨hl, ?_, ?_⟩
  · intro j v x hj hx
    obtain ⟨y, hy, _, hr⟩ := h j v hj
    rw [hx] at hy; cases hy; exact hr
  · intro x hx
    obtain ⟨j, hj⟩ := List.getElem?_of_mem hx
    have hlt := (List.getElem?_eq_some_iff.1 hj).1
    obtain ⟨y, hy, ho, _⟩ := h j (cs[j]'(by omega)) (List.getElem?_eq_getElem (by omega))
    rw [hj] at hy; cases hy; exact ho

theorem BoxAt.relL {ob : Option Obj} {size : Nat} {cs : List V} (h : BoxAt ob size (Rel M β) cs) :
    ∃ c ty fr, ob = some (.cells c ty fr) ∧ Clear c fr ∧ c.size = size ∧ cs.length ≤ c.size ∧ RelL M β cs (c.toList.take cs.length) := by
  obtain ⟨c, ty, fr, hb, hc, hs, hl, hr⟩ := h
  refine ⟨c, ty, fr, hb, hc, hs, hl, RelL.of_get (by simp; omega) ?_⟩
  intro j v hj
  obtain ⟨x, hx, ho, hr'⟩ := hr j v hj
  have hlt := (List.getElem?_eq_some_iff.1 hj).1
  exact ⟨x, by rw [List.getElem?_take, if_pos hlt, Array.getElem?_toList]; exact hx, ho, hr'⟩

theorem cut_some {off n : Nat} {cs l : List V} (h : cut off n cs = some l) : off + n ≤ cs.length ∧ l = (cs.drop off).take n := by
  unfold cut at h
  split at h
  · cases h; exact ⟨by assumption, rfl⟩
  · cases h

theorem relL_cut {cs : List V} {c : Array Value} {off n : Nat} (h : RelL M β cs (c.toList.take cs.length)) (hn : off + n ≤ cs.length) :
    RelL M β ((cs.drop off).take n) ((c.toList.drop off).take n) := by
  have h1 := (h.drop off).take n
  have h2 : ((c.toList.take cs.length).drop off).take n = (c.toList.drop off).take n := by
    rw [List.drop_take, List.take_take]; congr 1; omega
  rwa [h2] at h1

/-- An object that can be read: its block and its cells, flat. -/
theorem read_box (hk : Ok M β N Lb w0 o w) {i : Nat} {cs : List V} (h : rdBox o i = some cs) :
    ∃ k, β i = some k ∧ ∃ c ty fr, w.heap[k.b]? = some (.cells c ty fr) ∧ Clear c fr ∧ c.size = k.size ∧ cs.length ≤ c.size ∧ RelL M β cs (c.toList.take cs.length) := by
  unfold rdBox at h
  split at h
  · rename_i cs' ho
    cases h
    obtain ⟨k, hk1, hk2⟩ := hk.sr.live i (by rw [ho]; simp)
    rw [ho] at hk2
    exact ⟨k, hk1, hk2.2.2.relL⟩
  · rename_i cs' ho
    cases h
    obtain ⟨k, hk1, hk2⟩ := hk.sr.live i (by rw [ho]; simp)
    rw [ho] at hk2
    exact ⟨k, hk1, (hk2.mono (fun x hx => hk.sr.sub _ x hx) (fun v x hx => .pure hx) : BoxAt w.heap[k.b]? k.size (Rel M β) cs).relL⟩
  · cases h

theorem read_vec (hk : Ok M β N Lb w0 o w) {i : Nat} {r : Nat × List (List V)} (h : rdVec o i = some r) :
    ∃ k, β i = some k ∧ k.esz = r.1 ∧ (∀ l ∈ r.2, l.length = r.1) ∧ ∃ c ty fr, w.heap[k.b]? = some (.cells c ty fr) ∧ Clear c fr ∧ c.size = k.size ∧ r.2.flatten.length ≤ c.size ∧ RelL M β r.2.flatten (c.toList.take r.2.flatten.length) := by
  unfold rdVec at h
  split at h
  · rename_i e' xs ho
    cases h
    obtain ⟨k, hk1, hk2⟩ := hk.sr.live i (by rw [ho]; simp)
    rw [ho] at hk2
    exact ⟨k, hk1, hk2.2.2.1, hk2.2.2.2.1, hk2.2.2.2.2.relL⟩
  · rename_i e' xs ho
    cases h
    obtain ⟨k, hk1, hk2⟩ := hk.sr.live i (by rw [ho]; simp)
    rw [ho] at hk2
    exact ⟨k, hk1, hk2.1, hk2.2.1, (hk2.2.2.mono (fun x hx => hk.sr.sub _ x hx) (fun v x hx => .pure hx) : BoxAt w.heap[k.b]? k.size (Rel M β) xs.flatten).relL⟩
  · cases h

theorem peek_sound (hk : Ok M β N Lb w0 o w) {n : Nat} (hn : 0 < n) {v : V} {x : Value} {r : List V × List Nat} (h : peek o n v = some r) (hr : Rel M β v x) :
    ∃ b off c ty fr, x = .pointer (some ⟨b, off, none⟩) ∧ w.heap[b]? = some (.cells c ty fr) ∧ off + n ≤ c.size ∧ RelL M β r.1 ((c.toList.drop off).take n) := by
  cases v <;> simp only [peek] at h <;> (try cases h)
  · rename_i i off
    cases hb : rdBox o i with
    | none => rw [hb] at h; cases h
    | some cs =>
      rw [hb] at h
      simp only [Option.bind_some] at h
      cases hc : cut off n cs with
      | none => rw [hc] at h; cases h
      | some l =>
        rw [hc] at h; cases h
        obtain ⟨h1, rfl⟩ := cut_some hc
        obtain ⟨k, hβ, c, ty, fr, h2, h3, h4, h5, h6⟩ := read_box hk hb
        obtain ⟨k', hβ', rfl⟩ := hr.ptr_inv
        rw [hβ] at hβ'; cases hβ'
        exact ⟨_, _, c, ty, fr, rfl, h2, by omega, relL_cut h6 h1⟩
  · rename_i i j off
    cases hb : rdVec o i with
    | none => rw [hb] at h; cases h
    | some ex =>
      rw [hb] at h
      simp only [Option.bind_some] at h
      cases hj : ex.2[j]? with
      | none => rw [hj] at h; cases h
      | some cc =>
        rw [hj] at h
        simp only [Option.bind_some] at h
        cases hc : cut off n cc with
        | none => rw [hc] at h; cases h
        | some l =>
          rw [hc] at h; cases h
          obtain ⟨h1, rfl⟩ := cut_some hc
          obtain ⟨k, hβ, he, hlen, c, ty, fr, h2, h3, h4, h5, h6⟩ := read_vec hk hb
          obtain ⟨k', hβ', rfl⟩ := hr.ept_inv
          rw [hβ] at hβ'; cases hβ'
          have hcl : cc.length = ex.1 := hlen _ (List.mem_of_getElem? hj)
          have hfl := flat_cut hlen hj
          have hflen := flat_len hlen
          have hjlt := (List.getElem?_eq_some_iff.1 hj).1
          have hmul : j * ex.1 + ex.1 ≤ ex.2.length * ex.1 := by
            have := Nat.mul_le_mul_right ex.1 (Nat.succ_le_of_lt hjlt)
            rw [Nat.succ_mul] at this; exact this
          refine ⟨_, _, c, ty, fr, rfl, h2, by rw [he]; omega, ?_⟩
          have hcut : (cc.drop off).take n = (ex.2.flatten.drop (j * ex.1 + off)).take n := by
            rw [← hfl, List.drop_take, List.take_take, List.drop_drop]
            congr 1; omega
          rw [hcut, he]
          exact relL_cut h6 (by omega)
  · rename_i cells off
    cases hc : cut off n cells with
    | none => rw [hc] at h; cases h
    | some l =>
      rw [hc] at h; cases h
      obtain ⟨h1, rfl⟩ := cut_some hc
      have hp := hr.imp_inv
      cases hp with
      | imp _ _ b base x hcc ho hrr =>
        have h0 := hcc off (cells[off]'(by omega)) (List.getElem?_eq_getElem (by omega))
        unfold cellAt at h0
        cases hm : M b with
        | none => simp [hm] at h0
        | some ob =>
          cases ob with
          | cells c ty fr =>
            have hw := hk.sr.sub b _ hm
            have hget : ∀ j, off + j < cells.length → c[base + (off + j)]? = some (x (off + j)) := by
              intro j hj
              have := hcc (off + j) (cells[off + j]'hj) (List.getElem?_eq_getElem hj)
              simpa [cellAt, hm] using this
            have hlast := (Array.getElem?_eq_some_iff.1 (hget (n - 1) (by omega))).1
            refine ⟨b, base + off, c, ty, fr, rfl, hw, by omega, RelL.of_get (by simp; omega) ?_⟩
            intro j v hj
            rw [List.getElem?_take] at hj
            split at hj
            · rename_i hjn
              rw [List.getElem?_drop] at hj
              have hjl := (List.getElem?_eq_some_iff.1 hj).1
              refine ⟨x (off + j), ?_, ho _ v hj, .pure (hrr _ v hj)⟩
              rw [List.getElem?_take, if_pos hjn, List.getElem?_drop, Array.getElem?_toList, Nat.add_assoc]
              exact hget j hjl
            · cases hj
          | _ => simp [hm] at h0

def chkLoad (P : Program) (op : Go.Op) (agg : Option Nat) (x : Arg) : Bool := match op with
  | .load t y => chkA y x && (match agg with | some n => tagg P t && tsize P t n && decide (0 < n) | none => !tagg P t && tsome P t)
  | _ => false

theorem aggOf_some {agg : Option Nat} {cs : List V} {v : V} (h : aggOf agg cs = some v) : (agg.isSome = true ∧ v = .agg cs) ∨ (agg = none ∧ cs.head? = some v) := by
  cases agg with
  | some n => cases h; exact .inl ⟨rfl, rfl⟩
  | none => exact .inr ⟨rfl, h⟩

theorem run_loadVar {t : TypeId} {agg : Option Nat} {b off : Nat} {c : Array Value} {ty : TypeId} {fr : Nat × Nat} {cs : List V} {v : V}
    (hc : (match agg with | some n => tagg P t && tsize P t n && decide (0 < n) | none => !tagg P t && tsome P t) = true)
    (hw : w.heap[b]? = some (.cells c ty fr)) (hn : off + agg.getD 1 ≤ c.size) (hr : RelL M β cs ((c.toList.drop off).take (agg.getD 1))) (hv : aggOf agg cs = some v) :
    ∃ x, (loadVar t ⟨b, off, none⟩).run P w = .ok x w ∧ Rel M β v x ∧ ((agg = none → x.oneCell' = true)) := by
  cases agg with
  | some n =>
    simp only [Bool.and_eq_true, decide_eq_true_eq] at hc
    rcases aggOf_some hv with ⟨_, rfl⟩ | ⟨h, _⟩
    · refine ⟨.agg ((c.toList.drop off).take n).toArray, ?_, hr.agg, by simp⟩
      have hn' : off + n ≤ c.size := hn
      simp only [loadVar, Sem.run_bind, tagg_run hc.1.1, Result.andThen_ok, if_true, tsize_run hc.1.2, run_loadCells_at hw hn', Sem.run_pure]
    · cases h
  | none =>
    simp only [Bool.and_eq_true, Bool.not_eq_true'] at hc
    rcases aggOf_some hv with ⟨h, _⟩ | ⟨_, hh⟩
    · cases h
    · simp only [Option.getD_none] at hn hr
      have hlt : off < c.size := by omega
      have h1 : (c.toList.drop off).take 1 = [c[off]] := by
        rw [List.drop_eq_getElem_cons (by simpa using hlt)]; simp
      rw [h1] at hr
      cases cs with
      | nil => cases hh
      | cons u r =>
        simp at hh; subst hh
        refine ⟨c[off], ?_, hr.2.1 0 u _ (by simp) (by simp), fun _ => hr.2.2 _ (by simp)⟩
        simp only [loadVar, Sem.run_bind, tagg_run' hc.1 hc.2, Result.andThen_ok, Bool.false_eq_true, if_false]
        rw [run_load]
        simp [cell_at hw, hlt]

theorem snd_load {p : Oper} {agg : Option Nat} {x : Arg} {r : List V × List Nat} {v : V} (hc : chkLoad P p.op agg x = true) (hp : peek o (agg.getD 1) (evA G e x) = some r) (hv : aggOf agg r.1 = some v)
    (hk : Ok M β N Lb w0 o w) (he : EnvR M β e a) (hg : GOK M G) : Gd M β N Lb w0 ks o v ((execOp a.eval p).run P w) := by
  unfold chkLoad at hc
  split at hc
  · rename_i t y hop
    simp only [Bool.and_eq_true] at hc
    have hn : 0 < agg.getD 1 := by
      cases agg with
      | some n => simp only [Bool.and_eq_true, decide_eq_true_eq] at hc; exact hc.2.2
      | none => simp
    obtain ⟨b, off, c, ty, fr, h1, h2, h3, h4⟩ := peek_sound hk hn hp (evA_sound hc.1 he hg)
    obtain ⟨z, h5, h6, _⟩ := run_loadVar hc.2 h2 h3 h4 hv
    refine .pure hk ?_ h6
    simp only [execOp, hop, Sem.run_bind, Instr.loadAt, h1, Instr.sureAddr, Sem.run_pure, Result.andThen_ok, h5]
  · cases hc

/-! ### Field and element addresses -/

def fieldIs (P : Program) (s f off : Nat) : Bool := match P.underlying s with
  | some (.struct fs) => (match fs[f]? with
    | some fl => fl.offset == off && (match P.info? fl.type with | some i => decide (i.size ≠ 0) | none => false)
    | none => false)
  | _ => false
def chkFieldAddr (P : Program) (op : Go.Op) (off : Nat) (x : Arg) : Bool := match op with
  | .fieldAddr s y f => chkA y x && fieldIs P s f off
  | _ => false

theorem run_fieldAt {s f off : Nat} {b p : Nat} (h : fieldIs P s f off = true) : (Instr.fieldAt s (.pointer (some ⟨b, p, none⟩)) f).run P w = .ok (.pointer (some ⟨b, p + off, none⟩)) w := by
  unfold fieldIs at h
  split at h
  · rename_i fs hu
    split at h
    · rename_i fl hf
      simp only [Bool.and_eq_true, beq_iff_eq] at h
      obtain ⟨rfl, h2⟩ := h
      split at h2
      · rename_i i hi
        have hs : i.size ≠ 0 := of_decide_eq_true h2
        simp [Instr.fieldAt, run_underlying hu, hf, Instr.sureAddr, fieldPlace, sizeOf, typeInfo, hi, hs, addr_add]
      · cases h2
    · cases h
  · cases h

theorem snd_fieldAddr {p : Oper} {off : Nat} {x : Arg} {v : V} (hc : chkFieldAddr P p.op off x = true)
    (hv : (match evA G e x with | .ptr i a => some (V.ptr i (a + off)) | .ept i j a => some (.ept i j (a + off)) | .imp c a => some (.imp c (a + off)) | _ => none) = some v)
    (hk : Ok M β N Lb w0 o w) (he : EnvR M β e a) (hg : GOK M G) : Gd M β N Lb w0 ks o v ((execOp a.eval p).run P w) := by
  unfold chkFieldAddr at hc
  split at hc
  · rename_i s y f hop
    simp only [Bool.and_eq_true] at hc
    have h1 := evA_sound hc.1 he hg
    split at hv
    · rename_i i q hx
      cases hv
      rw [hx] at h1
      obtain ⟨k, h2, h3⟩ := h1.ptr_inv
      refine .pure hk ?_ (.ptr _ _ k h2)
      simp only [execOp, hop, h3, Sem.run_bind, run_fieldAt hc.2, Result.andThen_ok, Sem.run_pure]
    · rename_i i j q hx
      cases hv
      rw [hx] at h1
      obtain ⟨k, h2, h3⟩ := h1.ept_inv
      refine .pure (x := .pointer (some ⟨k.b, j * k.esz + (q + off), none⟩)) hk ?_ (.ept _ _ _ k h2)
      simp only [execOp, hop, h3, Sem.run_bind, run_fieldAt hc.2, Result.andThen_ok, Sem.run_pure, Nat.add_assoc]
    · rename_i c q hx
      cases hv
      rw [hx] at h1
      have h2 := h1.imp_inv
      generalize hz : a.eval y = z at *
      cases h2 with
      | imp _ _ b base xx hcc ho hr =>
        refine .pure (x := .pointer (some ⟨b, base + (q + off), none⟩)) hk ?_ (.pure (.imp _ _ _ _ xx hcc ho hr))
        simp only [execOp, hop, hz, Sem.run_bind, run_fieldAt hc.2, Result.andThen_ok, Sem.run_pure, Nat.add_assoc]
    · cases hv
  · cases hc

theorem asN_some {v : V} {n : Nat} (h : asN v = some n) : ∃ k m, v = .int k m ∧ 0 ≤ m ∧ m = n := by
  cases v <;> simp only [asN] at h <;> (try cases h)
  split at h
  · rename_i hm; cases h; exact ⟨_, _, rfl, hm, by omega⟩
  · cases h

def chkIndexA (P : Program) (op : Go.Op) (n esz : Nat) (x i : Arg) : Bool := match op with
  | .indexAddr t y j => chkA y x && chkA j i && (match P.underlying t with | some (.array m el) => m == n && tsize P el esz | _ => false)
  | _ => false

theorem run_indexAt {t el n esz b q : Nat} {k : IntKind} {m : Nat} (hu : P.underlying t = some (.array n el)) (hs : tsize P el esz = true) (hm : m < n) :
    (Instr.indexAt t (.pointer (some ⟨b, q, none⟩)) (.int k m)).run P w = .ok (.pointer (some ⟨b, q + m * esz, none⟩)) w := by
  have h2 : (m : Int) < n := by omega
  have h1 : (0 : Int) ≤ m := by omega
  have h3 : (0 : Int) ≤ m ∧ (m : Int) < n := ⟨h1, h2⟩
  simp only [Instr.indexAt, asIntOf, run_underlying hu, Instr.sureAddr, Sem.run_bind, Sem.run_pure, Result.andThen_ok]
  rw [if_pos h3]
  simp [tsize_run hs, addr_add]

theorem snd_indexAddrA {p : Oper} {n esz : Nat} {x i : Arg} {j : Nat} {v : V} (hc : chkIndexA P p.op n esz x i = true) (hj : asN (evA G e i) = some j) (hlt : j < n)
    (hv : (match evA G e x with | .ptr i a => some (V.ptr i (a + j * esz)) | .ept i k a => some (.ept i k (a + j * esz)) | .imp c a => some (.imp c (a + j * esz)) | _ => none) = some v)
    (hk : Ok M β N Lb w0 o w) (he : EnvR M β e a) (hg : GOK M G) : Gd M β N Lb w0 ks o v ((execOp a.eval p).run P w) := by
  unfold chkIndexA at hc
  split at hc
  · rename_i t y j' hop
    simp only [Bool.and_eq_true] at hc
    have hc2 := hc.2
    split at hc2
    · rename_i m el hu
      simp only [Bool.and_eq_true, beq_iff_eq] at hc2
      obtain ⟨rfl, hs⟩ := hc2
      have h1 := evA_sound hc.1.1 he hg
      have h2 := evA_sound hc.1.2 he hg
      obtain ⟨kk, mm, hi, _, rfl⟩ := asN_some hj
      rw [hi] at h2
      have h3 := h2.int_inv
      split at hv
      · rename_i i' q hx
        cases hv
        rw [hx] at h1
        obtain ⟨k, h4, h5⟩ := h1.ptr_inv
        refine .pure hk ?_ (.ptr _ _ k h4)
        simp only [execOp, hop, h5, h3, Sem.run_bind, run_indexAt hu hs hlt, Result.andThen_ok, Sem.run_pure]
      · rename_i i' j q hx
        cases hv
        rw [hx] at h1
        obtain ⟨k, h4, h5⟩ := h1.ept_inv
        refine .pure (x := .pointer (some ⟨k.b, _, none⟩)) hk ?_ (.ept _ _ _ k h4)
        simp only [execOp, hop, h5, h3, Sem.run_bind, run_indexAt hu hs hlt, Result.andThen_ok, Sem.run_pure, Nat.add_assoc]
      · rename_i c q hx
        cases hv
        rw [hx] at h1
        have h4 := h1.imp_inv
        generalize hz : a.eval y = z at *
        cases h4 with
        | imp _ _ b base xx hcc ho hr =>
          refine .pure (x := .pointer (some ⟨b, _, none⟩)) hk ?_ (.pure (.imp _ _ _ _ xx hcc ho hr))
          simp only [execOp, hop, hz, h3, Sem.run_bind, run_indexAt hu hs hlt, Result.andThen_ok, Sem.run_pure, Nat.add_assoc]
      · cases hv
    · cases hc2
  · cases hc

def chkIndexL (P : Program) (op : Go.Op) (esz : Nat) (x i : Arg) : Bool := match op with
  | .indexAddr t y j => chkA y x && chkA j i && (match P.underlying t with | some (.slice el) => tsize P el esz | _ => false)
  | _ => false
theorem run_indexAtL {t el n esz b q c : Nat} {k : IntKind} {m : Nat} (hu : P.underlying t = some (.slice el)) (hs : tsize P el esz = true) (hm : m < n) :
    (Instr.indexAt t (.slice (some ⟨b, q, none⟩) n c) (.int k m)).run P w = .ok (.pointer (some ⟨b, q + m * esz, none⟩)) w := by
  have h2 : (m : Int) < n := by omega
  have h3 : (0 : Int) ≤ m ∧ (m : Int) < n := ⟨by omega, h2⟩
  simp only [Instr.indexAt, asIntOf, run_underlying hu, Sem.run_bind, Sem.run_pure, Result.andThen_ok]
  rw [if_pos h3]
  simp [tsize_run hs, addr_add]

theorem snd_indexAddrL {p : Oper} {esz : Nat} {x i : Arg} {j : Nat} {act : Act} (hc : chkIndexL P p.op esz x i = true) (hj : asN (evA G e i) = some j)
    (hv : idxL o esz j (evA G e x) = some act)
    (hk : Ok M β N Lb w0 o w) (he : EnvR M β e a) (hg : GOK M G) : Gd M β N Lb w0 ks o act.val ((execOp a.eval p).run P w) ∧ act.ups = [] := by
  unfold chkIndexL at hc
  split at hc
  · rename_i t y j' hop
    simp only [Bool.and_eq_true] at hc
    have hc2 := hc.2
    split at hc2
    · rename_i el hu
      have h1 := evA_sound hc.1.1 he hg
      have h2 := evA_sound hc.1.2 he hg
      obtain ⟨kk, mm, hi, _, rfl⟩ := asN_some hj
      rw [hi] at h2
      have h3 := h2.int_inv
      unfold idxL at hv
      split at hv
      · rename_i s xs hx
        split at hv
        · rename_i hs; subst hs
          cases hxs : xs[j]? with
          | none => rw [hxs] at hv; cases hv
          | some c =>
            rw [hxs] at hv; cases hv
            rw [hx] at h1
            have h4 := h1.sl_inv
            generalize hz : a.eval y = z at *
            have hlt := (List.getElem?_eq_some_iff.1 hxs).1
            cases h4 with
            | sl _ _ ad cap b off xx hcap ha hel hcc ho hr =>
              have had := ha (by intro h0; rw [h0] at hlt; simp at hlt)
              subst had
              refine ⟨.pure (x := .pointer (some ⟨b, (off + j * s) + 0, none⟩)) hk ?_ (.pure (.imp _ _ _ _ (xx j) (fun l v hl => by have := hcc j c l v hxs hl; rwa [Nat.add_assoc]) (fun l v hl => ho j c l v hxs hl) (fun l v hl => hr j c l v hxs hl))), rfl⟩
              simp only [execOp, hop, hz, h3, Sem.run_bind, run_indexAtL hu hc2 hlt, Result.andThen_ok, Sem.run_pure, Nat.add_zero]
        · cases hv
      · rename_i i' st len hx
        rw [hx] at h1
        cases hrv : rdVec o i' with
        | none => rw [hrv] at hv; cases hv
        | some ex =>
          rw [hrv] at hv
          simp only [Option.bind_some] at hv
          split at hv
          · rename_i hlt; cases hv
            obtain ⟨hve, hlt⟩ := hlt
            obtain ⟨k, hβ, he', _⟩ := read_vec hk hrv
            generalize hz : a.eval y = z at *
            cases h1 with
            | pure h => cases h
            | vslE _ _ _ _ _ => omega
            | vsl _ _ _ cap k' hk' hl hs =>
              rw [hβ] at hk'; cases hk'
              refine ⟨.pure (x := .pointer (some ⟨k.b, (st + j) * k.esz + 0, none⟩)) hk ?_ (.ept _ _ _ k hβ), rfl⟩
              rw [← hve, ← he'] at hc2
              have := run_indexAtL (P := P) (w := w) (b := k.b) (q := st * k.esz) (c := cap) (k := kk) hu hc2 hlt
              simp only [execOp, hop, hz, h3, Sem.run_bind, this, Result.andThen_ok, Sem.run_pure, Nat.add_zero, Nat.add_mul]
          · cases hv
      · rename_i i' off len s hx
        rw [hx] at h1
        split at hv
        · rename_i hlt; cases hv
          obtain ⟨rfl, hlt⟩ := hlt
          generalize hz : a.eval y = z at *
          cases h1 with
          | pure h => cases h
          | bslE _ _ _ _ _ => omega
          | bsl _ _ _ _ cap k' hk' hl =>
            refine ⟨.pure (x := .pointer (some ⟨k'.b, off + j * s, none⟩)) hk ?_ (.ptr _ _ k' hk'), rfl⟩
            have := run_indexAtL (P := P) (w := w) (b := k'.b) (q := off) (c := cap) (k := kk) hu hc2 hlt
            simp only [execOp, hop, hz, h3, Sem.run_bind, this, Result.andThen_ok, Sem.run_pure]
        · cases hv
      · cases hv
    · cases hc2
  · cases hc
end
end Go.Proofs.YtoccgkgdhobmfaaDoor.Am

/- The abstract machine, part 7: parts of values, slices of strings and of slices, equality, conversions. -/
set_option linter.unusedVariables false
set_option linter.unusedSimpArgs false
namespace Go.Proofs.YtoccgkgdhobmfaaDoor.Am
open Go

section
variable {P : Program} {M : Mem} {β : Names} {N : Nat} {Lb : Nat → Prop} {w0 w : World} {o : Hp} {ks : List Nat} {e : Env} {a : Go.Act} {G : Nat → Option (List V)}

/-! ### A part of a struct or an array that is held by value -/

def partOk (P : Program) (t : Nat) (agg : Option Nat) : Bool := match agg with
  | some n => tagg P t && tsize P t n
  | none => !tagg P t && tsome P t

theorem arr_relL {cs : List V} {xs : Array Value} (hl : xs.size = cs.length) (ho : ∀ (j : Nat) v, cs[j]? = some v → (xs.getD j undef).oneCell' = true)
    (hr : ∀ (j : Nat) v, cs[j]? = some v → Rel M β v (xs.getD j undef)) : RelL M β cs xs.toList := by
  refine RelL.of_get (by simp [hl]) ?_
  intro j v hj
  have hlt : j < xs.size := by rw [hl]; exact (List.getElem?_eq_some_iff.1 hj).1
  have h1 := ho j v hj
  have h2 := hr j v hj
  have hx : xs[j]? = some xs[j] := by simp [hlt]
  rw [getD_of_getElem? hx] at h1 h2
  exact ⟨xs[j], by simp [hlt], h1, h2⟩

theorem run_part {t : Nat} {agg : Option Nat} {cs l : List V} {xs : Array Value} {off : Nat} {v : V} (hc : partOk P t agg = true) (hr : RelL M β cs xs.toList)
    (hcut : cut off (agg.getD 1) cs = some l) (hv : aggOf agg l = some v) : ∃ x, (part t xs off).run P w = .ok x w ∧ Rel M β v x ∧ (agg = none → x.oneCell' = true) := by
  obtain ⟨h1, rfl⟩ := cut_some hcut
  have hrl := (hr.drop off).take (agg.getD 1)
  have hsz : cs.length = xs.size := by simpa using hr.1
  cases agg with
  | some n =>
    simp only [partOk, Bool.and_eq_true] at hc
    rcases aggOf_some hv with ⟨_, rfl⟩ | ⟨h, _⟩
    · refine ⟨.agg ((xs.toList.drop off).take n).toArray, ?_, hrl.agg, by simp⟩
      have hx : xs.extract off (off + n) = ((xs.toList.drop off).take n).toArray := by
        apply Array.ext'
        simp [List.extract_eq_take_drop]
      simp only [part, Sem.run_bind, tagg_run hc.1, Result.andThen_ok, if_true, tsize_run hc.2, Sem.run_pure, hx]
    · cases h
  | none =>
    simp only [partOk, Bool.and_eq_true, Bool.not_eq_true'] at hc
    rcases aggOf_some hv with ⟨h, _⟩ | ⟨_, hh⟩
    · cases h
    · simp only [Option.getD_none] at h1 hrl hh
      have hlt : off < xs.size := by omega
      have h2 : (xs.toList.drop off).take 1 = [xs[off]] := by
        rw [List.drop_eq_getElem_cons (by simpa using hlt)]; simp
      rw [h2] at hrl
      cases hcs : (cs.drop off).take 1 with
      | nil => rw [hcs] at hh; cases hh
      | cons u r =>
        rw [hcs] at hh hrl; simp at hh; subst hh
        refine ⟨xs[off], ?_, hrl.2.1 0 u _ (by simp) (by simp), fun _ => hrl.2.2 _ (by simp)⟩
        simp only [part, Sem.run_bind, tagg_run' hc.1 hc.2, Result.andThen_ok, Bool.false_eq_true, if_false]
        simp [hlt]

def chkField (P : Program) (op : Go.Op) (off : Nat) (agg : Option Nat) (x : Arg) : Bool := match op with
  | .field s y f => chkA y x && (match P.underlying s with
    | some (.struct fs) => (match fs[f]? with | some fl => fl.offset == off && partOk P fl.type agg | none => false)
    | _ => false)
  | _ => false
theorem snd_field {p : Oper} {off : Nat} {agg : Option Nat} {x : Arg} {cs l : List V} {v : V} (hc : chkField P p.op off agg x = true) (hx : evA G e x = .agg cs)
    (hcut : cut off (agg.getD 1) cs = some l) (hv : aggOf agg l = some v) (hk : Ok M β N Lb w0 o w) (he : EnvR M β e a) (hg : GOK M G) :
    Gd M β N Lb w0 ks o v ((execOp a.eval p).run P w) := by
  unfold chkField at hc
  split at hc
  · rename_i s y f hop
    simp only [Bool.and_eq_true] at hc
    have hc2 := hc.2
    split at hc2
    · rename_i fs hu
      split at hc2
      · rename_i fl hf
        simp only [Bool.and_eq_true, beq_iff_eq] at hc2
        obtain ⟨rfl, hp⟩ := hc2
        have h1 := evA_sound hc.1 he hg
        rw [hx] at h1
        obtain ⟨xs, h2, h3, h4, h5⟩ := h1.agg_inv
        obtain ⟨z, h6, h7, _⟩ := run_part (P := P) (w := w) hp (arr_relL h3 h4 h5) hcut hv
        refine .pure hk ?_ h7
        simp only [execOp, hop, h2, Instr.field, Sem.run_bind, run_underlying hu, Result.andThen_ok, hf, asAgg, Sem.run_pure, h6]
      · cases hc2
    · cases hc2
  · cases hc

def chkIndexV (P : Program) (op : Go.Op) (n esz : Nat) (agg : Bool) (x i : Arg) : Bool := match op with
  | .index t y j => chkA y x && chkA j i && (match P.underlying t with
    | some (.array m el) => m == n && tsize P el esz && partOk P el (if agg then some esz else none) && (agg || esz == 1)
    | _ => false)
  | _ => false
theorem snd_indexV {p : Oper} {n esz : Nat} {agg : Bool} {x i : Arg} {j : Nat} {cs l : List V} {v : V} (hc : chkIndexV P p.op n esz agg x i = true) (hj : asN (evA G e i) = some j)
    (hx : evA G e x = .agg cs) (hlt : j < n) (hcut : cut (j * esz) esz cs = some l) (hv : aggOf (if agg then some esz else none) l = some v)
    (hk : Ok M β N Lb w0 o w) (he : EnvR M β e a) (hg : GOK M G) : Gd M β N Lb w0 ks o v ((execOp a.eval p).run P w) := by
  unfold chkIndexV at hc
  split at hc
  · rename_i t y j' hop
    simp only [Bool.and_eq_true] at hc
    have hc2 := hc.2
    split at hc2
    · rename_i m el hu
      simp only [Bool.and_eq_true, beq_iff_eq] at hc2
      obtain ⟨⟨⟨rfl, hs⟩, hp⟩, hag⟩ := hc2
      have h1 := evA_sound hc.1.1 he hg
      rw [hx] at h1
      obtain ⟨xs, h2, h3, h4, h5⟩ := h1.agg_inv
      have hi := evA_sound hc.1.2 he hg
      obtain ⟨kk, mm, hie, _, rfl⟩ := asN_some hj
      rw [hie] at hi
      have hi2 := hi.int_inv
      have hd : (if agg then some esz else none : Option Nat).getD 1 = esz := by
        cases agg
        · simp at hag; simp [hag]
        · rfl
      obtain ⟨z, h6, h7, _⟩ := run_part (P := P) (w := w) hp (arr_relL h3 h4 h5) (by rw [hd]; exact hcut) hv
      refine .pure hk ?_ h7
      have hb : (0 : Int) ≤ j ∧ (j : Int) < m := by omega
      simp only [execOp, hop, h2, hi2, Instr.index, asIntOf, Sem.run_bind, Sem.run_pure, run_underlying hu, Result.andThen_ok]
      rw [if_pos hb]
      simp [tsize_run hs, h6]
    · cases hc2
  · cases hc

theorem str_get (s : List UInt8) (j : Nat) : (⟨s.toArray⟩ : ByteArray)[j]? = s[j]? := by
  simp only [getElem?_def]
  have : (⟨s.toArray⟩ : ByteArray).size = s.length := size_str s
  by_cases h : j < s.length
  · rw [dif_pos h, dif_pos (by rw [this]; exact h)]; rfl
  · rw [dif_neg h, dif_neg (by rw [this]; exact h)]

def chkIndexS (P : Program) (op : Go.Op) (x i : Arg) : Bool := match op with | .index t y j => chkA y x && chkA j i && isStr P t | _ => false
theorem snd_indexS {p : Oper} {x i : Arg} {j : Nat} {s : List UInt8} {c : UInt8} (hc : chkIndexS P p.op x i = true) (hj : asN (evA G e i) = some j) (hx : evA G e x = .str s) (hs : s[j]? = some c)
    (hk : Ok M β N Lb w0 o w) (he : EnvR M β e a) (hg : GOK M G) : Gd M β N Lb w0 ks o (.int .u8 c.toNat) ((execOp a.eval p).run P w) := by
  unfold chkIndexS at hc
  split at hc
  · rename_i t y j' hop
    simp only [Bool.and_eq_true] at hc
    have hu := isStr_of hc.2
    have h1 := evA_sound hc.1.1 he hg
    rw [hx] at h1
    have hi := evA_sound hc.1.2 he hg
    obtain ⟨kk, mm, hie, _, rfl⟩ := asN_some hj
    rw [hie] at hi
    refine .pure hk ?_ (.pure (.int _ _))
    have hb : (0 : Int) ≤ j := by omega
    have hg' : (⟨s.toArray⟩ : ByteArray)[(j : Int).toNat]? = some c := by rw [Int.toNat_natCast, str_get]; exact hs
    simp only [execOp, hop, h1.str_inv, hi.int_inv, Instr.index, asIntOf, Sem.run_bind, Sem.run_pure, run_underlying hu, Result.andThen_ok]
    rw [if_pos hb, hg']
    simp
  · cases hc

/-! ### Slices -/

def chkO (x : Option Operand) (y : Option Arg) : Bool := match x, y with
  | none, none => true
  | some x, some y => chkA x y
  | _, _ => false

theorem run_bound {x : Value} {k : IntKind} {m y : Nat} {c : BoundsCode} (hx : x = .int k m) (h : m ≤ y) : (Instr.sliceBound x y c).run P w = .ok m w := by
  subst hx
  have hb : (0 : Int) ≤ m ∧ (m : Int) ≤ y := by omega
  simp only [Instr.sliceBound, asIntOf, Sem.run_bind, Sem.run_pure, Result.andThen_ok]
  rw [if_pos hb]; simp

theorem opt_val {x : Option Operand} {y : Option Arg} {d n : Nat} (h : chkO x y = true) (hn : optN G e d y = some n) (he : EnvR M β e a) (hg : GOK M G) :
    (x = none ∧ n = d) ∨ ∃ z k, x = some z ∧ a.eval z = .int k n := by
  cases x with
  | none => cases y with
    | none => simp only [optN, Option.some.injEq] at hn; exact .inl ⟨rfl, hn.symm⟩
    | some y => cases h
  | some z => cases y with
    | none => cases h
    | some y =>
      simp only [optN] at hn
      obtain ⟨k, m, h1, h2, rfl⟩ := asN_some hn
      have := evA_sound (M := M) (β := β) h he hg
      rw [h1] at this
      exact .inr ⟨z, k, rfl, this.int_inv⟩

theorem run_bounds {lo hi : Option Operand} {lo' hi' : Option Arg} {l h len cap : Nat} {isS : Bool} (h1 : chkO lo lo' = true) (h2 : chkO hi hi' = true) (hl : optN G e 0 lo' = some l) (hh : optN G e len hi' = some h)
    (hlh : l ≤ h) (hhl : h ≤ len) (hlc : len ≤ cap) (he : EnvR M β e a) (hg : GOK M G) :
    (Instr.sliceBounds isS len cap (lo.map a.eval) (hi.map a.eval) none).run P w = .ok (l, h, cap) w := by
  rcases opt_val (M := M) (β := β) h1 hl he hg with ⟨rfl, rfl⟩ | ⟨z, k, rfl, hz⟩ <;> rcases opt_val (M := M) (β := β) h2 hh he hg with ⟨rfl, rfl⟩ | ⟨z', k', rfl, hz'⟩
  · simp [Instr.sliceBounds]
  · simp only [Instr.sliceBounds, Option.map_none, Option.map_some, Sem.run_bind, Sem.run_pure, Result.andThen_ok, run_bound hz' (show h ≤ cap by omega)]
  · simp only [Instr.sliceBounds, Option.map_none, Option.map_some, Sem.run_bind, Sem.run_pure, Result.andThen_ok, run_bound hz hlh]
  · simp only [Instr.sliceBounds, Option.map_none, Option.map_some, Sem.run_bind, Sem.run_pure, Result.andThen_ok, run_bound hz' (show h ≤ cap by omega), run_bound hz hlh]

theorem extract_str (s : List UInt8) (l h : Nat) : (⟨s.toArray⟩ : ByteArray).extract l h = ⟨((s.drop l).take (h - l)).toArray⟩ := by
  apply ByteArray.ext
  apply Array.ext'
  simp [Lib.extract_data]

def chkSliceS (P : Program) (op : Go.Op) (x : Arg) (lo hi : Option Arg) : Bool := match op with
  | .slice t y l h none => chkA y x && chkO l lo && chkO h hi && isStr P t
  | _ => false
theorem snd_sliceS {p : Oper} {x : Arg} {lo hi : Option Arg} {s : List UInt8} {l h : Nat} (hc : chkSliceS P p.op x lo hi = true) (hx : evA G e x = .str s)
    (hl : optN G e 0 lo = some l) (hh : optN G e s.length hi = some h) (hlh : l ≤ h) (hhl : h ≤ s.length)
    (hk : Ok M β N Lb w0 o w) (he : EnvR M β e a) (hg : GOK M G) : Gd M β N Lb w0 ks o (.str ((s.drop l).take (h - l))) ((execOp a.eval p).run P w) := by
  unfold chkSliceS at hc
  split at hc
  · rename_i t y lo' hi' hop
    simp only [Bool.and_eq_true] at hc
    have hu := isStr_of hc.2
    have h1 := evA_sound hc.1.1.1 he hg
    rw [hx] at h1
    have h2 := run_bounds (P := P) (w := w) (isS := false) hc.1.1.2 hc.1.2 hl hh hlh hhl (Nat.le_refl _) he hg
    refine .pure hk ?_ (.pure (.str _))
    simp only [execOp, hop, h1.str_inv, Instr.sliceAt, Instr.slice, Sem.run_bind, run_underlying hu, Result.andThen_ok, size_str, Option.map_none, Option.isSome_none, Bool.false_eq_true, if_false, Sem.run_pure, h2, extract_str]
  · cases hc

def chkSliceL (P : Program) (op : Go.Op) (esz : Nat) (x : Arg) (lo hi : Option Arg) : Bool := match op with
  | .slice t y l h none => chkA y x && chkO l lo && chkO h hi && (match P.underlying t with | some (.slice el) => tsize P el esz | _ => false)
  | _ => false

theorem snd_sliceL {p : Oper} {esz : Nat} {x : Arg} {lo hi : Option Arg} {n l h : Nat} {act : Act} (hc : chkSliceL P p.op esz x lo hi = true) (hn : lenOf (evA G e x) = some n)
    (hl : optN G e 0 lo = some l) (hh : optN G e n hi = some h) (hv : sliceElems o esz l h (evA G e x) = some act)
    (hk : Ok M β N Lb w0 o w) (he : EnvR M β e a) (hg : GOK M G) : Gd M β N Lb w0 ks o act.val ((execOp a.eval p).run P w) ∧ act.ups = [] := by
  unfold chkSliceL at hc
  split at hc
  · rename_i t y lo' hi' hop
    simp only [Bool.and_eq_true] at hc
    have hc2 := hc.2
    split at hc2
    · rename_i el hu
      have h1 := evA_sound hc.1.1.1 he hg
      obtain ⟨ad, c, hx, hnc⟩ := lenOf_sound hn h1
      have hrun : ∀ (hlh : l ≤ h) (hhl : h ≤ n), (execOp a.eval p).run P w = .ok (.value (.slice (if c = l then ad else ad.map (·.add (l * esz))) (h - l) (c - l))) w := by
        intro hlh hhl
        have h2 := run_bounds (P := P) (w := w) (isS := true) hc.1.1.2 hc.1.2 hl hh hlh hhl hnc he hg
        simp only [execOp, hop, hx, Instr.sliceAt, Instr.slice, Sem.run_bind, run_underlying hu, Result.andThen_ok, Option.map_none, Sem.run_pure, h2, tsize_run hc2]
      generalize hz : a.eval y = z at *
      unfold sliceElems at hv
      split at hv
      · rename_i s hxe
        split at hv
        · rename_i hs; cases hv
          obtain ⟨rfl, rfl, rfl⟩ := hs
          rw [hxe] at h1 hn
          cases hn
          have := h1.nils_inv
          rw [hx] at this; cases this
          exact ⟨.pure hk (hrun (Nat.le_refl _) (Nat.le_refl _)) (.pure (.nils _)), rfl⟩
        · cases hv
      · rename_i s xs hxe
        split at hv
        · rename_i hs; cases hv
          obtain ⟨rfl, hlh, hhl⟩ := hs
          rw [hxe] at h1 hn
          cases hn
          have hp := h1.sl_inv
          rw [hx] at hp
          refine ⟨.pure hk (hrun hlh hhl) ?_, rfl⟩
          cases hp with
          | sl _ _ _ _ b off xx hcap ha hel hcc ho hr =>
            have hlen : ((xs.drop l).take (h - l)).length = h - l := by simp; omega
            have hget : ∀ (i : Nat) (cc : List V), ((xs.drop l).take (h - l))[i]? = some cc → xs[l + i]? = some cc := by
              intro i cc hi
              rw [List.getElem?_take] at hi
              split at hi
              · rwa [List.getElem?_drop] at hi
              · cases hi
            have hne : (xs.drop l).take (h - l) ≠ [] → c ≠ l := by
              intro h0
              have : 0 < h - l := by
                rcases Nat.eq_zero_or_pos (h - l) with h00 | h00
                · rw [h00] at h0; simp at h0
                · exact h00
              omega
            have := PRel.sl (M := M) s ((xs.drop l).take (h - l)) (if c = l then ad else ad.map (·.add (l * s))) (c - l) b (off + l * s) (fun i j => xx (l + i) j) (by rw [hlen]; omega)
              (by
                intro h0
                rw [if_neg (hne h0), ha (by intro hxs; rw [hxs] at h0; simp at h0)]
                simp [addr_add])
              (fun i cc hi => hel _ cc (hget i cc hi))
              (fun i cc j v hi hj => by
                have := hcc _ cc j v (hget i cc hi) hj
                rw [← this]; congr 1; rw [Nat.add_mul]; omega)
              (fun i cc j v hi hj => ho _ cc j v (hget i cc hi) hj)
              (fun i cc j v hi hj => hr _ cc j v (hget i cc hi) hj)
            rw [hlen] at this
            exact .pure this
        · cases hv
      · rename_i i st len hxe
        rw [hxe] at h1 hn
        cases hn
        cases hrv : rdVec o i with
        | none => rw [hrv] at hv; cases hv
        | some ex =>
          rw [hrv] at hv
          simp only [Option.bind_some] at hv
          split at hv
          · rename_i hs; cases hv
            obtain ⟨hve, hlh, hhl⟩ := hs
            obtain ⟨k, hβ, he', _⟩ := read_vec hk hrv
            refine ⟨.pure hk (hrun hlh hhl) ?_, rfl⟩
            rw [hx] at h1
            cases h1 with
            | pure h => cases h
            | vslE _ _ _ _ hst0 =>
              have h00 : h = 0 ∧ l = 0 := by omega
              obtain ⟨rfl, rfl⟩ := h00
              exact .vslE _ _ _ _ (by omega)
            | vsl _ _ _ _ k' hk' hl' hs' =>
              rw [hβ] at hk'; cases hk'
              by_cases hcl : c = l
              · subst hcl
                have : h - c = 0 := by omega
                rw [this]
                by_cases hst : st + c = 0
                · have h0 : st = 0 ∧ c = 0 := by omega
                  obtain ⟨rfl, rfl⟩ := h0
                  simp only [if_true]
                  exact .vsl _ _ _ _ k hβ (by omega) (by omega)
                · exact .vslE _ _ _ _ hst
              · simp only [hcl, if_false, Option.map_some, addr_add]
                have hle : l * esz = l * k.esz := by rw [he', hve]
                rw [hle, ← Nat.add_mul]
                refine .vsl _ _ _ _ k hβ (by omega) ?_
                have : (st + l) * k.esz + (c - l) * k.esz = st * k.esz + c * k.esz := by
                  rw [← Nat.add_mul, ← Nat.add_mul]; congr 1; omega
                omega
          · cases hv
      · rename_i i off len s hxe
        split at hv
        · rename_i hs; cases hv
          obtain ⟨rfl, hlh, hhl⟩ := hs
          rw [hxe] at h1 hn
          cases hn
          refine ⟨.pure hk (hrun hlh hhl) ?_, rfl⟩
          rw [hx] at h1
          by_cases h0 : h - l = 0
          · rw [h0]; exact .bslE _ _ _ _ _
          · cases h1 with
            | pure h => cases h
            | bslE _ _ _ _ _ => omega
            | bsl _ _ _ _ _ k' hk' hl' =>
              have hcl : c ≠ l := by omega
              simp only [hcl, if_false, Option.map_some, addr_add]
              exact .bsl _ _ _ _ _ k' hk' (by omega)
        · cases hv
      · cases hv
    · cases hc2
  · cases hc

def chkSliceA (P : Program) (op : Go.Op) (n esz : Nat) (x : Arg) (lo hi : Option Arg) : Bool := match op with
  | .slice t y l h none => chkA y x && chkO l lo && chkO h hi && (match P.underlying t with | some (.array m el) => m == n && tsize P el esz | _ => false)
  | _ => false
theorem snd_sliceA {p : Oper} {n esz : Nat} {x : Arg} {lo hi : Option Arg} {i off l h : Nat} (hc : chkSliceA P p.op n esz x lo hi = true) (hx : evA G e x = .ptr i off)
    (hl : optN G e 0 lo = some l) (hh : optN G e n hi = some h) (hlh : l ≤ h) (hhl : h ≤ n)
    (hk : Ok M β N Lb w0 o w) (he : EnvR M β e a) (hg : GOK M G) : Gd M β N Lb w0 ks o (.bsl i (off + l * esz) (h - l) esz) ((execOp a.eval p).run P w) := by
  unfold chkSliceA at hc
  split at hc
  · rename_i t y lo' hi' hop
    simp only [Bool.and_eq_true] at hc
    have hc2 := hc.2
    split at hc2
    · rename_i m el hu
      simp only [Bool.and_eq_true, beq_iff_eq] at hc2
      obtain ⟨rfl, hs⟩ := hc2
      have h1 := evA_sound hc.1.1.1 he hg
      rw [hx] at h1
      obtain ⟨k, h2, h3⟩ := h1.ptr_inv
      have h4 := run_bounds (P := P) (w := w) (isS := false) hc.1.1.2 hc.1.2 hl hh hlh hhl (Nat.le_refl _) he hg
      have hrun : (execOp a.eval p).run P w = .ok (.value (.slice (some (if m = l then ⟨k.b, off, none⟩ else ⟨k.b, off + l * esz, none⟩)) (h - l) (m - l))) w := by
        simp only [execOp, hop, h3, Instr.sliceAt, Sem.run_bind, run_underlying hu, Result.andThen_ok, Option.map_none, Instr.sureAddr, Sem.run_pure, h4, tsize_run hs, addr_add]
      refine .pure hk hrun ?_
      by_cases h0 : h - l = 0
      · rw [h0]; exact .bslE _ _ _ _ _
      · rw [if_neg (by omega)]
        exact .bsl _ _ _ _ _ k h2 (by omega)
    · cases hc2
  · cases hc

def chkArrPtr (P : Program) (op : Go.Op) (n : Nat) (x : Arg) : Bool := match op with
  | .sliceToArrayPointer t y => chkA y x && (match P.underlying t with | some (.array m el) => m == n | _ => false)
  | _ => false
theorem snd_arrPtr {p : Oper} {n : Nat} {x : Arg} {i off len s : Nat} (hc : chkArrPtr P p.op n x = true) (hx : evA G e x = .bsl i off len s) (h0 : 0 < n) (hn : n ≤ len)
    (hk : Ok M β N Lb w0 o w) (he : EnvR M β e a) (hg : GOK M G) : Gd M β N Lb w0 ks o (.ptr i off) ((execOp a.eval p).run P w) := by
  unfold chkArrPtr at hc
  split at hc
  · rename_i t y hop
    simp only [Bool.and_eq_true] at hc
    have hc2 := hc.2
    split at hc2
    · rename_i m el hu
      simp only [beq_iff_eq] at hc2; subst hc2
      have h1 := evA_sound hc.1 he hg
      rw [hx] at h1
      generalize hz : a.eval y = z at *
      cases h1 with
      | pure h => cases h
      | bslE _ _ _ _ _ => omega
      | bsl _ _ _ _ cap k hk' hl =>
        refine .pure hk ?_ (.ptr _ _ k hk')
        simp only [execOp, hop, hz, Instr.arrayAt, Sem.run_bind, run_underlying hu, Result.andThen_ok]
        rw [if_neg (by omega)]
        simp
    · cases hc2
  · cases hc
end
end Go.Proofs.YtoccgkgdhobmfaaDoor.Am
