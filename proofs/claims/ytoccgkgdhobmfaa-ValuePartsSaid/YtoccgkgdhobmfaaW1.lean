/- Part 1 of a proof: the abstract machine and the contracts of the program. -/
import Derived.Orders
import Derived.Laws.Cells
import Derived.KernelRfl
import Derived.Laws.World
import Derived.Laws.StructEq
import Derived.Laws.Cover3
import Derived.ChangeKeysEq
import Derived.Laws.BytesString
import Derived.Laws.Build
import Derived.Lib.Strings
import Derived.Laws.BytesArg
import Derived.Laws.MakeOwn
import Derived.Laws.Pointers
set_option linter.unusedVariables false
set_option linter.unusedSimpArgs false
namespace Go.Proofs.Ytoccgkgdhobmfaa.Am
open Go
/-- A value of the abstract machine. -/
inductive V where
  | junk
  | int (k : IntKind) (n : Int)
  | bool (b : Bool)
  | str (s : List UInt8)
  | nilp
  | nils (esz : Nat)
  | nilf
  | nili
  | ptr (i off : Nat)
  | ept (i j off : Nat)
  | imp (cells : List V) (off : Nat)
  | sl (esz : Nat) (xs : List (List V))
  | vsl (i st len : Nat)
  | bsl (i off len esz : Nat)
  | own (esz : Nat) (xs : List (List V))
  | fn (f : Nat) (caps : List V)
  | iface (t : Nat) (v : V)
  | agg (cells : List V)
  | tup (vs : List V)
  deriving Inhabited
def V.cells : V → List V
  | .agg cs => cs
  | v => [v]
/-- An object of the abstract heap. -/
inductive AObj where
  | dead
  | box (cs : List V)
  | vec (esz : Nat) (xs : List (List V))
  | fbox (cs : List V)
  | fvec (esz : Nat) (xs : List (List V))
  deriving Inhabited
abbrev Hp := Nat → AObj
abbrev Env := Nat → V
def hput (o : Hp) (i : Nat) (x : AObj) : Hp := fun j => if j = i then x else o j
def eput (e : Env) (d : Nat) (v : V) : Env := fun s => if s = d then v else e s
def eputO (e : Env) (d : Option Nat) (v : V) : Env := match d with | some d => eput e d v | none => e
def hputs (o : Hp) : List (Nat × AObj) → Hp
  | [] => o
  | (i, x) :: r => hputs (hput o i x) r
inductive Arg where
  | tmp (t : Nat)
  | const (v : V)
  | glob (g : Nat)
  | fn (f : Nat)
  deriving Inhabited
/-- Instructions. 'k' is the number of the new object among those of the region. -/
inductive I where
  | mov (x : Arg)
  | pick (c a b : Arg)
  | alloc (k : Nat) (zero : List V)
  | box (k : Nat) (x : Arg)
  | build (zero : List V) (parts : List (Nat × Nat × Arg))
  | lit (k : Nat) (esz : Nat) (zero : List (List V)) (parts : List (Nat × Arg))
  | ilit (esz : Nat) (zero : List (List V)) (parts : List (Nat × Arg))
  | flit (esz : Nat) (zero : List (List V)) (parts : List (Nat × Arg))
  | load (agg : Option Nat) (a : Arg)
  | store (n : Nat) (a x : Arg)
  | nilCheck (x : Arg)
  | bin (op : BinOp) (x y : Arg)
  | eqv (neg : Bool) (ks : List Nat) (x y : Arg)
  | eqp (neg : Bool) (x y : Arg)
  | eqb (neg : Bool) (x y : Arg)
  | un (op : UnOp) (x : Arg)
  | convInt (k : IntKind) (x : Arg)
  | convStr (x : Arg)
  | convBytes (x : Arg)
  | convSl (x : Arg)
  | arrPtr (n : Nat) (x : Arg)
  | mkIface (t : Nat) (x : Arg)
  | mkFn (f : Nat) (caps : List Arg)
  | sliceS (x : Arg) (lo hi : Option Arg)
  | sliceL (esz : Nat) (x : Arg) (lo hi : Option Arg)
  | sliceA (n esz : Nat) (x : Arg) (lo hi : Option Arg)
  | fieldAddr (off : Nat) (x : Arg)
  | field (off : Nat) (agg : Option Nat) (x : Arg)
  | indexAddrA (n esz : Nat) (x i : Arg)
  | indexAddrL (esz : Nat) (x i : Arg)
  | indexS (x i : Arg)
  | indexA (n esz : Nat) (agg : Bool) (x i : Arg)
  | append (k esz ebytes : Nat) (s x : Arg)
  | appendZ (k esz ebytes : Nat) (zero : List V) (s n : Arg)
  | copy (esz : Nat) (d s : Arg)
  | len (x : Arg)
  | lenS (x : Arg)
  | lenA (n : Nat)
  | cap0 (x : Arg)
  | mmax (xs : List Arg)
  | mmin (xs : List Arg)
  | make (k esz ebytes : Nat) (zero : List V) (len cap : Arg)
  | extract (x : Arg) (i : Nat)
  | call (f : Arg) (args : List Arg) (raw : List Bool) (own : Option Nat)
  | panic (x : Arg)
  deriving Inhabited
structure Op' where
  dst : Option Nat
  i : I
  guard : Option (Nat × Bool)
  deriving Inhabited
inductive MC where
  | skip
  | region (draw : Option (List (Nat × Nat) × List Nat)) (nalloc : Nat) (ops : List Op')
  | seq (a b : MC)
  | cond (c : Arg) (a b : MC)
  | block (id : Nat) (a : MC)
  | loop (a : MC)
  | exit (id : Nat)
  | scope (a : MC)
  | ret
  deriving Inhabited
inductive Res where
  | tmp (t : Nat)
  | cell (t : Nat) (agg : Option Nat)
  deriving Inhabited
structure MF where
  np : Nat
  ntmps : Nat
  res : List Res
  body : MC
  deriving Inhabited
def evA (G : Nat → Option (List V)) (e : Env) : Arg → V
  | .tmp t => e t
  | .const v => v
  | .glob g => match G g with | some cs => .imp cs 0 | none => .junk
  | .fn f => .fn f []
def byteV (b : UInt8) : List V := [.int .u8 b.toNat]
def bytesV (s : List UInt8) : List (List V) := s.map byteV
/-- The bytes that a list of one-celled elements holds. -/
def bytesOf : List (List V) → Option (List UInt8)
  | [] => some []
  | [.int .u8 n] :: r => (bytesOf r).map (UInt8.ofNat n.toNat :: ·)
  | _ => none
/-- 'm' pieces of 'n' cells each. -/
def chunks (n : Nat) : Nat → List V → List (List V)
  | 0, _ => []
  | m + 1, l => l.take n :: chunks n m (l.drop n)
/-- A value of one cell. -/
def cellV : V → Bool
  | .junk | .agg _ | .tup _ | .own _ _ => false
  | _ => true
def okCells : V → Bool
  | .agg _ => true
  | v => cellV v
def aggOf (a : Option Nat) (cs : List V) : Option V :=
  match a with
  | some _ => some (.agg cs)
  | none => cs.head?
def cut (off n : Nat) (cs : List V) : Option (List V) := if off + n ≤ cs.length then some ((cs.drop off).take n) else none
def splice (off : Nat) (new cs : List V) : Option (List V) :=
  if off + new.length ≤ cs.length then some (cs.take off ++ (new ++ cs.drop (off + new.length))) else none
def rdBox (o : Hp) (i : Nat) : Option (List V) := match o i with | .box cs | .fbox cs => some cs | _ => none
def rdVec (o : Hp) (i : Nat) : Option (Nat × List (List V)) := match o i with | .vec e xs | .fvec e xs => some (e, xs) | _ => none
/-- What stands at an address: so many cells; and the objects that were looked at. -/
def peek (o : Hp) (n : Nat) : V → Option (List V × List Nat)
  | .ptr i off => (rdBox o i).bind fun cs => (cut off n cs).map (·, [i])
  | .ept i j off => (rdVec o i).bind fun ex => (ex.2[j]?).bind fun c => (cut off n c).map (·, [i])
  | .imp cs off => (cut off n cs).map (·, [])
  | _ => none
def poke (o : Hp) (new : List V) : V → Option (List (Nat × AObj))
  | .ptr i off => match o i with
    | .box cs => (splice off new cs).map fun cs' => [(i, .box cs')]
    | _ => none
  | .ept i j off => match o i with
    | .vec e xs => (xs[j]?).bind fun c => (splice off new c).map fun c' => [(i, .vec e (xs.set j c'))]
    | _ => none
  | _ => none
/-- The elements of a slice (or of a string), of the given size; and the objects that were looked at. -/
def elemsOf (o : Hp) (esz : Nat) : V → Option (List (List V) × List Nat)
  | .nils e => if e = esz then some ([], []) else none
  | .sl e xs => if e = esz then some (xs, []) else none
  | .str s => if esz = 1 then some (bytesV s, []) else none
  | .vsl i st len => (rdVec o i).bind fun ex => if ex.1 = esz ∧ st + len ≤ ex.2.length then some ((ex.2.drop st).take len, [i]) else none
  | .bsl i off len e => if e = esz then (rdBox o i).bind fun cs => (cut off (len * esz) cs).map fun c => (chunks esz len c, [i]) else none
  | _ => none
def isStrV : V → Bool
  | .str _ => true
  | _ => false
def lenOf : V → Option Nat
  | .nils _ => some 0
  | .sl _ xs => some xs.length
  | .vsl _ _ n => some n
  | .bsl _ _ n _ => some n
  | _ => none
def asN : V → Option Nat
  | .int _ n => if 0 ≤ n then some n.toNat else none
  | _ => none
def optN (G : Nat → Option (List V)) (e : Env) (d : Nat) : Option Arg → Option Nat
  | none => some d
  | some x => asN (evA G e x)
def cmpI (op : BinOp) (a b : Int) : Option V :=
  match op with
  | .eql => some (.bool (a == b))
  | .neq => some (.bool (a != b))
  | .lss => some (.bool (decide (a < b)))
  | .leq => some (.bool (decide (a ≤ b)))
  | .gtr => some (.bool (decide (a > b)))
  | .geq => some (.bool (decide (a ≥ b)))
  | _ => none
def bitI (f : ∀ {n : Nat}, BitVec n → BitVec n → BitVec n) (k : IntKind) (a b : Int) : V :=
  .int k (k.wrap ((f (BitVec.ofInt k.bits a) (BitVec.ofInt k.bits b)).toNat : Int))
def binI (op : BinOp) (k : IntKind) (a : Int) (k' : IntKind) (b : Int) : Option V :=
  match op with
  | .shl => if b < 0 then none else some (.int k (k.wrap (a * 2 ^ (min b.toNat k.bits))))
  | .shr => if b < 0 then none else some (.int k (a.fdiv (2 ^ (min b.toNat k.bits))))
  | .add => if k = k' then some (.int k (k.wrap (a + b))) else none
  | .sub => if k = k' then some (.int k (k.wrap (a - b))) else none
  | .mul => if k = k' then some (.int k (k.wrap (a * b))) else none
  | .quo => if k = k' then (if b = 0 then none else some (.int k (k.wrap (a.tdiv b)))) else none
  | .rem => if k = k' then (if b = 0 then none else some (.int k (a.tmod b))) else none
  | .and => if k = k' then some (bitI (· &&& ·) k a b) else none
  | .or => if k = k' then some (bitI (· ||| ·) k a b) else none
  | .xor => if k = k' then some (bitI (· ^^^ ·) k a b) else none
  | .andNot => if k = k' then some (bitI (fun x y => x &&& ~~~y) k a b) else none
  | op => if k = k' then cmpI op a b else none
def binS (op : BinOp) (x y : List UInt8) : Option V :=
  match op with
  | .add => if x.length + y.length ≤ 140737488355328 then some (.str (x ++ y)) else none
  | .eql => some (.bool (x == y))
  | .neq => some (.bool (!(x == y)))
  | .lss => some (.bool (Go.Op.bytesLess x y))
  | .leq => some (.bool (Go.Op.bytesLess x y || x == y))
  | .gtr => some (.bool (!(Go.Op.bytesLess x y || x == y)))
  | .geq => some (.bool (!(Go.Op.bytesLess x y)))
  | _ => none
def binV (op : BinOp) : V → V → Option V
  | .int k a, .int k' b => binI op k a k' b
  | .str x, .str y => binS op x y
  | _, _ => none
def unV (op : UnOp) : V → Option V
  | .int k n => match op with
    | .neg => some (.int k (k.wrap (0 - n)))
    | .xor => some (bitI (· ^^^ ·) k (if k.signed then -1 else k.max) n)
    | _ => none
  | .bool b => match op with
    | .not => some (.bool !b)
    | _ => none
  | _ => none
/-- Equality of one cell of a kind: 0 truth, 1 number, 2 string. -/
def eqK : Nat → V → V → Option Bool
  | 0, .bool a, .bool b => some (a == b)
  | 1, .int k a, .int k' b => if k = k' then some (a == b) else none
  | 2, .str a, .str b => some (a == b)
  | _, _, _ => none
def eqCells : List Nat → List V → List V → Option Bool
  | [], [], [] => some true
  | k :: ks, a :: as, b :: bs => (eqK k a b).bind fun x => (eqCells ks as bs).map (x && ·)
  | _, _, _ => none
/-- A pointer against nil. -/
def eqP : V → V → Option Bool
  | .nilp, .nilp => some true
  | .nilp, .ptr _ _ | .ptr _ _, .nilp | .nilp, .imp _ _ | .imp _ _, .nilp | .nilp, .ept _ _ _ | .ept _ _ _, .nilp => some false
  | _, _ => none
def maxI : V → V → Option V
  | .int k x, .int k' y => some (.int k (if y > x then y else x))
  | _, _ => none
def minI : V → V → Option V
  | .int k x, .int k' y => some (.int k (if y < x then y else x))
  | _, _ => none
def foldV (f : V → V → Option V) : V → List V → Option V
  | a, [] => some a
  | a, b :: r => (f a b).bind fun c => foldV f c r
/-- A value that no object of the call's own is named in; nil slices become empty lists. -/
def nrm : V → Option V
  | .nils e => some (.sl e [])
  | .int k n => some (.int k n)
  | .bool b => some (.bool b)
  | .str s => some (.str s)
  | .nilp => some .nilp
  | .nilf => some .nilf
  | .nili => some .nili
  | .imp c o => some (.imp c o)
  | .sl e xs => some (.sl e xs)
  | .iface t v => match v with
    | .int k n => some (.iface t (.int k n))
    | _ => none
  | _ => none
def nrmL : List V → Option (List V)
  | [] => some []
  | a :: r => (nrm a).bind fun a' => (nrmL r).map (a' :: ·)
def nrmLL : List (List V) → Option (List (List V))
  | [] => some []
  | a :: r => (nrmL a).bind fun a' => (nrmLL r).map (a' :: ·)
/-- Results that hold no address and no element. -/
def scalarV : V → Bool
  | .int _ _ | .bool _ | .str _ | .nilp | .nilf | .nili | .nils _ => true
  | .sl _ xs => xs.isEmpty
  | .iface _ v => match v with | .int _ _ | .bool _ | .str _ => true | _ => false
  | _ => false
def scalar : V → Bool
  | .agg cs => cs.all scalarV
  | .tup vs => vs.all fun v => match v with | .agg cs => cs.all scalarV | v => scalarV v
  | v => scalarV v
def seqM {α β γ : Type} (f : α → Option (β × List γ)) : List α → Option (List β × List γ)
  | [] => some ([], [])
  | a :: l => (f a).bind fun r => (seqM f l).map fun s => (r.1 :: s.1, r.2 ++ s.2)
/-- A cell that names no object of the call's own, and no nil slice. -/
def flat : V → Bool
  | .int _ _ | .bool _ | .str _ | .nilp | .nilf | .nili | .imp _ _ | .sl _ _ => true
  | _ => false
def frz (o : Hp) : Nat → V → Option (V × List (Nat × AObj))
  | 0, _ => none
  | n + 1, v => match v with
    | .int k m => some (.int k m, [])
    | .bool b => some (.bool b, [])
    | .str s => some (.str s, [])
    | .nilp => some (.nilp, [])
    | .nilf => some (.nilf, [])
    | .nili => some (.nili, [])
    | .imp c off => some (.imp c off, [])
    | .sl e xs => some (.sl e xs, [])
    | .nils e => some (.sl e [], [])
    | .ptr i off => match o i with
      | .box cs => (seqM (frz o n) cs).map fun r => (.imp r.1 off, (i, .fbox r.1) :: r.2)
      | .fbox cs => some (.imp cs off, [])
      | _ => none
    | .vsl i st len => match o i with
      | .vec e xs => if st + len ≤ xs.length then (seqM (seqM (frz o n)) xs).map fun r => (.sl e ((r.1.drop st).take len), (i, .fvec e r.1) :: r.2) else none
      | .fvec e xs => if st + len ≤ xs.length then some (.sl e ((xs.drop st).take len), []) else none
      | _ => none
    | .bsl i off len e => match o i with
      | .box cs => (seqM (frz o n) cs).bind fun r => (cut off (len * e) r.1).map fun c => (.sl e (chunks e len c), (i, .fbox r.1) :: r.2)
      | .fbox cs => (cut off (len * e) cs).map fun c => (.sl e (chunks e len c), [])
      | _ => none
    | .fn f caps => (seqM (frz o n) caps).map fun r => (.fn f r.1, r.2)
    | .iface t v => (frz o n v).map fun r => (.iface t r.1, r.2)
    | .agg cs => (seqM (frz o n) cs).map fun r => (.agg r.1, r.2)
    | .tup vs => (seqM (frz o n) vs).map fun r => (.tup r.1, r.2)
    | .ept _ _ _ | .own _ _ | .junk => none
/-- The depth to which values are followed. -/
def deep : Nat := 8
/-- Arguments: each as it is ('raw'), or standing still. -/
def frzArgs (o : Hp) : List V → List Bool → Option (List V × List (Nat × AObj))
  | [], _ => some ([], [])
  | a :: l, true :: m => (frzArgs o l m).map fun s => (a :: s.1, s.2)
  | a :: l, m => (frz o deep a).bind fun r => (frzArgs o l m.tail).map fun s => (r.1 :: s.1, r.2 ++ s.2)
/-- The objects that are looked at. -/
def looks (o : Hp) : Nat → V → List Nat
  | 0, _ => []
  | n + 1, v => match v with
    | .ptr i _ => i :: (match o i with | .box cs => cs.flatMap (looks o n) | _ => [])
    | .bsl i _ _ _ => i :: (match o i with | .box cs => cs.flatMap (looks o n) | _ => [])
    | .vsl i _ _ => i :: (match o i with | .vec _ xs => xs.flatMap fun l => l.flatMap (looks o n) | _ => [])
    | .fn _ caps => caps.flatMap (looks o n)
    | .iface _ v => looks o n v
    | .agg cs => cs.flatMap (looks o n)
    | .tup vs => vs.flatMap (looks o n)
    | _ => []
def looksArgs (o : Hp) : List V → List Bool → List Nat
  | [], _ => []
  | _ :: l, true :: m => looksArgs o l m
  | a :: l, m => looks o deep a ++ looksArgs o l m.tail
def refs : Nat → V → Option (List Nat)
  | 0, _ => none
  | n + 1, v => match v with
    | .ptr i _ | .ept i _ _ | .vsl i _ _ | .bsl i _ _ _ => some [i]
    | .fn _ caps => (seqM (fun v => (refs n v).map fun l => ((), l)) caps).map (·.2)
    | .agg cs => (seqM (fun v => (refs n v).map fun l => ((), l)) cs).map (·.2)
    | .tup cs => (seqM (fun v => (refs n v).map fun l => ((), l)) cs).map (·.2)
    | .iface _ v => refs n v
    | .own _ _ => none
    | _ => some []
def refsL (cs : List V) : Option (List Nat) := (seqM (fun v => (refs deep v).map fun l => ((), l)) cs).map (·.2)
def objRefs : AObj → Option (List Nat)
  | .dead => none
  | .box cs => refsL cs
  | .vec _ xs => if xs.all (·.all flat) then some [] else none
  | .fbox _ | .fvec _ _ => some []
/-- All objects that are led to. -/
def reach (o : Hp) : Nat → List Nat → List Nat → Option (List Nat)
  | 0, _, _ => none
  | n + 1, todo, acc => match todo with
    | [] => some acc
    | i :: r => if acc.contains i then reach o n r acc else (objRefs (o i)).bind fun l => reach o n (l ++ r) (i :: acc)
def rawRefs : List V → List Bool → Option (List Nat)
  | [], _ => some []
  | a :: l, true :: m => (refs deep a).bind fun r => (rawRefs l m).map (r ++ ·)
  | _ :: l, m => rawRefs l m.tail
def closedIn (o : Hp) (L : List Nat) : List Nat → Bool
  | [] => true
  | i :: r => (match objRefs (o i) with | some l => l.all (L.contains ·) | none => false) && closedIn o L r
def restrict (o : Hp) (L : List Nat) : Hp := fun i => if L.contains i then o i else .dead
/-- What a call hands back, and how objects turn: a row of the call's own is handed over; all else stands still. -/
def result (o : Hp) (N : Nat) (v : V) : Option (V × List (Nat × AObj)) :=
  match v with
  | .vsl i 0 len => match o i with
    | .vec e xs => if N ≤ i then
        if len ≤ xs.length then (seqM (seqM (frz o deep)) (xs.take len)).bind fun r => if (r.2.map (·.1)).contains i then none else some (.own e r.1, r.2 ++ [(i, .vec e r.1)])
        else none
      else frz o deep v
    | _ => frz o deep v
  | v => frz o deep v
/-- The caller's side: a row that is handed over stands still ('none'), or becomes an object of the caller's. -/
def thaw (id : Option Nat) : V → V × List (Nat × AObj)
  | .own e xs => match id with
    | none => (.sl e xs, [])
    | some i => (.vsl i 0 xs.length, [(i, .vec e xs)])
  | v => (v, [])
structure Act where
  val : V
  ups : List (Nat × AObj)
  rd : List Nat
  deriving Inhabited
def ok (v : V) : Option Act := some ⟨v, [], []⟩
def okV (v : Option V) : Option Act := v.map (⟨·, [], []⟩)
def fillParts (G : Nat → Option (List V)) (e : Env) : List (Nat × Nat × Arg) → List V → Option (List V)
  | [], cs => some cs
  | (off, n, x) :: r, cs =>
    let new := (evA G e x).cells
    if new.length = n ∧ okCells (evA G e x) = true then (splice off new cs).bind (fillParts G e r) else none
def fillElems (G : Nat → Option (List V)) (e : Env) (esz : Nat) : List (Nat × Arg) → List (List V) → Option (List (List V))
  | [], xs => some xs
  | (j, x) :: r, xs =>
    let new := (evA G e x).cells
    if new.length = esz ∧ j < xs.length ∧ okCells (evA G e x) = true then fillElems G e esz r (xs.set j new) else none
def bounds (lo hi len : Nat) : Option (Nat × Nat) := if lo ≤ hi ∧ hi ≤ len then some (lo, hi) else none
def sliceElems (o : Hp) (esz lo hi : Nat) : V → Option Act
  | .nils e => if e = esz ∧ lo = 0 ∧ hi = 0 then ok (.nils e) else none
  | .sl e xs => if e = esz ∧ lo ≤ hi ∧ hi ≤ xs.length then ok (.sl e ((xs.drop lo).take (hi - lo))) else none
  | .vsl i st len => (rdVec o i).bind fun ex => if ex.1 = esz ∧ lo ≤ hi ∧ hi ≤ len then some ⟨.vsl i (st + lo) (hi - lo), [], [i]⟩ else none
  | .bsl i off len e => if e = esz ∧ lo ≤ hi ∧ hi ≤ len then ok (.bsl i (off + lo * e) (hi - lo) e) else none
  | _ => none
def room (n ebytes : Nat) : Bool := decide (n * ebytes ≤ 17592186044416)
/-- append: the row that was, and what comes to it. -/
def appendTo (o : Hp) (id esz ebytes : Nat) (new : List (List V)) (rd : List Nat) : V → Option Act
  | .nils e => if e = esz ∧ room new.length ebytes then (if new.isEmpty then some ⟨.nils e, [], rd⟩ else some ⟨.vsl id 0 new.length, [(id, .vec esz new)], rd⟩) else none
  | .sl e xs => if new.isEmpty then some ⟨.sl e xs, [], rd⟩ else none
  | .vsl i st len => match o i with
    | .vec e xs => if e = esz ∧ st = 0 ∧ len ≤ xs.length ∧ room (len + new.length) ebytes ∧ !rd.contains i then
        some ⟨.vsl id 0 (len + new.length), [(i, .dead), (id, .vec esz (xs.take len ++ new))], rd⟩ else none
    | _ => none
  | _ => none
def lenB (n : Nat) : V := .int .i64 n
/-- The address of an element of a slice. -/
def idxL (o : Hp) (esz j : Nat) : V → Option Act
  | .sl s xs => if s = esz then (xs[j]?).bind fun c => ok (.imp c 0) else none
  | .vsl i st len => (rdVec o i).bind fun ex => if ex.1 = esz ∧ j < len then some ⟨.ept i (st + j) 0, [], [i]⟩ else none
  | .bsl i off len s => if s = esz ∧ j < len then ok (.ptr i (off + j * esz)) else none
  | _ => none
def stepI (G : Nat → Option (List V)) (e : Env) (o : Hp) (base : Nat) : I → Option Act
  | .mov x => ok (evA G e x)
  | .pick c a b => match evA G e c with
    | .bool t => ok (if t then evA G e a else evA G e b)
    | _ => none
  | .alloc k zero => some ⟨.ptr (base + k) 0, [(base + k, .box zero)], []⟩
  | .box k x => if okCells (evA G e x) then some ⟨.ptr (base + k) 0, [(base + k, .box (evA G e x).cells)], []⟩ else none
  | .build zero parts => okV ((fillParts G e parts zero).map .agg)
  | .lit k esz zero parts => (fillElems G e esz parts zero).map fun xs => ⟨.vsl (base + k) 0 xs.length, [(base + k, .vec esz xs)], []⟩
  | .ilit esz zero parts => okV (((fillElems G e esz parts zero).bind nrmLL).map (.sl esz))
  | .flit _ _ _ => none
  | .load agg a => (peek o (agg.getD 1) (evA G e a)).bind fun r => (aggOf agg r.1).map fun v => ⟨v, [], r.2⟩
  | .store n a x => if (evA G e x).cells.length = n ∧ okCells (evA G e x) = true then (poke o (evA G e x).cells (evA G e a)).map fun u => ⟨.junk, u, []⟩ else none
  | .nilCheck x => match evA G e x with
    | .ptr i off => ok (.ptr i off)
    | .ept i j off => ok (.ept i j off)
    | .imp c off => ok (.imp c off)
    | .fn f c => ok (.fn f c)
    | _ => none
  | .bin op x y => okV (binV op (evA G e x) (evA G e y))
  | .eqv neg ks x y => match evA G e x, evA G e y with
    | .agg a, .agg b => okV ((eqCells ks a b).map fun b => .bool (if neg then !b else b))
    | _, _ => none
  | .eqb neg x y => match evA G e x, evA G e y with
    | .bool a, .bool b => ok (.bool (if neg then !(a == b) else (a == b)))
    | _, _ => none
  | .eqp neg x y => okV ((eqP (evA G e x) (evA G e y)).map fun b => .bool (if neg then !b else b))
  | .un op x => okV (unV op (evA G e x))
  | .convInt k x => match evA G e x with
    | .int _ n => ok (.int k (k.wrap n))
    | _ => none
  | .convStr x => if isStrV (evA G e x) then none else (elemsOf o 1 (evA G e x)).bind fun r => (bytesOf r.1).map fun s => ⟨.str s, [], r.2⟩
  | .convBytes x => match evA G e x with
    | .str s => ok (.sl 1 (bytesV s))
    | _ => none
  | .convSl x => match evA G e x with
    | .vsl i st len => match o i with
      | .vec s xs => if 0 < len then some ⟨.vsl i st len, [(i, .vec s xs)], []⟩ else none
      | _ => none
    | _ => none
  | .arrPtr n x => match evA G e x with
    | .bsl i off len _ => if 0 < n ∧ n ≤ len then ok (.ptr i off) else none
    | _ => none
  | .mkIface t x => ok (.iface t (evA G e x))
  | .mkFn f caps => ok (.fn f (caps.map (evA G e)))
  | .sliceS x lo hi => match evA G e x with
    | .str s => (optN G e 0 lo).bind fun l => (optN G e s.length hi).bind fun h =>
        if l ≤ h ∧ h ≤ s.length then ok (.str ((s.drop l).take (h - l))) else none
    | _ => none
  | .sliceL esz x lo hi => (lenOf (evA G e x)).bind fun n => (optN G e 0 lo).bind fun l => (optN G e n hi).bind fun h => sliceElems o esz l h (evA G e x)
  | .sliceA n esz x lo hi => match evA G e x with
    | .ptr i off => (optN G e 0 lo).bind fun l => (optN G e n hi).bind fun h =>
        if l ≤ h ∧ h ≤ n then ok (.bsl i (off + l * esz) (h - l) esz) else none
    | _ => none
  | .fieldAddr off x => match evA G e x with
    | .ptr i a => ok (.ptr i (a + off))
    | .ept i j a => ok (.ept i j (a + off))
    | .imp c a => ok (.imp c (a + off))
    | _ => none
  | .field off agg x => match evA G e x with
    | .agg cs => okV ((cut off (agg.getD 1) cs).bind (aggOf agg))
    | _ => none
  | .indexAddrA n esz x i => (asN (evA G e i)).bind fun j => if j < n then (match evA G e x with
    | .ptr i a => ok (.ptr i (a + j * esz))
    | .ept i k a => ok (.ept i k (a + j * esz))
    | .imp c a => ok (.imp c (a + j * esz))
    | _ => none) else none
  | .indexAddrL esz x i => (asN (evA G e i)).bind fun j => idxL o esz j (evA G e x)
  | .indexS x i => (asN (evA G e i)).bind fun j => match evA G e x with
    | .str s => (s[j]?).bind fun b => ok (.int .u8 b.toNat)
    | _ => none
  | .indexA n esz agg x i => (asN (evA G e i)).bind fun j => match evA G e x with
    | .agg cs => if j < n then okV ((cut (j * esz) esz cs).bind (aggOf (if agg then some esz else none))) else none
    | _ => none
  | .append k esz ebytes s x => (elemsOf o esz (evA G e x)).bind fun r => appendTo o (base + k) esz ebytes r.1 r.2 (evA G e s)
  | .appendZ k esz ebytes zero s n => (asN (evA G e n)).bind fun m => if room m ebytes then appendTo o (base + k) esz ebytes (List.replicate m zero) [] (evA G e s) else none
  | .copy esz d s => (elemsOf o esz (evA G e s)).bind fun r => match evA G e d with
    | .bsl i off len t => if t = esz ∧ !r.2.contains i then (match o i with
      | .box cs => (splice off (r.1.take len).flatten cs).map fun c => ⟨lenB (min r.1.length len), [(i, .box c)], r.2⟩
      | _ => none) else none
    | _ => none
  | .len x => okV ((lenOf (evA G e x)).map lenB)
  | .lenS x => match evA G e x with
    | .str s => ok (lenB s.length)
    | _ => none
  | .lenA n => ok (lenB n)
  | .cap0 x => match evA G e x with
    | .nils _ => ok (lenB 0)
    | _ => none
  | .mmax xs => match xs.map (evA G e) with | a :: r => okV (foldV maxI a r) | [] => none
  | .mmin xs => match xs.map (evA G e) with | a :: r => okV (foldV minI a r) | [] => none
  | .make k esz ebytes zero len cap => (asN (evA G e len)).bind fun n => (asN (evA G e cap)).bind fun c =>
      if n ≤ c ∧ room c ebytes then some ⟨.vsl (base + k) 0 n, [(base + k, .vec esz (List.replicate n zero))], []⟩ else none
  | .extract x i => match evA G e x with
    | .tup vs => okV (vs[i]?)
    | _ => none
  | .call _ _ _ _ => none
  | .panic _ => none
inductive Out where
  | ret (v : V) (o : Hp)
  | panic (v : V)
abbrev CallFn := Nat → List V → Hp → Nat → Option Out
/-- What one operation did. -/
structure Fp where
  rd : List Nat
  wr : List Nat
  deriving Inhabited
inductive Did where
  | act (val : V) (ups : List (Nat × AObj)) (fp : Fp)
  | panic (v : V)
def ids (u : List (Nat × AObj)) : List Nat := u.map (·.1)
def notRef (L : List Nat) (u : List (Nat × AObj)) : Bool := u.all fun x => !L.contains x.1
/-- A call: arguments that stand still, objects that are handed on by address, what comes back. -/
def doCall (cf : CallFn) (o : Hp) (base cx : Nat) (f : V) (args : List V) (raw : List Bool) (own : Option Nat) : Option Did :=
  match f with
  | .fn g caps =>
    let all := args ++ caps
    (rawRefs all raw).bind fun r0 => (reach o 64 r0 []).bind fun L => (frzArgs o all raw).bind fun fa =>
      if notRef L fa.2 then
        match (if L.isEmpty then cf g fa.1 (fun _ => .dead) 0 else cf g fa.1 (restrict o L) cx) with
        | some (.ret v o') =>
          let t := thaw (own.map (base + ·)) v
          if closedIn o' L L then
            let keep := if L.isEmpty && scalar v then [] else fa.2
            some (.act t.1 (L.map (fun i => (i, o' i)) ++ keep ++ t.2) ⟨looksArgs o all raw, L ++ ids keep ++ ids t.2⟩)
          else none
        | some (.panic v) => some (.panic v)
        | none => none
      else none
  | _ => none
/-- A literal whose elements stand still from now on, with all that they lead to. -/
def doFlit (o : Hp) (esz : Nat) (xs : Option (List (List V))) : Option Did :=
  xs.bind fun xs => (seqM (seqM (frz o deep)) xs).map fun r => .act (.sl esz r.1) r.2 ⟨xs.flatMap fun l => l.flatMap (looks o deep), ids r.2⟩
def doOp (G : Nat → Option (List V)) (cf : CallFn) (base cx : Nat) (e : Env) (o : Hp) : I → Option Did
  | .flit esz zero parts => doFlit o esz (fillElems G e esz parts zero)
  | .call f args raw own => doCall cf o base cx (evA G e f) (args.map (evA G e)) raw own
  | .panic x => match evA G e x with
    | .iface t v => match v with
      | .int k n => some (.panic (.iface t (.int k n)))
      | .str s => some (.panic (.iface t (.str s)))
      | _ => none
    | _ => none
  | i => (stepI G e o base i).map fun a => .act a.val a.ups ⟨a.rd, ids a.ups⟩
inductive RR where
  | ok (e : Env) (o : Hp) (fps : List Fp)
  | panic (v : V) (fps : List Fp)
def wantedV (e : Env) : Option (Nat × Bool) → Option Bool
  | none => some true
  | some (t, b) => match e t with
    | .bool c => some (c == b)
    | .tup _ => some false
    | _ => none
def runOps (G : Nat → Option (List V)) (cf : CallFn) (base cx : Nat) : List Op' → Env → Hp → List Fp → Option RR
  | [], e, o, fps => some (.ok e o fps.reverse)
  | p :: r, e, o, fps =>
    match wantedV e p.guard with
    | some true =>
      match doOp G cf base cx e o p.i with
      | some (.act v u fp) => runOps G cf base cx r (eputO e p.dst v) (hputs o u) (fp :: fps)
      | some (.panic v) => some (.panic v fps.reverse)
      | none => none
    | some false => runOps G cf base cx r (eputO e p.dst (.tup [])) o (⟨[], []⟩ :: fps)
    | none => none
def apart (a b : List Nat) : Bool := a.all fun i => !b.contains i
def fpsApart (a b : Fp) : Bool := apart a.wr b.wr && apart a.wr b.rd && apart b.wr a.rd
def checkPairs (fps : List Fp) : List (Nat × Nat) → Bool
  | [] => true
  | (i, j) :: r => fpsApart (fps.getD i ⟨[], []⟩) (fps.getD j ⟨[], []⟩) && checkPairs fps r
structure St where
  e : Env
  o : Hp
  N : Nat
inductive Ex where
  | normal
  | exit (id : Nat)
  | ret
  | panic (v : V)
def drawOK : Option (List (Nat × Nat) × List Nat) → List Fp → Bool
  | none, _ => true
  | some l, fps => checkPairs fps l.1
def drawPan : Option (List (Nat × Nat) × List Nat) → List Fp → Bool
  | none, _ => true
  | some l, fps => checkPairs fps l.1 && l.2.contains fps.length
def runRegion (G : Nat → Option (List V)) (cf : CallFn) (draw : Option (List (Nat × Nat) × List Nat)) (nalloc : Nat) (ops : List Op') (s : St) : Option (Ex × St) :=
  match runOps G cf s.N (s.N + nalloc) ops s.e s.o [] with
  | some (.ok e o fps) => if drawOK draw fps then some (.normal, ⟨e, o, s.N + nalloc⟩) else none
  | some (.panic v fps) => if drawPan draw fps then some (.panic v, s) else none
  | none => none
def iter (body : St → Option (Ex × St)) : Nat → St → Option (Ex × St)
  | 0, _ => none
  | n + 1, s => match body s with
    | some (.normal, s') => iter body n s'
    | r => r
def exec (G : Nat → Option (List V)) (cf : CallFn) (n : Nat) : MC → St → Option (Ex × St)
  | .skip, s => some (.normal, s)
  | .region d k ops, s => runRegion G cf d k ops s
  | .seq a b, s => match exec G cf n a s with
    | some (.normal, s') => exec G cf n b s'
    | r => r
  | .cond c a b, s => match evA G s.e c with
    | .bool true => exec G cf n a s
    | .bool false => exec G cf n b s
    | _ => none
  | .block id a, s => match exec G cf n a s with
    | some (.exit j, s') => if j = id then some (.normal, s') else some (.exit j, s')
    | r => r
  | .loop a, s => iter (exec G cf n a) n s
  | .exit id, s => some (.exit id, s)
  | .scope a, s => exec G cf n a s
  | .ret, s => some (.ret, s)
def initEnv (args : List V) : Env := fun s => args.getD s .junk
def resOf (o : Hp) (e : Env) : Res → Option V
  | .tmp t => some (e t)
  | .cell t agg => (peek o (agg.getD 1) (e t)).bind fun r => aggOf agg r.1
def resAll (o : Hp) (e : Env) : List Res → Option (List V)
  | [] => some []
  | r :: l => (resOf o e r).bind fun v => (resAll o e l).map (v :: ·)
def resV : List V → V
  | [v] => v
  | l => .tup l
def finish (m : MF) (N : Nat) (s : St) : Option Out :=
  (resAll s.o s.e m.res).bind fun vs => (result s.o N (resV vs)).map fun r => .ret r.1 (hputs s.o r.2)
def callF (G : Nat → Option (List V)) (T : Nat → Option MF) (E : Nat → Option (CallFn → List V → Hp → Nat → Option Out)) : Nat → CallFn
  | 0 => fun _ _ _ _ => none
  | n + 1 => fun f args o N =>
    match E f with
    | some x => x (callF G T E n) args o N
    | none => match T f with
      | none => none
      | some m => if args.length = m.np then
          match exec G (callF G T E n) n m.body ⟨initEnv args, o, N⟩ with
          | some (.normal, s) => finish m N s
          | some (.ret, s) => finish m N s
          | some (.panic v, _) => some (.panic v)
          | _ => none
        else none
end Go.Proofs.Ytoccgkgdhobmfaa.Am
set_option linter.unusedVariables false
set_option linter.unusedSimpArgs false
namespace Go.Proofs.Ytoccgkgdhobmfaa.Am
open Go
abbrev Mem := Nat → Option Obj
structure Blk where
  b : Nat
  size : Nat
  esz : Nat
abbrev Names := Nat → Option Blk
def cellAt (M : Mem) (b off : Nat) : Option Value :=
  match M b with
  | some (.cells c _ _) => c[off]?
  | _ => none
theorem cellAt_mono {M M' : Mem} (h : ∀ b x, M b = some x → M' b = some x) {b off : Nat} {v : Value} (hc : cellAt M b off = some v) : cellAt M' b off = some v := by
  unfold cellAt at *
  cases hb : M b with
  | none => simp [hb] at hc
  | some x => rw [h b x hb]; simpa [hb] using hc
/-- A value that names no object of the call's own, and the model's value; 'M': the blocks that stand still. -/
inductive PRel (M : Mem) : V → Value → Prop
  | junk (x : Value) : PRel M .junk x
  | int (k : IntKind) (n : Int) : PRel M (.int k n) (.int k n)
  | bool (b : Bool) : PRel M (.bool b) (.bool b)
  | str (s : List UInt8) : PRel M (.str s) (.string ⟨s.toArray⟩)
  | nilp : PRel M .nilp (.pointer none)
  | nils (e : Nat) : PRel M (.nils e) (.slice none 0 0)
  | nilf : PRel M .nilf .nilFunc
  | nili : PRel M .nili .nilIface
  | imp (cells : List V) (off b base : Nat) (x : Nat → Value)
      (hc : ∀ (j : Nat) (v : V), cells[j]? = some v → cellAt M b (base + j) = some (x j))
      (ho : ∀ (j : Nat) (v : V), cells[j]? = some v → (x j).oneCell' = true)
      (hr : ∀ (j : Nat) (v : V), cells[j]? = some v → PRel M v (x j)) : PRel M (.imp cells off) (.pointer (some ⟨b, base + off, none⟩))
  | sl (e : Nat) (xs : List (List V)) (a : Option Addr) (cap b off : Nat) (x : Nat → Nat → Value)
      (hcap : xs.length ≤ cap)
      (ha : xs ≠ [] → a = some ⟨b, off, none⟩)
      (he : ∀ (i : Nat) (c : List V), xs[i]? = some c → c.length = e)
      (hc : ∀ (i : Nat) (c : List V) (j : Nat) (v : V), xs[i]? = some c → c[j]? = some v → cellAt M b (off + (i * e + j)) = some (x i j))
      (ho : ∀ (i : Nat) (c : List V) (j : Nat) (v : V), xs[i]? = some c → c[j]? = some v → (x i j).oneCell' = true)
      (hr : ∀ (i : Nat) (c : List V) (j : Nat) (v : V), xs[i]? = some c → c[j]? = some v → PRel M v (x i j)) : PRel M (.sl e xs) (.slice a xs.length cap)
  | fn (f : Nat) (caps : List V) (xs : Array Value) (hl : xs.size = caps.length)
      (hr : ∀ (j : Nat) (v : V), caps[j]? = some v → PRel M v (xs.getD j undef)) : PRel M (.fn f caps) (.func (.func f) #[] xs)
  | iface (t : Nat) (v : V) (x : Value) (hr : PRel M v x) : PRel M (.iface t v) (.iface t x)
  | agg (cells : List V) (xs : Array Value) (hl : xs.size = cells.length)
      (ho : ∀ (j : Nat) (v : V), cells[j]? = some v → (xs.getD j undef).oneCell' = true)
      (hr : ∀ (j : Nat) (v : V), cells[j]? = some v → PRel M v (xs.getD j undef)) : PRel M (.agg cells) (.agg xs)
  | tup (vs : List V) (xs : Array Value) (hl : xs.size = vs.length)
      (hr : ∀ (j : Nat) (v : V), vs[j]? = some v → PRel M v (xs.getD j undef)) : PRel M (.tup vs) (.tuple xs)
theorem PRel.mono {M M' : Mem} (h : ∀ b x, M b = some x → M' b = some x) {v : V} {x : Value} (hv : PRel M v x) : PRel M' v x := by
  induction hv with
  | junk x => exact .junk x
  | int k n => exact .int k n
  | bool b => exact .bool b
  | str s => exact .str s
  | nilp => exact .nilp
  | nils e => exact .nils e
  | nilf => exact .nilf
  | nili => exact .nili
  | imp cells off b base x hc ho hr ih => exact .imp cells off b base x (fun j v hj => cellAt_mono h (hc j v hj)) ho ih
  | sl e xs a cap b off x hcap ha he hc ho hr ih => exact .sl e xs a cap b off x hcap ha he (fun i c j v hi hj => cellAt_mono h (hc i c j v hi hj)) ho ih
  | fn f caps xs hl hr ih => exact .fn f caps xs hl ih
  | iface t v x hr ih => exact .iface t v x ih
  | agg cells xs hl ho hr ih => exact .agg cells xs hl ho ih
  | tup vs xs hl hr ih => exact .tup vs xs hl ih
/-- The same where objects of the call's own are named. -/
inductive Rel (M : Mem) (β : Names) : V → Value → Prop
  | pure {v : V} {x : Value} (h : PRel M v x) : Rel M β v x
  | ptr (i off : Nat) (k : Blk) (h : β i = some k) : Rel M β (.ptr i off) (.pointer (some ⟨k.b, off, none⟩))
  | ept (i j off : Nat) (k : Blk) (h : β i = some k) : Rel M β (.ept i j off) (.pointer (some ⟨k.b, j * k.esz + off, none⟩))
  | vsl (i st len cap : Nat) (k : Blk) (h : β i = some k) (hl : len ≤ cap) (hs : st * k.esz + cap * k.esz ≤ k.size) :
      Rel M β (.vsl i st len) (.slice (some ⟨k.b, st * k.esz, none⟩) len cap)
  | vslE (i st cap : Nat) (a : Option Addr) (h : st ≠ 0) : Rel M β (.vsl i st 0) (.slice a 0 cap)
  | bsl (i off len e cap : Nat) (k : Blk) (h : β i = some k) (hl : len ≤ cap) : Rel M β (.bsl i off len e) (.slice (some ⟨k.b, off, none⟩) len cap)
  | bslE (i off e cap : Nat) (a : Option Addr) : Rel M β (.bsl i off 0 e) (.slice a 0 cap)
  | fn (f : Nat) (caps : List V) (xs : Array Value) (hl : xs.size = caps.length)
      (hr : ∀ (j : Nat) (v : V), caps[j]? = some v → Rel M β v (xs.getD j undef)) : Rel M β (.fn f caps) (.func (.func f) #[] xs)
  | iface (t : Nat) (v : V) (x : Value) (hr : Rel M β v x) : Rel M β (.iface t v) (.iface t x)
  | agg (cells : List V) (xs : Array Value) (hl : xs.size = cells.length)
      (ho : ∀ (j : Nat) (v : V), cells[j]? = some v → (xs.getD j undef).oneCell' = true)
      (hr : ∀ (j : Nat) (v : V), cells[j]? = some v → Rel M β v (xs.getD j undef)) : Rel M β (.agg cells) (.agg xs)
  | tup (vs : List V) (xs : Array Value) (hl : xs.size = vs.length)
      (hr : ∀ (j : Nat) (v : V), vs[j]? = some v → Rel M β v (xs.getD j undef)) : Rel M β (.tup vs) (.tuple xs)
theorem Rel.mono {M M' : Mem} {β β' : Names} (h : ∀ b x, M b = some x → M' b = some x) (hβ : ∀ i k, β i = some k → β' i = some k)
    {v : V} {x : Value} (hv : Rel M β v x) : Rel M' β' v x := by
  induction hv with
  | pure hp => exact .pure (hp.mono h)
  | ptr i off k hk => exact .ptr i off k (hβ i k hk)
  | ept i j off k hk => exact .ept i j off k (hβ i k hk)
  | vsl i st len cap k hk hl hs => exact .vsl i st len cap k (hβ i k hk) hl hs
  | vslE i st cap a hs => exact .vslE i st cap a hs
  | bsl i off len e cap k hk hl => exact .bsl i off len e cap k (hβ i k hk) hl
  | bslE i off e cap a => exact .bslE i off e cap a
  | fn f caps xs hl hr ih => exact .fn f caps xs hl ih
  | iface t v x hr ih => exact .iface t v x ih
  | agg cells xs hl ho hr ih => exact .agg cells xs hl ho ih
  | tup vs xs hl hr ih => exact .tup vs xs hl ih
section inv
variable {M : Mem} {β : Names} {x : Value}
theorem Rel.int_inv {k n} (h : Rel M β (.int k n) x) : x = .int k n := by
  cases h with | pure h => cases h; rfl
theorem Rel.bool_inv {b} (h : Rel M β (.bool b) x) : x = .bool b := by
  cases h with | pure h => cases h; rfl
theorem Rel.str_inv {s} (h : Rel M β (.str s) x) : x = .string ⟨s.toArray⟩ := by
  cases h with | pure h => cases h; rfl
theorem Rel.nilp_inv (h : Rel M β .nilp x) : x = .pointer none := by
  cases h with | pure h => cases h; rfl
theorem Rel.nils_inv {e} (h : Rel M β (.nils e) x) : x = .slice none 0 0 := by
  cases h with | pure h => cases h; rfl
theorem Rel.nilf_inv (h : Rel M β .nilf x) : x = .nilFunc := by
  cases h with | pure h => cases h; rfl
theorem Rel.nili_inv (h : Rel M β .nili x) : x = .nilIface := by
  cases h with | pure h => cases h; rfl
theorem Rel.ptr_inv {i off} (h : Rel M β (.ptr i off) x) : ∃ k, β i = some k ∧ x = .pointer (some ⟨k.b, off, none⟩) := by
  cases h with
  | pure h => cases h
  | ptr _ _ k hk => exact ⟨k, hk, rfl⟩
theorem Rel.ept_inv {i j off} (h : Rel M β (.ept i j off) x) : ∃ k, β i = some k ∧ x = .pointer (some ⟨k.b, j * k.esz + off, none⟩) := by
  cases h with
  | pure h => cases h
  | ept _ _ _ k hk => exact ⟨k, hk, rfl⟩
theorem Rel.imp_inv {cells off} (h : Rel M β (.imp cells off) x) : PRel M (.imp cells off) x := by
  cases h with | pure h => exact h
theorem Rel.sl_inv {e xs} (h : Rel M β (.sl e xs) x) : PRel M (.sl e xs) x := by
  cases h with | pure h => exact h
theorem Rel.agg_inv {cs} (h : Rel M β (.agg cs) x) : ∃ xs, x = .agg xs ∧ xs.size = cs.length ∧ (∀ j v, cs[j]? = some v → (xs.getD j undef).oneCell' = true) ∧
    ∀ j v, cs[j]? = some v → Rel M β v (xs.getD j undef) := by
  cases h with
  | pure h => cases h with | agg _ xs hl ho hr => exact ⟨xs, rfl, hl, ho, fun j v hj => .pure (hr j v hj)⟩
  | agg _ xs hl ho hr => exact ⟨xs, rfl, hl, ho, hr⟩
theorem Rel.tup_inv {cs} (h : Rel M β (.tup cs) x) : ∃ xs, x = .tuple xs ∧ xs.size = cs.length ∧ ∀ j v, cs[j]? = some v → Rel M β v (xs.getD j undef) := by
  cases h with
  | pure h => cases h with | tup _ xs hl hr => exact ⟨xs, rfl, hl, fun j v hj => .pure (hr j v hj)⟩
  | tup _ xs hl hr => exact ⟨xs, rfl, hl, hr⟩
theorem Rel.fn_inv {f cs} (h : Rel M β (.fn f cs) x) : ∃ xs, x = .func (.func f) #[] xs ∧ xs.size = cs.length ∧ ∀ j v, cs[j]? = some v → Rel M β v (xs.getD j undef) := by
  cases h with
  | pure h => cases h with | fn _ _ xs hl hr => exact ⟨xs, rfl, hl, fun j v hj => .pure (hr j v hj)⟩
  | fn _ _ xs hl hr => exact ⟨xs, rfl, hl, hr⟩
theorem Rel.iface_inv {t v} (h : Rel M β (.iface t v) x) : ∃ y, x = .iface t y ∧ Rel M β v y := by
  cases h with
  | pure h => cases h with | iface _ _ y hr => exact ⟨y, rfl, .pure hr⟩
  | iface _ _ y hr => exact ⟨y, rfl, hr⟩
theorem Rel.own_inv {e xs} (h : Rel M β (.own e xs) x) : False := by
  cases h with | pure h => cases h
theorem PRel.agg_inv {cs} (h : PRel M (.agg cs) x) : ∃ xs, x = .agg xs ∧ xs.size = cs.length ∧ (∀ j v, cs[j]? = some v → (xs.getD j undef).oneCell' = true) ∧
    ∀ j v, cs[j]? = some v → PRel M v (xs.getD j undef) := by
  cases h with | agg _ xs hl ho hr => exact ⟨xs, rfl, hl, ho, hr⟩
/-- A value of one cell stands for one. -/
theorem Rel.one {v : V} (h : Rel M β v x) (hv : cellV v = true) : x.oneCell' = true := by
  cases h with
  | pure h => cases h <;> first | rfl | simp [cellV] at hv
  | agg _ _ _ _ _ => simp [cellV] at hv
  | tup _ _ _ _ => simp [cellV] at hv
  | _ => rfl
end inv
/-- Cell by cell. -/
def RelL (M : Mem) (β : Names) (cs : List V) (xs : List Value) : Prop :=
  cs.length = xs.length ∧ (∀ (j : Nat) (v : V) (x : Value), cs[j]? = some v → xs[j]? = some x → Rel M β v x) ∧ ∀ x ∈ xs, x.oneCell' = true
theorem cells_of_one {x : Value} (h : x.oneCell' = true) : x.cells = #[x] := by cases x <;> simp_all [Value.oneCell', Value.cells]
theorem getD_of_getElem? {α} {xs : Array α} {j : Nat} {x d : α} (h : xs[j]? = some x) : xs.getD j d = x := by
  simp [Array.getD_eq_getD_getElem?, h]
theorem Rel.cells {M : Mem} {β : Names} {v : V} {x : Value} (h : Rel M β v x) (hv : okCells v = true) : RelL M β v.cells x.cells.toList := by
  have scal : cellV v = true → RelL M β v.cells x.cells.toList := by
    intro hc
    have hx := h.one hc
    rw [cells_of_one hx]
    have hvc : v.cells = [v] := by cases v <;> simp_all [cellV, V.cells]
    rw [hvc]
    refine ⟨rfl, ?_, by simpa using hx⟩
    intro j w y hj hy
    cases j with
    | zero => simp at hj hy; subst hj; subst hy; exact h
    | succ j => simp at hj
  cases v with
  | agg cs =>
    obtain ⟨xs, rfl, hl, ho, hr⟩ := h.agg_inv
    refine ⟨by simp [V.cells, Value.cells, hl], ?_, ?_⟩
    · intro j v x hj hx
      simp only [Value.cells, Array.getElem?_toList] at hx
      have := hr j v hj
      rwa [getD_of_getElem? hx] at this
    · intro x hx
      obtain ⟨j, hj⟩ := List.getElem?_of_mem hx
      simp only [Value.cells, Array.getElem?_toList] at hj
      have hlt : j < xs.size := (Array.getElem?_eq_some_iff.1 hj).1
      have hcs : ∃ v, cs[j]? = some v := ⟨cs[j]'(by omega), List.getElem?_eq_getElem (by omega)⟩
      obtain ⟨v, hv'⟩ := hcs
      have := ho j v hv'
      rwa [getD_of_getElem? hj] at this
  | _ => exact scal hv
theorem RelL.mono {M M' : Mem} {β β' : Names} (h : ∀ b x, M b = some x → M' b = some x) (hβ : ∀ i k, β i = some k → β' i = some k)
    {cs : List V} {xs : List Value} (hv : RelL M β cs xs) : RelL M' β' cs xs :=
  ⟨hv.1, fun j v x hj hx => (hv.2.1 j v x hj hx).mono h hβ, hv.2.2⟩
theorem RelL.agg {M : Mem} {β : Names} {cs : List V} {xs : List Value} (h : RelL M β cs xs) : Rel M β (.agg cs) (.agg xs.toArray) := by
  refine .agg cs _ (by simp [h.1]) ?_ ?_
  · intro j v hj
    have hlt : j < xs.length := by rw [← h.1]; exact (List.getElem?_eq_some_iff.1 hj).1
    have hx : xs.toArray[j]? = some xs[j] := by simp [hlt]
    rw [getD_of_getElem? hx]; exact h.2.2 _ (List.getElem_mem _)
  · intro j v hj
    have hlt : j < xs.length := by rw [← h.1]; exact (List.getElem?_eq_some_iff.1 hj).1
    have hx : xs.toArray[j]? = some xs[j] := by simp [hlt]
    rw [getD_of_getElem? hx]; exact h.2.1 j v _ hj (by simp [hlt])
theorem RelL.take {M : Mem} {β : Names} {cs : List V} {xs : List Value} (h : RelL M β cs xs) (n : Nat) : RelL M β (cs.take n) (xs.take n) := by
  refine ⟨by simp [h.1], ?_, fun x hx => h.2.2 x (List.mem_of_mem_take hx)⟩
  intro j v x hj hx
  rw [List.getElem?_take] at hj hx
  split at hj
  · rename_i hlt; simp [hlt] at hx; exact h.2.1 j v x hj hx
  · cases hj
theorem RelL.drop {M : Mem} {β : Names} {cs : List V} {xs : List Value} (h : RelL M β cs xs) (n : Nat) : RelL M β (cs.drop n) (xs.drop n) := by
  refine ⟨by simp [h.1], ?_, fun x hx => h.2.2 x (List.mem_of_mem_drop hx)⟩
  intro j v x hj hx
  rw [List.getElem?_drop] at hj hx
  exact h.2.1 _ v x hj hx
theorem RelL.append {M : Mem} {β : Names} {cs ds : List V} {xs ys : List Value} (h : RelL M β cs xs) (k : RelL M β ds ys) : RelL M β (cs ++ ds) (xs ++ ys) := by
  refine ⟨by simp [h.1, k.1], ?_, fun x hx => (List.mem_append.1 hx).elim (h.2.2 x) (k.2.2 x)⟩
  intro j v x hj hx
  rw [List.getElem?_append] at hj hx
  rw [← h.1] at hx
  split at hj
  · rename_i hlt; simp [hlt] at hx; exact h.2.1 j v x hj hx
  · rename_i hlt; simp [hlt] at hx; exact k.2.1 _ v x hj hx
theorem RelL.nil {M : Mem} {β : Names} : RelL M β [] [] := ⟨rfl, by simp, by simp⟩
end Go.Proofs.Ytoccgkgdhobmfaa.Am
set_option linter.unusedVariables false
set_option linter.unusedSimpArgs false
namespace Go.Proofs.Ytoccgkgdhobmfaa.Am
open Go
def Clear (c : Array Value) (fr : Nat × Nat) : Prop := fr.1 = fr.2 ∨ c.size ≤ fr.1
/-- A block holds these cells first. -/
def BoxAt (ob : Option Obj) (size : Nat) (R : V → Value → Prop) (cs : List V) : Prop :=
  ∃ c ty fr, ob = some (.cells c ty fr) ∧ Clear c fr ∧ c.size = size ∧ cs.length ≤ c.size ∧
    ∀ (j : Nat) (v : V), cs[j]? = some v → ∃ x, c[j]? = some x ∧ x.oneCell' = true ∧ R v x
theorem BoxAt.mono {ob ob' : Option Obj} {size : Nat} {R R' : V → Value → Prop} {cs : List V} (h : BoxAt ob size R cs) (ho : ∀ x, ob = some x → ob' = some x)
    (hR : ∀ v x, R v x → R' v x) : BoxAt ob' size R' cs := by
  obtain ⟨c, ty, fr, hb, hc, hs, hl, hr⟩ := h
  exact ⟨c, ty, fr, ho _ hb, hc, hs, hl, fun j v hj => let ⟨x, a, b, d⟩ := hr j v hj; ⟨x, a, b, hR _ _ d⟩⟩
def wrt : AObj → Bool
  | .box _ | .vec _ _ => true
  | _ => false
def Holds (M : Mem) (β : Names) (Wr : Nat → Prop) (w : World) (k : Blk) : AObj → Prop
  | .dead => True
  | .box cs => Wr k.b ∧ M k.b = none ∧ BoxAt w.heap[k.b]? k.size (Rel M β) cs
  | .vec e xs => Wr k.b ∧ M k.b = none ∧ k.esz = e ∧ (∀ l ∈ xs, l.length = e) ∧ BoxAt w.heap[k.b]? k.size (Rel M β) xs.flatten
  | .fbox cs => BoxAt (M k.b) k.size (PRel M) cs
  | .fvec e xs => k.esz = e ∧ (∀ l ∈ xs, l.length = e) ∧ BoxAt (M k.b) k.size (PRel M) xs.flatten
structure SR (M : Mem) (β : Names) (N : Nat) (Wr : Nat → Prop) (o : Hp) (w : World) : Prop where
  sub : ∀ b x, M b = some x → w.heap[b]? = some x
  bnd : ∀ i k, β i = some k → i < N
  live : ∀ i, o i ≠ .dead → ∃ k, β i = some k ∧ Holds M β Wr w k (o i)
  inj : ∀ i j ki kj, wrt (o i) = true → wrt (o j) = true → β i = some ki → β j = some kj → ki.b = kj.b → i = j
/-- Of what was there when the call began only the blocks of 'Lb' may have turned. -/
structure Kp (Lb : Nat → Prop) (w w' : World) : Prop where
  os : w'.os = w.os
  tape : w'.tape = w.tape
  output : w'.output = w.output
  size : w.heap.size ≤ w'.heap.size
  block : ∀ b, b < w.heap.size → ¬ Lb b → w'.heap[b]? = w.heap[b]?
theorem Kp.refl (Lb : Nat → Prop) (w : World) : Kp Lb w w := ⟨rfl, rfl, rfl, Nat.le_refl _, fun _ _ _ => rfl⟩
theorem Kp.trans {Lb : Nat → Prop} {a b c : World} (h : Kp Lb a b) (k : Kp (fun x => a.heap.size ≤ x ∨ Lb x) b c) : Kp Lb a c :=
  ⟨k.os.trans h.os, k.tape.trans h.tape, k.output.trans h.output, Nat.le_trans h.size k.size, fun i hi hn =>
    (k.block i (Nat.lt_of_lt_of_le hi h.size) (fun hh => hh.elim (fun h1 => by omega) hn)).trans (h.block i hi hn)⟩
theorem Kp.mono {Lb Lb' : Nat → Prop} {a b : World} (h : Kp Lb a b) (hl : ∀ x, Lb x → Lb' x) : Kp Lb' a b :=
  ⟨h.os, h.tape, h.output, h.size, fun i hi hn => h.block i hi (fun hh => hn (hl i hh))⟩
def wset (w : World) (b : Nat) (ob : Obj) : World := { w with heap := w.heap.setIfInBounds b ob }
theorem heap_alloc_lt (w : World) (ob : Obj) (b : Nat) (h : b < w.heap.size) : (w.alloc ob).heap[b]? = w.heap[b]? := by
  show (w.heap.push ob)[b]? = _
  rw [Array.getElem?_push, if_neg (by omega)]
theorem heap_alloc_eq (w : World) (ob : Obj) : (w.alloc ob).heap[w.heap.size]? = some ob := by
  show (w.heap.push ob)[w.heap.size]? = _
  simp
theorem heap_wset_eq (w : World) (b : Nat) (ob : Obj) (h : b < w.heap.size) : (wset w b ob).heap[b]? = some ob := by
  simp [wset, Array.getElem?_setIfInBounds, h]
theorem heap_wset_ne (w : World) (b b' : Nat) (ob : Obj) (h : b' ≠ b) : (wset w b ob).heap[b']? = w.heap[b']? := by
  simp only [wset, Array.getElem?_setIfInBounds]
  rw [if_neg (fun e => h e.symm)]
theorem lt_of_some {α} {xs : Array α} {b : Nat} {x : α} (h : xs[b]? = some x) : b < xs.size := (Array.getElem?_eq_some_iff.1 h).1
theorem Kp.alloc {Lb : Nat → Prop} {w0 w : World} (h : Kp Lb w0 w) (ob : Obj) : Kp Lb w0 (w.alloc ob) :=
  h.trans ⟨rfl, rfl, rfl, by simp, fun b hb _ => heap_alloc_lt w ob b hb⟩
theorem Kp.drew {Lb : Nat → Prop} {w0 w : World} (h : Kp Lb w0 w) : Kp Lb w0 w.drew := ⟨h.os, h.tape, h.output, h.size, h.block⟩
theorem Kp.wset {Lb : Nat → Prop} {w0 w : World} (h : Kp Lb w0 w) (b : Nat) (ob : Obj) (hb : w0.heap.size ≤ b ∨ Lb b) : Kp Lb w0 (wset w b ob) :=
  h.trans ⟨rfl, rfl, rfl, by simp [Am.wset], fun b' hb' hn => heap_wset_ne w b b' ob (fun e => hn (e ▸ hb))⟩
section steps
variable {M : Mem} {β : Names} {N : Nat} {Wr : Nat → Prop} {o : Hp} {w : World}
theorem Holds.world {k : Blk} {x : AObj} {w' : World} (h : Holds M β Wr w k x) (hw : wrt x = true → w'.heap[k.b]? = w.heap[k.b]?) : Holds M β Wr w' k x := by
  cases x with
  | box cs => obtain ⟨h1, h2, h3⟩ := h; exact ⟨h1, h2, by rw [hw rfl]; exact h3⟩
  | vec e xs => obtain ⟨h1, h2, h3, h4, h5⟩ := h; exact ⟨h1, h2, h3, h4, by rw [hw rfl]; exact h5⟩
  | dead => exact h
  | fbox cs => exact h
  | fvec e xs => exact h
theorem Holds.lt {k : Blk} {x : AObj} (h : Holds M β Wr w k x) (hx : wrt x = true) : k.b < w.heap.size := by
  cases x with
  | box cs => obtain ⟨_, _, c, ty, fr, hb, _⟩ := h; exact lt_of_some hb
  | vec e xs => obtain ⟨_, _, _, _, c, ty, fr, hb, _⟩ := h; exact lt_of_some hb
  | dead => cases hx
  | fbox cs => cases hx
  | fvec e xs => cases hx
theorem Holds.none {k : Blk} {x : AObj} (h : Holds M β Wr w k x) (hx : wrt x = true) : M k.b = none := by
  cases x with
  | box cs => exact h.2.1
  | vec e xs => exact h.2.1
  | dead => cases hx
  | fbox cs => cases hx
  | fvec e xs => cases hx
theorem Holds.wr {k : Blk} {x : AObj} (h : Holds M β Wr w k x) (hx : wrt x = true) : Wr k.b := by
  cases x with
  | box cs => exact h.1
  | vec e xs => exact h.1
  | dead => cases hx
  | fbox cs => cases hx
  | fvec e xs => cases hx
theorem Holds.names {k : Blk} {x : AObj} {β' : Names} (h : Holds M β Wr w k x) (hβ : ∀ i k, β i = some k → β' i = some k) : Holds M β' Wr w k x := by
  cases x with
  | box cs => obtain ⟨h1, h2, h3⟩ := h; exact ⟨h1, h2, h3.mono (fun _ h => h) fun _ _ h => h.mono (fun _ _ h => h) hβ⟩
  | vec e xs => obtain ⟨h1, h2, h3, h4, h5⟩ := h; exact ⟨h1, h2, h3, h4, h5.mono (fun _ h => h) fun _ _ h => h.mono (fun _ _ h => h) hβ⟩
  | dead => exact h
  | fbox cs => exact h
  | fvec e xs => exact h
/-- The blocks of the objects that may be written stay as they are: the rest of the world may turn. -/
theorem SR.world {w' : World} (h : SR M β N Wr o w) (hw : ∀ b, b < w.heap.size → w'.heap[b]? = w.heap[b]?) : SR M β N Wr o w' where
  sub b x hx := by
    have := h.sub b x hx
    rw [hw b (lt_of_some this)]; exact this
  bnd := h.bnd
  live i hi := by
    obtain ⟨k, hk, hh⟩ := h.live i hi
    exact ⟨k, hk, hh.world fun hx => hw _ (hh.lt hx)⟩
  inj := h.inj
theorem SR.alloc (h : SR M β N Wr o w) (ob : Obj) : SR M β N Wr o (w.alloc ob) := h.world fun b hb => heap_alloc_lt w ob b hb
theorem SR.drew (h : SR M β N Wr o w) : SR M β N Wr o w.drew := h.world fun _ _ => rfl
theorem SR.fresh (h : SR M β N Wr o w) : M w.heap.size = none := by
  cases hm : M w.heap.size with
  | none => rfl
  | some x => have := lt_of_some (h.sub _ x hm); omega
def nput (β : Names) (i : Nat) (k : Blk) : Names := fun j => if j = i then some k else β j
theorem nput_le {i : Nat} {k : Blk} (h : β i = none) : ∀ j kj, β j = some kj → nput β i k j = some kj := by
  intro j kj hj
  unfold nput
  rw [if_neg (fun e => by rw [e, h] at hj; cases hj)]; exact hj
theorem nput_eq {i : Nat} {k : Blk} : nput β i k i = some k := by simp [nput]
/-- A new object in the newest block. -/
theorem SR.new (h : SR M β N Wr o w) {i : Nat} {k : Blk} {x : AObj} (hi : β i = none) (hiN : i < N) (hx : wrt x = true)
    (hne : ∀ j kj, wrt (o j) = true → β j = some kj → kj.b ≠ k.b) (hh : Holds M (nput β i k) Wr w k x) : SR M (nput β i k) N Wr (hput o i x) w where
  sub := h.sub
  bnd j kj hj := by
    unfold nput at hj
    split at hj
    · rename_i e; omega
    · exact h.bnd j kj hj
  live j hj := by
    unfold hput at hj ⊢
    by_cases e : j = i
    · subst e; simp only [if_true]; exact ⟨k, nput_eq, hh⟩
    · rw [if_neg e] at hj ⊢
      obtain ⟨kj, hkj, hhj⟩ := h.live j hj
      exact ⟨kj, nput_le hi j kj hkj, hhj.names (nput_le hi)⟩
  inj a b ka kb ha hb hka hkb hab := by
    unfold hput at ha hb
    unfold nput at hka hkb
    by_cases ea : a = i <;> by_cases eb : b = i
    · rw [ea, eb]
    · simp only [ea, eb, if_true, if_false] at ha hb hka hkb
      cases hka
      exact absurd hab.symm (hne b kb hb hkb)
    · simp only [ea, eb, if_true, if_false] at ha hb hka hkb
      cases hkb
      exact absurd hab (hne a ka ha hka)
    · simp only [ea, eb, if_false] at ha hb hka hkb
      exact h.inj a b ka kb ha hb hka hkb hab
/-- An object of the call's own turns in place: its block alone is written. -/
theorem SR.write (h : SR M β N Wr o w) {i : Nat} {k : Blk} {x : AObj} {ob : Obj} (hi : β i = some k) (hwi : wrt (o i) = true) (hx : wrt x = true)
    (hh : Holds M β Wr (wset w k.b ob) k x) : SR M β N Wr (hput o i x) (wset w k.b ob) where
  sub b y hy := by
    obtain ⟨k', hk', hhi⟩ := h.live i (fun e => by rw [e] at hwi; cases hwi)
    rw [hi] at hk'; cases hk'
    have hne : b ≠ k.b := fun e => by have := hhi.none hwi; rw [← e, hy] at this; cases this
    rw [heap_wset_ne _ _ _ _ hne]; exact h.sub b y hy
  bnd := h.bnd
  live j hj := by
    unfold hput at hj ⊢
    by_cases e : j = i
    · subst e; simp only [if_true]; exact ⟨k, hi, hh⟩
    · rw [if_neg e] at hj ⊢
      obtain ⟨kj, hkj, hhj⟩ := h.live j hj
      refine ⟨kj, hkj, hhj.world fun hwj => heap_wset_ne _ _ _ _ fun eb => e (h.inj j i kj k hwj hwi hkj hi eb)⟩
  inj a b ka kb ha hb hka hkb hab := by
    unfold hput at ha hb
    refine h.inj a b ka kb ?_ ?_ hka hkb hab
    · by_cases ea : a = i
      · rw [ea]; exact hwi
      · rwa [if_neg ea] at ha
    · by_cases eb : b = i
      · rw [eb]; exact hwi
      · rwa [if_neg eb] at hb
theorem SR.kill (h : SR M β N Wr o w) (i : Nat) : SR M β N Wr (hput o i .dead) w where
  sub := h.sub
  bnd := h.bnd
  live j hj := by
    unfold hput at hj ⊢
    by_cases e : j = i
    · rw [if_pos e] at hj; exact absurd rfl hj
    · rw [if_neg e] at hj ⊢; exact h.live j hj
  inj a b ka kb ha hb hka hkb hab := by
    unfold hput at ha hb
    refine h.inj a b ka kb ?_ ?_ hka hkb hab
    · by_cases ea : a = i
      · rw [if_pos ea] at ha; cases ha
      · rwa [if_neg ea] at ha
    · by_cases eb : b = i
      · rw [if_pos eb] at hb; cases hb
      · rwa [if_neg eb] at hb
end steps
theorem addr_add (b off n : Nat) : (⟨b, off, none⟩ : Addr).add n = ⟨b, off + n, none⟩ := by
  unfold Addr.add; split <;> simp_all
theorem cell_at {w : World} {b off : Nat} {c : Array Value} {ty : TypeId} {fr : Nat × Nat} (h : w.heap[b]? = some (.cells c ty fr)) :
    w.cell? ⟨b, off, none⟩ = c[off]? := by simp [World.cell?, h]
theorem frozen_at {w : World} {b off : Nat} {c : Array Value} {ty : TypeId} {fr : Nat × Nat} (h : w.heap[b]? = some (.cells c ty fr)) (hc : Clear c fr) (ho : off < c.size) :
    w.frozen? ⟨b, off, none⟩ = false := by
  obtain ⟨lo, hi⟩ := fr
  simp only [World.frozen?, h]
  simp only [Bool.and_eq_false_iff, decide_eq_false_iff_not, Nat.not_le, Nat.not_lt]
  simp only [Clear] at hc
  omega
theorem setCell_eq {w : World} {b off : Nat} {c : Array Value} {ty : TypeId} {fr : Nat × Nat} (h : w.heap[b]? = some (.cells c ty fr)) (v : Value) :
    w.setCell ⟨b, off, none⟩ v = wset w b (.cells (c.setIfInBounds off v) ty fr) := by
  have hlt := lt_of_some h
  have hx : w.heap[b] = .cells c ty fr := by simpa [Array.getElem?_eq_getElem hlt] using h
  unfold World.setCell wset
  congr 1
  apply Array.ext
  · simp
  · intro i h1 h2
    simp only [Array.getElem_modify]
    by_cases e : b = i
    · subst e; simp [hx]
    · simp only [e, if_false]
      rw [Array.getElem_setIfInBounds]
      rw [if_neg e]
/-- Writes behind one another. -/
def wcells (c : Array Value) (off : Nat) : List Value → Array Value
  | [] => c
  | v :: r => wcells (c.setIfInBounds off v) (off + 1) r
theorem wcells_size (c : Array Value) (off : Nat) (vs : List Value) : (wcells c off vs).size = c.size := by
  induction vs generalizing c off with
  | nil => rfl
  | cons v r ih => simp [wcells, ih]
theorem wcells_get (vs : List Value) : ∀ (c : Array Value) (off : Nat), off + vs.length ≤ c.size → ∀ j,
    (wcells c off vs)[j]? = if off ≤ j ∧ j < off + vs.length then vs[j - off]? else c[j]? := by
  induction vs with
  | nil => intro c off h j; simp only [wcells, List.length_nil, Nat.add_zero]; rw [if_neg (by omega)]
  | cons v r ih =>
    intro c off h j
    simp only [List.length_cons] at h
    simp only [wcells]
    rw [ih _ _ (by simp; omega) j]
    by_cases h1 : off + 1 ≤ j ∧ j < off + 1 + r.length
    · rw [if_pos h1, if_pos (by simp; omega)]
      have : j - off = (j - (off + 1)) + 1 := by omega
      rw [this, List.getElem?_cons_succ]
    · rw [if_neg h1, Array.getElem?_setIfInBounds]
      by_cases h2 : off = j
      · subst h2
        rw [if_pos rfl, if_pos (by omega), if_pos (by simp)]
        simp
      · rw [if_neg h2, if_neg (by simp; omega)]
theorem wset_wset (w : World) (b : Nat) (x y : Obj) : wset (wset w b x) b y = wset w b y := by
  unfold wset; simp
theorem wset_same {w : World} {b : Nat} {x : Obj} (h : w.heap[b]? = some x) : wset w b x = w := by
  have hlt := lt_of_some h
  have hx : w.heap[b] = x := by simpa [Array.getElem?_eq_getElem hlt] using h
  have : w.heap.setIfInBounds b x = w.heap := by
    apply Array.ext
    · simp
    · intro i h1 h2
      rw [Array.getElem_setIfInBounds]
      split
      · rename_i e; subst e; exact hx.symm
      · rfl
  unfold wset; rw [this]
/-- Stores into a block that may be written. -/
theorem run_storeCells {P : Program} {ty : TypeId} {fr : Nat × Nat} (b off : Nat) (vs : List Value) : ∀ (w : World) (c : Array Value) (i : Nat), w.heap[b]? = some (.cells c ty fr) → Clear c fr →
    off + i + vs.length ≤ c.size → (∀ v ∈ vs, v.oneCell' = true) → (storeCells ⟨b, off, none⟩ vs i).run P w = .ok () (wset w b (.cells (wcells c (off + i) vs) ty fr)) := by
  induction vs with
  | nil =>
    intro w c i h hc hl hv
    simp only [storeCells, wcells, Sem.run_pure]
    rw [wset_same h]
  | cons v r ih =>
    intro w c i h hc hl hv
    simp only [List.length_cons] at hl
    have hlt : off + i < c.size := by omega
    have h1 : (store ((⟨b, off, none⟩ : Addr).add i) v).run P w = .ok () (wset w b (.cells (c.setIfInBounds (off + i) v) ty fr)) := by
      rw [addr_add, run_store P w _ v .plain (hv v (by simp)), cell_at h, Array.getElem?_eq_getElem hlt]
      simp only [frozen_at h hc hlt, Bool.false_eq_true, if_false]
      rw [setCell_eq h]
    have h2 := ih (wset w b (.cells (c.setIfInBounds (off + i) v) ty fr)) (c.setIfInBounds (off + i) v) (i + 1) (heap_wset_eq _ _ _ (lt_of_some h))
      (by simpa [Clear] using hc) (by simp; omega) (fun v hv' => hv v (by simp [hv']))
    simp only [storeCells, Sem.run_bind, h1, Result.andThen_ok]
    rw [h2, wset_wset]
    simp only [wcells, Nat.add_assoc]
theorem run_loadCells_at {P : Program} {w : World} {b off n : Nat} {c : Array Value} {ty : TypeId} {fr : Nat × Nat} (h : w.heap[b]? = some (.cells c ty fr)) (hn : off + n ≤ c.size) :
    (loadCells ⟨b, off, none⟩ n).run P w = .ok ((c.toList.drop off).take n).toArray w := by
  have hl := run_loadCells_list (P := P) (w := w) ⟨b, off, none⟩ ((c.toList.drop off).take n) (by
    intro j v hj
    rw [List.getElem?_take] at hj
    split at hj
    · rw [addr_add, cell_at h]
      rw [List.getElem?_drop, Array.getElem?_toList] at hj
      exact hj
    · cases hj)
  have : ((c.toList.drop off).take n).length = n := by simp; omega
  rw [this] at hl
  exact hl
end Go.Proofs.Ytoccgkgdhobmfaa.Am
set_option linter.unusedVariables false
set_option linter.unusedSimpArgs false
namespace Go.Proofs.Ytoccgkgdhobmfaa.Am
open Go
def chkV : Value → V → Bool
  | .int k n, .int k' n' => k == k' && n == n'
  | .bool b, .bool c => b == c
  | .string s, .str l => s.data.toList == l
  | .pointer none, .nilp => true
  | .slice none 0 0, .nils _ => true
  | .nilFunc, .nilf => true
  | .nilIface, .nili => true
  | _, _ => false
def chkCells : List Value → List V → Bool
  | [], [] => true
  | x :: xs, v :: vs => chkV x v && chkCells xs vs
  | _, _ => false
def chkC : Value → V → Bool
  | .agg xs, .agg vs => chkCells xs.toList vs
  | x, v => chkV x v
def chkA : Operand → Arg → Bool
  | .tmp t, .tmp s => t == s
  | .const x, .const v => chkC x v
  | .global g, .glob h => g == h
  | .func f, .fn h => f == h
  | _, _ => false
theorem chkV_sound {M : Mem} {x : Value} {v : V} (h : chkV x v = true) : PRel M v x ∧ cellV v = true := by
  unfold chkV at h
  split at h
  · simp only [Bool.and_eq_true, beq_iff_eq] at h; obtain ⟨rfl, rfl⟩ := h; exact ⟨.int _ _, rfl⟩
  · simp only [beq_iff_eq] at h; subst h; exact ⟨.bool _, rfl⟩
  · rename_i s l
    simp only [beq_iff_eq] at h; subst h
    have : s = ⟨s.data.toList.toArray⟩ := by simp
    refine ⟨?_, rfl⟩
    rw [this]; exact .str _
  · exact ⟨.nilp, rfl⟩
  · exact ⟨.nils _, rfl⟩
  · exact ⟨.nilf, rfl⟩
  · exact ⟨.nili, rfl⟩
  · cases h
theorem PRel.one {M : Mem} {v : V} {x : Value} (h : PRel M v x) (hv : cellV v = true) : x.oneCell' = true := (Rel.pure (β := fun _ => none) h).one hv
theorem chkCells_sound {M : Mem} {β : Names} : ∀ {xs : List Value} {vs : List V}, chkCells xs vs = true → RelL M β vs xs ∧ vs.all cellV = true := by
  intro xs
  induction xs with
  | nil => intro vs h; cases vs with | nil => exact ⟨RelL.nil, rfl⟩ | cons v vs => cases h
  | cons x xs ih =>
    intro vs h
    cases vs with
    | nil => cases h
    | cons v vs =>
      simp only [chkCells, Bool.and_eq_true] at h
      obtain ⟨h1, h2⟩ := chkV_sound (M := M) h.1
      obtain ⟨h3, h4⟩ := ih h.2
      refine ⟨?_, by simp [h2, h4]⟩
      have := RelL.append (M := M) (β := β) (cs := [v]) (xs := [x]) ⟨rfl, fun j u y hj hy => by
        cases j with
        | zero => simp at hj hy; subst hj; subst hy; exact .pure h1
        | succ j => simp at hj, by simpa using h1.one h2⟩ h3
      simpa using this
theorem chkC_sound {M : Mem} {β : Names} {x : Value} {v : V} (h : chkC x v = true) : Rel M β v x := by
  unfold chkC at h
  split at h
  · rename_i xs vs
    have := (chkCells_sound (M := M) (β := β) h).1.agg
    simpa using this
  · exact .pure (chkV_sound h).1
def EnvR (M : Mem) (β : Names) (e : Env) (a : Go.Act) : Prop := ∀ s, Rel M β (e s) (a.tmps.getD s undef)
def GOK (M : Mem) (G : Nat → Option (List V)) : Prop := ∀ g cs, G g = some cs → PRel M (.imp cs 0) (.pointer (some ⟨g, 0, none⟩))
section
variable {M : Mem} {β : Names} {G : Nat → Option (List V)} {e : Env} {a : Go.Act}
theorem evA_sound {x : Operand} {y : Arg} (h : chkA x y = true) (he : EnvR M β e a) (hg : GOK M G) : Rel M β (evA G e y) (a.eval x) := by
  unfold chkA at h
  split at h
  · simp only [beq_iff_eq] at h; subst h; exact he _
  · exact chkC_sound h
  · simp only [beq_iff_eq] at h; subst h
    simp only [evA, Go.Act.eval]
    split
    · rename_i cs hcs; exact .pure (hg _ _ hcs)
    · exact .pure (.junk _)
  · simp only [beq_iff_eq] at h; subst h
    exact .pure (.fn _ [] #[] rfl (by simp))
  · cases h
end
def WrOf (Lb : Nat → Prop) (w0 : World) : Nat → Prop := fun b => w0.heap.size ≤ b ∨ Lb b
structure Ok (M : Mem) (β : Names) (N : Nat) (Lb : Nat → Prop) (w0 : World) (o : Hp) (w : World) : Prop where
  sr : SR M β N (WrOf Lb w0) o w
  kp : Kp Lb w0 w
/-- The step's ends: memory that stands still, names, the heap, the value. -/
def Gd (M : Mem) (β : Names) (N : Nat) (Lb : Nat → Prop) (w0 : World) (ks : List Nat) (o' : Hp) (v' : V) (r : Result Next) : Prop :=
  ∃ x w' M' β', (r = .ok (.value x) w' ∨ (r = .ok .skip w' ∧ x = undef)) ∧ (∀ b y, M b = some y → M' b = some y) ∧ (∀ b, b < w0.heap.size → M' b = M b) ∧
    (∀ i k, β i = some k → β' i = some k) ∧ (∀ i k, β' i = some k → β i = some k ∨ i ∈ ks) ∧ Ok M' β' N Lb w0 o' w' ∧ Rel M' β' v' x
section gd
variable {P : Program} {M : Mem} {β : Names} {N : Nat} {Lb : Nat → Prop} {w0 w : World} {o : Hp} {ks : List Nat}
theorem Gd.pure {v' : V} {x : Value} {r : Result Next} (h : Ok M β N Lb w0 o w) (hr : r = .ok (.value x) w) (hv : Rel M β v' x) : Gd M β N Lb w0 ks o v' r :=
  ⟨x, w, M, β, .inl hr, fun _ _ h => h, fun _ _ => rfl, fun _ _ h => h, fun _ _ h => .inl h, h, hv⟩
theorem flat_get {e : Nat} : ∀ {xs : List (List V)} {i j : Nat} {l : List V} {v : V}, (∀ l ∈ xs, l.length = e) → xs[i]? = some l → l[j]? = some v → xs.flatten[i * e + j]? = some v := by
  intro xs
  induction xs with
  | nil => intro i j l v h hi; simp at hi
  | cons a r ih =>
    intro i j l v h hi hj
    have ha : a.length = e := h a (by simp)
    simp only [List.flatten_cons]
    cases i with
    | zero =>
      simp at hi; subst hi
      have hlt := (List.getElem?_eq_some_iff.1 hj).1
      rw [List.getElem?_append_left (by omega)]; simpa using hj
    | succ i =>
      simp at hi
      rw [List.getElem?_append_right (by rw [ha, Nat.succ_mul]; omega)]
      have := ih (fun l hl => h l (by simp [hl])) hi hj
      rw [← this]; congr 1; rw [ha, Nat.succ_mul]; omega
theorem flat_len {e : Nat} : ∀ {xs : List (List V)}, (∀ l ∈ xs, l.length = e) → xs.flatten.length = xs.length * e := by
  intro xs
  induction xs with
  | nil => intro _; simp
  | cons a r ih => intro h; simp only [List.flatten_cons, List.length_append, List.length_cons, Nat.succ_mul]; rw [ih (fun l hl => h l (by simp [hl])), h a (by simp)]; omega
theorem flat_cut {e : Nat} : ∀ {xs : List (List V)} {j : Nat} {c : List V}, (∀ l ∈ xs, l.length = e) → xs[j]? = some c → (xs.flatten.drop (j * e)).take e = c := by
  intro xs
  induction xs with
  | nil => intro j c h hj; simp at hj
  | cons a r ih =>
    intro j c h hj
    have ha : a.length = e := h a (by simp)
    cases j with
    | zero => simp at hj; subst hj; simp [ha]
    | succ j =>
      simp at hj
      have := ih (fun l hl => h l (by simp [hl])) hj
      rw [← this, List.flatten_cons]
      have h1 : (j + 1) * e = a.length + j * e := by rw [ha, Nat.succ_mul]; omega
      rw [h1, List.drop_append, List.drop_eq_nil_of_le (by omega), List.nil_append]
      congr 2; omega
end gd
def tsize (P : Program) (t n : Nat) : Bool := match P.info? t with | some i => i.size == n | none => false
def tbytes (P : Program) (t n : Nat) : Bool := match P.info? t with | some i => i.bytes == n | none => false
def tzero (P : Program) (t : Nat) (zero : List V) : Bool :=
  match P.info? t with
  | some i => match i.zero with
    | some z => chkCells z.cells.toList zero
    | none => false
  | none => false
def tagg (P : Program) (t : Nat) : Bool := match P.underlying t with | some (.struct _) | some (.array _ _) => true | _ => false
def tsome (P : Program) (t : Nat) : Bool := (P.underlying t).isSome
section types
variable {P : Program} {t n : Nat} {w : World}
theorem tsize_run (h : tsize P t n = true) : (sizeOf t).run P w = .ok n w := by
  unfold tsize at h
  split at h
  · rename_i i hi; simp only [beq_iff_eq] at h; subst h
    simp [sizeOf, typeInfo, hi]
  · cases h
theorem tbytes_run (h : tbytes P t n = true) : ∃ i, (typeInfo t).run P w = .ok i w ∧ i.bytes = n := by
  unfold tbytes at h
  split at h
  · rename_i i hi; simp only [beq_iff_eq] at h; subst h
    exact ⟨i, by simp [typeInfo, hi], rfl⟩
  · cases h
theorem tzero_run {M : Mem} {β : Names} {zero : List V} (h : tzero P t zero = true) : ∃ z, (zeroValue t).run P w = .ok z w ∧ RelL M β zero z.cells.toList ∧ zero.all cellV = true := by
  unfold tzero at h
  split at h
  · rename_i i hi
    split at h
    · rename_i z hz
      exact ⟨z, by simp [zeroValue, typeInfo, hi, hz], (chkCells_sound h).1, (chkCells_sound (M := M) (β := β) h).2⟩
    · cases h
  · cases h
theorem tagg_run (h : tagg P t = true) : (isAgg t).run P w = .ok true w := by
  unfold tagg at h
  split at h
  · rename_i fs hf; simp [isAgg, run_underlying hf]
  · rename_i k e hf; simp [isAgg, run_underlying hf]
  · cases h
theorem tagg_run' (h : tagg P t = false) (hs : tsome P t = true) : (isAgg t).run P w = .ok false w := by
  unfold tagg at h
  unfold tsome at hs
  cases hu : P.underlying t with
  | none => simp [hu] at hs
  | some d =>
    rw [hu] at h
    cases d <;> first | (simp at h; done) | simp [isAgg, run_underlying hu]
end types
end Go.Proofs.Ytoccgkgdhobmfaa.Am
set_option linter.unusedVariables false
set_option linter.unusedSimpArgs false
namespace Go.Proofs.Ytoccgkgdhobmfaa.Am
open Go
section
variable {P : Program} {M : Mem} {β : Names} {N : Nat} {Lb : Nat → Prop} {w0 w : World} {o : Hp} {ks : List Nat} {e : Env} {a : Go.Act} {G : Nat → Option (List V)}
theorem okV_some {v : Option V} {act : Act} (h : okV v = some act) : ∃ u, v = some u ∧ act = ⟨u, [], []⟩ := by
  unfold okV at h
  cases v with
  | none => cases h
  | some u => cases h; exact ⟨u, rfl, rfl⟩
def chkMov (op : Go.Op) (x : Arg) : Bool := match op with | .move y | .assign y => chkA y x | _ => false
def chkPick (op : Go.Op) (c x y : Arg) : Bool := match op with | .pick c' x' y' => chkA c' c && chkA x' x && chkA y' y | _ => false
theorem snd_mov {p : Oper} {x : Arg} (hc : chkMov p.op x = true) (hk : Ok M β N Lb w0 o w) (he : EnvR M β e a) (hg : GOK M G) :
    Gd M β N Lb w0 ks o (evA G e x) ((execOp a.eval p).run P w) := by
  unfold chkMov at hc
  split at hc
  · rename_i y hop; exact .pure hk (by simp [execOp, hop]) (evA_sound hc he hg)
  · rename_i y hop; exact .pure hk (by simp [execOp, hop]) (evA_sound hc he hg)
  · cases hc
theorem snd_pick {p : Oper} {c x y : Arg} {t : Bool} (hc : chkPick p.op c x y = true) (ht : evA G e c = .bool t) (hk : Ok M β N Lb w0 o w) (he : EnvR M β e a) (hg : GOK M G) :
    Gd M β N Lb w0 ks o (if t then evA G e x else evA G e y) ((execOp a.eval p).run P w) := by
  unfold chkPick at hc
  split at hc
  · rename_i c' x' y' hop
    simp only [Bool.and_eq_true] at hc
    have h1 := evA_sound hc.1.1 he hg
    rw [ht] at h1
    have h2 := h1.bool_inv
    refine .pure (x := if t then a.eval x' else a.eval y') hk ?_ ?_
    · simp only [execOp, hop, Sem.run_bind, h2, asBool, Sem.run_pure, Result.andThen_ok]
    · cases t
      · exact evA_sound hc.2 he hg
      · exact evA_sound hc.1.2 he hg
  · cases hc
def chkBin (P : Program) (op : Go.Op) (b : BinOp) (x y : Arg) : Bool := match op with | .binOp b' _ x' y' _ => b == b' && chkA x' x && chkA y' y | _ => false
theorem bytesToList (s : List UInt8) : (⟨s.toArray⟩ : ByteArray).toList = s := by rw [ByteArray.toList_eq]
/-- A scalar, as the model has it. -/
def sv : V → Value
  | .int k n => .int k n
  | .bool b => .bool b
  | .str s => .string ⟨s.toArray⟩
  | _ => undef
theorem run_binI {op : BinOp} {k k' : IntKind} {m n : Int} {v : V} (h : binI op k m k' n = some v) (t : TypeId) :
    (binOp op t (.int k m) (.int k' n)).run P w = .ok (sv v) w ∧ Rel M β v (sv v) := by
  cases op <;> simp only [binI, cmpI] at h <;> (repeat (first | split at h | (cases h; done))) <;>
    (try cases h) <;> (try subst_vars) <;>
    first
      | (refine ⟨by simp [binOp, Op.intArith, Op.intDiv, Op.intBits, Op.intCmp, Op.shift, sv, bitI, *], ?_⟩; exact .pure (.int _ _))
      | (refine ⟨by simp [binOp, Op.intArith, Op.intDiv, Op.intBits, Op.intCmp, Op.shift, sv, *], ?_⟩; exact .pure (.bool _))
theorem run_binS {op : BinOp} {x y : List UInt8} {v : V} (h : binS op x y = some v) (t : TypeId) :
    (binOp op t (.string ⟨x.toArray⟩) (.string ⟨y.toArray⟩)).run P w = .ok (sv v) w ∧ Rel M β v (sv v) := by
  have happ : (⟨x.toArray⟩ : ByteArray) ++ ⟨y.toArray⟩ = ⟨(x ++ y).toArray⟩ := by
    apply ByteArray.ext
    simp [ByteArray.data_append]
  have hsz : ∀ l : List UInt8, (⟨l.toArray⟩ : ByteArray).size = l.length := fun l => by simp [ByteArray.size]
  cases op <;> simp only [binS] at h <;> (repeat (first | split at h | (cases h; done))) <;> (try cases h)
  · rename_i hl
    refine ⟨?_, .pure (.str _)⟩
    simp only [binOp, Op.stringOp, hsz, happ, sv]
    rw [if_neg (by simp [IntKind.max, IntKind.signed, IntKind.bits]; omega)]
    simp
  all_goals (refine ⟨by simp [binOp, Op.stringOp, bytesToList, sv], .pure (.bool _)⟩)
theorem run_binV {op : BinOp} {x y : V} {v : V} (h : binV op x y = some v) (t : TypeId) {u z : Value} (hu : Rel M β x u) (hz : Rel M β y z) (X Y : Operand) :
    (do eqGuard op t X Y u z; binOp op t u z : Sem Value).run P w = .ok (sv v) w ∧ Rel M β v (sv v) := by
  unfold binV at h
  split at h
  · have h1 := hu.int_inv; have h2 := hz.int_inv; subst h1; subst h2
    obtain ⟨h3, h4⟩ := run_binI (P := P) (M := M) (β := β) (w := w) h t
    refine ⟨?_, h4⟩
    have hge : ∀ k m k' n, (eqGuard op t X Y (.int k m) (.int k' n)).run P w = .ok () w := by intro k m k' n; unfold eqGuard; cases op <;> rfl
    simp only [Sem.run_bind, hge, Result.andThen_ok, h3]
  · have h1 := hu.str_inv; have h2 := hz.str_inv; subst h1; subst h2
    obtain ⟨h3, h4⟩ := run_binS (P := P) (M := M) (β := β) (w := w) h t
    refine ⟨?_, h4⟩
    have hge : ∀ m n, (eqGuard op t X Y (.string m) (.string n)).run P w = .ok () w := by intro m n; unfold eqGuard; cases op <;> rfl
    simp only [Sem.run_bind, hge, Result.andThen_ok, h3]
  · cases h
theorem snd_bin {p : Oper} {b : BinOp} {x y : Arg} {v : V} (hc : chkBin P p.op b x y = true) (hv : binV b (evA G e x) (evA G e y) = some v) (hk : Ok M β N Lb w0 o w) (he : EnvR M β e a) (hg : GOK M G) :
    Gd M β N Lb w0 ks o v ((execOp a.eval p).run P w) := by
  unfold chkBin at hc
  split at hc
  · rename_i b' t x' y' yt hop
    simp only [Bool.and_eq_true] at hc
    have hb : b = b' := by have := hc.1.1; cases b <;> cases b' <;> first | rfl | (exact absurd this (by decide))
    subst hb
    obtain ⟨h1, h2⟩ := run_binV (P := P) (w := w) hv t (evA_sound hc.1.2 he hg) (evA_sound hc.2 he hg) x' y'
    simp only [Sem.run_bind] at h1
    refine .pure hk ?_ h2
    simp only [execOp, hop, Sem.run_bind, h1, Result.andThen_ok, Sem.run_pure]
  · cases hc
def chkUn (op : Go.Op) (u : UnOp) (x : Arg) : Bool := match op with | .unOp u' _ x' => u == u' && chkA x' x | _ => false
theorem snd_un {p : Oper} {u : UnOp} {x : Arg} {v : V} (hc : chkUn p.op u x = true) (hv : unV u (evA G e x) = some v) (hk : Ok M β N Lb w0 o w) (he : EnvR M β e a) (hg : GOK M G) :
    Gd M β N Lb w0 ks o v ((execOp a.eval p).run P w) := by
  unfold chkUn at hc
  split at hc
  · rename_i u' t x' hop
    simp only [Bool.and_eq_true] at hc
    have hb : u = u' := by have := hc.1; cases u <;> cases u' <;> first | rfl | (exact absurd this (by decide))
    subst hb
    have hx := evA_sound hc.2 he hg
    have key : ∀ z, Rel M β (evA G e x) z → (Op.unary u z).run P w = .ok (sv v) w ∧ Rel M β v (sv v) := by
      intro z hz
      unfold unV at hv
      split at hv
      · rename_i k n hxe
        rw [hxe] at hz; have := hz.int_inv; subst this
        split at hv
        · cases hv; exact ⟨by simp [Op.unary, Op.intArith, sv], .pure (.int _ _)⟩
        · cases hv; exact ⟨by simp [Op.unary, Op.intBits, sv, bitI], .pure (.int _ _)⟩
        · cases hv
      · rename_i t hxe
        rw [hxe] at hz; have := hz.bool_inv; subst this
        split at hv
        · cases hv; exact ⟨by simp [Op.unary, sv], .pure (.bool _)⟩
        · cases hv
      · cases hv
    obtain ⟨h1, h2⟩ := key _ hx
    exact .pure hk (by simp only [execOp, hop, Sem.run_bind, h1, Result.andThen_ok, Sem.run_pure]) h2
  · cases hc
def isInt (P : Program) (t : Nat) : Bool := match P.underlying t with | some (.int _) => true | _ => false
def isIntK (P : Program) (t : Nat) (k : IntKind) : Bool := match P.underlying t with | some (.int k') => k == k' | _ => false
def isStr (P : Program) (t : Nat) : Bool := match P.underlying t with | some .string => true | _ => false
def isBytes (P : Program) (t : Nat) : Bool := match P.underlying t with | some (.slice e) => isIntK P e .u8 | _ => false
theorem isIntK_of {t : Nat} {k : IntKind} (h : isIntK P t k = true) : P.underlying t = some (.int k) := by
  unfold isIntK at h
  split at h
  · simp only [beq_iff_eq] at h; subst h; assumption
  · cases h
theorem isInt_of {t : Nat} (h : isInt P t = true) : ∃ k, P.underlying t = some (.int k) := by
  unfold isInt at h
  split at h
  · exact ⟨_, by assumption⟩
  · cases h
theorem isStr_of {t : Nat} (h : isStr P t = true) : P.underlying t = some .string := by
  unfold isStr at h
  split at h
  · assumption
  · cases h
theorem isBytes_of {t : Nat} (h : isBytes P t = true) : ∃ e, P.underlying t = some (.slice e) ∧ P.underlying e = some (.int .u8) := by
  unfold isBytes at h
  split at h
  · exact ⟨_, by assumption, isIntK_of h⟩
  · cases h
def chkConvInt (P : Program) (op : Go.Op) (k : IntKind) (x : Arg) : Bool := match op with | .convert s d x' => isInt P s && isIntK P d k && chkA x' x | _ => false
theorem snd_convInt {p : Oper} {k j : IntKind} {n : Int} {x : Arg} (hc : chkConvInt P p.op k x = true) (hv : evA G e x = .int j n) (hk : Ok M β N Lb w0 o w) (he : EnvR M β e a) (hg : GOK M G) :
    Gd M β N Lb w0 ks o (.int k (k.wrap n)) ((execOp a.eval p).run P w) := by
  unfold chkConvInt at hc
  split at hc
  · rename_i s d x' hop
    simp only [Bool.and_eq_true] at hc
    have hx := evA_sound hc.2 he hg
    rw [hv] at hx
    obtain ⟨ks, hs⟩ := isInt_of hc.1.1
    have hd := isIntK_of hc.1.2
    refine .pure hk ?_ (.pure (.int _ _))
    simp [execOp, hop, convert, run_underlying hs, run_underlying hd, hx.int_inv, Conv.intToInt]
  · cases hc
def chkExtract (op : Go.Op) (x : Arg) (i : Nat) : Bool := match op with | .extract x' j => i == j && chkA x' x | _ => false
theorem snd_extract {p : Oper} {x : Arg} {i : Nat} {vs : List V} {v : V} (hc : chkExtract p.op x i = true) (hx : evA G e x = .tup vs) (hv : vs[i]? = some v) (hk : Ok M β N Lb w0 o w) (he : EnvR M β e a) (hg : GOK M G) :
    Gd M β N Lb w0 ks o v ((execOp a.eval p).run P w) := by
  unfold chkExtract at hc
  split at hc
  · rename_i x' j hop
    simp only [Bool.and_eq_true, beq_iff_eq] at hc
    obtain ⟨rfl, hc⟩ := hc
    have h1 := evA_sound hc he hg
    rw [hx] at h1
    obtain ⟨xs, h2, h3, h4⟩ := h1.tup_inv
    have hlt : i < xs.size := by rw [h3]; exact (List.getElem?_eq_some_iff.1 hv).1
    have hxi : xs[i]? = some xs[i] := by simp [hlt]
    have := h4 i v hv
    rw [getD_of_getElem? hxi] at this
    refine .pure hk ?_ this
    simp only [execOp, hop, h2, Instr.extract, hxi, Sem.run_bind, Sem.run_pure, Result.andThen_ok]
  · cases hc
def chkIface (P : Program) (op : Go.Op) (t : Nat) (x : Arg) : Bool := match op with | .makeInterface t' x' => t == t' && chkA x' x && P.concrete t | _ => false
theorem snd_iface {p : Oper} {x : Arg} {t : Nat} (hc : chkIface P p.op t x = true) (hk : Ok M β N Lb w0 o w) (he : EnvR M β e a) (hg : GOK M G) :
    Gd M β N Lb w0 ks o (.iface t (evA G e x)) ((execOp a.eval p).run P w) := by
  unfold chkIface at hc
  split at hc
  · rename_i t' x' hop
    simp only [Bool.and_eq_true, beq_iff_eq] at hc
    obtain ⟨⟨rfl, hc⟩, hcon⟩ := hc
    refine .pure hk ?_ (.iface _ _ _ (evA_sound hc he hg))
    have := run_makeInterface (P := P) w t (a.eval x') hcon
    simp only [execOp, hop, Sem.run_bind, this, Result.andThen_ok, Sem.run_pure]
  · cases hc
def chkArgs : List Operand → List Arg → Bool
  | [], [] => true
  | x :: xs, y :: ys => chkA x y && chkArgs xs ys
  | _, _ => false
theorem chkArgs_sound : ∀ {xs : List Operand} {ys : List Arg}, chkArgs xs ys = true → EnvR M β e a → GOK M G →
    xs.length = ys.length ∧ ∀ (j : Nat) v x, (ys.map (evA G e))[j]? = some v → (xs.map a.eval)[j]? = some x → Rel M β v x := by
  intro xs
  induction xs with
  | nil => intro ys h he hg; cases ys with | nil => exact ⟨rfl, by simp⟩ | cons y ys => cases h
  | cons x xs ih =>
    intro ys h he hg
    cases ys with
    | nil => cases h
    | cons y ys =>
      simp only [chkArgs, Bool.and_eq_true] at h
      obtain ⟨h1, h2⟩ := ih h.2 he hg
      refine ⟨by simp [h1], ?_⟩
      intro j v u hv hu
      cases j with
      | zero => simp at hv hu; subst hv; subst hu; exact evA_sound h.1 he hg
      | succ j => simp only [List.map_cons, List.getElem?_cons_succ] at hv hu; exact h2 j v u hv hu
theorem args_rel {xs : Array Operand} {ys : List Arg} (h : chkArgs xs.toList ys = true) (he : EnvR M β e a) (hg : GOK M G) :
    (xs.map a.eval).size = (ys.map (evA G e)).length ∧ ∀ (j : Nat) v, (ys.map (evA G e))[j]? = some v → Rel M β v ((xs.map a.eval).getD j undef) := by
  obtain ⟨h1, h2⟩ := chkArgs_sound h he hg
  refine ⟨by simpa using h1, ?_⟩
  intro j v hv
  have hlt : j < xs.size := by
    have := (List.getElem?_eq_some_iff.1 hv).1
    simp at this h1; omega
  have hx : (xs.map a.eval)[j]? = some (a.eval xs[j]) := by simp [hlt]
  rw [getD_of_getElem? hx]
  exact h2 j v _ hv (by simp [hlt])
def chkFn (op : Go.Op) (f : Nat) (caps : List Arg) : Bool := match op with
  | .makeFunc (.func g) first captured => f == g && first.isEmpty && chkArgs captured.toList caps
  | _ => false
theorem snd_fn {p : Oper} {f : Nat} {caps : List Arg} (hc : chkFn p.op f caps = true) (hk : Ok M β N Lb w0 o w) (he : EnvR M β e a) (hg : GOK M G) :
    Gd M β N Lb w0 ks o (.fn f (caps.map (evA G e))) ((execOp a.eval p).run P w) := by
  unfold chkFn at hc
  split at hc
  · rename_i g first captured hop
    simp only [Bool.and_eq_true, beq_iff_eq] at hc
    obtain ⟨⟨rfl, hf⟩, hc⟩ := hc
    have hf' : first = #[] := by simpa using hf
    subst hf'
    obtain ⟨h1, h2⟩ := args_rel hc he hg
    refine .pure (x := .func (.func f) #[] (captured.map a.eval)) hk ?_ (.fn f _ _ h1 h2)
    simp [execOp, hop, Instr.makeFunc]
  · cases hc
def chkNil (op : Go.Op) (x : Arg) : Bool := match op with | .nilCheck y => chkA y x | _ => false
theorem snd_nil {p : Oper} {x : Arg} {v : V} (hc : chkNil p.op x = true) (hv : evA G e x = v) (hw : match v with | .ptr _ _ | .ept _ _ _ | .imp _ _ | .fn _ _ => True | _ => False)
    (hk : Ok M β N Lb w0 o w) (he : EnvR M β e a) (hg : GOK M G) : Gd M β N Lb w0 ks o v ((execOp a.eval p).run P w) := by
  unfold chkNil at hc
  split at hc
  · rename_i y hop
    have h1 := evA_sound hc he hg
    rw [hv] at h1
    refine .pure hk ?_ h1
    cases v with
    | ptr i off => obtain ⟨k, _, h2⟩ := h1.ptr_inv; simp [execOp, hop, h2]
    | ept i j off => obtain ⟨k, _, h2⟩ := h1.ept_inv; simp [execOp, hop, h2]
    | imp c off => have h2 := h1.imp_inv; generalize hz : a.eval y = z at *; cases h2; simp [execOp, hop, hz]
    | fn f c => obtain ⟨xs, h2, _⟩ := h1.fn_inv; simp [execOp, hop, h2]
    | _ => exact hw.elim
  · cases hc
def chkLenA (P : Program) (op : Go.Op) (n : Nat) : Bool := match op with
  | .call { callee := .builtin .len, args, argTypes } => args.size == 1 && (match argTypes[0]? with
    | some t => (match P.underlying t with
      | some (.array m _) => n == m
      | some (.pointer t') => (match P.underlying t' with | some (.array m _) => n == m | _ => false)
      | _ => false)
    | none => false)
  | _ => false
def chkLen (P : Program) (op : Go.Op) (x : Arg) : Bool := match op with
  | .call { callee := .builtin .len, args, argTypes } => chkArgs args.toList [x] && (match argTypes[0]? with
    | some t => (match P.underlying t with | some (.slice _) => true | _ => false)
    | none => false)
  | _ => false
def chkLenS (P : Program) (op : Go.Op) (x : Arg) : Bool := match op with
  | .call { callee := .builtin .len, args, argTypes } => chkArgs args.toList [x] && (match argTypes[0]? with
    | some t => isStr P t
    | none => false)
  | _ => false
theorem chkArgs_one {xs : List Operand} {y : Arg} (h : chkArgs xs [y] = true) : ∃ x, xs = [x] ∧ chkA x y = true := by
  cases xs with
  | nil => cases h
  | cons x r =>
    cases r with
    | nil => simp only [chkArgs, Bool.and_eq_true] at h; exact ⟨x, rfl, h.1⟩
    | cons z r => simp [chkArgs] at h
theorem chkArgs_two {xs : List Operand} {y z : Arg} (h : chkArgs xs [y, z] = true) : ∃ x u, xs = [x, u] ∧ chkA x y = true ∧ chkA u z = true := by
  cases xs with
  | nil => cases h
  | cons x r =>
    simp only [chkArgs, Bool.and_eq_true] at h
    obtain ⟨u, rfl, hu⟩ := chkArgs_one h.2
    exact ⟨x, u, rfl, h.1, hu⟩
theorem arr_one {α} {xs : Array α} {x : α} (h : xs.toList = [x]) : xs = #[x] := by cases xs; simp at h; subst h; rfl
theorem arr_two {α} {xs : Array α} {x y : α} (h : xs.toList = [x, y]) : xs = #[x, y] := by cases xs; simp at h; subst h; rfl
/-- A slice: its length. -/
theorem lenOf_sound {v : V} {x : Value} {n : Nat} (h : lenOf v = some n) (hr : Rel M β v x) : ∃ a c, x = .slice a n c ∧ n ≤ c := by
  cases v <;> simp only [lenOf] at h <;> (try cases h)
  · exact ⟨none, 0, hr.nils_inv, by omega⟩
  · have := hr.sl_inv; cases this; exact ⟨_, _, rfl, by assumption⟩
  · cases hr with
    | pure h => cases h
    | vsl _ _ _ cap k _ hl _ => exact ⟨_, _, rfl, hl⟩
    | vslE _ _ cap a _ => exact ⟨_, _, rfl, by omega⟩
  · cases hr with
    | pure h => cases h
    | bsl _ _ _ _ cap k _ hl => exact ⟨_, _, rfl, hl⟩
    | bslE _ _ _ cap a => exact ⟨_, _, rfl, by omega⟩
theorem snd_len {p : Oper} {x : Arg} {n : Nat} (hc : chkLen P p.op x = true) (hv : lenOf (evA G e x) = some n) (hk : Ok M β N Lb w0 o w) (he : EnvR M β e a) (hg : GOK M G) :
    Gd M β N Lb w0 ks o (lenB n) ((execOp a.eval p).run P w) := by
  unfold chkLen at hc
  split at hc
  · rename_i args argTypes hop
    simp only [Bool.and_eq_true] at hc
    obtain ⟨y, hy, hxy⟩ := chkArgs_one hc.1
    have hy' := arr_one hy
    subst hy'
    obtain ⟨ad, c, hx, _⟩ := lenOf_sound hv (evA_sound hxy he hg)
    have hc2 := hc.2
    split at hc2
    · rename_i t ht
      split at hc2
      · rename_i el hu
        refine .pure hk ?_ (.pure (.int _ _))
        simp [execOp, hop, resolve, invoke, builtin, hx, Builtin.len_, ht, run_underlying hu, goInt]
      · cases hc2
    · cases hc2
  · cases hc
theorem size_str (l : List UInt8) : (⟨l.toArray⟩ : ByteArray).size = l.length := by simp [ByteArray.size]
theorem snd_lenS {p : Oper} {x : Arg} {s : List UInt8} (hc : chkLenS P p.op x = true) (hv : evA G e x = .str s) (hk : Ok M β N Lb w0 o w) (he : EnvR M β e a) (hg : GOK M G) :
    Gd M β N Lb w0 ks o (lenB s.length) ((execOp a.eval p).run P w) := by
  unfold chkLenS at hc
  split at hc
  · rename_i args argTypes hop
    simp only [Bool.and_eq_true] at hc
    obtain ⟨y, hy, hxy⟩ := chkArgs_one hc.1
    have hy' := arr_one hy
    subst hy'
    have h1 := evA_sound hxy he hg
    rw [hv] at h1
    have hx := h1.str_inv
    have hc2 := hc.2
    split at hc2
    · rename_i t ht
      have hu := isStr_of hc2
      refine .pure hk ?_ (.pure (.int _ _))
      simp [execOp, hop, resolve, invoke, builtin, hx, Builtin.len_, ht, run_underlying hu, goInt, size_str]
    · cases hc2
  · cases hc
theorem snd_lenA {p : Oper} {n : Nat} (hc : chkLenA P p.op n = true) (hk : Ok M β N Lb w0 o w) :
    Gd M β N Lb w0 ks o (lenB n) ((execOp a.eval p).run P w) := by
  unfold chkLenA at hc
  split at hc
  · rename_i args argTypes hop
    simp only [Bool.and_eq_true, beq_iff_eq] at hc
    have hx : ∃ y, args = #[y] := by
      obtain ⟨l⟩ := args
      cases l with
      | nil => simp at hc
      | cons y r => cases r with
        | nil => exact ⟨y, rfl⟩
        | cons z r => simp at hc
    obtain ⟨y, rfl⟩ := hx
    have hc2 := hc.2
    split at hc2
    · rename_i t ht
      split at hc2
      · rename_i m el hu
        simp only [beq_iff_eq] at hc2; subst hc2
        refine .pure hk ?_ (.pure (.int _ _))
        simp [execOp, hop, resolve, invoke, builtin, Builtin.len_, ht, run_underlying hu, goInt]
      · rename_i t' hu
        split at hc2
        · rename_i m el hu'
          simp only [beq_iff_eq] at hc2; subst hc2
          refine .pure hk ?_ (.pure (.int _ _))
          simp [execOp, hop, resolve, invoke, builtin, Builtin.len_, ht, run_underlying hu, run_underlying hu', goInt]
        · cases hc2
      · cases hc2
    · cases hc2
  · cases hc
def chkCap (P : Program) (op : Go.Op) (x : Arg) : Bool := match op with
  | .call { callee := .builtin .cap, args, argTypes } => chkArgs args.toList [x] && (match argTypes[0]? with
    | some t => (match P.underlying t with | some (.slice _) => true | _ => false)
    | none => false)
  | _ => false
theorem snd_cap {p : Oper} {x : Arg} {s : Nat} (hc : chkCap P p.op x = true) (hv : evA G e x = .nils s) (hk : Ok M β N Lb w0 o w) (he : EnvR M β e a) (hg : GOK M G) :
    Gd M β N Lb w0 ks o (lenB 0) ((execOp a.eval p).run P w) := by
  unfold chkCap at hc
  split at hc
  · rename_i args argTypes hop
    simp only [Bool.and_eq_true] at hc
    obtain ⟨y, hy, hxy⟩ := chkArgs_one hc.1
    have hy' := arr_one hy
    subst hy'
    have h1 := evA_sound hxy he hg
    rw [hv] at h1
    have hx := h1.nils_inv
    have hc2 := hc.2
    split at hc2
    · rename_i t ht
      split at hc2
      · rename_i el hu
        refine .pure hk ?_ (.pure (.int _ _))
        simp [execOp, hop, resolve, invoke, builtin, hx, Builtin.cap_, ht, run_underlying hu, goInt]
      · cases hc2
    · cases hc2
  · cases hc
inductive Fa (R : V → Value → Prop) : List V → List Value → Prop
  | nil : Fa R [] []
  | cons {v : V} {x : Value} {vs : List V} {xs : List Value} (h : R v x) (t : Fa R vs xs) : Fa R (v :: vs) (x :: xs)
theorem chkArgs_map {xs : List Operand} {ys : List Arg} (h : chkArgs xs ys = true) (he : EnvR M β e a) (hg : GOK M G) :
    Fa (Rel M β) (ys.map (evA G e)) (xs.map a.eval) := by
  induction xs generalizing ys with
  | nil => cases ys with | nil => exact .nil | cons y ys => cases h
  | cons x xs ih =>
    cases ys with
    | nil => cases h
    | cons y ys =>
      simp only [chkArgs, Bool.and_eq_true] at h
      exact .cons (evA_sound h.1 he hg) (ih h.2)
theorem fold_sound {f : V → V → Option V} {F : Value → Value → Sem Value} (hf : ∀ a b c x y, f a b = some c → Rel M β a x → Rel M β b y → (F x y).run P w = .ok (sv c) w ∧ Rel M β c (sv c)) :
    ∀ {vs : List V} {xs : List Value}, Fa (Rel M β) vs xs → ∀ {a c : V} {x : Value}, foldV f a vs = some c → Rel M β a x → ∃ z, (xs.foldlM F x).run P w = .ok z w ∧ Rel M β c z := by
  intro vs xs h
  induction h with
  | nil => intro a c x hc hx; cases hc; exact ⟨x, rfl, hx⟩
  | cons h1 h2 ih =>
    intro a c x hc hx
    simp only [foldV] at hc
    cases hb : f a _ with
    | none => rw [hb] at hc; cases hc
    | some b =>
      rw [hb] at hc
      obtain ⟨h3, h4⟩ := hf _ _ _ _ _ hb hx h1
      obtain ⟨z, h5, h6⟩ := ih hc h4
      exact ⟨z, by simp only [List.foldlM_cons, Sem.run_bind, h3, Result.andThen_ok, h5], h6⟩
def chkMax (op : Go.Op) (xs : List Arg) : Bool := match op with | .call { callee := .builtin .max, args, argTypes } => chkArgs args.toList xs | _ => false
def chkMin (op : Go.Op) (xs : List Arg) : Bool := match op with | .call { callee := .builtin .min, args, argTypes } => chkArgs args.toList xs | _ => false
theorem snd_max {p : Oper} {y : Arg} {ys : List Arg} {v : V} (hc : chkMax p.op (y :: ys) = true) (hv : foldV maxI (evA G e y) (ys.map (evA G e)) = some v) (hk : Ok M β N Lb w0 o w) (he : EnvR M β e a) (hg : GOK M G) :
    Gd M β N Lb w0 ks o v ((execOp a.eval p).run P w) := by
  unfold chkMax at hc
  split at hc
  · rename_i args argTypes hop
    obtain ⟨l⟩ := args
    cases l with
    | nil => cases hc
    | cons x xs =>
      simp only [chkArgs, Bool.and_eq_true] at hc
      obtain ⟨z, h1, h2⟩ := fold_sound (P := P) (w := w) (F := Builtin.max2) (f := maxI) (by
        intro a b c x y h hx hy
        unfold maxI at h
        split at h
        · cases h
          rw [hx.int_inv, hy.int_inv]
          exact ⟨rfl, .pure (.int _ _)⟩
        · cases h) (chkArgs_map hc.2 he hg) hv (evA_sound hc.1 he hg)
      refine .pure hk ?_ h2
      simp [execOp, hop, resolve, invoke, builtin, Builtin.max_, h1]
  · cases hc
theorem snd_min {p : Oper} {y : Arg} {ys : List Arg} {v : V} (hc : chkMin p.op (y :: ys) = true) (hv : foldV minI (evA G e y) (ys.map (evA G e)) = some v) (hk : Ok M β N Lb w0 o w) (he : EnvR M β e a) (hg : GOK M G) :
    Gd M β N Lb w0 ks o v ((execOp a.eval p).run P w) := by
  unfold chkMin at hc
  split at hc
  · rename_i args argTypes hop
    obtain ⟨l⟩ := args
    cases l with
    | nil => cases hc
    | cons x xs =>
      simp only [chkArgs, Bool.and_eq_true] at hc
      obtain ⟨z, h1, h2⟩ := fold_sound (P := P) (w := w) (F := Builtin.min2) (f := minI) (by
        intro a b c x y h hx hy
        unfold minI at h
        split at h
        · cases h
          rw [hx.int_inv, hy.int_inv]
          exact ⟨rfl, .pure (.int _ _)⟩
        · cases h) (chkArgs_map hc.2 he hg) hv (evA_sound hc.1 he hg)
      refine .pure hk ?_ h2
      simp [execOp, hop, resolve, invoke, builtin, Builtin.min_, h1]
  · cases hc
end
end Go.Proofs.Ytoccgkgdhobmfaa.Am
set_option linter.unusedVariables false
set_option linter.unusedSimpArgs false
namespace Go.Proofs.Ytoccgkgdhobmfaa.Am
open Go
section
variable {P : Program} {M : Mem} {β : Names} {N : Nat} {Lb : Nat → Prop} {w0 w : World} {o : Hp} {ks : List Nat} {e : Env} {a : Go.Act} {G : Nat → Option (List V)}
theorem RelL.of_get {cs : List V} {xs : List Value} (hl : cs.length = xs.length) (h : ∀ (j : Nat) (v : V), cs[j]? = some v → ∃ x, xs[j]? = some x ∧ x.oneCell' = true ∧ Rel M β v x) : RelL M β cs xs := by
  refine ⟨hl, ?_, ?_⟩
  · intro j v x hj hx
    obtain ⟨y, hy, _, hr⟩ := h j v hj
    rw [hx] at hy; cases hy; exact hr
  · intro x hx
    obtain ⟨j, hj⟩ := List.getElem?_of_mem hx
    have hlt := (List.getElem?_eq_some_iff.1 hj).1
    obtain ⟨y, hy, ho, _⟩ := h j (cs[j]'(by omega)) (List.getElem?_eq_getElem (by omega))
    rw [hj] at hy; cases hy; exact ho
theorem BoxAt.relL {ob : Option Obj} {size : Nat} {cs : List V} (h : BoxAt ob size (Rel M β) cs) :
    ∃ c ty fr, ob = some (.cells c ty fr) ∧ Clear c fr ∧ c.size = size ∧ cs.length ≤ c.size ∧ RelL M β cs (c.toList.take cs.length) := by
  obtain ⟨c, ty, fr, hb, hc, hs, hl, hr⟩ := h
  refine ⟨c, ty, fr, hb, hc, hs, hl, RelL.of_get (by simp; omega) ?_⟩
  intro j v hj
  obtain ⟨x, hx, ho, hr'⟩ := hr j v hj
  have hlt := (List.getElem?_eq_some_iff.1 hj).1
  exact ⟨x, by rw [List.getElem?_take, if_pos hlt, Array.getElem?_toList]; exact hx, ho, hr'⟩
theorem cut_some {off n : Nat} {cs l : List V} (h : cut off n cs = some l) : off + n ≤ cs.length ∧ l = (cs.drop off).take n := by
  unfold cut at h
  split at h
  · cases h; exact ⟨by assumption, rfl⟩
  · cases h
theorem relL_cut {cs : List V} {c : Array Value} {off n : Nat} (h : RelL M β cs (c.toList.take cs.length)) (hn : off + n ≤ cs.length) :
    RelL M β ((cs.drop off).take n) ((c.toList.drop off).take n) := by
  have h1 := (h.drop off).take n
  have h2 : ((c.toList.take cs.length).drop off).take n = (c.toList.drop off).take n := by
    rw [List.drop_take, List.take_take]; congr 1; omega
  rwa [h2] at h1
/-- An object that can be read: its block and its cells, flat. -/
theorem read_box (hk : Ok M β N Lb w0 o w) {i : Nat} {cs : List V} (h : rdBox o i = some cs) :
    ∃ k, β i = some k ∧ ∃ c ty fr, w.heap[k.b]? = some (.cells c ty fr) ∧ Clear c fr ∧ c.size = k.size ∧ cs.length ≤ c.size ∧ RelL M β cs (c.toList.take cs.length) := by
  unfold rdBox at h
  split at h
  · rename_i cs' ho
    cases h
    obtain ⟨k, hk1, hk2⟩ := hk.sr.live i (by rw [ho]; simp)
    rw [ho] at hk2
    exact ⟨k, hk1, hk2.2.2.relL⟩
  · rename_i cs' ho
    cases h
    obtain ⟨k, hk1, hk2⟩ := hk.sr.live i (by rw [ho]; simp)
    rw [ho] at hk2
    exact ⟨k, hk1, (hk2.mono (fun x hx => hk.sr.sub _ x hx) (fun v x hx => .pure hx) : BoxAt w.heap[k.b]? k.size (Rel M β) cs).relL⟩
  · cases h
theorem read_vec (hk : Ok M β N Lb w0 o w) {i : Nat} {r : Nat × List (List V)} (h : rdVec o i = some r) :
    ∃ k, β i = some k ∧ k.esz = r.1 ∧ (∀ l ∈ r.2, l.length = r.1) ∧ ∃ c ty fr, w.heap[k.b]? = some (.cells c ty fr) ∧ Clear c fr ∧ c.size = k.size ∧ r.2.flatten.length ≤ c.size ∧ RelL M β r.2.flatten (c.toList.take r.2.flatten.length) := by
  unfold rdVec at h
  split at h
  · rename_i e' xs ho
    cases h
    obtain ⟨k, hk1, hk2⟩ := hk.sr.live i (by rw [ho]; simp)
    rw [ho] at hk2
    exact ⟨k, hk1, hk2.2.2.1, hk2.2.2.2.1, hk2.2.2.2.2.relL⟩
  · rename_i e' xs ho
    cases h
    obtain ⟨k, hk1, hk2⟩ := hk.sr.live i (by rw [ho]; simp)
    rw [ho] at hk2
    exact ⟨k, hk1, hk2.1, hk2.2.1, (hk2.2.2.mono (fun x hx => hk.sr.sub _ x hx) (fun v x hx => .pure hx) : BoxAt w.heap[k.b]? k.size (Rel M β) xs.flatten).relL⟩
  · cases h
theorem peek_sound (hk : Ok M β N Lb w0 o w) {n : Nat} (hn : 0 < n) {v : V} {x : Value} {r : List V × List Nat} (h : peek o n v = some r) (hr : Rel M β v x) :
    ∃ b off c ty fr, x = .pointer (some ⟨b, off, none⟩) ∧ w.heap[b]? = some (.cells c ty fr) ∧ off + n ≤ c.size ∧ RelL M β r.1 ((c.toList.drop off).take n) := by
  cases v <;> simp only [peek] at h <;> (try cases h)
  · rename_i i off
    cases hb : rdBox o i with
    | none => rw [hb] at h; cases h
    | some cs =>
      rw [hb] at h
      simp only [Option.bind_some] at h
      cases hc : cut off n cs with
      | none => rw [hc] at h; cases h
      | some l =>
        rw [hc] at h; cases h
        obtain ⟨h1, rfl⟩ := cut_some hc
        obtain ⟨k, hβ, c, ty, fr, h2, h3, h4, h5, h6⟩ := read_box hk hb
        obtain ⟨k', hβ', rfl⟩ := hr.ptr_inv
        rw [hβ] at hβ'; cases hβ'
        exact ⟨_, _, c, ty, fr, rfl, h2, by omega, relL_cut h6 h1⟩
  · rename_i i j off
    cases hb : rdVec o i with
    | none => rw [hb] at h; cases h
    | some ex =>
      rw [hb] at h
      simp only [Option.bind_some] at h
      cases hj : ex.2[j]? with
      | none => rw [hj] at h; cases h
      | some cc =>
        rw [hj] at h
        simp only [Option.bind_some] at h
        cases hc : cut off n cc with
        | none => rw [hc] at h; cases h
        | some l =>
          rw [hc] at h; cases h
          obtain ⟨h1, rfl⟩ := cut_some hc
          obtain ⟨k, hβ, he, hlen, c, ty, fr, h2, h3, h4, h5, h6⟩ := read_vec hk hb
          obtain ⟨k', hβ', rfl⟩ := hr.ept_inv
          rw [hβ] at hβ'; cases hβ'
          have hcl : cc.length = ex.1 := hlen _ (List.mem_of_getElem? hj)
          have hfl := flat_cut hlen hj
          have hflen := flat_len hlen
          have hjlt := (List.getElem?_eq_some_iff.1 hj).1
          have hmul : j * ex.1 + ex.1 ≤ ex.2.length * ex.1 := by
            have := Nat.mul_le_mul_right ex.1 (Nat.succ_le_of_lt hjlt)
            rw [Nat.succ_mul] at this; exact this
          refine ⟨_, _, c, ty, fr, rfl, h2, by rw [he]; omega, ?_⟩
          have hcut : (cc.drop off).take n = (ex.2.flatten.drop (j * ex.1 + off)).take n := by
            rw [← hfl, List.drop_take, List.take_take, List.drop_drop]
            congr 1; omega
          rw [hcut, he]
          exact relL_cut h6 (by omega)
  · rename_i cells off
    cases hc : cut off n cells with
    | none => rw [hc] at h; cases h
    | some l =>
      rw [hc] at h; cases h
      obtain ⟨h1, rfl⟩ := cut_some hc
      have hp := hr.imp_inv
      cases hp with
      | imp _ _ b base x hcc ho hrr =>
        have h0 := hcc off (cells[off]'(by omega)) (List.getElem?_eq_getElem (by omega))
        unfold cellAt at h0
        cases hm : M b with
        | none => simp [hm] at h0
        | some ob =>
          cases ob with
          | cells c ty fr =>
            have hw := hk.sr.sub b _ hm
            have hget : ∀ j, off + j < cells.length → c[base + (off + j)]? = some (x (off + j)) := by
              intro j hj
              have := hcc (off + j) (cells[off + j]'hj) (List.getElem?_eq_getElem hj)
              simpa [cellAt, hm] using this
            have hlast := (Array.getElem?_eq_some_iff.1 (hget (n - 1) (by omega))).1
            refine ⟨b, base + off, c, ty, fr, rfl, hw, by omega, RelL.of_get (by simp; omega) ?_⟩
            intro j v hj
            rw [List.getElem?_take] at hj
            split at hj
            · rename_i hjn
              rw [List.getElem?_drop] at hj
              have hjl := (List.getElem?_eq_some_iff.1 hj).1
              refine ⟨x (off + j), ?_, ho _ v hj, .pure (hrr _ v hj)⟩
              rw [List.getElem?_take, if_pos hjn, List.getElem?_drop, Array.getElem?_toList, Nat.add_assoc]
              exact hget j hjl
            · cases hj
          | _ => simp [hm] at h0
def chkLoad (P : Program) (op : Go.Op) (agg : Option Nat) (x : Arg) : Bool := match op with
  | .load t y => chkA y x && (match agg with | some n => tagg P t && tsize P t n && decide (0 < n) | none => !tagg P t && tsome P t)
  | _ => false
theorem aggOf_some {agg : Option Nat} {cs : List V} {v : V} (h : aggOf agg cs = some v) : (agg.isSome = true ∧ v = .agg cs) ∨ (agg = none ∧ cs.head? = some v) := by
  cases agg with
  | some n => cases h; exact .inl ⟨rfl, rfl⟩
  | none => exact .inr ⟨rfl, h⟩
theorem run_loadVar {t : TypeId} {agg : Option Nat} {b off : Nat} {c : Array Value} {ty : TypeId} {fr : Nat × Nat} {cs : List V} {v : V}
    (hc : (match agg with | some n => tagg P t && tsize P t n && decide (0 < n) | none => !tagg P t && tsome P t) = true)
    (hw : w.heap[b]? = some (.cells c ty fr)) (hn : off + agg.getD 1 ≤ c.size) (hr : RelL M β cs ((c.toList.drop off).take (agg.getD 1))) (hv : aggOf agg cs = some v) :
    ∃ x, (loadVar t ⟨b, off, none⟩).run P w = .ok x w ∧ Rel M β v x ∧ ((agg = none → x.oneCell' = true)) := by
  cases agg with
  | some n =>
    simp only [Bool.and_eq_true, decide_eq_true_eq] at hc
    rcases aggOf_some hv with ⟨_, rfl⟩ | ⟨h, _⟩
    · refine ⟨.agg ((c.toList.drop off).take n).toArray, ?_, hr.agg, by simp⟩
      have hn' : off + n ≤ c.size := hn
      simp only [loadVar, Sem.run_bind, tagg_run hc.1.1, Result.andThen_ok, if_true, tsize_run hc.1.2, run_loadCells_at hw hn', Sem.run_pure]
    · cases h
  | none =>
    simp only [Bool.and_eq_true, Bool.not_eq_true'] at hc
    rcases aggOf_some hv with ⟨h, _⟩ | ⟨_, hh⟩
    · cases h
    · simp only [Option.getD_none] at hn hr
      have hlt : off < c.size := by omega
      have h1 : (c.toList.drop off).take 1 = [c[off]] := by
        rw [List.drop_eq_getElem_cons (by simpa using hlt)]; simp
      rw [h1] at hr
      cases cs with
      | nil => cases hh
      | cons u r =>
        simp at hh; subst hh
        refine ⟨c[off], ?_, hr.2.1 0 u _ (by simp) (by simp), fun _ => hr.2.2 _ (by simp)⟩
        simp only [loadVar, Sem.run_bind, tagg_run' hc.1 hc.2, Result.andThen_ok, Bool.false_eq_true, if_false]
        rw [run_load]
        simp [cell_at hw, hlt]
theorem snd_load {p : Oper} {agg : Option Nat} {x : Arg} {r : List V × List Nat} {v : V} (hc : chkLoad P p.op agg x = true) (hp : peek o (agg.getD 1) (evA G e x) = some r) (hv : aggOf agg r.1 = some v)
    (hk : Ok M β N Lb w0 o w) (he : EnvR M β e a) (hg : GOK M G) : Gd M β N Lb w0 ks o v ((execOp a.eval p).run P w) := by
  unfold chkLoad at hc
  split at hc
  · rename_i t y hop
    simp only [Bool.and_eq_true] at hc
    have hn : 0 < agg.getD 1 := by
      cases agg with
      | some n => simp only [Bool.and_eq_true, decide_eq_true_eq] at hc; exact hc.2.2
      | none => simp
    obtain ⟨b, off, c, ty, fr, h1, h2, h3, h4⟩ := peek_sound hk hn hp (evA_sound hc.1 he hg)
    obtain ⟨z, h5, h6, _⟩ := run_loadVar hc.2 h2 h3 h4 hv
    refine .pure hk ?_ h6
    simp only [execOp, hop, Sem.run_bind, Instr.loadAt, h1, Instr.sureAddr, Sem.run_pure, Result.andThen_ok, h5]
  · cases hc
def fieldIs (P : Program) (s f off : Nat) : Bool := match P.underlying s with
  | some (.struct fs) => (match fs[f]? with
    | some fl => fl.offset == off && (match P.info? fl.type with | some i => decide (i.size ≠ 0) | none => false)
    | none => false)
  | _ => false
def chkFieldAddr (P : Program) (op : Go.Op) (off : Nat) (x : Arg) : Bool := match op with
  | .fieldAddr s y f => chkA y x && fieldIs P s f off
  | _ => false
theorem run_fieldAt {s f off : Nat} {b p : Nat} (h : fieldIs P s f off = true) : (Instr.fieldAt s (.pointer (some ⟨b, p, none⟩)) f).run P w = .ok (.pointer (some ⟨b, p + off, none⟩)) w := by
  unfold fieldIs at h
  split at h
  · rename_i fs hu
    split at h
    · rename_i fl hf
      simp only [Bool.and_eq_true, beq_iff_eq] at h
      obtain ⟨rfl, h2⟩ := h
      split at h2
      · rename_i i hi
        have hs : i.size ≠ 0 := of_decide_eq_true h2
        simp [Instr.fieldAt, run_underlying hu, hf, Instr.sureAddr, fieldPlace, sizeOf, typeInfo, hi, hs, addr_add]
      · cases h2
    · cases h
  · cases h
theorem snd_fieldAddr {p : Oper} {off : Nat} {x : Arg} {v : V} (hc : chkFieldAddr P p.op off x = true)
    (hv : (match evA G e x with | .ptr i a => some (V.ptr i (a + off)) | .ept i j a => some (.ept i j (a + off)) | .imp c a => some (.imp c (a + off)) | _ => none) = some v)
    (hk : Ok M β N Lb w0 o w) (he : EnvR M β e a) (hg : GOK M G) : Gd M β N Lb w0 ks o v ((execOp a.eval p).run P w) := by
  unfold chkFieldAddr at hc
  split at hc
  · rename_i s y f hop
    simp only [Bool.and_eq_true] at hc
    have h1 := evA_sound hc.1 he hg
    split at hv
    · rename_i i q hx
      cases hv
      rw [hx] at h1
      obtain ⟨k, h2, h3⟩ := h1.ptr_inv
      refine .pure hk ?_ (.ptr _ _ k h2)
      simp only [execOp, hop, h3, Sem.run_bind, run_fieldAt hc.2, Result.andThen_ok, Sem.run_pure]
    · rename_i i j q hx
      cases hv
      rw [hx] at h1
      obtain ⟨k, h2, h3⟩ := h1.ept_inv
      refine .pure (x := .pointer (some ⟨k.b, j * k.esz + (q + off), none⟩)) hk ?_ (.ept _ _ _ k h2)
      simp only [execOp, hop, h3, Sem.run_bind, run_fieldAt hc.2, Result.andThen_ok, Sem.run_pure, Nat.add_assoc]
    · rename_i c q hx
      cases hv
      rw [hx] at h1
      have h2 := h1.imp_inv
      generalize hz : a.eval y = z at *
      cases h2 with
      | imp _ _ b base xx hcc ho hr =>
        refine .pure (x := .pointer (some ⟨b, base + (q + off), none⟩)) hk ?_ (.pure (.imp _ _ _ _ xx hcc ho hr))
        simp only [execOp, hop, hz, Sem.run_bind, run_fieldAt hc.2, Result.andThen_ok, Sem.run_pure, Nat.add_assoc]
    · cases hv
  · cases hc
theorem asN_some {v : V} {n : Nat} (h : asN v = some n) : ∃ k m, v = .int k m ∧ 0 ≤ m ∧ m = n := by
  cases v <;> simp only [asN] at h <;> (try cases h)
  split at h
  · rename_i hm; cases h; exact ⟨_, _, rfl, hm, by omega⟩
  · cases h
def chkIndexA (P : Program) (op : Go.Op) (n esz : Nat) (x i : Arg) : Bool := match op with
  | .indexAddr t y j => chkA y x && chkA j i && (match P.underlying t with | some (.array m el) => m == n && tsize P el esz | _ => false)
  | _ => false
theorem run_indexAt {t el n esz b q : Nat} {k : IntKind} {m : Nat} (hu : P.underlying t = some (.array n el)) (hs : tsize P el esz = true) (hm : m < n) :
    (Instr.indexAt t (.pointer (some ⟨b, q, none⟩)) (.int k m)).run P w = .ok (.pointer (some ⟨b, q + m * esz, none⟩)) w := by
  have h2 : (m : Int) < n := by omega
  have h1 : (0 : Int) ≤ m := by omega
  have h3 : (0 : Int) ≤ m ∧ (m : Int) < n := ⟨h1, h2⟩
  simp only [Instr.indexAt, asIntOf, run_underlying hu, Instr.sureAddr, Sem.run_bind, Sem.run_pure, Result.andThen_ok]
  rw [if_pos h3]
  simp [tsize_run hs, addr_add]
theorem snd_indexAddrA {p : Oper} {n esz : Nat} {x i : Arg} {j : Nat} {v : V} (hc : chkIndexA P p.op n esz x i = true) (hj : asN (evA G e i) = some j) (hlt : j < n)
    (hv : (match evA G e x with | .ptr i a => some (V.ptr i (a + j * esz)) | .ept i k a => some (.ept i k (a + j * esz)) | .imp c a => some (.imp c (a + j * esz)) | _ => none) = some v)
    (hk : Ok M β N Lb w0 o w) (he : EnvR M β e a) (hg : GOK M G) : Gd M β N Lb w0 ks o v ((execOp a.eval p).run P w) := by
  unfold chkIndexA at hc
  split at hc
  · rename_i t y j' hop
    simp only [Bool.and_eq_true] at hc
    have hc2 := hc.2
    split at hc2
    · rename_i m el hu
      simp only [Bool.and_eq_true, beq_iff_eq] at hc2
      obtain ⟨rfl, hs⟩ := hc2
      have h1 := evA_sound hc.1.1 he hg
      have h2 := evA_sound hc.1.2 he hg
      obtain ⟨kk, mm, hi, _, rfl⟩ := asN_some hj
      rw [hi] at h2
      have h3 := h2.int_inv
      split at hv
      · rename_i i' q hx
        cases hv
        rw [hx] at h1
        obtain ⟨k, h4, h5⟩ := h1.ptr_inv
        refine .pure hk ?_ (.ptr _ _ k h4)
        simp only [execOp, hop, h5, h3, Sem.run_bind, run_indexAt hu hs hlt, Result.andThen_ok, Sem.run_pure]
      · rename_i i' j q hx
        cases hv
        rw [hx] at h1
        obtain ⟨k, h4, h5⟩ := h1.ept_inv
        refine .pure (x := .pointer (some ⟨k.b, _, none⟩)) hk ?_ (.ept _ _ _ k h4)
        simp only [execOp, hop, h5, h3, Sem.run_bind, run_indexAt hu hs hlt, Result.andThen_ok, Sem.run_pure, Nat.add_assoc]
      · rename_i c q hx
        cases hv
        rw [hx] at h1
        have h4 := h1.imp_inv
        generalize hz : a.eval y = z at *
        cases h4 with
        | imp _ _ b base xx hcc ho hr =>
          refine .pure (x := .pointer (some ⟨b, _, none⟩)) hk ?_ (.pure (.imp _ _ _ _ xx hcc ho hr))
          simp only [execOp, hop, hz, h3, Sem.run_bind, run_indexAt hu hs hlt, Result.andThen_ok, Sem.run_pure, Nat.add_assoc]
      · cases hv
    · cases hc2
  · cases hc
def chkIndexL (P : Program) (op : Go.Op) (esz : Nat) (x i : Arg) : Bool := match op with
  | .indexAddr t y j => chkA y x && chkA j i && (match P.underlying t with | some (.slice el) => tsize P el esz | _ => false)
  | _ => false
theorem run_indexAtL {t el n esz b q c : Nat} {k : IntKind} {m : Nat} (hu : P.underlying t = some (.slice el)) (hs : tsize P el esz = true) (hm : m < n) :
    (Instr.indexAt t (.slice (some ⟨b, q, none⟩) n c) (.int k m)).run P w = .ok (.pointer (some ⟨b, q + m * esz, none⟩)) w := by
  have h2 : (m : Int) < n := by omega
  have h3 : (0 : Int) ≤ m ∧ (m : Int) < n := ⟨by omega, h2⟩
  simp only [Instr.indexAt, asIntOf, run_underlying hu, Sem.run_bind, Sem.run_pure, Result.andThen_ok]
  rw [if_pos h3]
  simp [tsize_run hs, addr_add]
theorem snd_indexAddrL {p : Oper} {esz : Nat} {x i : Arg} {j : Nat} {act : Act} (hc : chkIndexL P p.op esz x i = true) (hj : asN (evA G e i) = some j)
    (hv : idxL o esz j (evA G e x) = some act)
    (hk : Ok M β N Lb w0 o w) (he : EnvR M β e a) (hg : GOK M G) : Gd M β N Lb w0 ks o act.val ((execOp a.eval p).run P w) ∧ act.ups = [] := by
  unfold chkIndexL at hc
  split at hc
  · rename_i t y j' hop
    simp only [Bool.and_eq_true] at hc
    have hc2 := hc.2
    split at hc2
    · rename_i el hu
      have h1 := evA_sound hc.1.1 he hg
      have h2 := evA_sound hc.1.2 he hg
      obtain ⟨kk, mm, hi, _, rfl⟩ := asN_some hj
      rw [hi] at h2
      have h3 := h2.int_inv
      unfold idxL at hv
      split at hv
      · rename_i s xs hx
        split at hv
        · rename_i hs; subst hs
          cases hxs : xs[j]? with
          | none => rw [hxs] at hv; cases hv
          | some c =>
            rw [hxs] at hv; cases hv
            rw [hx] at h1
            have h4 := h1.sl_inv
            generalize hz : a.eval y = z at *
            have hlt := (List.getElem?_eq_some_iff.1 hxs).1
            cases h4 with
            | sl _ _ ad cap b off xx hcap ha hel hcc ho hr =>
              have had := ha (by intro h0; rw [h0] at hlt; simp at hlt)
              subst had
              refine ⟨.pure (x := .pointer (some ⟨b, (off + j * s) + 0, none⟩)) hk ?_ (.pure (.imp _ _ _ _ (xx j) (fun l v hl => by have := hcc j c l v hxs hl; rwa [Nat.add_assoc]) (fun l v hl => ho j c l v hxs hl) (fun l v hl => hr j c l v hxs hl))), rfl⟩
              simp only [execOp, hop, hz, h3, Sem.run_bind, run_indexAtL hu hc2 hlt, Result.andThen_ok, Sem.run_pure, Nat.add_zero]
        · cases hv
      · rename_i i' st len hx
        rw [hx] at h1
        cases hrv : rdVec o i' with
        | none => rw [hrv] at hv; cases hv
        | some ex =>
          rw [hrv] at hv
          simp only [Option.bind_some] at hv
          split at hv
          · rename_i hlt; cases hv
            obtain ⟨hve, hlt⟩ := hlt
            obtain ⟨k, hβ, he', _⟩ := read_vec hk hrv
            generalize hz : a.eval y = z at *
            cases h1 with
            | pure h => cases h
            | vslE _ _ _ _ _ => omega
            | vsl _ _ _ cap k' hk' hl hs =>
              rw [hβ] at hk'; cases hk'
              refine ⟨.pure (x := .pointer (some ⟨k.b, (st + j) * k.esz + 0, none⟩)) hk ?_ (.ept _ _ _ k hβ), rfl⟩
              rw [← hve, ← he'] at hc2
              have := run_indexAtL (P := P) (w := w) (b := k.b) (q := st * k.esz) (c := cap) (k := kk) hu hc2 hlt
              simp only [execOp, hop, hz, h3, Sem.run_bind, this, Result.andThen_ok, Sem.run_pure, Nat.add_zero, Nat.add_mul]
          · cases hv
      · rename_i i' off len s hx
        rw [hx] at h1
        split at hv
        · rename_i hlt; cases hv
          obtain ⟨rfl, hlt⟩ := hlt
          generalize hz : a.eval y = z at *
          cases h1 with
          | pure h => cases h
          | bslE _ _ _ _ _ => omega
          | bsl _ _ _ _ cap k' hk' hl =>
            refine ⟨.pure (x := .pointer (some ⟨k'.b, off + j * s, none⟩)) hk ?_ (.ptr _ _ k' hk'), rfl⟩
            have := run_indexAtL (P := P) (w := w) (b := k'.b) (q := off) (c := cap) (k := kk) hu hc2 hlt
            simp only [execOp, hop, hz, h3, Sem.run_bind, this, Result.andThen_ok, Sem.run_pure]
        · cases hv
      · cases hv
    · cases hc2
  · cases hc
end
end Go.Proofs.Ytoccgkgdhobmfaa.Am
set_option linter.unusedVariables false
set_option linter.unusedSimpArgs false
namespace Go.Proofs.Ytoccgkgdhobmfaa.Am
open Go
section
variable {P : Program} {M : Mem} {β : Names} {N : Nat} {Lb : Nat → Prop} {w0 w : World} {o : Hp} {ks : List Nat} {e : Env} {a : Go.Act} {G : Nat → Option (List V)}
def partOk (P : Program) (t : Nat) (agg : Option Nat) : Bool := match agg with
  | some n => tagg P t && tsize P t n
  | none => !tagg P t && tsome P t
theorem arr_relL {cs : List V} {xs : Array Value} (hl : xs.size = cs.length) (ho : ∀ (j : Nat) v, cs[j]? = some v → (xs.getD j undef).oneCell' = true)
    (hr : ∀ (j : Nat) v, cs[j]? = some v → Rel M β v (xs.getD j undef)) : RelL M β cs xs.toList := by
  refine RelL.of_get (by simp [hl]) ?_
  intro j v hj
  have hlt : j < xs.size := by rw [hl]; exact (List.getElem?_eq_some_iff.1 hj).1
  have h1 := ho j v hj
  have h2 := hr j v hj
  have hx : xs[j]? = some xs[j] := by simp [hlt]
  rw [getD_of_getElem? hx] at h1 h2
  exact ⟨xs[j], by simp [hlt], h1, h2⟩
theorem run_part {t : Nat} {agg : Option Nat} {cs l : List V} {xs : Array Value} {off : Nat} {v : V} (hc : partOk P t agg = true) (hr : RelL M β cs xs.toList)
    (hcut : cut off (agg.getD 1) cs = some l) (hv : aggOf agg l = some v) : ∃ x, (part t xs off).run P w = .ok x w ∧ Rel M β v x ∧ (agg = none → x.oneCell' = true) := by
  obtain ⟨h1, rfl⟩ := cut_some hcut
  have hrl := (hr.drop off).take (agg.getD 1)
  have hsz : cs.length = xs.size := by simpa using hr.1
  cases agg with
  | some n =>
    simp only [partOk, Bool.and_eq_true] at hc
    rcases aggOf_some hv with ⟨_, rfl⟩ | ⟨h, _⟩
    · refine ⟨.agg ((xs.toList.drop off).take n).toArray, ?_, hrl.agg, by simp⟩
      have hx : xs.extract off (off + n) = ((xs.toList.drop off).take n).toArray := by
        apply Array.ext'
        simp [List.extract_eq_take_drop]
      simp only [part, Sem.run_bind, tagg_run hc.1, Result.andThen_ok, if_true, tsize_run hc.2, Sem.run_pure, hx]
    · cases h
  | none =>
    simp only [partOk, Bool.and_eq_true, Bool.not_eq_true'] at hc
    rcases aggOf_some hv with ⟨h, _⟩ | ⟨_, hh⟩
    · cases h
    · simp only [Option.getD_none] at h1 hrl hh
      have hlt : off < xs.size := by omega
      have h2 : (xs.toList.drop off).take 1 = [xs[off]] := by
        rw [List.drop_eq_getElem_cons (by simpa using hlt)]; simp
      rw [h2] at hrl
      cases hcs : (cs.drop off).take 1 with
      | nil => rw [hcs] at hh; cases hh
      | cons u r =>
        rw [hcs] at hh hrl; simp at hh; subst hh
        refine ⟨xs[off], ?_, hrl.2.1 0 u _ (by simp) (by simp), fun _ => hrl.2.2 _ (by simp)⟩
        simp only [part, Sem.run_bind, tagg_run' hc.1 hc.2, Result.andThen_ok, Bool.false_eq_true, if_false]
        simp [hlt]
def chkField (P : Program) (op : Go.Op) (off : Nat) (agg : Option Nat) (x : Arg) : Bool := match op with
  | .field s y f => chkA y x && (match P.underlying s with
    | some (.struct fs) => (match fs[f]? with | some fl => fl.offset == off && partOk P fl.type agg | none => false)
    | _ => false)
  | _ => false
theorem snd_field {p : Oper} {off : Nat} {agg : Option Nat} {x : Arg} {cs l : List V} {v : V} (hc : chkField P p.op off agg x = true) (hx : evA G e x = .agg cs)
    (hcut : cut off (agg.getD 1) cs = some l) (hv : aggOf agg l = some v) (hk : Ok M β N Lb w0 o w) (he : EnvR M β e a) (hg : GOK M G) :
    Gd M β N Lb w0 ks o v ((execOp a.eval p).run P w) := by
  unfold chkField at hc
  split at hc
  · rename_i s y f hop
    simp only [Bool.and_eq_true] at hc
    have hc2 := hc.2
    split at hc2
    · rename_i fs hu
      split at hc2
      · rename_i fl hf
        simp only [Bool.and_eq_true, beq_iff_eq] at hc2
        obtain ⟨rfl, hp⟩ := hc2
        have h1 := evA_sound hc.1 he hg
        rw [hx] at h1
        obtain ⟨xs, h2, h3, h4, h5⟩ := h1.agg_inv
        obtain ⟨z, h6, h7, _⟩ := run_part (P := P) (w := w) hp (arr_relL h3 h4 h5) hcut hv
        refine .pure hk ?_ h7
        simp only [execOp, hop, h2, Instr.field, Sem.run_bind, run_underlying hu, Result.andThen_ok, hf, asAgg, Sem.run_pure, h6]
      · cases hc2
    · cases hc2
  · cases hc
def chkIndexV (P : Program) (op : Go.Op) (n esz : Nat) (agg : Bool) (x i : Arg) : Bool := match op with
  | .index t y j => chkA y x && chkA j i && (match P.underlying t with
    | some (.array m el) => m == n && tsize P el esz && partOk P el (if agg then some esz else none) && (agg || esz == 1)
    | _ => false)
  | _ => false
theorem snd_indexV {p : Oper} {n esz : Nat} {agg : Bool} {x i : Arg} {j : Nat} {cs l : List V} {v : V} (hc : chkIndexV P p.op n esz agg x i = true) (hj : asN (evA G e i) = some j)
    (hx : evA G e x = .agg cs) (hlt : j < n) (hcut : cut (j * esz) esz cs = some l) (hv : aggOf (if agg then some esz else none) l = some v)
    (hk : Ok M β N Lb w0 o w) (he : EnvR M β e a) (hg : GOK M G) : Gd M β N Lb w0 ks o v ((execOp a.eval p).run P w) := by
  unfold chkIndexV at hc
  split at hc
  · rename_i t y j' hop
    simp only [Bool.and_eq_true] at hc
    have hc2 := hc.2
    split at hc2
    · rename_i m el hu
      simp only [Bool.and_eq_true, beq_iff_eq] at hc2
      obtain ⟨⟨⟨rfl, hs⟩, hp⟩, hag⟩ := hc2
      have h1 := evA_sound hc.1.1 he hg
      rw [hx] at h1
      obtain ⟨xs, h2, h3, h4, h5⟩ := h1.agg_inv
      have hi := evA_sound hc.1.2 he hg
      obtain ⟨kk, mm, hie, _, rfl⟩ := asN_some hj
      rw [hie] at hi
      have hi2 := hi.int_inv
      have hd : (if agg then some esz else none : Option Nat).getD 1 = esz := by
        cases agg
        · simp at hag; simp [hag]
        · rfl
      obtain ⟨z, h6, h7, _⟩ := run_part (P := P) (w := w) hp (arr_relL h3 h4 h5) (by rw [hd]; exact hcut) hv
      refine .pure hk ?_ h7
      have hb : (0 : Int) ≤ j ∧ (j : Int) < m := by omega
      simp only [execOp, hop, h2, hi2, Instr.index, asIntOf, Sem.run_bind, Sem.run_pure, run_underlying hu, Result.andThen_ok]
      rw [if_pos hb]
      simp [tsize_run hs, h6]
    · cases hc2
  · cases hc
theorem str_get (s : List UInt8) (j : Nat) : (⟨s.toArray⟩ : ByteArray)[j]? = s[j]? := by
  simp only [getElem?_def]
  have : (⟨s.toArray⟩ : ByteArray).size = s.length := size_str s
  by_cases h : j < s.length
  · rw [dif_pos h, dif_pos (by rw [this]; exact h)]; rfl
  · rw [dif_neg h, dif_neg (by rw [this]; exact h)]
def chkIndexS (P : Program) (op : Go.Op) (x i : Arg) : Bool := match op with | .index t y j => chkA y x && chkA j i && isStr P t | _ => false
theorem snd_indexS {p : Oper} {x i : Arg} {j : Nat} {s : List UInt8} {c : UInt8} (hc : chkIndexS P p.op x i = true) (hj : asN (evA G e i) = some j) (hx : evA G e x = .str s) (hs : s[j]? = some c)
    (hk : Ok M β N Lb w0 o w) (he : EnvR M β e a) (hg : GOK M G) : Gd M β N Lb w0 ks o (.int .u8 c.toNat) ((execOp a.eval p).run P w) := by
  unfold chkIndexS at hc
  split at hc
  · rename_i t y j' hop
    simp only [Bool.and_eq_true] at hc
    have hu := isStr_of hc.2
    have h1 := evA_sound hc.1.1 he hg
    rw [hx] at h1
    have hi := evA_sound hc.1.2 he hg
    obtain ⟨kk, mm, hie, _, rfl⟩ := asN_some hj
    rw [hie] at hi
    refine .pure hk ?_ (.pure (.int _ _))
    have hb : (0 : Int) ≤ j := by omega
    have hg' : (⟨s.toArray⟩ : ByteArray)[(j : Int).toNat]? = some c := by rw [Int.toNat_natCast, str_get]; exact hs
    simp only [execOp, hop, h1.str_inv, hi.int_inv, Instr.index, asIntOf, Sem.run_bind, Sem.run_pure, run_underlying hu, Result.andThen_ok]
    rw [if_pos hb, hg']
    simp
  · cases hc
def chkO (x : Option Operand) (y : Option Arg) : Bool := match x, y with
  | none, none => true
  | some x, some y => chkA x y
  | _, _ => false
theorem run_bound {x : Value} {k : IntKind} {m y : Nat} {c : BoundsCode} (hx : x = .int k m) (h : m ≤ y) : (Instr.sliceBound x y c).run P w = .ok m w := by
  subst hx
  have hb : (0 : Int) ≤ m ∧ (m : Int) ≤ y := by omega
  simp only [Instr.sliceBound, asIntOf, Sem.run_bind, Sem.run_pure, Result.andThen_ok]
  rw [if_pos hb]; simp
theorem opt_val {x : Option Operand} {y : Option Arg} {d n : Nat} (h : chkO x y = true) (hn : optN G e d y = some n) (he : EnvR M β e a) (hg : GOK M G) :
    (x = none ∧ n = d) ∨ ∃ z k, x = some z ∧ a.eval z = .int k n := by
  cases x with
  | none => cases y with
    | none => simp only [optN, Option.some.injEq] at hn; exact .inl ⟨rfl, hn.symm⟩
    | some y => cases h
  | some z => cases y with
    | none => cases h
    | some y =>
      simp only [optN] at hn
      obtain ⟨k, m, h1, h2, rfl⟩ := asN_some hn
      have := evA_sound (M := M) (β := β) h he hg
      rw [h1] at this
      exact .inr ⟨z, k, rfl, this.int_inv⟩
theorem run_bounds {lo hi : Option Operand} {lo' hi' : Option Arg} {l h len cap : Nat} {isS : Bool} (h1 : chkO lo lo' = true) (h2 : chkO hi hi' = true) (hl : optN G e 0 lo' = some l) (hh : optN G e len hi' = some h)
    (hlh : l ≤ h) (hhl : h ≤ len) (hlc : len ≤ cap) (he : EnvR M β e a) (hg : GOK M G) :
    (Instr.sliceBounds isS len cap (lo.map a.eval) (hi.map a.eval) none).run P w = .ok (l, h, cap) w := by
  rcases opt_val (M := M) (β := β) h1 hl he hg with ⟨rfl, rfl⟩ | ⟨z, k, rfl, hz⟩ <;> rcases opt_val (M := M) (β := β) h2 hh he hg with ⟨rfl, rfl⟩ | ⟨z', k', rfl, hz'⟩
  · simp [Instr.sliceBounds]
  · simp only [Instr.sliceBounds, Option.map_none, Option.map_some, Sem.run_bind, Sem.run_pure, Result.andThen_ok, run_bound hz' (show h ≤ cap by omega)]
  · simp only [Instr.sliceBounds, Option.map_none, Option.map_some, Sem.run_bind, Sem.run_pure, Result.andThen_ok, run_bound hz hlh]
  · simp only [Instr.sliceBounds, Option.map_none, Option.map_some, Sem.run_bind, Sem.run_pure, Result.andThen_ok, run_bound hz' (show h ≤ cap by omega), run_bound hz hlh]
theorem extract_str (s : List UInt8) (l h : Nat) : (⟨s.toArray⟩ : ByteArray).extract l h = ⟨((s.drop l).take (h - l)).toArray⟩ := by
  apply ByteArray.ext
  apply Array.ext'
  simp [Lib.extract_data]
def chkSliceS (P : Program) (op : Go.Op) (x : Arg) (lo hi : Option Arg) : Bool := match op with
  | .slice t y l h none => chkA y x && chkO l lo && chkO h hi && isStr P t
  | _ => false
theorem snd_sliceS {p : Oper} {x : Arg} {lo hi : Option Arg} {s : List UInt8} {l h : Nat} (hc : chkSliceS P p.op x lo hi = true) (hx : evA G e x = .str s)
    (hl : optN G e 0 lo = some l) (hh : optN G e s.length hi = some h) (hlh : l ≤ h) (hhl : h ≤ s.length)
    (hk : Ok M β N Lb w0 o w) (he : EnvR M β e a) (hg : GOK M G) : Gd M β N Lb w0 ks o (.str ((s.drop l).take (h - l))) ((execOp a.eval p).run P w) := by
  unfold chkSliceS at hc
  split at hc
  · rename_i t y lo' hi' hop
    simp only [Bool.and_eq_true] at hc
    have hu := isStr_of hc.2
    have h1 := evA_sound hc.1.1.1 he hg
    rw [hx] at h1
    have h2 := run_bounds (P := P) (w := w) (isS := false) hc.1.1.2 hc.1.2 hl hh hlh hhl (Nat.le_refl _) he hg
    refine .pure hk ?_ (.pure (.str _))
    simp only [execOp, hop, h1.str_inv, Instr.sliceAt, Instr.slice, Sem.run_bind, run_underlying hu, Result.andThen_ok, size_str, Option.map_none, Option.isSome_none, Bool.false_eq_true, if_false, Sem.run_pure, h2, extract_str]
  · cases hc
def chkSliceL (P : Program) (op : Go.Op) (esz : Nat) (x : Arg) (lo hi : Option Arg) : Bool := match op with
  | .slice t y l h none => chkA y x && chkO l lo && chkO h hi && (match P.underlying t with | some (.slice el) => tsize P el esz | _ => false)
  | _ => false
theorem snd_sliceL {p : Oper} {esz : Nat} {x : Arg} {lo hi : Option Arg} {n l h : Nat} {act : Act} (hc : chkSliceL P p.op esz x lo hi = true) (hn : lenOf (evA G e x) = some n)
    (hl : optN G e 0 lo = some l) (hh : optN G e n hi = some h) (hv : sliceElems o esz l h (evA G e x) = some act)
    (hk : Ok M β N Lb w0 o w) (he : EnvR M β e a) (hg : GOK M G) : Gd M β N Lb w0 ks o act.val ((execOp a.eval p).run P w) ∧ act.ups = [] := by
  unfold chkSliceL at hc
  split at hc
  · rename_i t y lo' hi' hop
    simp only [Bool.and_eq_true] at hc
    have hc2 := hc.2
    split at hc2
    · rename_i el hu
      have h1 := evA_sound hc.1.1.1 he hg
      obtain ⟨ad, c, hx, hnc⟩ := lenOf_sound hn h1
      have hrun : ∀ (hlh : l ≤ h) (hhl : h ≤ n), (execOp a.eval p).run P w = .ok (.value (.slice (if c = l then ad else ad.map (·.add (l * esz))) (h - l) (c - l))) w := by
        intro hlh hhl
        have h2 := run_bounds (P := P) (w := w) (isS := true) hc.1.1.2 hc.1.2 hl hh hlh hhl hnc he hg
        simp only [execOp, hop, hx, Instr.sliceAt, Instr.slice, Sem.run_bind, run_underlying hu, Result.andThen_ok, Option.map_none, Sem.run_pure, h2, tsize_run hc2]
      generalize hz : a.eval y = z at *
      unfold sliceElems at hv
      split at hv
      · rename_i s hxe
        split at hv
        · rename_i hs; cases hv
          obtain ⟨rfl, rfl, rfl⟩ := hs
          rw [hxe] at h1 hn
          cases hn
          have := h1.nils_inv
          rw [hx] at this; cases this
          exact ⟨.pure hk (hrun (Nat.le_refl _) (Nat.le_refl _)) (.pure (.nils _)), rfl⟩
        · cases hv
      · rename_i s xs hxe
        split at hv
        · rename_i hs; cases hv
          obtain ⟨rfl, hlh, hhl⟩ := hs
          rw [hxe] at h1 hn
          cases hn
          have hp := h1.sl_inv
          rw [hx] at hp
          refine ⟨.pure hk (hrun hlh hhl) ?_, rfl⟩
          cases hp with
          | sl _ _ _ _ b off xx hcap ha hel hcc ho hr =>
            have hlen : ((xs.drop l).take (h - l)).length = h - l := by simp; omega
            have hget : ∀ (i : Nat) (cc : List V), ((xs.drop l).take (h - l))[i]? = some cc → xs[l + i]? = some cc := by
              intro i cc hi
              rw [List.getElem?_take] at hi
              split at hi
              · rwa [List.getElem?_drop] at hi
              · cases hi
            have hne : (xs.drop l).take (h - l) ≠ [] → c ≠ l := by
              intro h0
              have : 0 < h - l := by
                rcases Nat.eq_zero_or_pos (h - l) with h00 | h00
                · rw [h00] at h0; simp at h0
                · exact h00
              omega
            have := PRel.sl (M := M) s ((xs.drop l).take (h - l)) (if c = l then ad else ad.map (·.add (l * s))) (c - l) b (off + l * s) (fun i j => xx (l + i) j) (by rw [hlen]; omega)
              (by
                intro h0
                rw [if_neg (hne h0), ha (by intro hxs; rw [hxs] at h0; simp at h0)]
                simp [addr_add])
              (fun i cc hi => hel _ cc (hget i cc hi))
              (fun i cc j v hi hj => by
                have := hcc _ cc j v (hget i cc hi) hj
                rw [← this]; congr 1; rw [Nat.add_mul]; omega)
              (fun i cc j v hi hj => ho _ cc j v (hget i cc hi) hj)
              (fun i cc j v hi hj => hr _ cc j v (hget i cc hi) hj)
            rw [hlen] at this
            exact .pure this
        · cases hv
      · rename_i i st len hxe
        rw [hxe] at h1 hn
        cases hn
        cases hrv : rdVec o i with
        | none => rw [hrv] at hv; cases hv
        | some ex =>
          rw [hrv] at hv
          simp only [Option.bind_some] at hv
          split at hv
          · rename_i hs; cases hv
            obtain ⟨hve, hlh, hhl⟩ := hs
            obtain ⟨k, hβ, he', _⟩ := read_vec hk hrv
            refine ⟨.pure hk (hrun hlh hhl) ?_, rfl⟩
            rw [hx] at h1
            cases h1 with
            | pure h => cases h
            | vslE _ _ _ _ hst0 =>
              have h00 : h = 0 ∧ l = 0 := by omega
              obtain ⟨rfl, rfl⟩ := h00
              exact .vslE _ _ _ _ (by omega)
            | vsl _ _ _ _ k' hk' hl' hs' =>
              rw [hβ] at hk'; cases hk'
              by_cases hcl : c = l
              · subst hcl
                have : h - c = 0 := by omega
                rw [this]
                by_cases hst : st + c = 0
                · have h0 : st = 0 ∧ c = 0 := by omega
                  obtain ⟨rfl, rfl⟩ := h0
                  simp only [if_true]
                  exact .vsl _ _ _ _ k hβ (by omega) (by omega)
                · exact .vslE _ _ _ _ hst
              · simp only [hcl, if_false, Option.map_some, addr_add]
                have hle : l * esz = l * k.esz := by rw [he', hve]
                rw [hle, ← Nat.add_mul]
                refine .vsl _ _ _ _ k hβ (by omega) ?_
                have : (st + l) * k.esz + (c - l) * k.esz = st * k.esz + c * k.esz := by
                  rw [← Nat.add_mul, ← Nat.add_mul]; congr 1; omega
                omega
          · cases hv
      · rename_i i off len s hxe
        split at hv
        · rename_i hs; cases hv
          obtain ⟨rfl, hlh, hhl⟩ := hs
          rw [hxe] at h1 hn
          cases hn
          refine ⟨.pure hk (hrun hlh hhl) ?_, rfl⟩
          rw [hx] at h1
          by_cases h0 : h - l = 0
          · rw [h0]; exact .bslE _ _ _ _ _
          · cases h1 with
            | pure h => cases h
            | bslE _ _ _ _ _ => omega
            | bsl _ _ _ _ _ k' hk' hl' =>
              have hcl : c ≠ l := by omega
              simp only [hcl, if_false, Option.map_some, addr_add]
              exact .bsl _ _ _ _ _ k' hk' (by omega)
        · cases hv
      · cases hv
    · cases hc2
  · cases hc
def chkSliceA (P : Program) (op : Go.Op) (n esz : Nat) (x : Arg) (lo hi : Option Arg) : Bool := match op with
  | .slice t y l h none => chkA y x && chkO l lo && chkO h hi && (match P.underlying t with | some (.array m el) => m == n && tsize P el esz | _ => false)
  | _ => false
theorem snd_sliceA {p : Oper} {n esz : Nat} {x : Arg} {lo hi : Option Arg} {i off l h : Nat} (hc : chkSliceA P p.op n esz x lo hi = true) (hx : evA G e x = .ptr i off)
    (hl : optN G e 0 lo = some l) (hh : optN G e n hi = some h) (hlh : l ≤ h) (hhl : h ≤ n)
    (hk : Ok M β N Lb w0 o w) (he : EnvR M β e a) (hg : GOK M G) : Gd M β N Lb w0 ks o (.bsl i (off + l * esz) (h - l) esz) ((execOp a.eval p).run P w) := by
  unfold chkSliceA at hc
  split at hc
  · rename_i t y lo' hi' hop
    simp only [Bool.and_eq_true] at hc
    have hc2 := hc.2
    split at hc2
    · rename_i m el hu
      simp only [Bool.and_eq_true, beq_iff_eq] at hc2
      obtain ⟨rfl, hs⟩ := hc2
      have h1 := evA_sound hc.1.1.1 he hg
      rw [hx] at h1
      obtain ⟨k, h2, h3⟩ := h1.ptr_inv
      have h4 := run_bounds (P := P) (w := w) (isS := false) hc.1.1.2 hc.1.2 hl hh hlh hhl (Nat.le_refl _) he hg
      have hrun : (execOp a.eval p).run P w = .ok (.value (.slice (some (if m = l then ⟨k.b, off, none⟩ else ⟨k.b, off + l * esz, none⟩)) (h - l) (m - l))) w := by
        simp only [execOp, hop, h3, Instr.sliceAt, Sem.run_bind, run_underlying hu, Result.andThen_ok, Option.map_none, Instr.sureAddr, Sem.run_pure, h4, tsize_run hs, addr_add]
      refine .pure hk hrun ?_
      by_cases h0 : h - l = 0
      · rw [h0]; exact .bslE _ _ _ _ _
      · rw [if_neg (by omega)]
        exact .bsl _ _ _ _ _ k h2 (by omega)
    · cases hc2
  · cases hc
def chkArrPtr (P : Program) (op : Go.Op) (n : Nat) (x : Arg) : Bool := match op with
  | .sliceToArrayPointer t y => chkA y x && (match P.underlying t with | some (.array m el) => m == n | _ => false)
  | _ => false
theorem snd_arrPtr {p : Oper} {n : Nat} {x : Arg} {i off len s : Nat} (hc : chkArrPtr P p.op n x = true) (hx : evA G e x = .bsl i off len s) (h0 : 0 < n) (hn : n ≤ len)
    (hk : Ok M β N Lb w0 o w) (he : EnvR M β e a) (hg : GOK M G) : Gd M β N Lb w0 ks o (.ptr i off) ((execOp a.eval p).run P w) := by
  unfold chkArrPtr at hc
  split at hc
  · rename_i t y hop
    simp only [Bool.and_eq_true] at hc
    have hc2 := hc.2
    split at hc2
    · rename_i m el hu
      simp only [beq_iff_eq] at hc2; subst hc2
      have h1 := evA_sound hc.1 he hg
      rw [hx] at h1
      generalize hz : a.eval y = z at *
      cases h1 with
      | pure h => cases h
      | bslE _ _ _ _ _ => omega
      | bsl _ _ _ _ cap k hk' hl =>
        refine .pure hk ?_ (.ptr _ _ k hk')
        simp only [execOp, hop, hz, Instr.arrayAt, Sem.run_bind, run_underlying hu, Result.andThen_ok]
        rw [if_neg (by omega)]
        simp
    · cases hc2
  · cases hc
end
end Go.Proofs.Ytoccgkgdhobmfaa.Am
set_option linter.unusedVariables false
set_option linter.unusedSimpArgs false
namespace Go.Proofs.Ytoccgkgdhobmfaa.Am
open Go
theorem flat_index {e q : Nat} {xs : List (List V)} {v : V} (he : 0 < e) (h : ∀ l ∈ xs, l.length = e) (hq : xs.flatten[q]? = some v) :
    ∃ l, xs[q / e]? = some l ∧ l[q % e]? = some v ∧ q / e * e + q % e = q := by
  have hlt := (List.getElem?_eq_some_iff.1 hq).1
  rw [flat_len h] at hlt
  have h1 : q / e < xs.length := (Nat.div_lt_iff_lt_mul he).2 hlt
  have h2 : (xs[q / e]).length = e := h _ (List.getElem_mem _)
  have h3 : q % e < e := Nat.mod_lt _ he
  have h4 : xs[q / e]? = some xs[q / e] := List.getElem?_eq_getElem h1
  have h5 : (xs[q / e])[q % e]? = some ((xs[q / e])[q % e]'(by omega)) := List.getElem?_eq_getElem (by omega)
  have h6 : q / e * e + q % e = q := by rw [Nat.mul_comm]; exact Nat.div_add_mod q e
  have := flat_get h h4 h5
  rw [h6, hq] at this
  exact ⟨_, h4, by rw [this]; exact h5, h6⟩
theorem flat_drop {e : Nat} : ∀ {xs : List (List V)} (n : Nat), (∀ l ∈ xs, l.length = e) → n ≤ xs.length → (xs.drop n).flatten = xs.flatten.drop (n * e) := by
  intro xs
  induction xs with
  | nil => intro n h hn; simp
  | cons a r ih =>
    intro n h hn
    cases n with
    | zero => simp
    | succ n =>
      have ha : a.length = e := h a (by simp)
      simp only [List.drop_succ_cons, List.flatten_cons]
      rw [ih n (fun l hl => h l (by simp [hl])) (by simpa using hn)]
      have h1 : (n + 1) * e = a.length + n * e := by rw [ha, Nat.succ_mul]; omega
      rw [h1, List.drop_append, List.drop_eq_nil_of_le (as := a) (by omega), List.nil_append]
      congr 1; omega
theorem flat_take {e : Nat} : ∀ {xs : List (List V)} (n : Nat), (∀ l ∈ xs, l.length = e) → n ≤ xs.length → (xs.take n).flatten = xs.flatten.take (n * e) := by
  intro xs
  induction xs with
  | nil => intro n h hn; simp
  | cons a r ih =>
    intro n h hn
    cases n with
    | zero => simp
    | succ n =>
      have ha : a.length = e := h a (by simp)
      simp only [List.take_succ_cons, List.flatten_cons]
      rw [ih n (fun l hl => h l (by simp [hl])) (by simpa using hn)]
      have h1 : (n + 1) * e = a.length + n * e := by rw [ha, Nat.succ_mul]; omega
      rw [h1, List.take_append, List.take_of_length_le (l := a) (by omega)]
      congr 2; omega
theorem chunks_flat {e : Nat} : ∀ (n : Nat) (c : List V), c.length = n * e → (chunks e n c).flatten = c ∧ (∀ l ∈ chunks e n c, l.length = e) ∧ (chunks e n c).length = n := by
  intro n
  induction n with
  | zero => intro c hc; simp at hc; subst hc; simp [chunks]
  | succ n ih =>
    intro c hc
    rw [Nat.succ_mul] at hc
    obtain ⟨h1, h2, h3⟩ := ih (c.drop e) (by simp; omega)
    refine ⟨by simp [chunks, h1], ?_, by simp [chunks, h3]⟩
    intro l hl
    simp only [chunks, List.mem_cons] at hl
    rcases hl with rfl | hl
    · simp; omega
    · exact h2 l hl
section
variable {P : Program} {M : Mem} {β : Names} {N : Nat} {Lb : Nat → Prop} {w0 w : World} {o : Hp} {ks : List Nat} {e : Env} {a : Go.Act} {G : Nat → Option (List V)}
/-- The elements of a slice: where they stand. -/
theorem elems_sound (hk : Ok M β N Lb w0 o w) {esz : Nat} (he : 0 < esz) {v : V} {x : Value} {r : List (List V) × List Nat} (h : elemsOf o esz v = some r) (hr : Rel M β v x) :
    (∀ l ∈ r.1, l.length = esz) ∧ ((∃ s, v = .str s ∧ r.1 = bytesV s) ∨ ∃ ad c, x = .slice ad r.1.length c ∧ r.1.length ≤ c ∧ (r.1 ≠ [] → ∃ b off cc ty fr, ad = some ⟨b, off, none⟩ ∧ w.heap[b]? = some (.cells cc ty fr) ∧
      off + r.1.length * esz ≤ cc.size ∧ RelL M β r.1.flatten ((cc.toList.drop off).take (r.1.length * esz)))) := by
  cases v <;> simp only [elemsOf] at h <;> (try cases h)
  · -- str
    rename_i s
    split at h
    · rename_i h1; cases h; subst h1
      refine ⟨?_, .inl ⟨s, rfl, rfl⟩⟩
      intro l hl
      simp only [bytesV, List.mem_map] at hl
      obtain ⟨b, _, rfl⟩ := hl; rfl
    · cases h
  · -- nils
    split at h
    · cases h
      exact ⟨by simp, .inr ⟨none, 0, hr.nils_inv, by simp, fun h => absurd rfl h⟩⟩
    · cases h
  · -- sl
    rename_i s xs
    split at h
    · rename_i hs; cases h; subst hs
      have hp := hr.sl_inv
      cases hp with
      | sl _ _ ad cap b off xx hcap ha hel hcc ho hrr =>
        have hall : ∀ l ∈ xs, l.length = s := by
          intro l hl
          obtain ⟨j, hj⟩ := List.getElem?_of_mem hl
          exact hel j l hj
        refine ⟨hall, .inr ⟨ad, cap, rfl, hcap, ?_⟩⟩
        dsimp only
        intro hne
        have had := ha hne
        obtain ⟨l0, r0, rfl⟩ : ∃ l r, xs = l :: r := by cases xs with | nil => exact absurd rfl hne | cons l r => exact ⟨l, r, rfl⟩
        have hl0 : l0.length = s := hall l0 (by simp)
        have h00 := hcc 0 l0 0 (l0[0]'(by omega)) (by simp) (List.getElem?_eq_getElem (by omega))
        unfold cellAt at h00
        cases hm : M b with
        | none => simp [hm] at h00
        | some ob =>
          cases ob with
          | cells cc ty fr =>
            have hw := hk.sr.sub b _ hm
            have hget : ∀ q v, (l0 :: r0).flatten[q]? = some v → ∃ x, cc[off + q]? = some x ∧ x.oneCell' = true ∧ Rel M β v x := by
              intro q v hq
              obtain ⟨l, h1, h2, h3⟩ := flat_index he hall hq
              have h4 := hcc _ l _ v h1 h2
              rw [h3] at h4
              simp only [cellAt, hm] at h4
              exact ⟨_, h4, ho _ l _ v h1 h2, .pure (hrr _ l _ v h1 h2)⟩
            have hfl := flat_len hall
            have hpos : 0 < (l0 :: r0).length * s := Nat.mul_pos (by simp) he
            have hlast := hget ((l0 :: r0).length * s - 1) _ (List.getElem?_eq_getElem (by omega))
            obtain ⟨xl, hxl, _⟩ := hlast
            have hsz := (Array.getElem?_eq_some_iff.1 hxl).1
            refine ⟨b, off, cc, ty, fr, had, hw, by omega, RelL.of_get (by rw [hfl]; simp only [List.length_take, List.length_drop, Array.length_toList]; omega) ?_⟩
            intro j v hj
            obtain ⟨x, h1, h2, h3⟩ := hget j v hj
            have hjlt := (List.getElem?_eq_some_iff.1 hj).1
            refine ⟨x, ?_, h2, h3⟩
            rw [List.getElem?_take, if_pos (by omega), List.getElem?_drop, Array.getElem?_toList]; exact h1
          | _ => simp [hm] at h00
    · cases h
  · -- vsl
    rename_i i st len
    cases hrv : rdVec o i with
    | none => rw [hrv] at h; cases h
    | some ex =>
      rw [hrv] at h
      simp only [Option.bind_some] at h
      split at h
      · rename_i hs; cases h
        obtain ⟨hve, hlen⟩ := hs
        obtain ⟨k, hβ, he', hall, c, ty, fr, h2, h3, h4, h5, h6⟩ := read_vec hk hrv
        have hallr : ∀ l ∈ (ex.2.drop st).take len, l.length = esz := by
          intro l hl; rw [← hve]; exact hall l (List.mem_of_mem_drop (List.mem_of_mem_take hl))
        have hll : ((ex.2.drop st).take len).length = len := by simp; omega
        refine ⟨hallr, .inr ?_⟩
        rw [hll]
        cases hr with
        | pure h => cases h
        | vslE _ _ cap ad hst =>
          exact ⟨ad, cap, rfl, by omega, fun hne => absurd (by simp) hne⟩
        | vsl _ _ _ cap k' hk' hl' hs' =>
          rw [hβ] at hk'; cases hk'
          refine ⟨_, cap, rfl, hl', fun _ => ⟨k.b, st * k.esz, c, ty, fr, rfl, h2, ?_, ?_⟩⟩
          · have : len * esz ≤ cap * k.esz := by rw [he', hve]; exact Nat.mul_le_mul_right _ hl'
            omega
          · have hfl := flat_len hall
            rw [flat_take (e := esz) len (fun l hl => by rw [← hve]; exact hall l (List.mem_of_mem_drop hl)) (by simp; omega), flat_drop (e := esz) st (fun l hl => by rw [← hve]; exact hall l hl) (by omega)]
            have hmul : st * esz + len * esz ≤ ex.2.flatten.length := by
              rw [hfl, hve, ← Nat.add_mul]; exact Nat.mul_le_mul_right _ hlen
            have hst : st * k.esz = st * esz := by rw [he', hve]
            rw [hst]
            exact relL_cut h6 hmul
      · cases h
  · -- bsl
    rename_i i off len s
    split at h
    · rename_i hs; subst hs
      cases hb : rdBox o i with
      | none => rw [hb] at h; cases h
      | some cs =>
        rw [hb] at h
        simp only [Option.bind_some] at h
        cases hc : cut off (len * s) cs with
        | none => rw [hc] at h; cases h
        | some l =>
          rw [hc] at h; cases h
          obtain ⟨h1, rfl⟩ := cut_some hc
          obtain ⟨k, hβ, c, ty, fr, h2, h3, h4, h5, h6⟩ := read_box hk hb
          obtain ⟨g1, g2, g3⟩ := chunks_flat (e := s) len ((cs.drop off).take (len * s)) (by simp; omega)
          refine ⟨g2, .inr ?_⟩
          simp only [g3]
          cases hr with
          | pure h => cases h
          | bslE _ _ _ cap ad => exact ⟨ad, cap, rfl, by omega, fun hne => absurd (by simp [chunks]) hne⟩
          | bsl _ _ _ _ cap k' hk' hl' =>
            rw [hβ] at hk'; cases hk'
            refine ⟨_, cap, rfl, hl', fun _ => ⟨k.b, off, c, ty, fr, rfl, h2, by omega, ?_⟩⟩
            rw [g1]
            exact relL_cut h6 h1
    · cases h
theorem bytesOf_nums {xs : List (List V)} {s : List UInt8} : bytesOf xs = some s → ∃ ns : List Int, xs = ns.map (fun n => [V.int .u8 n]) ∧ s = ns.map fun n => UInt8.ofNat n.toNat := by
  intro h
  induction xs generalizing s with
  | nil => simp only [bytesOf, Option.some.injEq] at h; subst h; exact ⟨[], rfl, rfl⟩
  | cons l r ih =>
    unfold bytesOf at h
    split at h
    · rename_i heq; cases heq
    · rename_i n r' heq
      cases heq
      cases hb : bytesOf r with
      | none => rw [hb] at h; cases h
      | some t =>
        rw [hb] at h; cases h
        obtain ⟨ns, rfl, rfl⟩ := ih hb
        exact ⟨n :: ns, rfl, rfl⟩
    · cases h
theorem flat_one {α β : Type} (ns : List α) (f : α → β) : (ns.map fun n => [f n]).flatten = ns.map f := by
  induction ns with
  | nil => rfl
  | cons n r ih => simp [ih]
def chkConvStr (P : Program) (op : Go.Op) (x : Arg) : Bool := match op with | .convert s d x' => isBytes P s && isStr P d && chkA x' x | _ => false
theorem snd_convStr {p : Oper} {x : Arg} {v : V} {r : List (List V) × List Nat} {s : List UInt8} (hc : chkConvStr P p.op x = true) (hv : evA G e x = v) (hns : ∀ s, v ≠ .str s) (hel : elemsOf o 1 v = some r) (hb : bytesOf r.1 = some s)
    (hk : Ok M β N Lb w0 o w) (he : EnvR M β e a) (hg : GOK M G) : Gd M β N Lb w0 ks o (.str s) ((execOp a.eval p).run P w) := by
  unfold chkConvStr at hc
  split at hc
  · rename_i src dst x' hop
    simp only [Bool.and_eq_true] at hc
    obtain ⟨el, hs, hel8⟩ := isBytes_of hc.1.1
    have hd := isStr_of hc.1.2
    have h1 := evA_sound hc.2 he hg
    rw [hv] at h1
    obtain ⟨_, h2⟩ := elems_sound hk (by omega) hel h1
    rcases h2 with ⟨s', hs', _⟩ | ⟨ad, c, hx, _, h3⟩
    · exact absurd hs' (hns s')
    · obtain ⟨ns, hns', rfl⟩ := bytesOf_nums hb
      have hlen : r.1.length = ns.length := by rw [hns']; simp
      have hrun : (convert src dst (a.eval x')).run P w = .ok (.string ⟨(ns.map fun n => UInt8.ofNat n.toNat).toArray⟩) w := by
        rw [hx]
        cases hn : r.1 with
        | nil =>
          rw [hn] at hlen
          have h0 : ns = [] := List.eq_nil_of_length_eq_zero (by simpa using hlen.symm)
          subst h0
          cases ad with
          | none => exact run_convert_bytes_nil w src el hs hel8 _ _ dst hd
          | some adr =>
            obtain ⟨b, off, spot⟩ := adr
            have hcv : (convert src dst (.slice (some ⟨b, off, spot⟩) 0 c)).run P w = .ok (.string ByteArray.empty) w := by
              rw [run_convert_bytes_string w src dst el _ 0 c hs hel8 hd]
              simp [Conv.bytesToString, loadCells, loadCellsFrom]
            exact hcv
        | cons l0 r0 =>
          obtain ⟨b, off, cc, ty, fr, rfl, hw, hsz, hrl⟩ := h3 (by rw [hn]; simp)
          rw [← hn, hlen]
          rw [hns'] at hrl
          have hfl : (ns.map fun n => [V.int .u8 n]).flatten = ns.map (V.int .u8) := flat_one ns _
          rw [hfl] at hrl
          simp only [List.length_map, Nat.mul_one] at hrl
          exact run_convert_bytes_arg w src el hs hel8 b off ns.length c ns rfl (fun i hi => by
            have h4 : (ns.map (V.int .u8))[i]? = some (.int .u8 ns[i]) := by simp [hi]
            have hlt : off + i < cc.size := by rw [hlen] at hsz; omega
            have h5 : ((cc.toList.drop off).take ns.length)[i]? = some cc[off + i] := by
              rw [List.getElem?_take, if_pos hi, List.getElem?_drop, Array.getElem?_toList]; simp [hlt]
            have h6 := (hrl.2.1 i _ _ h4 h5).int_inv
            rw [cell_at hw]
            simp [hlt, h6, hi]) dst hd
      refine .pure hk ?_ (.pure (.str _))
      simp only [execOp, hop, Sem.run_bind, hrun, Result.andThen_ok, Sem.run_pure]
  · cases hc
/-- Behind a new block. -/
theorem Gd.new (hk : Ok M β N Lb w0 o w) {i : Nat} {x : AObj} {v' : V} {y : Value} {r : Result Next} {ob : Obj} {k : Blk} (hi : β i = none) (hiN : i < N) (hx : wrt x = true) (hkb : k.b = w.heap.size)
    (hr : r = .ok (.value y) (w.alloc ob)) (hh : Holds M (nput β i k) (WrOf Lb w0) (w.alloc ob) k x) (hv : Rel M (nput β i k) v' y) (his : i ∈ ks) : Gd M β N Lb w0 ks (hput o i x) v' r := by
  refine ⟨y, w.alloc ob, M, nput β i k, .inl hr, fun _ _ h => h, fun _ _ => rfl, nput_le hi, ?_, ⟨?_, hk.kp.alloc ob⟩, hv⟩
  · intro j kj hj
    unfold nput at hj
    split at hj
    · rename_i e; exact .inr (e ▸ his)
    · exact .inl hj
  · refine (hk.sr.alloc ob).new hi hiN hx ?_ hh
    intro j kj hj hβ
    obtain ⟨k', hk', hh'⟩ := hk.sr.live j (fun e => by rw [e] at hj; cases hj)
    rw [hβ] at hk'; cases hk'
    have := hh'.lt hj
    omega
theorem clear00 (c : Array Value) : Clear c (0, 0) := .inl rfl
theorem Gd.newBox (hk : Ok M β N Lb w0 o w) {i : Nat} {cs : List V} {c : Array Value} {ty : TypeId} {r : Result Next} (hi : β i = none) (hiN : i < N) (hrl : RelL M β cs c.toList)
    (hr : r = .ok (.value (.pointer (some ⟨w.heap.size, 0, none⟩))) (w.alloc (.cells c ty))) (his : i ∈ ks) : Gd M β N Lb w0 ks (hput o i (.box cs)) (.ptr i 0) r := by
  have hlen : cs.length = c.size := by simpa using hrl.1
  refine .new (k := ⟨w.heap.size, c.size, 0⟩) hk hi hiN rfl rfl hr ?_ (.ptr _ _ _ nput_eq) his
  refine ⟨.inl hk.kp.size, hk.sr.fresh, c, ty, (0, 0), heap_alloc_eq _ _, clear00 _, rfl, by omega, ?_⟩
  intro j v hj
  have hlt : j < c.size := by rw [← hlen]; exact (List.getElem?_eq_some_iff.1 hj).1
  refine ⟨c[j], by simp [hlt], hrl.2.2 _ (by simp), ?_⟩
  exact (hrl.2.1 j v _ hj (by simp [hlt])).mono (fun _ _ h => h) (nput_le hi)
theorem Gd.newVec (hk : Ok M β N Lb w0 o w) {i esz : Nat} {xs : List (List V)} {c : Array Value} {ty : TypeId} {r : Result Next} {n cap : Nat} (hi : β i = none) (hiN : i < N) (hall : ∀ l ∈ xs, l.length = esz)
    (hle : xs.length * esz ≤ c.size) (hrl : RelL M β xs.flatten (c.toList.take (xs.length * esz))) (hn : n ≤ cap) (hcap : cap * esz ≤ c.size)
    (hr : r = .ok (.value (.slice (some ⟨w.heap.size, 0, none⟩) n cap)) (w.alloc (.cells c ty))) (his : i ∈ ks) : Gd M β N Lb w0 ks (hput o i (.vec esz xs)) (.vsl i 0 n) r := by
  have hfl := flat_len hall
  refine .new (k := ⟨w.heap.size, c.size, esz⟩) hk hi hiN rfl rfl hr ?_ ?_ his
  · refine ⟨.inl hk.kp.size, hk.sr.fresh, rfl, hall, c, ty, (0, 0), heap_alloc_eq _ _, clear00 _, rfl, by omega, ?_⟩
    intro j v hj
    have hlt : j < xs.length * esz := by rw [← hfl]; exact (List.getElem?_eq_some_iff.1 hj).1
    have hlt' : j < c.size := by omega
    have h1 : (c.toList.take (xs.length * esz))[j]? = some c[j] := by rw [List.getElem?_take, if_pos hlt]; simp [hlt']
    exact ⟨c[j], by simp [hlt'], hrl.2.2 _ (List.mem_of_getElem? h1), (hrl.2.1 j v _ hj h1).mono (fun _ _ h => h) (nput_le hi)⟩
  · have := Rel.vsl (M := M) i 0 n cap ⟨w.heap.size, c.size, esz⟩ (nput_eq (β := β)) hn (by simpa using hcap)
    simpa using this
def chkAlloc (P : Program) (op : Go.Op) (zero : List V) : Bool := match op with | .alloc t => tzero P t zero | _ => false
theorem snd_alloc {p : Oper} {zero : List V} {i : Nat} (hc : chkAlloc P p.op zero = true) (hk : Ok M β N Lb w0 o w) (hi : β i = none) (hiN : i < N) (his : i ∈ ks) :
    Gd M β N Lb w0 ks (hput o i (.box zero)) (.ptr i 0) ((execOp a.eval p).run P w) := by
  unfold chkAlloc at hc
  split at hc
  · rename_i t hop
    obtain ⟨z, h1, h2, _⟩ := tzero_run (P := P) (w := w) (M := M) (β := β) hc
    refine .newBox hk hi hiN h2 ?_ his (ty := t)
    simp only [execOp, hop, Instr.alloc, Sem.run_bind, h1, Result.andThen_ok, newVar, newRow, run_newObj, Sem.run_pure, World.alloc_eq]
  · cases hc
def chkBox (op : Go.Op) (x : Arg) : Bool := match op with | .box t y => chkA y x | _ => false
theorem snd_box {p : Oper} {x : Arg} {i : Nat} (hc : chkBox p.op x = true) (hok : okCells (evA G e x) = true) (hk : Ok M β N Lb w0 o w) (he : EnvR M β e a) (hg : GOK M G) (hi : β i = none) (hiN : i < N) (his : i ∈ ks) :
    Gd M β N Lb w0 ks (hput o i (.box (evA G e x).cells)) (.ptr i 0) ((execOp a.eval p).run P w) := by
  unfold chkBox at hc
  split at hc
  · rename_i t y hop
    refine .newBox hk hi hiN ((evA_sound hc he hg).cells hok) ?_ his (ty := t)
    simp only [execOp, hop, Instr.box, newVar, newRow, Sem.run_bind, run_newObj, Result.andThen_ok, Sem.run_pure, World.alloc_eq]
  · cases hc
theorem splice_get {off : Nat} {new cs cs' : List V} (h : splice off new cs = some cs') : off + new.length ≤ cs.length ∧ cs'.length = cs.length ∧
    ∀ (j : Nat), cs'[j]? = if off ≤ j ∧ j < off + new.length then new[j - off]? else cs[j]? := by
  unfold splice at h
  split at h
  · rename_i hl; cases h
    refine ⟨hl, by simp; omega, ?_⟩
    intro j
    rw [List.getElem?_append]
    have h1 : (cs.take off).length = off := by simp; omega
    rw [h1]
    by_cases hj : j < off
    · rw [if_pos hj, if_neg (by omega), List.getElem?_take, if_pos hj]
    · rw [if_neg hj, List.getElem?_append]
      by_cases hj2 : j < off + new.length
      · rw [if_pos (by omega), if_pos (by omega)]
      · rw [if_neg (by omega), if_neg (by omega), List.getElem?_drop]; congr 1; omega
  · cases h
theorem boxAt_write {size : Nat} {cs cs' new : List V} {c : Array Value} {ty : TypeId} {fr : Nat × Nat} {vals : List Value} {off : Nat} (hcl : Clear c fr) (hs : c.size = size) (hl : cs.length ≤ c.size)
    (hr : ∀ (j : Nat) (v : V), cs[j]? = some v → ∃ x, c[j]? = some x ∧ x.oneCell' = true ∧ Rel M β v x) (hsp : splice off new cs = some cs') (hn : RelL M β new vals) :
    BoxAt (some (.cells (wcells c off vals) ty fr)) size (Rel M β) cs' := by
  obtain ⟨h1, h2, h3⟩ := splice_get hsp
  refine ⟨_, ty, fr, rfl, ?_, by rw [wcells_size]; exact hs, by rw [wcells_size]; omega, ?_⟩
  · unfold Clear at *; rw [wcells_size]; exact hcl
  · intro j v hj
    rw [h3 j] at hj
    rw [wcells_get vals c off (by rw [← hn.1]; omega) j, ← hn.1]
    split at hj
    · rename_i hjj
      rw [if_pos hjj]
      have hlt : j - off < vals.length := by rw [← hn.1]; omega
      exact ⟨vals[j - off], by simp [hlt], hn.2.2 _ (List.getElem_mem _), hn.2.1 _ v _ hj (by simp [hlt])⟩
    · rename_i hjj
      rw [if_neg hjj]; exact hr j v hj
theorem flat_set {e : Nat} : ∀ {xs : List (List V)} {j off : Nat} {c c' new : List V}, (∀ l ∈ xs, l.length = e) → xs[j]? = some c → splice off new c = some c' →
    splice (j * e + off) new xs.flatten = some (xs.set j c').flatten := by
  intro xs j off c c' new h hj hs
  obtain ⟨h1, h2, h3⟩ := splice_get hs
  have hc : c.length = e := h c (List.mem_of_getElem? hj)
  have hjlt := (List.getElem?_eq_some_iff.1 hj).1
  have hfl := flat_len h
  have hmul : j * e + e ≤ xs.length * e := by
    have := Nat.mul_le_mul_right e (Nat.succ_le_of_lt hjlt)
    rw [Nat.succ_mul] at this; exact this
  have hlt : j * e + off + new.length ≤ xs.flatten.length := by omega
  have hsp : splice (j * e + off) new xs.flatten = some (xs.flatten.take (j * e + off) ++ (new ++ xs.flatten.drop (j * e + off + new.length))) := by
    unfold splice; rw [if_pos hlt]
  rw [hsp]
  congr 1
  have hs' : c' = c.take off ++ (new ++ c.drop (off + new.length)) := by
    unfold splice at hs; rw [if_pos h1] at hs; cases hs; rfl
  have hset : xs.set j c' = xs.take j ++ c' :: xs.drop (j + 1) := by
    rw [List.set_eq_take_append_cons_drop, if_pos hjlt]
  have hxs : xs = xs.take j ++ c :: xs.drop (j + 1) := by
    have hcj : xs[j] = c := by rw [List.getElem?_eq_getElem hjlt] at hj; exact Option.some.inj hj
    rw [← hcj]
    simp
  have hA : (xs.take j).flatten.length = j * e := by
    rw [flat_len (e := e) (fun l hl => h l (List.mem_of_mem_take hl))]; simp; rw [Nat.min_eq_left (by omega)]
  rw [hset]
  conv => lhs; rw [hxs]
  simp only [List.flatten_append, List.flatten_cons]
  rw [hs']
  generalize hAA : (xs.take j).flatten = A at *
  generalize hB : (xs.drop (j + 1)).flatten = B at *
  rw [List.take_append, List.take_of_length_le (by omega), hA, List.drop_append, List.drop_eq_nil_of_le (by omega), List.nil_append, hA,
    List.take_append_of_le_length (by omega), List.drop_append_of_le_length (by omega)]
  have e1 : j * e + off - j * e = off := by omega
  have e2 : j * e + off + new.length - j * e = off + new.length := by omega
  rw [e1, e2]
  simp
theorem poke_sound (hk : Ok M β N Lb w0 o w) {new : List V} {v : V} {x : Value} {ups : List (Nat × AObj)} {vals : List Value} (h : poke o new v = some ups) (hr : Rel M β v x) (hn : RelL M β new vals) :
    ∃ b off c ty fr, x = .pointer (some ⟨b, off, none⟩) ∧ w.heap[b]? = some (.cells c ty fr) ∧ Clear c fr ∧ off + vals.length ≤ c.size ∧ Ok M β N Lb w0 (hputs o ups) (wset w b (.cells (wcells c off vals) ty fr)) := by
  cases v <;> simp only [poke] at h <;> (try cases h)
  · rename_i i off
    cases ho : o i with
    | box cs =>
      rw [ho] at h
      simp only at h
      cases hsp : splice off new cs with
      | none => rw [hsp] at h; cases h
      | some cs' =>
        rw [hsp] at h; cases h
        obtain ⟨k, hβ, hh⟩ := hk.sr.live i (by rw [ho]; simp)
        rw [ho] at hh
        obtain ⟨hw1, hw2, c, ty, fr, hb, hcl, hsz, hl, hrr⟩ := hh
        obtain ⟨k', hβ', rfl⟩ := hr.ptr_inv
        rw [hβ] at hβ'; cases hβ'
        have hlen := (splice_get hsp).1
        refine ⟨k.b, off, c, ty, fr, rfl, hb, hcl, by rw [← hn.1]; omega, ?_, hk.kp.wset _ _ hw1⟩
        refine hk.sr.write hβ (by rw [ho]; rfl) rfl ⟨hw1, hw2, ?_⟩
        rw [heap_wset_eq _ _ _ (lt_of_some hb)]
        exact boxAt_write hcl hsz hl hrr hsp hn
    | _ => rw [ho] at h; cases h
  · rename_i i j off
    cases ho : o i with
    | vec s xs =>
      rw [ho] at h
      simp only at h
      cases hj : xs[j]? with
      | none => rw [hj] at h; cases h
      | some cc =>
        rw [hj] at h
        simp only [Option.bind_some] at h
        cases hsp : splice off new cc with
        | none => rw [hsp] at h; cases h
        | some cc' =>
          rw [hsp] at h; cases h
          obtain ⟨k, hβ, hh⟩ := hk.sr.live i (by rw [ho]; simp)
          rw [ho] at hh
          obtain ⟨hw1, hw2, hes, hall, c, ty, fr, hb, hcl, hsz, hl, hrr⟩ := hh
          obtain ⟨k', hβ', rfl⟩ := hr.ept_inv
          rw [hβ] at hβ'; cases hβ'
          have hfs := flat_set hall hj hsp
          have hlen := (splice_get hfs).1
          rw [hes]
          refine ⟨k.b, j * s + off, c, ty, fr, rfl, hb, hcl, by rw [← hn.1]; omega, ?_, hk.kp.wset _ _ hw1⟩
          refine hk.sr.write hβ (by rw [ho]; rfl) rfl ⟨hw1, hw2, hes, ?_, ?_⟩
          · intro l hl'
            rcases List.mem_or_eq_of_mem_set hl' with h1 | h1
            · exact hall l h1
            · subst h1
              have := (splice_get hsp).2.1
              rw [this]; exact hall cc (List.mem_of_getElem? hj)
          · rw [heap_wset_eq _ _ _ (lt_of_some hb)]
            exact boxAt_write hcl hsz hl hrr hfs hn
    | _ => rw [ho] at h; cases h
def chkStore (P : Program) (op : Go.Op) (n : Nat) (x y : Arg) : Bool := match op with | .store t x' y' => chkA x' x && chkA y' y && tsize P t n | _ => false
theorem snd_store {p : Oper} {n : Nat} {x y : Arg} {ups : List (Nat × AObj)} (hc : chkStore P p.op n x y = true) (hlen : (evA G e y).cells.length = n) (hok : okCells (evA G e y) = true) (hp : poke o (evA G e y).cells (evA G e x) = some ups)
    (hk : Ok M β N Lb w0 o w) (he : EnvR M β e a) (hg : GOK M G) : Gd M β N Lb w0 ks (hputs o ups) .junk ((execOp a.eval p).run P w) := by
  unfold chkStore at hc
  split at hc
  · rename_i t x' y' hop
    simp only [Bool.and_eq_true] at hc
    have h1 := evA_sound hc.1.1 he hg
    have h2 := (evA_sound hc.1.2 he hg).cells hok
    obtain ⟨b, off, c, ty, fr, h3, h4, h5, h6, h7⟩ := poke_sound hk hp h1 h2
    have hst := run_storeCells (P := P) b off (a.eval y').cells.toList w c 0 h4 h5 (by omega) h2.2.2
    have hsz : (a.eval y').cells.size = n := by rw [← hlen]; simpa using h2.1.symm
    refine ⟨undef, _, M, β, .inr ⟨?_, rfl⟩, fun _ _ h => h, fun _ _ => rfl, fun _ _ h => h, fun _ _ h => .inl h, h7, .pure (.junk _)⟩
    simp only [execOp, hop, Instr.storeAt, h3, Instr.sureAddr, storeVar, Sem.run_bind, Sem.run_pure, Result.andThen_ok, tsize_run hc.2, hsz, ne_eq, not_true, if_false, Sem.run_ite, hst, Nat.add_zero]
  · cases hc
end
end Go.Proofs.Ytoccgkgdhobmfaa.Am
set_option linter.unusedVariables false
set_option linter.unusedSimpArgs false
namespace Go.Proofs.Ytoccgkgdhobmfaa.Am
open Go
theorem growBy_le (n : Nat) : ∀ (r c : Nat), c ≤ n + (n + 768) / 4 → Builtin.growBy n r c ≤ n + (n + 768) / 4 := by
  intro r
  induction r with
  | zero => intro c h; simpa [Builtin.growBy] using h
  | succ r ih =>
    intro c h
    simp only [Builtin.growBy]
    split
    · exact h
    · exact ih _ (by omega)
theorem nextcap_le {need cap : Nat} (h : cap < need) : Builtin.nextslicecap need cap ≤ 2 * need + 200 := by
  unfold Builtin.nextslicecap
  split
  · omega
  · split
    · omega
    · have := growBy_le need 4 cap (by omega)
      omega
section
variable {P : Program} {M : Mem} {β : Names} {N : Nat} {Lb : Nat → Prop} {w0 w : World} {o : Hp} {ks : List Nat} {e : Env} {a : Go.Act} {G : Nat → Option (List V)}
/-- The cells of a slice or of a string's bytes. -/
theorem run_first (hk : Ok M β N Lb w0 o w) {esz : Nat} (he : 0 < esz) {v : V} {x : Value} {r : List (List V) × List Nat} (h : elemsOf o esz v = some r) (hr : Rel M β v x) :
    (Builtin.lenOf x).run P w = .ok r.1.length w ∧ ∃ arr : Array Value, (∀ w', w'.heap = w.heap → ∀ n, n ≤ r.1.length → (Builtin.firstCells esz n x).run P w' = .ok (arr.toList.take (n * esz)).toArray w') ∧ RelL M β r.1.flatten arr.toList := by
  obtain ⟨hall, h2⟩ := elems_sound hk he h hr
  rcases h2 with ⟨s, rfl, hs⟩ | ⟨ad, c, rfl, hc, h3⟩
  · have h1 : esz = 1 := by
      simp only [elemsOf] at h
      split at h
      · assumption
      · cases h
    subst h1
    have hx := hr.str_inv
    subst hx
    rw [hs]
    refine ⟨by simp [Builtin.lenOf, size_str, bytesV], (s.map fun b => Value.int .u8 (b.toNat : Int)).toArray, ?_, ?_⟩
    · intro w' hw' n hn
      simp only [bytesV, List.length_map] at hn
      simp only [Builtin.firstCells, Sem.run_pure, extract_str, Nat.mul_one]
      congr 1
      apply Array.ext'
      simp [List.map_take]
    · refine RelL.of_get (by rw [flat_len (e := 1) (by rw [← hs]; exact hall)]; simp [bytesV]) ?_
      intro j v hj
      have hfl : (bytesV s).flatten = s.map fun b => V.int .u8 (b.toNat : Int) := flat_one s _
      rw [hfl] at hj
      simp only [List.getElem?_map, Option.map_eq_some_iff] at hj
      obtain ⟨b, hb, rfl⟩ := hj
      exact ⟨.int .u8 b.toNat, by simp [hb], rfl, .pure (.int _ _)⟩
  · refine ⟨by simp [Builtin.lenOf], ?_⟩
    by_cases hne : r.1 = []
    · refine ⟨#[], ?_, by rw [hne]; exact RelL.nil⟩
      intro w' hw' n hn
      rw [hne] at hn
      have h0 : n = 0 := by simpa using hn
      subst h0
      cases ad with
      | none => simp [Builtin.firstCells]
      | some ad => simp [Builtin.firstCells, loadCells, loadCellsFrom]
    · obtain ⟨b, off, cc, ty, fr, rfl, hw, hsz, hrl⟩ := h3 hne
      refine ⟨((cc.toList.drop off).take (r.1.length * esz)).toArray, ?_, by simpa using hrl⟩
      intro w' hw' n hn
      have hmul : n * esz ≤ r.1.length * esz := Nat.mul_le_mul_right _ hn
      simp only [Builtin.firstCells, run_loadCells_at (w := w') (by rw [hw']; exact hw) (show off + n * esz ≤ cc.size by omega)]
      congr 1
      apply Array.ext'
      simp [List.take_take, Nat.min_eq_left hmul]
def notInt (P : Program) (t : Nat) : Bool := match P.underlying t with | some (.slice _) | some .string => true | _ => false
theorem notInt_run {t : Nat} (h : notInt P t = true) : (∃ el, P.underlying t = some (.slice el)) ∨ P.underlying t = some .string := by
  unfold notInt at h
  split at h
  · exact .inl ⟨_, by assumption⟩
  · exact .inr (by assumption)
  · cases h
def zsize (P : Program) (t n : Nat) : Bool := match P.info? t with
  | some i => (match i.zero with | some z => z.cells.size == n | none => false)
  | none => false
theorem zsize_run {t n : Nat} (h : zsize P t n = true) (w : World) : ∃ z, (zeroValue t).run P w = .ok z w ∧ z.cells.size = n := by
  unfold zsize at h
  split at h
  · rename_i i hi
    split at h
    · rename_i z hz
      simp only [beq_iff_eq] at h
      exact ⟨z, by simp [zeroValue, typeInfo, hi, hz], h⟩
    · cases h
  · cases h
def chkAppend (P : Program) (op : Go.Op) (esz ebytes : Nat) (s x : Arg) : Bool := match op with
  | .call { callee := .builtin .append, args, argTypes } => chkArgs args.toList [s, x] && argTypes.size == 2 && (match argTypes[0]?, argTypes[1]? with
    | some t, some t' => notInt P t' && (match P.underlying t with
      | some (.slice el) => tsize P el esz && tbytes P el ebytes && zsize P el esz && decide (0 < esz) && decide (ebytes ≤ 1000000) && decide (0 < ebytes)
      | _ => false)
    | _, _ => false)
  | _ => false
theorem zeroCells_size (z : Array Value) (n : Nat) : (Builtin.zeroCells z n).size = n * z.size := by simp [Builtin.zeroCells]
/-- The stores of an append in place. -/
def stBase (base : Option Addr) (off : Nat) (vs : List Value) : Sem Unit := match base with | some a => storeCells (a.add off) vs | none => pure ()
/-- append where there is room. -/
theorem run_append_fit {t t' el esz : Nat} {ty : TypeId} {base : Option Addr} {sLen sCap n : Nat} {x : Value} {arr : Array Value} (hu : P.underlying t = some (.slice el)) (ht' : notInt P t' = true)
    (hsz : tsize P el esz = true) (hlen : (Builtin.lenOf x).run P w = .ok n w) (harr : ∀ w', w'.heap = w.heap → (Builtin.firstCells esz n x).run P w' = .ok arr w') (hfit : sLen + n ≤ sCap) :
    (Builtin.append_ #[t, t'] ty #[.slice base sLen sCap, x]).run P w = ((stBase base (sLen * esz) arr.toList).run P w).andThen fun _ w' => .ok (.slice base (sLen + n) sCap) w' := by
  have hd0 := notInt_run ht'
  have h1 : ∀ w', (sizeOf el).run P w' = .ok esz w' := fun w' => tsize_run hsz
  rcases hd0 with ⟨el', hd⟩ | hd
  all_goals
    simp only [Builtin.append_, List.getElem?_toArray, List.getElem?_cons_zero, List.getElem?_cons_succ, Sem.run_bind, run_underlying hu, Result.andThen_ok, h1, run_underlying hd, Sem.run_pure, Bool.false_eq_true, if_false, hlen, Bool.not_false, if_true, Sem.run_ite]
    rw [if_pos hfit]
    simp only [harr w rfl, Result.andThen_ok]
    cases base with
    | none => simp [stBase]
    | some a => simp [stBase]
/-- append where there is none. -/
theorem run_append_grow {t t' el esz ebytes : Nat} {ty : TypeId} {base : Option Addr} {sLen sCap n : Nat} {x : Value} {arr old : Array Value} (hu : P.underlying t = some (.slice el)) (ht' : notInt P t' = true)
    (hsz : tsize P el esz = true) (hby : tbytes P el ebytes = true) (hz : zsize P el esz = true) (hb0 : 0 < ebytes) (hb1 : ebytes ≤ 1000000) (hlen : (Builtin.lenOf x).run P w = .ok n w) (harr : ∀ w', w'.heap = w.heap → (Builtin.firstCells esz n x).run P w' = .ok arr w')
    (hold : ∀ w', w'.heap = w.heap → (Builtin.firstCells esz sLen (.slice base sLen sCap)).run P w' = .ok old w') (hroom : room (sLen + n) ebytes = true) (hfit0 : sCap < sLen + n) :
    ∃ cap rest, sLen + n ≤ cap ∧ rest.size = (cap - (sLen + n)) * esz ∧
      (Builtin.append_ #[t, t'] ty #[.slice base sLen sCap, x]).run P w = .ok (.slice (some ⟨w.heap.size, 0, none⟩) (sLen + n) cap) (w.drew.alloc (.cells (old ++ arr ++ rest) el)) := by
  have hd0 := notInt_run ht'
  have hro : (sLen + n) * ebytes ≤ 17592186044416 := of_decide_eq_true hroom
  have h1 : ∀ w', (sizeOf el).run P w' = .ok esz w' := fun w' => tsize_run hsz
  have hfit : ¬ (sLen + n ≤ sCap) := by omega
  obtain ⟨inf, hinf, hbytes⟩ := tbytes_run (P := P) (w := w) hby
  have hinf' : ∀ w', (typeInfo el).run P w' = .ok inf w' := by
    intro w'
    unfold tbytes at hby
    split at hby
    · rename_i i hi
      have h2 : (typeInfo el).run P w = .ok i w := by simp [typeInfo, hi]
      rw [h2] at hinf; cases hinf
      simp [typeInfo, hi]
    · cases hby
  refine ⟨sLen + n + w.tape w.drawn (.appendCap (sLen + n) sCap el) % (2 ^ 63 - (sLen + n)), ?_⟩
  generalize hcap : sLen + n + w.tape w.drawn (.appendCap (sLen + n) sCap el) % (2 ^ 63 - (sLen + n)) = cap
  obtain ⟨z, hzr, hzs⟩ := zsize_run hz w.drew
  refine ⟨Builtin.zeroCells z.cells (cap - (sLen + n)), by omega, by rw [zeroCells_size, hzs], ?_⟩
  have hnext := nextcap_le (need := sLen + n) (cap := sCap) (by omega)
  have hmul : Builtin.nextslicecap (sLen + n) sCap * inf.bytes ≤ 281474976710656 := by
    rw [hbytes]
    have h2 : Builtin.nextslicecap (sLen + n) sCap * ebytes ≤ (2 * (sLen + n) + 200) * ebytes := Nat.mul_le_mul_right _ hnext
    have h3 : (2 * (sLen + n) + 200) * ebytes = 2 * ((sLen + n) * ebytes) + 200 * ebytes := by rw [Nat.add_mul, Nat.mul_assoc]
    omega
  have hneed : ((sLen + n : Nat) : Int) ≤ 9223372036854775807 := by
    have : sLen + n ≤ (sLen + n) * ebytes := Nat.le_mul_of_pos_right _ hb0
    omega
  have hc1 : ¬ (((sLen + n : Nat) : Int) > IntKind.i64.max ∧ inf.bytes = 0) := by
    intro h
    have := h.1
    simp [IntKind.max, IntKind.signed, IntKind.bits] at this
    omega
  have hc2 : ¬ (Builtin.nextslicecap (sLen + n) sCap * inf.bytes > 2 ^ 48) := by
    have : (2 : Nat) ^ 48 = 281474976710656 := by decide
    omega
  rcases hd0 with ⟨el', hd⟩ | hd
  all_goals
    simp only [Builtin.append_, List.getElem?_toArray, List.getElem?_cons_zero, List.getElem?_cons_succ, Sem.run_bind, run_underlying hu, Result.andThen_ok, h1, run_underlying hd, Sem.run_pure, Bool.false_eq_true, if_false, hlen, Bool.not_false, if_true, Sem.run_ite]
    rw [if_neg hfit]
    simp only [Sem.run_bind, hinf', Result.andThen_ok, Bool.false_eq_true, false_or, hc1, hc2, if_false, Sem.run_pure, run_choose, Question.forced, World.drew_eq, Question.cut, hcap, run_askRoom]
    rw [hold w.drew rfl]
    simp only [Result.andThen_ok, harr w.drew rfl, hzr, newRow, Sem.run_bind, run_newObj, Sem.run_pure, World.alloc_eq, World.size_drew]
end
end Go.Proofs.Ytoccgkgdhobmfaa.Am
set_option linter.unusedVariables false
set_option linter.unusedSimpArgs false
namespace Go.Proofs.Ytoccgkgdhobmfaa.Am
open Go
section
variable {P : Program} {M : Mem} {β : Names} {N : Nat} {Lb : Nat → Prop} {w0 w : World} {o : Hp} {ks : List Nat} {e : Env} {a : Go.Act} {G : Nat → Option (List V)}
/-- A row in place: its object turns, under a new name. -/
theorem Gd.inPlace (hk : Ok M β N Lb w0 o w) {i id esz : Nat} {xs xs' : List (List V)} {k : Blk} {ob : Obj} {v' : V} {y : Value} {r : Result Next} (ho : o i = .vec esz xs) (hβ : β i = some k) (hi : β id = none) (hiN : id < N) (his : id ∈ ks)
    (hall : ∀ l ∈ xs', l.length = esz) (hb : BoxAt (some ob) k.size (Rel M β) xs'.flatten) (hr : r = .ok (.value y) (wset w k.b ob)) (hv : Rel M (nput β id k) v' y) :
    Gd M β N Lb w0 ks (hput (hput o i .dead) id (.vec esz xs')) v' r := by
  obtain ⟨k', hk', hh⟩ := hk.sr.live i (by rw [ho]; simp)
  rw [hβ] at hk'; cases hk'
  have hlt := hh.lt (by rw [ho]; rfl)
  rw [ho] at hh
  obtain ⟨hw1, hw2, hes, _, _⟩ := hh
  have hhold : Holds M β (WrOf Lb w0) (wset w k.b ob) k (.vec esz xs') := ⟨hw1, hw2, hes, hall, by rw [heap_wset_eq _ _ _ hlt]; exact hb⟩
  have h1 := (hk.sr.write (x := .vec esz xs') hβ (by rw [ho]; rfl) rfl hhold).kill i
  have hne : id ≠ i := fun e => by rw [e, hβ] at hi; cases hi
  have h2 := h1.new (i := id) (k := k) (x := .vec esz xs') hi hiN rfl (by
    intro j kj hj hkj hbe
    have hji : j ≠ i := by
      intro e
      unfold hput at hj
      rw [if_pos e] at hj; cases hj
    have hj' : wrt (o j) = true := by
      unfold hput at hj
      rwa [if_neg hji, if_neg hji] at hj
    exact hji (hk.sr.inj j i kj k hj' (by rw [ho]; rfl) hkj hβ hbe)) (hhold.names (nput_le hi))
  have he : hput (hput (hput o i (.vec esz xs')) i .dead) id (.vec esz xs') = hput (hput o i .dead) id (.vec esz xs') := by
    funext j
    unfold hput
    by_cases hj : j = id
    · rw [if_pos hj, if_pos hj]
    · rw [if_neg hj, if_neg hj]
      by_cases hj2 : j = i
      · rw [if_pos hj2, if_pos hj2]
      · rw [if_neg hj2, if_neg hj2, if_neg hj2]
  rw [he] at h2
  refine ⟨y, _, M, nput β id k, .inl hr, fun _ _ h => h, fun _ _ => rfl, nput_le hi, ?_, ⟨h2, hk.kp.wset _ _ hw1⟩, hv⟩
  intro j kj hj
  unfold nput at hj
  split at hj
  · rename_i e; exact .inr (e ▸ his)
  · exact .inl hj
theorem append_core (hk : Ok M β N Lb w0 o w) {id esz ebytes : Nat} (hesz : 0 < esz) {el : TypeId} {new : List (List V)} {rd : List Nat} {vs : V} {act : Act} {base : Option Addr} {sLen sCap : Nat} {arr : Array Value} {r : Result Next}
    (hall : ∀ l ∈ new, l.length = esz) (hrl : RelL M β new.flatten arr.toList) (hs : Rel M β vs (.slice base sLen sCap)) (hap : appendTo o id esz ebytes new rd vs = some act) (hi : β id = none) (hiN : id < N) (his : id ∈ ks)
    (hfit : room (sLen + new.length) ebytes = true → sLen + new.length ≤ sCap → ∀ w1, (stBase base (sLen * esz) arr.toList).run P w = .ok () w1 → r = .ok (.value (.slice base (sLen + new.length) sCap)) w1)
    (hgrow : room (sLen + new.length) ebytes = true → sCap < sLen + new.length → ∀ old : Array Value, (∀ w', w'.heap = w.heap → (Builtin.firstCells esz sLen (.slice base sLen sCap)).run P w' = .ok old w') →
      ∃ cap rest, sLen + new.length ≤ cap ∧ rest.size = (cap - (sLen + new.length)) * esz ∧ r = .ok (.value (.slice (some ⟨w.heap.size, 0, none⟩) (sLen + new.length) cap)) (w.drew.alloc (.cells (old ++ arr ++ rest) el)))
    (hsame : new = [] → sLen ≤ sCap → r = .ok (.value (.slice base sLen sCap)) w) :
    Gd M β N Lb w0 ks (hputs o act.ups) act.val r := by
  have hfl := flat_len hall
  have harr : arr.size = new.length * esz := by have := hrl.1; rw [hfl] at this; simpa using this.symm
  unfold appendTo at hap
  split at hap
  · -- nils
    rename_i s
    have hx := hs.nils_inv
    cases hx
    split at hap
    · rename_i hc
      obtain ⟨rfl, hroom⟩ := hc
      split at hap
      · rename_i hemp
        have h0 : new = [] := by simpa using hemp
        subst h0
        cases hap
        exact .pure hk (hsame rfl (Nat.le_refl _)) (.pure (.nils _))
      · rename_i hemp
        cases hap
        have h0 : new ≠ [] := by simpa using hemp
        have hpos : 0 < new.length := List.length_pos_iff.2 h0
        obtain ⟨cap, rest, h1, h2, h3⟩ := hgrow (by simpa using hroom) (by omega) #[] (fun w' _ => by simp [Builtin.firstCells])
        have hk' : Ok M β N Lb w0 o w.drew := ⟨hk.sr.drew, hk.kp.drew⟩
        have hsz : (#[] ++ arr ++ rest : Array Value).size = cap * s := by
          simp only [Array.size_append, List.size_toArray, List.length_nil, harr, h2, Nat.zero_add]
          rw [← Nat.add_mul]; congr 1; omega
        have hle : new.length * s ≤ cap * s := Nat.mul_le_mul_right _ (by omega)
        refine Gd.newVec (c := #[] ++ arr ++ rest) (ty := el) (n := new.length) (cap := cap) hk' hi hiN hall (by rw [hsz]; exact hle) ?_ (by omega) (by rw [hsz]; omega) ?_ his
        · have : ((#[] ++ arr ++ rest : Array Value).toList.take (new.length * s)) = arr.toList := by
            rw [← harr]; simp
          rw [this]; exact hrl
        · rw [h3]; simp
    · cases hap
  · -- sl
    split at hap
    · rename_i e xs hemp
      have h0 : new = [] := by simpa using hemp
      subst h0
      cases hap
      have hp := hs.sl_inv
      cases hp with
      | sl _ _ _ _ b off xx hcap ha hel hcc ho hr =>
        exact .pure hk (hsame rfl hcap) hs
    · cases hap
  · -- vsl
    rename_i i st len
    split at hap
    · rename_i e xs ho
      split at hap
      · rename_i hc
        obtain ⟨rfl, rfl, hlen, hroom, hrd⟩ := hc
        cases hap
        obtain ⟨k, hβ, hh⟩ := hk.sr.live i (by rw [ho]; simp)
        have hh0 := hh
        rw [ho] at hh
        obtain ⟨hw1, hw2, hes, hallx, c, ty, fr, hb, hcl, hsz, hl, hrr⟩ := hh
        have hflx := flat_len hallx
        have hmul : len * e ≤ xs.length * e := Nat.mul_le_mul_right _ hlen
        have halln : ∀ l ∈ xs.take len ++ new, l.length = e := by
          intro l hl'
          rcases List.mem_append.1 hl' with h | h
          · exact hallx l (List.mem_of_mem_take h)
          · exact hall l h
        have hfl2 : (xs.take len ++ new).flatten = xs.flatten.take (len * e) ++ new.flatten := by
          rw [List.flatten_append, flat_take len hallx hlen]
        have hlen2 : (xs.take len ++ new).length = len + new.length := by simp; omega
        cases hs with
        | pure h => cases h
        | vslE _ _ _ _ h => exact absurd rfl h
        | vsl _ _ _ _ k' hk' hlc hsk =>
          rw [hβ] at hk'; cases hk'
          rw [hes] at hsk
          simp only [Nat.zero_mul, Nat.zero_add] at hsk
          by_cases hf : sLen + new.length ≤ sCap
          · have hmul2 : (sLen + new.length) * e ≤ sCap * e := Nat.mul_le_mul_right _ hf
            have hmul3 : (sLen + new.length) * e = sLen * e + new.length * e := Nat.add_mul _ _ _
            have hst := run_storeCells (P := P) k.b (sLen * e) arr.toList w c 0 hb hcl (by simp only [Array.length_toList, harr]; omega) hrl.2.2
            simp only [Nat.add_zero] at hst
            have hadd : (⟨k.b, 0 * k.esz, none⟩ : Addr).add (sLen * e) = ⟨k.b, sLen * e, none⟩ := by rw [addr_add]; simp
            have h1 := hfit hroom hf (wset w k.b (.cells (wcells c (sLen * e) arr.toList) ty fr)) (by simp only [stBase, hadd]; exact hst)
            refine Gd.inPlace hk ho hβ hi hiN his halln ?_ h1 ?_
            · refine ⟨_, ty, fr, rfl, ?_, by rw [wcells_size]; exact hsz, ?_, ?_⟩
              · unfold Clear at *; rw [wcells_size]; exact hcl
              · rw [wcells_size, flat_len halln, hlen2]; omega
              · intro j v hj
                have hvl : arr.toList.length = new.length * e := by simpa using harr
                rw [wcells_get _ c (sLen * e) (by rw [hvl]; omega) j, hvl]
                rw [hfl2, List.getElem?_append] at hj
                have htl : (xs.flatten.take (sLen * e)).length = sLen * e := by rw [List.length_take, hflx]; omega
                rw [htl] at hj
                split at hj
                · rename_i hjl
                  rw [if_neg (by omega)]
                  rw [List.getElem?_take, if_pos hjl] at hj
                  exact hrr j v hj
                · rename_i hjl
                  have hjlt := (List.getElem?_eq_some_iff.1 hj).1
                  rw [hfl] at hjlt
                  rw [if_pos (by omega)]
                  have hlt : j - sLen * e < arr.toList.length := by omega
                  exact ⟨arr.toList[j - sLen * e], by rw [List.getElem?_eq_getElem hlt], hrl.2.2 _ (List.getElem_mem _), hrl.2.1 _ v _ hj (List.getElem?_eq_getElem hlt)⟩
            · have := Rel.vsl (M := M) id 0 (sLen + new.length) sCap k (nput_eq (β := β)) hf (by rw [hes]; omega)
              simpa using this
          · have hel : elemsOf o e (.vsl i 0 sLen) = some ((xs.drop 0).take sLen, [i]) := by
              simp only [elemsOf, rdVec, ho, Option.bind_some]
              rw [if_pos ⟨trivial, by omega⟩]
            have hsr : Rel M β (.vsl i 0 sLen) (.slice (some ⟨k.b, 0 * k.esz, none⟩) sLen sCap) := .vsl i 0 sLen sCap k hβ hlc (by rw [hes]; omega)
            obtain ⟨_, old, h1, h2⟩ := run_first (P := P) hk hesz hel hsr
            simp only [List.drop_zero] at h1 h2
            have htl : (xs.take sLen).length = sLen := by simp; omega
            rw [htl] at h1
            have hol : old.size = sLen * e := by
              have := h2.1
              rw [flat_len (e := e) (fun l hl => hallx l (List.mem_of_mem_take hl)), htl] at this
              simpa using this.symm
            have hold : ∀ w', w'.heap = w.heap → (Builtin.firstCells e sLen (.slice (some ⟨k.b, 0 * k.esz, none⟩) sLen sCap)).run P w' = .ok old w' := by
              intro w' hw'
              rw [h1 w' hw' sLen (Nat.le_refl _)]
              congr 1
              apply Array.ext'
              simp [List.take_of_length_le (show old.toList.length ≤ sLen * e by simp [hol])]
            obtain ⟨cap, rest, h3, h4, h5⟩ := hgrow hroom (by omega) old hold
            have hk' : Ok M β N Lb w0 (hput o i .dead) w.drew := ⟨(hk.sr.kill i).drew, hk.kp.drew⟩
            have hmul3 : (sLen + new.length) * e = sLen * e + new.length * e := Nat.add_mul _ _ _
            have hszn : (old ++ arr ++ rest : Array Value).size = cap * e := by
              simp only [Array.size_append, harr, h4, hol]
              rw [← hmul3, ← Nat.add_mul]; congr 1; omega
            have hmul4 : (sLen + new.length) * e ≤ cap * e := Nat.mul_le_mul_right _ h3
            refine Gd.newVec (c := old ++ arr ++ rest) (ty := el) (n := sLen + new.length) (cap := cap) hk' hi hiN halln (by rw [hszn, hlen2]; exact hmul4) ?_ h3 (by rw [hszn]; omega) h5 his
            rw [hlen2, hfl2, hmul3]
            have hh2 := h2
            rw [flat_take sLen hallx hlen] at hh2
            have : ((old ++ arr ++ rest : Array Value).toList.take (sLen * e + new.length * e)) = old.toList ++ arr.toList := by
              simp only [Array.toList_append]
              rw [List.take_append_of_le_length (by simp [hol, harr])]
              rw [List.take_of_length_le (by simp [hol, harr])]
            rw [this]
            exact hh2.append hrl
      · cases hap
    · cases hap
  · cases hap
theorem snd_append {p : Oper} {id esz ebytes : Nat} {s x : Arg} {r : List (List V) × List Nat} {act : Act} (hc : chkAppend P p.op esz ebytes s x = true) (hel : elemsOf o esz (evA G e x) = some r)
    (hap : appendTo o id esz ebytes r.1 r.2 (evA G e s) = some act) (hk : Ok M β N Lb w0 o w) (he : EnvR M β e a) (hg : GOK M G) (hi : β id = none) (hiN : id < N) (his : id ∈ ks) :
    Gd M β N Lb w0 ks (hputs o act.ups) act.val ((execOp a.eval p).run P w) := by
  unfold chkAppend at hc
  split at hc
  · rename_i args argTypes hop
    simp only [Bool.and_eq_true, beq_iff_eq] at hc
    obtain ⟨⟨hca, hsz2⟩, hc2⟩ := hc
    obtain ⟨y, u, hyu, hys, hux⟩ := chkArgs_two hca
    have hargs := arr_two hyu
    subst hargs
    split at hc2
    · rename_i t t' ht ht'
      have hat : argTypes = #[t, t'] := by
        apply Array.ext'
        obtain ⟨l⟩ := argTypes
        match l, hsz2 with
        | [a, b], _ => simp at ht ht'; subst ht; subst ht'; rfl
      simp only [Bool.and_eq_true] at hc2
      obtain ⟨hni, hc3⟩ := hc2
      split at hc3
      · rename_i el hu
        simp only [Bool.and_eq_true, decide_eq_true_eq] at hc3
        obtain ⟨⟨⟨⟨⟨h1, h2⟩, h3⟩, h4⟩, h5⟩, h6⟩ := hc3
        have hs := evA_sound hys he hg
        have hx := evA_sound hux he hg
        obtain ⟨hlen, arr, harr, hrl⟩ := run_first (P := P) hk h4 hel hx
        obtain ⟨hall, _⟩ := elems_sound hk h4 hel hx
        have hfl := flat_len hall
        have hals : arr.toList.length = r.1.length * esz := by rw [← hrl.1, hfl]
        have harr' : ∀ w', w'.heap = w.heap → (Builtin.firstCells esz r.1.length (a.eval u)).run P w' = .ok arr w' := by
          intro w' hw'
          rw [harr w' hw' _ (Nat.le_refl _)]
          congr 1
          apply Array.ext'
          rw [List.take_of_length_le (by omega)]
        have hsl : ∃ base sLen sCap, a.eval y = .slice base sLen sCap := by
          unfold appendTo at hap
          generalize evA G e s = vs at *
          cases vs <;> (try cases hap)
          · exact ⟨_, _, _, hs.nils_inv⟩
          · have := hs.sl_inv; generalize a.eval y = z at *; cases this; exact ⟨_, _, _, rfl⟩
          · generalize a.eval y = z at *
            cases hs with
            | pure h => cases h
            | vsl _ _ _ _ _ _ _ _ => exact ⟨_, _, _, rfl⟩
            | vslE _ _ _ _ _ => exact ⟨_, _, _, rfl⟩
        obtain ⟨base, sLen, sCap, hsv⟩ := hsl
        rw [hsv] at hs
        have hexec : ∀ res w1, (Builtin.append_ #[t, t'] p.type #[.slice base sLen sCap, a.eval u]).run P w = .ok res w1 → (execOp a.eval p).run P w = .ok (.value res) w1 := by
          intro res w1 h
          have : (execOp a.eval p).run P w = ((Builtin.append_ #[t, t'] p.type #[.slice base sLen sCap, a.eval u]).run P w).andThen fun v w' => .ok (.value v) w' := by
            simp [execOp, hop, resolve, invoke, builtin, hat, hsv]
          rw [this, h]; rfl
        refine append_core (P := P) (el := el) hk h4 hall hrl hs hap hi hiN his ?_ ?_ ?_
        · intro hroom hf w1 hw1
          refine hexec _ _ ?_
          rw [run_append_fit (P := P) (w := w) hu hni h1 hlen harr' hf, hw1]; rfl
        · intro hroom hf old hold
          obtain ⟨cap, rest, g1, g2, g3⟩ := run_append_grow (P := P) (w := w) (ty := p.type) hu hni h1 h2 h3 h6 h5 hlen harr' hold hroom hf
          exact ⟨cap, rest, g1, g2, hexec _ _ g3⟩
        · intro hnil hf
          refine hexec _ _ ?_
          have hn0 : r.1.length = 0 := by rw [hnil]; rfl
          have ha0 : arr.toList = [] := by rw [hnil] at hrl; exact List.eq_nil_of_length_eq_zero hrl.1.symm
          rw [run_append_fit (P := P) (w := w) hu hni h1 hlen harr' (by omega), ha0, hn0]
          cases base <;> simp [stBase, storeCells]
      · cases hc3
    · cases hc2
  · cases hc
end
end Go.Proofs.Ytoccgkgdhobmfaa.Am
set_option linter.unusedVariables false
set_option linter.unusedSimpArgs false
namespace Go.Proofs.Ytoccgkgdhobmfaa.Am
open Go
section
variable {P : Program} {M : Mem} {β : Names} {N : Nat} {Lb : Nat → Prop} {w0 w : World} {o : Hp} {ks : List Nat} {e : Env} {a : Go.Act} {G : Nat → Option (List V)}
def mput (M : Mem) (b : Nat) (ob : Obj) : Mem := fun x => if x = b then some ob else M x
theorem mput_le {b : Nat} {ob : Obj} (h : M b = none) : ∀ x y, M x = some y → mput M b ob x = some y := by
  intro x y hx
  unfold mput
  rw [if_neg (fun e => by rw [e, h] at hx; cases hx)]; exact hx
theorem Holds.mem {M' : Mem} {Wr : Nat → Prop} {k : Blk} {x : AObj} (h : Holds M β Wr w k x) (hM : ∀ b y, M b = some y → M' b = some y) (hn : wrt x = true → M' k.b = Option.none) : Holds M' β Wr w k x := by
  cases x with
  | box cs => obtain ⟨h1, h2, h3⟩ := h; exact ⟨h1, hn rfl, h3.mono (fun _ h => h) fun _ _ h => h.mono hM (fun _ _ h => h)⟩
  | vec e xs => obtain ⟨h1, h2, h3, h4, h5⟩ := h; exact ⟨h1, hn rfl, h3, h4, h5.mono (fun _ h => h) fun _ _ h => h.mono hM (fun _ _ h => h)⟩
  | dead => exact h
  | fbox cs => exact BoxAt.mono h (fun x hx => hM _ x hx) (fun _ _ h => h.mono hM)
  | fvec e xs => obtain ⟨h1, h2, h3⟩ := h; exact ⟨h1, h2, h3.mono (fun x hx => hM _ x hx) (fun _ _ h => h.mono hM)⟩
theorem Ok.still (hk : Ok M β N Lb w0 o w) (ob : Obj) : Ok (mput M w.heap.size ob) β N Lb w0 o (w.alloc ob) := by
  have hf := hk.sr.fresh
  refine ⟨⟨?_, hk.sr.bnd, ?_, hk.sr.inj⟩, hk.kp.alloc ob⟩
  · intro b x hx
    unfold mput at hx
    split at hx
    · rename_i e; subst e; cases hx; exact heap_alloc_eq _ _
    · have := hk.sr.sub b x hx
      rw [heap_alloc_lt _ _ _ (lt_of_some this)]; exact this
  · intro i hi
    obtain ⟨k, h1, h2⟩ := hk.sr.live i hi
    refine ⟨k, h1, (h2.world (w' := w.alloc ob) fun hx => heap_alloc_lt _ _ _ (h2.lt hx)).mem (mput_le hf) fun hx => ?_⟩
    have hlt := h2.lt hx
    unfold mput
    rw [if_neg (by omega)]; exact h2.none hx
theorem Gd.still (hk : Ok M β N Lb w0 o w) {ob : Obj} {v' : V} {y : Value} {r : Result Next} (hr : r = .ok (.value y) (w.alloc ob)) (hv : PRel (mput M w.heap.size ob) v' y) : Gd M β N Lb w0 ks o v' r := by
  refine ⟨y, _, _, β, .inl hr, mput_le hk.sr.fresh, ?_, fun _ _ h => h, fun _ _ h => .inl h, hk.still ob, .pure hv⟩
  intro b hb
  have := hk.kp.size
  unfold mput
  rw [if_neg (by omega)]
theorem cellAt_mput {b off : Nat} {c : Array Value} {ty : TypeId} {fr : Nat × Nat} : cellAt (mput M b (.cells c ty fr)) b off = c[off]? := by simp [cellAt, mput]
def chkConvBytes (P : Program) (op : Go.Op) (x : Arg) : Bool := match op with | .convert s d x' => isBytes P d && isStr P s && chkA x' x | _ => false
theorem freeze_last (w : World) (c : Array Value) (ty : TypeId) : (w.alloc (.cells c ty)).freeze ⟨w.heap.size, c.size, none⟩ 1 = w.alloc (.cells c ty (c.size, c.size + 1)) := by
  simp only [World.freeze, World.alloc]
  rw [if_neg (by omega)]
  congr 1
  apply Array.ext
  · simp
  · intro i h1 h2
    simp only [Array.getElem_modify, Array.getElem_push]
    by_cases hi : w.heap.size = i
    · subst hi; simp
    · simp only [hi, if_false]
      have : i < w.heap.size := by simp at h2; omega
      simp [this]
theorem snd_convBytes {p : Oper} {x : Arg} {s : List UInt8} (hc : chkConvBytes P p.op x = true) (hx : evA G e x = .str s) (hk : Ok M β N Lb w0 o w) (he : EnvR M β e a) (hg : GOK M G) :
    Gd M β N Lb w0 ks o (.sl 1 (bytesV s)) ((execOp a.eval p).run P w) := by
  unfold chkConvBytes at hc
  split at hc
  · rename_i src dst x' hop
    simp only [Bool.and_eq_true] at hc
    obtain ⟨el, hd, hel8⟩ := isBytes_of hc.1.1
    have hs := isStr_of hc.1.2
    have h1 := evA_sound hc.2 he hg
    rw [hx] at h1
    generalize hcap : s.length + w.tape w.drawn (.appendCap s.length 0 el) % (2 ^ 63 - s.length) = cap
    have hle : s.length ≤ cap := by omega
    generalize hcc : ((s.map fun b => Value.int .u8 (b.toNat : Int)).toArray ++ Array.replicate (cap - s.length) (.int .u8 0)) = c
    have hdata : (⟨s.toArray⟩ : ByteArray).data.map (fun b => Value.int .u8 (b.toNat : Int)) = (s.map fun b => Value.int .u8 (b.toNat : Int)).toArray := by simp
    have hrun : (convert src dst (a.eval x')).run P w = .ok (.slice (some ⟨w.heap.size, 0, none⟩) s.length cap) (w.drew.alloc (.cells c el (c.size, c.size + 1))) := by
      rw [h1.str_inv]
      have hsh : (w.drew.alloc (.cells c el)).shape? w.heap.size = some (el, c.size) := by
        simp only [World.shape?]
        have := heap_alloc_eq w.drew (.cells c el)
        simp only [World.size_drew] at this
        rw [this]
      have hfz := freeze_last w.drew c el
      simp only [World.size_drew] at hfz
      simp only [convert, Sem.run_bind, run_underlying hs, run_underlying hd, Result.andThen_ok, run_underlying hel8, Conv.stringToBytes, run_choose, Question.forced, Bool.false_eq_true, if_false, Question.cut, size_str, hcap, World.drew_eq, hdata, newRow, run_newObj, World.alloc_eq, Sem.run_pure, hcc,
        markStringish, World.size_drew, run_shape, hsh, run_freeze, hfz]
    have hk' : Ok M β N Lb w0 o w.drew := ⟨hk.sr.drew, hk.kp.drew⟩
    refine .still (ob := .cells c el (c.size, c.size + 1)) (y := .slice (some ⟨w.heap.size, 0, none⟩) s.length cap) hk' ?_ ?_
    · simp only [execOp, hop, Sem.run_bind, hrun, Result.andThen_ok, Sem.run_pure]
    · have hl : (bytesV s).length = s.length := by simp [bytesV]
      rw [← hl]
      have hget : ∀ (i : Nat) (cc : List V) (j : Nat) (v : V), (bytesV s)[i]? = some cc → cc[j]? = some v → j = 0 ∧ ∃ b, s[i]? = some b ∧ v = .int .u8 b.toNat := by
        intro i cc j v hi hj
        simp only [bytesV, List.getElem?_map, Option.map_eq_some_iff] at hi
        obtain ⟨b, hb, rfl⟩ := hi
        simp only [byteV] at hj
        cases j with
        | zero => simp at hj; exact ⟨rfl, b, hb, hj.symm⟩
        | succ j => simp at hj
      refine .sl 1 (bytesV s) _ cap w.heap.size 0 (fun i _ => .int .u8 ((s.getD i 0).toNat : Int)) (by rw [hl]; exact hle) (fun _ => rfl) ?_ ?_ ?_ ?_
      · intro i cc hi
        simp only [bytesV, List.getElem?_map, Option.map_eq_some_iff] at hi
        obtain ⟨b, _, rfl⟩ := hi; rfl
      · intro i cc j v hi hj
        obtain ⟨rfl, b, hb, rfl⟩ := hget i cc j v hi hj
        have hlt := (List.getElem?_eq_some_iff.1 hb).1
        have : cellAt (mput M w.drew.heap.size (.cells c el (c.size, c.size + 1))) w.heap.size (0 + (i * 1 + 0)) = c[0 + (i * 1 + 0)]? := cellAt_mput
        rw [this, ← hcc]
        rw [Array.getElem?_append_left (by simp; omega)]
        simp [hb, List.getD]
      · intro i cc j v hi hj; rfl
      · intro i cc j v hi hj
        obtain ⟨rfl, b, hb, rfl⟩ := hget i cc j v hi hj
        have : s.getD i 0 = b := by simp [List.getD, hb]
        rw [this]; exact .int _ _
  · cases hc
def chkCopy (P : Program) (op : Go.Op) (esz : Nat) (d s : Arg) : Bool := match op with
  | .call { callee := .builtin .copy, args, argTypes } => chkArgs args.toList [d, s] && (match argTypes[0]? with
    | some t => (match P.underlying t with
      | some (.slice el) => tsize P el esz && decide (0 < esz)
      | _ => false)
    | _ => false)
  | _ => false
theorem snd_copy {p : Oper} {esz : Nat} {d s : Arg} {r : List (List V) × List Nat} {i off len : Nat} {cs cs' : List V} (hc : chkCopy P p.op esz d s = true) (hel : elemsOf o esz (evA G e s) = some r) (hd : evA G e d = .bsl i off len esz)
    (ho : o i = .box cs) (hsp : splice off (r.1.take len).flatten cs = some cs') (hk : Ok M β N Lb w0 o w) (he : EnvR M β e a) (hg : GOK M G) :
    Gd M β N Lb w0 ks (hput o i (.box cs')) (lenB (min r.1.length len)) ((execOp a.eval p).run P w) := by
  unfold chkCopy at hc
  split at hc
  · rename_i args argTypes hop
    simp only [Bool.and_eq_true] at hc
    obtain ⟨y, u, hyu, hys, hux⟩ := chkArgs_two hc.1
    have hargs := arr_two hyu
    subst hargs
    have hc2 := hc.2
    split at hc2
    · rename_i t ht
      split at hc2
      · rename_i el hu
        simp only [Bool.and_eq_true, decide_eq_true_eq] at hc2
        obtain ⟨hsz, hpos⟩ := hc2
        have hs := evA_sound hux he hg
        have hdd := evA_sound hys he hg
        rw [hd] at hdd
        obtain ⟨hlen, arr, harr, hrl⟩ := run_first (P := P) hk hpos hel hs
        obtain ⟨hall, _⟩ := elems_sound hk hpos hel hs
        have hmin : (r.1.take len).length = min r.1.length len := by simp [Nat.min_comm]
        have hfl := flat_len hall
        have hal : arr.toList.length = r.1.length * esz := by rw [← hrl.1, hfl]
        obtain ⟨k, hβ, hh⟩ := hk.sr.live i (by rw [ho]; simp)
        have hh0 := hh
        rw [ho] at hh
        obtain ⟨hw1, hw2, c, ty, fr, hb, hcl, hcs, hl, hrr⟩ := hh
        obtain ⟨g1, g2, g3⟩ := splice_get hsp
        have hrl' : RelL M β (r.1.take len).flatten (arr.toList.take (min r.1.length len * esz)) := by
          have h1 : r.1.take len = r.1.take (min r.1.length len) := by
            rcases Nat.le_total r.1.length len with h | h
            · rw [Nat.min_eq_left h, List.take_of_length_le h, List.take_of_length_le (Nat.le_refl _)]
            · rw [Nat.min_eq_right h]
          rw [h1, flat_take (e := esz) _ hall (Nat.min_le_left _ _)]
          exact hrl.take _
        have hbase : ∃ base cap, a.eval y = .slice base len cap ∧ (len ≠ 0 → base = some ⟨k.b, off, none⟩) := by
          generalize a.eval y = z at *
          cases hdd with
          | pure h => cases h
          | bsl _ _ _ _ cap k' hk' hl' => rw [hβ] at hk'; cases hk'; exact ⟨_, cap, rfl, fun _ => rfl⟩
          | bslE _ _ _ cap ad => exact ⟨ad, cap, rfl, fun h => absurd rfl h⟩
        obtain ⟨base, cap, hbv, hbb⟩ := hbase
        have hw : Ok M β N Lb w0 (hput o i (.box cs')) (wset w k.b (.cells (wcells c off (arr.toList.take (min r.1.length len * esz))) ty fr)) := by
          refine ⟨hk.sr.write hβ (by rw [ho]; rfl) rfl ⟨hw1, hw2, ?_⟩, hk.kp.wset _ _ hw1⟩
          rw [heap_wset_eq _ _ _ (lt_of_some hb)]
          exact boxAt_write hcl hcs hl hrr hsp hrl'
        have hst : (stBase base 0 (arr.toList.take (min r.1.length len * esz))).run P w = .ok () (wset w k.b (.cells (wcells c off (arr.toList.take (min r.1.length len * esz))) ty fr)) := by
          by_cases h0 : len = 0
          · subst h0
            have hn : arr.toList.take (min r.1.length 0 * esz) = [] := by simp
            rw [hn]
            simp only [wcells]
            rw [wset_same hb]
            cases base <;> simp [stBase, storeCells]
          · rw [hbb h0]
            have := run_storeCells (P := P) k.b off (arr.toList.take (min r.1.length len * esz)) w c 0 hb hcl (by rw [← hrl'.1]; omega) hrl'.2.2
            simp only [stBase, addr_add, Nat.add_zero] at this ⊢
            exact this
        refine ⟨.int .i64 (min r.1.length len : Nat), _, M, β, .inl ?_, fun _ _ h => h, fun _ _ => rfl, fun _ _ h => h, fun _ _ h => .inl h, hw, .pure (.int _ _)⟩
        have hf : (Builtin.firstCells esz (Nat.min r.1.length len) (a.eval u)).run P w = .ok (arr.toList.take (min r.1.length len * esz)).toArray w := harr w rfl _ (Nat.min_le_left _ _)
        have hrun : (Builtin.copy_ argTypes p.type #[a.eval y, a.eval u]).run P w = ((stBase base 0 (arr.toList.take (min r.1.length len * esz))).run P w).andThen fun _ w' => .ok (.int .i64 (min r.1.length len : Nat)) w' := by
          simp only [Builtin.copy_, ht, List.getElem?_toArray, List.getElem?_cons_zero, List.getElem?_cons_succ, Sem.run_bind, run_underlying hu, Result.andThen_ok, hbv, hlen, tsize_run hsz, hf, Sem.run_pure]
          cases base with
          | none => simp [stBase, goInt]
          | some ad => simp [stBase, goInt, Addr.add]
        rw [hst] at hrun
        have : (execOp a.eval p).run P w = ((Builtin.copy_ argTypes p.type #[a.eval y, a.eval u]).run P w).andThen fun v w' => .ok (.value v) w' := by
          simp [execOp, hop, resolve, invoke, builtin]
        rw [this, hrun]; rfl
      · cases hc2
    · cases hc2
  · cases hc
end
end Go.Proofs.Ytoccgkgdhobmfaa.Am
set_option linter.unusedVariables false
set_option linter.unusedSimpArgs false
namespace Go.Proofs.Ytoccgkgdhobmfaa.Am
open Go
section
variable {P : Program} {M : Mem} {β : Names} {N : Nat} {Lb : Nat → Prop} {w0 w : World} {o : Hp} {ks : List Nat} {e : Env} {a : Go.Act} {G : Nat → Option (List V)}
theorem relL_splice {cs cs' new : List V} {c : Array Value} {vals : List Value} {off : Nat} (h : RelL M β cs c.toList) (hsp : splice off new cs = some cs') (hn : RelL M β new vals) : RelL M β cs' (wcells c off vals).toList := by
  obtain ⟨h1, h2, h3⟩ := splice_get hsp
  have hl : cs.length = c.size := by simpa using h.1
  refine RelL.of_get (by rw [h2, hl]; simp [wcells_size]) ?_
  intro j v hj
  rw [h3 j] at hj
  rw [Array.getElem?_toList, wcells_get vals c off (by rw [← hn.1]; omega) j, ← hn.1]
  split at hj
  · rename_i hjj
    rw [if_pos hjj]
    have hlt : j - off < vals.length := by rw [← hn.1]; omega
    exact ⟨vals[j - off], by simp [hlt], hn.2.2 _ (List.getElem_mem _), hn.2.1 _ v _ hj (by simp [hlt])⟩
  · rename_i hjj
    rw [if_neg hjj]
    have hlt := (List.getElem?_eq_some_iff.1 hj).1
    have hlt' : j < c.size := by omega
    exact ⟨c[j], by simp [hlt'], h.2.2 _ (by simp), h.2.1 j v _ hj (by simp [hlt'])⟩
theorem fold_wcells (off : Nat) : ∀ (l : List Value) (k : Nat) (c : Array Value), (l.zipIdx k).foldl (fun cs p => cs.setIfInBounds (off + p.2) p.1) c = wcells c (off + k) l := by
  intro l
  induction l with
  | nil => intro k c; rfl
  | cons v r ih => intro k c; simp only [List.zipIdx_cons, List.foldl_cons, wcells]; rw [ih (k + 1)]; rw [Nat.add_assoc]
def chkParts (place : Nat → Option (Nat × Nat)) : List (Nat × Operand) → List (Nat × Nat × Arg) → Bool
  | [], [] => true
  | (i, x) :: r, (off, n, y) :: s => (match place i with | some q => q.1 == off && q.2 == n | none => false) && chkA x y && chkParts place r s
  | _, _ => false
theorem fill_sound {place : Nat → Option (Nat × Nat)} : ∀ {ps : List (Nat × Operand)} {qs : List (Nat × Nat × Arg)} {cs cs' : List V} {c : Array Value}, chkParts place ps qs = true → fillParts G e qs cs = some cs' → RelL M β cs c.toList → EnvR M β e a → GOK M G →
    ∃ c', Instr.fill place c (ps.map fun p => (p.1, a.eval p.2)) = some c' ∧ RelL M β cs' c'.toList := by
  intro ps
  induction ps with
  | nil =>
    intro qs cs cs' c hc hf hr he hg
    cases qs with
    | nil => cases hf; exact ⟨c, rfl, hr⟩
    | cons q qs => cases hc
  | cons p ps ih =>
    intro qs cs cs' c hc hf hr he hg
    obtain ⟨i, x⟩ := p
    cases qs with
    | nil => cases hc
    | cons q qs =>
      obtain ⟨off, n, y⟩ := q
      simp only [chkParts, Bool.and_eq_true] at hc
      obtain ⟨⟨hp, hx⟩, hrest⟩ := hc
      split at hp
      · rename_i q hq
        simp only [Bool.and_eq_true, beq_iff_eq] at hp
        obtain ⟨rfl, rfl⟩ := hp
        simp only [fillParts] at hf
        split at hf
        · rename_i hlen
          obtain ⟨hlen, hok⟩ := hlen
          have hv := evA_sound (M := M) (β := β) hx he hg
          have hcl := hv.cells hok
          cases hsp : splice q.1 (evA G e y).cells cs with
          | none => rw [hsp] at hf; cases hf
          | some cs1 =>
            rw [hsp] at hf
            simp only [Option.bind_some] at hf
            have hr1 := relL_splice hr hsp hcl
            obtain ⟨c', h1, h2⟩ := ih hrest hf hr1 he hg
            refine ⟨c', ?_, h2⟩
            have hs1 := (splice_get hsp).1
            have hcs : cs.length = c.size := by simpa using hr.1
            have hvl : (a.eval x).cells.size = q.2 := by rw [← hlen]; simpa using hcl.1.symm
            have hfold : (a.eval x).cells.zipIdx.foldl (fun cs (p : Value × Nat) => cs.setIfInBounds (q.1 + p.2) p.1) c = wcells c q.1 (a.eval x).cells.toList := by
              have := fold_wcells q.1 (a.eval x).cells.toList 0 c
              simp only [Nat.add_zero] at this
              rw [← this, ← Array.foldl_toList]
              simp
            simp only [List.map_cons, Instr.fill, hq]
            rw [if_neg (by simp [hvl]; omega)]
            rw [← h1]
            congr 1
        · cases hf
      · cases hp
def structPlace (P : Program) (fs : Array Field) (i : Nat) : Option (Nat × Nat) := (fs[i]?).bind fun f => (P.info? f.type).map fun inf => (f.offset, inf.size)
theorem mapM_places {fs : List Field} (h : ∀ f ∈ fs, (P.info? f.type).isSome = true) :
    (fs.mapM fun f => do pure (f.offset, ← sizeOf f.type) : Sem (List (Nat × Nat))).run P w = .ok (fs.map fun f => (f.offset, P.cellsOf f.type)) w := by
  induction fs with
  | nil => simp
  | cons f r ih =>
    have hf := h f (by simp)
    obtain ⟨inf, hinf⟩ := Option.isSome_iff_exists.1 hf
    have hs : (sizeOf f.type).run P w = .ok (P.cellsOf f.type) w := by simp [sizeOf, typeInfo, hinf, Program.cellsOf]
    simp only [List.mapM_cons, Sem.run_bind, hs, Result.andThen_ok, Sem.run_pure, ih (fun g hg => h g (by simp [hg])), List.map_cons]
def chkBuild (P : Program) (op : Go.Op) (zero : List V) (parts : List (Nat × Nat × Arg)) : Bool := match op with
  | .build t ps => tzero P t zero && (match P.underlying t with
    | some (.struct fs) => fs.all (fun f => (P.info? f.type).isSome) && chkParts (structPlace P fs) ps.toList parts
    | some (.array _ el) => (match P.info? el with | some inf => chkParts (fun i => some (i * inf.size, inf.size)) ps.toList parts | none => false)
    | _ => false)
  | _ => false
theorem snd_build {p : Oper} {zero cs : List V} {parts : List (Nat × Nat × Arg)} (hc : chkBuild P p.op zero parts = true) (hf : fillParts G e parts zero = some cs)
    (hk : Ok M β N Lb w0 o w) (he : EnvR M β e a) (hg : GOK M G) : Gd M β N Lb w0 ks o (.agg cs) ((execOp a.eval p).run P w) := by
  unfold chkBuild at hc
  split at hc
  · rename_i t ps hop
    simp only [Bool.and_eq_true] at hc
    obtain ⟨z, h1, h2, _⟩ := tzero_run (P := P) (w := w) (M := M) (β := β) hc.1
    have hc2 := hc.2
    have hmap : (ps.map fun (i, x) => (i, a.eval x)).toList = ps.toList.map fun p => (p.1, a.eval p.2) := by simp
    split at hc2
    · rename_i fs hu
      simp only [Bool.and_eq_true] at hc2
      obtain ⟨c', h3, h4⟩ := fill_sound (a := a) hc2.2 hf h2 he hg
      refine .pure (x := .agg c') hk ?_ (by simpa using h4.agg)
      have hpl := mapM_places (P := P) (w := w) (fs := fs.toList) (by intro f hf'; have := hc2.1; rw [Array.all_eq_true_iff_forall_mem] at this; exact this f (by simpa using hf'))
      have hpl2 : (fs.mapM fun f => do pure (f.offset, ← sizeOf f.type) : Sem (Array (Nat × Nat))).run P w = .ok (fs.map fun f => (f.offset, P.cellsOf f.type)) w := by
        rw [Array.mapM_eq_mapM_toList]
        simp only [Sem.run_map, hpl, Result.andThen_ok]
        congr 1
        apply Array.ext'
        simp
      have hplace : (fun i => (fs.map fun f => (f.offset, P.cellsOf f.type))[i]?) = structPlace P fs := by
        funext i
        simp only [structPlace, Array.getElem?_map]
        cases hfi : fs[i]? with
        | none => rfl
        | some f =>
          have hm : f ∈ fs := Array.mem_of_getElem? hfi
          have hsome := hc2.1
          rw [Array.all_eq_true_iff_forall_mem] at hsome
          obtain ⟨inf, hinf⟩ := Option.isSome_iff_exists.1 (hsome f hm)
          simp [hinf, Program.cellsOf]
      simp only [execOp, hop, Instr.build, Sem.run_bind, h1, Result.andThen_ok, run_underlying hu, hpl2, hplace, hmap, h3, Sem.run_pure]
    · rename_i n el hu
      split at hc2
      · rename_i inf hinf
        obtain ⟨c', h3, h4⟩ := fill_sound (a := a) hc2 hf h2 he hg
        refine .pure (x := .agg c') hk ?_ (by simpa using h4.agg)
        have hs : (sizeOf el).run P w = .ok inf.size w := by simp [sizeOf, typeInfo, hinf]
        simp only [execOp, hop, Instr.build, Sem.run_bind, h1, Result.andThen_ok, run_underlying hu, hs, hmap, h3, Sem.run_pure]
      · cases hc2
    · cases hc2
  · cases hc
def chkElems : List (Nat × Operand) → List (Nat × Arg) → Bool
  | [], [] => true
  | (i, x) :: r, (j, y) :: s => i == j && chkA x y && chkElems r s
  | _, _ => false
theorem fillE_sound {esz : Nat} : ∀ {ps : List (Nat × Operand)} {qs : List (Nat × Arg)} {xs xs' : List (List V)} {c : Array Value}, chkElems ps qs = true → fillElems G e esz qs xs = some xs' → (∀ l ∈ xs, l.length = esz) → RelL M β xs.flatten c.toList → EnvR M β e a → GOK M G →
    ∃ c', Instr.fill (fun i => some (i * esz, esz)) c (ps.map fun p => (p.1, a.eval p.2)) = some c' ∧ RelL M β xs'.flatten c'.toList ∧ (∀ l ∈ xs', l.length = esz) ∧ xs'.length = xs.length := by
  intro ps
  induction ps with
  | nil =>
    intro qs xs xs' c hc hf hall hr he hg
    cases qs with
    | nil => cases hf; exact ⟨c, rfl, hr, hall, rfl⟩
    | cons q qs => cases hc
  | cons p ps ih =>
    intro qs xs xs' c hc hf hall hr he hg
    obtain ⟨i, x⟩ := p
    cases qs with
    | nil => cases hc
    | cons q qs =>
      obtain ⟨j, y⟩ := q
      simp only [chkElems, Bool.and_eq_true, beq_iff_eq] at hc
      obtain ⟨⟨rfl, hx⟩, hrest⟩ := hc
      simp only [fillElems] at hf
      split at hf
      · rename_i hlen
        obtain ⟨hlen, hij, hok⟩ := hlen
        have hv := evA_sound (M := M) (β := β) hx he hg
        have hcl := hv.cells hok
        have hxi : xs[i]? = some xs[i] := List.getElem?_eq_getElem hij
        have hil : (xs[i]).length = esz := hall _ (List.getElem_mem _)
        have hs0 : splice 0 (evA G e y).cells xs[i] = some (evA G e y).cells := by
          unfold splice
          rw [if_pos (by omega), List.drop_eq_nil_of_le (by omega)]; simp
        have hsp := flat_set hall hxi hs0
        rw [Nat.add_zero] at hsp
        have hr1 := relL_splice hr hsp hcl
        have hall' : ∀ l ∈ xs.set i (evA G e y).cells, l.length = esz := by
          intro l hl
          rcases List.mem_or_eq_of_mem_set hl with h | h
          · exact hall l h
          · rw [h]; exact hlen
        obtain ⟨c', h1, h2, h3, h4⟩ := ih hrest hf hall' hr1 he hg
        refine ⟨c', ?_, h2, h3, by rw [h4]; simp⟩
        have hs1 := (splice_get hsp).1
        have hcs : xs.flatten.length = c.size := by simpa using hr.1
        have hvl : (a.eval x).cells.size = esz := by rw [← hlen]; simpa using hcl.1.symm
        have hfold : (a.eval x).cells.zipIdx.foldl (fun cs (p : Value × Nat) => cs.setIfInBounds (i * esz + p.2) p.1) c = wcells c (i * esz) (a.eval x).cells.toList := by
          have := fold_wcells (i * esz) (a.eval x).cells.toList 0 c
          simp only [Nat.add_zero] at this
          rw [← this, ← Array.foldl_toList]
          simp
        simp only [List.map_cons, Instr.fill]
        have hs1' : i * esz + esz ≤ c.size := by rw [← hcs]; rw [hlen] at hs1; exact hs1
        rw [if_neg (by rw [hvl]; simp; omega)]
        rw [← h1]
        congr 1
      · cases hf
def chkLit (P : Program) (op : Go.Op) (esz : Nat) (zero : List (List V)) (parts : List (Nat × Arg)) : Bool := match op with
  | .buildSlice t len ps => (match P.underlying t with
    | some (.slice el) => tsize P el esz && decide (0 < esz) && decide (len * esz ≤ 16777216) && zero.length == len && (match P.info? el with
      | some inf => (match inf.zero with | some z => z.cells.size == esz && zero.all (fun l => chkCells z.cells.toList l) | none => false)
      | none => false) && chkElems ps.toList parts
    | _ => false)
  | _ => false
theorem allEq {zero : List (List V)} {zs : List Value} (h : zero.all (fun l => chkCells zs l) = true) : ∀ l ∈ zero, RelL M β l zs := by
  intro l hl
  rw [List.all_eq_true] at h
  exact (chkCells_sound (h l hl)).1
theorem lit_start {z : Array Value} {esz : Nat} {zero : List (List V)} (hz : z.size = esz) (h0 : 0 < esz) (h : ∀ l ∈ zero, RelL M β l z.toList) :
    (∀ l ∈ zero, l.length = esz) ∧ RelL M β zero.flatten ((Array.range (zero.length * esz)).map fun i => z[i % z.size]!).toList := by
  have hall : ∀ l ∈ zero, l.length = esz := by intro l hl; have := (h l hl).1; simp at this; omega
  refine ⟨hall, RelL.of_get (by rw [flat_len hall]; simp) ?_⟩
  intro j v hj
  obtain ⟨l, h1, h2, h3⟩ := flat_index h0 hall hj
  have hlt : j % esz < z.size := by rw [hz]; exact Nat.mod_lt _ h0
  have hjn : j < zero.length * esz := by
    have := (List.getElem?_eq_some_iff.1 hj).1
    rwa [flat_len hall] at this
  have hl := h l (List.mem_of_getElem? h1)
  refine ⟨z[j % esz], ?_, hl.2.2 _ (by simp), hl.2.1 _ v _ h2 (by simp [hlt])⟩
  have h4 : z[j % esz]! = z[j % esz] := getElem!_pos z _ hlt
  simp [hjn, hz, h4]
/-- What a slice literal comes to. -/
theorem run_lit {p : Oper} {esz : Nat} {zero xs : List (List V)} {parts : List (Nat × Arg)} (hc : chkLit P p.op esz zero parts = true) (hf : fillElems G e esz parts zero = some xs) (he : EnvR M β e a) (hg : GOK M G) :
    ∃ (c : Array Value) (el : TypeId), (execOp a.eval p).run P w = .ok (.value (.slice (some ⟨w.heap.size, 0, none⟩) xs.length xs.length)) (w.alloc (.cells c el)) ∧ RelL M β xs.flatten c.toList ∧ (∀ l ∈ xs, l.length = esz) ∧ 0 < esz := by
  unfold chkLit at hc
  split at hc
  · rename_i t len ps hop
    split at hc
    · rename_i el hu
      simp only [Bool.and_eq_true, decide_eq_true_eq, beq_iff_eq] at hc
      obtain ⟨⟨⟨⟨⟨hsz, h0⟩, h24⟩, hlen⟩, hz⟩, hel⟩ := hc
      split at hz
      · rename_i inf hinf
        split at hz
        · rename_i z hzz
          simp only [Bool.and_eq_true, beq_iff_eq] at hz
          obtain ⟨hzs, hzall⟩ := hz
          obtain ⟨hall, hr⟩ := lit_start (M := M) (β := β) hzs h0 (allEq hzall)
          obtain ⟨c, h1, h2, h3, h4⟩ := fillE_sound (a := a) hel hf hall hr he hg
          refine ⟨c, el, ?_, h2, h3, h0⟩
          have hzv : (zeroValue el).run P w = .ok z w := by simp [zeroValue, typeInfo, hinf, hzz]
          have hmap : (ps.map fun (i, x) => (i, a.eval x)).toList = ps.toList.map fun p => (p.1, a.eval p.2) := by simp
          have h24' : ¬ (len * esz > 2 ^ 24) := by
            have : (2 : Nat) ^ 24 = 16777216 := by decide
            omega
          rw [hlen] at h1 h4
          by_cases hz0 : len * esz = 0
          · have hl0 : len = 0 := by rcases Nat.mul_eq_zero.1 hz0 with h | h <;> omega
            subst hl0
            have h1' : Instr.fill (fun i => some (i * esz, esz)) ((Array.range (0 * esz)).map fun i => (#[] : Array Value)[i % (#[] : Array Value).size]!) (ps.toList.map fun p => (p.1, a.eval p.2)) = some c := by
              rw [← h1]; congr 1; simp
            rw [Nat.zero_mul] at h1'
            have h00 : ¬ (0 > 2 ^ 24) := by decide
            simp only [execOp, hop, Instr.buildSlice, Sem.run_bind, run_underlying hu, Result.andThen_ok, tsize_run hsz, Sem.run_ite, Nat.zero_mul, h00, if_false, if_true, Sem.run_pure, hmap, h1', newRow, run_newObj, World.alloc_eq, h4]
          · simp only [execOp, hop, Instr.buildSlice, Sem.run_bind, run_underlying hu, Result.andThen_ok, tsize_run hsz, Sem.run_ite, h24', if_false, hz0, hzv, Sem.run_pure, hmap, h1, newRow, run_newObj, World.alloc_eq, h4]
        · cases hz
      · cases hz
    · cases hc
  · cases hc
theorem snd_lit {p : Oper} {esz : Nat} {zero xs : List (List V)} {parts : List (Nat × Arg)} {id : Nat} (hc : chkLit P p.op esz zero parts = true) (hf : fillElems G e esz parts zero = some xs)
    (hk : Ok M β N Lb w0 o w) (he : EnvR M β e a) (hg : GOK M G) (hi : β id = none) (hiN : id < N) (his : id ∈ ks) : Gd M β N Lb w0 ks (hput o id (.vec esz xs)) (.vsl id 0 xs.length) ((execOp a.eval p).run P w) := by
  obtain ⟨c, el, h1, h2, h3, h0⟩ := run_lit (P := P) (w := w) (a := a) hc hf he hg
  have hl : c.size = xs.length * esz := by have := h2.1; rw [flat_len h3] at this; simpa using this.symm
  refine .newVec (c := c) (ty := el) hk hi hiN h3 (by omega) ?_ (Nat.le_refl _) (by omega) h1 his
  rw [← hl, List.take_of_length_le (by simp)]
  exact h2
theorem nrm_sound {v v' : V} {x : Value} (h : nrm v = some v') (hr : Rel M β v x) : PRel M v' x := by
  cases v <;> simp only [nrm] at h <;> (try cases h)
  · rw [hr.int_inv]; exact .int _ _
  · rw [hr.bool_inv]; exact .bool _
  · rw [hr.str_inv]; exact .str _
  · rw [hr.nilp_inv]; exact .nilp
  · rw [hr.nils_inv]
    exact .sl _ [] none 0 0 0 (fun _ _ => undef) (Nat.le_refl _) (fun h => absurd rfl h) (by simp) (by simp) (by simp) (by simp)
  · rw [hr.nilf_inv]; exact .nilf
  · rw [hr.nili_inv]; exact .nili
  · exact hr.imp_inv
  · exact hr.sl_inv
  · rename_i t v
    split at h
    · cases h
      obtain ⟨y, rfl, hy⟩ := hr.iface_inv
      rw [hy.int_inv]; exact .iface _ _ _ (.int _ _)
    · cases h
theorem nrmL_get : ∀ {cs cs' : List V}, nrmL cs = some cs' → cs'.length = cs.length ∧ ∀ (j : Nat) v', cs'[j]? = some v' → ∃ v, cs[j]? = some v ∧ nrm v = some v' := by
  intro cs
  induction cs with
  | nil => intro cs' h; cases h; exact ⟨rfl, by simp⟩
  | cons a r ih =>
    intro cs' h
    simp only [nrmL] at h
    cases ha : nrm a with
    | none => rw [ha] at h; cases h
    | some a' =>
      rw [ha] at h
      simp only [Option.bind_some] at h
      cases hr : nrmL r with
      | none => rw [hr] at h; cases h
      | some r' =>
        rw [hr] at h; cases h
        obtain ⟨h1, h2⟩ := ih hr
        refine ⟨by simp [h1], ?_⟩
        intro j v' hj
        cases j with
        | zero => simp at hj; subst hj; exact ⟨a, rfl, ha⟩
        | succ j => simp only [List.getElem?_cons_succ] at hj; exact h2 j v' hj
theorem nrmLL_get : ∀ {xs xs' : List (List V)}, nrmLL xs = some xs' → xs'.length = xs.length ∧ ∀ (i : Nat) l', xs'[i]? = some l' → ∃ l, xs[i]? = some l ∧ nrmL l = some l' := by
  intro xs
  induction xs with
  | nil => intro xs' h; cases h; exact ⟨rfl, by simp⟩
  | cons a r ih =>
    intro xs' h
    simp only [nrmLL] at h
    cases ha : nrmL a with
    | none => rw [ha] at h; cases h
    | some a' =>
      rw [ha] at h
      simp only [Option.bind_some] at h
      cases hr : nrmLL r with
      | none => rw [hr] at h; cases h
      | some r' =>
        rw [hr] at h; cases h
        obtain ⟨h1, h2⟩ := ih hr
        refine ⟨by simp [h1], ?_⟩
        intro j v' hj
        cases j with
        | zero => simp at hj; subst hj; exact ⟨a, rfl, ha⟩
        | succ j => simp only [List.getElem?_cons_succ] at hj; exact h2 j v' hj
theorem snd_ilit {p : Oper} {esz : Nat} {zero xs xs' : List (List V)} {parts : List (Nat × Arg)} (hc : chkLit P p.op esz zero parts = true) (hf : fillElems G e esz parts zero = some xs) (hn : nrmLL xs = some xs')
    (hk : Ok M β N Lb w0 o w) (he : EnvR M β e a) (hg : GOK M G) : Gd M β N Lb w0 ks o (.sl esz xs') ((execOp a.eval p).run P w) := by
  obtain ⟨c, el, h1, h2, h3, h0⟩ := run_lit (P := P) (w := w) (a := a) hc hf he hg
  have hl : c.size = xs.length * esz := by have := h2.1; rw [flat_len h3] at this; simpa using this.symm
  obtain ⟨n1, n2⟩ := nrmLL_get hn
  refine .still hk h1 ?_
  rw [← n1]
  have hall' : ∀ (i : Nat) (l' : List V), xs'[i]? = some l' → l'.length = esz := by
    intro i l' hi
    obtain ⟨l, h4, h5⟩ := n2 i l' hi
    rw [(nrmL_get h5).1]; exact h3 l (List.mem_of_getElem? h4)
  have hget : ∀ (i : Nat) (l' : List V) (j : Nat) (v' : V), xs'[i]? = some l' → l'[j]? = some v' → ∃ v, xs.flatten[i * esz + j]? = some v ∧ nrm v = some v' := by
    intro i l' j v' hi hj
    obtain ⟨l, h4, h5⟩ := n2 i l' hi
    obtain ⟨v, h6, h7⟩ := (nrmL_get h5).2 j v' hj
    exact ⟨v, flat_get h3 h4 h6, h7⟩
  have hcl : ∀ (q : Nat) (v : V), xs.flatten[q]? = some v → c[q]? = some (c.getD q undef) ∧ (c.getD q undef).oneCell' = true ∧ Rel M β v (c.getD q undef) := by
    intro q v hq
    have hlt : q < c.size := by
      have := (List.getElem?_eq_some_iff.1 hq).1
      rw [flat_len h3] at this; omega
    have hx : c[q]? = some c[q] := by simp [hlt]
    rw [getD_of_getElem? hx]
    exact ⟨hx, h2.2.2 _ (by simp), h2.2.1 q v _ hq (by simp [hlt])⟩
  refine .sl esz xs' _ _ w.heap.size 0 (fun i j => c.getD (i * esz + j) undef) (by omega) (fun _ => rfl) hall' ?_ ?_ ?_
  · intro i l' j v' hi hj
    obtain ⟨v, h4, _⟩ := hget i l' j v' hi hj
    rw [cellAt_mput, Nat.zero_add]; exact (hcl _ v h4).1
  · intro i l' j v' hi hj
    obtain ⟨v, h4, _⟩ := hget i l' j v' hi hj
    exact (hcl _ v h4).2.1
  · intro i l' j v' hi hj
    obtain ⟨v, h4, h5⟩ := hget i l' j v' hi hj
    exact (nrm_sound h5 (hcl _ v h4).2.2).mono (mput_le hk.sr.fresh)
end
end Go.Proofs.Ytoccgkgdhobmfaa.Am
set_option linter.unusedVariables false
set_option linter.unusedSimpArgs false
namespace Go.Proofs.Ytoccgkgdhobmfaa.Am
open Go
section
variable {P : Program} {M : Mem} {β : Names} {N : Nat} {Lb : Nat → Prop} {w0 w : World} {o : Hp} {ks : List Nat} {e : Env} {a : Go.Act} {G : Nat → Option (List V)}
theorem asN_int2 {v : V} {n : Nat} (h : asN v = some n) : ∃ k m, v = .int k m ∧ 0 ≤ m ∧ m.toNat = n := by
  unfold asN at h
  split at h
  · rename_i k m
    split at h
    · rename_i h0; cases h; exact ⟨k, m, rfl, h0, rfl⟩
    · cases h
  · cases h
def chkElZ (P : Program) (t esz ebytes : Nat) (zero : List V) : Bool := match P.underlying t with
  | some (.slice el) => (match P.info? el with
    | some inf => inf.size == esz && decide (0 < esz) && inf.bytes == ebytes && decide (ebytes ≤ 1000000) && decide (0 < ebytes) && (match inf.zero with
      | some z => z.cells.size == esz && chkCells z.cells.toList zero
      | none => false)
    | none => false)
  | _ => false
theorem chkElZ_spec {t esz ebytes : Nat} {zero : List V} (h : chkElZ P t esz ebytes zero = true) : ∃ el inf z, P.underlying t = some (.slice el) ∧ P.info? el = some inf ∧ inf.size = esz ∧ 0 < esz ∧ inf.bytes = ebytes ∧ ebytes ≤ 1000000 ∧ 0 < ebytes ∧
    inf.zero = some z ∧ z.cells.size = esz ∧ ∀ (M : Mem) (β : Names), RelL M β zero z.cells.toList := by
  unfold chkElZ at h
  split at h
  · rename_i el hu
    split at h
    · rename_i inf hi
      simp only [Bool.and_eq_true, beq_iff_eq, decide_eq_true_eq] at h
      obtain ⟨⟨⟨⟨⟨h1, h2⟩, h3⟩, h4⟩, h5⟩, h6⟩ := h
      split at h6
      · rename_i z hz
        simp only [Bool.and_eq_true, beq_iff_eq] at h6
        exact ⟨el, inf, z, hu, hi, h1, h2, h3, h4, h5, hz, h6.1, fun M β => (chkCells_sound h6.2).1⟩
      · cases h6
    · cases h
  · cases h
theorem rel_zeros {zero : List V} {z : Array Value} {esz : Nat} (hz : z.size = esz) (h0 : 0 < esz) (hr : RelL M β zero z.toList) (n : Nat) :
    (∀ l ∈ List.replicate n zero, l.length = esz) ∧ RelL M β (List.replicate n zero).flatten ((Array.range (n * z.size)).map fun i => z[i % z.size]!).toList := by
  have h := lit_start (M := M) (β := β) (zero := List.replicate n zero) hz h0 (fun l hl => by rw [List.eq_of_mem_replicate hl]; exact hr)
  refine ⟨h.1, ?_⟩
  have h2 := h.2
  rw [List.length_replicate] at h2
  rw [hz]
  rw [hz] at h2
  exact h2
def chkMake (P : Program) (op : Go.Op) (esz ebytes : Nat) (zero : List V) (len cap : Arg) : Bool := match op with
  | .makeSlice t l c => chkA l len && chkA c cap && chkElZ P t esz ebytes zero
  | _ => false
theorem snd_make {p : Oper} {esz ebytes n c id : Nat} {zero : List V} {len cap : Arg} (hc : chkMake P p.op esz ebytes zero len cap = true) (hn : asN (evA G e len) = some n) (hcap : asN (evA G e cap) = some c) (hle : n ≤ c) (hroom : room c ebytes = true)
    (hk : Ok M β N Lb w0 o w) (he : EnvR M β e a) (hg : GOK M G) (hi : β id = none) (hiN : id < N) (his : id ∈ ks) : Gd M β N Lb w0 ks (hput o id (.vec esz (List.replicate n zero))) (.vsl id 0 n) ((execOp a.eval p).run P w) := by
  unfold chkMake at hc
  split at hc
  · rename_i t l c' hop
    simp only [Bool.and_eq_true] at hc
    obtain ⟨⟨h1, h2⟩, h3⟩ := hc
    obtain ⟨el, inf, z, hu, hinf, hsz, h0, hby, hb1, hb0, hz, hzs, hzr⟩ := chkElZ_spec h3
    obtain ⟨k1, m1, e1, p1, rfl⟩ := asN_int2 hn
    obtain ⟨k2, m2, e2, p2, rfl⟩ := asN_int2 hcap
    have hx1 := evA_sound h1 he hg
    have hx2 := evA_sound h2 he hg
    rw [e1] at hx1
    rw [e2] at hx2
    have hro : m2.toNat * ebytes ≤ 17592186044416 := of_decide_eq_true hroom
    have hmul : m2.toNat ≤ m2.toNat * ebytes := Nat.le_mul_of_pos_right _ hb0
    have hbm : (inf.bytes : Int) * m2 ≤ 281474976710656 := by
      have h : ((inf.bytes * m2.toNat : Nat) : Int) ≤ 281474976710656 := by rw [hby, Nat.mul_comm]; omega
      rwa [Int.natCast_mul, Int.toNat_of_nonneg p2] at h
    have hr := run_make (P := P) (w := w) t el inf z hu hinf hz k1 k2 m1 m2 p1 (by omega) hbm (by omega)
    have hexec : (execOp a.eval p).run P w = .ok (.value (.slice (some ⟨w.heap.size, 0, none⟩) m1.toNat m2.toNat)) (w.alloc (.cells (madeCells z.cells (m2.toNat * inf.size)) el)) := by
      have : (execOp a.eval p).run P w = ((Instr.makeSlice t (.int k1 m1) (.int k2 m2)).run P w).andThen fun v w' => .ok (.value v) w' := by
        simp [execOp, hop, hx1.int_inv, hx2.int_inv]
      rw [this, hr]; rfl
    obtain ⟨hall, hrl⟩ := rel_zeros (M := M) (β := β) hzs h0 (hzr M β) m2.toNat
    have hcells : madeCells z.cells (m2.toNat * inf.size) = (Array.range (m2.toNat * z.cells.size)).map fun i => z.cells[i % z.cells.size]! := by
      rw [hsz, ← hzs]; rfl
    have hall1 : ∀ l ∈ List.replicate m1.toNat zero, l.length = esz := fun l hl => by
      have := List.eq_of_mem_replicate hl
      rw [this]
      have := (hzr M β).1
      rw [this]; simpa using hzs
    have hsize : (madeCells z.cells (m2.toNat * inf.size)).size = m2.toNat * esz := by rw [hcells]; simp [hzs]
    have hlen1 : (List.replicate m1.toNat zero).length = m1.toNat := List.length_replicate
    have hmn : m1.toNat * esz ≤ m2.toNat * esz := Nat.mul_le_mul_right _ hle
    refine .newVec (c := madeCells z.cells (m2.toNat * inf.size)) (ty := el) hk hi hiN hall1 (by rw [hlen1, hsize]; exact hmn) ?_ hle (by rw [hsize]; exact Nat.le_refl _) hexec his
    rw [hlen1, hcells]
    have hsplit : List.replicate m2.toNat zero = List.replicate m1.toNat zero ++ List.replicate (m2.toNat - m1.toNat) zero := by
      rw [List.replicate_append_replicate]; congr 1; omega
    have h4 := hrl.take (m1.toNat * esz)
    rw [hsplit, List.flatten_append, List.take_append_of_le_length (by rw [flat_len hall1, hlen1]; exact Nat.le_refl _), List.take_of_length_le (by rw [flat_len hall1, hlen1]; exact Nat.le_refl _)] at h4
    exact h4
  · cases hc
def chkAppendZ (P : Program) (op : Go.Op) (esz ebytes : Nat) (zero : List V) (s n : Arg) : Bool := match op with
  | .call { callee := .builtin .append, args, argTypes } => chkArgs args.toList [s, n] && argTypes.size == 2 && (match argTypes[0]?, argTypes[1]? with
    | some t, some t' => isInt P t' && chkElZ P t esz ebytes zero
    | _, _ => false)
  | _ => false
theorem snd_appendZ {p : Oper} {id esz ebytes m : Nat} {zero : List V} {s n : Arg} {act : Act} (hc : chkAppendZ P p.op esz ebytes zero s n = true) (hn : asN (evA G e n) = some m) (hroom0 : room m ebytes = true)
    (hap : appendTo o id esz ebytes (List.replicate m zero) [] (evA G e s) = some act) (hk : Ok M β N Lb w0 o w) (he : EnvR M β e a) (hg : GOK M G) (hi : β id = none) (hiN : id < N) (his : id ∈ ks) :
    Gd M β N Lb w0 ks (hputs o act.ups) act.val ((execOp a.eval p).run P w) := by
  unfold chkAppendZ at hc
  split at hc
  · rename_i args argTypes hop
    simp only [Bool.and_eq_true, beq_iff_eq] at hc
    obtain ⟨⟨hca, hsz2⟩, hc2⟩ := hc
    obtain ⟨y, u, hyu, hys, hux⟩ := chkArgs_two hca
    have hargs := arr_two hyu
    subst hargs
    split at hc2
    · rename_i t t' ht ht'
      have hat : argTypes = #[t, t'] := by
        apply Array.ext'
        obtain ⟨l⟩ := argTypes
        match l, hsz2 with
        | [a, b], _ => simp at ht ht'; subst ht; subst ht'; rfl
      simp only [Bool.and_eq_true] at hc2
      obtain ⟨hti, hel⟩ := hc2
      obtain ⟨ki, hti⟩ := isInt_of hti
      obtain ⟨el, inf, z, hu, hinf, hsz, h4, hby, hb1, hb0, hz, hzs, hzr⟩ := chkElZ_spec hel
      have hs := evA_sound hys he hg
      have hx := evA_sound hux he hg
      obtain ⟨kx, mx, ex, px, rfl⟩ := asN_int2 hn
      rw [ex] at hx
      have hxi := hx.int_inv
      obtain ⟨hall, hrl⟩ := rel_zeros (M := M) (β := β) hzs h4 (hzr M β) mx.toNat
      have hro0 : mx.toNat * ebytes ≤ 17592186044416 := of_decide_eq_true hroom0
      have hmm : mx.toNat ≤ mx.toNat * ebytes := Nat.le_mul_of_pos_right _ hb0
      have hwr : IntKind.i64.wrap mx = mx := by rw [IntKind.wrap_i64]; omega
      have hlt0 : ¬ (mx < 0) := by omega
      have hbm : ¬ (mx * (inf.bytes : Int) > 2 ^ 48) := by
        have h : ((mx.toNat * inf.bytes : Nat) : Int) ≤ 17592186044416 := by rw [hby]; omega
        rw [Int.natCast_mul, Int.toNat_of_nonneg px] at h
        have : (2 : Int) ^ 48 = 281474976710656 := by decide
        omega
      have hzv : ∀ w' : World, (zeroValue el).run P w' = .ok z w' := fun w' => by simp [zeroValue, typeInfo, hinf, hz]
      have hti' : ∀ w' : World, (typeInfo el).run P w' = .ok inf w' := fun w' => by simp [typeInfo, hinf]
      have hso : ∀ w' : World, (sizeOf el).run P w' = .ok esz w' := fun w' => by simp [sizeOf, typeInfo, hinf, hsz]
      have hzc : Builtin.zeroCells z.cells mx.toNat = (Array.range (mx.toNat * z.cells.size)).map fun i => z.cells[i % z.cells.size]! := rfl
      -- the new cells
      have happ : ∀ w' : World, (if mx.toNat * esz = 0 then pure #[] else do pure (Builtin.zeroCells (← zeroValue el).cells mx.toNat) : Sem (Array Value)).run P w' = .ok (Builtin.zeroCells z.cells mx.toNat) w' := by
        intro w'
        by_cases h00 : mx.toNat * esz = 0
        · rw [if_pos h00]
          have : mx.toNat = 0 := by rcases Nat.mul_eq_zero.1 h00 with h | h <;> omega
          rw [this]
          have : Builtin.zeroCells z.cells 0 = #[] := by simp [Builtin.zeroCells]
          rw [this]; rfl
        · rw [if_neg h00]
          simp only [Sem.run_bind, hzv, Result.andThen_ok, Sem.run_pure]
      have hsl : ∃ base sLen sCap, a.eval y = .slice base sLen sCap := by
        unfold appendTo at hap
        generalize evA G e s = vs at *
        cases vs <;> (try cases hap)
        · exact ⟨_, _, _, hs.nils_inv⟩
        · have := hs.sl_inv; generalize a.eval y = z at *; cases this; exact ⟨_, _, _, rfl⟩
        · generalize a.eval y = z at *
          cases hs with
          | pure h => cases h
          | vsl _ _ _ _ _ _ _ _ => exact ⟨_, _, _, rfl⟩
          | vslE _ _ _ _ _ => exact ⟨_, _, _, rfl⟩
      obtain ⟨base, sLen, sCap, hsv⟩ := hsl
      rw [hsv] at hs
      have hexec : ∀ res w1, (Builtin.append_ #[t, t'] p.type #[.slice base sLen sCap, .int kx mx]).run P w = .ok res w1 → (execOp a.eval p).run P w = .ok (.value res) w1 := by
        intro res w1 h
        have : (execOp a.eval p).run P w = ((Builtin.append_ #[t, t'] p.type #[.slice base sLen sCap, .int kx mx]).run P w).andThen fun v w' => .ok (.value v) w' := by
          simp [execOp, hop, resolve, invoke, builtin, hat, hsv, hxi]
        rw [this, h]; rfl
      have hfitE : sLen + mx.toNat ≤ sCap → (Builtin.append_ #[t, t'] p.type #[.slice base sLen sCap, .int kx mx]).run P w =
          ((stBase base (sLen * esz) (Builtin.zeroCells z.cells mx.toNat).toList).run P w).andThen fun _ w' => .ok (.slice base (sLen + mx.toNat) sCap) w' := by
        intro hfit
        simp only [Builtin.append_, List.getElem?_toArray, List.getElem?_cons_zero, List.getElem?_cons_succ, Sem.run_bind, run_underlying hu, Result.andThen_ok, hso, run_underlying hti, Sem.run_pure, if_true, asInt, asIntOf, hwr, hlt0, if_false, hti', hbm, Sem.run_ite, Bool.not_true, Bool.false_eq_true]
        rw [if_pos hfit]
        have h5 := happ w
        simp only [Sem.run_ite, Sem.run_pure, Sem.run_bind, hzv, Result.andThen_ok] at h5
        simp only [Sem.run_bind, Sem.run_ite, Sem.run_pure, hzv, Result.andThen_ok, h5]
        cases base with
        | none => simp [stBase]
        | some a => simp [stBase]
      have hsizez : (Builtin.zeroCells z.cells mx.toNat).size = mx.toNat * esz := by rw [zeroCells_size, hzs]
      refine append_core (P := P) (el := el) (arr := Builtin.zeroCells z.cells mx.toNat) hk h4 hall (by rw [hzc]; exact hrl) hs hap hi hiN his ?_ ?_ ?_
      · intro hroom hf w1 hw1
        rw [List.length_replicate] at hf ⊢
        refine hexec _ _ ?_
        rw [hfitE hf, hw1]; rfl
      · intro hroom hf old hold
        rw [List.length_replicate] at hf hroom ⊢
        have hro : (sLen + mx.toNat) * ebytes ≤ 17592186044416 := of_decide_eq_true hroom
        have hfit : ¬ (sLen + mx.toNat ≤ sCap) := by omega
        generalize hcap : sLen + mx.toNat + w.tape w.drawn (.appendCap (sLen + mx.toNat) sCap el) % (2 ^ 63 - (sLen + mx.toNat)) = cap
        refine ⟨cap, Builtin.zeroCells z.cells (cap - (sLen + mx.toNat)), by omega, by rw [zeroCells_size, hzs], hexec _ _ ?_⟩
        have hnext := nextcap_le (need := sLen + mx.toNat) (cap := sCap) (by omega)
        have hmul : Builtin.nextslicecap (sLen + mx.toNat) sCap * inf.bytes ≤ 281474976710656 := by
          rw [hby]
          have h2 : Builtin.nextslicecap (sLen + mx.toNat) sCap * ebytes ≤ (2 * (sLen + mx.toNat) + 200) * ebytes := Nat.mul_le_mul_right _ hnext
          have h3 : (2 * (sLen + mx.toNat) + 200) * ebytes = 2 * ((sLen + mx.toNat) * ebytes) + 200 * ebytes := by rw [Nat.add_mul, Nat.mul_assoc]
          omega
        have hneed : ((sLen + mx.toNat : Nat) : Int) ≤ 9223372036854775807 := by
          have : sLen + mx.toNat ≤ (sLen + mx.toNat) * ebytes := Nat.le_mul_of_pos_right _ hb0
          omega
        have hmax : ¬ (((sLen + mx.toNat : Nat) : Int) > IntKind.i64.max) := by
          intro h
          simp [IntKind.max, IntKind.signed, IntKind.bits] at h
          omega
        have hc2 : ¬ (Builtin.nextslicecap (sLen + mx.toNat) sCap * inf.bytes > 2 ^ 48) := by
          have : (2 : Nat) ^ 48 = 281474976710656 := by decide
          omega
        simp only [Builtin.append_, List.getElem?_toArray, List.getElem?_cons_zero, List.getElem?_cons_succ, Sem.run_bind, run_underlying hu, Result.andThen_ok, hso, run_underlying hti, Sem.run_pure, if_true, asInt, asIntOf, hwr, hlt0, if_false, hti', hbm, Sem.run_ite, Bool.not_true, Bool.false_eq_true]
        rw [if_neg hfit]
        simp only [Sem.run_bind, hti', Result.andThen_ok, true_or, and_true, hmax, hc2, if_false, Sem.run_pure, run_choose, Question.forced, World.drew_eq, Question.cut, hcap, run_askRoom, Sem.run_ite]
        simp only [Bool.false_eq_true, if_false, Result.andThen_ok]
        rw [hold w.drew rfl]
        have h5 := happ w.drew
        simp only [Sem.run_ite, Sem.run_pure, Sem.run_bind, hzv, Result.andThen_ok] at h5
        simp only [Result.andThen_ok, Sem.run_ite, Sem.run_pure, Sem.run_bind, h5, hzv, newRow, run_newObj, World.alloc_eq, World.size_drew]
      · intro hnil hf
        refine hexec _ _ ?_
        have hm0 : mx.toNat = 0 := by have := congrArg List.length hnil; simpa using this
        have ha0 : (Builtin.zeroCells z.cells mx.toNat).toList = [] := by
          apply List.eq_nil_of_length_eq_zero
          rw [Array.length_toList, hsizez, hm0]; simp
        rw [hfitE (by omega), ha0, hm0]
        cases base <;> simp [stBase, storeCells]
    · cases hc2
  · cases hc
end
end Go.Proofs.Ytoccgkgdhobmfaa.Am
set_option linter.unusedVariables false
set_option linter.unusedSimpArgs false
namespace Go.Proofs.Ytoccgkgdhobmfaa.Am
open Go
section
variable {P : Program} {M : Mem} {β : Names} {N : Nat} {Lb : Nat → Prop} {w0 w : World} {o : Hp} {ks : List Nat} {e : Env} {a : Go.Act} {G : Nat → Option (List V)}
/-- The kinds of a type's cells, if it is one of scalars. -/
def eqFs (f : TypeId → Option (List Nat)) : List Field → Nat → Option (List Nat)
  | [], _ => some []
  | x :: r, n => match f x.type with
    | some l => if x.offset = n ∧ x.name ≠ "_" then (eqFs f r (n + l.length)).map (l ++ ·) else none
    | none => none
def scT (P : Program) (t : TypeId) : Option Nat := match P.underlying t with
  | some .bool => some 0
  | some (.int _) => some 1
  | some .string => some 2
  | _ => none
def eqT (P : Program) : Nat → TypeId → Option (List Nat)
  | 0, _ => none
  | d + 1, t => match P.underlying t with
    | some (.struct fs) => if P.stoodInHeld t then none else match eqFs (eqT P d) fs.toList 0 with
      | some l => if tsize P t l.length then some l else none
      | none => none
    | some (.array k el) => match eqT P d el with
      | some l => if tsize P el l.length && tsize P t (k * l.length) then some (List.replicate k l).flatten else none
      | none => none
    | _ => match scT P t with
      | some k => if tsize P t 1 then some [k] else none
      | none => none
theorem eqCells_append : ∀ {ks as cs js bs ds : List _} {b : Bool}, ks.length = as.length → ks.length = cs.length → eqCells (ks ++ js) (as ++ bs) (cs ++ ds) = some b →
    ∃ b1 b2, eqCells ks as cs = some b1 ∧ eqCells js bs ds = some b2 ∧ b = (b1 && b2) := by
  intro ks
  induction ks with
  | nil => intro as cs js bs ds b h1 h2 h; cases as with | nil => (cases cs with | nil => exact ⟨true, b, rfl, h, by simp⟩ | cons c cs => simp at h2) | cons c cs => simp at h1
  | cons k ks ih =>
    intro as cs js bs ds b h1 h2 h
    cases as with
    | nil => simp at h1
    | cons a as =>
    cases cs with
    | nil => simp at h2
    | cons c cs =>
      simp only [List.cons_append, eqCells] at h
      cases hx : eqK k a c with
      | none => rw [hx] at h; cases h
      | some x =>
        rw [hx] at h
        simp only [Option.bind_some] at h
        cases hr : eqCells (ks ++ js) (as ++ bs) (cs ++ ds) with
        | none => rw [hr] at h; cases h
        | some y =>
          rw [hr] at h; cases h
          obtain ⟨b1, b2, h3, h4, rfl⟩ := ih (by simpa using h1) (by simpa using h2) hr
          exact ⟨x && b1, b2, by simp [eqCells, hx, h3], h4, by rw [Bool.and_assoc]⟩
theorem eqCells_len : ∀ {ks : List Nat} {as bs : List V} {b : Bool}, eqCells ks as bs = some b → as.length = ks.length ∧ bs.length = ks.length := by
  intro ks
  induction ks with
  | nil => intro as bs b h; cases as with | nil => (cases bs with | nil => exact ⟨rfl, rfl⟩ | cons c cs => cases h) | cons c cs => cases h
  | cons k ks ih =>
    intro as bs b h
    cases as with
    | nil => cases h
    | cons a as =>
    cases bs with
    | nil => cases h
    | cons c cs =>
      simp only [eqCells] at h
      cases hx : eqK k a c with
      | none => rw [hx] at h; cases h
      | some x =>
        rw [hx] at h
        simp only [Option.bind_some] at h
        cases hr : eqCells ks as cs with
        | none => rw [hr] at h; cases h
        | some y => have := ih hr; simp [this.1, this.2]
theorem eqStr {t : TypeId} {d : Nat} (s1 s2 : List UInt8) (h : P.underlying t = some .string) : (Op.equalIn (d + 1) t (.string ⟨s1.toArray⟩) (.string ⟨s2.toArray⟩)).run P w = .ok (s1 == s2) w := by
  have := run_equalIn_string (P := P) w d t ⟨s1.toArray⟩ ⟨s2.toArray⟩ h
  rw [bytesToList, bytesToList] at this; exact this
theorem eqK_run {t : TypeId} {k : Nat} (ht : scT P t = some k) {a b : V} {x y : Value} {r : Bool} (h : eqK k a b = some r) (ha : Rel M β a x) (hb : Rel M β b y) (d : Nat) : (Op.equalIn (d + 1) t x y).run P w = .ok r w := by
  unfold eqK at h
  split at h
  · rw [ha.bool_inv, hb.bool_inv]
    cases h
    unfold scT at ht
    split at ht <;> first | (cases ht; done) | (exact run_equalIn_bool' w d t _ _ (by assumption))
  · split at h
    · rename_i hk; subst hk
      rw [ha.int_inv, hb.int_inv]
      cases h
      unfold scT at ht
      split at ht <;> first | (cases ht; done) | (exact run_equalIn_int w d t _ _ _ _ (by assumption))
    · cases h
  · rw [ha.str_inv, hb.str_inv]
    cases h
    unfold scT at ht
    split at ht <;> first | (cases ht; done) | (exact eqStr _ _ (by assumption))
  · cases h
/-- The model's value of so many cells. -/
def ofCells (P : Program) (t : TypeId) (xs : List Value) : Value := if tagg P t then .agg xs.toArray else xs.headD undef
theorem part_cells {t : TypeId} {n off : Nat} {xs : List Value} (hs : tsize P t n = true) (h1 : tagg P t = false → n = 1) (hso : tsome P t = true) (hl : off + n ≤ xs.length) :
    (part t xs.toArray off).run P w = .ok (ofCells P t ((xs.drop off).take n)) w := by
  unfold ofCells
  cases hag : tagg P t with
  | true =>
    have hx : xs.toArray.extract off (off + n) = ((xs.drop off).take n).toArray := by
      apply Array.ext'
      simp [List.extract_eq_take_drop]
    simp only [part, Sem.run_bind, tagg_run hag, Result.andThen_ok, if_true, tsize_run hs, Sem.run_pure, hx]
  | false =>
    have hn := h1 hag
    subst hn
    have hlt : off < xs.length := by omega
    have h2 : (xs.drop off).take 1 = [xs[off]] := by
      rw [List.drop_eq_getElem_cons hlt, List.take_succ_cons, List.take_zero]
    simp only [part, Sem.run_bind, tagg_run' hag hso, Result.andThen_ok, Bool.false_eq_true, if_false, h2]
    simp [hlt]
theorem scT_facts {t : TypeId} {k : Nat} (h : scT P t = some k) : tagg P t = false ∧ tsome P t = true := by
  unfold scT at h
  unfold tagg tsome
  split at h <;> first | (cases h; done) | (rename_i hu; rw [hu]; exact ⟨rfl, rfl⟩)
/-- What is asked of a type's own equality. -/
def EqOk (P : Program) (t : TypeId) (ks : List Nat) (d : Nat) : Prop :=
  (tagg P t = false → ks.length = 1) ∧ tsome P t = true ∧ ∀ (M : Mem) (β : Names) (w : World) (as bs : List V) (xs ys : List Value) (b : Bool), RelL M β as xs → RelL M β bs ys → eqCells ks as bs = some b → ∀ D, (Op.equalIn (d + D) t (ofCells P t xs) (ofCells P t ys)).run P w = .ok b w
theorem eqFields_run {d : Nat} (ih : ∀ t ks, eqT P d t = some ks → EqOk P t ks d) (hsz : ∀ t ks, eqT P d t = some ks → tsize P t ks.length = true) {M : Mem} {β : Names} {w : World} (D : Nat) : ∀ (fs : List Field) (off : Nat) (ks : List Nat) (as bs : List V) (xs ys : List Value) (b : Bool),
    eqFs (eqT P d) fs off = some ks → RelL M β (as.drop off) (xs.drop off) → RelL M β (bs.drop off) (ys.drop off) → as.length = off + ks.length → bs.length = off + ks.length → xs.length = as.length → ys.length = bs.length → eqCells ks (as.drop off) (bs.drop off) = some b →
    (Op.eqFields (d + D) xs.toArray ys.toArray fs).run P w = .ok b w := by
  intro fs
  induction fs with
  | nil =>
    intro off ks as bs xs ys b hf hx hy hla hlb hlx hly hb
    cases hf
    have h1 : as.drop off = [] := List.drop_eq_nil_of_le (by simp at hla; omega)
    have h2 : bs.drop off = [] := List.drop_eq_nil_of_le (by simp at hlb; omega)
    rw [h1, h2] at hb
    cases hb
    simp [Op.eqFields]
  | cons f fs ihf =>
    intro off ks as bs xs ys b hf hx hy hla hlb hlx hly hb
    simp only [eqFs] at hf
    cases hft : eqT P d f.type with
    | none => rw [hft] at hf; cases hf
    | some l =>
      rw [hft] at hf
      simp only at hf
      split at hf
      · rename_i hc
        obtain ⟨rfl, hname⟩ := hc
        cases hr : eqFs (eqT P d) fs (f.offset + l.length) with
        | none => rw [hr] at hf; cases hf
        | some js =>
          rw [hr] at hf; cases hf
          simp only [List.length_append] at hla hlb
          have ha1 : as.drop f.offset = (as.drop f.offset).take l.length ++ as.drop (f.offset + l.length) := by
            rw [← List.drop_drop, List.take_append_drop]
          have hb1 : bs.drop f.offset = (bs.drop f.offset).take l.length ++ bs.drop (f.offset + l.length) := by
            rw [← List.drop_drop, List.take_append_drop]
          rw [ha1, hb1] at hb
          obtain ⟨b1, b2, h1, h2, rfl⟩ := eqCells_append (by simp; omega) (by simp; omega) hb
          obtain ⟨hk1, hk2, hk3⟩ := ih f.type l hft
          have hs := hsz f.type l hft
          have hp1 := part_cells (P := P) (w := w) (off := f.offset) (xs := xs) hs hk1 hk2 (by omega)
          have hp2 := part_cells (P := P) (w := w) (off := f.offset) (xs := ys) hs hk1 hk2 (by omega)
          have heq := hk3 M β w _ _ _ _ b1 (hx.take l.length) (hy.take l.length) h1 D
          have hrest := ihf (f.offset + l.length) js as bs xs ys b2 hr (by have := hx.drop l.length; rwa [List.drop_drop, List.drop_drop] at this) (by have := hy.drop l.length; rwa [List.drop_drop, List.drop_drop] at this) (by omega) (by omega) hlx hly h2
          simp only [Op.eqFields]
          rw [if_pos hname]
          simp only [Sem.run_bind, hp1, hp2, Result.andThen_ok, heq]
          cases b1
          · simp
          · simpa using hrest
      · cases hf
theorem eqItems_run {d : Nat} {el : TypeId} {l : List Nat} (ih : EqOk P el l d) (hs : tsize P el l.length = true) {M : Mem} {β : Names} {w : World} (D : Nat) : ∀ (n i : Nat) (as bs : List V) (xs ys : List Value) (b : Bool),
    RelL M β (as.drop (i * l.length)) (xs.drop (i * l.length)) → RelL M β (bs.drop (i * l.length)) (ys.drop (i * l.length)) → as.length = (i + n) * l.length → bs.length = (i + n) * l.length → xs.length = as.length → ys.length = bs.length →
    eqCells (List.replicate n l).flatten (as.drop (i * l.length)) (bs.drop (i * l.length)) = some b →
    (Op.eqItems (d + D) el l.length xs.toArray ys.toArray (List.range' i n)).run P w = .ok b w := by
  intro n
  induction n with
  | zero =>
    intro i as bs xs ys b hx hy hla hlb hlx hly hb
    have h1 : as.drop (i * l.length) = [] := List.drop_eq_nil_of_le (by simp at hla; omega)
    have h2 : bs.drop (i * l.length) = [] := List.drop_eq_nil_of_le (by simp at hlb; omega)
    rw [h1, h2] at hb
    cases hb
    simp [Op.eqItems]
  | succ n ihn =>
    intro i as bs xs ys b hx hy hla hlb hlx hly hb
    have hmul : (i + (n + 1)) * l.length = i * l.length + l.length + n * l.length := by rw [Nat.add_mul, Nat.add_mul]; omega
    have hmul2 : (i + 1) * l.length = i * l.length + l.length := by rw [Nat.add_mul]; omega
    have ha1 : as.drop (i * l.length) = (as.drop (i * l.length)).take l.length ++ as.drop ((i + 1) * l.length) := by
      rw [hmul2, ← List.drop_drop, List.take_append_drop]
    have hb1 : bs.drop (i * l.length) = (bs.drop (i * l.length)).take l.length ++ bs.drop ((i + 1) * l.length) := by
      rw [hmul2, ← List.drop_drop, List.take_append_drop]
    rw [ha1, hb1, List.replicate_succ, List.flatten_cons] at hb
    obtain ⟨b1, b2, h1, h2, rfl⟩ := eqCells_append (by simp; omega) (by simp; omega) hb
    obtain ⟨hk1, hk2, hk3⟩ := ih
    have hp1 := part_cells (P := P) (w := w) (off := i * l.length) (xs := xs) hs hk1 hk2 (by omega)
    have hp2 := part_cells (P := P) (w := w) (off := i * l.length) (xs := ys) hs hk1 hk2 (by omega)
    have heq := hk3 M β w _ _ _ _ b1 (hx.take l.length) (hy.take l.length) h1 D
    have hrest := ihn (i + 1) as bs xs ys b2 (by have := hx.drop l.length; rwa [List.drop_drop, List.drop_drop, ← hmul2] at this) (by have := hy.drop l.length; rwa [List.drop_drop, List.drop_drop, ← hmul2] at this) (by rw [hla, hmul, Nat.add_mul, Nat.add_mul]; omega) (by rw [hlb, hmul, Nat.add_mul, Nat.add_mul]; omega) hlx hly h2
    simp only [List.range'_succ, Op.eqItems, Sem.run_bind, hp1, hp2, Result.andThen_ok, heq]
    cases b1
    · simp
    · simpa using hrest
theorem eqT_size : ∀ (d : Nat) (t : TypeId) (ks : List Nat), eqT P d t = some ks → tsize P t ks.length = true := by
  intro d t ks h
  cases d with
  | zero => cases h
  | succ d =>
    simp only [eqT] at h
    split at h
    · split at h
      · cases h
      · split at h
        · split at h
          · cases h; assumption
          · cases h
        · cases h
    · rename_i k el hu
      split at h
      · split at h
        · rename_i hc
          cases h
          simp only [Bool.and_eq_true] at hc
          simpa using hc.2
        · cases h
      · cases h
    · split at h
      · split at h
        · cases h; assumption
        · cases h
      · cases h
theorem eqT_ok : ∀ (d : Nat) (t : TypeId) (ks : List Nat), eqT P d t = some ks → EqOk P t ks d := by
  intro d
  induction d with
  | zero => intro t ks h; cases h
  | succ d ih =>
    intro t ks h
    simp only [eqT] at h
    split at h
    · rename_i fs hu
      split at h
      · cases h
      · rename_i hst
        split at h
        · rename_i l hl
          split at h
          · rename_i hsz
            cases h
            have hag : tagg P t = true := by unfold tagg; rw [hu]
            refine ⟨fun hh => (by rw [hag] at hh; cases hh), (by unfold tsome; rw [hu]; rfl), ?_⟩
            intro M β w as bs xs ys b hx hy hb D
            obtain ⟨h1, h2⟩ := eqCells_len hb
            have hf : P.fieldsOf t = fs := by unfold Program.fieldsOf; rw [hu]
            have := eqFields_run (P := P) (ih := ih) (hsz := fun t ks h => eqT_size d t ks h) (M := M) (β := β) (w := w) D fs.toList 0 _ as bs xs ys b hl (by simpa using hx) (by simpa using hy) (by omega) (by omega) hx.1.symm hy.1.symm (by simpa using hb)
            simp only [ofCells, hag, if_true]
            have hd : d + 1 + D = (d + D) + 1 := by omega
            rw [hd, run_equalIn_struct w (d + D) t xs.toArray ys.toArray (by rw [hf]; exact hu) (by simpa using hst), hf]
            exact this
          · cases h
        · cases h
    · rename_i k el hu
      split at h
      · rename_i l hl
        split at h
        · rename_i hc
          cases h
          simp only [Bool.and_eq_true] at hc
          have hag : tagg P t = true := by unfold tagg; rw [hu]
          refine ⟨fun hh => (by rw [hag] at hh; cases hh), (by unfold tsome; rw [hu]; rfl), ?_⟩
          intro M β w as bs xs ys b hx hy hb D
          obtain ⟨h1, h2⟩ := eqCells_len hb
          have hlen : (List.replicate k l).flatten.length = (0 + k) * l.length := by simp
          have := eqItems_run (P := P) (ih := ih el l hl) (hs := hc.1) (M := M) (β := β) (w := w) D k 0 as bs xs ys b (by simpa using hx) (by simpa using hy) (by omega) (by omega) hx.1.symm hy.1.symm (by simpa using hb)
          simp only [ofCells, hag, if_true]
          have hd : d + 1 + D = (d + D) + 1 := by omega
          have hsz := hc.1
          unfold tsize at hsz
          split at hsz
          · rename_i inf hinf
            simp only [beq_iff_eq] at hsz
            have hco : P.cellsOf el = l.length := by simp [Program.cellsOf, hinf, hsz]
            rw [hd, run_equalIn_array w (d + D) xs.toArray ys.toArray hu hinf, hco, List.range_eq_range']
            exact this
          · cases hsz
        · cases h
      · cases h
    · split at h
      · rename_i k hk
        split at h
        · cases h
          obtain ⟨hag, hso⟩ := scT_facts hk
          refine ⟨fun _ => rfl, hso, ?_⟩
          intro M β w as bs xs ys b hx hy hb D
          obtain ⟨h1, h2⟩ := eqCells_len hb
          have h1' : xs.length = 1 := by rw [← hx.1, h1]; rfl
          have h2' : ys.length = 1 := by rw [← hy.1, h2]; rfl
          match as, bs, xs, ys, h1, h2, h1', h2', hx, hy, hb with
          | [a], [c], [x], [y], _, _, _, _, hx, hy, hb =>
            simp only [eqCells] at hb
            cases he : eqK k a c with
            | none => rw [he] at hb; cases hb
            | some r =>
              rw [he] at hb
              simp at hb
              subst hb
              simp only [ofCells, hag, Bool.false_eq_true, if_false, List.headD_cons]
              have hd : d + 1 + D = (d + D) + 1 := by omega
              rw [hd]
              exact eqK_run hk he (hx.2.1 0 a x rfl rfl) (hy.2.1 0 c y rfl rfl) _
        · cases h
      · cases h
def eqOp : Go.Op → Bool → Option (TypeId × Operand × Operand)
  | .binOp .eql t x y _, false => some (t, x, y)
  | .binOp .neq t x y _, true => some (t, x, y)
  | _, _ => none
def chkEqv (P : Program) (op : Go.Op) (neg : Bool) (ks : List Nat) (x y : Arg) : Bool := match eqOp op neg with
  | some (t, x', y') => chkA x' x && chkA y' y && eqT P 20 t == some ks && !P.eqGuardType P.depth t && tagg P t
  | none => false
def chkEqb (P : Program) (op : Go.Op) (neg : Bool) (x y : Arg) : Bool := match eqOp op neg with
  | some (t, x', y') => chkA x' x && chkA y' y && (match P.underlying t with | some .bool => true | _ => false)
  | none => false
def chkEqp (P : Program) (op : Go.Op) (neg : Bool) (x y : Arg) : Bool := match eqOp op neg with
  | some (t, x', y') => chkA x' x && chkA y' y && (match P.underlying t with | some (.pointer _) => true | _ => false)
  | none => false
theorem eqOp_some {op : Go.Op} {neg : Bool} {t : TypeId} {x y : Operand} (h : eqOp op neg = some (t, x, y)) : ∃ yt, op = .binOp (if neg then .neq else .eql) t x y yt := by
  unfold eqOp at h
  split at h
  · cases h; exact ⟨_, rfl⟩
  · cases h; exact ⟨_, rfl⟩
  · cases h
theorem snd_eqv {p : Oper} {neg : Bool} {ks' : List Nat} {x y : Arg} {as bs : List V} {b : Bool} (hc : chkEqv P p.op neg ks' x y = true) (hx : evA G e x = .agg as) (hy : evA G e y = .agg bs) (hb : eqCells ks' as bs = some b)
    (hk : Ok M β N Lb w0 o w) (he : EnvR M β e a) (hg : GOK M G) : Gd M β N Lb w0 ks o (.bool (if neg then !b else b)) ((execOp a.eval p).run P w) := by
  unfold chkEqv at hc
  split at hc
  · rename_i t x' y' hop
    simp only [Bool.and_eq_true, beq_iff_eq, Bool.not_eq_true'] at hc
    obtain ⟨⟨⟨⟨h1, h2⟩, h3⟩, h4⟩, h5⟩ := hc
    obtain ⟨yt, hop'⟩ := eqOp_some hop
    have hx1 := evA_sound h1 he hg
    have hy1 := evA_sound h2 he hg
    rw [hx] at hx1; rw [hy] at hy1
    have hxc := hx1.cells rfl
    have hyc := hy1.cells rfl
    obtain ⟨xs, hxe, _⟩ := hx1.agg_inv
    obtain ⟨ys, hye, _⟩ := hy1.agg_inv
    obtain ⟨_, _, h6⟩ := eqT_ok 20 t ks' h3
    have h7 := h6 M β w as bs _ _ b hxc hyc hb 9980
    rw [hxe, hye] at h7
    simp only [ofCells, h5, if_true, Value.cells] at h7
    have h8 : (Op.equalIn 10000 t (.agg xs) (.agg ys)).run P w = .ok b w := by simpa using h7
    have hge := run_eqGuard_agg (P := P) w (if neg then .neq else .eql) t x' y' xs ys h4
    refine .pure hk ?_ (.pure (.bool _))
    cases neg
    · have := run_eql_struct (P := P) w t xs ys
      rw [h8] at this
      simp only [Bool.false_eq_true, if_false] at hge hop' ⊢
      simp only [execOp, hop', hxe, hye, Sem.run_bind, hge, Result.andThen_ok, this, Sem.run_pure]
    · have := run_neq_struct (P := P) w t xs ys
      rw [h8] at this
      simp only [if_true] at hge hop' ⊢
      simp only [execOp, hop', hxe, hye, Sem.run_bind, hge, Result.andThen_ok, this, Sem.run_pure]
  · cases hc
theorem snd_eqb {p : Oper} {neg : Bool} {x y : Arg} {r s : Bool} (hc : chkEqb P p.op neg x y = true) (hx : evA G e x = .bool r) (hy : evA G e y = .bool s)
    (hk : Ok M β N Lb w0 o w) (he : EnvR M β e a) (hg : GOK M G) : Gd M β N Lb w0 ks o (.bool (if neg then !(r == s) else (r == s))) ((execOp a.eval p).run P w) := by
  unfold chkEqb at hc
  split at hc
  · rename_i t x' y' hop
    simp only [Bool.and_eq_true] at hc
    obtain ⟨⟨h1, h2⟩, h3⟩ := hc
    obtain ⟨yt, hop'⟩ := eqOp_some hop
    have hx1 := evA_sound h1 he hg
    have hy1 := evA_sound h2 he hg
    rw [hx] at hx1; rw [hy] at hy1
    split at h3
    · rename_i hu
      have hge : ∀ op, (eqGuard op t x' y' (.bool r) (.bool s)).run P w = .ok () w := by intro op; unfold eqGuard; cases op <;> rfl
      have hq : (Op.equal t (.bool r) (.bool s)).run P w = .ok (r == s) w := run_equal_bool w t r s hu
      refine .pure hk ?_ (.pure (.bool _))
      cases neg
      · simp only [Bool.false_eq_true, if_false] at hop' ⊢
        simp only [execOp, hop', hx1.bool_inv, hy1.bool_inv, Sem.run_bind, hge, Result.andThen_ok, binOp, hq, Sem.run_pure]
      · simp only [if_true] at hop' ⊢
        simp only [execOp, hop', hx1.bool_inv, hy1.bool_inv, Sem.run_bind, hge, Result.andThen_ok, binOp, hq, Sem.run_pure]
    · cases h3
  · cases hc
theorem snd_eqp {p : Oper} {neg : Bool} {x y : Arg} {b : Bool} (hc : chkEqp P p.op neg x y = true) (hb : eqP (evA G e x) (evA G e y) = some b)
    (hk : Ok M β N Lb w0 o w) (he : EnvR M β e a) (hg : GOK M G) : Gd M β N Lb w0 ks o (.bool (if neg then !b else b)) ((execOp a.eval p).run P w) := by
  unfold chkEqp at hc
  split at hc
  · rename_i t x' y' hop
    simp only [Bool.and_eq_true] at hc
    obtain ⟨⟨h1, h2⟩, h3⟩ := hc
    obtain ⟨yt, hop'⟩ := eqOp_some hop
    have hx1 := evA_sound h1 he hg
    have hy1 := evA_sound h2 he hg
    generalize evA G e x = u at *
    generalize evA G e y = v at *
    split at h3
    · rename_i el hu
      have key : ∃ p q, a.eval x' = .pointer p ∧ a.eval y' = .pointer q ∧ (p = none ∧ b = q.isNone ∨ q = none ∧ b = p.isNone) := by
        unfold eqP at hb
        split at hb <;> cases hb
        · exact ⟨none, none, hx1.nilp_inv, hy1.nilp_inv, .inl ⟨rfl, rfl⟩⟩
        · obtain ⟨k, _, h⟩ := hy1.ptr_inv; exact ⟨none, _, hx1.nilp_inv, h, .inl ⟨rfl, rfl⟩⟩
        · obtain ⟨k, _, h⟩ := hx1.ptr_inv; exact ⟨_, none, h, hy1.nilp_inv, .inr ⟨rfl, rfl⟩⟩
        · have h := hy1.imp_inv; generalize a.eval y' = z at *; cases h; exact ⟨none, _, hx1.nilp_inv, rfl, .inl ⟨rfl, rfl⟩⟩
        · have h := hx1.imp_inv; generalize a.eval x' = z at *; cases h; exact ⟨_, none, rfl, hy1.nilp_inv, .inr ⟨rfl, rfl⟩⟩
        · obtain ⟨k, _, h⟩ := hy1.ept_inv; exact ⟨none, _, hx1.nilp_inv, h, .inl ⟨rfl, rfl⟩⟩
        · obtain ⟨k, _, h⟩ := hx1.ept_inv; exact ⟨_, none, h, hy1.nilp_inv, .inr ⟨rfl, rfl⟩⟩
      obtain ⟨pp, q, hp, hq, hpq⟩ := key
      have hge : ∀ op, (eqGuard op t x' y' (.pointer pp) (.pointer q)).run P w = .ok () w := by intro op; unfold eqGuard; cases op <;> rfl
      have heq : (Op.equal t (.pointer pp) (.pointer q)).run P w = .ok b w := by
        have h1 : ∀ d q, (Op.equalIn (d + 1) t (.pointer none) (.pointer q)).run P w = .ok q.isNone w := by intro d q; simp [Op.equalIn, run_underlying hu]
        have h2 : ∀ d q, (Op.equalIn (d + 1) t (.pointer q) (.pointer none)).run P w = .ok q.isNone w := by intro d q; cases q <;> simp [Op.equalIn, run_underlying hu]
        rcases hpq with ⟨rfl, rfl⟩ | ⟨rfl, rfl⟩
        · exact h1 9999 q
        · exact h2 9999 pp
      refine .pure hk ?_ (.pure (.bool _))
      cases neg
      · simp only [Bool.false_eq_true, if_false] at hop' ⊢
        simp only [execOp, hop', hp, hq, Sem.run_bind, hge, Result.andThen_ok, binOp, heq, Sem.run_pure]
      · simp only [if_true] at hop' ⊢
        simp only [execOp, hop', hp, hq, Sem.run_bind, hge, Result.andThen_ok, binOp, heq, Sem.run_pure]
    · cases h3
  · cases hc
end
end Go.Proofs.Ytoccgkgdhobmfaa.Am
set_option linter.unusedVariables false
set_option linter.unusedSimpArgs false
namespace Go.Proofs.Ytoccgkgdhobmfaa.Am
open Go
def chkConvSl (P : Program) (op : Go.Op) (x : Arg) : Bool := match op with | .convert s d x' => s == d && isBytes P s && chkA x' x | _ => false
theorem freeze_wset {w : World} {b n : Nat} {c : Array Value} {ty : TypeId} {fr : Nat × Nat} (h : w.heap[b]? = some (.cells c ty fr)) :
    w.freeze ⟨b, n, none⟩ 1 = wset w b (.cells c ty (if fr.1 == fr.2 then (n, n + 1) else (min fr.1 n, max fr.2 (n + 1)))) := by
  have hlt := lt_of_some h
  have hx : w.heap[b] = .cells c ty fr := by simpa [Array.getElem?_eq_getElem hlt] using h
  unfold World.freeze wset
  rw [if_neg (by omega)]
  congr 1
  apply Array.ext
  · simp
  · intro i h1 h2
    simp only [Array.getElem_modify]
    rw [Array.getElem_setIfInBounds (by simpa using h2)]
    by_cases e : b = i
    · subst e; obtain ⟨lo, hi⟩ := fr; simp [hx]
    · simp only [e, if_false]
theorem snd_convSl {P : Program} {M : Mem} {β : Names} {N : Nat} {Lb : Nat → Prop} {w0 w : World} {o : Hp} {ks : List Nat} {e : Env} {a : Go.Act} {G : Nat → Option (List V)} {p : Oper} {x : Arg} {i st len s : Nat} {xs : List (List V)}
    (hc : chkConvSl P p.op x = true) (hx : evA G e x = .vsl i st len) (ho : o i = .vec s xs) (hlen : 0 < len) (hk : Ok M β N Lb w0 o w) (he : EnvR M β e a) (hg : GOK M G) :
    Gd M β N Lb w0 ks (hput o i (.vec s xs)) (.vsl i st len) ((execOp a.eval p).run P w) := by
  unfold chkConvSl at hc
  split at hc
  · rename_i src dst x' hop
    simp only [Bool.and_eq_true, beq_iff_eq] at hc
    obtain ⟨⟨rfl, hb⟩, hc⟩ := hc
    obtain ⟨el, hs, hel⟩ := isBytes_of hb
    have h1 := evA_sound hc he hg
    rw [hx] at h1
    obtain ⟨k, hk1, hh⟩ := hk.sr.live i (by rw [ho]; simp)
    rw [ho] at hh
    obtain ⟨w1, w2, w3, w4, c, ty, fr, b1, b2, b3, b4, b5⟩ := hh
    have hv : ∃ off cap, a.eval x' = .slice (some ⟨k.b, off, none⟩) len cap := by
      generalize a.eval x' = z at h1
      cases h1 with
      | pure h => cases h
      | vsl _ _ _ cap k' hk' hl hs => rw [hk1] at hk'; cases hk'; exact ⟨_, cap, rfl⟩
      | vslE _ _ cap a h => omega
    obtain ⟨off, cap, hev⟩ := hv
    have hsh : w.shape? k.b = some (ty, c.size) := by simp [World.shape?, b1]
    generalize hfr : (if fr.1 == fr.2 then (c.size, c.size + 1) else (min fr.1 c.size, max fr.2 (c.size + 1))) = fr'
    have hcl : Clear c fr' := by
      subst hfr
      unfold Clear at *
      split
      · exact .inr (Nat.le_refl _)
      · rename_i hne
        simp only [beq_iff_eq] at hne
        right
        show c.size ≤ min fr.1 c.size
        omega
    have hrun : (convert src src (a.eval x')).run P w = .ok (a.eval x') (wset w k.b (.cells c ty fr')) := by
      rw [hev]
      have hfz := freeze_wset (n := c.size) b1
      rw [hfr] at hfz
      simp only [convert, Sem.run_bind, run_underlying hs, run_underlying hel, Result.andThen_ok, beq_self_eq_true, markStringish, run_shape, hsh, run_freeze, hfz, Sem.run_pure]
    refine ⟨a.eval x', wset w k.b (.cells c ty fr'), M, β, .inl (by simp only [execOp, hop, Sem.run_bind, hrun, Result.andThen_ok, Sem.run_pure]), fun _ _ h => h, fun _ _ => rfl, fun _ _ h => h, fun _ _ h => .inl h,
      ⟨hk.sr.write hk1 (by rw [ho]; rfl) rfl ⟨w1, w2, w3, w4, c, ty, fr', ?_, hcl, b3, b4, b5⟩, hk.kp.wset _ _ w1⟩, h1⟩
    exact heap_wset_eq _ _ _ (lt_of_some b1)
  · cases hc
def allocK : I → List Nat
  | .alloc k _ | .box k _ | .lit k _ _ _ | .append k _ _ _ _ | .appendZ k _ _ _ _ _ | .make k _ _ _ _ _ => [k]
  | .call _ _ _ w => w.toList
  | _ => []
def chkI (P : Program) (p : Oper) : I → Bool
  | .mov x => chkMov p.op x
  | .pick c x y => chkPick p.op c x y
  | .alloc _ zero => chkAlloc P p.op zero
  | .box _ x => chkBox p.op x
  | .build zero parts => chkBuild P p.op zero parts
  | .lit _ esz zero parts => chkLit P p.op esz zero parts
  | .ilit esz zero parts => chkLit P p.op esz zero parts
  | .flit _ _ _ => false
  | .load agg x => chkLoad P p.op agg x
  | .store n x y => chkStore P p.op n x y
  | .nilCheck x => chkNil p.op x
  | .bin b x y => chkBin P p.op b x y
  | .eqv neg ks x y => chkEqv P p.op neg ks x y
  | .eqp neg x y => chkEqp P p.op neg x y
  | .eqb neg x y => chkEqb P p.op neg x y
  | .un u x => chkUn p.op u x
  | .convInt k x => chkConvInt P p.op k x
  | .convStr x => chkConvStr P p.op x
  | .convBytes x => chkConvBytes P p.op x
  | .convSl x => chkConvSl P p.op x
  | .arrPtr n x => chkArrPtr P p.op n x
  | .mkIface t x => chkIface P p.op t x
  | .mkFn f caps => chkFn p.op f caps
  | .sliceS x lo hi => chkSliceS P p.op x lo hi
  | .sliceL esz x lo hi => chkSliceL P p.op esz x lo hi
  | .sliceA n esz x lo hi => chkSliceA P p.op n esz x lo hi
  | .fieldAddr off x => chkFieldAddr P p.op off x
  | .field off agg x => chkField P p.op off agg x
  | .indexAddrA n esz x i => chkIndexA P p.op n esz x i
  | .indexAddrL esz x i => chkIndexL P p.op esz x i
  | .indexS x i => chkIndexS P p.op x i
  | .indexA n esz agg x i => chkIndexV P p.op n esz agg x i
  | .append _ esz ebytes s x => chkAppend P p.op esz ebytes s x
  | .appendZ _ esz ebytes zero s n => chkAppendZ P p.op esz ebytes zero s n
  | .copy esz d s => chkCopy P p.op esz d s
  | .len x => chkLen P p.op x
  | .lenS x => chkLenS P p.op x
  | .lenA n => chkLenA P p.op n
  | .cap0 x => chkCap P p.op x
  | .mmax xs => chkMax p.op xs
  | .mmin xs => chkMin p.op xs
  | .make _ esz ebytes zero len cap => chkMake P p.op esz ebytes zero len cap
  | .extract x i => chkExtract p.op x i
  | .call _ _ _ _ => false
  | .panic _ => false
section
variable {P : Program} {M : Mem} {β : Names} {N : Nat} {Lb : Nat → Prop} {w0 w : World} {o : Hp} {ks : List Nat} {e : Env} {a : Go.Act} {G : Nat → Option (List V)}
theorem bind_some' {α β : Type} {x : Option α} {f : α → Option β} {b : β} (h : x.bind f = some b) : ∃ a, x = some a ∧ f a = some b := by
  cases x with
  | none => cases h
  | some a => exact ⟨a, rfl, h⟩
theorem map_some' {α β : Type} {x : Option α} {f : α → β} {b : β} (h : x.map f = some b) : ∃ a, x = some a ∧ f a = b := by
  cases x with
  | none => cases h
  | some a => cases h; exact ⟨a, rfl, rfl⟩
theorem stepI_sound {p : Oper} {i : I} {base : Nat} {act : Act} (hs : stepI G e o base i = some act) (hc : chkI P p i = true) (hk : Ok M β N Lb w0 o w) (he : EnvR M β e a) (hg : GOK M G)
    (hf : ∀ k ∈ allocK i, β (base + k) = none ∧ base + k < N ∧ base + k ∈ ks) : Gd M β N Lb w0 ks (hputs o act.ups) act.val ((execOp a.eval p).run P w) := by
  cases i with
  | mov x => cases hs; exact snd_mov hc hk he hg
  | pick c x y =>
    simp only [stepI] at hs
    split at hs
    · rename_i t ht; cases hs; exact snd_pick hc ht hk he hg
    · cases hs
  | alloc k zero =>
    cases hs
    obtain ⟨h1, h2, h3⟩ := hf k (by simp [allocK])
    exact snd_alloc hc hk h1 h2 h3
  | box k x =>
    simp only [stepI] at hs
    split at hs
    · rename_i hok; cases hs
      obtain ⟨h1, h2, h3⟩ := hf k (by simp [allocK])
      exact snd_box hc hok hk he hg h1 h2 h3
    · cases hs
  | build zero parts =>
    obtain ⟨u, h1, rfl⟩ := okV_some hs
    obtain ⟨cs, h2, rfl⟩ := map_some' h1
    exact snd_build hc h2 hk he hg
  | lit k esz zero parts =>
    obtain ⟨xs, h1, rfl⟩ := map_some' hs
    obtain ⟨g1, g2, g3⟩ := hf k (by simp [allocK])
    exact snd_lit hc h1 hk he hg g1 g2 g3
  | ilit esz zero parts =>
    obtain ⟨u, h1, rfl⟩ := okV_some hs
    obtain ⟨xs, h2, rfl⟩ := map_some' h1
    obtain ⟨ys, h3, h4⟩ := bind_some' h2
    exact snd_ilit hc h3 h4 hk he hg
  | flit esz zero parts => cases hc
  | load agg x =>
    obtain ⟨r, h1, h2⟩ := bind_some' hs
    obtain ⟨v, h3, rfl⟩ := map_some' h2
    exact snd_load hc h1 h3 hk he hg
  | store n x y =>
    simp only [stepI] at hs
    split at hs
    · rename_i hl
      obtain ⟨u, h1, rfl⟩ := map_some' hs
      exact snd_store hc hl.1 hl.2 h1 hk he hg
    · cases hs
  | nilCheck x =>
    simp only [stepI] at hs
    split at hs <;> (try cases hs)
    all_goals (rename_i h; exact snd_nil hc h trivial hk he hg)
  | bin b x y =>
    obtain ⟨u, h1, rfl⟩ := okV_some hs
    exact snd_bin hc h1 hk he hg
  | eqv neg ks' x y =>
    simp only [stepI] at hs
    split at hs
    · rename_i as bs hx hy
      obtain ⟨u, h1, rfl⟩ := okV_some hs
      obtain ⟨b, h2, rfl⟩ := map_some' h1
      exact snd_eqv hc hx hy h2 hk he hg
    · cases hs
  | eqp neg x y =>
    obtain ⟨u, h1, rfl⟩ := okV_some hs
    obtain ⟨b, h2, rfl⟩ := map_some' h1
    exact snd_eqp hc h2 hk he hg
  | eqb neg x y =>
    simp only [stepI] at hs
    split at hs
    · rename_i r s hx hy
      cases hs
      exact snd_eqb hc hx hy hk he hg
    · cases hs
  | un u x =>
    obtain ⟨v, h1, rfl⟩ := okV_some hs
    exact snd_un hc h1 hk he hg
  | convInt k x =>
    simp only [stepI] at hs
    split at hs
    · rename_i h; cases hs; exact snd_convInt hc h hk he hg
    · cases hs
  | convStr x =>
    simp only [stepI] at hs
    split at hs
    · cases hs
    · rename_i hns
      obtain ⟨r, h1, h2⟩ := bind_some' hs
      obtain ⟨s, h3, rfl⟩ := map_some' h2
      exact snd_convStr hc rfl (fun s h => hns (by rw [h]; rfl)) h1 h3 hk he hg
  | convBytes x =>
    simp only [stepI] at hs
    split at hs
    · rename_i s h; cases hs; exact snd_convBytes hc h hk he hg
    · cases hs
  | convSl x =>
    simp only [stepI] at hs
    split at hs
    · rename_i i st len h
      split at hs
      · rename_i s xs ho
        split at hs
        · rename_i hlen; cases hs; exact snd_convSl hc h ho hlen hk he hg
        · cases hs
      · cases hs
    · cases hs
  | arrPtr n x =>
    simp only [stepI] at hs
    split at hs
    · rename_i i off len s h
      split at hs
      · rename_i hn; cases hs; exact snd_arrPtr hc h hn.1 hn.2 hk he hg
      · cases hs
    · cases hs
  | mkIface t x => cases hs; exact snd_iface hc hk he hg
  | mkFn f caps => cases hs; exact snd_fn hc hk he hg
  | sliceS x lo hi =>
    simp only [stepI] at hs
    split at hs
    · rename_i s h
      obtain ⟨l, h1, hs⟩ := bind_some' hs
      obtain ⟨r, h2, hs⟩ := bind_some' hs
      split at hs
      · rename_i hb; cases hs; exact snd_sliceS hc h h1 h2 hb.1 hb.2 hk he hg
      · cases hs
    · cases hs
  | sliceL esz x lo hi =>
    obtain ⟨n, h1, hs⟩ := bind_some' hs
    obtain ⟨l, h2, hs⟩ := bind_some' hs
    obtain ⟨r, h3, hs⟩ := bind_some' hs
    obtain ⟨h4, h5⟩ := snd_sliceL (ks := ks) hc h1 h2 h3 hs hk he hg
    rw [h5]; exact h4
  | sliceA n esz x lo hi =>
    simp only [stepI] at hs
    split at hs
    · rename_i i off h
      obtain ⟨l, h1, hs⟩ := bind_some' hs
      obtain ⟨r, h2, hs⟩ := bind_some' hs
      split at hs
      · rename_i hb; cases hs; exact snd_sliceA hc h h1 h2 hb.1 hb.2 hk he hg
      · cases hs
    · cases hs
  | fieldAddr off x =>
    simp only [stepI] at hs
    split at hs <;> (try cases hs)
    all_goals (rename_i h; exact snd_fieldAddr hc (by rw [h]) hk he hg)
  | field off agg x =>
    simp only [stepI] at hs
    split at hs
    · rename_i cs h
      obtain ⟨v, h1, rfl⟩ := okV_some hs
      obtain ⟨l, h2, h3⟩ := bind_some' h1
      exact snd_field hc h h2 h3 hk he hg
    · cases hs
  | indexAddrA n esz x i =>
    obtain ⟨j, h1, hs⟩ := bind_some' hs
    split at hs
    · rename_i hlt
      split at hs <;> (try cases hs)
      all_goals (rename_i h; exact snd_indexAddrA hc h1 hlt (by rw [h]) hk he hg)
    · cases hs
  | indexAddrL esz x i =>
    obtain ⟨j, h1, hs⟩ := bind_some' hs
    obtain ⟨h4, h5⟩ := snd_indexAddrL (ks := ks) hc h1 hs hk he hg
    rw [h5]; exact h4
  | indexS x i =>
    obtain ⟨j, h1, hs⟩ := bind_some' hs
    split at hs
    · rename_i s h
      obtain ⟨b, h2, hs⟩ := bind_some' hs
      cases hs
      exact snd_indexS hc h1 h h2 hk he hg
    · cases hs
  | indexA n esz agg x i =>
    obtain ⟨j, h1, hs⟩ := bind_some' hs
    split at hs
    · rename_i cs h
      split at hs
      · rename_i hlt
        obtain ⟨v, h2, rfl⟩ := okV_some hs
        obtain ⟨l, h3, h4⟩ := bind_some' h2
        exact snd_indexV hc h1 h hlt h3 h4 hk he hg
      · cases hs
    · cases hs
  | append k esz ebytes s x =>
    obtain ⟨r, h1, hs⟩ := bind_some' hs
    obtain ⟨g1, g2, g3⟩ := hf k (by simp [allocK])
    exact snd_append hc h1 hs hk he hg g1 g2 g3
  | appendZ k esz ebytes zero s n =>
    obtain ⟨m, h1, hs⟩ := bind_some' hs
    obtain ⟨g1, g2, g3⟩ := hf k (by simp [allocK])
    split at hs
    · rename_i hroom
      exact snd_appendZ hc h1 hroom hs hk he hg g1 g2 g3
    · cases hs
  | copy esz d s =>
    obtain ⟨r, h1, hs⟩ := bind_some' hs
    split at hs
    · rename_i i off len t h
      split at hs
      · rename_i hc2
        split at hs
        · rename_i cs ho
          obtain ⟨c, h2, rfl⟩ := map_some' hs
          obtain ⟨rfl, _⟩ := hc2
          exact snd_copy hc h1 h ho h2 hk he hg
        · cases hs
      · cases hs
    · cases hs
  | len x =>
    obtain ⟨u, h1, rfl⟩ := okV_some hs
    obtain ⟨n, h2, rfl⟩ := map_some' h1
    exact snd_len hc h2 hk he hg
  | lenS x =>
    simp only [stepI] at hs
    split at hs
    · rename_i s h; cases hs; exact snd_lenS hc h hk he hg
    · cases hs
  | lenA n => cases hs; exact snd_lenA hc hk
  | cap0 x =>
    simp only [stepI] at hs
    split at hs
    · rename_i s h; cases hs; exact snd_cap hc h hk he hg
    · cases hs
  | mmax xs =>
    cases xs with
    | nil => cases hs
    | cons y ys =>
      obtain ⟨u, h1, rfl⟩ := okV_some hs
      exact snd_max hc h1 hk he hg
  | mmin xs =>
    cases xs with
    | nil => cases hs
    | cons y ys =>
      obtain ⟨u, h1, rfl⟩ := okV_some hs
      exact snd_min hc h1 hk he hg
  | make k esz ebytes zero len cap =>
    obtain ⟨n, h1, hs⟩ := bind_some' hs
    obtain ⟨c, h2, hs⟩ := bind_some' hs
    obtain ⟨g1, g2, g3⟩ := hf k (by simp [allocK])
    split at hs
    · rename_i hroom
      cases hs
      exact snd_make hc h1 h2 hroom.1 hroom.2 hk he hg g1 g2 g3
    · cases hs
  | extract x i =>
    simp only [stepI] at hs
    split at hs
    · rename_i vs h
      obtain ⟨v, h1, rfl⟩ := okV_some hs
      exact snd_extract hc h h1 hk he hg
    · cases hs
  | call f args raw own => cases hc
  | panic x => cases hc
end
end Go.Proofs.Ytoccgkgdhobmfaa.Am
