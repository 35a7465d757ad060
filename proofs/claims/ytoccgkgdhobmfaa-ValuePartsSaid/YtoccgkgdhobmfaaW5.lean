/- Part 5 of a proof: the abstract machine and the contracts of the program. -/
import Derived.Test.YtoccgkgdhobmfaaW4
set_option maxRecDepth 100000
set_option linter.unusedVariables false
set_option linter.unusedSimpArgs false
namespace Go.Proofs.Ytoccgkgdhobmfaa.Am.Ru
open Go
def cI : V → Int | .int _ n => n | _ => 0
def isI : V → Bool | .int q _ => q == .i64 | _ => false
def cS : V → List UInt8 | .str s => s | _ => []
def isS : V → Bool | .str _ => true | _ => false
theorem cI_int (q : IntKind) (n : Int) : cI (.int q n) = n := _root_.id rfl
theorem isI_int (n : Int) : isI (.int .i64 n) = true := _root_.id rfl
theorem cS_str (s : List UInt8) : cS (.str s) = s := _root_.id rfl
theorem isS_str (s : List UInt8) : isS (.str s) = true := _root_.id rfl
/-- Rows of texts. -/
def strsO : List (List V) → List (List UInt8)
  | [] => []
  | r :: l => (match r with | [v] => cS v | _ => []) :: strsO l
def isStrs : List (List V) → Bool
  | [] => true
  | r :: l => (match r with | [v] => isS v | _ => false) && isStrs l
def cSs : V → List (List UInt8) | .sl _ xs => strsO xs | _ => []
theorem frz_agg_stand {o : Hp} {k : Nat} {cs : List V} (h : ∀ v ∈ cs, stand v = true) : frz o (k + 2) (.agg cs) = some (.agg cs, []) := by
  have : seqM (frz o (k + 1)) cs = some (cs, []) := seqM_same fun v hv => frz_stand (h v hv)
  show (seqM (frz o (k + 1)) cs).map _ = _
  rw [this]; rfl
theorem looks_agg_stand {o : Hp} {k : Nat} {cs : List V} (h : ∀ v ∈ cs, stand v = true) : looks o k (.agg cs) = [] := by
  cases k with
  | zero => rfl
  | succ k => exact flat_looks k cs h
theorem cell_row (e j : Nat) (xs : List (List V)) : cellV (rowV e j xs) = true := by unfold rowV; split <;> rfl
theorem vStore_row {o : Hp} (a : V) (e j : Nat) (xs : List (List V)) : vStore o 1 a (rowV e j xs) = sto o [rowV e j xs] a := vStore_cell a (cell_row e j xs)
theorem vBox_row (i e j : Nat) (xs : List (List V)) : vBox i (rowV e j xs) = some ⟨.ptr i 0, [(i, .box [rowV e j xs])], []⟩ := vBox_cell i (cell_row e j xs)
theorem fill1_row (off : Nat) (cs : List V) (e j : Nat) (xs : List (List V)) : fill1 off 1 (rowV e j xs) cs = splice off [rowV e j xs] cs := fill1_cell off cs (cell_row e j xs)
theorem rf_row (n e j : Nat) (xs : List (List V)) : refs (n + 1) (rowV e j xs) = some (rowR j xs) := by unfold rowV rowR; split <;> rfl
theorem lk_row {o : Hp} (n e j : Nat) (xs : List (List V)) (h : RowOK o e j xs) (hs : ∀ l ∈ xs, ∀ v ∈ l, stand v = true) : looks o (n + 1) (rowV e j xs) = rowR j xs := by
  by_cases hx : xs = []
  · subst hx; rfl
  · rw [rowV_ne _ _ hx, lk_v, rowOK_get h hx, lkv_stand _ _ _ hs]; unfold rowR; rw [if_neg hx]
theorem hputs_ite_ne (o : Hp) (c : Prop) [Decidable c] (j : Nat) (x : AObj) (i : Nat) (h : i ≠ j) : hputs o (if c then [] else [(j, x)]) i = o i := by
  split
  · rfl
  · exact hput_ne o j i x h
theorem hite_ne (a b : Nat) (x y : AObj) (h : a ≠ b) : (if a = b then x else y) = y := if_neg h
theorem hite_eq (a b : Nat) (x y : AObj) (h : a = b) : (if a = b then x else y) = x := if_pos h
theorem dec_ne (a b : Nat) (h : a ≠ b) : decide (a = b) = false := decide_eq_false h
theorem clr_nil {G : Nat → Option (List V)} {cf : CallFn} {Φ : Pst} {m : Md} {d : Option Nat} {r : List Op'} {e : Env} {o : Hp} {b cx : Nat} {k : List Fr} (v x : V) (sc : Bool) (ux : List (Nat × AObj)) (lk : List Nat) :
    clr G cf Φ v sc (x, ux) [] lk m d r e o b cx k = op G cf Φ (psh m ⟨lk, ids ux⟩) r (eputO e d x) (hputs o ux) b cx k := by cases sc <;> rfl
def isSs : V → Bool | .sl e xs => e == 1 && isStrs xs | _ => false
theorem strsO_back (l : List (List UInt8)) : strsO (strsV l) = l := by
  induction l with
  | nil => rfl
  | cons a l ih => unfold strsV at ih ⊢; simp only [List.map_cons, strsO, cS, ih]
theorem isStrs_back (l : List (List UInt8)) : isStrs (strsV l) = true := by
  induction l with
  | nil => rfl
  | cons a l ih => unfold strsV at ih ⊢; simp only [List.map_cons, isStrs, isS, ih, Bool.and_self]
theorem cSs_sl (e : Nat) (l : List (List UInt8)) : cSs (.sl e (strsV l)) = l := strsO_back l
theorem isSs_sl (l : List (List UInt8)) : isSs (.sl 1 (strsV l)) = true := by simp only [isSs, isStrs_back, BEq.rfl, Bool.and_self]
structure Idn where
  shop : Int
  seq : Int
  index : Int
def Idn.z : Idn := .mk 0 0 0
instance : Inhabited Idn := ⟨Idn.z⟩
theorem Idn.shop_mk (shop : Int) (seq : Int) (index : Int) : (Idn.mk shop seq index).shop = shop := _root_.id rfl
theorem Idn.seq_mk (shop : Int) (seq : Int) (index : Int) : (Idn.mk shop seq index).seq = seq := _root_.id rfl
theorem Idn.index_mk (shop : Int) (seq : Int) (index : Int) : (Idn.mk shop seq index).index = index := _root_.id rfl
def Idn.row (v : Idn) : List V := [.int .i64 v.shop, .int .i64 v.seq, .int .i64 v.index]
def Idn.rows : List Idn → List (List V)
  | [] => []
  | v :: r => v.row :: Idn.rows r
theorem Idn.row_eq (v : Idn) : v.row = [.int .i64 v.shop, .int .i64 v.seq, .int .i64 v.index] := _root_.id rfl
theorem Idn.rows_nil : Idn.rows [] = [] := _root_.id rfl
theorem Idn.rows_cons (v : Idn) (r : List Idn) : Idn.rows (v :: r) = v.row :: Idn.rows r := _root_.id rfl
theorem Idn.rows_map (l : List Idn) : Idn.rows l = l.map Idn.row := by
  induction l with
  | nil => rfl
  | cons a l ih => simp only [Idn.rows_cons, List.map_cons, ih]
theorem Idn.rows_len (l : List Idn) : (Idn.rows l).length = l.length := by rw [Idn.rows_map, List.length_map]
theorem Idn.rows_app (a b : List Idn) : Idn.rows a ++ Idn.rows b = Idn.rows (a ++ b) := by simp only [Idn.rows_map, List.map_append]
theorem Idn.rows_snoc (a : List Idn) (b : Idn) : Idn.rows a ++ [b.row] = Idn.rows (a ++ [b]) := by simp only [Idn.rows_map, List.map_append, List.map_cons, List.map_nil]
theorem Idn.rows_get (l : List Idn) (j : Nat) (h : j < l.length) : (Idn.rows l)[j]? = some (l.getD j Idn.z).row := by
  rw [Idn.rows_map, List.getElem?_map, List.getD_eq_getElem?_getD, List.getElem?_eq_getElem h]; rfl
theorem Idn.rows_cut (l : List Idn) (a b : Nat) : ((Idn.rows l).drop a).take b = Idn.rows ((l.drop a).take b) := by simp only [Idn.rows_map, List.map_take, List.map_drop]
theorem Idn.rows_take (l : List Idn) (a : Nat) : (Idn.rows l).take a = Idn.rows (l.take a) := by simp only [Idn.rows_map, List.map_take]
theorem Idn.rows_drop (l : List Idn) (a : Nat) : (Idn.rows l).drop a = Idn.rows (l.drop a) := by simp only [Idn.rows_map, List.map_drop]
theorem Idn.rows_set (l : List Idn) (j : Nat) (v : Idn) : (Idn.rows l).set j v.row = Idn.rows (l.set j v) := by simp only [Idn.rows_map, List.map_set]
theorem Idn.row_len (v : Idn) : v.row.length = 3 := by rw [Idn.row_eq]; rfl
theorem Idn.row_stand (v : Idn) : ∀ c ∈ v.row, stand c = true := by
  rw [Idn.row_eq]; intro c hc
  simp only [List.mem_cons, List.not_mem_nil, or_false] at hc
  rcases hc with rfl | rfl | rfl <;> rfl
theorem Idn.rows_stand (l : List Idn) : ∀ r ∈ Idn.rows l, ∀ c ∈ r, stand c = true := by
  intro r hr
  rw [Idn.rows_map, List.mem_map] at hr
  obtain ⟨v, _, rfl⟩ := hr
  exact v.row_stand
def Idn.of : List V → Idn
  | [a0, a1, a2] => .mk (cI a0) (cI a1) (cI a2)
  | _ => Idn.z
def Idn.ofs : List (List V) → List Idn
  | [] => []
  | r :: l => Idn.of r :: Idn.ofs l
def Idn.cell : V → List Idn
  | .sl _ xs => Idn.ofs xs
  | _ => []
def Idn.is : List V → Bool
  | [a0, a1, a2] => isI a0 && (isI a1 && (isI a2))
  | _ => false
def Idn.iss : List (List V) → Bool
  | [] => true
  | r :: l => Idn.is r && Idn.iss l
def Idn.isc : V → Bool
  | .sl e xs => e == 3 && Idn.iss xs
  | _ => false
theorem Idn.ofs_nil : Idn.ofs [] = [] := by simp only [Idn.ofs]
theorem Idn.ofs_cons (r : List V) (l : List (List V)) : Idn.ofs (r :: l) = Idn.of r :: Idn.ofs l := by simp only [Idn.ofs]
theorem Idn.iss_nil : Idn.iss [] = true := by simp only [Idn.iss]
theorem Idn.iss_cons (r : List V) (l : List (List V)) : Idn.iss (r :: l) = (Idn.is r && Idn.iss l) := by simp only [Idn.iss]
theorem Idn.cell_sl (e : Nat) (xs : List (List V)) : Idn.cell (.sl e xs) = Idn.ofs xs := by simp only [Idn.cell]
theorem Idn.isc_sl (xs : List (List V)) : Idn.isc (.sl 3 xs) = Idn.iss xs := by simp only [Idn.isc, BEq.rfl, Bool.true_and]
theorem Idn.of_mk (a0 : V) (a1 : V) (a2 : V) : Idn.of [a0, a1, a2] = .mk (cI a0) (cI a1) (cI a2) := by simp only [Idn.of]
theorem Idn.is_mk (a0 : V) (a1 : V) (a2 : V) : Idn.is [a0, a1, a2] = (isI a0 && (isI a1 && (isI a2))) := by simp only [Idn.is]
theorem Idn.ofs_app (a b : List (List V)) : Idn.ofs (a ++ b) = Idn.ofs a ++ Idn.ofs b := by
  induction a with
  | nil => rw [Idn.ofs_nil]; rfl
  | cons r a ih => rw [List.cons_append, Idn.ofs_cons, Idn.ofs_cons, ih]; rfl
theorem Idn.iss_app (a b : List (List V)) : Idn.iss (a ++ b) = (Idn.iss a && Idn.iss b) := by
  induction a with
  | nil => rw [Idn.iss_nil]; rfl
  | cons r a ih => rw [List.cons_append, Idn.iss_cons, Idn.iss_cons, ih, Bool.and_assoc]
theorem Idn.back (v : Idn) : Idn.of v.row = v := by
  rw [Idn.row, Idn.of_mk]
  simp only [cI_int, cS_str, cSs_sl]
theorem Idn.backs (l : List Idn) : Idn.ofs (Idn.rows l) = l := by
  induction l with
  | nil => rfl
  | cons v r ih => rw [Idn.rows_cons, Idn.ofs_cons, Idn.back v, ih]
theorem Idn.is_row (v : Idn) : Idn.is v.row = true := by
  rw [Idn.row, Idn.is_mk]
  simp only [isI_int, isS_str, isSs_sl, Bool.and_self]
theorem Idn.iss_rows (l : List Idn) : Idn.iss (Idn.rows l) = true := by
  induction l with
  | nil => rfl
  | cons v r ih => rw [Idn.rows_cons, Idn.iss_cons, Idn.is_row v, ih, Bool.and_self]
theorem Idn.cut_shop (v : Idn) : cut 0 1 v.row = some [.int .i64 v.shop] := by rw [Idn.row_eq]; simp only [cut_succ, cut_cons, cut_zero, Option.map_some]
theorem Idn.cut_seq (v : Idn) : cut 1 1 v.row = some [.int .i64 v.seq] := by rw [Idn.row_eq]; simp only [cut_succ, cut_cons, cut_zero, Option.map_some]
theorem Idn.cut_index (v : Idn) : cut 2 1 v.row = some [.int .i64 v.index] := by rw [Idn.row_eq]; simp only [cut_succ, cut_cons, cut_zero, Option.map_some]
inductive Val where
  | mk (kind : Int) (n : Int) (kids : List Val)
def Val.kind : Val → Int | .mk x _ _ => x
def Val.n : Val → Int | .mk _ x _ => x
def Val.kids : Val → List Val | .mk _ _ x => x
mutual
theorem Val.ind {Q : Val → Prop} (h : ∀ v : Val, (∀ x ∈ v.kids, Q x) → Q v) : ∀ v : Val, Q v
  | .mk kind n kids => h (.mk kind n kids) (Val.inds h kids)
theorem Val.inds {Q : Val → Prop} (h : ∀ v : Val, (∀ x ∈ v.kids, Q x) → Q v) : ∀ l : List Val, ∀ x ∈ l, Q x
  | [], x, hx => (by cases hx)
  | a :: l, x, hx => (List.mem_cons.1 hx).elim (fun e => e ▸ Val.ind h a) (fun hx => Val.inds h l x hx)
end
def Val.z : Val := .mk 0 0 []
instance : Inhabited Val := ⟨Val.z⟩
theorem Val.kind_mk (kind : Int) (n : Int) (kids : List Val) : (Val.mk kind n kids).kind = kind := _root_.id rfl
theorem Val.n_mk (kind : Int) (n : Int) (kids : List Val) : (Val.mk kind n kids).n = n := _root_.id rfl
theorem Val.kids_mk (kind : Int) (n : Int) (kids : List Val) : (Val.mk kind n kids).kids = kids := _root_.id rfl
mutual
def Val.row : Val → List V
  | .mk kind n kids => [.int .i64 kind, .int .i64 n, .sl 3 (Val.rows kids)]
def Val.rows : List Val → List (List V)
  | [] => []
  | v :: r => v.row :: Val.rows r
end
theorem Val.row_eq (v : Val) : v.row = [.int .i64 v.kind, .int .i64 v.n, .sl 3 (Val.rows v.kids)] := by cases v; simp only [Val.row, Val.kind, Val.n, Val.kids]
theorem Val.rows_nil : Val.rows [] = [] := _root_.id rfl
theorem Val.rows_cons (v : Val) (r : List Val) : Val.rows (v :: r) = v.row :: Val.rows r := _root_.id rfl
theorem Val.rows_map (l : List Val) : Val.rows l = l.map Val.row := by
  induction l with
  | nil => rfl
  | cons a l ih => simp only [Val.rows_cons, List.map_cons, ih]
theorem Val.rows_len (l : List Val) : (Val.rows l).length = l.length := by rw [Val.rows_map, List.length_map]
theorem Val.rows_app (a b : List Val) : Val.rows a ++ Val.rows b = Val.rows (a ++ b) := by simp only [Val.rows_map, List.map_append]
theorem Val.rows_snoc (a : List Val) (b : Val) : Val.rows a ++ [b.row] = Val.rows (a ++ [b]) := by simp only [Val.rows_map, List.map_append, List.map_cons, List.map_nil]
theorem Val.rows_get (l : List Val) (j : Nat) (h : j < l.length) : (Val.rows l)[j]? = some (l.getD j Val.z).row := by
  rw [Val.rows_map, List.getElem?_map, List.getD_eq_getElem?_getD, List.getElem?_eq_getElem h]; rfl
theorem Val.rows_cut (l : List Val) (a b : Nat) : ((Val.rows l).drop a).take b = Val.rows ((l.drop a).take b) := by simp only [Val.rows_map, List.map_take, List.map_drop]
theorem Val.rows_take (l : List Val) (a : Nat) : (Val.rows l).take a = Val.rows (l.take a) := by simp only [Val.rows_map, List.map_take]
theorem Val.rows_drop (l : List Val) (a : Nat) : (Val.rows l).drop a = Val.rows (l.drop a) := by simp only [Val.rows_map, List.map_drop]
theorem Val.rows_set (l : List Val) (j : Nat) (v : Val) : (Val.rows l).set j v.row = Val.rows (l.set j v) := by simp only [Val.rows_map, List.map_set]
theorem Val.row_len (v : Val) : v.row.length = 3 := by rw [Val.row_eq]; rfl
theorem Val.row_stand (v : Val) : ∀ c ∈ v.row, stand c = true := by
  rw [Val.row_eq]; intro c hc
  simp only [List.mem_cons, List.not_mem_nil, or_false] at hc
  rcases hc with rfl | rfl | rfl <;> rfl
theorem Val.rows_stand (l : List Val) : ∀ r ∈ Val.rows l, ∀ c ∈ r, stand c = true := by
  intro r hr
  rw [Val.rows_map, List.mem_map] at hr
  obtain ⟨v, _, rfl⟩ := hr
  exact v.row_stand
mutual
def Val.cell : V → List Val
  | .sl _ xs => Val.ofs xs
  | _ => []
def Val.of : List V → Val
  | [a0, a1, a2] => .mk (cI a0) (cI a1) (Val.cell a2)
  | _ => Val.z
def Val.ofs : List (List V) → List Val
  | [] => []
  | r :: l => Val.of r :: Val.ofs l
end
mutual
def Val.isc : V → Bool
  | .sl e xs => e == 3 && Val.iss xs
  | _ => false
def Val.is : List V → Bool
  | [a0, a1, a2] => isI a0 && (isI a1 && (Val.isc a2))
  | _ => false
def Val.iss : List (List V) → Bool
  | [] => true
  | r :: l => Val.is r && Val.iss l
end
theorem Val.ofs_nil : Val.ofs [] = [] := by simp only [Val.ofs]
theorem Val.ofs_cons (r : List V) (l : List (List V)) : Val.ofs (r :: l) = Val.of r :: Val.ofs l := by simp only [Val.ofs]
theorem Val.iss_nil : Val.iss [] = true := by simp only [Val.iss]
theorem Val.iss_cons (r : List V) (l : List (List V)) : Val.iss (r :: l) = (Val.is r && Val.iss l) := by simp only [Val.iss]
theorem Val.cell_sl (e : Nat) (xs : List (List V)) : Val.cell (.sl e xs) = Val.ofs xs := by simp only [Val.cell]
theorem Val.isc_sl (xs : List (List V)) : Val.isc (.sl 3 xs) = Val.iss xs := by simp only [Val.isc, BEq.rfl, Bool.true_and]
theorem Val.of_mk (a0 : V) (a1 : V) (a2 : V) : Val.of [a0, a1, a2] = .mk (cI a0) (cI a1) (Val.cell a2) := by simp only [Val.of]
theorem Val.is_mk (a0 : V) (a1 : V) (a2 : V) : Val.is [a0, a1, a2] = (isI a0 && (isI a1 && (Val.isc a2))) := by simp only [Val.is]
theorem Val.ofs_app (a b : List (List V)) : Val.ofs (a ++ b) = Val.ofs a ++ Val.ofs b := by
  induction a with
  | nil => rw [Val.ofs_nil]; rfl
  | cons r a ih => rw [List.cons_append, Val.ofs_cons, Val.ofs_cons, ih]; rfl
theorem Val.iss_app (a b : List (List V)) : Val.iss (a ++ b) = (Val.iss a && Val.iss b) := by
  induction a with
  | nil => rw [Val.iss_nil]; rfl
  | cons r a ih => rw [List.cons_append, Val.iss_cons, Val.iss_cons, ih, Bool.and_assoc]
mutual
theorem Val.back : ∀ v : Val, Val.of v.row = v
  | .mk kind n kids => by
    rw [Val.row, Val.of_mk]
    simp only [cI_int, cS_str, cSs_sl, Val.cell_sl, Val.backs kids]
theorem Val.backs : ∀ l : List Val, Val.ofs (Val.rows l) = l
  | [] => by rw [Val.rows_nil, Val.ofs_nil]
  | v :: r => by rw [Val.rows_cons, Val.ofs_cons, Val.back v, Val.backs r]
end
mutual
theorem Val.is_row : ∀ v : Val, Val.is v.row = true
  | .mk kind n kids => by
    rw [Val.row, Val.is_mk]
    simp only [isI_int, isS_str, isSs_sl, Val.isc_sl, Val.iss_rows kids, Bool.and_self]
theorem Val.iss_rows : ∀ l : List Val, Val.iss (Val.rows l) = true
  | [] => by rw [Val.rows_nil, Val.iss_nil]
  | v :: r => by rw [Val.rows_cons, Val.iss_cons, Val.is_row v, Val.iss_rows r, Bool.and_self]
end
theorem Val.cut_kind (v : Val) : cut 0 1 v.row = some [.int .i64 v.kind] := by rw [Val.row_eq]; simp only [cut_succ, cut_cons, cut_zero, Option.map_some]
theorem Val.cut_n (v : Val) : cut 1 1 v.row = some [.int .i64 v.n] := by rw [Val.row_eq]; simp only [cut_succ, cut_cons, cut_zero, Option.map_some]
theorem Val.cut_kids (v : Val) : cut 2 1 v.row = some [.sl 3 (Val.rows v.kids)] := by rw [Val.row_eq]; simp only [cut_succ, cut_cons, cut_zero, Option.map_some]
inductive Typ where
  | mk (kind : Int) (ref : Idn) (kids : List Typ)
def Typ.kind : Typ → Int | .mk x _ _ => x
def Typ.ref : Typ → Idn | .mk _ x _ => x
def Typ.kids : Typ → List Typ | .mk _ _ x => x
mutual
theorem Typ.ind {Q : Typ → Prop} (h : ∀ v : Typ, (∀ x ∈ v.kids, Q x) → Q v) : ∀ v : Typ, Q v
  | .mk kind ref kids => h (.mk kind ref kids) (Typ.inds h kids)
theorem Typ.inds {Q : Typ → Prop} (h : ∀ v : Typ, (∀ x ∈ v.kids, Q x) → Q v) : ∀ l : List Typ, ∀ x ∈ l, Q x
  | [], x, hx => (by cases hx)
  | a :: l, x, hx => (List.mem_cons.1 hx).elim (fun e => e ▸ Typ.ind h a) (fun hx => Typ.inds h l x hx)
end
def Typ.z : Typ := .mk 0 Idn.z []
instance : Inhabited Typ := ⟨Typ.z⟩
theorem Typ.kind_mk (kind : Int) (ref : Idn) (kids : List Typ) : (Typ.mk kind ref kids).kind = kind := _root_.id rfl
theorem Typ.ref_mk (kind : Int) (ref : Idn) (kids : List Typ) : (Typ.mk kind ref kids).ref = ref := _root_.id rfl
theorem Typ.kids_mk (kind : Int) (ref : Idn) (kids : List Typ) : (Typ.mk kind ref kids).kids = kids := _root_.id rfl
mutual
def Typ.row : Typ → List V
  | .mk kind ref kids => [.int .i64 kind, .int .i64 ref.shop, .int .i64 ref.seq, .int .i64 ref.index, .sl 5 (Typ.rows kids)]
def Typ.rows : List Typ → List (List V)
  | [] => []
  | v :: r => v.row :: Typ.rows r
end
theorem Typ.row_eq (v : Typ) : v.row = [.int .i64 v.kind, .int .i64 v.ref.shop, .int .i64 v.ref.seq, .int .i64 v.ref.index, .sl 5 (Typ.rows v.kids)] := by cases v; simp only [Typ.row, Typ.kind, Typ.ref, Typ.kids]
theorem Typ.rows_nil : Typ.rows [] = [] := _root_.id rfl
theorem Typ.rows_cons (v : Typ) (r : List Typ) : Typ.rows (v :: r) = v.row :: Typ.rows r := _root_.id rfl
theorem Typ.rows_map (l : List Typ) : Typ.rows l = l.map Typ.row := by
  induction l with
  | nil => rfl
  | cons a l ih => simp only [Typ.rows_cons, List.map_cons, ih]
theorem Typ.rows_len (l : List Typ) : (Typ.rows l).length = l.length := by rw [Typ.rows_map, List.length_map]
theorem Typ.rows_app (a b : List Typ) : Typ.rows a ++ Typ.rows b = Typ.rows (a ++ b) := by simp only [Typ.rows_map, List.map_append]
theorem Typ.rows_snoc (a : List Typ) (b : Typ) : Typ.rows a ++ [b.row] = Typ.rows (a ++ [b]) := by simp only [Typ.rows_map, List.map_append, List.map_cons, List.map_nil]
theorem Typ.rows_get (l : List Typ) (j : Nat) (h : j < l.length) : (Typ.rows l)[j]? = some (l.getD j Typ.z).row := by
  rw [Typ.rows_map, List.getElem?_map, List.getD_eq_getElem?_getD, List.getElem?_eq_getElem h]; rfl
theorem Typ.rows_cut (l : List Typ) (a b : Nat) : ((Typ.rows l).drop a).take b = Typ.rows ((l.drop a).take b) := by simp only [Typ.rows_map, List.map_take, List.map_drop]
theorem Typ.rows_take (l : List Typ) (a : Nat) : (Typ.rows l).take a = Typ.rows (l.take a) := by simp only [Typ.rows_map, List.map_take]
theorem Typ.rows_drop (l : List Typ) (a : Nat) : (Typ.rows l).drop a = Typ.rows (l.drop a) := by simp only [Typ.rows_map, List.map_drop]
theorem Typ.rows_set (l : List Typ) (j : Nat) (v : Typ) : (Typ.rows l).set j v.row = Typ.rows (l.set j v) := by simp only [Typ.rows_map, List.map_set]
theorem Typ.row_len (v : Typ) : v.row.length = 5 := by rw [Typ.row_eq]; rfl
theorem Typ.row_stand (v : Typ) : ∀ c ∈ v.row, stand c = true := by
  rw [Typ.row_eq]; intro c hc
  simp only [List.mem_cons, List.not_mem_nil, or_false] at hc
  rcases hc with rfl | rfl | rfl | rfl | rfl <;> rfl
theorem Typ.rows_stand (l : List Typ) : ∀ r ∈ Typ.rows l, ∀ c ∈ r, stand c = true := by
  intro r hr
  rw [Typ.rows_map, List.mem_map] at hr
  obtain ⟨v, _, rfl⟩ := hr
  exact v.row_stand
mutual
def Typ.cell : V → List Typ
  | .sl _ xs => Typ.ofs xs
  | _ => []
def Typ.of : List V → Typ
  | [a0, a1, a2, a3, a4] => .mk (cI a0) (Idn.of [a1, a2, a3]) (Typ.cell a4)
  | _ => Typ.z
def Typ.ofs : List (List V) → List Typ
  | [] => []
  | r :: l => Typ.of r :: Typ.ofs l
end
mutual
def Typ.isc : V → Bool
  | .sl e xs => e == 5 && Typ.iss xs
  | _ => false
def Typ.is : List V → Bool
  | [a0, a1, a2, a3, a4] => isI a0 && (Idn.is [a1, a2, a3] && (Typ.isc a4))
  | _ => false
def Typ.iss : List (List V) → Bool
  | [] => true
  | r :: l => Typ.is r && Typ.iss l
end
theorem Typ.ofs_nil : Typ.ofs [] = [] := by simp only [Typ.ofs]
theorem Typ.ofs_cons (r : List V) (l : List (List V)) : Typ.ofs (r :: l) = Typ.of r :: Typ.ofs l := by simp only [Typ.ofs]
theorem Typ.iss_nil : Typ.iss [] = true := by simp only [Typ.iss]
theorem Typ.iss_cons (r : List V) (l : List (List V)) : Typ.iss (r :: l) = (Typ.is r && Typ.iss l) := by simp only [Typ.iss]
theorem Typ.cell_sl (e : Nat) (xs : List (List V)) : Typ.cell (.sl e xs) = Typ.ofs xs := by simp only [Typ.cell]
theorem Typ.isc_sl (xs : List (List V)) : Typ.isc (.sl 5 xs) = Typ.iss xs := by simp only [Typ.isc, BEq.rfl, Bool.true_and]
theorem Typ.of_mk (a0 : V) (a1 : V) (a2 : V) (a3 : V) (a4 : V) : Typ.of [a0, a1, a2, a3, a4] = .mk (cI a0) (Idn.of [a1, a2, a3]) (Typ.cell a4) := by simp only [Typ.of]
theorem Typ.is_mk (a0 : V) (a1 : V) (a2 : V) (a3 : V) (a4 : V) : Typ.is [a0, a1, a2, a3, a4] = (isI a0 && (Idn.is [a1, a2, a3] && (Typ.isc a4))) := by simp only [Typ.is]
theorem Typ.ofs_app (a b : List (List V)) : Typ.ofs (a ++ b) = Typ.ofs a ++ Typ.ofs b := by
  induction a with
  | nil => rw [Typ.ofs_nil]; rfl
  | cons r a ih => rw [List.cons_append, Typ.ofs_cons, Typ.ofs_cons, ih]; rfl
theorem Typ.iss_app (a b : List (List V)) : Typ.iss (a ++ b) = (Typ.iss a && Typ.iss b) := by
  induction a with
  | nil => rw [Typ.iss_nil]; rfl
  | cons r a ih => rw [List.cons_append, Typ.iss_cons, Typ.iss_cons, ih, Bool.and_assoc]
mutual
theorem Typ.back : ∀ v : Typ, Typ.of v.row = v
  | .mk kind ref kids => by
    rw [Typ.row, Typ.of_mk]
    simp only [← Idn.row_eq, Idn.back]
    simp only [cI_int, cS_str, cSs_sl, Typ.cell_sl, Typ.backs kids]
theorem Typ.backs : ∀ l : List Typ, Typ.ofs (Typ.rows l) = l
  | [] => by rw [Typ.rows_nil, Typ.ofs_nil]
  | v :: r => by rw [Typ.rows_cons, Typ.ofs_cons, Typ.back v, Typ.backs r]
end
mutual
theorem Typ.is_row : ∀ v : Typ, Typ.is v.row = true
  | .mk kind ref kids => by
    rw [Typ.row, Typ.is_mk]
    simp only [← Idn.row_eq, Idn.is_row]
    simp only [isI_int, isS_str, isSs_sl, Typ.isc_sl, Typ.iss_rows kids, Bool.and_self]
theorem Typ.iss_rows : ∀ l : List Typ, Typ.iss (Typ.rows l) = true
  | [] => by rw [Typ.rows_nil, Typ.iss_nil]
  | v :: r => by rw [Typ.rows_cons, Typ.iss_cons, Typ.is_row v, Typ.iss_rows r, Bool.and_self]
end
theorem Typ.cut_kind (v : Typ) : cut 0 1 v.row = some [.int .i64 v.kind] := by rw [Typ.row_eq]; simp only [cut_succ, cut_cons, cut_zero, Option.map_some]
theorem Typ.cut_ref (v : Typ) : cut 1 3 v.row = some (v.ref).row := by rw [Typ.row_eq, Idn.row_eq]; simp only [cut_succ, cut_cons, cut_zero, Option.map_some]
theorem Typ.cut_kids (v : Typ) : cut 4 1 v.row = some [.sl 5 (Typ.rows v.kids)] := by rw [Typ.row_eq]; simp only [cut_succ, cut_cons, cut_zero, Option.map_some]
structure Slt where
  id : Idn
  name : List UInt8
  ty : Typ
  most : Int
  place : Int
def Slt.z : Slt := .mk Idn.z [] Typ.z 0 0
instance : Inhabited Slt := ⟨Slt.z⟩
theorem Slt.id_mk (id : Idn) (name : List UInt8) (ty : Typ) (most : Int) (place : Int) : (Slt.mk id name ty most place).id = id := _root_.id rfl
theorem Slt.name_mk (id : Idn) (name : List UInt8) (ty : Typ) (most : Int) (place : Int) : (Slt.mk id name ty most place).name = name := _root_.id rfl
theorem Slt.ty_mk (id : Idn) (name : List UInt8) (ty : Typ) (most : Int) (place : Int) : (Slt.mk id name ty most place).ty = ty := _root_.id rfl
theorem Slt.most_mk (id : Idn) (name : List UInt8) (ty : Typ) (most : Int) (place : Int) : (Slt.mk id name ty most place).most = most := _root_.id rfl
theorem Slt.place_mk (id : Idn) (name : List UInt8) (ty : Typ) (most : Int) (place : Int) : (Slt.mk id name ty most place).place = place := _root_.id rfl
def Slt.row (v : Slt) : List V := [.int .i64 v.id.shop, .int .i64 v.id.seq, .int .i64 v.id.index, .str v.name, .int .i64 v.ty.kind, .int .i64 v.ty.ref.shop, .int .i64 v.ty.ref.seq, .int .i64 v.ty.ref.index, .sl 5 (Typ.rows v.ty.kids), .int .i64 v.most, .int .i64 v.place]
def Slt.rows : List Slt → List (List V)
  | [] => []
  | v :: r => v.row :: Slt.rows r
theorem Slt.row_eq (v : Slt) : v.row = [.int .i64 v.id.shop, .int .i64 v.id.seq, .int .i64 v.id.index, .str v.name, .int .i64 v.ty.kind, .int .i64 v.ty.ref.shop, .int .i64 v.ty.ref.seq, .int .i64 v.ty.ref.index, .sl 5 (Typ.rows v.ty.kids), .int .i64 v.most, .int .i64 v.place] := _root_.id rfl
theorem Slt.rows_nil : Slt.rows [] = [] := _root_.id rfl
theorem Slt.rows_cons (v : Slt) (r : List Slt) : Slt.rows (v :: r) = v.row :: Slt.rows r := _root_.id rfl
theorem Slt.rows_map (l : List Slt) : Slt.rows l = l.map Slt.row := by
  induction l with
  | nil => rfl
  | cons a l ih => simp only [Slt.rows_cons, List.map_cons, ih]
theorem Slt.rows_len (l : List Slt) : (Slt.rows l).length = l.length := by rw [Slt.rows_map, List.length_map]
theorem Slt.rows_app (a b : List Slt) : Slt.rows a ++ Slt.rows b = Slt.rows (a ++ b) := by simp only [Slt.rows_map, List.map_append]
theorem Slt.rows_snoc (a : List Slt) (b : Slt) : Slt.rows a ++ [b.row] = Slt.rows (a ++ [b]) := by simp only [Slt.rows_map, List.map_append, List.map_cons, List.map_nil]
theorem Slt.rows_get (l : List Slt) (j : Nat) (h : j < l.length) : (Slt.rows l)[j]? = some (l.getD j Slt.z).row := by
  rw [Slt.rows_map, List.getElem?_map, List.getD_eq_getElem?_getD, List.getElem?_eq_getElem h]; rfl
theorem Slt.rows_cut (l : List Slt) (a b : Nat) : ((Slt.rows l).drop a).take b = Slt.rows ((l.drop a).take b) := by simp only [Slt.rows_map, List.map_take, List.map_drop]
theorem Slt.rows_take (l : List Slt) (a : Nat) : (Slt.rows l).take a = Slt.rows (l.take a) := by simp only [Slt.rows_map, List.map_take]
theorem Slt.rows_drop (l : List Slt) (a : Nat) : (Slt.rows l).drop a = Slt.rows (l.drop a) := by simp only [Slt.rows_map, List.map_drop]
theorem Slt.rows_set (l : List Slt) (j : Nat) (v : Slt) : (Slt.rows l).set j v.row = Slt.rows (l.set j v) := by simp only [Slt.rows_map, List.map_set]
theorem Slt.row_len (v : Slt) : v.row.length = 11 := by rw [Slt.row_eq]; rfl
theorem Slt.row_stand (v : Slt) : ∀ c ∈ v.row, stand c = true := by
  rw [Slt.row_eq]; intro c hc
  simp only [List.mem_cons, List.not_mem_nil, or_false] at hc
  rcases hc with rfl | rfl | rfl | rfl | rfl | rfl | rfl | rfl | rfl | rfl | rfl <;> rfl
theorem Slt.rows_stand (l : List Slt) : ∀ r ∈ Slt.rows l, ∀ c ∈ r, stand c = true := by
  intro r hr
  rw [Slt.rows_map, List.mem_map] at hr
  obtain ⟨v, _, rfl⟩ := hr
  exact v.row_stand
def Slt.of : List V → Slt
  | [a0, a1, a2, a3, a4, a5, a6, a7, a8, a9, a10] => .mk (Idn.of [a0, a1, a2]) (cS a3) (Typ.of [a4, a5, a6, a7, a8]) (cI a9) (cI a10)
  | _ => Slt.z
def Slt.ofs : List (List V) → List Slt
  | [] => []
  | r :: l => Slt.of r :: Slt.ofs l
def Slt.cell : V → List Slt
  | .sl _ xs => Slt.ofs xs
  | _ => []
def Slt.is : List V → Bool
  | [a0, a1, a2, a3, a4, a5, a6, a7, a8, a9, a10] => Idn.is [a0, a1, a2] && (isS a3 && (Typ.is [a4, a5, a6, a7, a8] && (isI a9 && (isI a10))))
  | _ => false
def Slt.iss : List (List V) → Bool
  | [] => true
  | r :: l => Slt.is r && Slt.iss l
def Slt.isc : V → Bool
  | .sl e xs => e == 11 && Slt.iss xs
  | _ => false
theorem Slt.ofs_nil : Slt.ofs [] = [] := by simp only [Slt.ofs]
theorem Slt.ofs_cons (r : List V) (l : List (List V)) : Slt.ofs (r :: l) = Slt.of r :: Slt.ofs l := by simp only [Slt.ofs]
theorem Slt.iss_nil : Slt.iss [] = true := by simp only [Slt.iss]
theorem Slt.iss_cons (r : List V) (l : List (List V)) : Slt.iss (r :: l) = (Slt.is r && Slt.iss l) := by simp only [Slt.iss]
theorem Slt.cell_sl (e : Nat) (xs : List (List V)) : Slt.cell (.sl e xs) = Slt.ofs xs := by simp only [Slt.cell]
theorem Slt.isc_sl (xs : List (List V)) : Slt.isc (.sl 11 xs) = Slt.iss xs := by simp only [Slt.isc, BEq.rfl, Bool.true_and]
theorem Slt.of_mk (a0 : V) (a1 : V) (a2 : V) (a3 : V) (a4 : V) (a5 : V) (a6 : V) (a7 : V) (a8 : V) (a9 : V) (a10 : V) : Slt.of [a0, a1, a2, a3, a4, a5, a6, a7, a8, a9, a10] = .mk (Idn.of [a0, a1, a2]) (cS a3) (Typ.of [a4, a5, a6, a7, a8]) (cI a9) (cI a10) := by simp only [Slt.of]
theorem Slt.is_mk (a0 : V) (a1 : V) (a2 : V) (a3 : V) (a4 : V) (a5 : V) (a6 : V) (a7 : V) (a8 : V) (a9 : V) (a10 : V) : Slt.is [a0, a1, a2, a3, a4, a5, a6, a7, a8, a9, a10] = (Idn.is [a0, a1, a2] && (isS a3 && (Typ.is [a4, a5, a6, a7, a8] && (isI a9 && (isI a10))))) := by simp only [Slt.is]
theorem Slt.ofs_app (a b : List (List V)) : Slt.ofs (a ++ b) = Slt.ofs a ++ Slt.ofs b := by
  induction a with
  | nil => rw [Slt.ofs_nil]; rfl
  | cons r a ih => rw [List.cons_append, Slt.ofs_cons, Slt.ofs_cons, ih]; rfl
theorem Slt.iss_app (a b : List (List V)) : Slt.iss (a ++ b) = (Slt.iss a && Slt.iss b) := by
  induction a with
  | nil => rw [Slt.iss_nil]; rfl
  | cons r a ih => rw [List.cons_append, Slt.iss_cons, Slt.iss_cons, ih, Bool.and_assoc]
theorem Slt.back (v : Slt) : Slt.of v.row = v := by
  rw [Slt.row, Slt.of_mk]
  simp only [← Idn.row_eq, Idn.back]
  simp only [← Typ.row_eq, Typ.back]
  simp only [cI_int, cS_str, cSs_sl]
theorem Slt.backs (l : List Slt) : Slt.ofs (Slt.rows l) = l := by
  induction l with
  | nil => rfl
  | cons v r ih => rw [Slt.rows_cons, Slt.ofs_cons, Slt.back v, ih]
theorem Slt.is_row (v : Slt) : Slt.is v.row = true := by
  rw [Slt.row, Slt.is_mk]
  simp only [← Idn.row_eq, Idn.is_row]
  simp only [← Typ.row_eq, Typ.is_row]
  simp only [isI_int, isS_str, isSs_sl, Bool.and_self]
theorem Slt.iss_rows (l : List Slt) : Slt.iss (Slt.rows l) = true := by
  induction l with
  | nil => rfl
  | cons v r ih => rw [Slt.rows_cons, Slt.iss_cons, Slt.is_row v, ih, Bool.and_self]
theorem Slt.cut_id (v : Slt) : cut 0 3 v.row = some (v.id).row := by rw [Slt.row_eq, Idn.row_eq]; simp only [cut_succ, cut_cons, cut_zero, Option.map_some]
theorem Slt.cut_name (v : Slt) : cut 3 1 v.row = some [.str v.name] := by rw [Slt.row_eq]; simp only [cut_succ, cut_cons, cut_zero, Option.map_some]
theorem Slt.cut_ty (v : Slt) : cut 4 5 v.row = some (v.ty).row := by rw [Slt.row_eq, Typ.row_eq]; simp only [cut_succ, cut_cons, cut_zero, Option.map_some]
theorem Slt.cut_most (v : Slt) : cut 9 1 v.row = some [.int .i64 v.most] := by rw [Slt.row_eq]; simp only [cut_succ, cut_cons, cut_zero, Option.map_some]
theorem Slt.cut_place (v : Slt) : cut 10 1 v.row = some [.int .i64 v.place] := by rw [Slt.row_eq]; simp only [cut_succ, cut_cons, cut_zero, Option.map_some]
inductive Exr where
  | mk (id : Idn) (kind : Int) (n : Int) (ref : Idn) (ty : Typ) (kids : List Exr) (names : List (List UInt8))
def Exr.id : Exr → Idn | .mk x _ _ _ _ _ _ => x
def Exr.kind : Exr → Int | .mk _ x _ _ _ _ _ => x
def Exr.n : Exr → Int | .mk _ _ x _ _ _ _ => x
def Exr.ref : Exr → Idn | .mk _ _ _ x _ _ _ => x
def Exr.ty : Exr → Typ | .mk _ _ _ _ x _ _ => x
def Exr.kids : Exr → List Exr | .mk _ _ _ _ _ x _ => x
def Exr.names : Exr → List (List UInt8) | .mk _ _ _ _ _ _ x => x
mutual
theorem Exr.ind {Q : Exr → Prop} (h : ∀ v : Exr, (∀ x ∈ v.kids, Q x) → Q v) : ∀ v : Exr, Q v
  | .mk id kind n ref ty kids names => h (.mk id kind n ref ty kids names) (Exr.inds h kids)
theorem Exr.inds {Q : Exr → Prop} (h : ∀ v : Exr, (∀ x ∈ v.kids, Q x) → Q v) : ∀ l : List Exr, ∀ x ∈ l, Q x
  | [], x, hx => (by cases hx)
  | a :: l, x, hx => (List.mem_cons.1 hx).elim (fun e => e ▸ Exr.ind h a) (fun hx => Exr.inds h l x hx)
end
def Exr.z : Exr := .mk Idn.z 0 0 Idn.z Typ.z [] []
instance : Inhabited Exr := ⟨Exr.z⟩
theorem Exr.id_mk (id : Idn) (kind : Int) (n : Int) (ref : Idn) (ty : Typ) (kids : List Exr) (names : List (List UInt8)) : (Exr.mk id kind n ref ty kids names).id = id := _root_.id rfl
theorem Exr.kind_mk (id : Idn) (kind : Int) (n : Int) (ref : Idn) (ty : Typ) (kids : List Exr) (names : List (List UInt8)) : (Exr.mk id kind n ref ty kids names).kind = kind := _root_.id rfl
theorem Exr.n_mk (id : Idn) (kind : Int) (n : Int) (ref : Idn) (ty : Typ) (kids : List Exr) (names : List (List UInt8)) : (Exr.mk id kind n ref ty kids names).n = n := _root_.id rfl
theorem Exr.ref_mk (id : Idn) (kind : Int) (n : Int) (ref : Idn) (ty : Typ) (kids : List Exr) (names : List (List UInt8)) : (Exr.mk id kind n ref ty kids names).ref = ref := _root_.id rfl
theorem Exr.ty_mk (id : Idn) (kind : Int) (n : Int) (ref : Idn) (ty : Typ) (kids : List Exr) (names : List (List UInt8)) : (Exr.mk id kind n ref ty kids names).ty = ty := _root_.id rfl
theorem Exr.kids_mk (id : Idn) (kind : Int) (n : Int) (ref : Idn) (ty : Typ) (kids : List Exr) (names : List (List UInt8)) : (Exr.mk id kind n ref ty kids names).kids = kids := _root_.id rfl
theorem Exr.names_mk (id : Idn) (kind : Int) (n : Int) (ref : Idn) (ty : Typ) (kids : List Exr) (names : List (List UInt8)) : (Exr.mk id kind n ref ty kids names).names = names := _root_.id rfl
mutual
def Exr.row : Exr → List V
  | .mk id kind n ref ty kids names => [.int .i64 id.shop, .int .i64 id.seq, .int .i64 id.index, .int .i64 kind, .int .i64 n, .int .i64 ref.shop, .int .i64 ref.seq, .int .i64 ref.index, .int .i64 ty.kind, .int .i64 ty.ref.shop, .int .i64 ty.ref.seq, .int .i64 ty.ref.index, .sl 5 (Typ.rows ty.kids), .sl 15 (Exr.rows kids), .sl 1 (strsV names)]
def Exr.rows : List Exr → List (List V)
  | [] => []
  | v :: r => v.row :: Exr.rows r
end
theorem Exr.row_eq (v : Exr) : v.row = [.int .i64 v.id.shop, .int .i64 v.id.seq, .int .i64 v.id.index, .int .i64 v.kind, .int .i64 v.n, .int .i64 v.ref.shop, .int .i64 v.ref.seq, .int .i64 v.ref.index, .int .i64 v.ty.kind, .int .i64 v.ty.ref.shop, .int .i64 v.ty.ref.seq, .int .i64 v.ty.ref.index, .sl 5 (Typ.rows v.ty.kids), .sl 15 (Exr.rows v.kids), .sl 1 (strsV v.names)] := by cases v; simp only [Exr.row, Exr.id, Exr.kind, Exr.n, Exr.ref, Exr.ty, Exr.kids, Exr.names]
theorem Exr.rows_nil : Exr.rows [] = [] := _root_.id rfl
theorem Exr.rows_cons (v : Exr) (r : List Exr) : Exr.rows (v :: r) = v.row :: Exr.rows r := _root_.id rfl
theorem Exr.rows_map (l : List Exr) : Exr.rows l = l.map Exr.row := by
  induction l with
  | nil => rfl
  | cons a l ih => simp only [Exr.rows_cons, List.map_cons, ih]
theorem Exr.rows_len (l : List Exr) : (Exr.rows l).length = l.length := by rw [Exr.rows_map, List.length_map]
theorem Exr.rows_app (a b : List Exr) : Exr.rows a ++ Exr.rows b = Exr.rows (a ++ b) := by simp only [Exr.rows_map, List.map_append]
theorem Exr.rows_snoc (a : List Exr) (b : Exr) : Exr.rows a ++ [b.row] = Exr.rows (a ++ [b]) := by simp only [Exr.rows_map, List.map_append, List.map_cons, List.map_nil]
theorem Exr.rows_get (l : List Exr) (j : Nat) (h : j < l.length) : (Exr.rows l)[j]? = some (l.getD j Exr.z).row := by
  rw [Exr.rows_map, List.getElem?_map, List.getD_eq_getElem?_getD, List.getElem?_eq_getElem h]; rfl
theorem Exr.rows_cut (l : List Exr) (a b : Nat) : ((Exr.rows l).drop a).take b = Exr.rows ((l.drop a).take b) := by simp only [Exr.rows_map, List.map_take, List.map_drop]
theorem Exr.rows_take (l : List Exr) (a : Nat) : (Exr.rows l).take a = Exr.rows (l.take a) := by simp only [Exr.rows_map, List.map_take]
theorem Exr.rows_drop (l : List Exr) (a : Nat) : (Exr.rows l).drop a = Exr.rows (l.drop a) := by simp only [Exr.rows_map, List.map_drop]
theorem Exr.rows_set (l : List Exr) (j : Nat) (v : Exr) : (Exr.rows l).set j v.row = Exr.rows (l.set j v) := by simp only [Exr.rows_map, List.map_set]
theorem Exr.row_len (v : Exr) : v.row.length = 15 := by rw [Exr.row_eq]; rfl
theorem Exr.row_stand (v : Exr) : ∀ c ∈ v.row, stand c = true := by
  rw [Exr.row_eq]; intro c hc
  simp only [List.mem_cons, List.not_mem_nil, or_false] at hc
  rcases hc with rfl | rfl | rfl | rfl | rfl | rfl | rfl | rfl | rfl | rfl | rfl | rfl | rfl | rfl | rfl <;> rfl
theorem Exr.rows_stand (l : List Exr) : ∀ r ∈ Exr.rows l, ∀ c ∈ r, stand c = true := by
  intro r hr
  rw [Exr.rows_map, List.mem_map] at hr
  obtain ⟨v, _, rfl⟩ := hr
  exact v.row_stand
mutual
def Exr.cell : V → List Exr
  | .sl _ xs => Exr.ofs xs
  | _ => []
def Exr.of : List V → Exr
  | [a0, a1, a2, a3, a4, a5, a6, a7, a8, a9, a10, a11, a12, a13, a14] => .mk (Idn.of [a0, a1, a2]) (cI a3) (cI a4) (Idn.of [a5, a6, a7]) (Typ.of [a8, a9, a10, a11, a12]) (Exr.cell a13) (cSs a14)
  | _ => Exr.z
def Exr.ofs : List (List V) → List Exr
  | [] => []
  | r :: l => Exr.of r :: Exr.ofs l
end
mutual
def Exr.isc : V → Bool
  | .sl e xs => e == 15 && Exr.iss xs
  | _ => false
def Exr.is : List V → Bool
  | [a0, a1, a2, a3, a4, a5, a6, a7, a8, a9, a10, a11, a12, a13, a14] => Idn.is [a0, a1, a2] && (isI a3 && (isI a4 && (Idn.is [a5, a6, a7] && (Typ.is [a8, a9, a10, a11, a12] && (Exr.isc a13 && (isSs a14))))))
  | _ => false
def Exr.iss : List (List V) → Bool
  | [] => true
  | r :: l => Exr.is r && Exr.iss l
end
theorem Exr.ofs_nil : Exr.ofs [] = [] := by simp only [Exr.ofs]
theorem Exr.ofs_cons (r : List V) (l : List (List V)) : Exr.ofs (r :: l) = Exr.of r :: Exr.ofs l := by simp only [Exr.ofs]
theorem Exr.iss_nil : Exr.iss [] = true := by simp only [Exr.iss]
theorem Exr.iss_cons (r : List V) (l : List (List V)) : Exr.iss (r :: l) = (Exr.is r && Exr.iss l) := by simp only [Exr.iss]
theorem Exr.cell_sl (e : Nat) (xs : List (List V)) : Exr.cell (.sl e xs) = Exr.ofs xs := by simp only [Exr.cell]
theorem Exr.isc_sl (xs : List (List V)) : Exr.isc (.sl 15 xs) = Exr.iss xs := by simp only [Exr.isc, BEq.rfl, Bool.true_and]
theorem Exr.of_mk (a0 : V) (a1 : V) (a2 : V) (a3 : V) (a4 : V) (a5 : V) (a6 : V) (a7 : V) (a8 : V) (a9 : V) (a10 : V) (a11 : V) (a12 : V) (a13 : V) (a14 : V) : Exr.of [a0, a1, a2, a3, a4, a5, a6, a7, a8, a9, a10, a11, a12, a13, a14] = .mk (Idn.of [a0, a1, a2]) (cI a3) (cI a4) (Idn.of [a5, a6, a7]) (Typ.of [a8, a9, a10, a11, a12]) (Exr.cell a13) (cSs a14) := by simp only [Exr.of]
theorem Exr.is_mk (a0 : V) (a1 : V) (a2 : V) (a3 : V) (a4 : V) (a5 : V) (a6 : V) (a7 : V) (a8 : V) (a9 : V) (a10 : V) (a11 : V) (a12 : V) (a13 : V) (a14 : V) : Exr.is [a0, a1, a2, a3, a4, a5, a6, a7, a8, a9, a10, a11, a12, a13, a14] = (Idn.is [a0, a1, a2] && (isI a3 && (isI a4 && (Idn.is [a5, a6, a7] && (Typ.is [a8, a9, a10, a11, a12] && (Exr.isc a13 && (isSs a14))))))) := by simp only [Exr.is]
theorem Exr.ofs_app (a b : List (List V)) : Exr.ofs (a ++ b) = Exr.ofs a ++ Exr.ofs b := by
  induction a with
  | nil => rw [Exr.ofs_nil]; rfl
  | cons r a ih => rw [List.cons_append, Exr.ofs_cons, Exr.ofs_cons, ih]; rfl
theorem Exr.iss_app (a b : List (List V)) : Exr.iss (a ++ b) = (Exr.iss a && Exr.iss b) := by
  induction a with
  | nil => rw [Exr.iss_nil]; rfl
  | cons r a ih => rw [List.cons_append, Exr.iss_cons, Exr.iss_cons, ih, Bool.and_assoc]
mutual
theorem Exr.back : ∀ v : Exr, Exr.of v.row = v
  | .mk id kind n ref ty kids names => by
    rw [Exr.row, Exr.of_mk]
    simp only [← Idn.row_eq, Idn.back]
    simp only [← Typ.row_eq, Typ.back]
    simp only [cI_int, cS_str, cSs_sl, Exr.cell_sl, Exr.backs kids]
theorem Exr.backs : ∀ l : List Exr, Exr.ofs (Exr.rows l) = l
  | [] => by rw [Exr.rows_nil, Exr.ofs_nil]
  | v :: r => by rw [Exr.rows_cons, Exr.ofs_cons, Exr.back v, Exr.backs r]
end
mutual
theorem Exr.is_row : ∀ v : Exr, Exr.is v.row = true
  | .mk id kind n ref ty kids names => by
    rw [Exr.row, Exr.is_mk]
    simp only [← Idn.row_eq, Idn.is_row]
    simp only [← Typ.row_eq, Typ.is_row]
    simp only [isI_int, isS_str, isSs_sl, Exr.isc_sl, Exr.iss_rows kids, Bool.and_self]
theorem Exr.iss_rows : ∀ l : List Exr, Exr.iss (Exr.rows l) = true
  | [] => by rw [Exr.rows_nil, Exr.iss_nil]
  | v :: r => by rw [Exr.rows_cons, Exr.iss_cons, Exr.is_row v, Exr.iss_rows r, Bool.and_self]
end
theorem Exr.cut_id (v : Exr) : cut 0 3 v.row = some (v.id).row := by rw [Exr.row_eq, Idn.row_eq]; simp only [cut_succ, cut_cons, cut_zero, Option.map_some]
theorem Exr.cut_kind (v : Exr) : cut 3 1 v.row = some [.int .i64 v.kind] := by rw [Exr.row_eq]; simp only [cut_succ, cut_cons, cut_zero, Option.map_some]
theorem Exr.cut_n (v : Exr) : cut 4 1 v.row = some [.int .i64 v.n] := by rw [Exr.row_eq]; simp only [cut_succ, cut_cons, cut_zero, Option.map_some]
theorem Exr.cut_ref (v : Exr) : cut 5 3 v.row = some (v.ref).row := by rw [Exr.row_eq, Idn.row_eq]; simp only [cut_succ, cut_cons, cut_zero, Option.map_some]
theorem Exr.cut_ty (v : Exr) : cut 8 5 v.row = some (v.ty).row := by rw [Exr.row_eq, Typ.row_eq]; simp only [cut_succ, cut_cons, cut_zero, Option.map_some]
theorem Exr.cut_kids (v : Exr) : cut 13 1 v.row = some [.sl 15 (Exr.rows v.kids)] := by rw [Exr.row_eq]; simp only [cut_succ, cut_cons, cut_zero, Option.map_some]
theorem Exr.cut_names (v : Exr) : cut 14 1 v.row = some [.sl 1 (strsV v.names)] := by rw [Exr.row_eq]; simp only [cut_succ, cut_cons, cut_zero, Option.map_some]
structure Dfn where
  id : Idn
  kind : Int
  mod : Idn
  name : List UInt8
  slots : List Slt
  result : Typ
  body : Exr
  place : Int
  layout : List (List UInt8)
def Dfn.z : Dfn := .mk Idn.z 0 Idn.z [] [] Typ.z Exr.z 0 []
instance : Inhabited Dfn := ⟨Dfn.z⟩
theorem Dfn.id_mk (id : Idn) (kind : Int) (mod : Idn) (name : List UInt8) (slots : List Slt) (result : Typ) (body : Exr) (place : Int) (layout : List (List UInt8)) : (Dfn.mk id kind mod name slots result body place layout).id = id := _root_.id rfl
theorem Dfn.kind_mk (id : Idn) (kind : Int) (mod : Idn) (name : List UInt8) (slots : List Slt) (result : Typ) (body : Exr) (place : Int) (layout : List (List UInt8)) : (Dfn.mk id kind mod name slots result body place layout).kind = kind := _root_.id rfl
theorem Dfn.mod_mk (id : Idn) (kind : Int) (mod : Idn) (name : List UInt8) (slots : List Slt) (result : Typ) (body : Exr) (place : Int) (layout : List (List UInt8)) : (Dfn.mk id kind mod name slots result body place layout).mod = mod := _root_.id rfl
theorem Dfn.name_mk (id : Idn) (kind : Int) (mod : Idn) (name : List UInt8) (slots : List Slt) (result : Typ) (body : Exr) (place : Int) (layout : List (List UInt8)) : (Dfn.mk id kind mod name slots result body place layout).name = name := _root_.id rfl
theorem Dfn.slots_mk (id : Idn) (kind : Int) (mod : Idn) (name : List UInt8) (slots : List Slt) (result : Typ) (body : Exr) (place : Int) (layout : List (List UInt8)) : (Dfn.mk id kind mod name slots result body place layout).slots = slots := _root_.id rfl
theorem Dfn.result_mk (id : Idn) (kind : Int) (mod : Idn) (name : List UInt8) (slots : List Slt) (result : Typ) (body : Exr) (place : Int) (layout : List (List UInt8)) : (Dfn.mk id kind mod name slots result body place layout).result = result := _root_.id rfl
theorem Dfn.body_mk (id : Idn) (kind : Int) (mod : Idn) (name : List UInt8) (slots : List Slt) (result : Typ) (body : Exr) (place : Int) (layout : List (List UInt8)) : (Dfn.mk id kind mod name slots result body place layout).body = body := _root_.id rfl
theorem Dfn.place_mk (id : Idn) (kind : Int) (mod : Idn) (name : List UInt8) (slots : List Slt) (result : Typ) (body : Exr) (place : Int) (layout : List (List UInt8)) : (Dfn.mk id kind mod name slots result body place layout).place = place := _root_.id rfl
theorem Dfn.layout_mk (id : Idn) (kind : Int) (mod : Idn) (name : List UInt8) (slots : List Slt) (result : Typ) (body : Exr) (place : Int) (layout : List (List UInt8)) : (Dfn.mk id kind mod name slots result body place layout).layout = layout := _root_.id rfl
def Dfn.row (v : Dfn) : List V := [.int .i64 v.id.shop, .int .i64 v.id.seq, .int .i64 v.id.index, .int .i64 v.kind, .int .i64 v.mod.shop, .int .i64 v.mod.seq, .int .i64 v.mod.index, .str v.name, .sl 11 (Slt.rows v.slots), .int .i64 v.result.kind, .int .i64 v.result.ref.shop, .int .i64 v.result.ref.seq, .int .i64 v.result.ref.index, .sl 5 (Typ.rows v.result.kids), .int .i64 v.body.id.shop, .int .i64 v.body.id.seq, .int .i64 v.body.id.index, .int .i64 v.body.kind, .int .i64 v.body.n, .int .i64 v.body.ref.shop, .int .i64 v.body.ref.seq, .int .i64 v.body.ref.index, .int .i64 v.body.ty.kind, .int .i64 v.body.ty.ref.shop, .int .i64 v.body.ty.ref.seq, .int .i64 v.body.ty.ref.index, .sl 5 (Typ.rows v.body.ty.kids), .sl 15 (Exr.rows v.body.kids), .sl 1 (strsV v.body.names), .int .i64 v.place, .sl 1 (strsV v.layout)]
def Dfn.rows : List Dfn → List (List V)
  | [] => []
  | v :: r => v.row :: Dfn.rows r
theorem Dfn.row_eq (v : Dfn) : v.row = [.int .i64 v.id.shop, .int .i64 v.id.seq, .int .i64 v.id.index, .int .i64 v.kind, .int .i64 v.mod.shop, .int .i64 v.mod.seq, .int .i64 v.mod.index, .str v.name, .sl 11 (Slt.rows v.slots), .int .i64 v.result.kind, .int .i64 v.result.ref.shop, .int .i64 v.result.ref.seq, .int .i64 v.result.ref.index, .sl 5 (Typ.rows v.result.kids), .int .i64 v.body.id.shop, .int .i64 v.body.id.seq, .int .i64 v.body.id.index, .int .i64 v.body.kind, .int .i64 v.body.n, .int .i64 v.body.ref.shop, .int .i64 v.body.ref.seq, .int .i64 v.body.ref.index, .int .i64 v.body.ty.kind, .int .i64 v.body.ty.ref.shop, .int .i64 v.body.ty.ref.seq, .int .i64 v.body.ty.ref.index, .sl 5 (Typ.rows v.body.ty.kids), .sl 15 (Exr.rows v.body.kids), .sl 1 (strsV v.body.names), .int .i64 v.place, .sl 1 (strsV v.layout)] := _root_.id rfl
theorem Dfn.rows_nil : Dfn.rows [] = [] := _root_.id rfl
theorem Dfn.rows_cons (v : Dfn) (r : List Dfn) : Dfn.rows (v :: r) = v.row :: Dfn.rows r := _root_.id rfl
theorem Dfn.rows_map (l : List Dfn) : Dfn.rows l = l.map Dfn.row := by
  induction l with
  | nil => rfl
  | cons a l ih => simp only [Dfn.rows_cons, List.map_cons, ih]
theorem Dfn.rows_len (l : List Dfn) : (Dfn.rows l).length = l.length := by rw [Dfn.rows_map, List.length_map]
theorem Dfn.rows_app (a b : List Dfn) : Dfn.rows a ++ Dfn.rows b = Dfn.rows (a ++ b) := by simp only [Dfn.rows_map, List.map_append]
theorem Dfn.rows_snoc (a : List Dfn) (b : Dfn) : Dfn.rows a ++ [b.row] = Dfn.rows (a ++ [b]) := by simp only [Dfn.rows_map, List.map_append, List.map_cons, List.map_nil]
theorem Dfn.rows_get (l : List Dfn) (j : Nat) (h : j < l.length) : (Dfn.rows l)[j]? = some (l.getD j Dfn.z).row := by
  rw [Dfn.rows_map, List.getElem?_map, List.getD_eq_getElem?_getD, List.getElem?_eq_getElem h]; rfl
theorem Dfn.rows_cut (l : List Dfn) (a b : Nat) : ((Dfn.rows l).drop a).take b = Dfn.rows ((l.drop a).take b) := by simp only [Dfn.rows_map, List.map_take, List.map_drop]
theorem Dfn.rows_take (l : List Dfn) (a : Nat) : (Dfn.rows l).take a = Dfn.rows (l.take a) := by simp only [Dfn.rows_map, List.map_take]
theorem Dfn.rows_drop (l : List Dfn) (a : Nat) : (Dfn.rows l).drop a = Dfn.rows (l.drop a) := by simp only [Dfn.rows_map, List.map_drop]
theorem Dfn.rows_set (l : List Dfn) (j : Nat) (v : Dfn) : (Dfn.rows l).set j v.row = Dfn.rows (l.set j v) := by simp only [Dfn.rows_map, List.map_set]
theorem Dfn.row_len (v : Dfn) : v.row.length = 31 := by rw [Dfn.row_eq]; rfl
theorem Dfn.row_stand (v : Dfn) : ∀ c ∈ v.row, stand c = true := by
  rw [Dfn.row_eq]; intro c hc
  simp only [List.mem_cons, List.not_mem_nil, or_false] at hc
  rcases hc with rfl | rfl | rfl | rfl | rfl | rfl | rfl | rfl | rfl | rfl | rfl | rfl | rfl | rfl | rfl | rfl | rfl | rfl | rfl | rfl | rfl | rfl | rfl | rfl | rfl | rfl | rfl | rfl | rfl | rfl | rfl <;> rfl
theorem Dfn.rows_stand (l : List Dfn) : ∀ r ∈ Dfn.rows l, ∀ c ∈ r, stand c = true := by
  intro r hr
  rw [Dfn.rows_map, List.mem_map] at hr
  obtain ⟨v, _, rfl⟩ := hr
  exact v.row_stand
def Dfn.of : List V → Dfn
  | [a0, a1, a2, a3, a4, a5, a6, a7, a8, a9, a10, a11, a12, a13, a14, a15, a16, a17, a18, a19, a20, a21, a22, a23, a24, a25, a26, a27, a28, a29, a30] => .mk (Idn.of [a0, a1, a2]) (cI a3) (Idn.of [a4, a5, a6]) (cS a7) (Slt.cell a8) (Typ.of [a9, a10, a11, a12, a13]) (Exr.of [a14, a15, a16, a17, a18, a19, a20, a21, a22, a23, a24, a25, a26, a27, a28]) (cI a29) (cSs a30)
  | _ => Dfn.z
def Dfn.ofs : List (List V) → List Dfn
  | [] => []
  | r :: l => Dfn.of r :: Dfn.ofs l
def Dfn.cell : V → List Dfn
  | .sl _ xs => Dfn.ofs xs
  | _ => []
def Dfn.is : List V → Bool
  | [a0, a1, a2, a3, a4, a5, a6, a7, a8, a9, a10, a11, a12, a13, a14, a15, a16, a17, a18, a19, a20, a21, a22, a23, a24, a25, a26, a27, a28, a29, a30] => Idn.is [a0, a1, a2] && (isI a3 && (Idn.is [a4, a5, a6] && (isS a7 && (Slt.isc a8 && (Typ.is [a9, a10, a11, a12, a13] && (Exr.is [a14, a15, a16, a17, a18, a19, a20, a21, a22, a23, a24, a25, a26, a27, a28] && (isI a29 && (isSs a30))))))))
  | _ => false
def Dfn.iss : List (List V) → Bool
  | [] => true
  | r :: l => Dfn.is r && Dfn.iss l
def Dfn.isc : V → Bool
  | .sl e xs => e == 31 && Dfn.iss xs
  | _ => false
theorem Dfn.ofs_nil : Dfn.ofs [] = [] := by simp only [Dfn.ofs]
theorem Dfn.ofs_cons (r : List V) (l : List (List V)) : Dfn.ofs (r :: l) = Dfn.of r :: Dfn.ofs l := by simp only [Dfn.ofs]
theorem Dfn.iss_nil : Dfn.iss [] = true := by simp only [Dfn.iss]
theorem Dfn.iss_cons (r : List V) (l : List (List V)) : Dfn.iss (r :: l) = (Dfn.is r && Dfn.iss l) := by simp only [Dfn.iss]
theorem Dfn.cell_sl (e : Nat) (xs : List (List V)) : Dfn.cell (.sl e xs) = Dfn.ofs xs := by simp only [Dfn.cell]
theorem Dfn.isc_sl (xs : List (List V)) : Dfn.isc (.sl 31 xs) = Dfn.iss xs := by simp only [Dfn.isc, BEq.rfl, Bool.true_and]
theorem Dfn.of_mk (a0 : V) (a1 : V) (a2 : V) (a3 : V) (a4 : V) (a5 : V) (a6 : V) (a7 : V) (a8 : V) (a9 : V) (a10 : V) (a11 : V) (a12 : V) (a13 : V) (a14 : V) (a15 : V) (a16 : V) (a17 : V) (a18 : V) (a19 : V) (a20 : V) (a21 : V) (a22 : V) (a23 : V) (a24 : V) (a25 : V) (a26 : V) (a27 : V) (a28 : V) (a29 : V) (a30 : V) : Dfn.of [a0, a1, a2, a3, a4, a5, a6, a7, a8, a9, a10, a11, a12, a13, a14, a15, a16, a17, a18, a19, a20, a21, a22, a23, a24, a25, a26, a27, a28, a29, a30] = .mk (Idn.of [a0, a1, a2]) (cI a3) (Idn.of [a4, a5, a6]) (cS a7) (Slt.cell a8) (Typ.of [a9, a10, a11, a12, a13]) (Exr.of [a14, a15, a16, a17, a18, a19, a20, a21, a22, a23, a24, a25, a26, a27, a28]) (cI a29) (cSs a30) := by simp only [Dfn.of]
theorem Dfn.is_mk (a0 : V) (a1 : V) (a2 : V) (a3 : V) (a4 : V) (a5 : V) (a6 : V) (a7 : V) (a8 : V) (a9 : V) (a10 : V) (a11 : V) (a12 : V) (a13 : V) (a14 : V) (a15 : V) (a16 : V) (a17 : V) (a18 : V) (a19 : V) (a20 : V) (a21 : V) (a22 : V) (a23 : V) (a24 : V) (a25 : V) (a26 : V) (a27 : V) (a28 : V) (a29 : V) (a30 : V) : Dfn.is [a0, a1, a2, a3, a4, a5, a6, a7, a8, a9, a10, a11, a12, a13, a14, a15, a16, a17, a18, a19, a20, a21, a22, a23, a24, a25, a26, a27, a28, a29, a30] = (Idn.is [a0, a1, a2] && (isI a3 && (Idn.is [a4, a5, a6] && (isS a7 && (Slt.isc a8 && (Typ.is [a9, a10, a11, a12, a13] && (Exr.is [a14, a15, a16, a17, a18, a19, a20, a21, a22, a23, a24, a25, a26, a27, a28] && (isI a29 && (isSs a30))))))))) := by simp only [Dfn.is]
theorem Dfn.ofs_app (a b : List (List V)) : Dfn.ofs (a ++ b) = Dfn.ofs a ++ Dfn.ofs b := by
  induction a with
  | nil => rw [Dfn.ofs_nil]; rfl
  | cons r a ih => rw [List.cons_append, Dfn.ofs_cons, Dfn.ofs_cons, ih]; rfl
theorem Dfn.iss_app (a b : List (List V)) : Dfn.iss (a ++ b) = (Dfn.iss a && Dfn.iss b) := by
  induction a with
  | nil => rw [Dfn.iss_nil]; rfl
  | cons r a ih => rw [List.cons_append, Dfn.iss_cons, Dfn.iss_cons, ih, Bool.and_assoc]
theorem Dfn.back (v : Dfn) : Dfn.of v.row = v := by
  rw [Dfn.row, Dfn.of_mk]
  simp only [← Idn.row_eq, Idn.back]
  simp only [← Typ.row_eq, Typ.back]
  simp only [← Exr.row_eq, Exr.back]
  simp only [cI_int, cS_str, cSs_sl, Slt.cell_sl, Slt.backs]
theorem Dfn.backs (l : List Dfn) : Dfn.ofs (Dfn.rows l) = l := by
  induction l with
  | nil => rfl
  | cons v r ih => rw [Dfn.rows_cons, Dfn.ofs_cons, Dfn.back v, ih]
theorem Dfn.is_row (v : Dfn) : Dfn.is v.row = true := by
  rw [Dfn.row, Dfn.is_mk]
  simp only [← Idn.row_eq, Idn.is_row]
  simp only [← Typ.row_eq, Typ.is_row]
  simp only [← Exr.row_eq, Exr.is_row]
  simp only [isI_int, isS_str, isSs_sl, Slt.isc_sl, Slt.iss_rows, Bool.and_self]
theorem Dfn.iss_rows (l : List Dfn) : Dfn.iss (Dfn.rows l) = true := by
  induction l with
  | nil => rfl
  | cons v r ih => rw [Dfn.rows_cons, Dfn.iss_cons, Dfn.is_row v, ih, Bool.and_self]
theorem Dfn.cut_id (v : Dfn) : cut 0 3 v.row = some (v.id).row := by rw [Dfn.row_eq, Idn.row_eq]; simp only [cut_succ, cut_cons, cut_zero, Option.map_some]
theorem Dfn.cut_kind (v : Dfn) : cut 3 1 v.row = some [.int .i64 v.kind] := by rw [Dfn.row_eq]; simp only [cut_succ, cut_cons, cut_zero, Option.map_some]
theorem Dfn.cut_mod (v : Dfn) : cut 4 3 v.row = some (v.mod).row := by rw [Dfn.row_eq, Idn.row_eq]; simp only [cut_succ, cut_cons, cut_zero, Option.map_some]
theorem Dfn.cut_name (v : Dfn) : cut 7 1 v.row = some [.str v.name] := by rw [Dfn.row_eq]; simp only [cut_succ, cut_cons, cut_zero, Option.map_some]
theorem Dfn.cut_slots (v : Dfn) : cut 8 1 v.row = some [.sl 11 (Slt.rows v.slots)] := by rw [Dfn.row_eq]; simp only [cut_succ, cut_cons, cut_zero, Option.map_some]
theorem Dfn.cut_result (v : Dfn) : cut 9 5 v.row = some (v.result).row := by rw [Dfn.row_eq, Typ.row_eq]; simp only [cut_succ, cut_cons, cut_zero, Option.map_some]
theorem Dfn.cut_body (v : Dfn) : cut 14 15 v.row = some (v.body).row := by rw [Dfn.row_eq, Exr.row_eq]; simp only [cut_succ, cut_cons, cut_zero, Option.map_some]
theorem Dfn.cut_place (v : Dfn) : cut 29 1 v.row = some [.int .i64 v.place] := by rw [Dfn.row_eq]; simp only [cut_succ, cut_cons, cut_zero, Option.map_some]
theorem Dfn.cut_layout (v : Dfn) : cut 30 1 v.row = some [.sl 1 (strsV v.layout)] := by rw [Dfn.row_eq]; simp only [cut_succ, cut_cons, cut_zero, Option.map_some]
structure Mdl where
  id : Idn
  name : List UInt8
  uses : List Idn
  defs : List Idn
def Mdl.z : Mdl := .mk Idn.z [] [] []
instance : Inhabited Mdl := ⟨Mdl.z⟩
theorem Mdl.id_mk (id : Idn) (name : List UInt8) (uses : List Idn) (defs : List Idn) : (Mdl.mk id name uses defs).id = id := _root_.id rfl
theorem Mdl.name_mk (id : Idn) (name : List UInt8) (uses : List Idn) (defs : List Idn) : (Mdl.mk id name uses defs).name = name := _root_.id rfl
theorem Mdl.uses_mk (id : Idn) (name : List UInt8) (uses : List Idn) (defs : List Idn) : (Mdl.mk id name uses defs).uses = uses := _root_.id rfl
theorem Mdl.defs_mk (id : Idn) (name : List UInt8) (uses : List Idn) (defs : List Idn) : (Mdl.mk id name uses defs).defs = defs := _root_.id rfl
def Mdl.row (v : Mdl) : List V := [.int .i64 v.id.shop, .int .i64 v.id.seq, .int .i64 v.id.index, .str v.name, .sl 3 (Idn.rows v.uses), .sl 3 (Idn.rows v.defs)]
def Mdl.rows : List Mdl → List (List V)
  | [] => []
  | v :: r => v.row :: Mdl.rows r
theorem Mdl.row_eq (v : Mdl) : v.row = [.int .i64 v.id.shop, .int .i64 v.id.seq, .int .i64 v.id.index, .str v.name, .sl 3 (Idn.rows v.uses), .sl 3 (Idn.rows v.defs)] := _root_.id rfl
theorem Mdl.rows_nil : Mdl.rows [] = [] := _root_.id rfl
theorem Mdl.rows_cons (v : Mdl) (r : List Mdl) : Mdl.rows (v :: r) = v.row :: Mdl.rows r := _root_.id rfl
theorem Mdl.rows_map (l : List Mdl) : Mdl.rows l = l.map Mdl.row := by
  induction l with
  | nil => rfl
  | cons a l ih => simp only [Mdl.rows_cons, List.map_cons, ih]
theorem Mdl.rows_len (l : List Mdl) : (Mdl.rows l).length = l.length := by rw [Mdl.rows_map, List.length_map]
theorem Mdl.rows_app (a b : List Mdl) : Mdl.rows a ++ Mdl.rows b = Mdl.rows (a ++ b) := by simp only [Mdl.rows_map, List.map_append]
theorem Mdl.rows_snoc (a : List Mdl) (b : Mdl) : Mdl.rows a ++ [b.row] = Mdl.rows (a ++ [b]) := by simp only [Mdl.rows_map, List.map_append, List.map_cons, List.map_nil]
theorem Mdl.rows_get (l : List Mdl) (j : Nat) (h : j < l.length) : (Mdl.rows l)[j]? = some (l.getD j Mdl.z).row := by
  rw [Mdl.rows_map, List.getElem?_map, List.getD_eq_getElem?_getD, List.getElem?_eq_getElem h]; rfl
theorem Mdl.rows_cut (l : List Mdl) (a b : Nat) : ((Mdl.rows l).drop a).take b = Mdl.rows ((l.drop a).take b) := by simp only [Mdl.rows_map, List.map_take, List.map_drop]
theorem Mdl.rows_take (l : List Mdl) (a : Nat) : (Mdl.rows l).take a = Mdl.rows (l.take a) := by simp only [Mdl.rows_map, List.map_take]
theorem Mdl.rows_drop (l : List Mdl) (a : Nat) : (Mdl.rows l).drop a = Mdl.rows (l.drop a) := by simp only [Mdl.rows_map, List.map_drop]
theorem Mdl.rows_set (l : List Mdl) (j : Nat) (v : Mdl) : (Mdl.rows l).set j v.row = Mdl.rows (l.set j v) := by simp only [Mdl.rows_map, List.map_set]
theorem Mdl.row_len (v : Mdl) : v.row.length = 6 := by rw [Mdl.row_eq]; rfl
theorem Mdl.row_stand (v : Mdl) : ∀ c ∈ v.row, stand c = true := by
  rw [Mdl.row_eq]; intro c hc
  simp only [List.mem_cons, List.not_mem_nil, or_false] at hc
  rcases hc with rfl | rfl | rfl | rfl | rfl | rfl <;> rfl
theorem Mdl.rows_stand (l : List Mdl) : ∀ r ∈ Mdl.rows l, ∀ c ∈ r, stand c = true := by
  intro r hr
  rw [Mdl.rows_map, List.mem_map] at hr
  obtain ⟨v, _, rfl⟩ := hr
  exact v.row_stand
def Mdl.of : List V → Mdl
  | [a0, a1, a2, a3, a4, a5] => .mk (Idn.of [a0, a1, a2]) (cS a3) (Idn.cell a4) (Idn.cell a5)
  | _ => Mdl.z
def Mdl.ofs : List (List V) → List Mdl
  | [] => []
  | r :: l => Mdl.of r :: Mdl.ofs l
def Mdl.cell : V → List Mdl
  | .sl _ xs => Mdl.ofs xs
  | _ => []
def Mdl.is : List V → Bool
  | [a0, a1, a2, a3, a4, a5] => Idn.is [a0, a1, a2] && (isS a3 && (Idn.isc a4 && (Idn.isc a5)))
  | _ => false
def Mdl.iss : List (List V) → Bool
  | [] => true
  | r :: l => Mdl.is r && Mdl.iss l
def Mdl.isc : V → Bool
  | .sl e xs => e == 6 && Mdl.iss xs
  | _ => false
theorem Mdl.ofs_nil : Mdl.ofs [] = [] := by simp only [Mdl.ofs]
theorem Mdl.ofs_cons (r : List V) (l : List (List V)) : Mdl.ofs (r :: l) = Mdl.of r :: Mdl.ofs l := by simp only [Mdl.ofs]
theorem Mdl.iss_nil : Mdl.iss [] = true := by simp only [Mdl.iss]
theorem Mdl.iss_cons (r : List V) (l : List (List V)) : Mdl.iss (r :: l) = (Mdl.is r && Mdl.iss l) := by simp only [Mdl.iss]
theorem Mdl.cell_sl (e : Nat) (xs : List (List V)) : Mdl.cell (.sl e xs) = Mdl.ofs xs := by simp only [Mdl.cell]
theorem Mdl.isc_sl (xs : List (List V)) : Mdl.isc (.sl 6 xs) = Mdl.iss xs := by simp only [Mdl.isc, BEq.rfl, Bool.true_and]
theorem Mdl.of_mk (a0 : V) (a1 : V) (a2 : V) (a3 : V) (a4 : V) (a5 : V) : Mdl.of [a0, a1, a2, a3, a4, a5] = .mk (Idn.of [a0, a1, a2]) (cS a3) (Idn.cell a4) (Idn.cell a5) := by simp only [Mdl.of]
theorem Mdl.is_mk (a0 : V) (a1 : V) (a2 : V) (a3 : V) (a4 : V) (a5 : V) : Mdl.is [a0, a1, a2, a3, a4, a5] = (Idn.is [a0, a1, a2] && (isS a3 && (Idn.isc a4 && (Idn.isc a5)))) := by simp only [Mdl.is]
theorem Mdl.ofs_app (a b : List (List V)) : Mdl.ofs (a ++ b) = Mdl.ofs a ++ Mdl.ofs b := by
  induction a with
  | nil => rw [Mdl.ofs_nil]; rfl
  | cons r a ih => rw [List.cons_append, Mdl.ofs_cons, Mdl.ofs_cons, ih]; rfl
theorem Mdl.iss_app (a b : List (List V)) : Mdl.iss (a ++ b) = (Mdl.iss a && Mdl.iss b) := by
  induction a with
  | nil => rw [Mdl.iss_nil]; rfl
  | cons r a ih => rw [List.cons_append, Mdl.iss_cons, Mdl.iss_cons, ih, Bool.and_assoc]
theorem Mdl.back (v : Mdl) : Mdl.of v.row = v := by
  rw [Mdl.row, Mdl.of_mk]
  simp only [← Idn.row_eq, Idn.back]
  simp only [cI_int, cS_str, cSs_sl, Idn.cell_sl, Idn.backs]
theorem Mdl.backs (l : List Mdl) : Mdl.ofs (Mdl.rows l) = l := by
  induction l with
  | nil => rfl
  | cons v r ih => rw [Mdl.rows_cons, Mdl.ofs_cons, Mdl.back v, ih]
theorem Mdl.is_row (v : Mdl) : Mdl.is v.row = true := by
  rw [Mdl.row, Mdl.is_mk]
  simp only [← Idn.row_eq, Idn.is_row]
  simp only [isI_int, isS_str, isSs_sl, Idn.isc_sl, Idn.iss_rows, Bool.and_self]
theorem Mdl.iss_rows (l : List Mdl) : Mdl.iss (Mdl.rows l) = true := by
  induction l with
  | nil => rfl
  | cons v r ih => rw [Mdl.rows_cons, Mdl.iss_cons, Mdl.is_row v, ih, Bool.and_self]
theorem Mdl.cut_id (v : Mdl) : cut 0 3 v.row = some (v.id).row := by rw [Mdl.row_eq, Idn.row_eq]; simp only [cut_succ, cut_cons, cut_zero, Option.map_some]
theorem Mdl.cut_name (v : Mdl) : cut 3 1 v.row = some [.str v.name] := by rw [Mdl.row_eq]; simp only [cut_succ, cut_cons, cut_zero, Option.map_some]
theorem Mdl.cut_uses (v : Mdl) : cut 4 1 v.row = some [.sl 3 (Idn.rows v.uses)] := by rw [Mdl.row_eq]; simp only [cut_succ, cut_cons, cut_zero, Option.map_some]
theorem Mdl.cut_defs (v : Mdl) : cut 5 1 v.row = some [.sl 3 (Idn.rows v.defs)] := by rw [Mdl.row_eq]; simp only [cut_succ, cut_cons, cut_zero, Option.map_some]
structure Prg where
  mods : List Mdl
  defs : List Dfn
def Prg.z : Prg := .mk [] []
instance : Inhabited Prg := ⟨Prg.z⟩
theorem Prg.mods_mk (mods : List Mdl) (defs : List Dfn) : (Prg.mk mods defs).mods = mods := _root_.id rfl
theorem Prg.defs_mk (mods : List Mdl) (defs : List Dfn) : (Prg.mk mods defs).defs = defs := _root_.id rfl
def Prg.row (v : Prg) : List V := [.sl 6 (Mdl.rows v.mods), .sl 31 (Dfn.rows v.defs)]
def Prg.rows : List Prg → List (List V)
  | [] => []
  | v :: r => v.row :: Prg.rows r
theorem Prg.row_eq (v : Prg) : v.row = [.sl 6 (Mdl.rows v.mods), .sl 31 (Dfn.rows v.defs)] := _root_.id rfl
theorem Prg.rows_nil : Prg.rows [] = [] := _root_.id rfl
theorem Prg.rows_cons (v : Prg) (r : List Prg) : Prg.rows (v :: r) = v.row :: Prg.rows r := _root_.id rfl
theorem Prg.rows_map (l : List Prg) : Prg.rows l = l.map Prg.row := by
  induction l with
  | nil => rfl
  | cons a l ih => simp only [Prg.rows_cons, List.map_cons, ih]
theorem Prg.rows_len (l : List Prg) : (Prg.rows l).length = l.length := by rw [Prg.rows_map, List.length_map]
theorem Prg.rows_app (a b : List Prg) : Prg.rows a ++ Prg.rows b = Prg.rows (a ++ b) := by simp only [Prg.rows_map, List.map_append]
theorem Prg.rows_snoc (a : List Prg) (b : Prg) : Prg.rows a ++ [b.row] = Prg.rows (a ++ [b]) := by simp only [Prg.rows_map, List.map_append, List.map_cons, List.map_nil]
theorem Prg.rows_get (l : List Prg) (j : Nat) (h : j < l.length) : (Prg.rows l)[j]? = some (l.getD j Prg.z).row := by
  rw [Prg.rows_map, List.getElem?_map, List.getD_eq_getElem?_getD, List.getElem?_eq_getElem h]; rfl
theorem Prg.rows_cut (l : List Prg) (a b : Nat) : ((Prg.rows l).drop a).take b = Prg.rows ((l.drop a).take b) := by simp only [Prg.rows_map, List.map_take, List.map_drop]
theorem Prg.rows_take (l : List Prg) (a : Nat) : (Prg.rows l).take a = Prg.rows (l.take a) := by simp only [Prg.rows_map, List.map_take]
theorem Prg.rows_drop (l : List Prg) (a : Nat) : (Prg.rows l).drop a = Prg.rows (l.drop a) := by simp only [Prg.rows_map, List.map_drop]
theorem Prg.rows_set (l : List Prg) (j : Nat) (v : Prg) : (Prg.rows l).set j v.row = Prg.rows (l.set j v) := by simp only [Prg.rows_map, List.map_set]
theorem Prg.row_len (v : Prg) : v.row.length = 2 := by rw [Prg.row_eq]; rfl
theorem Prg.row_stand (v : Prg) : ∀ c ∈ v.row, stand c = true := by
  rw [Prg.row_eq]; intro c hc
  simp only [List.mem_cons, List.not_mem_nil, or_false] at hc
  rcases hc with rfl | rfl <;> rfl
theorem Prg.rows_stand (l : List Prg) : ∀ r ∈ Prg.rows l, ∀ c ∈ r, stand c = true := by
  intro r hr
  rw [Prg.rows_map, List.mem_map] at hr
  obtain ⟨v, _, rfl⟩ := hr
  exact v.row_stand
def Prg.of : List V → Prg
  | [a0, a1] => .mk (Mdl.cell a0) (Dfn.cell a1)
  | _ => Prg.z
def Prg.ofs : List (List V) → List Prg
  | [] => []
  | r :: l => Prg.of r :: Prg.ofs l
def Prg.cell : V → List Prg
  | .sl _ xs => Prg.ofs xs
  | _ => []
def Prg.is : List V → Bool
  | [a0, a1] => Mdl.isc a0 && (Dfn.isc a1)
  | _ => false
def Prg.iss : List (List V) → Bool
  | [] => true
  | r :: l => Prg.is r && Prg.iss l
def Prg.isc : V → Bool
  | .sl e xs => e == 2 && Prg.iss xs
  | _ => false
theorem Prg.ofs_nil : Prg.ofs [] = [] := by simp only [Prg.ofs]
theorem Prg.ofs_cons (r : List V) (l : List (List V)) : Prg.ofs (r :: l) = Prg.of r :: Prg.ofs l := by simp only [Prg.ofs]
theorem Prg.iss_nil : Prg.iss [] = true := by simp only [Prg.iss]
theorem Prg.iss_cons (r : List V) (l : List (List V)) : Prg.iss (r :: l) = (Prg.is r && Prg.iss l) := by simp only [Prg.iss]
theorem Prg.cell_sl (e : Nat) (xs : List (List V)) : Prg.cell (.sl e xs) = Prg.ofs xs := by simp only [Prg.cell]
theorem Prg.isc_sl (xs : List (List V)) : Prg.isc (.sl 2 xs) = Prg.iss xs := by simp only [Prg.isc, BEq.rfl, Bool.true_and]
theorem Prg.of_mk (a0 : V) (a1 : V) : Prg.of [a0, a1] = .mk (Mdl.cell a0) (Dfn.cell a1) := by simp only [Prg.of]
theorem Prg.is_mk (a0 : V) (a1 : V) : Prg.is [a0, a1] = (Mdl.isc a0 && (Dfn.isc a1)) := by simp only [Prg.is]
theorem Prg.ofs_app (a b : List (List V)) : Prg.ofs (a ++ b) = Prg.ofs a ++ Prg.ofs b := by
  induction a with
  | nil => rw [Prg.ofs_nil]; rfl
  | cons r a ih => rw [List.cons_append, Prg.ofs_cons, Prg.ofs_cons, ih]; rfl
theorem Prg.iss_app (a b : List (List V)) : Prg.iss (a ++ b) = (Prg.iss a && Prg.iss b) := by
  induction a with
  | nil => rw [Prg.iss_nil]; rfl
  | cons r a ih => rw [List.cons_append, Prg.iss_cons, Prg.iss_cons, ih, Bool.and_assoc]
theorem Prg.back (v : Prg) : Prg.of v.row = v := by
  rw [Prg.row, Prg.of_mk]
  simp only [cI_int, cS_str, cSs_sl, Mdl.cell_sl, Mdl.backs, Dfn.cell_sl, Dfn.backs]
theorem Prg.backs (l : List Prg) : Prg.ofs (Prg.rows l) = l := by
  induction l with
  | nil => rfl
  | cons v r ih => rw [Prg.rows_cons, Prg.ofs_cons, Prg.back v, ih]
theorem Prg.is_row (v : Prg) : Prg.is v.row = true := by
  rw [Prg.row, Prg.is_mk]
  simp only [isI_int, isS_str, isSs_sl, Mdl.isc_sl, Mdl.iss_rows, Dfn.isc_sl, Dfn.iss_rows, Bool.and_self]
theorem Prg.iss_rows (l : List Prg) : Prg.iss (Prg.rows l) = true := by
  induction l with
  | nil => rfl
  | cons v r ih => rw [Prg.rows_cons, Prg.iss_cons, Prg.is_row v, ih, Bool.and_self]
theorem Prg.cut_mods (v : Prg) : cut 0 1 v.row = some [.sl 6 (Mdl.rows v.mods)] := by rw [Prg.row_eq]; simp only [cut_succ, cut_cons, cut_zero, Option.map_some]
theorem Prg.cut_defs (v : Prg) : cut 1 1 v.row = some [.sl 31 (Dfn.rows v.defs)] := by rw [Prg.row_eq]; simp only [cut_succ, cut_cons, cut_zero, Option.map_some]
theorem Idn.cut_row (v : Idn) : cut 0 3 v.row = some v.row := cut_all 3 _ v.row_len
theorem Idn.spl_row (v : Idn) (cs : List V) (h : cs.length = 3) : splice 0 v.row cs = some v.row := splice_all _ _ (by rw [v.row_len, h])
theorem Idn.fr {o : Hp} {k : Nat} (v : Idn) : frz o (k + 2) (.agg v.row) = some (.agg v.row, []) := frz_agg_stand v.row_stand
theorem Idn.sqr {o : Hp} {k : Nat} (v : Idn) : seqM (frz o (k + 1)) v.row = some (v.row, []) := seqM_same fun c hc => frz_stand (v.row_stand c hc)
theorem Idn.fm {o : Hp} {k : Nat} (v : Idn) : v.row.flatMap (looks o k) = [] := flat_looks k _ v.row_stand
theorem Idn.lk {o : Hp} {k : Nat} (v : Idn) : looks o k (.agg v.row) = [] := looks_agg_stand v.row_stand
theorem Idn.sq {o : Hp} {k : Nat} (l : List Idn) : seqM (seqM (frz o (k + 1))) (Idn.rows l) = some (Idn.rows l, []) := sq_stand (Idn.rows_stand l)
theorem Idn.lkv {o : Hp} {k i q : Nat} (l : List Idn) : lkv k i o (.vec q (Idn.rows l)) = [i] := lkv_stand i q _ (Idn.rows_stand l)
theorem Idn.rsv {o : Hp} {N i len : Nat} (l : List Idn) (hN : N ≤ i) (hl : len = l.length) : rsv o N i len (.vec 3 (Idn.rows l)) = some (.own 3 (Idn.rows l), [(i, .vec 3 (Idn.rows l))]) := rsv_stand N i len 3 _ hN (by rw [Idn.rows_len, hl]) (Idn.rows_stand l)
theorem Idn.finRow {o : Hp} {N j : Nat} (l : List Idn) (h : RowOK o 3 j (Idn.rows l)) (hN : N ≤ j) : finR (Am.result o N (rowV 3 j (Idn.rows l))) = some (ownV 3 (Idn.rows l)) := finR_row h hN (Idn.rows_stand l)
theorem Idn.frRow {o : Hp} {k j : Nat} (l : List Idn) (h : RowOK o 3 j (Idn.rows l)) : frz o (k + 2) (rowV 3 j (Idn.rows l)) = some (.sl 3 (Idn.rows l), if Idn.rows l = [] then [] else [(j, .fvec 3 (Idn.rows l))]) := fr_row h (Idn.rows_stand l)
theorem Idn.nrm (v : Idn) : nrmL v.row = some v.row := by rw [Idn.row_eq]; rfl
theorem Idn.lkRow {o : Hp} {k j : Nat} (l : List Idn) (h : RowOK o 3 j (Idn.rows l)) : looks o (k + 1) (rowV 3 j (Idn.rows l)) = rowR j (Idn.rows l) := lk_row k 3 j _ h (Idn.rows_stand l)
theorem Idn.rfC {k : Nat} (v : Idn) : refsC (k + 1) v.row = some [] := refsC_stand v.row_stand
theorem Idn.flat (l : List Idn) : (Idn.rows l).all (·.all flat) = true := by
  rw [Idn.rows_map, List.all_map, List.all_eq_true]
  intro v _
  simp only [Function.comp, Idn.row_eq]
  rfl
theorem Idn.spl_shop (v : Idn) (x : Int) : splice 0 [.int .i64 x] v.row = some (Idn.mk x v.seq v.index).row := by rw [Idn.row_eq, Idn.row_eq]; simp only [splice_succ, splice_cons, splice_nil, Option.map_some, Idn.shop_mk, Idn.seq_mk, Idn.index_mk]
theorem Idn.spl_seq (v : Idn) (x : Int) : splice 1 [.int .i64 x] v.row = some (Idn.mk v.shop x v.index).row := by rw [Idn.row_eq, Idn.row_eq]; simp only [splice_succ, splice_cons, splice_nil, Option.map_some, Idn.shop_mk, Idn.seq_mk, Idn.index_mk]
theorem Idn.spl_index (v : Idn) (x : Int) : splice 2 [.int .i64 x] v.row = some (Idn.mk v.shop v.seq x).row := by rw [Idn.row_eq, Idn.row_eq]; simp only [splice_succ, splice_cons, splice_nil, Option.map_some, Idn.shop_mk, Idn.seq_mk, Idn.index_mk]
theorem Val.cut_row (v : Val) : cut 0 3 v.row = some v.row := cut_all 3 _ v.row_len
theorem Val.spl_row (v : Val) (cs : List V) (h : cs.length = 3) : splice 0 v.row cs = some v.row := splice_all _ _ (by rw [v.row_len, h])
theorem Val.fr {o : Hp} {k : Nat} (v : Val) : frz o (k + 2) (.agg v.row) = some (.agg v.row, []) := frz_agg_stand v.row_stand
theorem Val.sqr {o : Hp} {k : Nat} (v : Val) : seqM (frz o (k + 1)) v.row = some (v.row, []) := seqM_same fun c hc => frz_stand (v.row_stand c hc)
theorem Val.fm {o : Hp} {k : Nat} (v : Val) : v.row.flatMap (looks o k) = [] := flat_looks k _ v.row_stand
theorem Val.lk {o : Hp} {k : Nat} (v : Val) : looks o k (.agg v.row) = [] := looks_agg_stand v.row_stand
theorem Val.sq {o : Hp} {k : Nat} (l : List Val) : seqM (seqM (frz o (k + 1))) (Val.rows l) = some (Val.rows l, []) := sq_stand (Val.rows_stand l)
theorem Val.lkv {o : Hp} {k i q : Nat} (l : List Val) : lkv k i o (.vec q (Val.rows l)) = [i] := lkv_stand i q _ (Val.rows_stand l)
theorem Val.rsv {o : Hp} {N i len : Nat} (l : List Val) (hN : N ≤ i) (hl : len = l.length) : rsv o N i len (.vec 3 (Val.rows l)) = some (.own 3 (Val.rows l), [(i, .vec 3 (Val.rows l))]) := rsv_stand N i len 3 _ hN (by rw [Val.rows_len, hl]) (Val.rows_stand l)
theorem Val.finRow {o : Hp} {N j : Nat} (l : List Val) (h : RowOK o 3 j (Val.rows l)) (hN : N ≤ j) : finR (Am.result o N (rowV 3 j (Val.rows l))) = some (ownV 3 (Val.rows l)) := finR_row h hN (Val.rows_stand l)
theorem Val.frRow {o : Hp} {k j : Nat} (l : List Val) (h : RowOK o 3 j (Val.rows l)) : frz o (k + 2) (rowV 3 j (Val.rows l)) = some (.sl 3 (Val.rows l), if Val.rows l = [] then [] else [(j, .fvec 3 (Val.rows l))]) := fr_row h (Val.rows_stand l)
theorem Val.nrm (v : Val) : nrmL v.row = some v.row := by rw [Val.row_eq]; rfl
theorem Val.lkRow {o : Hp} {k j : Nat} (l : List Val) (h : RowOK o 3 j (Val.rows l)) : looks o (k + 1) (rowV 3 j (Val.rows l)) = rowR j (Val.rows l) := lk_row k 3 j _ h (Val.rows_stand l)
theorem Val.rfC {k : Nat} (v : Val) : refsC (k + 1) v.row = some [] := refsC_stand v.row_stand
theorem Val.flat (l : List Val) : (Val.rows l).all (·.all flat) = true := by
  rw [Val.rows_map, List.all_map, List.all_eq_true]
  intro v _
  simp only [Function.comp, Val.row_eq]
  rfl
theorem Val.spl_kind (v : Val) (x : Int) : splice 0 [.int .i64 x] v.row = some (Val.mk x v.n v.kids).row := by rw [Val.row_eq, Val.row_eq]; simp only [splice_succ, splice_cons, splice_nil, Option.map_some, Val.kind_mk, Val.n_mk, Val.kids_mk]
theorem Val.spl_n (v : Val) (x : Int) : splice 1 [.int .i64 x] v.row = some (Val.mk v.kind x v.kids).row := by rw [Val.row_eq, Val.row_eq]; simp only [splice_succ, splice_cons, splice_nil, Option.map_some, Val.kind_mk, Val.n_mk, Val.kids_mk]
theorem Val.spl_kids (v : Val) (x : List Val) : splice 2 [.sl 3 (Val.rows x)] v.row = some (Val.mk v.kind v.n x).row := by rw [Val.row_eq, Val.row_eq]; simp only [splice_succ, splice_cons, splice_nil, Option.map_some, Val.kind_mk, Val.n_mk, Val.kids_mk]
theorem Val.spl_kids_vsl (v : Val) (a b c : Nat) : splice 2 [.vsl a b c] v.row = some [.int .i64 v.kind, .int .i64 v.n, .vsl a b c] := by rw [Val.row_eq]; simp only [splice_succ, splice_cons, splice_nil, Option.map_some]
theorem Val.spl_kids_nils (v : Val) (a : Nat) : splice 2 [.nils a] v.row = some [.int .i64 v.kind, .int .i64 v.n, .nils a] := by rw [Val.row_eq]; simp only [splice_succ, splice_cons, splice_nil, Option.map_some]
theorem Val.spl_kids_rowV (v : Val) (a b : Nat) (xs : List (List V)) : splice 2 [rowV a b xs] v.row = some [.int .i64 v.kind, .int .i64 v.n, rowV a b xs] := by rw [Val.row_eq]; simp only [splice_succ, splice_cons, splice_nil, Option.map_some]
theorem Typ.cut_row (v : Typ) : cut 0 5 v.row = some v.row := cut_all 5 _ v.row_len
theorem Typ.spl_row (v : Typ) (cs : List V) (h : cs.length = 5) : splice 0 v.row cs = some v.row := splice_all _ _ (by rw [v.row_len, h])
theorem Typ.fr {o : Hp} {k : Nat} (v : Typ) : frz o (k + 2) (.agg v.row) = some (.agg v.row, []) := frz_agg_stand v.row_stand
theorem Typ.sqr {o : Hp} {k : Nat} (v : Typ) : seqM (frz o (k + 1)) v.row = some (v.row, []) := seqM_same fun c hc => frz_stand (v.row_stand c hc)
theorem Typ.fm {o : Hp} {k : Nat} (v : Typ) : v.row.flatMap (looks o k) = [] := flat_looks k _ v.row_stand
theorem Typ.lk {o : Hp} {k : Nat} (v : Typ) : looks o k (.agg v.row) = [] := looks_agg_stand v.row_stand
theorem Typ.sq {o : Hp} {k : Nat} (l : List Typ) : seqM (seqM (frz o (k + 1))) (Typ.rows l) = some (Typ.rows l, []) := sq_stand (Typ.rows_stand l)
theorem Typ.lkv {o : Hp} {k i q : Nat} (l : List Typ) : lkv k i o (.vec q (Typ.rows l)) = [i] := lkv_stand i q _ (Typ.rows_stand l)
theorem Typ.rsv {o : Hp} {N i len : Nat} (l : List Typ) (hN : N ≤ i) (hl : len = l.length) : rsv o N i len (.vec 5 (Typ.rows l)) = some (.own 5 (Typ.rows l), [(i, .vec 5 (Typ.rows l))]) := rsv_stand N i len 5 _ hN (by rw [Typ.rows_len, hl]) (Typ.rows_stand l)
theorem Typ.finRow {o : Hp} {N j : Nat} (l : List Typ) (h : RowOK o 5 j (Typ.rows l)) (hN : N ≤ j) : finR (Am.result o N (rowV 5 j (Typ.rows l))) = some (ownV 5 (Typ.rows l)) := finR_row h hN (Typ.rows_stand l)
theorem Typ.frRow {o : Hp} {k j : Nat} (l : List Typ) (h : RowOK o 5 j (Typ.rows l)) : frz o (k + 2) (rowV 5 j (Typ.rows l)) = some (.sl 5 (Typ.rows l), if Typ.rows l = [] then [] else [(j, .fvec 5 (Typ.rows l))]) := fr_row h (Typ.rows_stand l)
theorem Typ.nrm (v : Typ) : nrmL v.row = some v.row := by rw [Typ.row_eq]; rfl
theorem Typ.lkRow {o : Hp} {k j : Nat} (l : List Typ) (h : RowOK o 5 j (Typ.rows l)) : looks o (k + 1) (rowV 5 j (Typ.rows l)) = rowR j (Typ.rows l) := lk_row k 5 j _ h (Typ.rows_stand l)
theorem Typ.rfC {k : Nat} (v : Typ) : refsC (k + 1) v.row = some [] := refsC_stand v.row_stand
theorem Typ.flat (l : List Typ) : (Typ.rows l).all (·.all flat) = true := by
  rw [Typ.rows_map, List.all_map, List.all_eq_true]
  intro v _
  simp only [Function.comp, Typ.row_eq]
  rfl
theorem Typ.spl_kind (v : Typ) (x : Int) : splice 0 [.int .i64 x] v.row = some (Typ.mk x v.ref v.kids).row := by rw [Typ.row_eq, Typ.row_eq]; simp only [splice_succ, splice_cons, splice_nil, Option.map_some, Typ.kind_mk, Typ.ref_mk, Typ.kids_mk]
theorem Typ.spl_ref (v : Typ) (x : Idn) : splice 1 x.row v.row = some (Typ.mk v.kind x v.kids).row := by rw [Idn.row_eq, Typ.row_eq, Typ.row_eq]; simp only [splice_succ, splice_cons, splice_nil, Option.map_some, Typ.kind_mk, Typ.ref_mk, Typ.kids_mk]
theorem Typ.spl_kids (v : Typ) (x : List Typ) : splice 4 [.sl 5 (Typ.rows x)] v.row = some (Typ.mk v.kind v.ref x).row := by rw [Typ.row_eq, Typ.row_eq]; simp only [splice_succ, splice_cons, splice_nil, Option.map_some, Typ.kind_mk, Typ.ref_mk, Typ.kids_mk]
theorem Typ.spl_kids_vsl (v : Typ) (a b c : Nat) : splice 4 [.vsl a b c] v.row = some [.int .i64 v.kind, .int .i64 v.ref.shop, .int .i64 v.ref.seq, .int .i64 v.ref.index, .vsl a b c] := by rw [Typ.row_eq]; simp only [splice_succ, splice_cons, splice_nil, Option.map_some]
theorem Typ.spl_kids_nils (v : Typ) (a : Nat) : splice 4 [.nils a] v.row = some [.int .i64 v.kind, .int .i64 v.ref.shop, .int .i64 v.ref.seq, .int .i64 v.ref.index, .nils a] := by rw [Typ.row_eq]; simp only [splice_succ, splice_cons, splice_nil, Option.map_some]
theorem Typ.spl_kids_rowV (v : Typ) (a b : Nat) (xs : List (List V)) : splice 4 [rowV a b xs] v.row = some [.int .i64 v.kind, .int .i64 v.ref.shop, .int .i64 v.ref.seq, .int .i64 v.ref.index, rowV a b xs] := by rw [Typ.row_eq]; simp only [splice_succ, splice_cons, splice_nil, Option.map_some]
theorem Slt.cut_row (v : Slt) : cut 0 11 v.row = some v.row := cut_all 11 _ v.row_len
theorem Slt.spl_row (v : Slt) (cs : List V) (h : cs.length = 11) : splice 0 v.row cs = some v.row := splice_all _ _ (by rw [v.row_len, h])
theorem Slt.fr {o : Hp} {k : Nat} (v : Slt) : frz o (k + 2) (.agg v.row) = some (.agg v.row, []) := frz_agg_stand v.row_stand
theorem Slt.sqr {o : Hp} {k : Nat} (v : Slt) : seqM (frz o (k + 1)) v.row = some (v.row, []) := seqM_same fun c hc => frz_stand (v.row_stand c hc)
theorem Slt.fm {o : Hp} {k : Nat} (v : Slt) : v.row.flatMap (looks o k) = [] := flat_looks k _ v.row_stand
theorem Slt.lk {o : Hp} {k : Nat} (v : Slt) : looks o k (.agg v.row) = [] := looks_agg_stand v.row_stand
theorem Slt.sq {o : Hp} {k : Nat} (l : List Slt) : seqM (seqM (frz o (k + 1))) (Slt.rows l) = some (Slt.rows l, []) := sq_stand (Slt.rows_stand l)
theorem Slt.lkv {o : Hp} {k i q : Nat} (l : List Slt) : lkv k i o (.vec q (Slt.rows l)) = [i] := lkv_stand i q _ (Slt.rows_stand l)
theorem Slt.rsv {o : Hp} {N i len : Nat} (l : List Slt) (hN : N ≤ i) (hl : len = l.length) : rsv o N i len (.vec 11 (Slt.rows l)) = some (.own 11 (Slt.rows l), [(i, .vec 11 (Slt.rows l))]) := rsv_stand N i len 11 _ hN (by rw [Slt.rows_len, hl]) (Slt.rows_stand l)
theorem Slt.finRow {o : Hp} {N j : Nat} (l : List Slt) (h : RowOK o 11 j (Slt.rows l)) (hN : N ≤ j) : finR (Am.result o N (rowV 11 j (Slt.rows l))) = some (ownV 11 (Slt.rows l)) := finR_row h hN (Slt.rows_stand l)
theorem Slt.frRow {o : Hp} {k j : Nat} (l : List Slt) (h : RowOK o 11 j (Slt.rows l)) : frz o (k + 2) (rowV 11 j (Slt.rows l)) = some (.sl 11 (Slt.rows l), if Slt.rows l = [] then [] else [(j, .fvec 11 (Slt.rows l))]) := fr_row h (Slt.rows_stand l)
theorem Slt.nrm (v : Slt) : nrmL v.row = some v.row := by rw [Slt.row_eq]; rfl
theorem Slt.lkRow {o : Hp} {k j : Nat} (l : List Slt) (h : RowOK o 11 j (Slt.rows l)) : looks o (k + 1) (rowV 11 j (Slt.rows l)) = rowR j (Slt.rows l) := lk_row k 11 j _ h (Slt.rows_stand l)
theorem Slt.rfC {k : Nat} (v : Slt) : refsC (k + 1) v.row = some [] := refsC_stand v.row_stand
theorem Slt.flat (l : List Slt) : (Slt.rows l).all (·.all flat) = true := by
  rw [Slt.rows_map, List.all_map, List.all_eq_true]
  intro v _
  simp only [Function.comp, Slt.row_eq]
  rfl
theorem Slt.spl_id (v : Slt) (x : Idn) : splice 0 x.row v.row = some (Slt.mk x v.name v.ty v.most v.place).row := by rw [Idn.row_eq, Slt.row_eq, Slt.row_eq]; simp only [splice_succ, splice_cons, splice_nil, Option.map_some, Slt.id_mk, Slt.name_mk, Slt.ty_mk, Slt.most_mk, Slt.place_mk]
theorem Slt.spl_name (v : Slt) (x : List UInt8) : splice 3 [.str x] v.row = some (Slt.mk v.id x v.ty v.most v.place).row := by rw [Slt.row_eq, Slt.row_eq]; simp only [splice_succ, splice_cons, splice_nil, Option.map_some, Slt.id_mk, Slt.name_mk, Slt.ty_mk, Slt.most_mk, Slt.place_mk]
theorem Slt.spl_ty (v : Slt) (x : Typ) : splice 4 x.row v.row = some (Slt.mk v.id v.name x v.most v.place).row := by rw [Typ.row_eq, Slt.row_eq, Slt.row_eq]; simp only [splice_succ, splice_cons, splice_nil, Option.map_some, Slt.id_mk, Slt.name_mk, Slt.ty_mk, Slt.most_mk, Slt.place_mk]
theorem Slt.spl_most (v : Slt) (x : Int) : splice 9 [.int .i64 x] v.row = some (Slt.mk v.id v.name v.ty x v.place).row := by rw [Slt.row_eq, Slt.row_eq]; simp only [splice_succ, splice_cons, splice_nil, Option.map_some, Slt.id_mk, Slt.name_mk, Slt.ty_mk, Slt.most_mk, Slt.place_mk]
theorem Slt.spl_place (v : Slt) (x : Int) : splice 10 [.int .i64 x] v.row = some (Slt.mk v.id v.name v.ty v.most x).row := by rw [Slt.row_eq, Slt.row_eq]; simp only [splice_succ, splice_cons, splice_nil, Option.map_some, Slt.id_mk, Slt.name_mk, Slt.ty_mk, Slt.most_mk, Slt.place_mk]
theorem Exr.cut_row (v : Exr) : cut 0 15 v.row = some v.row := cut_all 15 _ v.row_len
theorem Exr.spl_row (v : Exr) (cs : List V) (h : cs.length = 15) : splice 0 v.row cs = some v.row := splice_all _ _ (by rw [v.row_len, h])
theorem Exr.fr {o : Hp} {k : Nat} (v : Exr) : frz o (k + 2) (.agg v.row) = some (.agg v.row, []) := frz_agg_stand v.row_stand
theorem Exr.sqr {o : Hp} {k : Nat} (v : Exr) : seqM (frz o (k + 1)) v.row = some (v.row, []) := seqM_same fun c hc => frz_stand (v.row_stand c hc)
theorem Exr.fm {o : Hp} {k : Nat} (v : Exr) : v.row.flatMap (looks o k) = [] := flat_looks k _ v.row_stand
theorem Exr.lk {o : Hp} {k : Nat} (v : Exr) : looks o k (.agg v.row) = [] := looks_agg_stand v.row_stand
theorem Exr.sq {o : Hp} {k : Nat} (l : List Exr) : seqM (seqM (frz o (k + 1))) (Exr.rows l) = some (Exr.rows l, []) := sq_stand (Exr.rows_stand l)
theorem Exr.lkv {o : Hp} {k i q : Nat} (l : List Exr) : lkv k i o (.vec q (Exr.rows l)) = [i] := lkv_stand i q _ (Exr.rows_stand l)
theorem Exr.rsv {o : Hp} {N i len : Nat} (l : List Exr) (hN : N ≤ i) (hl : len = l.length) : rsv o N i len (.vec 15 (Exr.rows l)) = some (.own 15 (Exr.rows l), [(i, .vec 15 (Exr.rows l))]) := rsv_stand N i len 15 _ hN (by rw [Exr.rows_len, hl]) (Exr.rows_stand l)
theorem Exr.finRow {o : Hp} {N j : Nat} (l : List Exr) (h : RowOK o 15 j (Exr.rows l)) (hN : N ≤ j) : finR (Am.result o N (rowV 15 j (Exr.rows l))) = some (ownV 15 (Exr.rows l)) := finR_row h hN (Exr.rows_stand l)
theorem Exr.frRow {o : Hp} {k j : Nat} (l : List Exr) (h : RowOK o 15 j (Exr.rows l)) : frz o (k + 2) (rowV 15 j (Exr.rows l)) = some (.sl 15 (Exr.rows l), if Exr.rows l = [] then [] else [(j, .fvec 15 (Exr.rows l))]) := fr_row h (Exr.rows_stand l)
theorem Exr.nrm (v : Exr) : nrmL v.row = some v.row := by rw [Exr.row_eq]; rfl
theorem Exr.lkRow {o : Hp} {k j : Nat} (l : List Exr) (h : RowOK o 15 j (Exr.rows l)) : looks o (k + 1) (rowV 15 j (Exr.rows l)) = rowR j (Exr.rows l) := lk_row k 15 j _ h (Exr.rows_stand l)
theorem Exr.rfC {k : Nat} (v : Exr) : refsC (k + 1) v.row = some [] := refsC_stand v.row_stand
theorem Exr.flat (l : List Exr) : (Exr.rows l).all (·.all flat) = true := by
  rw [Exr.rows_map, List.all_map, List.all_eq_true]
  intro v _
  simp only [Function.comp, Exr.row_eq]
  rfl
theorem Exr.spl_id (v : Exr) (x : Idn) : splice 0 x.row v.row = some (Exr.mk x v.kind v.n v.ref v.ty v.kids v.names).row := by rw [Idn.row_eq, Exr.row_eq, Exr.row_eq]; simp only [splice_succ, splice_cons, splice_nil, Option.map_some, Exr.id_mk, Exr.kind_mk, Exr.n_mk, Exr.ref_mk, Exr.ty_mk, Exr.kids_mk, Exr.names_mk]
theorem Exr.spl_kind (v : Exr) (x : Int) : splice 3 [.int .i64 x] v.row = some (Exr.mk v.id x v.n v.ref v.ty v.kids v.names).row := by rw [Exr.row_eq, Exr.row_eq]; simp only [splice_succ, splice_cons, splice_nil, Option.map_some, Exr.id_mk, Exr.kind_mk, Exr.n_mk, Exr.ref_mk, Exr.ty_mk, Exr.kids_mk, Exr.names_mk]
theorem Exr.spl_n (v : Exr) (x : Int) : splice 4 [.int .i64 x] v.row = some (Exr.mk v.id v.kind x v.ref v.ty v.kids v.names).row := by rw [Exr.row_eq, Exr.row_eq]; simp only [splice_succ, splice_cons, splice_nil, Option.map_some, Exr.id_mk, Exr.kind_mk, Exr.n_mk, Exr.ref_mk, Exr.ty_mk, Exr.kids_mk, Exr.names_mk]
theorem Exr.spl_ref (v : Exr) (x : Idn) : splice 5 x.row v.row = some (Exr.mk v.id v.kind v.n x v.ty v.kids v.names).row := by rw [Idn.row_eq, Exr.row_eq, Exr.row_eq]; simp only [splice_succ, splice_cons, splice_nil, Option.map_some, Exr.id_mk, Exr.kind_mk, Exr.n_mk, Exr.ref_mk, Exr.ty_mk, Exr.kids_mk, Exr.names_mk]
theorem Exr.spl_ty (v : Exr) (x : Typ) : splice 8 x.row v.row = some (Exr.mk v.id v.kind v.n v.ref x v.kids v.names).row := by rw [Typ.row_eq, Exr.row_eq, Exr.row_eq]; simp only [splice_succ, splice_cons, splice_nil, Option.map_some, Exr.id_mk, Exr.kind_mk, Exr.n_mk, Exr.ref_mk, Exr.ty_mk, Exr.kids_mk, Exr.names_mk]
theorem Exr.spl_kids (v : Exr) (x : List Exr) : splice 13 [.sl 15 (Exr.rows x)] v.row = some (Exr.mk v.id v.kind v.n v.ref v.ty x v.names).row := by rw [Exr.row_eq, Exr.row_eq]; simp only [splice_succ, splice_cons, splice_nil, Option.map_some, Exr.id_mk, Exr.kind_mk, Exr.n_mk, Exr.ref_mk, Exr.ty_mk, Exr.kids_mk, Exr.names_mk]
theorem Exr.spl_kids_vsl (v : Exr) (a b c : Nat) : splice 13 [.vsl a b c] v.row = some [.int .i64 v.id.shop, .int .i64 v.id.seq, .int .i64 v.id.index, .int .i64 v.kind, .int .i64 v.n, .int .i64 v.ref.shop, .int .i64 v.ref.seq, .int .i64 v.ref.index, .int .i64 v.ty.kind, .int .i64 v.ty.ref.shop, .int .i64 v.ty.ref.seq, .int .i64 v.ty.ref.index, .sl 5 (Typ.rows v.ty.kids), .vsl a b c, .sl 1 (strsV v.names)] := by rw [Exr.row_eq]; simp only [splice_succ, splice_cons, splice_nil, Option.map_some]
theorem Exr.spl_kids_nils (v : Exr) (a : Nat) : splice 13 [.nils a] v.row = some [.int .i64 v.id.shop, .int .i64 v.id.seq, .int .i64 v.id.index, .int .i64 v.kind, .int .i64 v.n, .int .i64 v.ref.shop, .int .i64 v.ref.seq, .int .i64 v.ref.index, .int .i64 v.ty.kind, .int .i64 v.ty.ref.shop, .int .i64 v.ty.ref.seq, .int .i64 v.ty.ref.index, .sl 5 (Typ.rows v.ty.kids), .nils a, .sl 1 (strsV v.names)] := by rw [Exr.row_eq]; simp only [splice_succ, splice_cons, splice_nil, Option.map_some]
theorem Exr.spl_kids_rowV (v : Exr) (a b : Nat) (xs : List (List V)) : splice 13 [rowV a b xs] v.row = some [.int .i64 v.id.shop, .int .i64 v.id.seq, .int .i64 v.id.index, .int .i64 v.kind, .int .i64 v.n, .int .i64 v.ref.shop, .int .i64 v.ref.seq, .int .i64 v.ref.index, .int .i64 v.ty.kind, .int .i64 v.ty.ref.shop, .int .i64 v.ty.ref.seq, .int .i64 v.ty.ref.index, .sl 5 (Typ.rows v.ty.kids), rowV a b xs, .sl 1 (strsV v.names)] := by rw [Exr.row_eq]; simp only [splice_succ, splice_cons, splice_nil, Option.map_some]
theorem Exr.spl_names (v : Exr) (x : List (List UInt8)) : splice 14 [.sl 1 (strsV x)] v.row = some (Exr.mk v.id v.kind v.n v.ref v.ty v.kids x).row := by rw [Exr.row_eq, Exr.row_eq]; simp only [splice_succ, splice_cons, splice_nil, Option.map_some, Exr.id_mk, Exr.kind_mk, Exr.n_mk, Exr.ref_mk, Exr.ty_mk, Exr.kids_mk, Exr.names_mk]
theorem Exr.spl_names_vsl (v : Exr) (a b c : Nat) : splice 14 [.vsl a b c] v.row = some [.int .i64 v.id.shop, .int .i64 v.id.seq, .int .i64 v.id.index, .int .i64 v.kind, .int .i64 v.n, .int .i64 v.ref.shop, .int .i64 v.ref.seq, .int .i64 v.ref.index, .int .i64 v.ty.kind, .int .i64 v.ty.ref.shop, .int .i64 v.ty.ref.seq, .int .i64 v.ty.ref.index, .sl 5 (Typ.rows v.ty.kids), .sl 15 (Exr.rows v.kids), .vsl a b c] := by rw [Exr.row_eq]; simp only [splice_succ, splice_cons, splice_nil, Option.map_some]
theorem Exr.spl_names_nils (v : Exr) (a : Nat) : splice 14 [.nils a] v.row = some [.int .i64 v.id.shop, .int .i64 v.id.seq, .int .i64 v.id.index, .int .i64 v.kind, .int .i64 v.n, .int .i64 v.ref.shop, .int .i64 v.ref.seq, .int .i64 v.ref.index, .int .i64 v.ty.kind, .int .i64 v.ty.ref.shop, .int .i64 v.ty.ref.seq, .int .i64 v.ty.ref.index, .sl 5 (Typ.rows v.ty.kids), .sl 15 (Exr.rows v.kids), .nils a] := by rw [Exr.row_eq]; simp only [splice_succ, splice_cons, splice_nil, Option.map_some]
theorem Exr.spl_names_rowV (v : Exr) (a b : Nat) (xs : List (List V)) : splice 14 [rowV a b xs] v.row = some [.int .i64 v.id.shop, .int .i64 v.id.seq, .int .i64 v.id.index, .int .i64 v.kind, .int .i64 v.n, .int .i64 v.ref.shop, .int .i64 v.ref.seq, .int .i64 v.ref.index, .int .i64 v.ty.kind, .int .i64 v.ty.ref.shop, .int .i64 v.ty.ref.seq, .int .i64 v.ty.ref.index, .sl 5 (Typ.rows v.ty.kids), .sl 15 (Exr.rows v.kids), rowV a b xs] := by rw [Exr.row_eq]; simp only [splice_succ, splice_cons, splice_nil, Option.map_some]
theorem Dfn.cut_row (v : Dfn) : cut 0 31 v.row = some v.row := cut_all 31 _ v.row_len
theorem Dfn.spl_row (v : Dfn) (cs : List V) (h : cs.length = 31) : splice 0 v.row cs = some v.row := splice_all _ _ (by rw [v.row_len, h])
theorem Dfn.fr {o : Hp} {k : Nat} (v : Dfn) : frz o (k + 2) (.agg v.row) = some (.agg v.row, []) := frz_agg_stand v.row_stand
theorem Dfn.sqr {o : Hp} {k : Nat} (v : Dfn) : seqM (frz o (k + 1)) v.row = some (v.row, []) := seqM_same fun c hc => frz_stand (v.row_stand c hc)
theorem Dfn.fm {o : Hp} {k : Nat} (v : Dfn) : v.row.flatMap (looks o k) = [] := flat_looks k _ v.row_stand
theorem Dfn.lk {o : Hp} {k : Nat} (v : Dfn) : looks o k (.agg v.row) = [] := looks_agg_stand v.row_stand
theorem Dfn.sq {o : Hp} {k : Nat} (l : List Dfn) : seqM (seqM (frz o (k + 1))) (Dfn.rows l) = some (Dfn.rows l, []) := sq_stand (Dfn.rows_stand l)
theorem Dfn.lkv {o : Hp} {k i q : Nat} (l : List Dfn) : lkv k i o (.vec q (Dfn.rows l)) = [i] := lkv_stand i q _ (Dfn.rows_stand l)
theorem Dfn.rsv {o : Hp} {N i len : Nat} (l : List Dfn) (hN : N ≤ i) (hl : len = l.length) : rsv o N i len (.vec 31 (Dfn.rows l)) = some (.own 31 (Dfn.rows l), [(i, .vec 31 (Dfn.rows l))]) := rsv_stand N i len 31 _ hN (by rw [Dfn.rows_len, hl]) (Dfn.rows_stand l)
theorem Dfn.finRow {o : Hp} {N j : Nat} (l : List Dfn) (h : RowOK o 31 j (Dfn.rows l)) (hN : N ≤ j) : finR (Am.result o N (rowV 31 j (Dfn.rows l))) = some (ownV 31 (Dfn.rows l)) := finR_row h hN (Dfn.rows_stand l)
theorem Dfn.frRow {o : Hp} {k j : Nat} (l : List Dfn) (h : RowOK o 31 j (Dfn.rows l)) : frz o (k + 2) (rowV 31 j (Dfn.rows l)) = some (.sl 31 (Dfn.rows l), if Dfn.rows l = [] then [] else [(j, .fvec 31 (Dfn.rows l))]) := fr_row h (Dfn.rows_stand l)
theorem Dfn.nrm (v : Dfn) : nrmL v.row = some v.row := by rw [Dfn.row_eq]; rfl
theorem Dfn.lkRow {o : Hp} {k j : Nat} (l : List Dfn) (h : RowOK o 31 j (Dfn.rows l)) : looks o (k + 1) (rowV 31 j (Dfn.rows l)) = rowR j (Dfn.rows l) := lk_row k 31 j _ h (Dfn.rows_stand l)
theorem Dfn.rfC {k : Nat} (v : Dfn) : refsC (k + 1) v.row = some [] := refsC_stand v.row_stand
theorem Dfn.flat (l : List Dfn) : (Dfn.rows l).all (·.all flat) = true := by
  rw [Dfn.rows_map, List.all_map, List.all_eq_true]
  intro v _
  simp only [Function.comp, Dfn.row_eq]
  rfl
theorem Dfn.spl_id (v : Dfn) (x : Idn) : splice 0 x.row v.row = some (Dfn.mk x v.kind v.mod v.name v.slots v.result v.body v.place v.layout).row := by rw [Idn.row_eq, Dfn.row_eq, Dfn.row_eq]; simp only [splice_succ, splice_cons, splice_nil, Option.map_some, Dfn.id_mk, Dfn.kind_mk, Dfn.mod_mk, Dfn.name_mk, Dfn.slots_mk, Dfn.result_mk, Dfn.body_mk, Dfn.place_mk, Dfn.layout_mk]
theorem Dfn.spl_kind (v : Dfn) (x : Int) : splice 3 [.int .i64 x] v.row = some (Dfn.mk v.id x v.mod v.name v.slots v.result v.body v.place v.layout).row := by rw [Dfn.row_eq, Dfn.row_eq]; simp only [splice_succ, splice_cons, splice_nil, Option.map_some, Dfn.id_mk, Dfn.kind_mk, Dfn.mod_mk, Dfn.name_mk, Dfn.slots_mk, Dfn.result_mk, Dfn.body_mk, Dfn.place_mk, Dfn.layout_mk]
theorem Dfn.spl_mod (v : Dfn) (x : Idn) : splice 4 x.row v.row = some (Dfn.mk v.id v.kind x v.name v.slots v.result v.body v.place v.layout).row := by rw [Idn.row_eq, Dfn.row_eq, Dfn.row_eq]; simp only [splice_succ, splice_cons, splice_nil, Option.map_some, Dfn.id_mk, Dfn.kind_mk, Dfn.mod_mk, Dfn.name_mk, Dfn.slots_mk, Dfn.result_mk, Dfn.body_mk, Dfn.place_mk, Dfn.layout_mk]
theorem Dfn.spl_name (v : Dfn) (x : List UInt8) : splice 7 [.str x] v.row = some (Dfn.mk v.id v.kind v.mod x v.slots v.result v.body v.place v.layout).row := by rw [Dfn.row_eq, Dfn.row_eq]; simp only [splice_succ, splice_cons, splice_nil, Option.map_some, Dfn.id_mk, Dfn.kind_mk, Dfn.mod_mk, Dfn.name_mk, Dfn.slots_mk, Dfn.result_mk, Dfn.body_mk, Dfn.place_mk, Dfn.layout_mk]
theorem Dfn.spl_slots (v : Dfn) (x : List Slt) : splice 8 [.sl 11 (Slt.rows x)] v.row = some (Dfn.mk v.id v.kind v.mod v.name x v.result v.body v.place v.layout).row := by rw [Dfn.row_eq, Dfn.row_eq]; simp only [splice_succ, splice_cons, splice_nil, Option.map_some, Dfn.id_mk, Dfn.kind_mk, Dfn.mod_mk, Dfn.name_mk, Dfn.slots_mk, Dfn.result_mk, Dfn.body_mk, Dfn.place_mk, Dfn.layout_mk]
theorem Dfn.spl_slots_vsl (v : Dfn) (a b c : Nat) : splice 8 [.vsl a b c] v.row = some [.int .i64 v.id.shop, .int .i64 v.id.seq, .int .i64 v.id.index, .int .i64 v.kind, .int .i64 v.mod.shop, .int .i64 v.mod.seq, .int .i64 v.mod.index, .str v.name, .vsl a b c, .int .i64 v.result.kind, .int .i64 v.result.ref.shop, .int .i64 v.result.ref.seq, .int .i64 v.result.ref.index, .sl 5 (Typ.rows v.result.kids), .int .i64 v.body.id.shop, .int .i64 v.body.id.seq, .int .i64 v.body.id.index, .int .i64 v.body.kind, .int .i64 v.body.n, .int .i64 v.body.ref.shop, .int .i64 v.body.ref.seq, .int .i64 v.body.ref.index, .int .i64 v.body.ty.kind, .int .i64 v.body.ty.ref.shop, .int .i64 v.body.ty.ref.seq, .int .i64 v.body.ty.ref.index, .sl 5 (Typ.rows v.body.ty.kids), .sl 15 (Exr.rows v.body.kids), .sl 1 (strsV v.body.names), .int .i64 v.place, .sl 1 (strsV v.layout)] := by rw [Dfn.row_eq]; simp only [splice_succ, splice_cons, splice_nil, Option.map_some]
theorem Dfn.spl_slots_nils (v : Dfn) (a : Nat) : splice 8 [.nils a] v.row = some [.int .i64 v.id.shop, .int .i64 v.id.seq, .int .i64 v.id.index, .int .i64 v.kind, .int .i64 v.mod.shop, .int .i64 v.mod.seq, .int .i64 v.mod.index, .str v.name, .nils a, .int .i64 v.result.kind, .int .i64 v.result.ref.shop, .int .i64 v.result.ref.seq, .int .i64 v.result.ref.index, .sl 5 (Typ.rows v.result.kids), .int .i64 v.body.id.shop, .int .i64 v.body.id.seq, .int .i64 v.body.id.index, .int .i64 v.body.kind, .int .i64 v.body.n, .int .i64 v.body.ref.shop, .int .i64 v.body.ref.seq, .int .i64 v.body.ref.index, .int .i64 v.body.ty.kind, .int .i64 v.body.ty.ref.shop, .int .i64 v.body.ty.ref.seq, .int .i64 v.body.ty.ref.index, .sl 5 (Typ.rows v.body.ty.kids), .sl 15 (Exr.rows v.body.kids), .sl 1 (strsV v.body.names), .int .i64 v.place, .sl 1 (strsV v.layout)] := by rw [Dfn.row_eq]; simp only [splice_succ, splice_cons, splice_nil, Option.map_some]
theorem Dfn.spl_slots_rowV (v : Dfn) (a b : Nat) (xs : List (List V)) : splice 8 [rowV a b xs] v.row = some [.int .i64 v.id.shop, .int .i64 v.id.seq, .int .i64 v.id.index, .int .i64 v.kind, .int .i64 v.mod.shop, .int .i64 v.mod.seq, .int .i64 v.mod.index, .str v.name, rowV a b xs, .int .i64 v.result.kind, .int .i64 v.result.ref.shop, .int .i64 v.result.ref.seq, .int .i64 v.result.ref.index, .sl 5 (Typ.rows v.result.kids), .int .i64 v.body.id.shop, .int .i64 v.body.id.seq, .int .i64 v.body.id.index, .int .i64 v.body.kind, .int .i64 v.body.n, .int .i64 v.body.ref.shop, .int .i64 v.body.ref.seq, .int .i64 v.body.ref.index, .int .i64 v.body.ty.kind, .int .i64 v.body.ty.ref.shop, .int .i64 v.body.ty.ref.seq, .int .i64 v.body.ty.ref.index, .sl 5 (Typ.rows v.body.ty.kids), .sl 15 (Exr.rows v.body.kids), .sl 1 (strsV v.body.names), .int .i64 v.place, .sl 1 (strsV v.layout)] := by rw [Dfn.row_eq]; simp only [splice_succ, splice_cons, splice_nil, Option.map_some]
theorem Dfn.spl_result (v : Dfn) (x : Typ) : splice 9 x.row v.row = some (Dfn.mk v.id v.kind v.mod v.name v.slots x v.body v.place v.layout).row := by rw [Typ.row_eq, Dfn.row_eq, Dfn.row_eq]; simp only [splice_succ, splice_cons, splice_nil, Option.map_some, Dfn.id_mk, Dfn.kind_mk, Dfn.mod_mk, Dfn.name_mk, Dfn.slots_mk, Dfn.result_mk, Dfn.body_mk, Dfn.place_mk, Dfn.layout_mk]
theorem Dfn.spl_body (v : Dfn) (x : Exr) : splice 14 x.row v.row = some (Dfn.mk v.id v.kind v.mod v.name v.slots v.result x v.place v.layout).row := by rw [Exr.row_eq, Dfn.row_eq, Dfn.row_eq]; simp only [splice_succ, splice_cons, splice_nil, Option.map_some, Dfn.id_mk, Dfn.kind_mk, Dfn.mod_mk, Dfn.name_mk, Dfn.slots_mk, Dfn.result_mk, Dfn.body_mk, Dfn.place_mk, Dfn.layout_mk]
theorem Dfn.spl_place (v : Dfn) (x : Int) : splice 29 [.int .i64 x] v.row = some (Dfn.mk v.id v.kind v.mod v.name v.slots v.result v.body x v.layout).row := by rw [Dfn.row_eq, Dfn.row_eq]; simp only [splice_succ, splice_cons, splice_nil, Option.map_some, Dfn.id_mk, Dfn.kind_mk, Dfn.mod_mk, Dfn.name_mk, Dfn.slots_mk, Dfn.result_mk, Dfn.body_mk, Dfn.place_mk, Dfn.layout_mk]
theorem Dfn.spl_layout (v : Dfn) (x : List (List UInt8)) : splice 30 [.sl 1 (strsV x)] v.row = some (Dfn.mk v.id v.kind v.mod v.name v.slots v.result v.body v.place x).row := by rw [Dfn.row_eq, Dfn.row_eq]; simp only [splice_succ, splice_cons, splice_nil, Option.map_some, Dfn.id_mk, Dfn.kind_mk, Dfn.mod_mk, Dfn.name_mk, Dfn.slots_mk, Dfn.result_mk, Dfn.body_mk, Dfn.place_mk, Dfn.layout_mk]
theorem Dfn.spl_layout_vsl (v : Dfn) (a b c : Nat) : splice 30 [.vsl a b c] v.row = some [.int .i64 v.id.shop, .int .i64 v.id.seq, .int .i64 v.id.index, .int .i64 v.kind, .int .i64 v.mod.shop, .int .i64 v.mod.seq, .int .i64 v.mod.index, .str v.name, .sl 11 (Slt.rows v.slots), .int .i64 v.result.kind, .int .i64 v.result.ref.shop, .int .i64 v.result.ref.seq, .int .i64 v.result.ref.index, .sl 5 (Typ.rows v.result.kids), .int .i64 v.body.id.shop, .int .i64 v.body.id.seq, .int .i64 v.body.id.index, .int .i64 v.body.kind, .int .i64 v.body.n, .int .i64 v.body.ref.shop, .int .i64 v.body.ref.seq, .int .i64 v.body.ref.index, .int .i64 v.body.ty.kind, .int .i64 v.body.ty.ref.shop, .int .i64 v.body.ty.ref.seq, .int .i64 v.body.ty.ref.index, .sl 5 (Typ.rows v.body.ty.kids), .sl 15 (Exr.rows v.body.kids), .sl 1 (strsV v.body.names), .int .i64 v.place, .vsl a b c] := by rw [Dfn.row_eq]; simp only [splice_succ, splice_cons, splice_nil, Option.map_some]
theorem Dfn.spl_layout_nils (v : Dfn) (a : Nat) : splice 30 [.nils a] v.row = some [.int .i64 v.id.shop, .int .i64 v.id.seq, .int .i64 v.id.index, .int .i64 v.kind, .int .i64 v.mod.shop, .int .i64 v.mod.seq, .int .i64 v.mod.index, .str v.name, .sl 11 (Slt.rows v.slots), .int .i64 v.result.kind, .int .i64 v.result.ref.shop, .int .i64 v.result.ref.seq, .int .i64 v.result.ref.index, .sl 5 (Typ.rows v.result.kids), .int .i64 v.body.id.shop, .int .i64 v.body.id.seq, .int .i64 v.body.id.index, .int .i64 v.body.kind, .int .i64 v.body.n, .int .i64 v.body.ref.shop, .int .i64 v.body.ref.seq, .int .i64 v.body.ref.index, .int .i64 v.body.ty.kind, .int .i64 v.body.ty.ref.shop, .int .i64 v.body.ty.ref.seq, .int .i64 v.body.ty.ref.index, .sl 5 (Typ.rows v.body.ty.kids), .sl 15 (Exr.rows v.body.kids), .sl 1 (strsV v.body.names), .int .i64 v.place, .nils a] := by rw [Dfn.row_eq]; simp only [splice_succ, splice_cons, splice_nil, Option.map_some]
theorem Dfn.spl_layout_rowV (v : Dfn) (a b : Nat) (xs : List (List V)) : splice 30 [rowV a b xs] v.row = some [.int .i64 v.id.shop, .int .i64 v.id.seq, .int .i64 v.id.index, .int .i64 v.kind, .int .i64 v.mod.shop, .int .i64 v.mod.seq, .int .i64 v.mod.index, .str v.name, .sl 11 (Slt.rows v.slots), .int .i64 v.result.kind, .int .i64 v.result.ref.shop, .int .i64 v.result.ref.seq, .int .i64 v.result.ref.index, .sl 5 (Typ.rows v.result.kids), .int .i64 v.body.id.shop, .int .i64 v.body.id.seq, .int .i64 v.body.id.index, .int .i64 v.body.kind, .int .i64 v.body.n, .int .i64 v.body.ref.shop, .int .i64 v.body.ref.seq, .int .i64 v.body.ref.index, .int .i64 v.body.ty.kind, .int .i64 v.body.ty.ref.shop, .int .i64 v.body.ty.ref.seq, .int .i64 v.body.ty.ref.index, .sl 5 (Typ.rows v.body.ty.kids), .sl 15 (Exr.rows v.body.kids), .sl 1 (strsV v.body.names), .int .i64 v.place, rowV a b xs] := by rw [Dfn.row_eq]; simp only [splice_succ, splice_cons, splice_nil, Option.map_some]
theorem Mdl.cut_row (v : Mdl) : cut 0 6 v.row = some v.row := cut_all 6 _ v.row_len
theorem Mdl.spl_row (v : Mdl) (cs : List V) (h : cs.length = 6) : splice 0 v.row cs = some v.row := splice_all _ _ (by rw [v.row_len, h])
theorem Mdl.fr {o : Hp} {k : Nat} (v : Mdl) : frz o (k + 2) (.agg v.row) = some (.agg v.row, []) := frz_agg_stand v.row_stand
theorem Mdl.sqr {o : Hp} {k : Nat} (v : Mdl) : seqM (frz o (k + 1)) v.row = some (v.row, []) := seqM_same fun c hc => frz_stand (v.row_stand c hc)
theorem Mdl.fm {o : Hp} {k : Nat} (v : Mdl) : v.row.flatMap (looks o k) = [] := flat_looks k _ v.row_stand
theorem Mdl.lk {o : Hp} {k : Nat} (v : Mdl) : looks o k (.agg v.row) = [] := looks_agg_stand v.row_stand
theorem Mdl.sq {o : Hp} {k : Nat} (l : List Mdl) : seqM (seqM (frz o (k + 1))) (Mdl.rows l) = some (Mdl.rows l, []) := sq_stand (Mdl.rows_stand l)
theorem Mdl.lkv {o : Hp} {k i q : Nat} (l : List Mdl) : lkv k i o (.vec q (Mdl.rows l)) = [i] := lkv_stand i q _ (Mdl.rows_stand l)
theorem Mdl.rsv {o : Hp} {N i len : Nat} (l : List Mdl) (hN : N ≤ i) (hl : len = l.length) : rsv o N i len (.vec 6 (Mdl.rows l)) = some (.own 6 (Mdl.rows l), [(i, .vec 6 (Mdl.rows l))]) := rsv_stand N i len 6 _ hN (by rw [Mdl.rows_len, hl]) (Mdl.rows_stand l)
theorem Mdl.finRow {o : Hp} {N j : Nat} (l : List Mdl) (h : RowOK o 6 j (Mdl.rows l)) (hN : N ≤ j) : finR (Am.result o N (rowV 6 j (Mdl.rows l))) = some (ownV 6 (Mdl.rows l)) := finR_row h hN (Mdl.rows_stand l)
theorem Mdl.frRow {o : Hp} {k j : Nat} (l : List Mdl) (h : RowOK o 6 j (Mdl.rows l)) : frz o (k + 2) (rowV 6 j (Mdl.rows l)) = some (.sl 6 (Mdl.rows l), if Mdl.rows l = [] then [] else [(j, .fvec 6 (Mdl.rows l))]) := fr_row h (Mdl.rows_stand l)
theorem Mdl.nrm (v : Mdl) : nrmL v.row = some v.row := by rw [Mdl.row_eq]; rfl
theorem Mdl.lkRow {o : Hp} {k j : Nat} (l : List Mdl) (h : RowOK o 6 j (Mdl.rows l)) : looks o (k + 1) (rowV 6 j (Mdl.rows l)) = rowR j (Mdl.rows l) := lk_row k 6 j _ h (Mdl.rows_stand l)
theorem Mdl.rfC {k : Nat} (v : Mdl) : refsC (k + 1) v.row = some [] := refsC_stand v.row_stand
theorem Mdl.flat (l : List Mdl) : (Mdl.rows l).all (·.all flat) = true := by
  rw [Mdl.rows_map, List.all_map, List.all_eq_true]
  intro v _
  simp only [Function.comp, Mdl.row_eq]
  rfl
theorem Mdl.spl_id (v : Mdl) (x : Idn) : splice 0 x.row v.row = some (Mdl.mk x v.name v.uses v.defs).row := by rw [Idn.row_eq, Mdl.row_eq, Mdl.row_eq]; simp only [splice_succ, splice_cons, splice_nil, Option.map_some, Mdl.id_mk, Mdl.name_mk, Mdl.uses_mk, Mdl.defs_mk]
theorem Mdl.spl_name (v : Mdl) (x : List UInt8) : splice 3 [.str x] v.row = some (Mdl.mk v.id x v.uses v.defs).row := by rw [Mdl.row_eq, Mdl.row_eq]; simp only [splice_succ, splice_cons, splice_nil, Option.map_some, Mdl.id_mk, Mdl.name_mk, Mdl.uses_mk, Mdl.defs_mk]
theorem Mdl.spl_uses (v : Mdl) (x : List Idn) : splice 4 [.sl 3 (Idn.rows x)] v.row = some (Mdl.mk v.id v.name x v.defs).row := by rw [Mdl.row_eq, Mdl.row_eq]; simp only [splice_succ, splice_cons, splice_nil, Option.map_some, Mdl.id_mk, Mdl.name_mk, Mdl.uses_mk, Mdl.defs_mk]
theorem Mdl.spl_uses_vsl (v : Mdl) (a b c : Nat) : splice 4 [.vsl a b c] v.row = some [.int .i64 v.id.shop, .int .i64 v.id.seq, .int .i64 v.id.index, .str v.name, .vsl a b c, .sl 3 (Idn.rows v.defs)] := by rw [Mdl.row_eq]; simp only [splice_succ, splice_cons, splice_nil, Option.map_some]
theorem Mdl.spl_uses_nils (v : Mdl) (a : Nat) : splice 4 [.nils a] v.row = some [.int .i64 v.id.shop, .int .i64 v.id.seq, .int .i64 v.id.index, .str v.name, .nils a, .sl 3 (Idn.rows v.defs)] := by rw [Mdl.row_eq]; simp only [splice_succ, splice_cons, splice_nil, Option.map_some]
theorem Mdl.spl_uses_rowV (v : Mdl) (a b : Nat) (xs : List (List V)) : splice 4 [rowV a b xs] v.row = some [.int .i64 v.id.shop, .int .i64 v.id.seq, .int .i64 v.id.index, .str v.name, rowV a b xs, .sl 3 (Idn.rows v.defs)] := by rw [Mdl.row_eq]; simp only [splice_succ, splice_cons, splice_nil, Option.map_some]
theorem Mdl.spl_defs (v : Mdl) (x : List Idn) : splice 5 [.sl 3 (Idn.rows x)] v.row = some (Mdl.mk v.id v.name v.uses x).row := by rw [Mdl.row_eq, Mdl.row_eq]; simp only [splice_succ, splice_cons, splice_nil, Option.map_some, Mdl.id_mk, Mdl.name_mk, Mdl.uses_mk, Mdl.defs_mk]
theorem Mdl.spl_defs_vsl (v : Mdl) (a b c : Nat) : splice 5 [.vsl a b c] v.row = some [.int .i64 v.id.shop, .int .i64 v.id.seq, .int .i64 v.id.index, .str v.name, .sl 3 (Idn.rows v.uses), .vsl a b c] := by rw [Mdl.row_eq]; simp only [splice_succ, splice_cons, splice_nil, Option.map_some]
theorem Mdl.spl_defs_nils (v : Mdl) (a : Nat) : splice 5 [.nils a] v.row = some [.int .i64 v.id.shop, .int .i64 v.id.seq, .int .i64 v.id.index, .str v.name, .sl 3 (Idn.rows v.uses), .nils a] := by rw [Mdl.row_eq]; simp only [splice_succ, splice_cons, splice_nil, Option.map_some]
theorem Mdl.spl_defs_rowV (v : Mdl) (a b : Nat) (xs : List (List V)) : splice 5 [rowV a b xs] v.row = some [.int .i64 v.id.shop, .int .i64 v.id.seq, .int .i64 v.id.index, .str v.name, .sl 3 (Idn.rows v.uses), rowV a b xs] := by rw [Mdl.row_eq]; simp only [splice_succ, splice_cons, splice_nil, Option.map_some]
theorem Prg.cut_row (v : Prg) : cut 0 2 v.row = some v.row := cut_all 2 _ v.row_len
theorem Prg.spl_row (v : Prg) (cs : List V) (h : cs.length = 2) : splice 0 v.row cs = some v.row := splice_all _ _ (by rw [v.row_len, h])
theorem Prg.fr {o : Hp} {k : Nat} (v : Prg) : frz o (k + 2) (.agg v.row) = some (.agg v.row, []) := frz_agg_stand v.row_stand
theorem Prg.sqr {o : Hp} {k : Nat} (v : Prg) : seqM (frz o (k + 1)) v.row = some (v.row, []) := seqM_same fun c hc => frz_stand (v.row_stand c hc)
theorem Prg.fm {o : Hp} {k : Nat} (v : Prg) : v.row.flatMap (looks o k) = [] := flat_looks k _ v.row_stand
theorem Prg.lk {o : Hp} {k : Nat} (v : Prg) : looks o k (.agg v.row) = [] := looks_agg_stand v.row_stand
theorem Prg.sq {o : Hp} {k : Nat} (l : List Prg) : seqM (seqM (frz o (k + 1))) (Prg.rows l) = some (Prg.rows l, []) := sq_stand (Prg.rows_stand l)
theorem Prg.lkv {o : Hp} {k i q : Nat} (l : List Prg) : lkv k i o (.vec q (Prg.rows l)) = [i] := lkv_stand i q _ (Prg.rows_stand l)
theorem Prg.rsv {o : Hp} {N i len : Nat} (l : List Prg) (hN : N ≤ i) (hl : len = l.length) : rsv o N i len (.vec 2 (Prg.rows l)) = some (.own 2 (Prg.rows l), [(i, .vec 2 (Prg.rows l))]) := rsv_stand N i len 2 _ hN (by rw [Prg.rows_len, hl]) (Prg.rows_stand l)
theorem Prg.finRow {o : Hp} {N j : Nat} (l : List Prg) (h : RowOK o 2 j (Prg.rows l)) (hN : N ≤ j) : finR (Am.result o N (rowV 2 j (Prg.rows l))) = some (ownV 2 (Prg.rows l)) := finR_row h hN (Prg.rows_stand l)
theorem Prg.frRow {o : Hp} {k j : Nat} (l : List Prg) (h : RowOK o 2 j (Prg.rows l)) : frz o (k + 2) (rowV 2 j (Prg.rows l)) = some (.sl 2 (Prg.rows l), if Prg.rows l = [] then [] else [(j, .fvec 2 (Prg.rows l))]) := fr_row h (Prg.rows_stand l)
theorem Prg.nrm (v : Prg) : nrmL v.row = some v.row := by rw [Prg.row_eq]; rfl
theorem Prg.lkRow {o : Hp} {k j : Nat} (l : List Prg) (h : RowOK o 2 j (Prg.rows l)) : looks o (k + 1) (rowV 2 j (Prg.rows l)) = rowR j (Prg.rows l) := lk_row k 2 j _ h (Prg.rows_stand l)
theorem Prg.rfC {k : Nat} (v : Prg) : refsC (k + 1) v.row = some [] := refsC_stand v.row_stand
theorem Prg.flat (l : List Prg) : (Prg.rows l).all (·.all flat) = true := by
  rw [Prg.rows_map, List.all_map, List.all_eq_true]
  intro v _
  simp only [Function.comp, Prg.row_eq]
  rfl
theorem Prg.spl_mods (v : Prg) (x : List Mdl) : splice 0 [.sl 6 (Mdl.rows x)] v.row = some (Prg.mk x v.defs).row := by rw [Prg.row_eq, Prg.row_eq]; simp only [splice_succ, splice_cons, splice_nil, Option.map_some, Prg.mods_mk, Prg.defs_mk]
theorem Prg.spl_mods_vsl (v : Prg) (a b c : Nat) : splice 0 [.vsl a b c] v.row = some [.vsl a b c, .sl 31 (Dfn.rows v.defs)] := by rw [Prg.row_eq]; simp only [splice_succ, splice_cons, splice_nil, Option.map_some]
theorem Prg.spl_mods_nils (v : Prg) (a : Nat) : splice 0 [.nils a] v.row = some [.nils a, .sl 31 (Dfn.rows v.defs)] := by rw [Prg.row_eq]; simp only [splice_succ, splice_cons, splice_nil, Option.map_some]
theorem Prg.spl_mods_rowV (v : Prg) (a b : Nat) (xs : List (List V)) : splice 0 [rowV a b xs] v.row = some [rowV a b xs, .sl 31 (Dfn.rows v.defs)] := by rw [Prg.row_eq]; simp only [splice_succ, splice_cons, splice_nil, Option.map_some]
theorem Prg.spl_defs (v : Prg) (x : List Dfn) : splice 1 [.sl 31 (Dfn.rows x)] v.row = some (Prg.mk v.mods x).row := by rw [Prg.row_eq, Prg.row_eq]; simp only [splice_succ, splice_cons, splice_nil, Option.map_some, Prg.mods_mk, Prg.defs_mk]
theorem Prg.spl_defs_vsl (v : Prg) (a b c : Nat) : splice 1 [.vsl a b c] v.row = some [.sl 6 (Mdl.rows v.mods), .vsl a b c] := by rw [Prg.row_eq]; simp only [splice_succ, splice_cons, splice_nil, Option.map_some]
theorem Prg.spl_defs_nils (v : Prg) (a : Nat) : splice 1 [.nils a] v.row = some [.sl 6 (Mdl.rows v.mods), .nils a] := by rw [Prg.row_eq]; simp only [splice_succ, splice_cons, splice_nil, Option.map_some]
theorem Prg.spl_defs_rowV (v : Prg) (a b : Nat) (xs : List (List V)) : splice 1 [rowV a b xs] v.row = some [.sl 6 (Mdl.rows v.mods), rowV a b xs] := by rw [Prg.row_eq]; simp only [splice_succ, splice_cons, splice_nil, Option.map_some]
deriving instance DecidableEq for Idn
theorem eq3 (a b c x y z : Int) : eqCells [1, 1, 1] [.int .i64 a, .int .i64 b, .int .i64 c] [.int .i64 x, .int .i64 y, .int .i64 z] = some (decide (Idn.mk a b c = Idn.mk x y z)) := by
  have : (decide (Idn.mk a b c = Idn.mk x y z)) = (a == x && (b == y && (c == z && true))) := by
    rw [Bool.eq_iff_iff]; simp [Idn.mk.injEq]
  rw [this]; simp [eqCells, eqK]
theorem eqIdn (a b : Idn) : eqCells [1, 1, 1] a.row b.row = some (decide (a = b)) := eq3 _ _ _ _ _ _
theorem eqIdn_r (a : Idn) (x y z : Int) : eqCells [1, 1, 1] a.row [.int .i64 x, .int .i64 y, .int .i64 z] = some (decide (a = Idn.mk x y z)) := eq3 _ _ _ _ _ _
theorem eqIdn_l (a : Idn) (x y z : Int) : eqCells [1, 1, 1] [.int .i64 x, .int .i64 y, .int .i64 z] a.row = some (decide (Idn.mk x y z = a)) := eq3 _ _ _ _ _ _
theorem rsX : (type_of% @Idn.nrm) ∧ (type_of% @Idn.lkRow) ∧ (type_of% @Idn.back) ∧ (type_of% @Idn.backs) ∧ (type_of% @Idn.rows_len) ∧ (type_of% @Idn.rows_app) ∧ (type_of% @Idn.rows_snoc) ∧ (type_of% @Idn.rows_get) ∧ (type_of% @Idn.rows_cut) ∧ (type_of% @Idn.rows_take) ∧ (type_of% @Idn.rows_drop) ∧ (type_of% @Idn.rows_set) ∧ (type_of% @Idn.rows_nil) ∧ (type_of% @Idn.cut_row) ∧ (type_of% @Idn.spl_row) ∧ (type_of% @Idn.fr) ∧ (type_of% @Idn.lk) ∧ (type_of% @Idn.sqr) ∧ (type_of% @Idn.fm) ∧ (type_of% @Idn.sq) ∧ (type_of% @Idn.lkv) ∧ (type_of% @Idn.rsv) ∧ (type_of% @Idn.finRow) ∧ (type_of% @Idn.frRow) ∧ (type_of% @Idn.rfC) ∧ (type_of% @Idn.flat) ∧ (type_of% @Idn.of_mk) ∧ (type_of% @Idn.ofs_nil) ∧ (type_of% @Idn.ofs_cons) ∧ (type_of% @Idn.ofs_app) ∧ (type_of% @Idn.cell_sl) ∧ (type_of% @Idn.cut_shop) ∧ (type_of% @Idn.shop_mk) ∧ (type_of% @Idn.spl_shop) ∧ (type_of% @Idn.cut_seq) ∧ (type_of% @Idn.seq_mk) ∧ (type_of% @Idn.spl_seq) ∧ (type_of% @Idn.cut_index) ∧ (type_of% @Idn.index_mk) ∧ (type_of% @Idn.spl_index) ∧ (type_of% @Val.nrm) ∧ (type_of% @Val.lkRow) ∧ (type_of% @Val.back) ∧ (type_of% @Val.backs) ∧ (type_of% @Val.rows_len) ∧ (type_of% @Val.rows_app) ∧ (type_of% @Val.rows_snoc) ∧ (type_of% @Val.rows_get) ∧ (type_of% @Val.rows_cut) ∧ (type_of% @Val.rows_take) ∧ (type_of% @Val.rows_drop) ∧ (type_of% @Val.rows_set) ∧ (type_of% @Val.rows_nil) ∧ (type_of% @Val.cut_row) ∧ (type_of% @Val.spl_row) ∧ (type_of% @Val.fr) ∧ (type_of% @Val.lk) ∧ (type_of% @Val.sqr) ∧ (type_of% @Val.fm) ∧ (type_of% @Val.sq) ∧ (type_of% @Val.lkv) ∧ (type_of% @Val.rsv) ∧ (type_of% @Val.finRow) ∧ (type_of% @Val.frRow) ∧ (type_of% @Val.rfC) ∧ (type_of% @Val.flat) ∧ (type_of% @Val.of_mk) ∧ (type_of% @Val.ofs_nil) ∧ (type_of% @Val.ofs_cons) ∧ (type_of% @Val.ofs_app) ∧ (type_of% @Val.cell_sl) ∧ (type_of% @Val.cut_kind) ∧ (type_of% @Val.kind_mk) ∧ (type_of% @Val.spl_kind) ∧ (type_of% @Val.cut_n) ∧ (type_of% @Val.n_mk) ∧ (type_of% @Val.spl_n) ∧ (type_of% @Val.cut_kids) ∧ (type_of% @Val.kids_mk) ∧ (type_of% @Val.spl_kids) ∧ (type_of% @Val.spl_kids_vsl) ∧ (type_of% @Val.spl_kids_nils) ∧ (type_of% @Val.spl_kids_rowV) ∧ (type_of% @Typ.nrm) ∧ (type_of% @Typ.lkRow) ∧ (type_of% @Typ.back) ∧ (type_of% @Typ.backs) ∧ (type_of% @Typ.rows_len) ∧ (type_of% @Typ.rows_app) ∧ (type_of% @Typ.rows_snoc) ∧ (type_of% @Typ.rows_get) ∧ (type_of% @Typ.rows_cut) ∧ (type_of% @Typ.rows_take) ∧ (type_of% @Typ.rows_drop) ∧ (type_of% @Typ.rows_set) ∧ (type_of% @Typ.rows_nil) ∧ (type_of% @Typ.cut_row) ∧ (type_of% @Typ.spl_row) ∧ (type_of% @Typ.fr) ∧ (type_of% @Typ.lk) ∧ (type_of% @Typ.sqr) ∧ (type_of% @Typ.fm) ∧ (type_of% @Typ.sq) ∧ (type_of% @Typ.lkv) ∧ (type_of% @Typ.rsv) ∧ (type_of% @Typ.finRow) ∧ (type_of% @Typ.frRow) ∧ (type_of% @Typ.rfC) ∧ (type_of% @Typ.flat) ∧ (type_of% @Typ.of_mk) ∧ (type_of% @Typ.ofs_nil) ∧ (type_of% @Typ.ofs_cons) ∧ (type_of% @Typ.ofs_app) ∧ (type_of% @Typ.cell_sl) ∧ (type_of% @Typ.cut_kind) ∧ (type_of% @Typ.kind_mk) ∧ (type_of% @Typ.spl_kind) ∧ (type_of% @Typ.cut_ref) ∧ (type_of% @Typ.ref_mk) ∧ (type_of% @Typ.spl_ref) ∧ (type_of% @Typ.cut_kids) ∧ (type_of% @Typ.kids_mk) ∧ (type_of% @Typ.spl_kids) ∧ (type_of% @Typ.spl_kids_vsl) ∧ (type_of% @Typ.spl_kids_nils) ∧ (type_of% @Typ.spl_kids_rowV) ∧ (type_of% @Slt.nrm) ∧ (type_of% @Slt.lkRow) ∧ (type_of% @Slt.back) ∧ (type_of% @Slt.backs) ∧ (type_of% @Slt.rows_len) ∧ (type_of% @Slt.rows_app) ∧ (type_of% @Slt.rows_snoc) ∧ (type_of% @Slt.rows_get) ∧ (type_of% @Slt.rows_cut) ∧ (type_of% @Slt.rows_take) ∧ (type_of% @Slt.rows_drop) ∧ (type_of% @Slt.rows_set) ∧ (type_of% @Slt.rows_nil) ∧ (type_of% @Slt.cut_row) ∧ (type_of% @Slt.spl_row) ∧ (type_of% @Slt.fr) ∧ (type_of% @Slt.lk) ∧ (type_of% @Slt.sqr) ∧ (type_of% @Slt.fm) ∧ (type_of% @Slt.sq) ∧ (type_of% @Slt.lkv) ∧ (type_of% @Slt.rsv) ∧ (type_of% @Slt.finRow) ∧ (type_of% @Slt.frRow) ∧ (type_of% @Slt.rfC) ∧ (type_of% @Slt.flat) ∧ (type_of% @Slt.of_mk) ∧ (type_of% @Slt.ofs_nil) ∧ (type_of% @Slt.ofs_cons) ∧ (type_of% @Slt.ofs_app) ∧ (type_of% @Slt.cell_sl) ∧ (type_of% @Slt.cut_id) ∧ (type_of% @Slt.id_mk) ∧ (type_of% @Slt.spl_id) ∧ (type_of% @Slt.cut_name) ∧ (type_of% @Slt.name_mk) ∧ (type_of% @Slt.spl_name) ∧ (type_of% @Slt.cut_ty) ∧ (type_of% @Slt.ty_mk) ∧ (type_of% @Slt.spl_ty) ∧ (type_of% @Slt.cut_most) ∧ (type_of% @Slt.most_mk) ∧ (type_of% @Slt.spl_most) ∧ (type_of% @Slt.cut_place) ∧ (type_of% @Slt.place_mk) ∧ (type_of% @Slt.spl_place) ∧ (type_of% @Exr.nrm) ∧ (type_of% @Exr.lkRow) ∧ (type_of% @Exr.back) ∧ (type_of% @Exr.backs) ∧ (type_of% @Exr.rows_len) ∧ (type_of% @Exr.rows_app) ∧ (type_of% @Exr.rows_snoc) ∧ (type_of% @Exr.rows_get) ∧ (type_of% @Exr.rows_cut) ∧ (type_of% @Exr.rows_take) ∧ (type_of% @Exr.rows_drop) ∧ (type_of% @Exr.rows_set) ∧ (type_of% @Exr.rows_nil) ∧ (type_of% @Exr.cut_row) ∧ (type_of% @Exr.spl_row) ∧ (type_of% @Exr.fr) ∧ (type_of% @Exr.lk) ∧ (type_of% @Exr.sqr) ∧ (type_of% @Exr.fm) ∧ (type_of% @Exr.sq) ∧ (type_of% @Exr.lkv) ∧ (type_of% @Exr.rsv) ∧ (type_of% @Exr.finRow) ∧ (type_of% @Exr.frRow) ∧ (type_of% @Exr.rfC) ∧ (type_of% @Exr.flat) ∧ (type_of% @Exr.of_mk) ∧ (type_of% @Exr.ofs_nil) ∧ (type_of% @Exr.ofs_cons) ∧ (type_of% @Exr.ofs_app) ∧ (type_of% @Exr.cell_sl) ∧ (type_of% @Exr.cut_id) ∧ (type_of% @Exr.id_mk) ∧ (type_of% @Exr.spl_id) ∧ (type_of% @Exr.cut_kind) ∧ (type_of% @Exr.kind_mk) ∧ (type_of% @Exr.spl_kind) ∧ (type_of% @Exr.cut_n) ∧ (type_of% @Exr.n_mk) ∧ (type_of% @Exr.spl_n) ∧ (type_of% @Exr.cut_ref) ∧ (type_of% @Exr.ref_mk) ∧ (type_of% @Exr.spl_ref) ∧ (type_of% @Exr.cut_ty) ∧ (type_of% @Exr.ty_mk) ∧ (type_of% @Exr.spl_ty) ∧ (type_of% @Exr.cut_kids) ∧ (type_of% @Exr.kids_mk) ∧ (type_of% @Exr.spl_kids) ∧ (type_of% @Exr.spl_kids_vsl) ∧ (type_of% @Exr.spl_kids_nils) ∧ (type_of% @Exr.spl_kids_rowV) ∧ (type_of% @Exr.cut_names) ∧ (type_of% @Exr.names_mk) ∧ (type_of% @Exr.spl_names) ∧ (type_of% @Exr.spl_names_vsl) ∧ (type_of% @Exr.spl_names_nils) ∧ (type_of% @Exr.spl_names_rowV) ∧ (type_of% @Dfn.nrm) ∧ (type_of% @Dfn.lkRow) ∧ (type_of% @Dfn.back) ∧ (type_of% @Dfn.backs) ∧ (type_of% @Dfn.rows_len) ∧ (type_of% @Dfn.rows_app) ∧ (type_of% @Dfn.rows_snoc) ∧ (type_of% @Dfn.rows_get) ∧ (type_of% @Dfn.rows_cut) ∧ (type_of% @Dfn.rows_take) ∧ (type_of% @Dfn.rows_drop) ∧ (type_of% @Dfn.rows_set) ∧ (type_of% @Dfn.rows_nil) ∧ (type_of% @Dfn.cut_row) ∧ (type_of% @Dfn.spl_row) ∧ (type_of% @Dfn.fr) ∧ (type_of% @Dfn.lk) ∧ (type_of% @Dfn.sqr) ∧ (type_of% @Dfn.fm) ∧ (type_of% @Dfn.sq) ∧ (type_of% @Dfn.lkv) ∧ (type_of% @Dfn.rsv) ∧ (type_of% @Dfn.finRow) ∧ (type_of% @Dfn.frRow) ∧ (type_of% @Dfn.rfC) ∧ (type_of% @Dfn.flat) ∧ (type_of% @Dfn.of_mk) ∧ (type_of% @Dfn.ofs_nil) ∧ (type_of% @Dfn.ofs_cons) ∧ (type_of% @Dfn.ofs_app) ∧ (type_of% @Dfn.cell_sl) ∧ (type_of% @Dfn.cut_id) ∧ (type_of% @Dfn.id_mk) ∧ (type_of% @Dfn.spl_id) ∧ (type_of% @Dfn.cut_kind) ∧ (type_of% @Dfn.kind_mk) ∧ (type_of% @Dfn.spl_kind) ∧ (type_of% @Dfn.cut_mod) ∧ (type_of% @Dfn.mod_mk) ∧ (type_of% @Dfn.spl_mod) ∧ (type_of% @Dfn.cut_name) ∧ (type_of% @Dfn.name_mk) ∧ (type_of% @Dfn.spl_name) ∧ (type_of% @Dfn.cut_slots) ∧ (type_of% @Dfn.slots_mk) ∧ (type_of% @Dfn.spl_slots) ∧ (type_of% @Dfn.spl_slots_vsl) ∧ (type_of% @Dfn.spl_slots_nils) ∧ (type_of% @Dfn.spl_slots_rowV) ∧ (type_of% @Dfn.cut_result) ∧ (type_of% @Dfn.result_mk) ∧ (type_of% @Dfn.spl_result) ∧ (type_of% @Dfn.cut_body) ∧ (type_of% @Dfn.body_mk) ∧ (type_of% @Dfn.spl_body) ∧ (type_of% @Dfn.cut_place) ∧ (type_of% @Dfn.place_mk) ∧ (type_of% @Dfn.spl_place) ∧ (type_of% @Dfn.cut_layout) ∧ (type_of% @Dfn.layout_mk) ∧ (type_of% @Dfn.spl_layout) ∧ (type_of% @Dfn.spl_layout_vsl) ∧ (type_of% @Dfn.spl_layout_nils) ∧ (type_of% @Dfn.spl_layout_rowV) ∧ (type_of% @Mdl.nrm) ∧ (type_of% @Mdl.lkRow) ∧ (type_of% @Mdl.back) ∧ (type_of% @Mdl.backs) ∧ (type_of% @Mdl.rows_len) ∧ (type_of% @Mdl.rows_app) ∧ (type_of% @Mdl.rows_snoc) ∧ (type_of% @Mdl.rows_get) ∧ (type_of% @Mdl.rows_cut) ∧ (type_of% @Mdl.rows_take) ∧ (type_of% @Mdl.rows_drop) ∧ (type_of% @Mdl.rows_set) ∧ (type_of% @Mdl.rows_nil) ∧ (type_of% @Mdl.cut_row) ∧ (type_of% @Mdl.spl_row) ∧ (type_of% @Mdl.fr) ∧ (type_of% @Mdl.lk) ∧ (type_of% @Mdl.sqr) ∧ (type_of% @Mdl.fm) ∧ (type_of% @Mdl.sq) ∧ (type_of% @Mdl.lkv) ∧ (type_of% @Mdl.rsv) ∧ (type_of% @Mdl.finRow) ∧ (type_of% @Mdl.frRow) ∧ (type_of% @Mdl.rfC) ∧ (type_of% @Mdl.flat) ∧ (type_of% @Mdl.of_mk) ∧ (type_of% @Mdl.ofs_nil) ∧ (type_of% @Mdl.ofs_cons) ∧ (type_of% @Mdl.ofs_app) ∧ (type_of% @Mdl.cell_sl) ∧ (type_of% @Mdl.cut_id) ∧ (type_of% @Mdl.id_mk) ∧ (type_of% @Mdl.spl_id) ∧ (type_of% @Mdl.cut_name) ∧ (type_of% @Mdl.name_mk) ∧ (type_of% @Mdl.spl_name) ∧ (type_of% @Mdl.cut_uses) ∧ (type_of% @Mdl.uses_mk) ∧ (type_of% @Mdl.spl_uses) ∧ (type_of% @Mdl.spl_uses_vsl) ∧ (type_of% @Mdl.spl_uses_nils) ∧ (type_of% @Mdl.spl_uses_rowV) ∧ (type_of% @Mdl.cut_defs) ∧ (type_of% @Mdl.defs_mk) ∧ (type_of% @Mdl.spl_defs) ∧ (type_of% @Mdl.spl_defs_vsl) ∧ (type_of% @Mdl.spl_defs_nils) ∧ (type_of% @Mdl.spl_defs_rowV) ∧ (type_of% @Prg.nrm) ∧ (type_of% @Prg.lkRow) ∧ (type_of% @Prg.back) ∧ (type_of% @Prg.backs) ∧ (type_of% @Prg.rows_len) ∧ (type_of% @Prg.rows_app) ∧ (type_of% @Prg.rows_snoc) ∧ (type_of% @Prg.rows_get) ∧ (type_of% @Prg.rows_cut) ∧ (type_of% @Prg.rows_take) ∧ (type_of% @Prg.rows_drop) ∧ (type_of% @Prg.rows_set) ∧ (type_of% @Prg.rows_nil) ∧ (type_of% @Prg.cut_row) ∧ (type_of% @Prg.spl_row) ∧ (type_of% @Prg.fr) ∧ (type_of% @Prg.lk) ∧ (type_of% @Prg.sqr) ∧ (type_of% @Prg.fm) ∧ (type_of% @Prg.sq) ∧ (type_of% @Prg.lkv) ∧ (type_of% @Prg.rsv) ∧ (type_of% @Prg.finRow) ∧ (type_of% @Prg.frRow) ∧ (type_of% @Prg.rfC) ∧ (type_of% @Prg.flat) ∧ (type_of% @Prg.of_mk) ∧ (type_of% @Prg.ofs_nil) ∧ (type_of% @Prg.ofs_cons) ∧ (type_of% @Prg.ofs_app) ∧ (type_of% @Prg.cell_sl) ∧ (type_of% @Prg.cut_mods) ∧ (type_of% @Prg.mods_mk) ∧ (type_of% @Prg.spl_mods) ∧ (type_of% @Prg.spl_mods_vsl) ∧ (type_of% @Prg.spl_mods_nils) ∧ (type_of% @Prg.spl_mods_rowV) ∧ (type_of% @Prg.cut_defs) ∧ (type_of% @Prg.defs_mk) ∧ (type_of% @Prg.spl_defs) ∧ (type_of% @Prg.spl_defs_vsl) ∧ (type_of% @Prg.spl_defs_nils) ∧ (type_of% @Prg.spl_defs_rowV) ∧ (type_of% @hite_ne) ∧ (type_of% @hite_eq) ∧ (type_of% @dec_ne) ∧ (type_of% @vStore_row) ∧ (type_of% @vBox_row) ∧ (type_of% @fill1_row) ∧ (type_of% @rf_row) ∧ (type_of% @hputs_ite_ne) ∧ (type_of% @eqIdn) ∧ (type_of% @eqIdn_r) ∧ (type_of% @eqIdn_l) ∧ (type_of% @cI_int) ∧ (type_of% @cS_str) ∧ (type_of% @cSs_sl) ∧ (type_of% @clr_nil) ∧ (type_of% @fl_some) ∧ (type_of% @fl1_some) ∧ (type_of% @vAppendZ_nils) ∧ (type_of% @cw1_L) ∧ (type_of% @cw1_0) ∧ (type_of% @cwr_ret) ∧ (type_of% @cwr_panic) ∧ (type_of% @cwv_def) ∧ (type_of% @finX_some) ∧ (type_of% @finY_some) ∧ (type_of% @finW_ret) ∧ (type_of% @finW_normal) ∧ (type_of% @finW_panic) ∧ (type_of% @hl_nil) ∧ (type_of% @hl_cons) ∧ (type_of% @closedX_nil) ∧ (type_of% @closedX_cons) ∧ (type_of% @clX_some) ∧ (type_of% @zipO_nil) ∧ (type_of% @zipO_cons) ∧ (type_of% @reachO_some) ∧ (type_of% @rchR_some) ∧ (type_of% @reach_nil) ∧ (type_of% @reach_cons) ∧ (type_of% @rrC_some) ∧ (type_of% @rr_nil) ∧ (type_of% @rr_true) ∧ (type_of% @rr_false) ∧ (type_of% @rr_end) ∧ (type_of% @rf_int) ∧ (type_of% @rf_bool) ∧ (type_of% @rf_str) ∧ (type_of% @rf_nilp) ∧ (type_of% @rf_nils) ∧ (type_of% @rf_nilf) ∧ (type_of% @rf_nili) ∧ (type_of% @rf_imp) ∧ (type_of% @rf_sl) ∧ (type_of% @rf_ptr) ∧ (type_of% @rf_ept) ∧ (type_of% @rf_vsl) ∧ (type_of% @rf_bsl) ∧ (type_of% @rf_iface) ∧ (type_of% @rfC_nil) ∧ (type_of% @rfC_cons) ∧ (type_of% @rf_fn) ∧ (type_of% @rf_agg) ∧ (type_of% @rf_tup) ∧ (type_of% @or_box) ∧ (type_of% @or_fbox) ∧ (type_of% @or_fvec) ∧ (type_of% @or_vec) ∧ (type_of% @fz_nilm) ∧ (type_of% @fzT_some) ∧ (type_of% @fz_true) ∧ (type_of% @fz_false) ∧ (type_of% @looksA_nilm) ∧ (type_of% @looksA_true) ∧ (type_of% @looksA_false) ∧ (type_of% @notRef_nil) ∧ (type_of% @notRef_cons) := ⟨@Idn.nrm, @Idn.lkRow, @Idn.back, @Idn.backs, @Idn.rows_len, @Idn.rows_app, @Idn.rows_snoc, @Idn.rows_get, @Idn.rows_cut, @Idn.rows_take, @Idn.rows_drop, @Idn.rows_set, @Idn.rows_nil, @Idn.cut_row, @Idn.spl_row, @Idn.fr, @Idn.lk, @Idn.sqr, @Idn.fm, @Idn.sq, @Idn.lkv, @Idn.rsv, @Idn.finRow, @Idn.frRow, @Idn.rfC, @Idn.flat, @Idn.of_mk, @Idn.ofs_nil, @Idn.ofs_cons, @Idn.ofs_app, @Idn.cell_sl, @Idn.cut_shop, @Idn.shop_mk, @Idn.spl_shop, @Idn.cut_seq, @Idn.seq_mk, @Idn.spl_seq, @Idn.cut_index, @Idn.index_mk, @Idn.spl_index, @Val.nrm, @Val.lkRow, @Val.back, @Val.backs, @Val.rows_len, @Val.rows_app, @Val.rows_snoc, @Val.rows_get, @Val.rows_cut, @Val.rows_take, @Val.rows_drop, @Val.rows_set, @Val.rows_nil, @Val.cut_row, @Val.spl_row, @Val.fr, @Val.lk, @Val.sqr, @Val.fm, @Val.sq, @Val.lkv, @Val.rsv, @Val.finRow, @Val.frRow, @Val.rfC, @Val.flat, @Val.of_mk, @Val.ofs_nil, @Val.ofs_cons, @Val.ofs_app, @Val.cell_sl, @Val.cut_kind, @Val.kind_mk, @Val.spl_kind, @Val.cut_n, @Val.n_mk, @Val.spl_n, @Val.cut_kids, @Val.kids_mk, @Val.spl_kids, @Val.spl_kids_vsl, @Val.spl_kids_nils, @Val.spl_kids_rowV, @Typ.nrm, @Typ.lkRow, @Typ.back, @Typ.backs, @Typ.rows_len, @Typ.rows_app, @Typ.rows_snoc, @Typ.rows_get, @Typ.rows_cut, @Typ.rows_take, @Typ.rows_drop, @Typ.rows_set, @Typ.rows_nil, @Typ.cut_row, @Typ.spl_row, @Typ.fr, @Typ.lk, @Typ.sqr, @Typ.fm, @Typ.sq, @Typ.lkv, @Typ.rsv, @Typ.finRow, @Typ.frRow, @Typ.rfC, @Typ.flat, @Typ.of_mk, @Typ.ofs_nil, @Typ.ofs_cons, @Typ.ofs_app, @Typ.cell_sl, @Typ.cut_kind, @Typ.kind_mk, @Typ.spl_kind, @Typ.cut_ref, @Typ.ref_mk, @Typ.spl_ref, @Typ.cut_kids, @Typ.kids_mk, @Typ.spl_kids, @Typ.spl_kids_vsl, @Typ.spl_kids_nils, @Typ.spl_kids_rowV, @Slt.nrm, @Slt.lkRow, @Slt.back, @Slt.backs, @Slt.rows_len, @Slt.rows_app, @Slt.rows_snoc, @Slt.rows_get, @Slt.rows_cut, @Slt.rows_take, @Slt.rows_drop, @Slt.rows_set, @Slt.rows_nil, @Slt.cut_row, @Slt.spl_row, @Slt.fr, @Slt.lk, @Slt.sqr, @Slt.fm, @Slt.sq, @Slt.lkv, @Slt.rsv, @Slt.finRow, @Slt.frRow, @Slt.rfC, @Slt.flat, @Slt.of_mk, @Slt.ofs_nil, @Slt.ofs_cons, @Slt.ofs_app, @Slt.cell_sl, @Slt.cut_id, @Slt.id_mk, @Slt.spl_id, @Slt.cut_name, @Slt.name_mk, @Slt.spl_name, @Slt.cut_ty, @Slt.ty_mk, @Slt.spl_ty, @Slt.cut_most, @Slt.most_mk, @Slt.spl_most, @Slt.cut_place, @Slt.place_mk, @Slt.spl_place, @Exr.nrm, @Exr.lkRow, @Exr.back, @Exr.backs, @Exr.rows_len, @Exr.rows_app, @Exr.rows_snoc, @Exr.rows_get, @Exr.rows_cut, @Exr.rows_take, @Exr.rows_drop, @Exr.rows_set, @Exr.rows_nil, @Exr.cut_row, @Exr.spl_row, @Exr.fr, @Exr.lk, @Exr.sqr, @Exr.fm, @Exr.sq, @Exr.lkv, @Exr.rsv, @Exr.finRow, @Exr.frRow, @Exr.rfC, @Exr.flat, @Exr.of_mk, @Exr.ofs_nil, @Exr.ofs_cons, @Exr.ofs_app, @Exr.cell_sl, @Exr.cut_id, @Exr.id_mk, @Exr.spl_id, @Exr.cut_kind, @Exr.kind_mk, @Exr.spl_kind, @Exr.cut_n, @Exr.n_mk, @Exr.spl_n, @Exr.cut_ref, @Exr.ref_mk, @Exr.spl_ref, @Exr.cut_ty, @Exr.ty_mk, @Exr.spl_ty, @Exr.cut_kids, @Exr.kids_mk, @Exr.spl_kids, @Exr.spl_kids_vsl, @Exr.spl_kids_nils, @Exr.spl_kids_rowV, @Exr.cut_names, @Exr.names_mk, @Exr.spl_names, @Exr.spl_names_vsl, @Exr.spl_names_nils, @Exr.spl_names_rowV, @Dfn.nrm, @Dfn.lkRow, @Dfn.back, @Dfn.backs, @Dfn.rows_len, @Dfn.rows_app, @Dfn.rows_snoc, @Dfn.rows_get, @Dfn.rows_cut, @Dfn.rows_take, @Dfn.rows_drop, @Dfn.rows_set, @Dfn.rows_nil, @Dfn.cut_row, @Dfn.spl_row, @Dfn.fr, @Dfn.lk, @Dfn.sqr, @Dfn.fm, @Dfn.sq, @Dfn.lkv, @Dfn.rsv, @Dfn.finRow, @Dfn.frRow, @Dfn.rfC, @Dfn.flat, @Dfn.of_mk, @Dfn.ofs_nil, @Dfn.ofs_cons, @Dfn.ofs_app, @Dfn.cell_sl, @Dfn.cut_id, @Dfn.id_mk, @Dfn.spl_id, @Dfn.cut_kind, @Dfn.kind_mk, @Dfn.spl_kind, @Dfn.cut_mod, @Dfn.mod_mk, @Dfn.spl_mod, @Dfn.cut_name, @Dfn.name_mk, @Dfn.spl_name, @Dfn.cut_slots, @Dfn.slots_mk, @Dfn.spl_slots, @Dfn.spl_slots_vsl, @Dfn.spl_slots_nils, @Dfn.spl_slots_rowV, @Dfn.cut_result, @Dfn.result_mk, @Dfn.spl_result, @Dfn.cut_body, @Dfn.body_mk, @Dfn.spl_body, @Dfn.cut_place, @Dfn.place_mk, @Dfn.spl_place, @Dfn.cut_layout, @Dfn.layout_mk, @Dfn.spl_layout, @Dfn.spl_layout_vsl, @Dfn.spl_layout_nils, @Dfn.spl_layout_rowV, @Mdl.nrm, @Mdl.lkRow, @Mdl.back, @Mdl.backs, @Mdl.rows_len, @Mdl.rows_app, @Mdl.rows_snoc, @Mdl.rows_get, @Mdl.rows_cut, @Mdl.rows_take, @Mdl.rows_drop, @Mdl.rows_set, @Mdl.rows_nil, @Mdl.cut_row, @Mdl.spl_row, @Mdl.fr, @Mdl.lk, @Mdl.sqr, @Mdl.fm, @Mdl.sq, @Mdl.lkv, @Mdl.rsv, @Mdl.finRow, @Mdl.frRow, @Mdl.rfC, @Mdl.flat, @Mdl.of_mk, @Mdl.ofs_nil, @Mdl.ofs_cons, @Mdl.ofs_app, @Mdl.cell_sl, @Mdl.cut_id, @Mdl.id_mk, @Mdl.spl_id, @Mdl.cut_name, @Mdl.name_mk, @Mdl.spl_name, @Mdl.cut_uses, @Mdl.uses_mk, @Mdl.spl_uses, @Mdl.spl_uses_vsl, @Mdl.spl_uses_nils, @Mdl.spl_uses_rowV, @Mdl.cut_defs, @Mdl.defs_mk, @Mdl.spl_defs, @Mdl.spl_defs_vsl, @Mdl.spl_defs_nils, @Mdl.spl_defs_rowV, @Prg.nrm, @Prg.lkRow, @Prg.back, @Prg.backs, @Prg.rows_len, @Prg.rows_app, @Prg.rows_snoc, @Prg.rows_get, @Prg.rows_cut, @Prg.rows_take, @Prg.rows_drop, @Prg.rows_set, @Prg.rows_nil, @Prg.cut_row, @Prg.spl_row, @Prg.fr, @Prg.lk, @Prg.sqr, @Prg.fm, @Prg.sq, @Prg.lkv, @Prg.rsv, @Prg.finRow, @Prg.frRow, @Prg.rfC, @Prg.flat, @Prg.of_mk, @Prg.ofs_nil, @Prg.ofs_cons, @Prg.ofs_app, @Prg.cell_sl, @Prg.cut_mods, @Prg.mods_mk, @Prg.spl_mods, @Prg.spl_mods_vsl, @Prg.spl_mods_nils, @Prg.spl_mods_rowV, @Prg.cut_defs, @Prg.defs_mk, @Prg.spl_defs, @Prg.spl_defs_vsl, @Prg.spl_defs_nils, @Prg.spl_defs_rowV, @hite_ne, @hite_eq, @dec_ne, @vStore_row, @vBox_row, @fill1_row, @rf_row, @hputs_ite_ne, @eqIdn, @eqIdn_r, @eqIdn_l, @cI_int, @cS_str, @cSs_sl, @clr_nil, @fl_some, @fl1_some, @vAppendZ_nils, @cw1_L, @cw1_0, @cwr_ret, @cwr_panic, @cwv_def, @finX_some, @finY_some, @finW_ret, @finW_normal, @finW_panic, @hl_nil, @hl_cons, @closedX_nil, @closedX_cons, @clX_some, @zipO_nil, @zipO_cons, @reachO_some, @rchR_some, @reach_nil, @reach_cons, @rrC_some, @rr_nil, @rr_true, @rr_false, @rr_end, @rf_int, @rf_bool, @rf_str, @rf_nilp, @rf_nils, @rf_nilf, @rf_nili, @rf_imp, @rf_sl, @rf_ptr, @rf_ept, @rf_vsl, @rf_bsl, @rf_iface, @rfC_nil, @rfC_cons, @rf_fn, @rf_agg, @rf_tup, @or_box, @or_fbox, @or_fvec, @or_vec, @fz_nilm, @fzT_some, @fz_true, @fz_false, @looksA_nilm, @looksA_true, @looksA_false, @notRef_nil, @notRef_cons⟩
theorem rsW : (type_of% @op_callW) ∧ (type_of% @cw_fn) ∧ (type_of% @op_flit) ∧ (type_of% @op_appendZ) := ⟨@op_callW, @cw_fn, @op_flit, @op_appendZ⟩
theorem rsI : (type_of% @Idn.is_row) ∧ (type_of% @Idn.iss_rows) ∧ (type_of% @Idn.is_mk) ∧ (type_of% @Idn.iss_nil) ∧ (type_of% @Idn.iss_cons) ∧ (type_of% @Idn.iss_app) ∧ (type_of% @Idn.isc_sl) ∧ (type_of% @Val.is_row) ∧ (type_of% @Val.iss_rows) ∧ (type_of% @Val.is_mk) ∧ (type_of% @Val.iss_nil) ∧ (type_of% @Val.iss_cons) ∧ (type_of% @Val.iss_app) ∧ (type_of% @Val.isc_sl) ∧ (type_of% @Typ.is_row) ∧ (type_of% @Typ.iss_rows) ∧ (type_of% @Typ.is_mk) ∧ (type_of% @Typ.iss_nil) ∧ (type_of% @Typ.iss_cons) ∧ (type_of% @Typ.iss_app) ∧ (type_of% @Typ.isc_sl) ∧ (type_of% @Slt.is_row) ∧ (type_of% @Slt.iss_rows) ∧ (type_of% @Slt.is_mk) ∧ (type_of% @Slt.iss_nil) ∧ (type_of% @Slt.iss_cons) ∧ (type_of% @Slt.iss_app) ∧ (type_of% @Slt.isc_sl) ∧ (type_of% @Exr.is_row) ∧ (type_of% @Exr.iss_rows) ∧ (type_of% @Exr.is_mk) ∧ (type_of% @Exr.iss_nil) ∧ (type_of% @Exr.iss_cons) ∧ (type_of% @Exr.iss_app) ∧ (type_of% @Exr.isc_sl) ∧ (type_of% @Dfn.is_row) ∧ (type_of% @Dfn.iss_rows) ∧ (type_of% @Dfn.is_mk) ∧ (type_of% @Dfn.iss_nil) ∧ (type_of% @Dfn.iss_cons) ∧ (type_of% @Dfn.iss_app) ∧ (type_of% @Dfn.isc_sl) ∧ (type_of% @Mdl.is_row) ∧ (type_of% @Mdl.iss_rows) ∧ (type_of% @Mdl.is_mk) ∧ (type_of% @Mdl.iss_nil) ∧ (type_of% @Mdl.iss_cons) ∧ (type_of% @Mdl.iss_app) ∧ (type_of% @Mdl.isc_sl) ∧ (type_of% @Prg.is_row) ∧ (type_of% @Prg.iss_rows) ∧ (type_of% @Prg.is_mk) ∧ (type_of% @Prg.iss_nil) ∧ (type_of% @Prg.iss_cons) ∧ (type_of% @Prg.iss_app) ∧ (type_of% @Prg.isc_sl) ∧ (type_of% @isI_int) ∧ (type_of% @isS_str) ∧ (type_of% @isSs_sl) ∧ (type_of% @Bool.and_self) := ⟨@Idn.is_row, @Idn.iss_rows, @Idn.is_mk, @Idn.iss_nil, @Idn.iss_cons, @Idn.iss_app, @Idn.isc_sl, @Val.is_row, @Val.iss_rows, @Val.is_mk, @Val.iss_nil, @Val.iss_cons, @Val.iss_app, @Val.isc_sl, @Typ.is_row, @Typ.iss_rows, @Typ.is_mk, @Typ.iss_nil, @Typ.iss_cons, @Typ.iss_app, @Typ.isc_sl, @Slt.is_row, @Slt.iss_rows, @Slt.is_mk, @Slt.iss_nil, @Slt.iss_cons, @Slt.iss_app, @Slt.isc_sl, @Exr.is_row, @Exr.iss_rows, @Exr.is_mk, @Exr.iss_nil, @Exr.iss_cons, @Exr.iss_app, @Exr.isc_sl, @Dfn.is_row, @Dfn.iss_rows, @Dfn.is_mk, @Dfn.iss_nil, @Dfn.iss_cons, @Dfn.iss_app, @Dfn.isc_sl, @Mdl.is_row, @Mdl.iss_rows, @Mdl.is_mk, @Mdl.iss_nil, @Mdl.iss_cons, @Mdl.iss_app, @Mdl.isc_sl, @Prg.is_row, @Prg.iss_rows, @Prg.is_mk, @Prg.iss_nil, @Prg.iss_cons, @Prg.iss_app, @Prg.isc_sl, @isI_int, @isS_str, @isSs_sl, @Bool.and_self⟩
theorem rsL : (type_of% @bytes_len) ∧ (type_of% @strs_len) ∧ (type_of% @Idn.row_len) ∧ (type_of% @Idn.rows_len) ∧ (type_of% @Val.row_len) ∧ (type_of% @Val.rows_len) ∧ (type_of% @Typ.row_len) ∧ (type_of% @Typ.rows_len) ∧ (type_of% @Slt.row_len) ∧ (type_of% @Slt.rows_len) ∧ (type_of% @Exr.row_len) ∧ (type_of% @Exr.rows_len) ∧ (type_of% @Dfn.row_len) ∧ (type_of% @Dfn.rows_len) ∧ (type_of% @Mdl.row_len) ∧ (type_of% @Mdl.rows_len) ∧ (type_of% @Prg.row_len) ∧ (type_of% @Prg.rows_len) := ⟨@bytes_len, @strs_len, @Idn.row_len, @Idn.rows_len, @Val.row_len, @Val.rows_len, @Typ.row_len, @Typ.rows_len, @Slt.row_len, @Slt.rows_len, @Exr.row_len, @Exr.rows_len, @Dfn.row_len, @Dfn.rows_len, @Mdl.row_len, @Mdl.rows_len, @Prg.row_len, @Prg.rows_len⟩
theorem zyB : (type_of% @Nat.sub_zero) ∧ (type_of% @Nat.left_eq_add) ∧ (type_of% @Nat.add_eq_left) ∧ (type_of% @Nat.add_assoc) ∧ (type_of% @Bool.true_or) ∧ (type_of% @Bool.or_true) := ⟨@Nat.sub_zero, @Nat.left_eq_add, @Nat.add_eq_left, @Nat.add_assoc, @Bool.true_or, @Bool.or_true⟩
theorem zy0 : type_of% @Option.map_some := @Option.map_some
theorem zy1 : type_of% @Option.map_none := @Option.map_none
theorem zy2 : type_of% @Option.getD_some := @Option.getD_some
theorem zy3 : type_of% @Option.getD_none := @Option.getD_none
theorem zy4 : type_of% @List.map_cons := @List.map_cons
theorem zy5 : type_of% @List.map_nil := @List.map_nil
theorem zy6 : type_of% @List.cons_append := @List.cons_append
theorem zy7 : type_of% @List.nil_append := @List.nil_append
theorem zy8 : type_of% @List.append_nil := @List.append_nil
theorem zy9 : type_of% @List.getD_cons_zero := @List.getD_cons_zero
theorem zy10 : type_of% @List.getD_cons_succ := @List.getD_cons_succ
theorem zy11 : type_of% @List.length_cons := @List.length_cons
theorem zy12 : type_of% @List.length_nil := @List.length_nil
theorem zy13 : type_of% @List.getElem?_cons_zero := @List.getElem?_cons_zero
theorem zy14 : type_of% @List.getElem?_cons_succ := @List.getElem?_cons_succ
theorem zy15 : type_of% @List.set_cons_zero := @List.set_cons_zero
theorem zy16 : type_of% @List.set_cons_succ := @List.set_cons_succ
theorem zy17 : type_of% @List.length_set := @List.length_set
theorem zy18 : type_of% @List.length_replicate := @List.length_replicate
theorem zy19 : type_of% @List.length_map := @List.length_map
theorem zy20 : type_of% @eq_self := @eq_self
theorem zy21 : type_of% @List.flatMap_cons := @List.flatMap_cons
theorem zy22 : type_of% @List.flatMap_nil := @List.flatMap_nil
theorem zy23 : type_of% @List.all_cons := @List.all_cons
theorem zy24 : type_of% @List.all_nil := @List.all_nil
theorem zy25 : type_of% @List.isEmpty_nil := @List.isEmpty_nil
theorem zy26 : type_of% @List.isEmpty_cons := @List.isEmpty_cons
theorem zy27 : type_of% @forall_const := @forall_const
theorem zy34 : type_of% @List.length_drop := @List.length_drop
theorem zy35 : type_of% @List.length_take := @List.length_take
theorem zy36 : type_of% @List.length_append := @List.length_append
end Go.Proofs.Ytoccgkgdhobmfaa.Am.Ru
set_option maxRecDepth 100000
set_option linter.unusedVariables false
set_option linter.unusedSimpArgs false
namespace Go.Proofs.Ytoccgkgdhobmfaa.Am.Ru
open Go
def sqqR (r : Option (List V × List (Nat × AObj))) (s : Option (List (List V) × List (Nat × AObj))) : Option (List (List V) × List (Nat × AObj)) := r.bind fun r => s.map fun s => (r.1 :: s.1, r.2 ++ s.2)
theorem sqq_cons {o : Hp} (k : Nat) (r : List V) (l : List (List V)) : seqM (seqM (frz o k)) (r :: l) = sqqR (seqM (frz o k) r) (seqM (seqM (frz o k)) l) := by
  simp only [seqM, sqqR]
theorem sqqR_some (a : List V) (u : List (Nat × AObj)) (b : List (List V)) (w : List (Nat × AObj)) : sqqR (some (a, u)) (some (b, w)) = some (a :: b, u ++ w) := _root_.id rfl
theorem lkv_cons {o : Hp} (n i q : Nat) (r : List V) (l : List (List V)) : lkv n i o (.vec q (r :: l)) = i :: ((r :: l).flatMap fun l => l.flatMap (looks o n)) := _root_.id rfl
theorem frv_vec2 (st len i q : Nat) (xs ys : List (List V)) (u : List (Nat × AObj)) (h : st + len ≤ xs.length) : frv st len i (some (ys, u)) (.vec q xs) = some (.sl q ((ys.drop st).take len), (i, .fvec q ys) :: u) := by
  simp only [frv]; rw [if_pos h]; rfl
theorem Idn.spl_pre (v : Idn) (c0 c1 c2 d : V) (r : List V) : splice 0 v.row (c0 :: c1 :: c2 :: d :: r) = some ((.int .i64 v.shop) :: (.int .i64 v.seq) :: (.int .i64 v.index) :: d :: r) := by rw [Idn.row_eq]; simp only [splice_cons, splice_nil, Option.map_some]
theorem Val.spl_pre (v : Val) (c0 c1 c2 d : V) (r : List V) : splice 0 v.row (c0 :: c1 :: c2 :: d :: r) = some ((.int .i64 v.kind) :: (.int .i64 v.n) :: (.sl 3 (Val.rows v.kids)) :: d :: r) := by rw [Val.row_eq]; simp only [splice_cons, splice_nil, Option.map_some]
theorem Typ.spl_pre (v : Typ) (c0 c1 c2 c3 c4 d : V) (r : List V) : splice 0 v.row (c0 :: c1 :: c2 :: c3 :: c4 :: d :: r) = some ((.int .i64 v.kind) :: (.int .i64 v.ref.shop) :: (.int .i64 v.ref.seq) :: (.int .i64 v.ref.index) :: (.sl 5 (Typ.rows v.kids)) :: d :: r) := by rw [Typ.row_eq]; simp only [splice_cons, splice_nil, Option.map_some]
theorem Prg.spl_pre (v : Prg) (c0 c1 d : V) (r : List V) : splice 0 v.row (c0 :: c1 :: d :: r) = some ((.sl 6 (Mdl.rows v.mods)) :: (.sl 31 (Dfn.rows v.defs)) :: d :: r) := by rw [Prg.row_eq]; simp only [splice_cons, splice_nil, Option.map_some]
theorem rsY : (type_of% @Idn.spl_pre) ∧ (type_of% @Val.spl_pre) ∧ (type_of% @Typ.spl_pre) ∧ (type_of% @Prg.spl_pre) ∧ (type_of% @sqq_cons) ∧ (type_of% @sqqR_some) ∧ (type_of% @lkv_cons) ∧ (type_of% @frv_vec2) := ⟨@Idn.spl_pre, @Val.spl_pre, @Typ.spl_pre, @Prg.spl_pre, @sqq_cons, @sqqR_some, @lkv_cons, @frv_vec2⟩
end Go.Proofs.Ytoccgkgdhobmfaa.Am.Ru
set_option maxRecDepth 100000
set_option linter.unusedSimpArgs false
set_option linter.unusedVariables false
namespace Go.Proofs.Ytoccgkgdhobmfaa.Am.Ru
open Go
variable {G : Nat → Option (List V)} {E : Nat → Option (CallFn → List V → Hp → Nat → Option Out)}
/-- The functions that are proved by hand. -/
def extV (f : Nat) : Bool := ([30, 69, 83, 120] : List Nat).contains f
structure XOK (E : Nat → Option (CallFn → List V → Hp → Nat → Option Out)) : Prop where
  mono : MonoE E
  no : ∀ f, extV f = false → E f = none
theorem xrun (t : Nat) {f : Nat} {m : MF} {a : List V} {v : V} (hE : XOK E) (h0 : extV f = false) (hT : T f = some m) (hnp : a.length = m.np) (ht : Nat.ble a.length t = true)
    (h : go G (cfW G T E) (fin m.res 0 v) m.body [] ⟨e2 t (initEnv a) jk, dd, 0⟩) : valP (cfW G T E) f a = some (.ret v) := val_run t hE.mono (hE.no f h0) hT hnp (Nat.le_of_ble_eq_true ht) h
theorem xrunW (t : Nat) {f : Nat} {m : MF} {a : List V} {v : V} {o : Hp} {N : Nat} {L : List Nat} {xs : List AObj} (hE : XOK E) (h0 : extV f = false) (hT : T f = some m) (hnp : a.length = m.np) (ht : Nat.ble a.length t = true)
    (h : go G (cfW G T E) (finW m.res N L v xs) m.body [] ⟨e2 t (initEnv a) jk, o, N⟩) : valW (cfW G T E) f a o N L = some (.ret v, xs) := val_runW t hE.mono (hE.no f h0) hT hnp (Nat.le_of_ble_eq_true ht) h
end Go.Proofs.Ytoccgkgdhobmfaa.Am.Ru
set_option maxRecDepth 100000
set_option linter.unusedSimpArgs false
set_option linter.unusedVariables false
namespace Go.Proofs.Ytoccgkgdhobmfaa.Am.Ru
open Go
variable {G : Nat → Option (List V)} {E : Nat → Option (CallFn → List V → Hp → Nat → Option Out)}
theorem not_nat (w a : Nat) (h : a < 2 ^ w) : (2 ^ w - 1) ^^^ a = 2 ^ w - 1 - a := by
  have h1 : (~~~ (BitVec.ofNat w a)).toNat = 2 ^ w - 1 - a := by rw [BitVec.toNat_not, BitVec.toNat_ofNat, Nat.mod_eq_of_lt h]
  have h2 : ~~~ (BitVec.ofNat w a) = BitVec.allOnes w ^^^ BitVec.ofNat w a := BitVec.not_def
  rw [h2, BitVec.toNat_xor, BitVec.toNat_allOnes, BitVec.toNat_ofNat, Nat.mod_eq_of_lt h] at h1
  exact h1
theorem not64_eq (a : Nat) (h : a < 18446744073709551616) : not64u a = 18446744073709551615 - a := by
  have := not_nat 64 a (by simpa using h)
  unfold not64u
  rw [show (18446744073709551615 : Nat) = 2 ^ 64 - 1 from rfl, this]
  omega
theorem xor8_255 (a : Nat) (h : a < 256) : xor8 a 255 = 255 - a := by
  have := not_nat 8 a (by simpa using h)
  unfold xor8
  rw [Nat.xor_comm, show (255 : Nat) = 2 ^ 8 - 1 from rfl, this]
  omega
theorem xor8_0 (a : Nat) (h : a < 256) : xor8 a 0 = a := by unfold xor8; rw [Nat.xor_zero]; omega
/-- How many bytes a number takes, at most 'k'. -/
def kw (m : Nat) : Nat → Nat
  | 0 => 0
  | k + 1 => if 0 < shr64u m (8 * k) then k + 1 else kw m k
theorem kw_le (m k : Nat) : kw m k ≤ k := by
  induction k with
  | zero => exact Nat.le_refl _
  | succ k ih => simp only [kw]; split <;> omega
/-- The bytes of a number, each combined. -/
def wT (m f : Nat) : Nat → List UInt8
  | 0 => []
  | k + 1 => UInt8.ofNat (xor8 (shr64u m (8 * k) % 256) f) :: wT m f k
theorem wT_len (m f k : Nat) : (wT m f k).length = k := by
  induction k with
  | zero => rfl
  | succ k ih => simp [wT, ih]
def wInt (m f : Nat) : List UInt8 := UInt8.ofNat (xor8 ((128 + kw m 8) % 256) f) :: wT m f (kw m 8)
def mag (n : Int) : Nat := if n < 0 then (-1 - n).toNat else n.toNat
def flip (n : Int) : Nat := if n < 0 then 255 else 0
/-- The encoding of a number. -/
def intB (n : Int) : List UInt8 := wInt (mag n) (flip n)
theorem intB_len (n : Int) : (intB n).length = 1 + kw (mag n) 8 := by unfold intB wInt; simp [wT_len]; omega
theorem intB_lt (n : Int) : (intB n).length ≤ 9 := by rw [intB_len]; have := kw_le (mag n) 8; omega
set_option maxHeartbeats 4000000 in
/-- What is done behind the first lines. -/
theorem xwint_go (hE : XOK E) (n : Int) (m f : Nat) (h0 : -9223372036854775808 ≤ n) (h1 : n < 9223372036854775808) (hm : m = mag n) (hf : f = flip n) :
    valP (cfW G T E) 103 [.int .i64 n] = some (.ret (.own 1 (bytesV (wInt m f)))) := by
  have hmb : m < 9223372036854775808 := by subst hm; unfold mag; split <;> omega
  have hk8 := kw_le m 8
  have key : ∀ (e : Env) (k : List Fr), e 2 = .nils 1 → True := fun _ _ _ => trivial
  refine xrun 8 (m := m103) hE rfl rfl rfl rfl ?_
  have hw : n < 0 → IntKind.u64.wrap n = ((18446744073709551615 - m : Nat) : Int) := by
    intro hn; rw [w64, hm]; unfold mag; rw [if_pos hn]; omega
  have hw' : ¬ n < 0 → IntKind.u64.wrap n = ((m : Nat) : Int) := by
    intro hn; rw [w64, hm]; unfold mag; rw [if_neg hn]; omega
  have hnm : not64u (18446744073709551615 - m) = m := by rw [not64_eq _ (by omega)]; omega
  rcases Decidable.em (n < 0) with hn | hn
  case' inl =>
    have hff : f = 255 := by rw [hf]; unfold flip; rw [if_pos hn]
    simp (maxSteps := 10000000) (disch := first | assumption | omega | (simp only [List.length_map, List.length_set, List.length_replicate, List.length_drop, List.length_take, List.length_append, List.length_cons, List.length_nil, bytes_len, strs_len] <;> omega) | with_reducible exact xor8_lt _ _ | with_reducible exact or8_lt _ _ | with_reducible exact toNat_lt8 _ | with_reducible exact rowP_ok _ _ _ _ _ | with_reducible exact rowOK_nil _ _ | (apply rowOK_put <;> first | assumption | exact rowP_ok _ _ _ _ _ | omega)) only [↓rsd, rsu, ↓reduceIte, Option.map_some, Option.map_none, Option.getD_some, Option.getD_none, List.map_cons, List.map_nil, List.cons_append, List.nil_append, List.append_nil, List.getD_cons_zero, List.getD_cons_succ, List.length_cons, List.length_nil, List.getElem?_cons_zero, List.getElem?_cons_succ, List.set_cons_zero, List.set_cons_succ, Nat.reduceEqDiff, Nat.reduceBEq, Nat.reduceAdd, Nat.reduceMul, Nat.reduceSub, Int.reduceToNat, List.length_set, List.length_replicate, List.length_map, eq_self, Nat.reduceLT, Nat.reduceLeDiff, List.flatMap_cons, List.flatMap_nil, List.all_cons, List.all_nil, List.isEmpty_nil, List.isEmpty_cons, Int.reduceAdd, Int.reduceMul, Int.reduceSub, Int.reduceNeg, Int.reduceDiv, Int.reduceMod, forall_const, m103, hw hn, hnm]
  case' inr =>
    have hff : f = 0 := by rw [hf]; unfold flip; rw [if_neg hn]
    simp (maxSteps := 10000000) (disch := first | assumption | omega | (simp only [List.length_map, List.length_set, List.length_replicate, List.length_drop, List.length_take, List.length_append, List.length_cons, List.length_nil, bytes_len, strs_len] <;> omega) | with_reducible exact xor8_lt _ _ | with_reducible exact or8_lt _ _ | with_reducible exact toNat_lt8 _ | with_reducible exact rowP_ok _ _ _ _ _ | with_reducible exact rowOK_nil _ _ | (apply rowOK_put <;> first | assumption | exact rowP_ok _ _ _ _ _ | omega)) only [↓rsd, rsu, ↓reduceIte, Option.map_some, Option.map_none, Option.getD_some, Option.getD_none, List.map_cons, List.map_nil, List.cons_append, List.nil_append, List.append_nil, List.getD_cons_zero, List.getD_cons_succ, List.length_cons, List.length_nil, List.getElem?_cons_zero, List.getElem?_cons_succ, List.set_cons_zero, List.set_cons_succ, Nat.reduceEqDiff, Nat.reduceBEq, Nat.reduceAdd, Nat.reduceMul, Nat.reduceSub, Int.reduceToNat, List.length_set, List.length_replicate, List.length_map, eq_self, Nat.reduceLT, Nat.reduceLeDiff, List.flatMap_cons, List.flatMap_nil, List.all_cons, List.all_nil, List.isEmpty_nil, List.isEmpty_cons, Int.reduceAdd, Int.reduceMul, Int.reduceSub, Int.reduceNeg, Int.reduceDiv, Int.reduceMod, forall_const, m103, hw' hn]
  all_goals
    have hfb : f < 256 := by omega
    refine go_loop2 8 (fun c s => ∃ k : Nat, c = k ∧ k ≤ 8 ∧ kw m k = kw m 8 ∧ s.N = 0 ∧ s.e 3 = .int .u64 (m : Nat) ∧ s.e 4 = .int .u8 (f : Nat) ∧ s.e 5 = .int .i64 k) 8 ?_ ?_
    · refine ⟨8, rfl, Nat.le_refl _, rfl, rfl, ?_⟩
      simp (maxSteps := 10000000) (disch := first | assumption | omega | (simp only [List.length_map, List.length_set, List.length_replicate, List.length_drop, List.length_take, List.length_append, List.length_cons, List.length_nil, bytes_len, strs_len] <;> omega) | with_reducible exact xor8_lt _ _ | with_reducible exact or8_lt _ _ | with_reducible exact toNat_lt8 _ | with_reducible exact rowP_ok _ _ _ _ _ | with_reducible exact rowOK_nil _ _ | (apply rowOK_put <;> first | assumption | exact rowP_ok _ _ _ _ _ | omega)) only [↓rsd, rsu, ↓reduceIte, Option.map_some, Option.map_none, Option.getD_some, Option.getD_none, List.map_cons, List.map_nil, List.cons_append, List.nil_append, List.append_nil, List.getD_cons_zero, List.getD_cons_succ, List.length_cons, List.length_nil, List.getElem?_cons_zero, List.getElem?_cons_succ, List.set_cons_zero, List.set_cons_succ, Nat.reduceEqDiff, Nat.reduceBEq, Nat.reduceAdd, Nat.reduceMul, Nat.reduceSub, Int.reduceToNat, List.length_set, List.length_replicate, List.length_map, eq_self, Nat.reduceLT, Nat.reduceLeDiff, List.flatMap_cons, List.flatMap_nil, List.all_cons, List.all_nil, List.isEmpty_nil, List.isEmpty_cons, Int.reduceAdd, Int.reduceMul, Int.reduceSub, Int.reduceNeg, Int.reduceDiv, Int.reduceMod, forall_const]
      exact ⟨by rw [hff], rfl⟩
    · rintro c e o N ⟨k, hc, hk, hkw, rfl, e3, e4, e5⟩
      simp only at e3 e4 e5
      have hk1 : IntKind.u8.wrap (128 + (k : Int)) = (((128 + k) % 256 : Nat) : Int) := by rw [IntKind.wrap_u8]; omega
      have hc3 : (0 < k ∧ 0 < shr64u m (8 * (k - 1))) ∨ k = 0 ∨ (0 < k ∧ ¬ 0 < shr64u m (8 * (k - 1))) := by omega
      rcases hc3 with ⟨hz, hs⟩ | hz | ⟨hz, hs⟩
      case' inl =>
        have hkk : kw m 8 = k := by
          rw [← hkw]
          obtain ⟨j, rfl⟩ : ∃ j, k = j + 1 := ⟨k - 1, by omega⟩
          simp only [kw]; rw [if_pos (by simpa using hs)]
        simp (maxSteps := 10000000) (disch := first | assumption | omega | (simp only [List.length_map, List.length_set, List.length_replicate, List.length_drop, List.length_take, List.length_append, List.length_cons, List.length_nil, bytes_len, strs_len] <;> omega) | with_reducible exact xor8_lt _ _ | with_reducible exact or8_lt _ _ | with_reducible exact toNat_lt8 _ | with_reducible exact rowP_ok _ _ _ _ _ | with_reducible exact rowOK_nil _ _ | (apply rowOK_put <;> first | assumption | exact rowP_ok _ _ _ _ _ | omega)) only [↓rsd, rsu, ↓reduceIte, Option.map_some, Option.map_none, Option.getD_some, Option.getD_none, List.map_cons, List.map_nil, List.cons_append, List.nil_append, List.append_nil, List.getD_cons_zero, List.getD_cons_succ, List.length_cons, List.length_nil, List.getElem?_cons_zero, List.getElem?_cons_succ, List.set_cons_zero, List.set_cons_succ, Nat.reduceEqDiff, Nat.reduceBEq, Nat.reduceAdd, Nat.reduceMul, Nat.reduceSub, Int.reduceToNat, List.length_set, List.length_replicate, List.length_map, eq_self, Nat.reduceLT, Nat.reduceLeDiff, List.flatMap_cons, List.flatMap_nil, List.all_cons, List.all_nil, List.isEmpty_nil, List.isEmpty_cons, Int.reduceAdd, Int.reduceMul, Int.reduceSub, Int.reduceNeg, Int.reduceDiv, Int.reduceMod, forall_const, e3, e4, e5, hk1]
      case' inr.inl =>
        have hkk : kw m 8 = k := by rw [← hkw, hz]; rfl
        simp (maxSteps := 10000000) (disch := first | assumption | omega | (simp only [List.length_map, List.length_set, List.length_replicate, List.length_drop, List.length_take, List.length_append, List.length_cons, List.length_nil, bytes_len, strs_len] <;> omega) | with_reducible exact xor8_lt _ _ | with_reducible exact or8_lt _ _ | with_reducible exact toNat_lt8 _ | with_reducible exact rowP_ok _ _ _ _ _ | with_reducible exact rowOK_nil _ _ | (apply rowOK_put <;> first | assumption | exact rowP_ok _ _ _ _ _ | omega)) only [↓rsd, rsu, ↓reduceIte, Option.map_some, Option.map_none, Option.getD_some, Option.getD_none, List.map_cons, List.map_nil, List.cons_append, List.nil_append, List.append_nil, List.getD_cons_zero, List.getD_cons_succ, List.length_cons, List.length_nil, List.getElem?_cons_zero, List.getElem?_cons_succ, List.set_cons_zero, List.set_cons_succ, Nat.reduceEqDiff, Nat.reduceBEq, Nat.reduceAdd, Nat.reduceMul, Nat.reduceSub, Int.reduceToNat, List.length_set, List.length_replicate, List.length_map, eq_self, Nat.reduceLT, Nat.reduceLeDiff, List.flatMap_cons, List.flatMap_nil, List.all_cons, List.all_nil, List.isEmpty_nil, List.isEmpty_cons, Int.reduceAdd, Int.reduceMul, Int.reduceSub, Int.reduceNeg, Int.reduceDiv, Int.reduceMod, forall_const, e3, e4, e5, hk1]
      case inr.inr =>
        simp (maxSteps := 10000000) (disch := first | assumption | omega | (simp only [List.length_map, List.length_set, List.length_replicate, List.length_drop, List.length_take, List.length_append, List.length_cons, List.length_nil, bytes_len, strs_len] <;> omega) | with_reducible exact xor8_lt _ _ | with_reducible exact or8_lt _ _ | with_reducible exact toNat_lt8 _ | with_reducible exact rowP_ok _ _ _ _ _ | with_reducible exact rowOK_nil _ _ | (apply rowOK_put <;> first | assumption | exact rowP_ok _ _ _ _ _ | omega)) only [↓rsd, rsu, ↓reduceIte, Option.map_some, Option.map_none, Option.getD_some, Option.getD_none, List.map_cons, List.map_nil, List.cons_append, List.nil_append, List.append_nil, List.getD_cons_zero, List.getD_cons_succ, List.length_cons, List.length_nil, List.getElem?_cons_zero, List.getElem?_cons_succ, List.set_cons_zero, List.set_cons_succ, Nat.reduceEqDiff, Nat.reduceBEq, Nat.reduceAdd, Nat.reduceMul, Nat.reduceSub, Int.reduceToNat, List.length_set, List.length_replicate, List.length_map, eq_self, Nat.reduceLT, Nat.reduceLeDiff, List.flatMap_cons, List.flatMap_nil, List.all_cons, List.all_nil, List.isEmpty_nil, List.isEmpty_cons, Int.reduceAdd, Int.reduceMul, Int.reduceSub, Int.reduceNeg, Int.reduceDiv, Int.reduceMod, forall_const, e3, e4, e5]
        refine ⟨_, by omega, k - 1, rfl, by omega, ?_, by congr 1; omega⟩
        rw [← hkw]
        obtain ⟨j, rfl⟩ : ∃ j, k = j + 1 := ⟨k - 1, by omega⟩
        conv => rhs; unfold kw
        rw [if_neg (by simpa using hs)]; rfl
      all_goals
        refine go_loop2 8 (fun c s => ∃ (j i : Nat) (O : List UInt8), c = j ∧ j ≤ k ∧ O.length = 1 + k - j ∧ O ++ wT m f j = wInt m f ∧ i < s.N ∧ s.e 3 = .int .u64 (m : Nat) ∧ s.e 4 = .int .u8 (f : Nat) ∧ s.e 6 = .vsl i 0 (1 + k - j) ∧ s.e 7 = .int .i64 (j - 1) ∧ s.o i = .vec 1 (bytesV O)) k ?_ ?_
        · refine ⟨k, 0, [UInt8.ofNat (xor8 ((128 + k) % 256) f)], rfl, Nat.le_refl _, by simp, ?_, Nat.zero_lt_one, ?_⟩
          · unfold wInt; rw [hkk]; rfl
          have hx := xor8_lt ((128 + k) % 256) f
          have h1k : 1 + k - k = 1 := by omega
          simp (maxSteps := 10000000) (disch := first | assumption | omega | (simp only [List.length_map, List.length_set, List.length_replicate, List.length_drop, List.length_take, List.length_append, List.length_cons, List.length_nil, bytes_len, strs_len] <;> omega) | with_reducible exact xor8_lt _ _ | with_reducible exact or8_lt _ _ | with_reducible exact toNat_lt8 _ | with_reducible exact rowP_ok _ _ _ _ _ | with_reducible exact rowOK_nil _ _ | (apply rowOK_put <;> first | assumption | exact rowP_ok _ _ _ _ _ | omega)) only [↓rsd, rsu, ↓reduceIte, Option.map_some, Option.map_none, Option.getD_some, Option.getD_none, List.map_cons, List.map_nil, List.cons_append, List.nil_append, List.append_nil, List.getD_cons_zero, List.getD_cons_succ, List.length_cons, List.length_nil, List.getElem?_cons_zero, List.getElem?_cons_succ, List.set_cons_zero, List.set_cons_succ, Nat.reduceEqDiff, Nat.reduceBEq, Nat.reduceAdd, Nat.reduceMul, Nat.reduceSub, Int.reduceToNat, List.length_set, List.length_replicate, List.length_map, eq_self, Nat.reduceLT, Nat.reduceLeDiff, List.flatMap_cons, List.flatMap_nil, List.all_cons, List.all_nil, List.isEmpty_nil, List.isEmpty_cons, Int.reduceAdd, Int.reduceMul, Int.reduceSub, Int.reduceNeg, Int.reduceDiv, Int.reduceMod, forall_const, e3, e4, e5, h1k]
          rw [bytes_one _ (by omega) (by omega)]; rfl
        · clear e3 e4 e5
          rintro c e o N ⟨j, i, O, hc, hj, hO, hw, hi, e3, e4, e6, e7, oi⟩
          simp only at hi e3 e4 e6 e7 oi
          by_cases hj0 : 0 < j
          · have hx : xor8 (shr64u m (8 * (j - 1)) % 256) f < 256 := xor8_lt _ _
            simp (maxSteps := 10000000) (disch := first | assumption | omega | (simp only [List.length_map, List.length_set, List.length_replicate, List.length_drop, List.length_take, List.length_append, List.length_cons, List.length_nil, bytes_len, strs_len] <;> omega) | with_reducible exact xor8_lt _ _ | with_reducible exact or8_lt _ _ | with_reducible exact toNat_lt8 _ | with_reducible exact rowP_ok _ _ _ _ _ | with_reducible exact rowOK_nil _ _ | (apply rowOK_put <;> first | assumption | exact rowP_ok _ _ _ _ _ | omega)) only [↓rsd, rsu, ↓reduceIte, Option.map_some, Option.map_none, Option.getD_some, Option.getD_none, List.map_cons, List.map_nil, List.cons_append, List.nil_append, List.append_nil, List.getD_cons_zero, List.getD_cons_succ, List.length_cons, List.length_nil, List.getElem?_cons_zero, List.getElem?_cons_succ, List.set_cons_zero, List.set_cons_succ, Nat.reduceEqDiff, Nat.reduceBEq, Nat.reduceAdd, Nat.reduceMul, Nat.reduceSub, Int.reduceToNat, List.length_set, List.length_replicate, List.length_map, eq_self, Nat.reduceLT, Nat.reduceLeDiff, List.flatMap_cons, List.flatMap_nil, List.all_cons, List.all_nil, List.isEmpty_nil, List.isEmpty_cons, Int.reduceAdd, Int.reduceMul, Int.reduceSub, Int.reduceNeg, Int.reduceDiv, Int.reduceMod, forall_const, e3, e4, e6, e7, oi]
            obtain ⟨q, rfl⟩ : ∃ q, j = q + 1 := ⟨j - 1, by omega⟩
            refine ⟨q, by omega, q, N, O ++ [UInt8.ofNat (xor8 (shr64u m (8 * q) % 256) f)], rfl, by omega, ?_, ?_, by omega, ?_, ?_, ?_⟩
            · simp; omega
            · rw [List.append_assoc]; exact hw
            · congr 1; omega
            · congr 1; omega
            · rw [if_pos rfl]; rfl
          · simp (maxSteps := 10000000) (disch := first | assumption | omega | (simp only [List.length_map, List.length_set, List.length_replicate, List.length_drop, List.length_take, List.length_append, List.length_cons, List.length_nil, bytes_len, strs_len] <;> omega) | with_reducible exact xor8_lt _ _ | with_reducible exact or8_lt _ _ | with_reducible exact toNat_lt8 _ | with_reducible exact rowP_ok _ _ _ _ _ | with_reducible exact rowOK_nil _ _ | (apply rowOK_put <;> first | assumption | exact rowP_ok _ _ _ _ _ | omega)) only [↓rsd, rsu, ↓reduceIte, Option.map_some, Option.map_none, Option.getD_some, Option.getD_none, List.map_cons, List.map_nil, List.cons_append, List.nil_append, List.append_nil, List.getD_cons_zero, List.getD_cons_succ, List.length_cons, List.length_nil, List.getElem?_cons_zero, List.getElem?_cons_succ, List.set_cons_zero, List.set_cons_succ, Nat.reduceEqDiff, Nat.reduceBEq, Nat.reduceAdd, Nat.reduceMul, Nat.reduceSub, Int.reduceToNat, List.length_set, List.length_replicate, List.length_map, eq_self, Nat.reduceLT, Nat.reduceLeDiff, List.flatMap_cons, List.flatMap_nil, List.all_cons, List.all_nil, List.isEmpty_nil, List.isEmpty_cons, Int.reduceAdd, Int.reduceMul, Int.reduceSub, Int.reduceNeg, Int.reduceDiv, Int.reduceMod, forall_const, e3, e4, e6, e7, oi]
            have hj00 : j = 0 := by omega
            subst hj00
            rw [← hw, wT, List.append_nil]
theorem xwint_ok (hE : XOK E) (n : Int) (h0 : -9223372036854775808 ≤ n) (h1 : n < 9223372036854775808) : valP (cfW G T E) 103 [.int .i64 n] = some (.ret (.own 1 (bytesV (intB n)))) :=
  xwint_go hE n _ _ h0 h1 rfl rfl
end Go.Proofs.Ytoccgkgdhobmfaa.Am.Ru
set_option maxRecDepth 100000
set_option linter.unusedSimpArgs false
set_option linter.unusedVariables false
namespace Go.Proofs.Ytoccgkgdhobmfaa.Am.Ru
open Go
variable {G : Nat → Option (List V)} {E : Nat → Option (CallFn → List V → Hp → Nat → Option Out)}
/-- The definition with an identifier. -/
def defOf : List Dfn → Idn → Option Dfn
  | [], _ => none
  | d :: l, i => if d.id = i then some d else defOf l i
def defD (l : List Dfn) (i : Idn) : Dfn := (defOf l i).getD Dfn.z
def defB (l : List Dfn) (i : Idn) : Bool := (defOf l i).isSome
def defI : List Dfn → Idn → Nat → Int
  | [], _, _ => -1
  | d :: l, i, k => if d.id = i then (k : Int) else defI l i (k + 1)
theorem Dz_row : Dfn.z.row = [.int .i64 0, .int .i64 0, .int .i64 0, .int .i64 0, .int .i64 0, .int .i64 0, .int .i64 0, .str [], .sl 11 [], .int .i64 0, .int .i64 0, .int .i64 0, .int .i64 0, .sl 5 [], .int .i64 0, .int .i64 0, .int .i64 0, .int .i64 0, .int .i64 0, .int .i64 0, .int .i64 0, .int .i64 0, .int .i64 0, .int .i64 0, .int .i64 0, .int .i64 0, .sl 5 [], .sl 15 [], .sl 1 [], .int .i64 0, .sl 1 []] := rfl
theorem def1_ok (hE : XOK E) (d : Dfn) (i : Idn) : valP (cfW G T E) 90 [.agg d.row, .imp i.row 0] = some (.ret (.bool (decide (d.id = i)))) := by
  refine xrun 3 (m := m90) hE rfl rfl rfl rfl ?_
  simp (maxSteps := 10000000) (disch := first | assumption | omega | (simp only [zy19, zy17, zy18, zy34, zy35, zy36, zy11, zy12, rsL] <;> omega) | with_reducible exact rowOK_nil _ _ | ((repeat' apply rowOK_put) <;> first | assumption | exact rowP_ok _ _ _ _ _ | omega) | (simp only [rsI]; done)) only [↓rsW, ↓rsd, rsu, rsX, zyB, Int.reduceEq, ↓reduceIte, zy0, zy1, zy2, zy3, zy4, zy5, zy6, zy7, zy8, zy9, zy10, zy11, zy12, zy13, zy14, zy15, zy16, Nat.reduceEqDiff, Nat.reduceBEq, Nat.reduceAdd, Nat.reduceMul, Nat.reduceSub, Int.reduceToNat, zy17, zy18, zy19, zy20, Nat.reduceLT, Nat.reduceLeDiff, zy21, zy22, zy23, zy24, zy25, zy26, Int.reduceAdd, Int.reduceMul, Int.reduceSub, Int.reduceNeg, Int.reduceDiv, Int.reduceMod, zy27, m90]
theorem drop_getD {α : Type} (l : List α) (k : Nat) (z : α) (h : k < l.length) : l.drop k = l.getD k z :: l.drop (k + 1) := by
  rw [List.drop_eq_getElem_cons h, List.getD_eq_getElem?_getD, List.getElem?_eq_getElem h]; rfl
theorem defI_drop (l : List Dfn) (i : Idn) (k : Nat) (h : k < l.length) : defI (l.drop k) i k = if (l.getD k Dfn.z).id = i then (k : Int) else defI (l.drop (k + 1)) i (k + 1) := by
  rw [drop_getD l k Dfn.z h]; rfl
theorem indexDef_ok (hE : XOK E) (l : List Dfn) (i : Idn) (hl : l.length < 9223372036854775808) : valP (cfW G T E) 89 [.sl 31 (Dfn.rows l), .fn 90 [.imp i.row 0]] = some (.ret (.int .i64 (defI l i 0))) := by
  refine xrun 6 (m := m89) hE rfl rfl rfl rfl ?_
  simp (maxSteps := 10000000) (disch := first | assumption | omega | (simp only [zy19, zy17, zy18, zy34, zy35, zy36, zy11, zy12, rsL] <;> omega) | with_reducible exact rowOK_nil _ _ | ((repeat' apply rowOK_put) <;> first | assumption | exact rowP_ok _ _ _ _ _ | omega) | (simp only [rsI]; done)) only [↓rsW, ↓rsd, rsu, rsX, zyB, Int.reduceEq, ↓reduceIte, zy0, zy1, zy2, zy3, zy4, zy5, zy6, zy7, zy8, zy9, zy10, zy11, zy12, zy13, zy14, zy15, zy16, Nat.reduceEqDiff, Nat.reduceBEq, Nat.reduceAdd, Nat.reduceMul, Nat.reduceSub, Int.reduceToNat, zy17, zy18, zy19, zy20, Nat.reduceLT, Nat.reduceLeDiff, zy21, zy22, zy23, zy24, zy25, zy26, Int.reduceAdd, Int.reduceMul, Int.reduceSub, Int.reduceNeg, Int.reduceDiv, Int.reduceMod, zy27, m89]
  refine go_loop2 6 (fun n s => ∃ k : Nat, n = l.length - k ∧ k ≤ l.length ∧ s.e 0 = .sl 31 (Dfn.rows l) ∧ s.e 1 = .fn 90 [.imp i.row 0] ∧ s.e 7 = .int .i64 l.length ∧ s.e 8 = .int .i64 k ∧ defI (l.drop k) i k = defI l i 0) l.length ?_ ?_
  · refine ⟨0, rfl, by omega, ?_⟩
    simp (maxSteps := 10000000) (disch := first | assumption | omega | (simp only [zy19, zy17, zy18, zy34, zy35, zy36, zy11, zy12, rsL] <;> omega) | with_reducible exact rowOK_nil _ _ | ((repeat' apply rowOK_put) <;> first | assumption | exact rowP_ok _ _ _ _ _ | omega) | (simp only [rsI]; done)) only [↓rsW, ↓rsd, rsu, rsX, zyB, Int.reduceEq, ↓reduceIte, zy0, zy1, zy2, zy3, zy4, zy5, zy6, zy7, zy8, zy9, zy10, zy11, zy12, zy13, zy14, zy15, zy16, Nat.reduceEqDiff, Nat.reduceBEq, Nat.reduceAdd, Nat.reduceMul, Nat.reduceSub, Int.reduceToNat, zy17, zy18, zy19, zy20, Nat.reduceLT, Nat.reduceLeDiff, zy21, zy22, zy23, zy24, zy25, zy26, Int.reduceAdd, Int.reduceMul, Int.reduceSub, Int.reduceNeg, Int.reduceDiv, Int.reduceMod, zy27]
    rfl
  · rintro n e o N ⟨k, hn, hk, e0, e1, e7, e8, hI⟩
    simp only at e0 e1 e7 e8
    by_cases hlt : k < l.length
    · rw [defI_drop l i k hlt] at hI
      by_cases hq : (l.getD k Dfn.z).id = i
      · rw [if_pos hq] at hI
        simp (maxSteps := 10000000) (disch := first | assumption | omega | (simp only [zy19, zy17, zy18, zy34, zy35, zy36, zy11, zy12, rsL] <;> omega) | with_reducible exact rowOK_nil _ _ | ((repeat' apply rowOK_put) <;> first | assumption | exact rowP_ok _ _ _ _ _ | omega) | (simp only [rsI]; done)) only [↓rsW, ↓rsd, rsu, rsX, zyB, Int.reduceEq, ↓reduceIte, zy0, zy1, zy2, zy3, zy4, zy5, zy6, zy7, zy8, zy9, zy10, zy11, zy12, zy13, zy14, zy15, zy16, Nat.reduceEqDiff, Nat.reduceBEq, Nat.reduceAdd, Nat.reduceMul, Nat.reduceSub, Int.reduceToNat, zy17, zy18, zy19, zy20, Nat.reduceLT, Nat.reduceLeDiff, zy21, zy22, zy23, zy24, zy25, zy26, Int.reduceAdd, Int.reduceMul, Int.reduceSub, Int.reduceNeg, Int.reduceDiv, Int.reduceMod, zy27, e0, e1, e7, e8, def1_ok hE, hq]
        rw [hI]
      · rw [if_neg hq] at hI
        simp (maxSteps := 10000000) (disch := first | assumption | omega | (simp only [zy19, zy17, zy18, zy34, zy35, zy36, zy11, zy12, rsL] <;> omega) | with_reducible exact rowOK_nil _ _ | ((repeat' apply rowOK_put) <;> first | assumption | exact rowP_ok _ _ _ _ _ | omega) | (simp only [rsI]; done)) only [↓rsW, ↓rsd, rsu, rsX, zyB, Int.reduceEq, ↓reduceIte, zy0, zy1, zy2, zy3, zy4, zy5, zy6, zy7, zy8, zy9, zy10, zy11, zy12, zy13, zy14, zy15, zy16, Nat.reduceEqDiff, Nat.reduceBEq, Nat.reduceAdd, Nat.reduceMul, Nat.reduceSub, Int.reduceToNat, zy17, zy18, zy19, zy20, Nat.reduceLT, Nat.reduceLeDiff, zy21, zy22, zy23, zy24, zy25, zy26, Int.reduceAdd, Int.reduceMul, Int.reduceSub, Int.reduceNeg, Int.reduceDiv, Int.reduceMod, zy27, e0, e1, e7, e8, def1_ok hE, hq]
        exact ⟨_, by omega, k + 1, rfl, by omega, rfl, hI⟩
    · have hk' : k = l.length := by omega
      subst hk'
      simp (maxSteps := 10000000) (disch := first | assumption | omega | (simp only [zy19, zy17, zy18, zy34, zy35, zy36, zy11, zy12, rsL] <;> omega) | with_reducible exact rowOK_nil _ _ | ((repeat' apply rowOK_put) <;> first | assumption | exact rowP_ok _ _ _ _ _ | omega) | (simp only [rsI]; done)) only [↓rsW, ↓rsd, rsu, rsX, zyB, Int.reduceEq, ↓reduceIte, zy0, zy1, zy2, zy3, zy4, zy5, zy6, zy7, zy8, zy9, zy10, zy11, zy12, zy13, zy14, zy15, zy16, Nat.reduceEqDiff, Nat.reduceBEq, Nat.reduceAdd, Nat.reduceMul, Nat.reduceSub, Int.reduceToNat, zy17, zy18, zy19, zy20, Nat.reduceLT, Nat.reduceLeDiff, zy21, zy22, zy23, zy24, zy25, zy26, Int.reduceAdd, Int.reduceMul, Int.reduceSub, Int.reduceNeg, Int.reduceDiv, Int.reduceMod, zy27, e0, e1, e7, e8]
      rw [← hI, List.drop_length]
      rfl
theorem defI_spec : ∀ (l : List Dfn) (i : Idn) (k : Nat), (defI l i k = -1 ∧ defOf l i = none) ∨ ∃ j, j < l.length ∧ defI l i k = ((k + j : Nat) : Int) ∧ defOf l i = some (l.getD j Dfn.z)
  | [], _, _ => .inl ⟨rfl, rfl⟩
  | d :: l, i, k => by
    by_cases h : d.id = i
    · exact .inr ⟨0, by simp, by simp [defI, h], by simp [defOf, h]⟩
    · rcases defI_spec l i (k + 1) with ⟨h1, h2⟩ | ⟨j, h1, h2, h3⟩
      · exact .inl ⟨by simp [defI, h, h1], by simp [defOf, h, h2]⟩
      · exact .inr ⟨j + 1, by simp; omega, by simp only [defI, h, if_false, h2]; congr 1; omega, by simp only [defOf, h, if_false, h3]; rfl⟩
theorem def_ok (hE : XOK E) (p : Prg) (i : Idn) (hl : p.defs.length < 9223372036854775808) : valP (cfW G T E) 40 [.agg p.row, .agg i.row] = some (.ret (.tup [.agg (defD p.defs i).row, .bool (defB p.defs i)])) := by
  refine xrun 7 (m := m40) hE rfl rfl rfl rfl ?_
  rcases defI_spec p.defs i 0 with ⟨h1, h2⟩ | ⟨j, h1, h2, h3⟩
  · simp (maxSteps := 10000000) (disch := first | assumption | omega | (simp only [zy19, zy17, zy18, zy34, zy35, zy36, zy11, zy12, rsL] <;> omega) | with_reducible exact rowOK_nil _ _ | ((repeat' apply rowOK_put) <;> first | assumption | exact rowP_ok _ _ _ _ _ | omega) | (simp only [rsI]; done)) only [↓rsW, ↓rsd, rsu, rsX, zyB, Int.reduceEq, ↓reduceIte, zy0, zy1, zy2, zy3, zy4, zy5, zy6, zy7, zy8, zy9, zy10, zy11, zy12, zy13, zy14, zy15, zy16, Nat.reduceEqDiff, Nat.reduceBEq, Nat.reduceAdd, Nat.reduceMul, Nat.reduceSub, Int.reduceToNat, zy17, zy18, zy19, zy20, Nat.reduceLT, Nat.reduceLeDiff, zy21, zy22, zy23, zy24, zy25, zy26, Int.reduceAdd, Int.reduceMul, Int.reduceSub, Int.reduceNeg, Int.reduceDiv, Int.reduceMod, zy27, m40, indexDef_ok hE, h1]
    simp only [defD, defB, h2, Option.getD_none, Dz_row]
    rfl
  · rw [Nat.zero_add] at h2
    simp (maxSteps := 10000000) (disch := first | assumption | omega | (simp only [zy19, zy17, zy18, zy34, zy35, zy36, zy11, zy12, rsL] <;> omega) | with_reducible exact rowOK_nil _ _ | ((repeat' apply rowOK_put) <;> first | assumption | exact rowP_ok _ _ _ _ _ | omega) | (simp only [rsI]; done)) only [↓rsW, ↓rsd, rsu, rsX, zyB, Int.reduceEq, ↓reduceIte, zy0, zy1, zy2, zy3, zy4, zy5, zy6, zy7, zy8, zy9, zy10, zy11, zy12, zy13, zy14, zy15, zy16, Nat.reduceEqDiff, Nat.reduceBEq, Nat.reduceAdd, Nat.reduceMul, Nat.reduceSub, Int.reduceToNat, zy17, zy18, zy19, zy20, Nat.reduceLT, Nat.reduceLeDiff, zy21, zy22, zy23, zy24, zy25, zy26, Int.reduceAdd, Int.reduceMul, Int.reduceSub, Int.reduceNeg, Int.reduceDiv, Int.reduceMod, zy27, m40, indexDef_ok hE, h2]
    simp only [defD, defB, h3, Option.getD_some]
    rfl
end Go.Proofs.Ytoccgkgdhobmfaa.Am.Ru
set_option maxRecDepth 100000
set_option linter.unusedSimpArgs false
set_option linter.unusedVariables false
namespace Go.Proofs.Ytoccgkgdhobmfaa.Am.Ru
open Go
variable {G : Nat → Option (List V)} {E : Nat → Option (CallFn → List V → Hp → Nat → Option Out)}
theorem defOf_drop (l : List Dfn) (i : Idn) (k : Nat) (h : k < l.length) : defOf (l.drop k) i = if (l.getD k Dfn.z).id = i then some (l.getD k Dfn.z) else defOf (l.drop (k + 1)) i := by
  rw [drop_getD l k Dfn.z h]; rfl
/-- The cells of nothing in a box. -/
def DZ : List V := [.int .i64 0, .int .i64 0, .int .i64 0, .int .i64 0, .int .i64 0, .int .i64 0, .int .i64 0, .str [], .nils 11, .int .i64 0, .int .i64 0, .int .i64 0, .int .i64 0, .nils 5, .int .i64 0, .int .i64 0, .int .i64 0, .int .i64 0, .int .i64 0, .int .i64 0, .int .i64 0, .int .i64 0, .int .i64 0, .int .i64 0, .int .i64 0, .int .i64 0, .nils 5, .nils 15, .nils 1, .int .i64 0, .nils 1]
theorem rdef_ok (hE : XOK E) (p : Prg) (i : Idn) (hl : p.defs.length < 9223372036854775808) : valP (cfW G T E) 41 [.agg p.row, .agg i.row] = some (.ret (.tup [.agg (defD p.defs i).row, .bool (defB p.defs i)])) := by
  refine xrun 7 (m := m41) hE rfl rfl rfl rfl ?_
  simp (maxSteps := 10000000) (disch := first | assumption | omega | (simp only [zy19, zy17, zy18, zy34, zy35, zy36, zy11, zy12, rsL] <;> omega) | with_reducible exact rowOK_nil _ _ | ((repeat' apply rowOK_put) <;> first | assumption | exact rowP_ok _ _ _ _ _ | omega) | (simp only [rsI]; done)) only [↓rsW, ↓rsd, rsu, rsX, zyB, Int.reduceEq, ↓reduceIte, zy0, zy1, zy2, zy3, zy4, zy5, zy6, zy7, zy8, zy9, zy10, zy11, zy12, zy13, zy14, zy15, zy16, Nat.reduceEqDiff, Nat.reduceBEq, Nat.reduceAdd, Nat.reduceMul, Nat.reduceSub, Int.reduceToNat, zy17, zy18, zy19, zy20, Nat.reduceLT, Nat.reduceLeDiff, zy21, zy22, zy23, zy24, zy25, zy26, Int.reduceAdd, Int.reduceMul, Int.reduceSub, Int.reduceNeg, Int.reduceDiv, Int.reduceMod, zy27, m41]
  refine go_loop2 7 (fun n s => ∃ k : Nat, n = p.defs.length - k ∧ k ≤ p.defs.length ∧ s.N = 3 ∧ s.e 2 = .ptr 0 0 ∧ s.e 3 = .ptr 1 0 ∧ s.e 4 = .ptr 2 0 ∧ s.e 6 = .int .i64 k ∧
    s.o 0 = .box p.row ∧ s.o 1 = .box i.row ∧ s.o 2 = .box DZ ∧ defOf (p.defs.drop k) i = defOf p.defs i) p.defs.length ?_ ?_
  · refine ⟨0, rfl, by omega, rfl, ?_⟩
    simp (maxSteps := 10000000) (disch := first | assumption | omega | (simp only [zy19, zy17, zy18, zy34, zy35, zy36, zy11, zy12, rsL] <;> omega) | with_reducible exact rowOK_nil _ _ | ((repeat' apply rowOK_put) <;> first | assumption | exact rowP_ok _ _ _ _ _ | omega) | (simp only [rsI]; done)) only [↓rsW, ↓rsd, rsu, rsX, zyB, Int.reduceEq, ↓reduceIte, zy0, zy1, zy2, zy3, zy4, zy5, zy6, zy7, zy8, zy9, zy10, zy11, zy12, zy13, zy14, zy15, zy16, Nat.reduceEqDiff, Nat.reduceBEq, Nat.reduceAdd, Nat.reduceMul, Nat.reduceSub, Int.reduceToNat, zy17, zy18, zy19, zy20, Nat.reduceLT, Nat.reduceLeDiff, zy21, zy22, zy23, zy24, zy25, zy26, Int.reduceAdd, Int.reduceMul, Int.reduceSub, Int.reduceNeg, Int.reduceDiv, Int.reduceMod, zy27]
    exact ⟨rfl, rfl⟩
  · rintro n e o N ⟨k, hn, hk, rfl, e2, e3, e4, e6, o0, o1, o2, hI⟩
    simp only at e2 e3 e4 e6 o0 o1 o2
    unfold DZ at o2
    by_cases hlt : k < p.defs.length
    · rw [defOf_drop _ i k hlt] at hI
      by_cases hq : (p.defs.getD k Dfn.z).id = i
      · rw [if_pos hq] at hI
        simp (maxSteps := 10000000) (disch := first | assumption | omega | (simp only [zy19, zy17, zy18, zy34, zy35, zy36, zy11, zy12, rsL] <;> omega) | with_reducible exact rowOK_nil _ _ | ((repeat' apply rowOK_put) <;> first | assumption | exact rowP_ok _ _ _ _ _ | omega) | (simp only [rsI]; done)) only [↓rsW, ↓rsd, rsu, rsX, zyB, Int.reduceEq, ↓reduceIte, zy0, zy1, zy2, zy3, zy4, zy5, zy6, zy7, zy8, zy9, zy10, zy11, zy12, zy13, zy14, zy15, zy16, Nat.reduceEqDiff, Nat.reduceBEq, Nat.reduceAdd, Nat.reduceMul, Nat.reduceSub, Int.reduceToNat, zy17, zy18, zy19, zy20, Nat.reduceLT, Nat.reduceLeDiff, zy21, zy22, zy23, zy24, zy25, zy26, Int.reduceAdd, Int.reduceMul, Int.reduceSub, Int.reduceNeg, Int.reduceDiv, Int.reduceMod, zy27, e2, e3, e4, e6, o0, o1, o2, hq]
        simp only [defD, defB, ← hI, Option.getD_some]
        rfl
      · rw [if_neg hq] at hI
        simp (maxSteps := 10000000) (disch := first | assumption | omega | (simp only [zy19, zy17, zy18, zy34, zy35, zy36, zy11, zy12, rsL] <;> omega) | with_reducible exact rowOK_nil _ _ | ((repeat' apply rowOK_put) <;> first | assumption | exact rowP_ok _ _ _ _ _ | omega) | (simp only [rsI]; done)) only [↓rsW, ↓rsd, rsu, rsX, zyB, Int.reduceEq, ↓reduceIte, zy0, zy1, zy2, zy3, zy4, zy5, zy6, zy7, zy8, zy9, zy10, zy11, zy12, zy13, zy14, zy15, zy16, Nat.reduceEqDiff, Nat.reduceBEq, Nat.reduceAdd, Nat.reduceMul, Nat.reduceSub, Int.reduceToNat, zy17, zy18, zy19, zy20, Nat.reduceLT, Nat.reduceLeDiff, zy21, zy22, zy23, zy24, zy25, zy26, Int.reduceAdd, Int.reduceMul, Int.reduceSub, Int.reduceNeg, Int.reduceDiv, Int.reduceMod, zy27, e2, e3, e4, e6, o0, o1, o2, hq]
        exact ⟨_, by omega, k + 1, rfl, by omega, rfl, rfl, hI⟩
    · have hk' : k = p.defs.length := by omega
      subst hk'
      simp (maxSteps := 10000000) (disch := first | assumption | omega | (simp only [zy19, zy17, zy18, zy34, zy35, zy36, zy11, zy12, rsL] <;> omega) | with_reducible exact rowOK_nil _ _ | ((repeat' apply rowOK_put) <;> first | assumption | exact rowP_ok _ _ _ _ _ | omega) | (simp only [rsI]; done)) only [↓rsW, ↓rsd, rsu, rsX, zyB, Int.reduceEq, ↓reduceIte, zy0, zy1, zy2, zy3, zy4, zy5, zy6, zy7, zy8, zy9, zy10, zy11, zy12, zy13, zy14, zy15, zy16, Nat.reduceEqDiff, Nat.reduceBEq, Nat.reduceAdd, Nat.reduceMul, Nat.reduceSub, Int.reduceToNat, zy17, zy18, zy19, zy20, Nat.reduceLT, Nat.reduceLeDiff, zy21, zy22, zy23, zy24, zy25, zy26, Int.reduceAdd, Int.reduceMul, Int.reduceSub, Int.reduceNeg, Int.reduceDiv, Int.reduceMod, zy27, e2, e3, e4, e6, o0, o1, o2]
      rw [List.drop_length] at hI
      simp only [defD, defB, ← hI, Dz_row]
      rfl
mutual
def sameT : Typ → Typ → Bool
  | .mk k r ks, b => decide (k = b.kind) && (decide (r = b.ref) && (decide (ks.length = b.kids.length) && sameTs ks b.kids))
def sameTs : List Typ → List Typ → Bool
  | a :: l, b :: m => sameT a b && sameTs l m
  | _, _ => true
end
theorem sameTs_cons (a b : Typ) (l m : List Typ) : sameTs (a :: l) (b :: m) = (sameT a b && sameTs l m) := by simp only [sameTs]
theorem sameTs_nil (m : List Typ) : sameTs [] m = true := by simp only [sameTs]
theorem sameTs_drop (l m : List Typ) (k : Nat) (h : k < l.length) (h' : k < m.length) : sameTs (l.drop k) (m.drop k) = (sameT (l.getD k Typ.z) (m.getD k Typ.z) && sameTs (l.drop (k + 1)) (m.drop (k + 1))) := by
  rw [drop_getD l k Typ.z h, drop_getD m k Typ.z h', sameTs_cons]
theorem getD_mem {α : Type} (l : List α) (k : Nat) (z : α) (h : k < l.length) : l.getD k z ∈ l := by
  rw [List.getD_eq_getElem?_getD, List.getElem?_eq_getElem h]; exact List.getElem_mem h
/-- Lists of types, by a function of two. -/
theorem equalFunc_ok (hE : XOK E) (g : Nat) (l m : List Typ) (hl : l.length < 9223372036854775808) (hm : m.length < 9223372036854775808) (hg : ∀ x ∈ l, ∀ y ∈ m, valP (cfW G T E) g [.agg x.row, .agg y.row] = some (.ret (.bool (sameT x y)))) :
    valP (cfW G T E) 88 [.sl 5 (Typ.rows l), .sl 5 (Typ.rows m), .fn g []] = some (.ret (.bool (decide (l.length = m.length) && sameTs l m))) := by
  refine xrun 10 (m := m88) hE rfl rfl rfl rfl ?_
  by_cases hlen : l.length = m.length
  · have hle : ((l.length : Nat) : Int) = (m.length : Nat) := by rw [hlen]
    simp (maxSteps := 10000000) (disch := first | assumption | omega | (simp only [zy19, zy17, zy18, zy34, zy35, zy36, zy11, zy12, rsL] <;> omega) | with_reducible exact rowOK_nil _ _ | ((repeat' apply rowOK_put) <;> first | assumption | exact rowP_ok _ _ _ _ _ | omega) | (simp only [rsI]; done)) only [↓rsW, ↓rsd, rsu, rsX, zyB, Int.reduceEq, ↓reduceIte, zy0, zy1, zy2, zy3, zy4, zy5, zy6, zy7, zy8, zy9, zy10, zy11, zy12, zy13, zy14, zy15, zy16, Nat.reduceEqDiff, Nat.reduceBEq, Nat.reduceAdd, Nat.reduceMul, Nat.reduceSub, Int.reduceToNat, zy17, zy18, zy19, zy20, Nat.reduceLT, Nat.reduceLeDiff, zy21, zy22, zy23, zy24, zy25, zy26, Int.reduceAdd, Int.reduceMul, Int.reduceSub, Int.reduceNeg, Int.reduceDiv, Int.reduceMod, zy27, m88, hlen]
    refine go_loop2 10 (fun n s => ∃ k : Nat, n = l.length - k ∧ k ≤ l.length ∧ s.e 1 = .sl 5 (Typ.rows m) ∧ s.e 2 = .fn g [] ∧ s.e 15 = .sl 5 (Typ.rows l) ∧ s.e 16 = .int .i64 l.length ∧ s.e 17 = .int .i64 k ∧ sameTs (l.drop k) (m.drop k) = sameTs l m) l.length ?_ ?_
    · refine ⟨0, rfl, by omega, ?_⟩
      simp (maxSteps := 10000000) (disch := first | assumption | omega | (simp only [zy19, zy17, zy18, zy34, zy35, zy36, zy11, zy12, rsL] <;> omega) | with_reducible exact rowOK_nil _ _ | ((repeat' apply rowOK_put) <;> first | assumption | exact rowP_ok _ _ _ _ _ | omega) | (simp only [rsI]; done)) only [↓rsW, ↓rsd, rsu, rsX, zyB, Int.reduceEq, ↓reduceIte, zy0, zy1, zy2, zy3, zy4, zy5, zy6, zy7, zy8, zy9, zy10, zy11, zy12, zy13, zy14, zy15, zy16, Nat.reduceEqDiff, Nat.reduceBEq, Nat.reduceAdd, Nat.reduceMul, Nat.reduceSub, Int.reduceToNat, zy17, zy18, zy19, zy20, Nat.reduceLT, Nat.reduceLeDiff, zy21, zy22, zy23, zy24, zy25, zy26, Int.reduceAdd, Int.reduceMul, Int.reduceSub, Int.reduceNeg, Int.reduceDiv, Int.reduceMod, zy27, hlen]
      rfl
    · rintro n e o N ⟨k, hn, hk, e1, e2, e15, e16, e17, hI⟩
      simp only at e1 e2 e15 e16 e17
      by_cases hlt : k < l.length
      · have hlt' : k < m.length := by omega
        rw [sameTs_drop l m k hlt hlt'] at hI
        have hc := hg _ (getD_mem l k Typ.z hlt) _ (getD_mem m k Typ.z hlt')
        generalize hx : sameT (l.getD k Typ.z) (m.getD k Typ.z) = q at hI hc
        cases q
        · simp (maxSteps := 10000000) (disch := first | assumption | omega | (simp only [zy19, zy17, zy18, zy34, zy35, zy36, zy11, zy12, rsL] <;> omega) | with_reducible exact rowOK_nil _ _ | ((repeat' apply rowOK_put) <;> first | assumption | exact rowP_ok _ _ _ _ _ | omega) | (simp only [rsI]; done)) only [↓rsW, ↓rsd, rsu, rsX, zyB, Int.reduceEq, ↓reduceIte, zy0, zy1, zy2, zy3, zy4, zy5, zy6, zy7, zy8, zy9, zy10, zy11, zy12, zy13, zy14, zy15, zy16, Nat.reduceEqDiff, Nat.reduceBEq, Nat.reduceAdd, Nat.reduceMul, Nat.reduceSub, Int.reduceToNat, zy17, zy18, zy19, zy20, Nat.reduceLT, Nat.reduceLeDiff, zy21, zy22, zy23, zy24, zy25, zy26, Int.reduceAdd, Int.reduceMul, Int.reduceSub, Int.reduceNeg, Int.reduceDiv, Int.reduceMod, zy27, e1, e2, e15, e16, e17, hc]
          rw [← hI]; rfl
        · simp (maxSteps := 10000000) (disch := first | assumption | omega | (simp only [zy19, zy17, zy18, zy34, zy35, zy36, zy11, zy12, rsL] <;> omega) | with_reducible exact rowOK_nil _ _ | ((repeat' apply rowOK_put) <;> first | assumption | exact rowP_ok _ _ _ _ _ | omega) | (simp only [rsI]; done)) only [↓rsW, ↓rsd, rsu, rsX, zyB, Int.reduceEq, ↓reduceIte, zy0, zy1, zy2, zy3, zy4, zy5, zy6, zy7, zy8, zy9, zy10, zy11, zy12, zy13, zy14, zy15, zy16, Nat.reduceEqDiff, Nat.reduceBEq, Nat.reduceAdd, Nat.reduceMul, Nat.reduceSub, Int.reduceToNat, zy17, zy18, zy19, zy20, Nat.reduceLT, Nat.reduceLeDiff, zy21, zy22, zy23, zy24, zy25, zy26, Int.reduceAdd, Int.reduceMul, Int.reduceSub, Int.reduceNeg, Int.reduceDiv, Int.reduceMod, zy27, e1, e2, e15, e16, e17, hc]
          exact ⟨_, by omega, k + 1, rfl, by omega, rfl, by simpa using hI⟩
      · have hk' : k = l.length := by omega
        subst hk'
        rw [List.drop_length, sameTs_nil] at hI
        simp (maxSteps := 10000000) (disch := first | assumption | omega | (simp only [zy19, zy17, zy18, zy34, zy35, zy36, zy11, zy12, rsL] <;> omega) | with_reducible exact rowOK_nil _ _ | ((repeat' apply rowOK_put) <;> first | assumption | exact rowP_ok _ _ _ _ _ | omega) | (simp only [rsI]; done)) only [↓rsW, ↓rsd, rsu, rsX, zyB, Int.reduceEq, ↓reduceIte, zy0, zy1, zy2, zy3, zy4, zy5, zy6, zy7, zy8, zy9, zy10, zy11, zy12, zy13, zy14, zy15, zy16, Nat.reduceEqDiff, Nat.reduceBEq, Nat.reduceAdd, Nat.reduceMul, Nat.reduceSub, Int.reduceToNat, zy17, zy18, zy19, zy20, Nat.reduceLT, Nat.reduceLeDiff, zy21, zy22, zy23, zy24, zy25, zy26, Int.reduceAdd, Int.reduceMul, Int.reduceSub, Int.reduceNeg, Int.reduceDiv, Int.reduceMod, zy27, e1, e2, e15, e16, e17]
        rw [← hI]
  · have hle : ¬ ((l.length : Nat) : Int) = (m.length : Nat) := by omega
    simp (maxSteps := 10000000) (disch := first | assumption | omega | (simp only [zy19, zy17, zy18, zy34, zy35, zy36, zy11, zy12, rsL] <;> omega) | with_reducible exact rowOK_nil _ _ | ((repeat' apply rowOK_put) <;> first | assumption | exact rowP_ok _ _ _ _ _ | omega) | (simp only [rsI]; done)) only [↓rsW, ↓rsd, rsu, rsX, zyB, Int.reduceEq, ↓reduceIte, zy0, zy1, zy2, zy3, zy4, zy5, zy6, zy7, zy8, zy9, zy10, zy11, zy12, zy13, zy14, zy15, zy16, Nat.reduceEqDiff, Nat.reduceBEq, Nat.reduceAdd, Nat.reduceMul, Nat.reduceSub, Int.reduceToNat, zy17, zy18, zy19, zy20, Nat.reduceLT, Nat.reduceLeDiff, zy21, zy22, zy23, zy24, zy25, zy26, Int.reduceAdd, Int.reduceMul, Int.reduceSub, Int.reduceNeg, Int.reduceDiv, Int.reduceMod, zy27, m88, hlen]
mutual
def okT : Typ → Prop
  | .mk _ _ ks => ks.length < 9223372036854775808 ∧ okTs ks
def okTs : List Typ → Prop
  | [] => True
  | a :: l => okT a ∧ okTs l
end
theorem okTs_mem : ∀ {l : List Typ}, okTs l ↔ ∀ x ∈ l, okT x
  | [] => by simp [okTs]
  | a :: l => by simp only [okTs, okTs_mem (l := l), List.mem_cons, forall_eq_or_imp]
theorem okT_kids (t : Typ) : okT t ↔ t.kids.length < 9223372036854775808 ∧ ∀ x ∈ t.kids, okT x := by
  cases t; simp only [okT, okTs_mem, Typ.kids]
theorem sameT_eq (a b : Typ) : sameT a b = (decide (a.kind = b.kind) && (decide (a.ref = b.ref) && (decide (a.kids.length = b.kids.length) && sameTs a.kids b.kids))) := by cases a; simp only [sameT, Typ.kind_mk, Typ.ref_mk, Typ.kids_mk]
theorem same_ok (hE : XOK E) : ∀ a b : Typ, okT a → okT b → valP (cfW G T E) 38 [.agg a.row, .agg b.row] = some (.ret (.bool (sameT a b))) := by
  refine Typ.ind ?_
  intro a ih b ha hb
  rw [okT_kids] at ha hb
  have hrec := equalFunc_ok (G := G) hE 38 a.kids b.kids ha.1 hb.1 (fun x hx y hy => ih x hx y (ha.2 x hx) (hb.2 y hy))
  rw [sameT_eq]
  refine xrun 4 (m := m38) hE rfl rfl rfl rfl ?_
  by_cases h1 : a.kind = b.kind
  · by_cases h2 : a.ref = b.ref
    · simp (maxSteps := 10000000) (disch := first | assumption | omega | (simp only [zy19, zy17, zy18, zy34, zy35, zy36, zy11, zy12, rsL] <;> omega) | with_reducible exact rowOK_nil _ _ | ((repeat' apply rowOK_put) <;> first | assumption | exact rowP_ok _ _ _ _ _ | omega) | (simp only [rsI]; done)) only [↓rsW, ↓rsd, rsu, rsX, zyB, Int.reduceEq, ↓reduceIte, zy0, zy1, zy2, zy3, zy4, zy5, zy6, zy7, zy8, zy9, zy10, zy11, zy12, zy13, zy14, zy15, zy16, Nat.reduceEqDiff, Nat.reduceBEq, Nat.reduceAdd, Nat.reduceMul, Nat.reduceSub, Int.reduceToNat, zy17, zy18, zy19, zy20, Nat.reduceLT, Nat.reduceLeDiff, zy21, zy22, zy23, zy24, zy25, zy26, Int.reduceAdd, Int.reduceMul, Int.reduceSub, Int.reduceNeg, Int.reduceDiv, Int.reduceMod, zy27, m38, h1, h2, hrec]
    · simp (maxSteps := 10000000) (disch := first | assumption | omega | (simp only [zy19, zy17, zy18, zy34, zy35, zy36, zy11, zy12, rsL] <;> omega) | with_reducible exact rowOK_nil _ _ | ((repeat' apply rowOK_put) <;> first | assumption | exact rowP_ok _ _ _ _ _ | omega) | (simp only [rsI]; done)) only [↓rsW, ↓rsd, rsu, rsX, zyB, Int.reduceEq, ↓reduceIte, zy0, zy1, zy2, zy3, zy4, zy5, zy6, zy7, zy8, zy9, zy10, zy11, zy12, zy13, zy14, zy15, zy16, Nat.reduceEqDiff, Nat.reduceBEq, Nat.reduceAdd, Nat.reduceMul, Nat.reduceSub, Int.reduceToNat, zy17, zy18, zy19, zy20, Nat.reduceLT, Nat.reduceLeDiff, zy21, zy22, zy23, zy24, zy25, zy26, Int.reduceAdd, Int.reduceMul, Int.reduceSub, Int.reduceNeg, Int.reduceDiv, Int.reduceMod, zy27, m38, h1, h2, hrec]
  · simp (maxSteps := 10000000) (disch := first | assumption | omega | (simp only [zy19, zy17, zy18, zy34, zy35, zy36, zy11, zy12, rsL] <;> omega) | with_reducible exact rowOK_nil _ _ | ((repeat' apply rowOK_put) <;> first | assumption | exact rowP_ok _ _ _ _ _ | omega) | (simp only [rsI]; done)) only [↓rsW, ↓rsd, rsu, rsX, zyB, Int.reduceEq, ↓reduceIte, zy0, zy1, zy2, zy3, zy4, zy5, zy6, zy7, zy8, zy9, zy10, zy11, zy12, zy13, zy14, zy15, zy16, Nat.reduceEqDiff, Nat.reduceBEq, Nat.reduceAdd, Nat.reduceMul, Nat.reduceSub, Int.reduceToNat, zy17, zy18, zy19, zy20, Nat.reduceLT, Nat.reduceLeDiff, zy21, zy22, zy23, zy24, zy25, zy26, Int.reduceAdd, Int.reduceMul, Int.reduceSub, Int.reduceNeg, Int.reduceDiv, Int.reduceMod, zy27, m38, h1, hrec]
end Go.Proofs.Ytoccgkgdhobmfaa.Am.Ru
set_option maxRecDepth 100000
set_option linter.unusedSimpArgs false
set_option linter.unusedVariables false
namespace Go.Proofs.Ytoccgkgdhobmfaa.Am.Ru
open Go
variable {G : Nat → Option (List V)} {E : Nat → Option (CallFn → List V → Hp → Nat → Option Out)}
/-- A definition of a type. -/
def isTD (l : List Dfn) (i : Idn) : Bool := defB l i && (decide ((defD l i).kind = 0) || decide ((defD l i).kind = 1))
/-- A type that is valid, with so many levels at most. -/
def vT (l : List Dfn) : Nat → Typ → Bool
  | 0, _ => false
  | n + 1, t => if t.kind = 2 then decide (t.ref = Idn.mk 0 0 0) && (decide (t.kids.length = 1) && vT l n (t.kids.getD 0 Typ.z))
    else if t.kids.length = 0 then (if t.kind = 3 then isTD l t.ref else decide (t.ref = Idn.mk 0 0 0) && (decide (t.kind = 0) || decide (t.kind = 1))) else false
theorem nc1 (d : Nat) : ((d + 1 : Nat) : Int) = (d : Int) + 1 := rfl
theorem vT_succ (l : List Dfn) (n : Nat) (t : Typ) : vT l (n + 1) t = if t.kind = 2 then decide (t.ref = Idn.mk 0 0 0) && (decide (t.kids.length = 1) && vT l n (t.kids.getD 0 Typ.z))
    else if t.kids.length = 0 then (if t.kind = 3 then isTD l t.ref else decide (t.ref = Idn.mk 0 0 0) && (decide (t.kind = 0) || decide (t.kind = 1))) else false := rfl
theorem rvt_ok (hE : XOK E) (p : Prg) (hp : p.defs.length < 9223372036854775808) : ∀ (n : Nat) (t : Typ) (d : Nat), okT t → n + d = 25 → valP (cfW G T E) 87 [.agg p.row, .agg t.row, .int .i64 d] = some (.ret (.bool (vT p.defs n t))) := by
  intro n
  induction n with
  | zero =>
    intro t d ht hd
    refine xrun 9 (m := m87) hE rfl rfl rfl rfl ?_
    simp (maxSteps := 10000000) (disch := first | assumption | omega | (simp only [zy19, zy17, zy18, zy34, zy35, zy36, zy11, zy12, rsL] <;> omega) | with_reducible exact rowOK_nil _ _ | ((repeat' apply rowOK_put) <;> first | assumption | exact rowP_ok _ _ _ _ _ | omega) | (simp only [rsI]; done)) only [↓rsW, ↓rsd, rsu, rsX, zyB, Int.reduceEq, ↓reduceIte, zy0, zy1, zy2, zy3, zy4, zy5, zy6, zy7, zy8, zy9, zy10, zy11, zy12, zy13, zy14, zy15, zy16, Nat.reduceEqDiff, Nat.reduceBEq, Nat.reduceAdd, Nat.reduceMul, Nat.reduceSub, Int.reduceToNat, zy17, zy18, zy19, zy20, Nat.reduceLT, Nat.reduceLeDiff, zy21, zy22, zy23, zy24, zy25, zy26, Int.reduceAdd, Int.reduceMul, Int.reduceSub, Int.reduceNeg, Int.reduceDiv, Int.reduceMod, zy27, m87]
    rfl
  | succ n ih =>
    intro t d ht hd
    have ht' := (okT_kids t).1 ht
    rw [vT_succ]
    refine xrun 9 (m := m87) hE rfl rfl rfl rfl ?_
    by_cases k2 : t.kind = 2
    · rw [if_pos k2]
      by_cases hr : t.ref = Idn.mk 0 0 0
      · by_cases hl : t.kids.length = 1
        · have hc := ih (t.kids.getD 0 Typ.z) (d + 1) (ht'.2 _ (getD_mem _ _ _ (by omega))) (by omega)
          rw [nc1] at hc
          simp (maxSteps := 10000000) (disch := first | assumption | omega | (simp only [zy19, zy17, zy18, zy34, zy35, zy36, zy11, zy12, rsL] <;> omega) | with_reducible exact rowOK_nil _ _ | ((repeat' apply rowOK_put) <;> first | assumption | exact rowP_ok _ _ _ _ _ | omega) | (simp only [rsI]; done)) only [↓rsW, ↓rsd, rsu, rsX, zyB, Int.reduceEq, ↓reduceIte, zy0, zy1, zy2, zy3, zy4, zy5, zy6, zy7, zy8, zy9, zy10, zy11, zy12, zy13, zy14, zy15, zy16, Nat.reduceEqDiff, Nat.reduceBEq, Nat.reduceAdd, Nat.reduceMul, Nat.reduceSub, Int.reduceToNat, zy17, zy18, zy19, zy20, Nat.reduceLT, Nat.reduceLeDiff, zy21, zy22, zy23, zy24, zy25, zy26, Int.reduceAdd, Int.reduceMul, Int.reduceSub, Int.reduceNeg, Int.reduceDiv, Int.reduceMod, zy27, m87, k2, hr, hl, hc]
        · have hl' : ¬ ((t.kids.length : Nat) : Int) = 1 := by omega
          simp (maxSteps := 10000000) (disch := first | assumption | omega | (simp only [zy19, zy17, zy18, zy34, zy35, zy36, zy11, zy12, rsL] <;> omega) | with_reducible exact rowOK_nil _ _ | ((repeat' apply rowOK_put) <;> first | assumption | exact rowP_ok _ _ _ _ _ | omega) | (simp only [rsI]; done)) only [↓rsW, ↓rsd, rsu, rsX, zyB, Int.reduceEq, ↓reduceIte, zy0, zy1, zy2, zy3, zy4, zy5, zy6, zy7, zy8, zy9, zy10, zy11, zy12, zy13, zy14, zy15, zy16, Nat.reduceEqDiff, Nat.reduceBEq, Nat.reduceAdd, Nat.reduceMul, Nat.reduceSub, Int.reduceToNat, zy17, zy18, zy19, zy20, Nat.reduceLT, Nat.reduceLeDiff, zy21, zy22, zy23, zy24, zy25, zy26, Int.reduceAdd, Int.reduceMul, Int.reduceSub, Int.reduceNeg, Int.reduceDiv, Int.reduceMod, zy27, m87, k2, hr, hl]
      · simp (maxSteps := 10000000) (disch := first | assumption | omega | (simp only [zy19, zy17, zy18, zy34, zy35, zy36, zy11, zy12, rsL] <;> omega) | with_reducible exact rowOK_nil _ _ | ((repeat' apply rowOK_put) <;> first | assumption | exact rowP_ok _ _ _ _ _ | omega) | (simp only [rsI]; done)) only [↓rsW, ↓rsd, rsu, rsX, zyB, Int.reduceEq, ↓reduceIte, zy0, zy1, zy2, zy3, zy4, zy5, zy6, zy7, zy8, zy9, zy10, zy11, zy12, zy13, zy14, zy15, zy16, Nat.reduceEqDiff, Nat.reduceBEq, Nat.reduceAdd, Nat.reduceMul, Nat.reduceSub, Int.reduceToNat, zy17, zy18, zy19, zy20, Nat.reduceLT, Nat.reduceLeDiff, zy21, zy22, zy23, zy24, zy25, zy26, Int.reduceAdd, Int.reduceMul, Int.reduceSub, Int.reduceNeg, Int.reduceDiv, Int.reduceMod, zy27, m87, k2, hr]
    · rw [if_neg k2]
      by_cases hl : t.kids.length = 0
      · rw [if_pos hl]
        by_cases k3 : t.kind = 3
        · rw [if_pos k3]
          unfold isTD
          by_cases hb : defB p.defs t.ref = true
          · by_cases d0 : (defD p.defs t.ref).kind = 0
            · simp (maxSteps := 10000000) (disch := first | assumption | omega | (simp only [zy19, zy17, zy18, zy34, zy35, zy36, zy11, zy12, rsL] <;> omega) | with_reducible exact rowOK_nil _ _ | ((repeat' apply rowOK_put) <;> first | assumption | exact rowP_ok _ _ _ _ _ | omega) | (simp only [rsI]; done)) only [↓rsW, ↓rsd, rsu, rsX, zyB, Int.reduceEq, ↓reduceIte, zy0, zy1, zy2, zy3, zy4, zy5, zy6, zy7, zy8, zy9, zy10, zy11, zy12, zy13, zy14, zy15, zy16, Nat.reduceEqDiff, Nat.reduceBEq, Nat.reduceAdd, Nat.reduceMul, Nat.reduceSub, Int.reduceToNat, zy17, zy18, zy19, zy20, Nat.reduceLT, Nat.reduceLeDiff, zy21, zy22, zy23, zy24, zy25, zy26, Int.reduceAdd, Int.reduceMul, Int.reduceSub, Int.reduceNeg, Int.reduceDiv, Int.reduceMod, zy27, m87, k2, hl, k3, rdef_ok hE, hb, d0]
            · by_cases d1 : (defD p.defs t.ref).kind = 1
              · simp (maxSteps := 10000000) (disch := first | assumption | omega | (simp only [zy19, zy17, zy18, zy34, zy35, zy36, zy11, zy12, rsL] <;> omega) | with_reducible exact rowOK_nil _ _ | ((repeat' apply rowOK_put) <;> first | assumption | exact rowP_ok _ _ _ _ _ | omega) | (simp only [rsI]; done)) only [↓rsW, ↓rsd, rsu, rsX, zyB, Int.reduceEq, ↓reduceIte, zy0, zy1, zy2, zy3, zy4, zy5, zy6, zy7, zy8, zy9, zy10, zy11, zy12, zy13, zy14, zy15, zy16, Nat.reduceEqDiff, Nat.reduceBEq, Nat.reduceAdd, Nat.reduceMul, Nat.reduceSub, Int.reduceToNat, zy17, zy18, zy19, zy20, Nat.reduceLT, Nat.reduceLeDiff, zy21, zy22, zy23, zy24, zy25, zy26, Int.reduceAdd, Int.reduceMul, Int.reduceSub, Int.reduceNeg, Int.reduceDiv, Int.reduceMod, zy27, m87, k2, hl, k3, rdef_ok hE, hb, d1]
              · simp (maxSteps := 10000000) (disch := first | assumption | omega | (simp only [zy19, zy17, zy18, zy34, zy35, zy36, zy11, zy12, rsL] <;> omega) | with_reducible exact rowOK_nil _ _ | ((repeat' apply rowOK_put) <;> first | assumption | exact rowP_ok _ _ _ _ _ | omega) | (simp only [rsI]; done)) only [↓rsW, ↓rsd, rsu, rsX, zyB, Int.reduceEq, ↓reduceIte, zy0, zy1, zy2, zy3, zy4, zy5, zy6, zy7, zy8, zy9, zy10, zy11, zy12, zy13, zy14, zy15, zy16, Nat.reduceEqDiff, Nat.reduceBEq, Nat.reduceAdd, Nat.reduceMul, Nat.reduceSub, Int.reduceToNat, zy17, zy18, zy19, zy20, Nat.reduceLT, Nat.reduceLeDiff, zy21, zy22, zy23, zy24, zy25, zy26, Int.reduceAdd, Int.reduceMul, Int.reduceSub, Int.reduceNeg, Int.reduceDiv, Int.reduceMod, zy27, m87, k2, hl, k3, rdef_ok hE, hb, d0, d1]
          · have hb : defB p.defs t.ref = false := by simpa using hb
            simp (maxSteps := 10000000) (disch := first | assumption | omega | (simp only [zy19, zy17, zy18, zy34, zy35, zy36, zy11, zy12, rsL] <;> omega) | with_reducible exact rowOK_nil _ _ | ((repeat' apply rowOK_put) <;> first | assumption | exact rowP_ok _ _ _ _ _ | omega) | (simp only [rsI]; done)) only [↓rsW, ↓rsd, rsu, rsX, zyB, Int.reduceEq, ↓reduceIte, zy0, zy1, zy2, zy3, zy4, zy5, zy6, zy7, zy8, zy9, zy10, zy11, zy12, zy13, zy14, zy15, zy16, Nat.reduceEqDiff, Nat.reduceBEq, Nat.reduceAdd, Nat.reduceMul, Nat.reduceSub, Int.reduceToNat, zy17, zy18, zy19, zy20, Nat.reduceLT, Nat.reduceLeDiff, zy21, zy22, zy23, zy24, zy25, zy26, Int.reduceAdd, Int.reduceMul, Int.reduceSub, Int.reduceNeg, Int.reduceDiv, Int.reduceMod, zy27, m87, k2, hl, k3, rdef_ok hE, hb]
        · rw [if_neg k3]
          by_cases hr : t.ref = Idn.mk 0 0 0
          · by_cases k0 : t.kind = 0
            · simp (maxSteps := 10000000) (disch := first | assumption | omega | (simp only [zy19, zy17, zy18, zy34, zy35, zy36, zy11, zy12, rsL] <;> omega) | with_reducible exact rowOK_nil _ _ | ((repeat' apply rowOK_put) <;> first | assumption | exact rowP_ok _ _ _ _ _ | omega) | (simp only [rsI]; done)) only [↓rsW, ↓rsd, rsu, rsX, zyB, Int.reduceEq, ↓reduceIte, zy0, zy1, zy2, zy3, zy4, zy5, zy6, zy7, zy8, zy9, zy10, zy11, zy12, zy13, zy14, zy15, zy16, Nat.reduceEqDiff, Nat.reduceBEq, Nat.reduceAdd, Nat.reduceMul, Nat.reduceSub, Int.reduceToNat, zy17, zy18, zy19, zy20, Nat.reduceLT, Nat.reduceLeDiff, zy21, zy22, zy23, zy24, zy25, zy26, Int.reduceAdd, Int.reduceMul, Int.reduceSub, Int.reduceNeg, Int.reduceDiv, Int.reduceMod, zy27, m87, k2, hl, k3, hr, k0]
            · by_cases k1 : t.kind = 1
              · simp (maxSteps := 10000000) (disch := first | assumption | omega | (simp only [zy19, zy17, zy18, zy34, zy35, zy36, zy11, zy12, rsL] <;> omega) | with_reducible exact rowOK_nil _ _ | ((repeat' apply rowOK_put) <;> first | assumption | exact rowP_ok _ _ _ _ _ | omega) | (simp only [rsI]; done)) only [↓rsW, ↓rsd, rsu, rsX, zyB, Int.reduceEq, ↓reduceIte, zy0, zy1, zy2, zy3, zy4, zy5, zy6, zy7, zy8, zy9, zy10, zy11, zy12, zy13, zy14, zy15, zy16, Nat.reduceEqDiff, Nat.reduceBEq, Nat.reduceAdd, Nat.reduceMul, Nat.reduceSub, Int.reduceToNat, zy17, zy18, zy19, zy20, Nat.reduceLT, Nat.reduceLeDiff, zy21, zy22, zy23, zy24, zy25, zy26, Int.reduceAdd, Int.reduceMul, Int.reduceSub, Int.reduceNeg, Int.reduceDiv, Int.reduceMod, zy27, m87, k2, hl, k3, hr, k1]
              · simp (maxSteps := 10000000) (disch := first | assumption | omega | (simp only [zy19, zy17, zy18, zy34, zy35, zy36, zy11, zy12, rsL] <;> omega) | with_reducible exact rowOK_nil _ _ | ((repeat' apply rowOK_put) <;> first | assumption | exact rowP_ok _ _ _ _ _ | omega) | (simp only [rsI]; done)) only [↓rsW, ↓rsd, rsu, rsX, zyB, Int.reduceEq, ↓reduceIte, zy0, zy1, zy2, zy3, zy4, zy5, zy6, zy7, zy8, zy9, zy10, zy11, zy12, zy13, zy14, zy15, zy16, Nat.reduceEqDiff, Nat.reduceBEq, Nat.reduceAdd, Nat.reduceMul, Nat.reduceSub, Int.reduceToNat, zy17, zy18, zy19, zy20, Nat.reduceLT, Nat.reduceLeDiff, zy21, zy22, zy23, zy24, zy25, zy26, Int.reduceAdd, Int.reduceMul, Int.reduceSub, Int.reduceNeg, Int.reduceDiv, Int.reduceMod, zy27, m87, k2, hl, k3, hr, k0, k1]
          · simp (maxSteps := 10000000) (disch := first | assumption | omega | (simp only [zy19, zy17, zy18, zy34, zy35, zy36, zy11, zy12, rsL] <;> omega) | with_reducible exact rowOK_nil _ _ | ((repeat' apply rowOK_put) <;> first | assumption | exact rowP_ok _ _ _ _ _ | omega) | (simp only [rsI]; done)) only [↓rsW, ↓rsd, rsu, rsX, zyB, Int.reduceEq, ↓reduceIte, zy0, zy1, zy2, zy3, zy4, zy5, zy6, zy7, zy8, zy9, zy10, zy11, zy12, zy13, zy14, zy15, zy16, Nat.reduceEqDiff, Nat.reduceBEq, Nat.reduceAdd, Nat.reduceMul, Nat.reduceSub, Int.reduceToNat, zy17, zy18, zy19, zy20, Nat.reduceLT, Nat.reduceLeDiff, zy21, zy22, zy23, zy24, zy25, zy26, Int.reduceAdd, Int.reduceMul, Int.reduceSub, Int.reduceNeg, Int.reduceDiv, Int.reduceMod, zy27, m87, k2, hl, k3, hr]
      · rw [if_neg hl]
        have hl' : (0 : Int) < ((t.kids.length : Nat) : Int) := by omega
        simp (maxSteps := 10000000) (disch := first | assumption | omega | (simp only [zy19, zy17, zy18, zy34, zy35, zy36, zy11, zy12, rsL] <;> omega) | with_reducible exact rowOK_nil _ _ | ((repeat' apply rowOK_put) <;> first | assumption | exact rowP_ok _ _ _ _ _ | omega) | (simp only [rsI]; done)) only [↓rsW, ↓rsd, rsu, rsX, zyB, Int.reduceEq, ↓reduceIte, zy0, zy1, zy2, zy3, zy4, zy5, zy6, zy7, zy8, zy9, zy10, zy11, zy12, zy13, zy14, zy15, zy16, Nat.reduceEqDiff, Nat.reduceBEq, Nat.reduceAdd, Nat.reduceMul, Nat.reduceSub, Int.reduceToNat, zy17, zy18, zy19, zy20, Nat.reduceLT, Nat.reduceLeDiff, zy21, zy22, zy23, zy24, zy25, zy26, Int.reduceAdd, Int.reduceMul, Int.reduceSub, Int.reduceNeg, Int.reduceDiv, Int.reduceMod, zy27, m87, k2, hl]
theorem rvalid_ok (hE : XOK E) (p : Prg) (t : Typ) (hp : p.defs.length < 9223372036854775808) (ht : okT t) : valP (cfW G T E) 37 [.agg p.row, .agg t.row] = some (.ret (.bool (vT p.defs 24 t))) := by
  have hc := rvt_ok (G := G) hE p hp 24 t 1 ht rfl
  rw [show ((1 : Nat) : Int) = 1 from rfl] at hc
  refine xrun 4 (m := m37) hE rfl rfl rfl rfl ?_
  simp (maxSteps := 10000000) (disch := first | assumption | omega | (simp only [zy19, zy17, zy18, zy34, zy35, zy36, zy11, zy12, rsL] <;> omega) | with_reducible exact rowOK_nil _ _ | ((repeat' apply rowOK_put) <;> first | assumption | exact rowP_ok _ _ _ _ _ | omega) | (simp only [rsI]; done)) only [↓rsW, ↓rsd, rsu, rsX, zyB, Int.reduceEq, ↓reduceIte, zy0, zy1, zy2, zy3, zy4, zy5, zy6, zy7, zy8, zy9, zy10, zy11, zy12, zy13, zy14, zy15, zy16, Nat.reduceEqDiff, Nat.reduceBEq, Nat.reduceAdd, Nat.reduceMul, Nat.reduceSub, Int.reduceToNat, zy17, zy18, zy19, zy20, Nat.reduceLT, Nat.reduceLeDiff, zy21, zy22, zy23, zy24, zy25, zy26, Int.reduceAdd, Int.reduceMul, Int.reduceSub, Int.reduceNeg, Int.reduceDiv, Int.reduceMod, zy27, m37, hc]
theorem valid_ok (hE : XOK E) (p : Prg) (t : Typ) (hp : p.defs.length < 9223372036854775808) (ht : okT t) : valP (cfW G T E) 36 [.agg p.row, .agg t.row] = some (.ret (.bool (vT p.defs 24 t))) := by
  refine xrun 8 (m := m36) hE rfl rfl rfl rfl ?_
  simp (maxSteps := 10000000) (disch := first | assumption | omega | (simp only [zy19, zy17, zy18, zy34, zy35, zy36, zy11, zy12, rsL] <;> omega) | with_reducible exact rowOK_nil _ _ | ((repeat' apply rowOK_put) <;> first | assumption | exact rowP_ok _ _ _ _ _ | omega) | (simp only [rsI]; done)) only [↓rsW, ↓rsd, rsu, rsX, zyB, Int.reduceEq, ↓reduceIte, zy0, zy1, zy2, zy3, zy4, zy5, zy6, zy7, zy8, zy9, zy10, zy11, zy12, zy13, zy14, zy15, zy16, Nat.reduceEqDiff, Nat.reduceBEq, Nat.reduceAdd, Nat.reduceMul, Nat.reduceSub, Int.reduceToNat, zy17, zy18, zy19, zy20, Nat.reduceLT, Nat.reduceLeDiff, zy21, zy22, zy23, zy24, zy25, zy26, Int.reduceAdd, Int.reduceMul, Int.reduceSub, Int.reduceNeg, Int.reduceDiv, Int.reduceMod, zy27, m36]
  refine go_loop2 8 (fun n s => ∃ u : Typ, n ≤ 24 ∧ okT u ∧ 2 ≤ s.N ∧ s.e 2 = .ptr 0 0 ∧ s.e 3 = .ptr 1 0 ∧ s.e 5 = .int .i64 (25 - n : Int) ∧ s.o 0 = .box p.row ∧ s.o 1 = .box u.row ∧ vT p.defs n u = vT p.defs 24 t) 24 ?_ ?_
  · refine ⟨t, by omega, ht, ?_⟩
    simp (maxSteps := 10000000) (disch := first | assumption | omega | (simp only [zy19, zy17, zy18, zy34, zy35, zy36, zy11, zy12, rsL] <;> omega) | with_reducible exact rowOK_nil _ _ | ((repeat' apply rowOK_put) <;> first | assumption | exact rowP_ok _ _ _ _ _ | omega) | (simp only [rsI]; done)) only [↓rsW, ↓rsd, rsu, rsX, zyB, Int.reduceEq, ↓reduceIte, zy0, zy1, zy2, zy3, zy4, zy5, zy6, zy7, zy8, zy9, zy10, zy11, zy12, zy13, zy14, zy15, zy16, Nat.reduceEqDiff, Nat.reduceBEq, Nat.reduceAdd, Nat.reduceMul, Nat.reduceSub, Int.reduceToNat, zy17, zy18, zy19, zy20, Nat.reduceLT, Nat.reduceLeDiff, zy21, zy22, zy23, zy24, zy25, zy26, Int.reduceAdd, Int.reduceMul, Int.reduceSub, Int.reduceNeg, Int.reduceDiv, Int.reduceMod, zy27]
    rfl
  · rintro n e o N ⟨u, hn, hu, hN, e2, e3, e5, o0, o1, hI⟩
    simp only at hN e2 e3 e5 o0 o1
    have hu' := (okT_kids u).1 hu
    cases n with
    | zero =>
      simp (maxSteps := 10000000) (disch := first | assumption | omega | (simp only [zy19, zy17, zy18, zy34, zy35, zy36, zy11, zy12, rsL] <;> omega) | with_reducible exact rowOK_nil _ _ | ((repeat' apply rowOK_put) <;> first | assumption | exact rowP_ok _ _ _ _ _ | omega) | (simp only [rsI]; done)) only [↓rsW, ↓rsd, rsu, rsX, zyB, Int.reduceEq, ↓reduceIte, zy0, zy1, zy2, zy3, zy4, zy5, zy6, zy7, zy8, zy9, zy10, zy11, zy12, zy13, zy14, zy15, zy16, Nat.reduceEqDiff, Nat.reduceBEq, Nat.reduceAdd, Nat.reduceMul, Nat.reduceSub, Int.reduceToNat, zy17, zy18, zy19, zy20, Nat.reduceLT, Nat.reduceLeDiff, zy21, zy22, zy23, zy24, zy25, zy26, Int.reduceAdd, Int.reduceMul, Int.reduceSub, Int.reduceNeg, Int.reduceDiv, Int.reduceMod, zy27, e2, e3, e5, o0, o1]
      rw [← hI]; rfl
    | succ n =>
      rw [vT_succ] at hI
      have n0 : ¬ (0 = N) := by omega
      have n1 : ¬ (1 = N) := by omega
      by_cases k2 : u.kind = 2
      · rw [if_pos k2] at hI
        by_cases hr : u.ref = Idn.mk 0 0 0
        · by_cases hl : u.kids.length = 1
          · have hi : (u.kids.getD 0 Typ.z) ∈ u.kids := getD_mem _ _ _ (by omega)
            simp only [hr, hl, decide_true, Bool.true_and] at hI
            simp (maxSteps := 10000000) (disch := first | assumption | omega | (simp only [zy19, zy17, zy18, zy34, zy35, zy36, zy11, zy12, rsL] <;> omega) | with_reducible exact rowOK_nil _ _ | ((repeat' apply rowOK_put) <;> first | assumption | exact rowP_ok _ _ _ _ _ | omega) | (simp only [rsI]; done)) only [↓rsW, ↓rsd, rsu, rsX, zyB, Int.reduceEq, ↓reduceIte, zy0, zy1, zy2, zy3, zy4, zy5, zy6, zy7, zy8, zy9, zy10, zy11, zy12, zy13, zy14, zy15, zy16, Nat.reduceEqDiff, Nat.reduceBEq, Nat.reduceAdd, Nat.reduceMul, Nat.reduceSub, Int.reduceToNat, zy17, zy18, zy19, zy20, Nat.reduceLT, Nat.reduceLeDiff, zy21, zy22, zy23, zy24, zy25, zy26, Int.reduceAdd, Int.reduceMul, Int.reduceSub, Int.reduceNeg, Int.reduceDiv, Int.reduceMod, zy27, e2, e3, e5, o0, o1, k2, hr, hl, n0, n1]
            exact ⟨n, by omega, _, by omega, hu'.2 _ hi, hN, by congr 1; omega, rfl, hI⟩
          · have hl' : ¬ ((u.kids.length : Nat) : Int) = 1 := by omega
            simp only [hr, hl, decide_true, decide_false, Bool.false_and, Bool.and_false] at hI
            simp (maxSteps := 10000000) (disch := first | assumption | omega | (simp only [zy19, zy17, zy18, zy34, zy35, zy36, zy11, zy12, rsL] <;> omega) | with_reducible exact rowOK_nil _ _ | ((repeat' apply rowOK_put) <;> first | assumption | exact rowP_ok _ _ _ _ _ | omega) | (simp only [rsI]; done)) only [↓rsW, ↓rsd, rsu, rsX, zyB, Int.reduceEq, ↓reduceIte, zy0, zy1, zy2, zy3, zy4, zy5, zy6, zy7, zy8, zy9, zy10, zy11, zy12, zy13, zy14, zy15, zy16, Nat.reduceEqDiff, Nat.reduceBEq, Nat.reduceAdd, Nat.reduceMul, Nat.reduceSub, Int.reduceToNat, zy17, zy18, zy19, zy20, Nat.reduceLT, Nat.reduceLeDiff, zy21, zy22, zy23, zy24, zy25, zy26, Int.reduceAdd, Int.reduceMul, Int.reduceSub, Int.reduceNeg, Int.reduceDiv, Int.reduceMod, zy27, e2, e3, e5, o0, o1, k2, hr, hl, n0, n1]
            rw [hI]
        · simp only [hr, decide_false, Bool.false_and] at hI
          simp (maxSteps := 10000000) (disch := first | assumption | omega | (simp only [zy19, zy17, zy18, zy34, zy35, zy36, zy11, zy12, rsL] <;> omega) | with_reducible exact rowOK_nil _ _ | ((repeat' apply rowOK_put) <;> first | assumption | exact rowP_ok _ _ _ _ _ | omega) | (simp only [rsI]; done)) only [↓rsW, ↓rsd, rsu, rsX, zyB, Int.reduceEq, ↓reduceIte, zy0, zy1, zy2, zy3, zy4, zy5, zy6, zy7, zy8, zy9, zy10, zy11, zy12, zy13, zy14, zy15, zy16, Nat.reduceEqDiff, Nat.reduceBEq, Nat.reduceAdd, Nat.reduceMul, Nat.reduceSub, Int.reduceToNat, zy17, zy18, zy19, zy20, Nat.reduceLT, Nat.reduceLeDiff, zy21, zy22, zy23, zy24, zy25, zy26, Int.reduceAdd, Int.reduceMul, Int.reduceSub, Int.reduceNeg, Int.reduceDiv, Int.reduceMod, zy27, e2, e3, e5, o0, o1, k2, hr, n0, n1]
          rw [hI]
      · rw [if_neg k2] at hI
        by_cases k3 : u.kind = 3
        · by_cases hb : defB p.defs u.ref = true
          · by_cases hl : u.kids.length = 0
            · rw [if_pos hl, if_pos k3] at hI
              unfold isTD at hI
              by_cases d0 : (defD p.defs u.ref).kind = 0
              · simp only [hb, d0, decide_true, Bool.true_or, Bool.true_and] at hI
                simp (maxSteps := 10000000) (disch := first | assumption | omega | (simp only [zy19, zy17, zy18, zy34, zy35, zy36, zy11, zy12, rsL] <;> omega) | with_reducible exact rowOK_nil _ _ | ((repeat' apply rowOK_put) <;> first | assumption | exact rowP_ok _ _ _ _ _ | omega) | (simp only [rsI]; done)) only [↓rsW, ↓rsd, rsu, rsX, zyB, Int.reduceEq, ↓reduceIte, zy0, zy1, zy2, zy3, zy4, zy5, zy6, zy7, zy8, zy9, zy10, zy11, zy12, zy13, zy14, zy15, zy16, Nat.reduceEqDiff, Nat.reduceBEq, Nat.reduceAdd, Nat.reduceMul, Nat.reduceSub, Int.reduceToNat, zy17, zy18, zy19, zy20, Nat.reduceLT, Nat.reduceLeDiff, zy21, zy22, zy23, zy24, zy25, zy26, Int.reduceAdd, Int.reduceMul, Int.reduceSub, Int.reduceNeg, Int.reduceDiv, Int.reduceMod, zy27, e2, e3, e5, o0, o1, k2, hl, k3, def_ok hE, hb, d0, n0, n1]
                rw [← hI]
              · by_cases d1 : (defD p.defs u.ref).kind = 1
                · simp only [hb, d1, decide_true, Bool.or_true, Bool.true_and] at hI
                  simp (maxSteps := 10000000) (disch := first | assumption | omega | (simp only [zy19, zy17, zy18, zy34, zy35, zy36, zy11, zy12, rsL] <;> omega) | with_reducible exact rowOK_nil _ _ | ((repeat' apply rowOK_put) <;> first | assumption | exact rowP_ok _ _ _ _ _ | omega) | (simp only [rsI]; done)) only [↓rsW, ↓rsd, rsu, rsX, zyB, Int.reduceEq, ↓reduceIte, zy0, zy1, zy2, zy3, zy4, zy5, zy6, zy7, zy8, zy9, zy10, zy11, zy12, zy13, zy14, zy15, zy16, Nat.reduceEqDiff, Nat.reduceBEq, Nat.reduceAdd, Nat.reduceMul, Nat.reduceSub, Int.reduceToNat, zy17, zy18, zy19, zy20, Nat.reduceLT, Nat.reduceLeDiff, zy21, zy22, zy23, zy24, zy25, zy26, Int.reduceAdd, Int.reduceMul, Int.reduceSub, Int.reduceNeg, Int.reduceDiv, Int.reduceMod, zy27, e2, e3, e5, o0, o1, k2, hl, k3, def_ok hE, hb, d1, n0, n1]
                  rw [← hI]
                · simp only [hb, d0, d1, decide_false, Bool.or_false, Bool.and_false] at hI
                  simp (maxSteps := 10000000) (disch := first | assumption | omega | (simp only [zy19, zy17, zy18, zy34, zy35, zy36, zy11, zy12, rsL] <;> omega) | with_reducible exact rowOK_nil _ _ | ((repeat' apply rowOK_put) <;> first | assumption | exact rowP_ok _ _ _ _ _ | omega) | (simp only [rsI]; done)) only [↓rsW, ↓rsd, rsu, rsX, zyB, Int.reduceEq, ↓reduceIte, zy0, zy1, zy2, zy3, zy4, zy5, zy6, zy7, zy8, zy9, zy10, zy11, zy12, zy13, zy14, zy15, zy16, Nat.reduceEqDiff, Nat.reduceBEq, Nat.reduceAdd, Nat.reduceMul, Nat.reduceSub, Int.reduceToNat, zy17, zy18, zy19, zy20, Nat.reduceLT, Nat.reduceLeDiff, zy21, zy22, zy23, zy24, zy25, zy26, Int.reduceAdd, Int.reduceMul, Int.reduceSub, Int.reduceNeg, Int.reduceDiv, Int.reduceMod, zy27, e2, e3, e5, o0, o1, k2, hl, k3, def_ok hE, hb, d0, d1, n0, n1]
                  rw [← hI]
            · rw [if_neg hl] at hI
              have hl' : ¬ ((u.kids.length : Nat) : Int) = 0 := by omega
              by_cases d0 : (defD p.defs u.ref).kind = 0
              · simp (maxSteps := 10000000) (disch := first | assumption | omega | (simp only [zy19, zy17, zy18, zy34, zy35, zy36, zy11, zy12, rsL] <;> omega) | with_reducible exact rowOK_nil _ _ | ((repeat' apply rowOK_put) <;> first | assumption | exact rowP_ok _ _ _ _ _ | omega) | (simp only [rsI]; done)) only [↓rsW, ↓rsd, rsu, rsX, zyB, Int.reduceEq, ↓reduceIte, zy0, zy1, zy2, zy3, zy4, zy5, zy6, zy7, zy8, zy9, zy10, zy11, zy12, zy13, zy14, zy15, zy16, Nat.reduceEqDiff, Nat.reduceBEq, Nat.reduceAdd, Nat.reduceMul, Nat.reduceSub, Int.reduceToNat, zy17, zy18, zy19, zy20, Nat.reduceLT, Nat.reduceLeDiff, zy21, zy22, zy23, zy24, zy25, zy26, Int.reduceAdd, Int.reduceMul, Int.reduceSub, Int.reduceNeg, Int.reduceDiv, Int.reduceMod, zy27, e2, e3, e5, o0, o1, k2, hl, k3, def_ok hE, hb, d0, n0, n1]
                rw [← hI]
              · by_cases d1 : (defD p.defs u.ref).kind = 1
                · simp (maxSteps := 10000000) (disch := first | assumption | omega | (simp only [zy19, zy17, zy18, zy34, zy35, zy36, zy11, zy12, rsL] <;> omega) | with_reducible exact rowOK_nil _ _ | ((repeat' apply rowOK_put) <;> first | assumption | exact rowP_ok _ _ _ _ _ | omega) | (simp only [rsI]; done)) only [↓rsW, ↓rsd, rsu, rsX, zyB, Int.reduceEq, ↓reduceIte, zy0, zy1, zy2, zy3, zy4, zy5, zy6, zy7, zy8, zy9, zy10, zy11, zy12, zy13, zy14, zy15, zy16, Nat.reduceEqDiff, Nat.reduceBEq, Nat.reduceAdd, Nat.reduceMul, Nat.reduceSub, Int.reduceToNat, zy17, zy18, zy19, zy20, Nat.reduceLT, Nat.reduceLeDiff, zy21, zy22, zy23, zy24, zy25, zy26, Int.reduceAdd, Int.reduceMul, Int.reduceSub, Int.reduceNeg, Int.reduceDiv, Int.reduceMod, zy27, e2, e3, e5, o0, o1, k2, hl, k3, def_ok hE, hb, d1, n0, n1]
                  rw [← hI]
                · simp (maxSteps := 10000000) (disch := first | assumption | omega | (simp only [zy19, zy17, zy18, zy34, zy35, zy36, zy11, zy12, rsL] <;> omega) | with_reducible exact rowOK_nil _ _ | ((repeat' apply rowOK_put) <;> first | assumption | exact rowP_ok _ _ _ _ _ | omega) | (simp only [rsI]; done)) only [↓rsW, ↓rsd, rsu, rsX, zyB, Int.reduceEq, ↓reduceIte, zy0, zy1, zy2, zy3, zy4, zy5, zy6, zy7, zy8, zy9, zy10, zy11, zy12, zy13, zy14, zy15, zy16, Nat.reduceEqDiff, Nat.reduceBEq, Nat.reduceAdd, Nat.reduceMul, Nat.reduceSub, Int.reduceToNat, zy17, zy18, zy19, zy20, Nat.reduceLT, Nat.reduceLeDiff, zy21, zy22, zy23, zy24, zy25, zy26, Int.reduceAdd, Int.reduceMul, Int.reduceSub, Int.reduceNeg, Int.reduceDiv, Int.reduceMod, zy27, e2, e3, e5, o0, o1, k2, hl, k3, def_ok hE, hb, d0, d1, n0, n1]
                  rw [← hI]
          · have hb : defB p.defs u.ref = false := by simpa using hb
            have hI' : vT p.defs 24 t = false := by rw [← hI]; unfold isTD; simp [hb, k3]
            simp (maxSteps := 10000000) (disch := first | assumption | omega | (simp only [zy19, zy17, zy18, zy34, zy35, zy36, zy11, zy12, rsL] <;> omega) | with_reducible exact rowOK_nil _ _ | ((repeat' apply rowOK_put) <;> first | assumption | exact rowP_ok _ _ _ _ _ | omega) | (simp only [rsI]; done)) only [↓rsW, ↓rsd, rsu, rsX, zyB, Int.reduceEq, ↓reduceIte, zy0, zy1, zy2, zy3, zy4, zy5, zy6, zy7, zy8, zy9, zy10, zy11, zy12, zy13, zy14, zy15, zy16, Nat.reduceEqDiff, Nat.reduceBEq, Nat.reduceAdd, Nat.reduceMul, Nat.reduceSub, Int.reduceToNat, zy17, zy18, zy19, zy20, Nat.reduceLT, Nat.reduceLeDiff, zy21, zy22, zy23, zy24, zy25, zy26, Int.reduceAdd, Int.reduceMul, Int.reduceSub, Int.reduceNeg, Int.reduceDiv, Int.reduceMod, zy27, e2, e3, e5, o0, o1, k2, k3, def_ok hE, hb, n0, n1]
            rw [hI']
        · by_cases k01 : u.kind = 0 ∨ u.kind = 1
          · have hk : (decide (u.kind = 0) || decide (u.kind = 1)) = true := by simpa using k01
            by_cases hr : u.ref = Idn.mk 0 0 0
            · by_cases hl : u.kids.length = 0
              · rw [if_pos hl, if_neg k3, hk] at hI
                simp only [hr, decide_true, Bool.true_and] at hI
                rcases k01 with k0 | k0
                all_goals
                  simp (maxSteps := 10000000) (disch := first | assumption | omega | (simp only [zy19, zy17, zy18, zy34, zy35, zy36, zy11, zy12, rsL] <;> omega) | with_reducible exact rowOK_nil _ _ | ((repeat' apply rowOK_put) <;> first | assumption | exact rowP_ok _ _ _ _ _ | omega) | (simp only [rsI]; done)) only [↓rsW, ↓rsd, rsu, rsX, zyB, Int.reduceEq, ↓reduceIte, zy0, zy1, zy2, zy3, zy4, zy5, zy6, zy7, zy8, zy9, zy10, zy11, zy12, zy13, zy14, zy15, zy16, Nat.reduceEqDiff, Nat.reduceBEq, Nat.reduceAdd, Nat.reduceMul, Nat.reduceSub, Int.reduceToNat, zy17, zy18, zy19, zy20, Nat.reduceLT, Nat.reduceLeDiff, zy21, zy22, zy23, zy24, zy25, zy26, Int.reduceAdd, Int.reduceMul, Int.reduceSub, Int.reduceNeg, Int.reduceDiv, Int.reduceMod, zy27, e2, e3, e5, o0, o1, k0, hl, hr, n0, n1]
                  rw [← hI]
              · rw [if_neg hl] at hI
                have hl' : ¬ ((u.kids.length : Nat) : Int) = 0 := by omega
                rcases k01 with k0 | k0
                all_goals
                  simp (maxSteps := 10000000) (disch := first | assumption | omega | (simp only [zy19, zy17, zy18, zy34, zy35, zy36, zy11, zy12, rsL] <;> omega) | with_reducible exact rowOK_nil _ _ | ((repeat' apply rowOK_put) <;> first | assumption | exact rowP_ok _ _ _ _ _ | omega) | (simp only [rsI]; done)) only [↓rsW, ↓rsd, rsu, rsX, zyB, Int.reduceEq, ↓reduceIte, zy0, zy1, zy2, zy3, zy4, zy5, zy6, zy7, zy8, zy9, zy10, zy11, zy12, zy13, zy14, zy15, zy16, Nat.reduceEqDiff, Nat.reduceBEq, Nat.reduceAdd, Nat.reduceMul, Nat.reduceSub, Int.reduceToNat, zy17, zy18, zy19, zy20, Nat.reduceLT, Nat.reduceLeDiff, zy21, zy22, zy23, zy24, zy25, zy26, Int.reduceAdd, Int.reduceMul, Int.reduceSub, Int.reduceNeg, Int.reduceDiv, Int.reduceMod, zy27, e2, e3, e5, o0, o1, k0, hl, hr, n0, n1]
                  rw [← hI]
            · have hI' : vT p.defs 24 t = false := by rw [← hI]; simp [hr, k3]
              rcases k01 with k0 | k0
              all_goals
                simp (maxSteps := 10000000) (disch := first | assumption | omega | (simp only [zy19, zy17, zy18, zy34, zy35, zy36, zy11, zy12, rsL] <;> omega) | with_reducible exact rowOK_nil _ _ | ((repeat' apply rowOK_put) <;> first | assumption | exact rowP_ok _ _ _ _ _ | omega) | (simp only [rsI]; done)) only [↓rsW, ↓rsd, rsu, rsX, zyB, Int.reduceEq, ↓reduceIte, zy0, zy1, zy2, zy3, zy4, zy5, zy6, zy7, zy8, zy9, zy10, zy11, zy12, zy13, zy14, zy15, zy16, Nat.reduceEqDiff, Nat.reduceBEq, Nat.reduceAdd, Nat.reduceMul, Nat.reduceSub, Int.reduceToNat, zy17, zy18, zy19, zy20, Nat.reduceLT, Nat.reduceLeDiff, zy21, zy22, zy23, zy24, zy25, zy26, Int.reduceAdd, Int.reduceMul, Int.reduceSub, Int.reduceNeg, Int.reduceDiv, Int.reduceMod, zy27, e2, e3, e5, o0, o1, k0, hr, n0, n1]
                rw [hI']
          · have k0 : ¬ u.kind = 0 := fun h => k01 (.inl h)
            have k1 : ¬ u.kind = 1 := fun h => k01 (.inr h)
            have hI' : vT p.defs 24 t = false := by rw [← hI]; simp [k0, k1, k3]
            simp (maxSteps := 10000000) (disch := first | assumption | omega | (simp only [zy19, zy17, zy18, zy34, zy35, zy36, zy11, zy12, rsL] <;> omega) | with_reducible exact rowOK_nil _ _ | ((repeat' apply rowOK_put) <;> first | assumption | exact rowP_ok _ _ _ _ _ | omega) | (simp only [rsI]; done)) only [↓rsW, ↓rsd, rsu, rsX, zyB, Int.reduceEq, ↓reduceIte, zy0, zy1, zy2, zy3, zy4, zy5, zy6, zy7, zy8, zy9, zy10, zy11, zy12, zy13, zy14, zy15, zy16, Nat.reduceEqDiff, Nat.reduceBEq, Nat.reduceAdd, Nat.reduceMul, Nat.reduceSub, Int.reduceToNat, zy17, zy18, zy19, zy20, Nat.reduceLT, Nat.reduceLeDiff, zy21, zy22, zy23, zy24, zy25, zy26, Int.reduceAdd, Int.reduceMul, Int.reduceSub, Int.reduceNeg, Int.reduceDiv, Int.reduceMod, zy27, e2, e3, e5, o0, o1, k0, k1, k2, k3, n0, n1]
            rw [hI']
end Go.Proofs.Ytoccgkgdhobmfaa.Am.Ru
set_option maxRecDepth 100000
set_option linter.unusedSimpArgs false
set_option linter.unusedVariables false
namespace Go.Proofs.Ytoccgkgdhobmfaa.Am.Ru
open Go
variable {G : Nat → Option (List V)} {E : Nat → Option (CallFn → List V → Hp → Nat → Option Out)}
def cmpZ (a b : Int) : Int := if a < b then -1 else if b < a then 1 else 0
def or3 (a b c : Int) : Int := if a = 0 then (if b = 0 then c else b) else a
theorem cmp_ok (hE : XOK E) (a b : Int) : valP (cfW G T E) 97 [.int .i64 a, .int .i64 b] = some (.ret (.int .i64 (cmpZ a b))) := by
  have hn : ∀ x : Int, valP (cfW G T E) 134 [.int .i64 x] = some (.ret (.bool false)) := by
    intro x
    refine xrun 2 (m := m134) hE rfl rfl rfl rfl ?_
    simp (maxSteps := 10000000) (disch := first | assumption | omega | (simp only [zy19, zy17, zy18, zy34, zy35, zy36, zy11, zy12, rsL] <;> omega) | with_reducible exact rowOK_nil _ _ | ((repeat' apply rowOK_put) <;> first | assumption | exact rowP_ok _ _ _ _ _ | omega) | (simp only [rsI]; done)) only [↓rsW, ↓rsd, rsu, rsX, zyB, Int.reduceEq, ↓reduceIte, zy0, zy1, zy2, zy3, zy4, zy5, zy6, zy7, zy8, zy9, zy10, zy11, zy12, zy13, zy14, zy15, zy16, Nat.reduceEqDiff, Nat.reduceBEq, Nat.reduceAdd, Nat.reduceMul, Nat.reduceSub, Int.reduceToNat, zy17, zy18, zy19, zy20, Nat.reduceLT, Nat.reduceLeDiff, zy21, zy22, zy23, zy24, zy25, zy26, Int.reduceAdd, Int.reduceMul, Int.reduceSub, Int.reduceNeg, Int.reduceDiv, Int.reduceMod, zy27, m134]
  refine xrun 7 (m := m97) hE rfl rfl rfl rfl ?_
  unfold cmpZ
  by_cases h1 : a < b
  · simp (maxSteps := 10000000) (disch := first | assumption | omega | (simp only [zy19, zy17, zy18, zy34, zy35, zy36, zy11, zy12, rsL] <;> omega) | with_reducible exact rowOK_nil _ _ | ((repeat' apply rowOK_put) <;> first | assumption | exact rowP_ok _ _ _ _ _ | omega) | (simp only [rsI]; done)) only [↓rsW, ↓rsd, rsu, rsX, zyB, Int.reduceEq, ↓reduceIte, zy0, zy1, zy2, zy3, zy4, zy5, zy6, zy7, zy8, zy9, zy10, zy11, zy12, zy13, zy14, zy15, zy16, Nat.reduceEqDiff, Nat.reduceBEq, Nat.reduceAdd, Nat.reduceMul, Nat.reduceSub, Int.reduceToNat, zy17, zy18, zy19, zy20, Nat.reduceLT, Nat.reduceLeDiff, zy21, zy22, zy23, zy24, zy25, zy26, Int.reduceAdd, Int.reduceMul, Int.reduceSub, Int.reduceNeg, Int.reduceDiv, Int.reduceMod, zy27, m97, hn, h1]
  · by_cases h2 : b < a
    · simp (maxSteps := 10000000) (disch := first | assumption | omega | (simp only [zy19, zy17, zy18, zy34, zy35, zy36, zy11, zy12, rsL] <;> omega) | with_reducible exact rowOK_nil _ _ | ((repeat' apply rowOK_put) <;> first | assumption | exact rowP_ok _ _ _ _ _ | omega) | (simp only [rsI]; done)) only [↓rsW, ↓rsd, rsu, rsX, zyB, Int.reduceEq, ↓reduceIte, zy0, zy1, zy2, zy3, zy4, zy5, zy6, zy7, zy8, zy9, zy10, zy11, zy12, zy13, zy14, zy15, zy16, Nat.reduceEqDiff, Nat.reduceBEq, Nat.reduceAdd, Nat.reduceMul, Nat.reduceSub, Int.reduceToNat, zy17, zy18, zy19, zy20, Nat.reduceLT, Nat.reduceLeDiff, zy21, zy22, zy23, zy24, zy25, zy26, Int.reduceAdd, Int.reduceMul, Int.reduceSub, Int.reduceNeg, Int.reduceDiv, Int.reduceMod, zy27, m97, hn, h1, h2]
    · simp (maxSteps := 10000000) (disch := first | assumption | omega | (simp only [zy19, zy17, zy18, zy34, zy35, zy36, zy11, zy12, rsL] <;> omega) | with_reducible exact rowOK_nil _ _ | ((repeat' apply rowOK_put) <;> first | assumption | exact rowP_ok _ _ _ _ _ | omega) | (simp only [rsI]; done)) only [↓rsW, ↓rsd, rsu, rsX, zyB, Int.reduceEq, ↓reduceIte, zy0, zy1, zy2, zy3, zy4, zy5, zy6, zy7, zy8, zy9, zy10, zy11, zy12, zy13, zy14, zy15, zy16, Nat.reduceEqDiff, Nat.reduceBEq, Nat.reduceAdd, Nat.reduceMul, Nat.reduceSub, Int.reduceToNat, zy17, zy18, zy19, zy20, Nat.reduceLT, Nat.reduceLeDiff, zy21, zy22, zy23, zy24, zy25, zy26, Int.reduceAdd, Int.reduceMul, Int.reduceSub, Int.reduceNeg, Int.reduceDiv, Int.reduceMod, zy27, m97, hn, h1, h2]
theorem or3_ok (hE : XOK E) (a b c : Int) : valP (cfW G T E) 96 [.sl 1 [[.int .i64 a], [.int .i64 b], [.int .i64 c]]] = some (.ret (.int .i64 (or3 a b c))) := by
  refine xrun 6 (m := m96) hE rfl rfl rfl rfl ?_
  unfold or3
  by_cases h1 : a = 0
  · by_cases h2 : b = 0
    · by_cases h3 : c = 0
      · simp (maxSteps := 10000000) (disch := first | assumption | omega | (simp only [zy19, zy17, zy18, zy34, zy35, zy36, zy11, zy12, rsL] <;> omega) | with_reducible exact rowOK_nil _ _ | ((repeat' apply rowOK_put) <;> first | assumption | exact rowP_ok _ _ _ _ _ | omega) | (simp only [rsI]; done)) only [↓rsW, ↓rsd, rsu, rsX, zyB, Int.reduceEq, ↓reduceIte, zy0, zy1, zy2, zy3, zy4, zy5, zy6, zy7, zy8, zy9, zy10, zy11, zy12, zy13, zy14, zy15, zy16, Nat.reduceEqDiff, Nat.reduceBEq, Nat.reduceAdd, Nat.reduceMul, Nat.reduceSub, Int.reduceToNat, zy17, zy18, zy19, zy20, Nat.reduceLT, Nat.reduceLeDiff, zy21, zy22, zy23, zy24, zy25, zy26, Int.reduceAdd, Int.reduceMul, Int.reduceSub, Int.reduceNeg, Int.reduceDiv, Int.reduceMod, zy27, m96, h1, h2, h3]
        refine go_once ?_
        simp (maxSteps := 10000000) (disch := first | assumption | omega | (simp only [zy19, zy17, zy18, zy34, zy35, zy36, zy11, zy12, rsL] <;> omega) | with_reducible exact rowOK_nil _ _ | ((repeat' apply rowOK_put) <;> first | assumption | exact rowP_ok _ _ _ _ _ | omega) | (simp only [rsI]; done)) only [↓rsW, ↓rsd, rsu, rsX, zyB, Int.reduceEq, ↓reduceIte, zy0, zy1, zy2, zy3, zy4, zy5, zy6, zy7, zy8, zy9, zy10, zy11, zy12, zy13, zy14, zy15, zy16, Nat.reduceEqDiff, Nat.reduceBEq, Nat.reduceAdd, Nat.reduceMul, Nat.reduceSub, Int.reduceToNat, zy17, zy18, zy19, zy20, Nat.reduceLT, Nat.reduceLeDiff, zy21, zy22, zy23, zy24, zy25, zy26, Int.reduceAdd, Int.reduceMul, Int.reduceSub, Int.reduceNeg, Int.reduceDiv, Int.reduceMod, zy27, h1, h2, h3]
        refine go_once ?_
        simp (maxSteps := 10000000) (disch := first | assumption | omega | (simp only [zy19, zy17, zy18, zy34, zy35, zy36, zy11, zy12, rsL] <;> omega) | with_reducible exact rowOK_nil _ _ | ((repeat' apply rowOK_put) <;> first | assumption | exact rowP_ok _ _ _ _ _ | omega) | (simp only [rsI]; done)) only [↓rsW, ↓rsd, rsu, rsX, zyB, Int.reduceEq, ↓reduceIte, zy0, zy1, zy2, zy3, zy4, zy5, zy6, zy7, zy8, zy9, zy10, zy11, zy12, zy13, zy14, zy15, zy16, Nat.reduceEqDiff, Nat.reduceBEq, Nat.reduceAdd, Nat.reduceMul, Nat.reduceSub, Int.reduceToNat, zy17, zy18, zy19, zy20, Nat.reduceLT, Nat.reduceLeDiff, zy21, zy22, zy23, zy24, zy25, zy26, Int.reduceAdd, Int.reduceMul, Int.reduceSub, Int.reduceNeg, Int.reduceDiv, Int.reduceMod, zy27, h1, h2, h3]
        refine go_once ?_
        simp (maxSteps := 10000000) (disch := first | assumption | omega | (simp only [zy19, zy17, zy18, zy34, zy35, zy36, zy11, zy12, rsL] <;> omega) | with_reducible exact rowOK_nil _ _ | ((repeat' apply rowOK_put) <;> first | assumption | exact rowP_ok _ _ _ _ _ | omega) | (simp only [rsI]; done)) only [↓rsW, ↓rsd, rsu, rsX, zyB, Int.reduceEq, ↓reduceIte, zy0, zy1, zy2, zy3, zy4, zy5, zy6, zy7, zy8, zy9, zy10, zy11, zy12, zy13, zy14, zy15, zy16, Nat.reduceEqDiff, Nat.reduceBEq, Nat.reduceAdd, Nat.reduceMul, Nat.reduceSub, Int.reduceToNat, zy17, zy18, zy19, zy20, Nat.reduceLT, Nat.reduceLeDiff, zy21, zy22, zy23, zy24, zy25, zy26, Int.reduceAdd, Int.reduceMul, Int.reduceSub, Int.reduceNeg, Int.reduceDiv, Int.reduceMod, zy27, h1, h2, h3]
        refine go_once ?_
        simp (maxSteps := 10000000) (disch := first | assumption | omega | (simp only [zy19, zy17, zy18, zy34, zy35, zy36, zy11, zy12, rsL] <;> omega) | with_reducible exact rowOK_nil _ _ | ((repeat' apply rowOK_put) <;> first | assumption | exact rowP_ok _ _ _ _ _ | omega) | (simp only [rsI]; done)) only [↓rsW, ↓rsd, rsu, rsX, zyB, Int.reduceEq, ↓reduceIte, zy0, zy1, zy2, zy3, zy4, zy5, zy6, zy7, zy8, zy9, zy10, zy11, zy12, zy13, zy14, zy15, zy16, Nat.reduceEqDiff, Nat.reduceBEq, Nat.reduceAdd, Nat.reduceMul, Nat.reduceSub, Int.reduceToNat, zy17, zy18, zy19, zy20, Nat.reduceLT, Nat.reduceLeDiff, zy21, zy22, zy23, zy24, zy25, zy26, Int.reduceAdd, Int.reduceMul, Int.reduceSub, Int.reduceNeg, Int.reduceDiv, Int.reduceMod, zy27, h1, h2, h3]
      · simp (maxSteps := 10000000) (disch := first | assumption | omega | (simp only [zy19, zy17, zy18, zy34, zy35, zy36, zy11, zy12, rsL] <;> omega) | with_reducible exact rowOK_nil _ _ | ((repeat' apply rowOK_put) <;> first | assumption | exact rowP_ok _ _ _ _ _ | omega) | (simp only [rsI]; done)) only [↓rsW, ↓rsd, rsu, rsX, zyB, Int.reduceEq, ↓reduceIte, zy0, zy1, zy2, zy3, zy4, zy5, zy6, zy7, zy8, zy9, zy10, zy11, zy12, zy13, zy14, zy15, zy16, Nat.reduceEqDiff, Nat.reduceBEq, Nat.reduceAdd, Nat.reduceMul, Nat.reduceSub, Int.reduceToNat, zy17, zy18, zy19, zy20, Nat.reduceLT, Nat.reduceLeDiff, zy21, zy22, zy23, zy24, zy25, zy26, Int.reduceAdd, Int.reduceMul, Int.reduceSub, Int.reduceNeg, Int.reduceDiv, Int.reduceMod, zy27, m96, h1, h2, h3]
        refine go_once ?_
        simp (maxSteps := 10000000) (disch := first | assumption | omega | (simp only [zy19, zy17, zy18, zy34, zy35, zy36, zy11, zy12, rsL] <;> omega) | with_reducible exact rowOK_nil _ _ | ((repeat' apply rowOK_put) <;> first | assumption | exact rowP_ok _ _ _ _ _ | omega) | (simp only [rsI]; done)) only [↓rsW, ↓rsd, rsu, rsX, zyB, Int.reduceEq, ↓reduceIte, zy0, zy1, zy2, zy3, zy4, zy5, zy6, zy7, zy8, zy9, zy10, zy11, zy12, zy13, zy14, zy15, zy16, Nat.reduceEqDiff, Nat.reduceBEq, Nat.reduceAdd, Nat.reduceMul, Nat.reduceSub, Int.reduceToNat, zy17, zy18, zy19, zy20, Nat.reduceLT, Nat.reduceLeDiff, zy21, zy22, zy23, zy24, zy25, zy26, Int.reduceAdd, Int.reduceMul, Int.reduceSub, Int.reduceNeg, Int.reduceDiv, Int.reduceMod, zy27, h1, h2, h3]
        refine go_once ?_
        simp (maxSteps := 10000000) (disch := first | assumption | omega | (simp only [zy19, zy17, zy18, zy34, zy35, zy36, zy11, zy12, rsL] <;> omega) | with_reducible exact rowOK_nil _ _ | ((repeat' apply rowOK_put) <;> first | assumption | exact rowP_ok _ _ _ _ _ | omega) | (simp only [rsI]; done)) only [↓rsW, ↓rsd, rsu, rsX, zyB, Int.reduceEq, ↓reduceIte, zy0, zy1, zy2, zy3, zy4, zy5, zy6, zy7, zy8, zy9, zy10, zy11, zy12, zy13, zy14, zy15, zy16, Nat.reduceEqDiff, Nat.reduceBEq, Nat.reduceAdd, Nat.reduceMul, Nat.reduceSub, Int.reduceToNat, zy17, zy18, zy19, zy20, Nat.reduceLT, Nat.reduceLeDiff, zy21, zy22, zy23, zy24, zy25, zy26, Int.reduceAdd, Int.reduceMul, Int.reduceSub, Int.reduceNeg, Int.reduceDiv, Int.reduceMod, zy27, h1, h2, h3]
        refine go_once ?_
        simp (maxSteps := 10000000) (disch := first | assumption | omega | (simp only [zy19, zy17, zy18, zy34, zy35, zy36, zy11, zy12, rsL] <;> omega) | with_reducible exact rowOK_nil _ _ | ((repeat' apply rowOK_put) <;> first | assumption | exact rowP_ok _ _ _ _ _ | omega) | (simp only [rsI]; done)) only [↓rsW, ↓rsd, rsu, rsX, zyB, Int.reduceEq, ↓reduceIte, zy0, zy1, zy2, zy3, zy4, zy5, zy6, zy7, zy8, zy9, zy10, zy11, zy12, zy13, zy14, zy15, zy16, Nat.reduceEqDiff, Nat.reduceBEq, Nat.reduceAdd, Nat.reduceMul, Nat.reduceSub, Int.reduceToNat, zy17, zy18, zy19, zy20, Nat.reduceLT, Nat.reduceLeDiff, zy21, zy22, zy23, zy24, zy25, zy26, Int.reduceAdd, Int.reduceMul, Int.reduceSub, Int.reduceNeg, Int.reduceDiv, Int.reduceMod, zy27, h1, h2, h3]
    · simp (maxSteps := 10000000) (disch := first | assumption | omega | (simp only [zy19, zy17, zy18, zy34, zy35, zy36, zy11, zy12, rsL] <;> omega) | with_reducible exact rowOK_nil _ _ | ((repeat' apply rowOK_put) <;> first | assumption | exact rowP_ok _ _ _ _ _ | omega) | (simp only [rsI]; done)) only [↓rsW, ↓rsd, rsu, rsX, zyB, Int.reduceEq, ↓reduceIte, zy0, zy1, zy2, zy3, zy4, zy5, zy6, zy7, zy8, zy9, zy10, zy11, zy12, zy13, zy14, zy15, zy16, Nat.reduceEqDiff, Nat.reduceBEq, Nat.reduceAdd, Nat.reduceMul, Nat.reduceSub, Int.reduceToNat, zy17, zy18, zy19, zy20, Nat.reduceLT, Nat.reduceLeDiff, zy21, zy22, zy23, zy24, zy25, zy26, Int.reduceAdd, Int.reduceMul, Int.reduceSub, Int.reduceNeg, Int.reduceDiv, Int.reduceMod, zy27, m96, h1, h2]
      refine go_once ?_
      simp (maxSteps := 10000000) (disch := first | assumption | omega | (simp only [zy19, zy17, zy18, zy34, zy35, zy36, zy11, zy12, rsL] <;> omega) | with_reducible exact rowOK_nil _ _ | ((repeat' apply rowOK_put) <;> first | assumption | exact rowP_ok _ _ _ _ _ | omega) | (simp only [rsI]; done)) only [↓rsW, ↓rsd, rsu, rsX, zyB, Int.reduceEq, ↓reduceIte, zy0, zy1, zy2, zy3, zy4, zy5, zy6, zy7, zy8, zy9, zy10, zy11, zy12, zy13, zy14, zy15, zy16, Nat.reduceEqDiff, Nat.reduceBEq, Nat.reduceAdd, Nat.reduceMul, Nat.reduceSub, Int.reduceToNat, zy17, zy18, zy19, zy20, Nat.reduceLT, Nat.reduceLeDiff, zy21, zy22, zy23, zy24, zy25, zy26, Int.reduceAdd, Int.reduceMul, Int.reduceSub, Int.reduceNeg, Int.reduceDiv, Int.reduceMod, zy27, h1, h2]
      refine go_once ?_
      simp (maxSteps := 10000000) (disch := first | assumption | omega | (simp only [zy19, zy17, zy18, zy34, zy35, zy36, zy11, zy12, rsL] <;> omega) | with_reducible exact rowOK_nil _ _ | ((repeat' apply rowOK_put) <;> first | assumption | exact rowP_ok _ _ _ _ _ | omega) | (simp only [rsI]; done)) only [↓rsW, ↓rsd, rsu, rsX, zyB, Int.reduceEq, ↓reduceIte, zy0, zy1, zy2, zy3, zy4, zy5, zy6, zy7, zy8, zy9, zy10, zy11, zy12, zy13, zy14, zy15, zy16, Nat.reduceEqDiff, Nat.reduceBEq, Nat.reduceAdd, Nat.reduceMul, Nat.reduceSub, Int.reduceToNat, zy17, zy18, zy19, zy20, Nat.reduceLT, Nat.reduceLeDiff, zy21, zy22, zy23, zy24, zy25, zy26, Int.reduceAdd, Int.reduceMul, Int.reduceSub, Int.reduceNeg, Int.reduceDiv, Int.reduceMod, zy27, h1, h2]
  · simp (maxSteps := 10000000) (disch := first | assumption | omega | (simp only [zy19, zy17, zy18, zy34, zy35, zy36, zy11, zy12, rsL] <;> omega) | with_reducible exact rowOK_nil _ _ | ((repeat' apply rowOK_put) <;> first | assumption | exact rowP_ok _ _ _ _ _ | omega) | (simp only [rsI]; done)) only [↓rsW, ↓rsd, rsu, rsX, zyB, Int.reduceEq, ↓reduceIte, zy0, zy1, zy2, zy3, zy4, zy5, zy6, zy7, zy8, zy9, zy10, zy11, zy12, zy13, zy14, zy15, zy16, Nat.reduceEqDiff, Nat.reduceBEq, Nat.reduceAdd, Nat.reduceMul, Nat.reduceSub, Int.reduceToNat, zy17, zy18, zy19, zy20, Nat.reduceLT, Nat.reduceLeDiff, zy21, zy22, zy23, zy24, zy25, zy26, Int.reduceAdd, Int.reduceMul, Int.reduceSub, Int.reduceNeg, Int.reduceDiv, Int.reduceMod, zy27, m96, h1]
    refine go_once ?_
    simp (maxSteps := 10000000) (disch := first | assumption | omega | (simp only [zy19, zy17, zy18, zy34, zy35, zy36, zy11, zy12, rsL] <;> omega) | with_reducible exact rowOK_nil _ _ | ((repeat' apply rowOK_put) <;> first | assumption | exact rowP_ok _ _ _ _ _ | omega) | (simp only [rsI]; done)) only [↓rsW, ↓rsd, rsu, rsX, zyB, Int.reduceEq, ↓reduceIte, zy0, zy1, zy2, zy3, zy4, zy5, zy6, zy7, zy8, zy9, zy10, zy11, zy12, zy13, zy14, zy15, zy16, Nat.reduceEqDiff, Nat.reduceBEq, Nat.reduceAdd, Nat.reduceMul, Nat.reduceSub, Int.reduceToNat, zy17, zy18, zy19, zy20, Nat.reduceLT, Nat.reduceLeDiff, zy21, zy22, zy23, zy24, zy25, zy26, Int.reduceAdd, Int.reduceMul, Int.reduceSub, Int.reduceNeg, Int.reduceDiv, Int.reduceMod, zy27, h1]
mutual
def cmpV : Val → Val → Int
  | .mk k n ks, b => if or3 (cmpZ k b.kind) (cmpZ n b.n) (cmpZ ks.length b.kids.length) = 0 then cmpVs ks b.kids else or3 (cmpZ k b.kind) (cmpZ n b.n) (cmpZ ks.length b.kids.length)
def cmpVs : List Val → List Val → Int
  | a :: l, b :: m => if cmpV a b = 0 then cmpVs l m else cmpV a b
  | _, _ => 0
end
theorem cmpV_eq (a b : Val) : cmpV a b = if or3 (cmpZ a.kind b.kind) (cmpZ a.n b.n) (cmpZ a.kids.length b.kids.length) = 0 then cmpVs a.kids b.kids else or3 (cmpZ a.kind b.kind) (cmpZ a.n b.n) (cmpZ a.kids.length b.kids.length) := by
  cases a; simp only [cmpV, Val.kind_mk, Val.n_mk, Val.kids_mk]
theorem cmpVs_nil (m : List Val) : cmpVs [] m = 0 := by simp only [cmpVs]
theorem cmpVs_cons (a b : Val) (l m : List Val) : cmpVs (a :: l) (b :: m) = if cmpV a b = 0 then cmpVs l m else cmpV a b := by simp only [cmpVs]
theorem cmpVs_drop (l m : List Val) (k : Nat) (h : k < l.length) (h' : k < m.length) : cmpVs (l.drop k) (m.drop k) = if cmpV (l.getD k Val.z) (m.getD k Val.z) = 0 then cmpVs (l.drop (k + 1)) (m.drop (k + 1)) else cmpV (l.getD k Val.z) (m.getD k Val.z) := by
  rw [drop_getD l k Val.z h, drop_getD m k Val.z h', cmpVs_cons]
mutual
def okV' : Val → Prop
  | .mk _ _ ks => ks.length < 9223372036854775808 ∧ okVs ks
def okVs : List Val → Prop
  | [] => True
  | a :: l => okV' a ∧ okVs l
end
theorem okVs_mem : ∀ {l : List Val}, okVs l ↔ ∀ x ∈ l, okV' x
  | [] => by simp [okVs]
  | a :: l => by simp only [okVs, okVs_mem (l := l), List.mem_cons, forall_eq_or_imp]
theorem okV_kids (t : Val) : okV' t ↔ t.kids.length < 9223372036854775808 ∧ ∀ x ∈ t.kids, okV' x := by
  cases t; simp only [okV', okVs_mem, Val.kids]
theorem compareFunc_ok (hE : XOK E) (g : Nat) (l m : List Val) (hl : l.length < 9223372036854775808) (hm : m.length = l.length) (hg : ∀ x ∈ l, ∀ y ∈ m, valP (cfW G T E) g [.agg x.row, .agg y.row] = some (.ret (.int .i64 (cmpV x y)))) :
    valP (cfW G T E) 98 [.sl 3 (Val.rows l), .sl 3 (Val.rows m), .fn g []] = some (.ret (.int .i64 (cmpVs l m))) := by
  refine xrun 11 (m := m98) hE rfl rfl rfl rfl ?_
  simp (maxSteps := 10000000) (disch := first | assumption | omega | (simp only [zy19, zy17, zy18, zy34, zy35, zy36, zy11, zy12, rsL] <;> omega) | with_reducible exact rowOK_nil _ _ | ((repeat' apply rowOK_put) <;> first | assumption | exact rowP_ok _ _ _ _ _ | omega) | (simp only [rsI]; done)) only [↓rsW, ↓rsd, rsu, rsX, zyB, Int.reduceEq, ↓reduceIte, zy0, zy1, zy2, zy3, zy4, zy5, zy6, zy7, zy8, zy9, zy10, zy11, zy12, zy13, zy14, zy15, zy16, Nat.reduceEqDiff, Nat.reduceBEq, Nat.reduceAdd, Nat.reduceMul, Nat.reduceSub, Int.reduceToNat, zy17, zy18, zy19, zy20, Nat.reduceLT, Nat.reduceLeDiff, zy21, zy22, zy23, zy24, zy25, zy26, Int.reduceAdd, Int.reduceMul, Int.reduceSub, Int.reduceNeg, Int.reduceDiv, Int.reduceMod, zy27, m98]
  refine go_loop2 11 (fun n s => ∃ k : Nat, n = l.length - k ∧ k ≤ l.length ∧ s.e 0 = .sl 3 (Val.rows l) ∧ s.e 1 = .sl 3 (Val.rows m) ∧ s.e 2 = .fn g [] ∧ s.e 11 = .sl 3 (Val.rows l) ∧ s.e 12 = .int .i64 l.length ∧ s.e 13 = .int .i64 k ∧ cmpVs (l.drop k) (m.drop k) = cmpVs l m) l.length ?_ ?_
  · refine ⟨0, rfl, by omega, ?_⟩
    simp (maxSteps := 10000000) (disch := first | assumption | omega | (simp only [zy19, zy17, zy18, zy34, zy35, zy36, zy11, zy12, rsL] <;> omega) | with_reducible exact rowOK_nil _ _ | ((repeat' apply rowOK_put) <;> first | assumption | exact rowP_ok _ _ _ _ _ | omega) | (simp only [rsI]; done)) only [↓rsW, ↓rsd, rsu, rsX, zyB, Int.reduceEq, ↓reduceIte, zy0, zy1, zy2, zy3, zy4, zy5, zy6, zy7, zy8, zy9, zy10, zy11, zy12, zy13, zy14, zy15, zy16, Nat.reduceEqDiff, Nat.reduceBEq, Nat.reduceAdd, Nat.reduceMul, Nat.reduceSub, Int.reduceToNat, zy17, zy18, zy19, zy20, Nat.reduceLT, Nat.reduceLeDiff, zy21, zy22, zy23, zy24, zy25, zy26, Int.reduceAdd, Int.reduceMul, Int.reduceSub, Int.reduceNeg, Int.reduceDiv, Int.reduceMod, zy27]
    rfl
  · rintro n e o N ⟨k, hn, hk, e0, e1, e2, e11, e12, e13, hI⟩
    simp only at e0 e1 e2 e11 e12 e13
    by_cases hlt : k < l.length
    · have hlt' : k < m.length := by omega
      rw [cmpVs_drop l m k hlt hlt'] at hI
      have hc := hg _ (getD_mem l k Val.z hlt) _ (getD_mem m k Val.z hlt')
      generalize cmpV (l.getD k Val.z) (m.getD k Val.z) = q at hI hc
      by_cases hq : q = 0
      · rw [if_pos hq] at hI
        simp (maxSteps := 10000000) (disch := first | assumption | omega | (simp only [zy19, zy17, zy18, zy34, zy35, zy36, zy11, zy12, rsL] <;> omega) | with_reducible exact rowOK_nil _ _ | ((repeat' apply rowOK_put) <;> first | assumption | exact rowP_ok _ _ _ _ _ | omega) | (simp only [rsI]; done)) only [↓rsW, ↓rsd, rsu, rsX, zyB, Int.reduceEq, ↓reduceIte, zy0, zy1, zy2, zy3, zy4, zy5, zy6, zy7, zy8, zy9, zy10, zy11, zy12, zy13, zy14, zy15, zy16, Nat.reduceEqDiff, Nat.reduceBEq, Nat.reduceAdd, Nat.reduceMul, Nat.reduceSub, Int.reduceToNat, zy17, zy18, zy19, zy20, Nat.reduceLT, Nat.reduceLeDiff, zy21, zy22, zy23, zy24, zy25, zy26, Int.reduceAdd, Int.reduceMul, Int.reduceSub, Int.reduceNeg, Int.reduceDiv, Int.reduceMod, zy27, e0, e1, e2, e11, e12, e13, hc, hq]
        exact ⟨_, by omega, k + 1, rfl, by omega, rfl, hI⟩
      · rw [if_neg hq] at hI
        simp (maxSteps := 10000000) (disch := first | assumption | omega | (simp only [zy19, zy17, zy18, zy34, zy35, zy36, zy11, zy12, rsL] <;> omega) | with_reducible exact rowOK_nil _ _ | ((repeat' apply rowOK_put) <;> first | assumption | exact rowP_ok _ _ _ _ _ | omega) | (simp only [rsI]; done)) only [↓rsW, ↓rsd, rsu, rsX, zyB, Int.reduceEq, ↓reduceIte, zy0, zy1, zy2, zy3, zy4, zy5, zy6, zy7, zy8, zy9, zy10, zy11, zy12, zy13, zy14, zy15, zy16, Nat.reduceEqDiff, Nat.reduceBEq, Nat.reduceAdd, Nat.reduceMul, Nat.reduceSub, Int.reduceToNat, zy17, zy18, zy19, zy20, Nat.reduceLT, Nat.reduceLeDiff, zy21, zy22, zy23, zy24, zy25, zy26, Int.reduceAdd, Int.reduceMul, Int.reduceSub, Int.reduceNeg, Int.reduceDiv, Int.reduceMod, zy27, e0, e1, e2, e11, e12, e13, hc, hq]
        rw [hI]
    · have hk' : k = l.length := by omega
      subst hk'
      rw [List.drop_length, cmpVs_nil] at hI
      simp (maxSteps := 10000000) (disch := first | assumption | omega | (simp only [zy19, zy17, zy18, zy34, zy35, zy36, zy11, zy12, rsL] <;> omega) | with_reducible exact rowOK_nil _ _ | ((repeat' apply rowOK_put) <;> first | assumption | exact rowP_ok _ _ _ _ _ | omega) | (simp only [rsI]; done)) only [↓rsW, ↓rsd, rsu, rsX, zyB, Int.reduceEq, ↓reduceIte, zy0, zy1, zy2, zy3, zy4, zy5, zy6, zy7, zy8, zy9, zy10, zy11, zy12, zy13, zy14, zy15, zy16, Nat.reduceEqDiff, Nat.reduceBEq, Nat.reduceAdd, Nat.reduceMul, Nat.reduceSub, Int.reduceToNat, zy17, zy18, zy19, zy20, Nat.reduceLT, Nat.reduceLeDiff, zy21, zy22, zy23, zy24, zy25, zy26, Int.reduceAdd, Int.reduceMul, Int.reduceSub, Int.reduceNeg, Int.reduceDiv, Int.reduceMod, zy27, e0, e1, e2, e11, e12, e13]
      rw [← hI]
theorem compare_ok (hE : XOK E) : ∀ a b : Val, okV' a → okV' b → valP (cfW G T E) 51 [.agg a.row, .agg b.row] = some (.ret (.int .i64 (cmpV a b))) := by
  refine Val.ind ?_
  intro a ih b ha hb
  rw [okV_kids] at ha hb
  rw [cmpV_eq]
  generalize hq : or3 (cmpZ a.kind b.kind) (cmpZ a.n b.n) (cmpZ a.kids.length b.kids.length) = q
  refine xrun 6 (m := m51) hE rfl rfl rfl rfl ?_
  by_cases h0 : q = 0
  · rw [if_pos h0]
    have hlen : b.kids.length = a.kids.length := by
      rw [h0] at hq
      unfold or3 cmpZ at hq
      omega
    have hrec := compareFunc_ok (G := G) hE 51 a.kids b.kids ha.1 hlen (fun x hx y hy => ih x hx y (ha.2 x hx) (hb.2 y hy))
    rw [hlen] at hq
    simp (maxSteps := 10000000) (disch := first | assumption | omega | (simp only [zy19, zy17, zy18, zy34, zy35, zy36, zy11, zy12, rsL] <;> omega) | with_reducible exact rowOK_nil _ _ | ((repeat' apply rowOK_put) <;> first | assumption | exact rowP_ok _ _ _ _ _ | omega) | (simp only [rsI]; done)) only [↓rsW, ↓rsd, rsu, rsX, zyB, Int.reduceEq, ↓reduceIte, zy0, zy1, zy2, zy3, zy4, zy5, zy6, zy7, zy8, zy9, zy10, zy11, zy12, zy13, zy14, zy15, zy16, Nat.reduceEqDiff, Nat.reduceBEq, Nat.reduceAdd, Nat.reduceMul, Nat.reduceSub, Int.reduceToNat, zy17, zy18, zy19, zy20, Nat.reduceLT, Nat.reduceLeDiff, zy21, zy22, zy23, zy24, zy25, zy26, Int.reduceAdd, Int.reduceMul, Int.reduceSub, Int.reduceNeg, Int.reduceDiv, Int.reduceMod, zy27, m51, cmp_ok hE, or3_ok hE, hlen, hq, h0, hrec]
  · rw [if_neg h0]
    simp (maxSteps := 10000000) (disch := first | assumption | omega | (simp only [zy19, zy17, zy18, zy34, zy35, zy36, zy11, zy12, rsL] <;> omega) | with_reducible exact rowOK_nil _ _ | ((repeat' apply rowOK_put) <;> first | assumption | exact rowP_ok _ _ _ _ _ | omega) | (simp only [rsI]; done)) only [↓rsW, ↓rsd, rsu, rsX, zyB, Int.reduceEq, ↓reduceIte, zy0, zy1, zy2, zy3, zy4, zy5, zy6, zy7, zy8, zy9, zy10, zy11, zy12, zy13, zy14, zy15, zy16, Nat.reduceEqDiff, Nat.reduceBEq, Nat.reduceAdd, Nat.reduceMul, Nat.reduceSub, Int.reduceToNat, zy17, zy18, zy19, zy20, Nat.reduceLT, Nat.reduceLeDiff, zy21, zy22, zy23, zy24, zy25, zy26, Int.reduceAdd, Int.reduceMul, Int.reduceSub, Int.reduceNeg, Int.reduceDiv, Int.reduceMod, zy27, m51, cmp_ok hE, or3_ok hE, hq, h0]
end Go.Proofs.Ytoccgkgdhobmfaa.Am.Ru
set_option maxRecDepth 100000
set_option linter.unusedSimpArgs false
set_option linter.unusedVariables false
namespace Go.Proofs.Ytoccgkgdhobmfaa.Am.Ru
open Go
variable {G : Nat → Option (List V)} {E : Nat → Option (CallFn → List V → Hp → Nat → Option Out)}
theorem or3_pos {a b c : Int} (h : a ≠ 0) : or3 a b c = a := if_neg h
theorem or3_z {b c : Int} : or3 0 b c = if b = 0 then c else b := rfl
theorem cmpZ_lt {a b : Int} (h : a < b) : cmpZ a b = -1 := if_pos h
theorem cmpZ_gt {a b : Int} (h : b < a) : cmpZ a b = 1 := by unfold cmpZ; rw [if_neg (by omega), if_pos h]
theorem cmpZ_eq {a b : Int} (h : a = b) : cmpZ a b = 0 := by unfold cmpZ; rw [if_neg (by omega), if_neg (by omega)]
set_option maxHeartbeats 1000000 in
theorem rcompare_ok (hE : XOK E) : ∀ a b : Val, okV' a → okV' b → valP (cfW G T E) 52 [.agg a.row, .agg b.row] = some (.ret (.int .i64 (cmpV a b))) := by
  refine Val.ind ?_
  intro a ih b ha hb
  rw [okV_kids] at ha hb
  have hg : ∀ x ∈ a.kids, ∀ y ∈ b.kids, valP (cfW G T E) 52 [.agg x.row, .agg y.row] = some (.ret (.int .i64 (cmpV x y))) := fun x hx y hy => ih x hx y (ha.2 x hx) (hb.2 y hy)
  rw [cmpV_eq]
  refine xrun 10 (m := m52) hE rfl rfl rfl rfl ?_
  rcases Int.lt_trichotomy a.kind b.kind with h1 | h1 | h1
  · rw [cmpZ_lt h1, or3_pos (by omega)]
    simp (maxSteps := 10000000) (disch := first | assumption | omega | (simp only [zy19, zy17, zy18, zy34, zy35, zy36, zy11, zy12, rsL] <;> omega) | with_reducible exact rowOK_nil _ _ | ((repeat' apply rowOK_put) <;> first | assumption | exact rowP_ok _ _ _ _ _ | omega) | (simp only [rsI]; done)) only [↓rsW, ↓rsd, rsu, rsX, zyB, Int.reduceEq, ↓reduceIte, zy0, zy1, zy2, zy3, zy4, zy5, zy6, zy7, zy8, zy9, zy10, zy11, zy12, zy13, zy14, zy15, zy16, Nat.reduceEqDiff, Nat.reduceBEq, Nat.reduceAdd, Nat.reduceMul, Nat.reduceSub, Int.reduceToNat, zy17, zy18, zy19, zy20, Nat.reduceLT, Nat.reduceLeDiff, zy21, zy22, zy23, zy24, zy25, zy26, Int.reduceAdd, Int.reduceMul, Int.reduceSub, Int.reduceNeg, Int.reduceDiv, Int.reduceMod, zy27, m52]
    refine go_once ?_
    simp (maxSteps := 10000000) (disch := first | assumption | omega | (simp only [zy19, zy17, zy18, zy34, zy35, zy36, zy11, zy12, rsL] <;> omega) | with_reducible exact rowOK_nil _ _ | ((repeat' apply rowOK_put) <;> first | assumption | exact rowP_ok _ _ _ _ _ | omega) | (simp only [rsI]; done)) only [↓rsW, ↓rsd, rsu, rsX, zyB, Int.reduceEq, ↓reduceIte, zy0, zy1, zy2, zy3, zy4, zy5, zy6, zy7, zy8, zy9, zy10, zy11, zy12, zy13, zy14, zy15, zy16, Nat.reduceEqDiff, Nat.reduceBEq, Nat.reduceAdd, Nat.reduceMul, Nat.reduceSub, Int.reduceToNat, zy17, zy18, zy19, zy20, Nat.reduceLT, Nat.reduceLeDiff, zy21, zy22, zy23, zy24, zy25, zy26, Int.reduceAdd, Int.reduceMul, Int.reduceSub, Int.reduceNeg, Int.reduceDiv, Int.reduceMod, zy27]
  · rcases Int.lt_trichotomy a.n b.n with h2 | h2 | h2
    · rw [cmpZ_eq h1, cmpZ_lt h2, or3_z]
      simp (maxSteps := 10000000) (disch := first | assumption | omega | (simp only [zy19, zy17, zy18, zy34, zy35, zy36, zy11, zy12, rsL] <;> omega) | with_reducible exact rowOK_nil _ _ | ((repeat' apply rowOK_put) <;> first | assumption | exact rowP_ok _ _ _ _ _ | omega) | (simp only [rsI]; done)) only [↓rsW, ↓rsd, rsu, rsX, zyB, Int.reduceEq, ↓reduceIte, zy0, zy1, zy2, zy3, zy4, zy5, zy6, zy7, zy8, zy9, zy10, zy11, zy12, zy13, zy14, zy15, zy16, Nat.reduceEqDiff, Nat.reduceBEq, Nat.reduceAdd, Nat.reduceMul, Nat.reduceSub, Int.reduceToNat, zy17, zy18, zy19, zy20, Nat.reduceLT, Nat.reduceLeDiff, zy21, zy22, zy23, zy24, zy25, zy26, Int.reduceAdd, Int.reduceMul, Int.reduceSub, Int.reduceNeg, Int.reduceDiv, Int.reduceMod, zy27, m52]
      refine go_once ?_
      simp (maxSteps := 10000000) (disch := first | assumption | omega | (simp only [zy19, zy17, zy18, zy34, zy35, zy36, zy11, zy12, rsL] <;> omega) | with_reducible exact rowOK_nil _ _ | ((repeat' apply rowOK_put) <;> first | assumption | exact rowP_ok _ _ _ _ _ | omega) | (simp only [rsI]; done)) only [↓rsW, ↓rsd, rsu, rsX, zyB, Int.reduceEq, ↓reduceIte, zy0, zy1, zy2, zy3, zy4, zy5, zy6, zy7, zy8, zy9, zy10, zy11, zy12, zy13, zy14, zy15, zy16, Nat.reduceEqDiff, Nat.reduceBEq, Nat.reduceAdd, Nat.reduceMul, Nat.reduceSub, Int.reduceToNat, zy17, zy18, zy19, zy20, Nat.reduceLT, Nat.reduceLeDiff, zy21, zy22, zy23, zy24, zy25, zy26, Int.reduceAdd, Int.reduceMul, Int.reduceSub, Int.reduceNeg, Int.reduceDiv, Int.reduceMod, zy27]
      refine go_once ?_
      simp (maxSteps := 10000000) (disch := first | assumption | omega | (simp only [zy19, zy17, zy18, zy34, zy35, zy36, zy11, zy12, rsL] <;> omega) | with_reducible exact rowOK_nil _ _ | ((repeat' apply rowOK_put) <;> first | assumption | exact rowP_ok _ _ _ _ _ | omega) | (simp only [rsI]; done)) only [↓rsW, ↓rsd, rsu, rsX, zyB, Int.reduceEq, ↓reduceIte, zy0, zy1, zy2, zy3, zy4, zy5, zy6, zy7, zy8, zy9, zy10, zy11, zy12, zy13, zy14, zy15, zy16, Nat.reduceEqDiff, Nat.reduceBEq, Nat.reduceAdd, Nat.reduceMul, Nat.reduceSub, Int.reduceToNat, zy17, zy18, zy19, zy20, Nat.reduceLT, Nat.reduceLeDiff, zy21, zy22, zy23, zy24, zy25, zy26, Int.reduceAdd, Int.reduceMul, Int.reduceSub, Int.reduceNeg, Int.reduceDiv, Int.reduceMod, zy27]
    · rcases Int.lt_trichotomy (a.kids.length : Int) b.kids.length with h3 | h3 | h3
      · rw [cmpZ_eq h1, cmpZ_eq h2, cmpZ_lt h3, or3_z]
        simp (maxSteps := 10000000) (disch := first | assumption | omega | (simp only [zy19, zy17, zy18, zy34, zy35, zy36, zy11, zy12, rsL] <;> omega) | with_reducible exact rowOK_nil _ _ | ((repeat' apply rowOK_put) <;> first | assumption | exact rowP_ok _ _ _ _ _ | omega) | (simp only [rsI]; done)) only [↓rsW, ↓rsd, rsu, rsX, zyB, Int.reduceEq, ↓reduceIte, zy0, zy1, zy2, zy3, zy4, zy5, zy6, zy7, zy8, zy9, zy10, zy11, zy12, zy13, zy14, zy15, zy16, Nat.reduceEqDiff, Nat.reduceBEq, Nat.reduceAdd, Nat.reduceMul, Nat.reduceSub, Int.reduceToNat, zy17, zy18, zy19, zy20, Nat.reduceLT, Nat.reduceLeDiff, zy21, zy22, zy23, zy24, zy25, zy26, Int.reduceAdd, Int.reduceMul, Int.reduceSub, Int.reduceNeg, Int.reduceDiv, Int.reduceMod, zy27, m52]
        refine go_once ?_
        simp (maxSteps := 10000000) (disch := first | assumption | omega | (simp only [zy19, zy17, zy18, zy34, zy35, zy36, zy11, zy12, rsL] <;> omega) | with_reducible exact rowOK_nil _ _ | ((repeat' apply rowOK_put) <;> first | assumption | exact rowP_ok _ _ _ _ _ | omega) | (simp only [rsI]; done)) only [↓rsW, ↓rsd, rsu, rsX, zyB, Int.reduceEq, ↓reduceIte, zy0, zy1, zy2, zy3, zy4, zy5, zy6, zy7, zy8, zy9, zy10, zy11, zy12, zy13, zy14, zy15, zy16, Nat.reduceEqDiff, Nat.reduceBEq, Nat.reduceAdd, Nat.reduceMul, Nat.reduceSub, Int.reduceToNat, zy17, zy18, zy19, zy20, Nat.reduceLT, Nat.reduceLeDiff, zy21, zy22, zy23, zy24, zy25, zy26, Int.reduceAdd, Int.reduceMul, Int.reduceSub, Int.reduceNeg, Int.reduceDiv, Int.reduceMod, zy27]
        refine go_once ?_
        simp (maxSteps := 10000000) (disch := first | assumption | omega | (simp only [zy19, zy17, zy18, zy34, zy35, zy36, zy11, zy12, rsL] <;> omega) | with_reducible exact rowOK_nil _ _ | ((repeat' apply rowOK_put) <;> first | assumption | exact rowP_ok _ _ _ _ _ | omega) | (simp only [rsI]; done)) only [↓rsW, ↓rsd, rsu, rsX, zyB, Int.reduceEq, ↓reduceIte, zy0, zy1, zy2, zy3, zy4, zy5, zy6, zy7, zy8, zy9, zy10, zy11, zy12, zy13, zy14, zy15, zy16, Nat.reduceEqDiff, Nat.reduceBEq, Nat.reduceAdd, Nat.reduceMul, Nat.reduceSub, Int.reduceToNat, zy17, zy18, zy19, zy20, Nat.reduceLT, Nat.reduceLeDiff, zy21, zy22, zy23, zy24, zy25, zy26, Int.reduceAdd, Int.reduceMul, Int.reduceSub, Int.reduceNeg, Int.reduceDiv, Int.reduceMod, zy27]
        refine go_once ?_
        simp (maxSteps := 10000000) (disch := first | assumption | omega | (simp only [zy19, zy17, zy18, zy34, zy35, zy36, zy11, zy12, rsL] <;> omega) | with_reducible exact rowOK_nil _ _ | ((repeat' apply rowOK_put) <;> first | assumption | exact rowP_ok _ _ _ _ _ | omega) | (simp only [rsI]; done)) only [↓rsW, ↓rsd, rsu, rsX, zyB, Int.reduceEq, ↓reduceIte, zy0, zy1, zy2, zy3, zy4, zy5, zy6, zy7, zy8, zy9, zy10, zy11, zy12, zy13, zy14, zy15, zy16, Nat.reduceEqDiff, Nat.reduceBEq, Nat.reduceAdd, Nat.reduceMul, Nat.reduceSub, Int.reduceToNat, zy17, zy18, zy19, zy20, Nat.reduceLT, Nat.reduceLeDiff, zy21, zy22, zy23, zy24, zy25, zy26, Int.reduceAdd, Int.reduceMul, Int.reduceSub, Int.reduceNeg, Int.reduceDiv, Int.reduceMod, zy27]
      · rw [cmpZ_eq h1, cmpZ_eq h2, cmpZ_eq h3, or3_z]
        rw [if_pos rfl, if_pos rfl]
        simp (maxSteps := 10000000) (disch := first | assumption | omega | (simp only [zy19, zy17, zy18, zy34, zy35, zy36, zy11, zy12, rsL] <;> omega) | with_reducible exact rowOK_nil _ _ | ((repeat' apply rowOK_put) <;> first | assumption | exact rowP_ok _ _ _ _ _ | omega) | (simp only [rsI]; done)) only [↓rsW, ↓rsd, rsu, rsX, zyB, Int.reduceEq, ↓reduceIte, zy0, zy1, zy2, zy3, zy4, zy5, zy6, zy7, zy8, zy9, zy10, zy11, zy12, zy13, zy14, zy15, zy16, Nat.reduceEqDiff, Nat.reduceBEq, Nat.reduceAdd, Nat.reduceMul, Nat.reduceSub, Int.reduceToNat, zy17, zy18, zy19, zy20, Nat.reduceLT, Nat.reduceLeDiff, zy21, zy22, zy23, zy24, zy25, zy26, Int.reduceAdd, Int.reduceMul, Int.reduceSub, Int.reduceNeg, Int.reduceDiv, Int.reduceMod, zy27, m52]
        refine go_once ?_
        simp (maxSteps := 10000000) (disch := first | assumption | omega | (simp only [zy19, zy17, zy18, zy34, zy35, zy36, zy11, zy12, rsL] <;> omega) | with_reducible exact rowOK_nil _ _ | ((repeat' apply rowOK_put) <;> first | assumption | exact rowP_ok _ _ _ _ _ | omega) | (simp only [rsI]; done)) only [↓rsW, ↓rsd, rsu, rsX, zyB, Int.reduceEq, ↓reduceIte, zy0, zy1, zy2, zy3, zy4, zy5, zy6, zy7, zy8, zy9, zy10, zy11, zy12, zy13, zy14, zy15, zy16, Nat.reduceEqDiff, Nat.reduceBEq, Nat.reduceAdd, Nat.reduceMul, Nat.reduceSub, Int.reduceToNat, zy17, zy18, zy19, zy20, Nat.reduceLT, Nat.reduceLeDiff, zy21, zy22, zy23, zy24, zy25, zy26, Int.reduceAdd, Int.reduceMul, Int.reduceSub, Int.reduceNeg, Int.reduceDiv, Int.reduceMod, zy27]
        refine go_once ?_
        simp (maxSteps := 10000000) (disch := first | assumption | omega | (simp only [zy19, zy17, zy18, zy34, zy35, zy36, zy11, zy12, rsL] <;> omega) | with_reducible exact rowOK_nil _ _ | ((repeat' apply rowOK_put) <;> first | assumption | exact rowP_ok _ _ _ _ _ | omega) | (simp only [rsI]; done)) only [↓rsW, ↓rsd, rsu, rsX, zyB, Int.reduceEq, ↓reduceIte, zy0, zy1, zy2, zy3, zy4, zy5, zy6, zy7, zy8, zy9, zy10, zy11, zy12, zy13, zy14, zy15, zy16, Nat.reduceEqDiff, Nat.reduceBEq, Nat.reduceAdd, Nat.reduceMul, Nat.reduceSub, Int.reduceToNat, zy17, zy18, zy19, zy20, Nat.reduceLT, Nat.reduceLeDiff, zy21, zy22, zy23, zy24, zy25, zy26, Int.reduceAdd, Int.reduceMul, Int.reduceSub, Int.reduceNeg, Int.reduceDiv, Int.reduceMod, zy27]
        refine go_once ?_
        simp (maxSteps := 10000000) (disch := first | assumption | omega | (simp only [zy19, zy17, zy18, zy34, zy35, zy36, zy11, zy12, rsL] <;> omega) | with_reducible exact rowOK_nil _ _ | ((repeat' apply rowOK_put) <;> first | assumption | exact rowP_ok _ _ _ _ _ | omega) | (simp only [rsI]; done)) only [↓rsW, ↓rsd, rsu, rsX, zyB, Int.reduceEq, ↓reduceIte, zy0, zy1, zy2, zy3, zy4, zy5, zy6, zy7, zy8, zy9, zy10, zy11, zy12, zy13, zy14, zy15, zy16, Nat.reduceEqDiff, Nat.reduceBEq, Nat.reduceAdd, Nat.reduceMul, Nat.reduceSub, Int.reduceToNat, zy17, zy18, zy19, zy20, Nat.reduceLT, Nat.reduceLeDiff, zy21, zy22, zy23, zy24, zy25, zy26, Int.reduceAdd, Int.reduceMul, Int.reduceSub, Int.reduceNeg, Int.reduceDiv, Int.reduceMod, zy27]
        refine go_once ?_
        simp (maxSteps := 10000000) (disch := first | assumption | omega | (simp only [zy19, zy17, zy18, zy34, zy35, zy36, zy11, zy12, rsL] <;> omega) | with_reducible exact rowOK_nil _ _ | ((repeat' apply rowOK_put) <;> first | assumption | exact rowP_ok _ _ _ _ _ | omega) | (simp only [rsI]; done)) only [↓rsW, ↓rsd, rsu, rsX, zyB, Int.reduceEq, ↓reduceIte, zy0, zy1, zy2, zy3, zy4, zy5, zy6, zy7, zy8, zy9, zy10, zy11, zy12, zy13, zy14, zy15, zy16, Nat.reduceEqDiff, Nat.reduceBEq, Nat.reduceAdd, Nat.reduceMul, Nat.reduceSub, Int.reduceToNat, zy17, zy18, zy19, zy20, Nat.reduceLT, Nat.reduceLeDiff, zy21, zy22, zy23, zy24, zy25, zy26, Int.reduceAdd, Int.reduceMul, Int.reduceSub, Int.reduceNeg, Int.reduceDiv, Int.reduceMod, zy27]
        refine go_loop2 10 (fun n s => ∃ k : Nat, n = a.kids.length - k ∧ k ≤ a.kids.length ∧ 4 ≤ s.N ∧ s.e 2 = .ptr 0 0 ∧ s.e 3 = .ptr 1 0 ∧ s.e 8 = .int .i64 k ∧ s.o 0 = .box a.row ∧ s.o 1 = .box b.row ∧ cmpVs (a.kids.drop k) (b.kids.drop k) = cmpVs a.kids b.kids) a.kids.length ?_ ?_
        · refine ⟨0, rfl, by omega, ?_⟩
          simp (maxSteps := 10000000) (disch := first | assumption | omega | (simp only [zy19, zy17, zy18, zy34, zy35, zy36, zy11, zy12, rsL] <;> omega) | with_reducible exact rowOK_nil _ _ | ((repeat' apply rowOK_put) <;> first | assumption | exact rowP_ok _ _ _ _ _ | omega) | (simp only [rsI]; done)) only [↓rsW, ↓rsd, rsu, rsX, zyB, Int.reduceEq, ↓reduceIte, zy0, zy1, zy2, zy3, zy4, zy5, zy6, zy7, zy8, zy9, zy10, zy11, zy12, zy13, zy14, zy15, zy16, Nat.reduceEqDiff, Nat.reduceBEq, Nat.reduceAdd, Nat.reduceMul, Nat.reduceSub, Int.reduceToNat, zy17, zy18, zy19, zy20, Nat.reduceLT, Nat.reduceLeDiff, zy21, zy22, zy23, zy24, zy25, zy26, Int.reduceAdd, Int.reduceMul, Int.reduceSub, Int.reduceNeg, Int.reduceDiv, Int.reduceMod, zy27]
          first | rfl | exact ⟨rfl, rfl⟩ | exact ⟨rfl, rfl, rfl⟩ | exact ⟨rfl, rfl, rfl, rfl⟩ | exact ⟨rfl, rfl, rfl, rfl, rfl⟩ | exact ⟨rfl, rfl, rfl, rfl, rfl, rfl⟩
        · rintro n e o N ⟨k, hn, hk, hN, e2, e3, e8, o0, o1, hI⟩
          simp only at hN e2 e3 e8 o0 o1
          by_cases hlt : k < a.kids.length
          · have hlt' : k < b.kids.length := by omega
            rw [cmpVs_drop _ _ k hlt hlt'] at hI
            have hc := hg _ (getD_mem a.kids k Val.z hlt) _ (getD_mem b.kids k Val.z hlt')
            generalize cmpV (a.kids.getD k Val.z) (b.kids.getD k Val.z) = q at hI hc
            by_cases hq : q = 0
            · rw [if_pos hq] at hI
              simp (maxSteps := 10000000) (disch := first | assumption | omega | (simp only [zy19, zy17, zy18, zy34, zy35, zy36, zy11, zy12, rsL] <;> omega) | with_reducible exact rowOK_nil _ _ | ((repeat' apply rowOK_put) <;> first | assumption | exact rowP_ok _ _ _ _ _ | omega) | (simp only [rsI]; done)) only [↓rsW, ↓rsd, rsu, rsX, zyB, Int.reduceEq, ↓reduceIte, zy0, zy1, zy2, zy3, zy4, zy5, zy6, zy7, zy8, zy9, zy10, zy11, zy12, zy13, zy14, zy15, zy16, Nat.reduceEqDiff, Nat.reduceBEq, Nat.reduceAdd, Nat.reduceMul, Nat.reduceSub, Int.reduceToNat, zy17, zy18, zy19, zy20, Nat.reduceLT, Nat.reduceLeDiff, zy21, zy22, zy23, zy24, zy25, zy26, Int.reduceAdd, Int.reduceMul, Int.reduceSub, Int.reduceNeg, Int.reduceDiv, Int.reduceMod, zy27, e2, e3, e8, o0, o1, hc, hq]
              exact ⟨_, by omega, k + 1, rfl, by omega, hN, rfl, hI⟩
            · rw [if_neg hq] at hI
              simp (maxSteps := 10000000) (disch := first | assumption | omega | (simp only [zy19, zy17, zy18, zy34, zy35, zy36, zy11, zy12, rsL] <;> omega) | with_reducible exact rowOK_nil _ _ | ((repeat' apply rowOK_put) <;> first | assumption | exact rowP_ok _ _ _ _ _ | omega) | (simp only [rsI]; done)) only [↓rsW, ↓rsd, rsu, rsX, zyB, Int.reduceEq, ↓reduceIte, zy0, zy1, zy2, zy3, zy4, zy5, zy6, zy7, zy8, zy9, zy10, zy11, zy12, zy13, zy14, zy15, zy16, Nat.reduceEqDiff, Nat.reduceBEq, Nat.reduceAdd, Nat.reduceMul, Nat.reduceSub, Int.reduceToNat, zy17, zy18, zy19, zy20, Nat.reduceLT, Nat.reduceLeDiff, zy21, zy22, zy23, zy24, zy25, zy26, Int.reduceAdd, Int.reduceMul, Int.reduceSub, Int.reduceNeg, Int.reduceDiv, Int.reduceMod, zy27, e2, e3, e8, o0, o1, hc, hq]
              rw [hI]
          · have hk' : k = a.kids.length := by omega
            subst hk'
            rw [List.drop_length, cmpVs_nil] at hI
            simp (maxSteps := 10000000) (disch := first | assumption | omega | (simp only [zy19, zy17, zy18, zy34, zy35, zy36, zy11, zy12, rsL] <;> omega) | with_reducible exact rowOK_nil _ _ | ((repeat' apply rowOK_put) <;> first | assumption | exact rowP_ok _ _ _ _ _ | omega) | (simp only [rsI]; done)) only [↓rsW, ↓rsd, rsu, rsX, zyB, Int.reduceEq, ↓reduceIte, zy0, zy1, zy2, zy3, zy4, zy5, zy6, zy7, zy8, zy9, zy10, zy11, zy12, zy13, zy14, zy15, zy16, Nat.reduceEqDiff, Nat.reduceBEq, Nat.reduceAdd, Nat.reduceMul, Nat.reduceSub, Int.reduceToNat, zy17, zy18, zy19, zy20, Nat.reduceLT, Nat.reduceLeDiff, zy21, zy22, zy23, zy24, zy25, zy26, Int.reduceAdd, Int.reduceMul, Int.reduceSub, Int.reduceNeg, Int.reduceDiv, Int.reduceMod, zy27, e2, e3, e8, o0, o1]
            rw [← hI]
      · rw [cmpZ_eq h1, cmpZ_eq h2, cmpZ_gt h3, or3_z]
        simp (maxSteps := 10000000) (disch := first | assumption | omega | (simp only [zy19, zy17, zy18, zy34, zy35, zy36, zy11, zy12, rsL] <;> omega) | with_reducible exact rowOK_nil _ _ | ((repeat' apply rowOK_put) <;> first | assumption | exact rowP_ok _ _ _ _ _ | omega) | (simp only [rsI]; done)) only [↓rsW, ↓rsd, rsu, rsX, zyB, Int.reduceEq, ↓reduceIte, zy0, zy1, zy2, zy3, zy4, zy5, zy6, zy7, zy8, zy9, zy10, zy11, zy12, zy13, zy14, zy15, zy16, Nat.reduceEqDiff, Nat.reduceBEq, Nat.reduceAdd, Nat.reduceMul, Nat.reduceSub, Int.reduceToNat, zy17, zy18, zy19, zy20, Nat.reduceLT, Nat.reduceLeDiff, zy21, zy22, zy23, zy24, zy25, zy26, Int.reduceAdd, Int.reduceMul, Int.reduceSub, Int.reduceNeg, Int.reduceDiv, Int.reduceMod, zy27, m52]
        refine go_once ?_
        simp (maxSteps := 10000000) (disch := first | assumption | omega | (simp only [zy19, zy17, zy18, zy34, zy35, zy36, zy11, zy12, rsL] <;> omega) | with_reducible exact rowOK_nil _ _ | ((repeat' apply rowOK_put) <;> first | assumption | exact rowP_ok _ _ _ _ _ | omega) | (simp only [rsI]; done)) only [↓rsW, ↓rsd, rsu, rsX, zyB, Int.reduceEq, ↓reduceIte, zy0, zy1, zy2, zy3, zy4, zy5, zy6, zy7, zy8, zy9, zy10, zy11, zy12, zy13, zy14, zy15, zy16, Nat.reduceEqDiff, Nat.reduceBEq, Nat.reduceAdd, Nat.reduceMul, Nat.reduceSub, Int.reduceToNat, zy17, zy18, zy19, zy20, Nat.reduceLT, Nat.reduceLeDiff, zy21, zy22, zy23, zy24, zy25, zy26, Int.reduceAdd, Int.reduceMul, Int.reduceSub, Int.reduceNeg, Int.reduceDiv, Int.reduceMod, zy27]
        refine go_once ?_
        simp (maxSteps := 10000000) (disch := first | assumption | omega | (simp only [zy19, zy17, zy18, zy34, zy35, zy36, zy11, zy12, rsL] <;> omega) | with_reducible exact rowOK_nil _ _ | ((repeat' apply rowOK_put) <;> first | assumption | exact rowP_ok _ _ _ _ _ | omega) | (simp only [rsI]; done)) only [↓rsW, ↓rsd, rsu, rsX, zyB, Int.reduceEq, ↓reduceIte, zy0, zy1, zy2, zy3, zy4, zy5, zy6, zy7, zy8, zy9, zy10, zy11, zy12, zy13, zy14, zy15, zy16, Nat.reduceEqDiff, Nat.reduceBEq, Nat.reduceAdd, Nat.reduceMul, Nat.reduceSub, Int.reduceToNat, zy17, zy18, zy19, zy20, Nat.reduceLT, Nat.reduceLeDiff, zy21, zy22, zy23, zy24, zy25, zy26, Int.reduceAdd, Int.reduceMul, Int.reduceSub, Int.reduceNeg, Int.reduceDiv, Int.reduceMod, zy27]
        refine go_once ?_
        simp (maxSteps := 10000000) (disch := first | assumption | omega | (simp only [zy19, zy17, zy18, zy34, zy35, zy36, zy11, zy12, rsL] <;> omega) | with_reducible exact rowOK_nil _ _ | ((repeat' apply rowOK_put) <;> first | assumption | exact rowP_ok _ _ _ _ _ | omega) | (simp only [rsI]; done)) only [↓rsW, ↓rsd, rsu, rsX, zyB, Int.reduceEq, ↓reduceIte, zy0, zy1, zy2, zy3, zy4, zy5, zy6, zy7, zy8, zy9, zy10, zy11, zy12, zy13, zy14, zy15, zy16, Nat.reduceEqDiff, Nat.reduceBEq, Nat.reduceAdd, Nat.reduceMul, Nat.reduceSub, Int.reduceToNat, zy17, zy18, zy19, zy20, Nat.reduceLT, Nat.reduceLeDiff, zy21, zy22, zy23, zy24, zy25, zy26, Int.reduceAdd, Int.reduceMul, Int.reduceSub, Int.reduceNeg, Int.reduceDiv, Int.reduceMod, zy27]
    · rw [cmpZ_eq h1, cmpZ_gt h2, or3_z]
      simp (maxSteps := 10000000) (disch := first | assumption | omega | (simp only [zy19, zy17, zy18, zy34, zy35, zy36, zy11, zy12, rsL] <;> omega) | with_reducible exact rowOK_nil _ _ | ((repeat' apply rowOK_put) <;> first | assumption | exact rowP_ok _ _ _ _ _ | omega) | (simp only [rsI]; done)) only [↓rsW, ↓rsd, rsu, rsX, zyB, Int.reduceEq, ↓reduceIte, zy0, zy1, zy2, zy3, zy4, zy5, zy6, zy7, zy8, zy9, zy10, zy11, zy12, zy13, zy14, zy15, zy16, Nat.reduceEqDiff, Nat.reduceBEq, Nat.reduceAdd, Nat.reduceMul, Nat.reduceSub, Int.reduceToNat, zy17, zy18, zy19, zy20, Nat.reduceLT, Nat.reduceLeDiff, zy21, zy22, zy23, zy24, zy25, zy26, Int.reduceAdd, Int.reduceMul, Int.reduceSub, Int.reduceNeg, Int.reduceDiv, Int.reduceMod, zy27, m52]
      refine go_once ?_
      simp (maxSteps := 10000000) (disch := first | assumption | omega | (simp only [zy19, zy17, zy18, zy34, zy35, zy36, zy11, zy12, rsL] <;> omega) | with_reducible exact rowOK_nil _ _ | ((repeat' apply rowOK_put) <;> first | assumption | exact rowP_ok _ _ _ _ _ | omega) | (simp only [rsI]; done)) only [↓rsW, ↓rsd, rsu, rsX, zyB, Int.reduceEq, ↓reduceIte, zy0, zy1, zy2, zy3, zy4, zy5, zy6, zy7, zy8, zy9, zy10, zy11, zy12, zy13, zy14, zy15, zy16, Nat.reduceEqDiff, Nat.reduceBEq, Nat.reduceAdd, Nat.reduceMul, Nat.reduceSub, Int.reduceToNat, zy17, zy18, zy19, zy20, Nat.reduceLT, Nat.reduceLeDiff, zy21, zy22, zy23, zy24, zy25, zy26, Int.reduceAdd, Int.reduceMul, Int.reduceSub, Int.reduceNeg, Int.reduceDiv, Int.reduceMod, zy27]
      refine go_once ?_
      simp (maxSteps := 10000000) (disch := first | assumption | omega | (simp only [zy19, zy17, zy18, zy34, zy35, zy36, zy11, zy12, rsL] <;> omega) | with_reducible exact rowOK_nil _ _ | ((repeat' apply rowOK_put) <;> first | assumption | exact rowP_ok _ _ _ _ _ | omega) | (simp only [rsI]; done)) only [↓rsW, ↓rsd, rsu, rsX, zyB, Int.reduceEq, ↓reduceIte, zy0, zy1, zy2, zy3, zy4, zy5, zy6, zy7, zy8, zy9, zy10, zy11, zy12, zy13, zy14, zy15, zy16, Nat.reduceEqDiff, Nat.reduceBEq, Nat.reduceAdd, Nat.reduceMul, Nat.reduceSub, Int.reduceToNat, zy17, zy18, zy19, zy20, Nat.reduceLT, Nat.reduceLeDiff, zy21, zy22, zy23, zy24, zy25, zy26, Int.reduceAdd, Int.reduceMul, Int.reduceSub, Int.reduceNeg, Int.reduceDiv, Int.reduceMod, zy27]
  · rw [cmpZ_gt h1, or3_pos (by omega)]
    simp (maxSteps := 10000000) (disch := first | assumption | omega | (simp only [zy19, zy17, zy18, zy34, zy35, zy36, zy11, zy12, rsL] <;> omega) | with_reducible exact rowOK_nil _ _ | ((repeat' apply rowOK_put) <;> first | assumption | exact rowP_ok _ _ _ _ _ | omega) | (simp only [rsI]; done)) only [↓rsW, ↓rsd, rsu, rsX, zyB, Int.reduceEq, ↓reduceIte, zy0, zy1, zy2, zy3, zy4, zy5, zy6, zy7, zy8, zy9, zy10, zy11, zy12, zy13, zy14, zy15, zy16, Nat.reduceEqDiff, Nat.reduceBEq, Nat.reduceAdd, Nat.reduceMul, Nat.reduceSub, Int.reduceToNat, zy17, zy18, zy19, zy20, Nat.reduceLT, Nat.reduceLeDiff, zy21, zy22, zy23, zy24, zy25, zy26, Int.reduceAdd, Int.reduceMul, Int.reduceSub, Int.reduceNeg, Int.reduceDiv, Int.reduceMod, zy27, m52]
    refine go_once ?_
    simp (maxSteps := 10000000) (disch := first | assumption | omega | (simp only [zy19, zy17, zy18, zy34, zy35, zy36, zy11, zy12, rsL] <;> omega) | with_reducible exact rowOK_nil _ _ | ((repeat' apply rowOK_put) <;> first | assumption | exact rowP_ok _ _ _ _ _ | omega) | (simp only [rsI]; done)) only [↓rsW, ↓rsd, rsu, rsX, zyB, Int.reduceEq, ↓reduceIte, zy0, zy1, zy2, zy3, zy4, zy5, zy6, zy7, zy8, zy9, zy10, zy11, zy12, zy13, zy14, zy15, zy16, Nat.reduceEqDiff, Nat.reduceBEq, Nat.reduceAdd, Nat.reduceMul, Nat.reduceSub, Int.reduceToNat, zy17, zy18, zy19, zy20, Nat.reduceLT, Nat.reduceLeDiff, zy21, zy22, zy23, zy24, zy25, zy26, Int.reduceAdd, Int.reduceMul, Int.reduceSub, Int.reduceNeg, Int.reduceDiv, Int.reduceMod, zy27]
mutual
def szV : Val → Nat
  | .mk _ _ ks => 1 + szVs ks
def szVs : List Val → Nat
  | [] => 0
  | a :: l => szV a + szVs l
end
theorem szV_eq (a : Val) : szV a = 1 + szVs a.kids := by cases a; simp only [szV, Val.kids_mk]
theorem szVs_nil : szVs [] = 0 := by simp only [szVs]
theorem szVs_cons (a : Val) (l : List Val) : szVs (a :: l) = szV a + szVs l := by simp only [szVs]
theorem szVs_take (l : List Val) (k : Nat) (h : k < l.length) : szVs (l.take (k + 1)) = szVs (l.take k) + szV (l.getD k Val.z) := by
  induction l generalizing k with
  | nil => simp at h
  | cons a l ih =>
    cases k with
    | zero => simp [szVs_cons, szVs_nil]
    | succ k => simp only [List.take_succ_cons, szVs_cons, List.getD_cons_succ]; rw [ih k (by simpa using h)]; omega
mutual
def dpV : Val → Nat
  | .mk _ _ ks => dpVs ks + 1
def dpVs : List Val → Nat
  | [] => 0
  | a :: l => max (dpV a) (dpVs l)
end
theorem dpV_eq (a : Val) : dpV a = dpVs a.kids + 1 := by cases a; simp only [dpV, Val.kids_mk]
theorem dpVs_nil : dpVs [] = 0 := by simp only [dpVs]
theorem dpVs_cons (a : Val) (l : List Val) : dpVs (a :: l) = max (dpV a) (dpVs l) := by simp only [dpVs]
theorem dpVs_take (l : List Val) (k : Nat) (h : k < l.length) : dpVs (l.take (k + 1)) = max (dpVs (l.take k)) (dpV (l.getD k Val.z)) := by
  induction l generalizing k with
  | nil => simp at h
  | cons a l ih =>
    cases k with
    | zero => simp [dpVs_cons, dpVs_nil]
    | succ k => simp only [List.take_succ_cons, dpVs_cons, List.getD_cons_succ]; rw [ih k (by simpa using h), Nat.max_assoc]
theorem wadd (a b : Int) : binV .add (.int .i64 (IntKind.i64.wrap a)) (.int .i64 (IntKind.i64.wrap b)) = some (.int .i64 (IntKind.i64.wrap (a + b))) := by
  simp only [binV, binI, if_true, IntKind.wrap_i64]; congr 2; omega
theorem size_ok (hE : XOK E) : ∀ a : Val, okV' a → valP (cfW G T E) 47 [.agg a.row] = some (.ret (.int .i64 (IntKind.i64.wrap (szV a)))) := by
  refine Val.ind ?_
  intro a ih ha
  rw [okV_kids] at ha
  have hg : ∀ x ∈ a.kids, valP (cfW G T E) 47 [.agg x.row] = some (.ret (.int .i64 (IntKind.i64.wrap (szV x)))) := fun x hx => ih x hx (ha.2 x hx)
  refine xrun 6 (m := m47) hE rfl rfl rfl rfl ?_
  simp (maxSteps := 10000000) (disch := first | assumption | omega | (simp only [zy19, zy17, zy18, zy34, zy35, zy36, zy11, zy12, rsL] <;> omega) | with_reducible exact rowOK_nil _ _ | ((repeat' apply rowOK_put) <;> first | assumption | exact rowP_ok _ _ _ _ _ | omega) | (simp only [rsI]; done)) only [↓rsW, ↓rsd, rsu, rsX, zyB, Int.reduceEq, ↓reduceIte, zy0, zy1, zy2, zy3, zy4, zy5, zy6, zy7, zy8, zy9, zy10, zy11, zy12, zy13, zy14, zy15, zy16, Nat.reduceEqDiff, Nat.reduceBEq, Nat.reduceAdd, Nat.reduceMul, Nat.reduceSub, Int.reduceToNat, zy17, zy18, zy19, zy20, Nat.reduceLT, Nat.reduceLeDiff, zy21, zy22, zy23, zy24, zy25, zy26, Int.reduceAdd, Int.reduceMul, Int.reduceSub, Int.reduceNeg, Int.reduceDiv, Int.reduceMod, zy27, m47]
  refine go_loop2 6 (fun n s => ∃ k : Nat, n = a.kids.length - k ∧ k ≤ a.kids.length ∧ s.e 3 = .int .i64 (IntKind.i64.wrap ((1 + szVs (a.kids.take k) : Nat) : Int)) ∧ s.e 7 = .sl 3 (Val.rows a.kids) ∧ s.e 8 = .int .i64 a.kids.length ∧ s.e 9 = .int .i64 k) a.kids.length ?_ ?_
  · refine ⟨0, rfl, by omega, ?_⟩
    simp (maxSteps := 10000000) (disch := first | assumption | omega | (simp only [zy19, zy17, zy18, zy34, zy35, zy36, zy11, zy12, rsL] <;> omega) | with_reducible exact rowOK_nil _ _ | ((repeat' apply rowOK_put) <;> first | assumption | exact rowP_ok _ _ _ _ _ | omega) | (simp only [rsI]; done)) only [↓rsW, ↓rsd, rsu, rsX, zyB, Int.reduceEq, ↓reduceIte, zy0, zy1, zy2, zy3, zy4, zy5, zy6, zy7, zy8, zy9, zy10, zy11, zy12, zy13, zy14, zy15, zy16, Nat.reduceEqDiff, Nat.reduceBEq, Nat.reduceAdd, Nat.reduceMul, Nat.reduceSub, Int.reduceToNat, zy17, zy18, zy19, zy20, Nat.reduceLT, Nat.reduceLeDiff, zy21, zy22, zy23, zy24, zy25, zy26, Int.reduceAdd, Int.reduceMul, Int.reduceSub, Int.reduceNeg, Int.reduceDiv, Int.reduceMod, zy27]
    rw [List.take_zero, szVs_nil]; first | rfl | exact ⟨rfl, rfl⟩ | exact ⟨rfl, rfl, rfl⟩ | exact ⟨rfl, rfl, rfl, rfl⟩ | exact ⟨rfl, rfl, rfl, rfl, rfl⟩ | exact ⟨rfl, rfl, rfl, rfl, rfl, rfl⟩
  · rintro n e o N ⟨k, hn, hk, e3, e7, e8, e9⟩
    simp only at e3 e7 e8 e9
    by_cases hlt : k < a.kids.length
    · have hc := hg _ (getD_mem a.kids k Val.z hlt)
      simp (maxSteps := 10000000) (disch := first | assumption | omega | (simp only [zy19, zy17, zy18, zy34, zy35, zy36, zy11, zy12, rsL] <;> omega) | with_reducible exact rowOK_nil _ _ | ((repeat' apply rowOK_put) <;> first | assumption | exact rowP_ok _ _ _ _ _ | omega) | (simp only [rsI]; done)) only [↓rsW, ↓rsd, rsu, rsX, zyB, Int.reduceEq, ↓reduceIte, zy0, zy1, zy2, zy3, zy4, zy5, zy6, zy7, zy8, zy9, zy10, zy11, zy12, zy13, zy14, zy15, zy16, Nat.reduceEqDiff, Nat.reduceBEq, Nat.reduceAdd, Nat.reduceMul, Nat.reduceSub, Int.reduceToNat, zy17, zy18, zy19, zy20, Nat.reduceLT, Nat.reduceLeDiff, zy21, zy22, zy23, zy24, zy25, zy26, Int.reduceAdd, Int.reduceMul, Int.reduceSub, Int.reduceNeg, Int.reduceDiv, Int.reduceMod, zy27, e3, e7, e8, e9, hc, wadd]
      refine ⟨_, by omega, k + 1, rfl, by omega, ?_, rfl⟩
      rw [szVs_take _ _ hlt]
      congr 2
      omega
    · have hk' : k = a.kids.length := by omega
      subst hk'
      simp (maxSteps := 10000000) (disch := first | assumption | omega | (simp only [zy19, zy17, zy18, zy34, zy35, zy36, zy11, zy12, rsL] <;> omega) | with_reducible exact rowOK_nil _ _ | ((repeat' apply rowOK_put) <;> first | assumption | exact rowP_ok _ _ _ _ _ | omega) | (simp only [rsI]; done)) only [↓rsW, ↓rsd, rsu, rsX, zyB, Int.reduceEq, ↓reduceIte, zy0, zy1, zy2, zy3, zy4, zy5, zy6, zy7, zy8, zy9, zy10, zy11, zy12, zy13, zy14, zy15, zy16, Nat.reduceEqDiff, Nat.reduceBEq, Nat.reduceAdd, Nat.reduceMul, Nat.reduceSub, Int.reduceToNat, zy17, zy18, zy19, zy20, Nat.reduceLT, Nat.reduceLeDiff, zy21, zy22, zy23, zy24, zy25, zy26, Int.reduceAdd, Int.reduceMul, Int.reduceSub, Int.reduceNeg, Int.reduceDiv, Int.reduceMod, zy27, e3, e7, e8, e9]
      rw [szV_eq]
theorem rsize_ok (hE : XOK E) : ∀ a : Val, okV' a → valP (cfW G T E) 48 [.agg a.row] = some (.ret (.int .i64 (IntKind.i64.wrap (szV a)))) := by
  refine Val.ind ?_
  intro a ih ha
  rw [okV_kids] at ha
  have hg : ∀ x ∈ a.kids, valP (cfW G T E) 48 [.agg x.row] = some (.ret (.int .i64 (IntKind.i64.wrap (szV x)))) := fun x hx => ih x hx (ha.2 x hx)
  refine xrun 5 (m := m48) hE rfl rfl rfl rfl ?_
  simp (maxSteps := 10000000) (disch := first | assumption | omega | (simp only [zy19, zy17, zy18, zy34, zy35, zy36, zy11, zy12, rsL] <;> omega) | with_reducible exact rowOK_nil _ _ | ((repeat' apply rowOK_put) <;> first | assumption | exact rowP_ok _ _ _ _ _ | omega) | (simp only [rsI]; done)) only [↓rsW, ↓rsd, rsu, rsX, zyB, Int.reduceEq, ↓reduceIte, zy0, zy1, zy2, zy3, zy4, zy5, zy6, zy7, zy8, zy9, zy10, zy11, zy12, zy13, zy14, zy15, zy16, Nat.reduceEqDiff, Nat.reduceBEq, Nat.reduceAdd, Nat.reduceMul, Nat.reduceSub, Int.reduceToNat, zy17, zy18, zy19, zy20, Nat.reduceLT, Nat.reduceLeDiff, zy21, zy22, zy23, zy24, zy25, zy26, Int.reduceAdd, Int.reduceMul, Int.reduceSub, Int.reduceNeg, Int.reduceDiv, Int.reduceMod, zy27, m48]
  refine go_loop2 5 (fun n s => ∃ k : Nat, n = a.kids.length - k ∧ k ≤ a.kids.length ∧ s.e 1 = .ptr 0 0 ∧ s.e 3 = .int .i64 (IntKind.i64.wrap ((1 + szVs (a.kids.take k) : Nat) : Int)) ∧ s.e 4 = .int .i64 k ∧ s.o 0 = .box a.row) a.kids.length ?_ ?_
  · refine ⟨0, rfl, by omega, ?_⟩
    simp (maxSteps := 10000000) (disch := first | assumption | omega | (simp only [zy19, zy17, zy18, zy34, zy35, zy36, zy11, zy12, rsL] <;> omega) | with_reducible exact rowOK_nil _ _ | ((repeat' apply rowOK_put) <;> first | assumption | exact rowP_ok _ _ _ _ _ | omega) | (simp only [rsI]; done)) only [↓rsW, ↓rsd, rsu, rsX, zyB, Int.reduceEq, ↓reduceIte, zy0, zy1, zy2, zy3, zy4, zy5, zy6, zy7, zy8, zy9, zy10, zy11, zy12, zy13, zy14, zy15, zy16, Nat.reduceEqDiff, Nat.reduceBEq, Nat.reduceAdd, Nat.reduceMul, Nat.reduceSub, Int.reduceToNat, zy17, zy18, zy19, zy20, Nat.reduceLT, Nat.reduceLeDiff, zy21, zy22, zy23, zy24, zy25, zy26, Int.reduceAdd, Int.reduceMul, Int.reduceSub, Int.reduceNeg, Int.reduceDiv, Int.reduceMod, zy27]
    rw [List.take_zero, szVs_nil]; first | rfl | exact ⟨rfl, rfl⟩ | exact ⟨rfl, rfl, rfl⟩ | exact ⟨rfl, rfl, rfl, rfl⟩ | exact ⟨rfl, rfl, rfl, rfl, rfl⟩ | exact ⟨rfl, rfl, rfl, rfl, rfl, rfl⟩
  · rintro n e o N ⟨k, hn, hk, e1, e3, e4, o0⟩
    simp only at e1 e3 e4 o0
    by_cases hlt : k < a.kids.length
    · have hc := hg _ (getD_mem a.kids k Val.z hlt)
      simp (maxSteps := 10000000) (disch := first | assumption | omega | (simp only [zy19, zy17, zy18, zy34, zy35, zy36, zy11, zy12, rsL] <;> omega) | with_reducible exact rowOK_nil _ _ | ((repeat' apply rowOK_put) <;> first | assumption | exact rowP_ok _ _ _ _ _ | omega) | (simp only [rsI]; done)) only [↓rsW, ↓rsd, rsu, rsX, zyB, Int.reduceEq, ↓reduceIte, zy0, zy1, zy2, zy3, zy4, zy5, zy6, zy7, zy8, zy9, zy10, zy11, zy12, zy13, zy14, zy15, zy16, Nat.reduceEqDiff, Nat.reduceBEq, Nat.reduceAdd, Nat.reduceMul, Nat.reduceSub, Int.reduceToNat, zy17, zy18, zy19, zy20, Nat.reduceLT, Nat.reduceLeDiff, zy21, zy22, zy23, zy24, zy25, zy26, Int.reduceAdd, Int.reduceMul, Int.reduceSub, Int.reduceNeg, Int.reduceDiv, Int.reduceMod, zy27, e1, e3, e4, o0, hc, wadd]
      refine ⟨_, by omega, k + 1, rfl, by omega, ?_, rfl⟩
      rw [szVs_take _ _ hlt]
      congr 2
      omega
    · have hk' : k = a.kids.length := by omega
      subst hk'
      simp (maxSteps := 10000000) (disch := first | assumption | omega | (simp only [zy19, zy17, zy18, zy34, zy35, zy36, zy11, zy12, rsL] <;> omega) | with_reducible exact rowOK_nil _ _ | ((repeat' apply rowOK_put) <;> first | assumption | exact rowP_ok _ _ _ _ _ | omega) | (simp only [rsI]; done)) only [↓rsW, ↓rsd, rsu, rsX, zyB, Int.reduceEq, ↓reduceIte, zy0, zy1, zy2, zy3, zy4, zy5, zy6, zy7, zy8, zy9, zy10, zy11, zy12, zy13, zy14, zy15, zy16, Nat.reduceEqDiff, Nat.reduceBEq, Nat.reduceAdd, Nat.reduceMul, Nat.reduceSub, Int.reduceToNat, zy17, zy18, zy19, zy20, Nat.reduceLT, Nat.reduceLeDiff, zy21, zy22, zy23, zy24, zy25, zy26, Int.reduceAdd, Int.reduceMul, Int.reduceSub, Int.reduceNeg, Int.reduceDiv, Int.reduceMod, zy27, e1, e3, e4, o0]
      rw [szV_eq]
theorem rdepth_ok (hE : XOK E) : ∀ a : Val, okV' a → dpV a < 9223372036854775808 → valP (cfW G T E) 82 [.agg a.row] = some (.ret (.int .i64 (dpV a))) := by
  refine Val.ind ?_
  intro a ih ha hd
  rw [okV_kids] at ha
  have hle : ∀ k, k ≤ a.kids.length → dpVs (a.kids.take k) ≤ dpVs a.kids := by
    intro k
    induction k with
    | zero => intro _; rw [List.take_zero, dpVs_nil]; omega
    | succ k ihk =>
      intro h
      have h2 : ∀ (l : List Val) (x : Val), x ∈ l → dpV x ≤ dpVs l := by
        intro l
        induction l with
        | nil => intro x hx; cases hx
        | cons b l ihl =>
          intro x hx
          rw [dpVs_cons]
          cases hx with
          | head => omega
          | tail _ hx => have := ihl x hx; omega
      rw [dpVs_take _ _ (by omega)]
      have := ihk (by omega)
      have := h2 a.kids _ (getD_mem a.kids k Val.z (by omega))
      omega
  rw [dpV_eq] at hd
  have hdk : ∀ x ∈ a.kids, dpV x ≤ dpVs a.kids := by
    intro x hx
    obtain ⟨k, hk, rfl⟩ := List.mem_iff_getElem.1 hx
    have h1 := hle (k + 1) (by omega)
    rw [dpVs_take _ _ hk] at h1
    have : a.kids.getD k Val.z = a.kids[k] := by rw [List.getD_eq_getElem?_getD, List.getElem?_eq_getElem hk]; rfl
    rw [this] at h1
    omega
  have hg : ∀ x ∈ a.kids, valP (cfW G T E) 82 [.agg x.row] = some (.ret (.int .i64 (dpV x))) := fun x hx => ih x hx (ha.2 x hx) (by have := hdk x hx; omega)
  refine xrun 5 (m := m82) hE rfl rfl rfl rfl ?_
  simp (maxSteps := 10000000) (disch := first | assumption | omega | (simp only [zy19, zy17, zy18, zy34, zy35, zy36, zy11, zy12, rsL] <;> omega) | with_reducible exact rowOK_nil _ _ | ((repeat' apply rowOK_put) <;> first | assumption | exact rowP_ok _ _ _ _ _ | omega) | (simp only [rsI]; done)) only [↓rsW, ↓rsd, rsu, rsX, zyB, Int.reduceEq, ↓reduceIte, zy0, zy1, zy2, zy3, zy4, zy5, zy6, zy7, zy8, zy9, zy10, zy11, zy12, zy13, zy14, zy15, zy16, Nat.reduceEqDiff, Nat.reduceBEq, Nat.reduceAdd, Nat.reduceMul, Nat.reduceSub, Int.reduceToNat, zy17, zy18, zy19, zy20, Nat.reduceLT, Nat.reduceLeDiff, zy21, zy22, zy23, zy24, zy25, zy26, Int.reduceAdd, Int.reduceMul, Int.reduceSub, Int.reduceNeg, Int.reduceDiv, Int.reduceMod, zy27, m82]
  refine go_loop2 5 (fun n s => ∃ k : Nat, n = a.kids.length - k ∧ k ≤ a.kids.length ∧ s.e 1 = .ptr 0 0 ∧ s.e 3 = .int .i64 (dpVs (a.kids.take k)) ∧ s.e 4 = .int .i64 k ∧ s.o 0 = .box a.row) a.kids.length ?_ ?_
  · refine ⟨0, rfl, by omega, ?_⟩
    simp (maxSteps := 10000000) (disch := first | assumption | omega | (simp only [zy19, zy17, zy18, zy34, zy35, zy36, zy11, zy12, rsL] <;> omega) | with_reducible exact rowOK_nil _ _ | ((repeat' apply rowOK_put) <;> first | assumption | exact rowP_ok _ _ _ _ _ | omega) | (simp only [rsI]; done)) only [↓rsW, ↓rsd, rsu, rsX, zyB, Int.reduceEq, ↓reduceIte, zy0, zy1, zy2, zy3, zy4, zy5, zy6, zy7, zy8, zy9, zy10, zy11, zy12, zy13, zy14, zy15, zy16, Nat.reduceEqDiff, Nat.reduceBEq, Nat.reduceAdd, Nat.reduceMul, Nat.reduceSub, Int.reduceToNat, zy17, zy18, zy19, zy20, Nat.reduceLT, Nat.reduceLeDiff, zy21, zy22, zy23, zy24, zy25, zy26, Int.reduceAdd, Int.reduceMul, Int.reduceSub, Int.reduceNeg, Int.reduceDiv, Int.reduceMod, zy27]
    rw [List.take_zero, dpVs_nil]; first | rfl | exact ⟨rfl, rfl⟩ | exact ⟨rfl, rfl, rfl⟩ | exact ⟨rfl, rfl, rfl, rfl⟩ | exact ⟨rfl, rfl, rfl, rfl, rfl⟩ | exact ⟨rfl, rfl, rfl, rfl, rfl, rfl⟩
  · rintro n e o N ⟨k, hn, hk, e1, e3, e4, o0⟩
    simp only at e1 e3 e4 o0
    by_cases hlt : k < a.kids.length
    · have hc := hg _ (getD_mem a.kids k Val.z hlt)
      have hm : (if ((dpV (a.kids.getD k Val.z) : Nat) : Int) > ((dpVs (a.kids.take k) : Nat) : Int) then ((dpV (a.kids.getD k Val.z) : Nat) : Int) else ((dpVs (a.kids.take k) : Nat) : Int)) = ((max (dpVs (a.kids.take k)) (dpV (a.kids.getD k Val.z)) : Nat) : Int) := by
        split <;> omega
      simp (maxSteps := 10000000) (disch := first | assumption | omega | (simp only [zy19, zy17, zy18, zy34, zy35, zy36, zy11, zy12, rsL] <;> omega) | with_reducible exact rowOK_nil _ _ | ((repeat' apply rowOK_put) <;> first | assumption | exact rowP_ok _ _ _ _ _ | omega) | (simp only [rsI]; done)) only [↓rsW, ↓rsd, rsu, rsX, zyB, Int.reduceEq, ↓reduceIte, zy0, zy1, zy2, zy3, zy4, zy5, zy6, zy7, zy8, zy9, zy10, zy11, zy12, zy13, zy14, zy15, zy16, Nat.reduceEqDiff, Nat.reduceBEq, Nat.reduceAdd, Nat.reduceMul, Nat.reduceSub, Int.reduceToNat, zy17, zy18, zy19, zy20, Nat.reduceLT, Nat.reduceLeDiff, zy21, zy22, zy23, zy24, zy25, zy26, Int.reduceAdd, Int.reduceMul, Int.reduceSub, Int.reduceNeg, Int.reduceDiv, Int.reduceMod, zy27, e1, e3, e4, o0, hc, hm]
      refine ⟨_, by omega, k + 1, rfl, by omega, ?_, rfl⟩
      rw [dpVs_take _ _ hlt]
      try rw [hm]
    · have hk' : k = a.kids.length := by omega
      subst hk'
      rw [List.take_length] at e3
      simp (maxSteps := 10000000) (disch := first | assumption | omega | (simp only [zy19, zy17, zy18, zy34, zy35, zy36, zy11, zy12, rsL] <;> omega) | with_reducible exact rowOK_nil _ _ | ((repeat' apply rowOK_put) <;> first | assumption | exact rowP_ok _ _ _ _ _ | omega) | (simp only [rsI]; done)) only [↓rsW, ↓rsd, rsu, rsX, zyB, Int.reduceEq, ↓reduceIte, zy0, zy1, zy2, zy3, zy4, zy5, zy6, zy7, zy8, zy9, zy10, zy11, zy12, zy13, zy14, zy15, zy16, Nat.reduceEqDiff, Nat.reduceBEq, Nat.reduceAdd, Nat.reduceMul, Nat.reduceSub, Int.reduceToNat, zy17, zy18, zy19, zy20, Nat.reduceLT, Nat.reduceLeDiff, zy21, zy22, zy23, zy24, zy25, zy26, Int.reduceAdd, Int.reduceMul, Int.reduceSub, Int.reduceNeg, Int.reduceDiv, Int.reduceMod, zy27, e1, e3, e4, o0]
      rw [dpV_eq]
      rfl
end Go.Proofs.Ytoccgkgdhobmfaa.Am.Ru
