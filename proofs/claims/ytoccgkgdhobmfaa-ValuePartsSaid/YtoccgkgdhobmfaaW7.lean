/- ValueParts: the law answers true at every input and leaves its arguments as they were. No condition. -/
import Derived.Test.YtoccgkgdhobmfaaW6
import Derived.KernelRfl
import Derived.ProofKit
import Derived.RowKit
import Derived.OpenShut
import Derived.ChangeSame
import Derived.ReadAgain
import Derived.SliceStrings
import Derived.ChangeSlices
import Derived.ChangeMaps5
import Derived.ChangeBears
import Derived.Test.YtoccgkgdhobmfaaRows
import Derived.WalkKit
import Derived.Deep.DeepHandedRow
import Derived.Lib.LaidTab
import Derived.Stop.LaidErr
set_option maxRecDepth 100000
set_option linter.unusedSimpArgs false
set_option linter.unusedVariables false
namespace Go.Proofs.Ytoccgkgdhobmfaa.Am.Ru
open Go
theorem fitA_iff (l : List Dfn) (t : Typ) : ∀ ks : List Val, fitA l ks t = true ↔ ∀ v ∈ ks, fitV l v t = true
  | [] => by simp [fitA_nil]
  | a :: r => by rw [fitA_cons, Bool.and_eq_true, fitA_iff l t r]; simp
theorem fitZ_iff (l : List Dfn) : ∀ (ks : List Val) (ss : List Slt), fitZ l ks ss = true ↔ ∀ (i : Nat) v s, ks[i]? = some v → ss[i]? = some s → fitV l v s.ty = true
  | [], ss => by simp [fitZ_nil]
  | a :: r, [] => by simp [fitZ]
  | a :: r, s :: ss => by
    rw [fitZ_cons, Bool.and_eq_true, fitZ_iff l r ss]
    constructor
    · rintro ⟨h1, h2⟩ i v s' hv hs
      match i, hv, hs with
      | 0, hv, hs => obtain rfl := Option.some.inj hv; obtain rfl := Option.some.inj hs; exact h1
      | i + 1, hv, hs => exact h2 i v s' hv hs
    · intro h
      exact ⟨h 0 a s rfl rfl, fun i v s' hv hs => h (i + 1) v s' hv hs⟩
/-- A value that fits, whose rows are short, whose numbers are in range, of so many nodes. -/
def GV (ds : List Dfn) (t : Typ) (v : Val) (B : Int) : Prop := fitV ds v t = true ∧ okV' v ∧ rgV v ∧ (szV v : Int) ≤ B
theorem mkG_all {g : Nat → Int → Val × Int} {Q : Nat → Val → Prop} : ∀ (k : Nat) (a : Int), (∀ j b, j < k → Q j (g j b).1) → ∀ (i : Nat) v, (mkG g k a).1[i]? = some v → Q i v
  | 0, a, h, i, v, hi => by simp [mkG] at hi
  | k + 1, a, h, i, v, hi => by
    simp only [mkG] at hi
    have hl := mkG_len g k a
    by_cases hlt : i < k
    · rw [List.getElem?_append_left (by omega)] at hi
      exact mkG_all k a (fun j b hj => h j b (by omega)) i v hi
    · rw [List.getElem?_append_right (by omega)] at hi
      have h0 : i - (mkG g k a).1.length = 0 := by
        have := (List.getElem?_eq_some_iff.1 hi).1
        simp at this; omega
      rw [h0] at hi
      obtain rfl := Option.some.inj hi
      have : i = k := by omega
      subst this
      exact h i _ (by omega)
theorem szVs_app : ∀ (a b : List Val), szVs (a ++ b) = szVs a + szVs b
  | [], b => by simp [szVs_nil]
  | x :: a, b => by rw [List.cons_append, szVs_cons, szVs_cons, szVs_app a b]; omega
theorem mkG_sz {g : Nat → Int → Val × Int} {B : Int} : ∀ (k : Nat) (a : Int), (∀ j b, j < k → (szV (g j b).1 : Int) ≤ B) → (szVs (mkG g k a).1 : Int) ≤ k * B
  | 0, a, h => by simp [mkG, szVs_nil]
  | k + 1, a, h => by
    simp only [mkG]
    have h1 := mkG_sz k a (fun j b hj => h j b (by omega))
    have h2 := h k (mkG g k a).2 (by omega)
    rw [szVs_app, szVs_cons, szVs_nil]
    have : ((k + 1 : Nat) : Int) * B = k * B + B := by rw [Int.natCast_add, Int.add_mul]; simp
    rw [this]; omega
theorem mkN_b (x : Int) (h : 0 ≤ x) : -1099511627776 ≤ mkN x ∧ mkN x ≤ 1099511627776 := by unfold mkN; split <;> (try split) <;> omega
theorem gv_of {ds : List Dfn} {t : Typ} {v : Val} {B : Int} (hf : fitV ds v t = true) (hl : v.kids.length < 9223372036854775808) (hk : -9223372036854775808 ≤ v.kind ∧ v.kind < 9223372036854775808) (hn : -9223372036854775808 ≤ v.n ∧ v.n < 9223372036854775808)
    (hc : ∀ x ∈ v.kids, okV' x ∧ rgV x) (hs : (1 + szVs v.kids : Int) ≤ B) : GV ds t v B :=
  ⟨hf, (okV_kids v).2 ⟨hl, fun x hx => (hc x hx).1⟩, (rgV_eq v).2 ⟨hk, hn, fun x hx => (hc x hx).2⟩, by rw [szV_eq]; omega⟩
theorem mkF_good (ds : List Dfn) (l : List Int) : ∀ (n : Nat) (t : Typ) (a d : Int), rk ds n t → GV ds t (mkF ds l n t a d).1 (pw4 n) := by
  intro n
  induction n with
  | zero => intro t a d h; exact absurd h (by simp [rk])
  | succ n ih =>
    intro t a d h
    have hp := pw4_pos n
    have hx := atL_nonneg l a 1048576 (by omega)
    obtain ⟨hvt, h⟩ := h
    simp only [mkF, pw4]
    generalize atL l a 1048576 = x at hx
    rcases h with (h | h) | ⟨h, hk, hr⟩ | ⟨h, hk, hs0, hs3, hr⟩
    · rw [if_pos h]
      have := mkN_b x hx
      refine gv_of ?_ (by show (0 : Nat) < _; omega) (by show (-9223372036854775808 : Int) ≤ 0 ∧ (0 : Int) < _; omega) (by show -9223372036854775808 ≤ mkN x ∧ mkN x < _; omega) (fun x hx => by cases hx) (by show (1 + ((szVs []) : Nat) : Int) ≤ _; rw [szVs_nil]; omega)
      rw [fitV_eq, hvt, if_pos h]; simp only [Val.kind_mk, Val.n_mk, Val.kids_mk, List.length_nil, decide_true, Bool.true_and, decide_eq_true this.1, decide_eq_true this.2]
    · rw [if_neg (by omega), if_pos h]
      refine gv_of ?_ (by show (0 : Nat) < _; omega) (by show (-9223372036854775808 : Int) ≤ 1 ∧ (1 : Int) < _; omega) (by show -9223372036854775808 ≤ x % 2 ∧ x % 2 < _; omega) (fun x hx => by cases hx) (by show (1 + ((szVs []) : Nat) : Int) ≤ _; rw [szVs_nil]; omega)
      rw [fitV_eq, hvt, if_neg (by omega), if_pos h]; simp only [Val.kind_mk, Val.n_mk, Val.kids_mk, List.length_nil, decide_true, Bool.true_and, Bool.or_eq_true, decide_eq_true_eq]; omega
    · rw [if_neg (by omega), if_neg (by omega), if_pos h]
      have hm := mkM_le x d hx
      have hall := mkG_all (g := fun _ b => mkF ds l n (t.kids.getD 0 Typ.z) b (d + 1)) (Q := fun _ v => GV ds (t.kids.getD 0 Typ.z) v (pw4 n)) (mkM x d) (a + 1) (fun j b _ => ih _ b (d + 1) hr)
      have hsz := mkG_sz (g := fun _ b => mkF ds l n (t.kids.getD 0 Typ.z) b (d + 1)) (B := pw4 n) (mkM x d) (a + 1) (fun j b _ => (ih _ b (d + 1) hr).2.2.2)
      have hln := mkG_len (fun _ b => mkF ds l n (t.kids.getD 0 Typ.z) b (d + 1)) (mkM x d) (a + 1)
      generalize (mkG (fun _ b => mkF ds l n (t.kids.getD 0 Typ.z) b (d + 1)) (mkM x d) (a + 1)).1 = ks at hall hsz hln
      generalize mkM x d = m at hm hsz hln
      have h2 : (m : Int) * pw4 n ≤ 2 * pw4 n := Int.mul_le_mul_of_nonneg_right (by omega) (by omega)
      have hmem : ∀ v ∈ ks, GV ds (t.kids.getD 0 Typ.z) v (pw4 n) := fun v hv => by obtain ⟨i, hi⟩ := List.getElem?_of_mem hv; exact hall i v hi
      refine gv_of ?_ (by show ks.length < _; omega) (by show (-9223372036854775808 : Int) ≤ 4 ∧ (4 : Int) < _; omega) (by show (-9223372036854775808 : Int) ≤ 0 ∧ (0 : Int) < _; omega) (fun v hv => ⟨(hmem v hv).2.1, (hmem v hv).2.2.1⟩) (by show (1 + ((szVs ks) : Nat) : Int) ≤ _; omega)
      rw [fitV_eq, hvt, if_neg (by omega), if_neg (by omega), if_pos h]
      simp only [Val.kind_mk, Val.n_mk, Val.kids_mk, decide_true, Bool.true_and, (fitA_iff ds _ ks).2 (fun v hv => (hmem v hv).1)]
    · rw [if_neg (by omega), if_neg (by omega), if_neg (by omega)]
      have hget : ∀ k, k < (defD ds t.ref).slots.length → rk ds n ((defD ds t.ref).slots.getD k Slt.z).ty := fun k hk => hr _ (getD_mem _ _ _ hk)
      by_cases d1 : (defD ds t.ref).kind = 1
      · rw [if_pos d1]
        have hxl := Int.emod_lt_of_pos x (show (0 : Int) < (defD ds t.ref).slots.length by omega)
        have hx0 := Int.emod_nonneg x (show ((defD ds t.ref).slots.length : Int) ≠ 0 by omega)
        have hc := ih _ (a + 1) (d + 1) (hget (x % (defD ds t.ref).slots.length).toNat (by omega))
        generalize (mkF ds l n ((defD ds t.ref).slots.getD (x % ((defD ds t.ref).slots.length : Int)).toNat Slt.z).ty (a + 1) (d + 1)).1 = w at hc
        generalize hy : x % ((defD ds t.ref).slots.length : Int) = y at *
        have hsw := hc.2.2.2
        refine gv_of ?_ (by show (1 : Nat) < _; omega) (by show (-9223372036854775808 : Int) ≤ 3 ∧ (3 : Int) < _; omega) (by show -9223372036854775808 ≤ y ∧ y < _; omega) (fun v hv => by obtain rfl := List.mem_singleton.1 hv; exact ⟨hc.2.1, hc.2.2.1⟩) (by show (1 + ((szVs [w]) : Nat) : Int) ≤ _; rw [szVs_cons, szVs_nil]; omega)
        rw [fitV_eq, hvt, if_neg (by omega), if_neg (by omega), if_neg (by omega), if_pos d1]
        simp only [Val.kind_mk, Val.n_mk, Val.kids_mk, decide_true, Bool.true_and, fitA_cons, fitA_nil, hc.1, List.length_cons, List.length_nil, decide_eq_true hx0, decide_eq_true hxl, Nat.zero_add, Bool.and_true]
      · rw [if_neg d1]
        have hall := mkG_all (g := fun k b => mkF ds l n ((defD ds t.ref).slots.getD k Slt.z).ty b (d + 1)) (Q := fun k v => GV ds ((defD ds t.ref).slots.getD k Slt.z).ty v (pw4 n)) (defD ds t.ref).slots.length (a + 1) (fun j b hj => ih _ b (d + 1) (hget j hj))
        have hsz := mkG_sz (g := fun k b => mkF ds l n ((defD ds t.ref).slots.getD k Slt.z).ty b (d + 1)) (B := pw4 n) (defD ds t.ref).slots.length (a + 1) (fun j b hj => (ih _ b (d + 1) (hget j hj)).2.2.2)
        have hln := mkG_len (fun k b => mkF ds l n ((defD ds t.ref).slots.getD k Slt.z).ty b (d + 1)) (defD ds t.ref).slots.length (a + 1)
        generalize (mkG (fun k b => mkF ds l n ((defD ds t.ref).slots.getD k Slt.z).ty b (d + 1)) (defD ds t.ref).slots.length (a + 1)).1 = ks at hall hsz hln
        have h2 : ((defD ds t.ref).slots.length : Int) * pw4 n ≤ 3 * pw4 n := Int.mul_le_mul_of_nonneg_right (by omega) (by omega)
        have hmem : ∀ v ∈ ks, okV' v ∧ rgV v := fun v hv => by obtain ⟨i, hi⟩ := List.getElem?_of_mem hv; exact ⟨(hall i v hi).2.1, (hall i v hi).2.2.1⟩
        refine gv_of ?_ (by show ks.length < _; omega) (by show (-9223372036854775808 : Int) ≤ 2 ∧ (2 : Int) < _; omega) (by show (-9223372036854775808 : Int) ≤ 0 ∧ (0 : Int) < _; omega) hmem (by show (1 + ((szVs ks) : Nat) : Int) ≤ _; omega)
        rw [fitV_eq, hvt, if_neg (by omega), if_neg (by omega), if_neg (by omega), if_neg d1]
        have hz : fitZ ds ks (defD ds t.ref).slots = true := (fitZ_iff _ _ _).2 (fun i v s hv hs => by
          have := (hall i v hv).1
          rw [List.getD_eq_getElem?_getD, hs] at this
          exact this)
        simp only [Val.kind_mk, Val.n_mk, Val.kids_mk, decide_true, Bool.true_and, hln, hz]
end Go.Proofs.Ytoccgkgdhobmfaa.Am.Ru
set_option maxRecDepth 100000
set_option linter.unusedSimpArgs false
set_option linter.unusedVariables false
namespace Go.Proofs.Ytoccgkgdhobmfaa.Am.Ru
open Go
/-- A zero value: it fits, is of so many nodes and levels, and weighs nothing. -/
def ZV (ds : List Dfn) (n : Nat) (t : Typ) (v : Val) (k : Int) : Prop := fitV ds v t = true ∧ okV' v ∧ rgV v ∧ (szV v : Int) = k ∧ dpV v ≤ n ∧ wtV v = 0
theorem wtVs_zero : ∀ (l : List Val), (∀ v ∈ l, wtV v = 0) → wtVs l = 0
  | [], _ => wtVs_nil
  | a :: l, h => by rw [wtVs_cons, h a (List.mem_cons_self ..), wtVs_zero l (fun v hv => h v (List.mem_cons_of_mem _ hv))]; rfl
theorem dpVs_le {B : Nat} : ∀ (l : List Val), (∀ v ∈ l, dpV v ≤ B) → dpVs l ≤ B
  | [], _ => by rw [dpVs_nil]; omega
  | a :: l, h => by have h1 := h a (List.mem_cons_self ..); have h2 := dpVs_le l (fun v hv => h v (List.mem_cons_of_mem _ hv)); rw [dpVs_cons]; omega
theorem zeroL_all {f : Typ → Int → ZR} {Q : Typ → Val → Prop} (hB : ZB f) (hf : ∀ t l, 0 ≤ l → (f t l).e = 0 → Q t (f t l).v ∧ (szV (f t l).v : Int) = l - (f t l).l) :
    ∀ (r : List Slt) (acc : List Val) (l : Int), 0 ≤ l → (zeroL f r acc l).2.1 = 0 → ∃ vs, (zeroL f r acc l).1 = acc ++ vs ∧ vs.length = r.length ∧ (∀ (i : Nat) v s, vs[i]? = some v → r[i]? = some s → Q s.ty v) ∧ (szVs vs : Int) = l - (zeroL f r acc l).2.2
  | [], acc, l, h0, h => ⟨[], by simp [zeroL], rfl, fun i v s hv => by simp at hv, by simp [zeroL, szVs_nil]⟩
  | s :: r, acc, l, h0, h => by
    rw [zeroL_cons] at h ⊢
    by_cases he : (f s.ty l).e = 0
    · rw [if_pos he] at h ⊢
      have hb := hB s.ty l h0
      obtain ⟨vs, h1, h2, h3, h4⟩ := zeroL_all hB hf r _ _ (hb.2.2 he).1 h
      have hq := hf s.ty l h0 he
      refine ⟨(f s.ty l).v :: vs, by rw [h1, List.append_assoc]; rfl, by simp [h2], fun i v s' hv hs => ?_, by rw [szVs_cons]; omega⟩
      match i, hv, hs with
      | 0, hv, hs => obtain rfl := Option.some.inj hv; obtain rfl := Option.some.inj hs; exact hq.1
      | i + 1, hv, hs => exact h3 i v s' hv hs
    · rw [if_neg he] at h; exact absurd h he
theorem zero_fit (ds : List Dfn) (hds : okDs ds) : ∀ (n : Nat) (t : Typ) (l : Int), 0 ≤ l → (zeroF ds n t l).e = 0 → ZV ds n t (zeroF ds n t l).v (l - (zeroF ds n t l).l) := by
  intro n
  induction n with
  | zero => intro t l h0 h; simp only [zeroF] at h; split at h <;> simp at h
  | succ n ih =>
    intro t l h0 h
    simp only [zeroF] at h ⊢
    have leaf : ∀ k : Int, 0 ≤ k → k ≤ 4 → okV' (.mk k 0 []) ∧ rgV (.mk k 0 []) ∧ (szV (.mk k 0 []) : Int) = 1 ∧ dpV (.mk k 0 []) ≤ n + 1 := by
      intro k k0 k4
      refine ⟨(okV_kids _).2 ⟨by show (0 : Nat) < _; omega, fun x hx => by cases hx⟩, (rgV_eq _).2 ⟨by show _ ≤ k ∧ k < _; omega, by show _ ≤ (0 : Int) ∧ (0 : Int) < _; omega, fun x hx => by cases hx⟩, ?_, ?_⟩
      · rw [szV_eq]; show ((1 + szVs [] : Nat) : Int) = 1; rw [szVs_nil]; rfl
      · rw [dpV_eq]; show dpVs [] + 1 ≤ _; rw [dpVs_nil]; omega
    by_cases hvt : vT ds 24 t = true
    · rw [if_pos hvt] at h ⊢
      by_cases hl : l - 1 < 0
      · rw [if_pos hl] at h; cases h
      · rw [if_neg hl] at h ⊢
        by_cases k0 : t.kind = 0
        · rw [if_pos k0]
          obtain ⟨h1, h2, h3, h4⟩ := leaf 0 (by omega) (by omega)
          refine ⟨?_, h1, h2, by dsimp only; omega, h4, by rw [wtV_eq]; rfl⟩
          rw [fitV_eq, hvt, if_pos k0]; rfl
        · rw [if_neg k0] at h ⊢
          by_cases k1 : t.kind = 1
          · rw [if_pos k1]
            obtain ⟨h1, h2, h3, h4⟩ := leaf 1 (by omega) (by omega)
            refine ⟨?_, h1, h2, by dsimp only; omega, h4, by rw [wtV_eq]; rfl⟩
            rw [fitV_eq, hvt, if_neg k0, if_pos k1]; rfl
          · rw [if_neg k1] at h ⊢
            by_cases k2 : t.kind = 2
            · rw [if_pos k2]
              obtain ⟨h1, h2, h3, h4⟩ := leaf 4 (by omega) (by omega)
              refine ⟨?_, h1, h2, by dsimp only; omega, h4, by rw [wtV_eq]; rfl⟩
              rw [fitV_eq, hvt, if_neg k0, if_neg k1, if_pos k2]
              show (true && (true && (true && fitA ds [] _))) = true
              rw [fitA_nil]; rfl
            · rw [if_neg k2] at h ⊢
              have hok := okD_def hds t.ref
              have hfit := fitV_eq ds
              generalize hdf : defD ds t.ref = df at *
              have hsl := hok.1
              unfold zeroD at h ⊢
              by_cases d0 : df.kind = 1 ∧ df.slots.length = 0
              · rw [if_pos d0] at h; cases h
              · rw [if_neg d0] at h ⊢
                by_cases he : (zeroL (zeroF ds n) (zSlots df) [] (l - 1)).2.1 = 0
                · rw [if_pos he] at h ⊢
                  obtain ⟨vs, h1, h2, h3, h4⟩ := zeroL_all (Q := fun t v => ZV ds n t v (szV v)) (zeroF_le ds n) (fun t l h0 he => by have := ih t l h0 he; exact ⟨⟨this.1, this.2.1, this.2.2.1, rfl, this.2.2.2.2⟩, this.2.2.2.1⟩) (zSlots df) [] (l - 1) (by omega) he
                  rw [List.nil_append] at h1
                  rw [h1]
                  have hzl : (zSlots df).length ≤ df.slots.length := by unfold zSlots; split <;> (try rw [List.length_take]) <;> omega
                  have hmem : ∀ v ∈ vs, okV' v ∧ rgV v ∧ dpV v ≤ n ∧ wtV v = 0 := by
                    intro v hv
                    obtain ⟨i, hi⟩ := List.getElem?_of_mem hv
                    have hlt : i < (zSlots df).length := by have := (List.getElem?_eq_some_iff.1 hi).1; omega
                    have := h3 i v _ hi (List.getElem?_eq_getElem hlt)
                    exact ⟨this.2.1, this.2.2.1, this.2.2.2.2⟩
                  have hzk : 0 ≤ zKind df ∧ zKind df ≤ 4 := by unfold zKind; split <;> omega
                  refine ⟨?_, (okV_kids _).2 ⟨by show vs.length < _; omega, fun v hv => (hmem v hv).1⟩, (rgV_eq _).2 ⟨by show _ ≤ zKind df ∧ zKind df < _; omega, by show _ ≤ (0 : Int) ∧ (0 : Int) < _; omega, fun v hv => (hmem v hv).2.1⟩, ?_, ?_, ?_⟩
                  · rw [hfit, hvt, if_neg k0, if_neg k1, if_neg k2]
                    rw [hdf]
                    by_cases d1 : df.kind = 1
                    · rw [if_pos d1]
                      have hzs : zSlots df = df.slots.take 1 := if_pos d1
                      have hpos : 0 < df.slots.length := by omega
                      have hv1 : vs.length = 1 := by rw [h2, hzs, List.length_take]; omega
                      have hall : fitA ds vs (df.slots.getD 0 Slt.z).ty = true := (fitA_iff _ _ _).2 (fun v hv => by
                        obtain ⟨i, hi⟩ := List.getElem?_of_mem hv
                        have hi0 : i = 0 := by have := (List.getElem?_eq_some_iff.1 hi).1; omega
                        subst hi0
                        have hg : (zSlots df)[0]? = some (df.slots.getD 0 Slt.z) := by
                          rw [hzs, List.getElem?_take, if_pos (by omega), List.getElem?_eq_getElem hpos, List.getD_eq_getElem?_getD, List.getElem?_eq_getElem hpos]; rfl
                        exact (h3 0 v _ hi hg).1)
                      have hk3 : zKind df = 3 := if_pos d1
                      have hp' : (0 : Int) < df.slots.length := by omega
                      simp only [Val.kind_mk, Val.n_mk, Val.kids_mk, hk3, hv1, decide_true, Bool.true_and, Int.toNat_zero, hall, decide_eq_true hp', Int.le_refl]
                    · rw [if_neg d1]
                      have hzs : zSlots df = df.slots := if_neg d1
                      have hk2 : zKind df = 2 := if_neg d1
                      have hv1 : vs.length = df.slots.length := by rw [h2, hzs]
                      have hall : fitZ ds vs df.slots = true := (fitZ_iff _ _ _).2 (fun i v s hv hs => (h3 i v s hv (by rw [hzs]; exact hs)).1)
                      simp only [Val.kind_mk, Val.n_mk, Val.kids_mk, hk2, hv1, decide_true, Bool.true_and, hall]
                  · rw [szV_eq]; show ((1 + szVs vs : Nat) : Int) = l - (zeroL (zeroF ds n) (zSlots df) [] (l - 1)).2.2; omega
                  · rw [dpV_eq]; show dpVs vs + 1 ≤ _
                    have := dpVs_le vs (fun v hv => (hmem v hv).2.2.1)
                    omega
                  · rw [wtV_eq]
                    show (if zKind df = 0 then _ else if zKind df = 1 then _ else if zKind df = 2 then wtVs vs else if zKind df = 3 then 0 + wtVs vs else _) = 0
                    rw [wtVs_zero vs (fun v hv => (hmem v hv).2.2.2)]
                    unfold zKind; by_cases d1 : df.kind = 1 <;> simp [d1]
                · rw [if_neg he] at h; exact absurd h he
    · rw [if_neg hvt] at h; cases h
/-- The types whose zero values are small. -/
def zk (ds : List Dfn) : Nat → Typ → Prop
  | 0, _ => False
  | n + 1, t => vT ds 24 t = true ∧ (t.kind = 0 ∨ t.kind = 1 ∨ t.kind = 2 ∨ (¬ t.kind = 0 ∧ ¬ t.kind = 1 ∧ ¬ t.kind = 2 ∧ 0 < (defD ds t.ref).slots.length ∧ (defD ds t.ref).slots.length ≤ 3 ∧ ∀ s ∈ (defD ds t.ref).slots, zk ds n s.ty))
def zz : Nat → Int
  | 0 => 0
  | n + 1 => 1 + 3 * zz n
theorem zz_pos : ∀ n, 0 ≤ zz n
  | 0 => by simp [zz]
  | n + 1 => by have := zz_pos n; simp only [zz]; omega
theorem zeroL_e {f : Typ → Int → ZR} {B : Int} (hB0 : 0 ≤ B) : ∀ (r : List Slt) (acc : List Val) (l : Int), (∀ s ∈ r, ∀ l, B ≤ l → (f s.ty l).e = 0 ∧ l - B ≤ (f s.ty l).l) → (r.length : Int) * B ≤ l → (zeroL f r acc l).2.1 = 0 ∧ l - (r.length : Int) * B ≤ (zeroL f r acc l).2.2
  | [], acc, l, h, hl => ⟨rfl, by simp [zeroL]⟩
  | s :: r, acc, l, h, hl => by
    have e : ((s :: r).length : Int) * B = (r.length : Int) * B + B := by rw [List.length_cons, Int.natCast_add, Int.add_mul]; simp
    rw [e] at hl ⊢
    have hr : 0 ≤ (r.length : Int) * B := Int.mul_nonneg (by omega) hB0
    have h1 := h s (List.mem_cons_self ..) l (by omega)
    rw [zeroL_cons, if_pos h1.1]
    have h2 := zeroL_e hB0 r (acc ++ [(f s.ty l).v]) (f s.ty l).l (fun s' hs => h s' (List.mem_cons_of_mem _ hs)) (by omega)
    exact ⟨h2.1, by omega⟩
theorem zero_e (ds : List Dfn) : ∀ (n m : Nat) (t : Typ) (l : Int), zk ds n t → n ≤ m → zz n ≤ l → (zeroF ds m t l).e = 0 ∧ l - zz n ≤ (zeroF ds m t l).l := by
  intro n
  induction n with
  | zero => intro m t l h; exact absurd h (by simp [zk])
  | succ n ih =>
    intro m t l h hm hl
    obtain ⟨m', rfl⟩ : ∃ m', m = m' + 1 := ⟨m - 1, by omega⟩
    have hp := zz_pos n
    simp only [zz] at hl ⊢
    obtain ⟨hvt, h⟩ := h
    simp only [zeroF]
    rw [if_pos hvt, if_neg (by omega)]
    by_cases k0 : t.kind = 0
    · rw [if_pos k0]; exact ⟨rfl, by dsimp only; omega⟩
    · rw [if_neg k0]
      by_cases k1 : t.kind = 1
      · rw [if_pos k1]; exact ⟨rfl, by dsimp only; omega⟩
      · rw [if_neg k1]
        by_cases k2 : t.kind = 2
        · rw [if_pos k2]; exact ⟨rfl, by dsimp only; omega⟩
        · rw [if_neg k2]
          obtain ⟨-, -, -, hs0, hs3, hr⟩ := ((h.resolve_left k0).resolve_left k1).resolve_left k2
          generalize defD ds t.ref = df at *
          unfold zeroD
          rw [if_neg (by omega)]
          have hzl : (zSlots df).length ≤ 3 := by unfold zSlots; split <;> (try rw [List.length_take]) <;> omega
          have hzm : ∀ s ∈ zSlots df, s ∈ df.slots := by
            intro s hs; unfold zSlots at hs; split at hs
            · exact List.mem_of_mem_take hs
            · exact hs
          have hB : ((zSlots df).length : Int) * zz n ≤ 3 * zz n := Int.mul_le_mul_of_nonneg_right (by omega) hp
          have := zeroL_e (f := zeroF ds m') hp (zSlots df) [] (l - 1) (fun s hs l hl => ih m' s.ty l (hr s (hzm s hs)) (by omega) hl) (by omega)
          rw [if_pos this.1]
          exact ⟨rfl, by dsimp only; omega⟩
end Go.Proofs.Ytoccgkgdhobmfaa.Am.Ru
set_option maxRecDepth 100000
set_option linter.unusedSimpArgs false
set_option linter.unusedVariables false
namespace Go.Proofs.Ytoccgkgdhobmfaa.Am.Ru
open Go
variable {G : Nat → Option (List V)} {E : Nat → Option (CallFn → List V → Hp → Nat → Option Out)}
theorem rk_succ (ds : List Dfn) : ∀ (n : Nat) (t : Typ), rk ds n t → rk ds (n + 1) t
  | 0, t, h => absurd h (by simp [rk])
  | n + 1, t, h => by
    obtain ⟨hv, h⟩ := h
    refine ⟨hv, ?_⟩
    rcases h with h | ⟨h, hk, hr⟩ | ⟨h, hk, hs0, hs3, hr⟩
    · exact .inl h
    · exact .inr (.inl ⟨h, hk, rk_succ ds n _ hr⟩)
    · exact .inr (.inr ⟨h, hk, hs0, hs3, fun s hs => rk_succ ds n _ (hr s hs)⟩)
theorem rk_le (ds : List Dfn) {n m : Nat} (h : n ≤ m) {t : Typ} (hr : rk ds n t) : rk ds m t := by
  induction h with
  | refl => exact hr
  | step _ ih => exact rk_succ ds _ t ih
theorem zk_succ (ds : List Dfn) : ∀ (n : Nat) (t : Typ), zk ds n t → zk ds (n + 1) t
  | 0, t, h => absurd h (by simp [zk])
  | n + 1, t, h => by
    obtain ⟨hv, h⟩ := h
    refine ⟨hv, ?_⟩
    rcases h with h | h | h | ⟨h0, h1, h2, h3, h4, hr⟩
    · exact .inl h
    · exact .inr (.inl h)
    · exact .inr (.inr (.inl h))
    · exact .inr (.inr (.inr ⟨h0, h1, h2, h3, h4, fun s hs => zk_succ ds n _ (hr s hs)⟩))
theorem zk_le (ds : List Dfn) {n m : Nat} (h : n ≤ m) {t : Typ} (hr : zk ds n t) : zk ds m t := by
  induction h with
  | refl => exact hr
  | step _ ih => exact zk_succ ds _ t ih
theorem idK_inj {a b : Nat} (h : idK (1 + (a : Int)) = idK (1 + (b : Int))) (ha : a < 20) (hb : b < 20) : a = b := by
  unfold idK at h
  have h3 : (1 + (a : Int)) % 32 = (1 + (b : Int)) % 32 := congrArg Idn.index h
  omega
theorem defOf_tys (l : List Int) : ∀ (m j : Nat), j < m → m < 20 → defOf (tyDefs l m) (idK (1 + (j : Int))) = some (tyDef l j)
  | m + 1, j, h, hm => by
    rw [tyDefs, defOf_app]
    by_cases hj : j < m
    · rw [defOf_tys l m j hj (by omega)]; rfl
    · have : j = m := by omega
      subst this
      have hn : ∀ k, k ≤ j → defOf (tyDefs l k) (idK (1 + (j : Int))) = none := by
        intro k
        induction k with
        | zero => intro _; rfl
        | succ k ih =>
          intro hk
          rw [tyDefs, defOf_app, ih (by omega)]
          simp only [Option.none_or, defOf]
          rw [if_neg (fun e => by have := idK_inj (a := k) (b := j) e (by omega) (by omega); omega)]
      rw [hn j (Nat.le_refl _)]
      simp only [Option.none_or, defOf]
      exact if_pos rfl
theorem defD_tys (l : List Int) (j : Nat) (h : j < tyM l) : defD (typesP l).defs (idK (1 + (j : Int))) = tyDef l j := by
  have hM := tyM_b l
  unfold defD; show (defOf (tyDefs l (tyM l)) _).getD _ = _
  rw [defOf_tys l _ j h (by omega)]; rfl
theorem isTD_tys (l : List Int) (j : Nat) (h : j < tyM l) : isTD (typesP l).defs (idK (1 + (j : Int))) = true := by
  have hM := tyM_b l
  have hx := tyX_b l j
  unfold isTD
  rw [defD_tys l j h]
  have hb : defB (typesP l).defs (idK (1 + (j : Int))) = true := by
    unfold defB; show (defOf (tyDefs l (tyM l)) _).isSome = _
    rw [defOf_tys l _ j h (by omega)]; rfl
  rw [hb, show (tyDef l j).kind = tyX l j % 2 from rfl]
  simp only [Bool.true_and, Bool.or_eq_true, decide_eq_true_eq]
  omega
theorem pick_cases (n : Int) (j : Nat) (h : 0 ≤ n) : pickT n j = Typ.z ∨ pickT n j = .mk 1 ⟨0, 0, 0⟩ [] ∨ pickT n j = listT Typ.z ∨ ∃ i : Nat, i < j ∧ (pickT n j = ofT (idK (1 + (i : Int))) ∨ pickT n j = listT (ofT (idK (1 + (i : Int))))) := by
  have h0 := arnd_nonneg n (4 + 2 * (j : Int)) (by omega)
  have h1 := arnd_lt n (4 + 2 * (j : Int)) (by omega)
  unfold pickT
  generalize arnd n (4 + 2 * (j : Int)) = k at *
  split
  · exact .inr (.inl rfl)
  · split
    · exact .inr (.inr (.inl rfl))
    · split
      · refine .inr (.inr (.inr ⟨((k - 4) / 2).toNat, by omega, ?_⟩))
        rw [show (((k - 4) / 2).toNat : Int) = (k - 4) / 2 by omega]
        split
        · exact .inr rfl
        · exact .inl rfl
      · exact .inl rfl
theorem vT_of (l : List Int) (j n : Nat) (h : j < tyM l) : vT (typesP l).defs (n + 1) (ofT (idK (1 + (j : Int)))) = true := by
  rw [vT_succ]
  show (if (3 : Int) = 2 then _ else if ([] : List Typ).length = 0 then (if (3 : Int) = 3 then isTD (typesP l).defs (idK (1 + (j : Int))) else _) else _) = true
  rw [isTD_tys l j h]; rfl
theorem vT_list' (ds : List Dfn) (t : Typ) (n : Nat) (h : vT ds n t = true) : vT ds (n + 1) (listT t) = true := by
  rw [vT_succ]
  show (if (2 : Int) = 2 then decide (Idn.mk 0 0 0 = Idn.mk 0 0 0) && (decide ((1 : Nat) = 1) && vT ds n t) else _) = true
  rw [if_pos rfl, h]; rfl
theorem vT_k (ds : List Dfn) (n : Nat) (k : Int) (h : k = 0 ∨ k = 1) : vT ds (n + 1) (.mk k ⟨0, 0, 0⟩ []) = true := by
  rw [vT_succ]
  rcases h with rfl | rfl <;> rfl
theorem rk_z (ds : List Dfn) (n : Nat) : rk ds (n + 1) Typ.z := ⟨vT_k ds 23 0 (.inl rfl), .inl (.inl rfl)⟩
theorem zk_z (ds : List Dfn) (n : Nat) : zk ds (n + 1) Typ.z := ⟨vT_k ds 23 0 (.inl rfl), .inl rfl⟩
theorem rk_of (l : List Int) : ∀ j : Nat, j < tyM l → rk (typesP l).defs (2 * j + 3) (ofT (idK (1 + (j : Int)))) := by
  intro j
  induction j using Nat.strongRecOn with
  | ind j ih =>
    intro hj
    have hx := tyX_b l j
    have hC := tyC_b l j
    refine ⟨vT_of l j 23 hj, .inr (.inr ⟨rfl, ?_⟩)⟩
    show ((defD (typesP l).defs (idK (1 + (j : Int)))).kind = 0 ∨ (defD (typesP l).defs (idK (1 + (j : Int)))).kind = 1) ∧ 0 < (defD (typesP l).defs (idK (1 + (j : Int)))).slots.length ∧ (defD (typesP l).defs (idK (1 + (j : Int)))).slots.length ≤ 3 ∧ ∀ s ∈ (defD (typesP l).defs (idK (1 + (j : Int)))).slots, rk (typesP l).defs (2 * j + 2) s.ty
    rw [defD_tys l j hj]
    refine ⟨by show tyX l j % 2 = 0 ∨ tyX l j % 2 = 1; omega, by show 0 < (tySlots l j (tyC l j)).length; rw [tySlots_len]; omega, by show (tySlots l j (tyC l j)).length ≤ 3; rw [tySlots_len]; omega, fun s hs => ?_⟩
    obtain ⟨k, hk, rfl⟩ := tySlots_mem hs
    show rk _ _ (pickT _ _)
    rcases pick_cases (atL l (5 + 3 * (j : Int) + (k : Int)) 65536) j (atL_nonneg _ _ _ (by omega)) with e | e | e | ⟨i, hi, e | e⟩
    · rw [e]; exact rk_z _ _
    · rw [e]; exact ⟨vT_k _ 23 1 (.inr rfl), .inl (.inr rfl)⟩
    · rw [e]
      exact rk_le _ (show 2 ≤ 2 * j + 2 by omega) ⟨vT_list' _ _ 23 (vT_k _ 22 0 (.inl rfl)), .inr (.inl ⟨rfl, rfl, rk_z _ _⟩)⟩
    · rw [e]; exact rk_le _ (by omega) (ih i hi (by omega))
    · rw [e]
      refine rk_le _ (show 2 * i + 4 ≤ 2 * j + 2 by omega) ⟨vT_list' _ _ 23 (vT_of l i 22 (by omega)), .inr (.inl ⟨rfl, rfl, ih i hi (by omega)⟩)⟩
theorem zk_of (l : List Int) : ∀ j : Nat, j < tyM l → zk (typesP l).defs (j + 2) (ofT (idK (1 + (j : Int)))) := by
  intro j
  induction j using Nat.strongRecOn with
  | ind j ih =>
    intro hj
    have hC := tyC_b l j
    refine ⟨vT_of l j 23 hj, .inr (.inr (.inr ⟨by show ¬ (3 : Int) = 0; omega, by show ¬ (3 : Int) = 1; omega, by show ¬ (3 : Int) = 2; omega, ?_⟩))⟩
    show 0 < (defD (typesP l).defs (idK (1 + (j : Int)))).slots.length ∧ (defD (typesP l).defs (idK (1 + (j : Int)))).slots.length ≤ 3 ∧ ∀ s ∈ (defD (typesP l).defs (idK (1 + (j : Int)))).slots, zk (typesP l).defs (j + 1) s.ty
    rw [defD_tys l j hj]
    refine ⟨by show 0 < (tySlots l j (tyC l j)).length; rw [tySlots_len]; omega, by show (tySlots l j (tyC l j)).length ≤ 3; rw [tySlots_len]; omega, fun s hs => ?_⟩
    obtain ⟨k, hk, rfl⟩ := tySlots_mem hs
    show zk _ _ (pickT _ _)
    rcases pick_cases (atL l (5 + 3 * (j : Int) + (k : Int)) 65536) j (atL_nonneg _ _ _ (by omega)) with e | e | e | ⟨i, hi, e | e⟩
    · rw [e]; exact zk_z _ _
    · rw [e]; exact ⟨vT_k _ 23 1 (.inr rfl), .inr (.inl rfl)⟩
    · rw [e]; exact ⟨vT_list' _ _ 23 (vT_k _ 22 0 (.inl rfl)), .inr (.inr (.inl rfl))⟩
    · rw [e]; exact zk_le _ (by omega) (ih i hi (by omega))
    · rw [e]; exact ⟨vT_list' _ _ 23 (vT_of l i 22 (by omega)), .inr (.inr (.inl rfl))⟩
/-- The zero value of a type of the laws' programs. -/
theorem zero_tys (l : List Int) (j : Nat) (hj : j < tyM l) : (zeroV (typesP l).defs (ofT (idK (1 + (j : Int))))).e = 0 ∧ validV (typesP l).defs (ofT (idK (1 + (j : Int)))) (zeroV (typesP l).defs (ofT (idK (1 + (j : Int))))).v = true ∧
    okV' (zeroV (typesP l).defs (ofT (idK (1 + (j : Int))))).v ∧ rgV (zeroV (typesP l).defs (ofT (idK (1 + (j : Int))))).v ∧ wtV (zeroV (typesP l).defs (ofT (idK (1 + (j : Int))))).v = 0 ∧ szV (zeroV (typesP l).defs (ofT (idK (1 + (j : Int))))).v ≤ 256 := by
  have hM := tyM_b l
  have h1 := zero_e (typesP l).defs 5 24 (ofT (idK (1 + (j : Int)))) 256 (zk_le _ (by omega) (zk_of l j hj)) (by omega) (by simp [zz])
  have h2 := zero_fit (typesP l).defs (types_okD l) 24 (ofT (idK (1 + (j : Int)))) 256 (by omega) h1.1
  have h3 := zeroF_le (typesP l).defs 24 (ofT (idK (1 + (j : Int)))) 256 (by omega)
  have h4 := (h3.2.2 h1.1).1
  unfold zeroV
  generalize zeroF (typesP l).defs 24 (ofT (idK (1 + (j : Int)))) 256 = Z at *
  obtain ⟨f1, f2, f3, f4, f5, f6⟩ := h2
  have hs : szV Z.v ≤ 256 := by omega
  refine ⟨h1.1, ?_, f2, f3, f6, hs⟩
  unfold validV smallV
  rw [f1, decide_eq_true hs, decide_eq_true f5]; rfl
theorem dp_sz : ∀ v : Val, dpV v ≤ szV v := by
  intro v
  induction v using Val.ind with
  | _ v ih =>
    rw [dpV_eq, szV_eq]
    have : dpVs v.kids ≤ szVs v.kids := by
      generalize v.kids = ks at ih
      induction ks with
      | nil => simp [dpVs_nil]
      | cons a r ihr =>
        rw [dpVs_cons, szVs_cons]
        have h1 := ih a (List.mem_cons_self ..)
        have h2 := ihr (fun x hx => ih x (List.mem_cons_of_mem _ hx))
        omega
    omega
/-- The value of a type, made of numbers. -/
def valueP (p : Prg) (l : List Int) (n : Nat) (t : Typ) : Val :=
  if 256 < szV (mkF p.defs l n t 0 1).1 ∨ 24 < dpV (mkF p.defs l n t 0 1).1 then (if (zeroV p.defs t).e = 0 then (zeroV p.defs t).v else Val.z) else (mkF p.defs l n t 0 1).1
set_option maxHeartbeats 4000000 in
theorem value_ok (hE : XOK E) (p : Prg) (hp : okDs p.defs) (l : List Int) (hl : okI l) (n : Nat) (hn : n ≤ 9) (t : Typ) (ht : okT t) (hr : rk p.defs n t) :
    valP (cfW G T E) 29 [.agg p.row, .agg t.row, .sl 1 (rowI l)] = some (.ret (.agg (valueP p l n t).row)) := by
  have hpw : pw4 n ≤ 262144 := by
    have : n = 0 ∨ n = 1 ∨ n = 2 ∨ n = 3 ∨ n = 4 ∨ n = 5 ∨ n = 6 ∨ n = 7 ∨ n = 8 ∨ n = 9 := by omega
    rcases this with rfl | rfl | rfl | rfl | rfl | rfl | rfl | rfl | rfl | rfl <;> simp [pw4]
  have hc := make_ok (G := G) hE p hp l hl n t 0 1 hr ht (by omega) (by omega) (by omega) (by omega)
  have hg := mkF_good p.defs l n t 0 1 hr
  have hz := rzeroV_ok (G := G) hE p hp t ht
  unfold valueP
  generalize (mkF p.defs l n t 0 1).2 = a' at hc
  generalize (mkF p.defs l n t 0 1).1 = v at *
  have hdz := dp_sz v
  have hs := rsize_ok (G := G) hE v hg.2.1
  have hd := rdepth_ok (G := G) hE v hg.2.1 (by have := hg.2.2.2; omega)
  have hw : IntKind.i64.wrap (szV v) = szV v := wrap_i64_ok _ (by omega) (by have := hg.2.2.2; omega)
  rw [hw] at hs
  refine xrun 9 (m := m29) hE rfl rfl rfl rfl ?_
  by_cases c1 : 256 < szV v
  · rw [if_pos (.inl c1)]
    simp (maxSteps := 10000000) (disch := first | assumption | omega | (simp only [zy19, zy17, zy18, zy34, zy35, zy36, zy11, zy12, rsL] <;> omega) | with_reducible exact rowOK_nil _ _ | ((repeat' apply rowOK_put) <;> first | assumption | exact rowP_ok _ _ _ _ _ | omega) | (simp only [rsI]; done)) only [↓rsW, ↓rsd, rsu, rsX, zyB, Int.reduceEq, ↓reduceIte, zy0, zy1, zy2, zy3, zy4, zy5, zy6, zy7, zy8, zy9, zy10, zy11, zy12, zy13, zy14, zy15, zy16, Nat.reduceEqDiff, Nat.reduceBEq, Nat.reduceAdd, Nat.reduceMul, Nat.reduceSub, Int.reduceToNat, zy17, zy18, zy19, zy20, Nat.reduceLT, Nat.reduceLeDiff, zy21, zy22, zy23, zy24, zy25, zy26, Int.reduceAdd, Int.reduceMul, Int.reduceSub, Int.reduceNeg, Int.reduceDiv, Int.reduceMod, zy27, rsY, m29, hc, hs, hd, hz]
  · by_cases c2 : 24 < dpV v
    · rw [if_pos (.inr c2)]
      simp (maxSteps := 10000000) (disch := first | assumption | omega | (simp only [zy19, zy17, zy18, zy34, zy35, zy36, zy11, zy12, rsL] <;> omega) | with_reducible exact rowOK_nil _ _ | ((repeat' apply rowOK_put) <;> first | assumption | exact rowP_ok _ _ _ _ _ | omega) | (simp only [rsI]; done)) only [↓rsW, ↓rsd, rsu, rsX, zyB, Int.reduceEq, ↓reduceIte, zy0, zy1, zy2, zy3, zy4, zy5, zy6, zy7, zy8, zy9, zy10, zy11, zy12, zy13, zy14, zy15, zy16, Nat.reduceEqDiff, Nat.reduceBEq, Nat.reduceAdd, Nat.reduceMul, Nat.reduceSub, Int.reduceToNat, zy17, zy18, zy19, zy20, Nat.reduceLT, Nat.reduceLeDiff, zy21, zy22, zy23, zy24, zy25, zy26, Int.reduceAdd, Int.reduceMul, Int.reduceSub, Int.reduceNeg, Int.reduceDiv, Int.reduceMod, zy27, rsY, m29, hc, hs, hd, hz]
    · rw [if_neg (by omega)]
      simp (maxSteps := 10000000) (disch := first | assumption | omega | (simp only [zy19, zy17, zy18, zy34, zy35, zy36, zy11, zy12, rsL] <;> omega) | with_reducible exact rowOK_nil _ _ | ((repeat' apply rowOK_put) <;> first | assumption | exact rowP_ok _ _ _ _ _ | omega) | (simp only [rsI]; done)) only [↓rsW, ↓rsd, rsu, rsX, zyB, Int.reduceEq, ↓reduceIte, zy0, zy1, zy2, zy3, zy4, zy5, zy6, zy7, zy8, zy9, zy10, zy11, zy12, zy13, zy14, zy15, zy16, Nat.reduceEqDiff, Nat.reduceBEq, Nat.reduceAdd, Nat.reduceMul, Nat.reduceSub, Int.reduceToNat, zy17, zy18, zy19, zy20, Nat.reduceLT, Nat.reduceLeDiff, zy21, zy22, zy23, zy24, zy25, zy26, Int.reduceAdd, Int.reduceMul, Int.reduceSub, Int.reduceNeg, Int.reduceDiv, Int.reduceMod, zy27, rsY, m29, hc, hs, hd, hz]
/-- The value of a type of the laws' programs is valid. -/
theorem value_tys (l m : List Int) (j : Nat) (hj : j < tyM l) : validV (typesP l).defs (ofT (idK (1 + (j : Int)))) (valueP (typesP l) m 9 (ofT (idK (1 + (j : Int))))) = true ∧
    okV' (valueP (typesP l) m 9 (ofT (idK (1 + (j : Int))))) ∧ rgV (valueP (typesP l) m 9 (ofT (idK (1 + (j : Int))))) := by
  have hM := tyM_b l
  have hz := zero_tys l j hj
  have hr := rk_le _ (show 2 * j + 3 ≤ 9 by omega) (rk_of l j hj)
  have hg := mkF_good (typesP l).defs m 9 _ 0 1 hr
  unfold valueP
  generalize (mkF (typesP l).defs m 9 (ofT (idK (1 + (j : Int)))) 0 1).1 = v at *
  by_cases c : 256 < szV v ∨ 24 < dpV v
  · rw [if_pos c, if_pos hz.1]
    exact ⟨hz.2.1, hz.2.2.1, hz.2.2.2.1⟩
  · rw [if_neg c]
    refine ⟨?_, hg.2.1, hg.2.2.1⟩
    unfold validV smallV
    rw [hg.1, decide_eq_true (show szV v ≤ 256 by omega), decide_eq_true (show dpV v ≤ 24 by omega)]; rfl
theorem valid_sz {ds : List Dfn} {t : Typ} {v : Val} (h : validV ds t v = true) : szV v ≤ 256 ∧ dpV v ≤ 24 ∧ fitV ds v t = true := by
  unfold validV smallV at h
  simp only [Bool.and_eq_true, decide_eq_true_eq] at h
  exact ⟨h.1.1, h.1.2, h.2⟩
end Go.Proofs.Ytoccgkgdhobmfaa.Am.Ru
set_option maxRecDepth 100000
set_option linter.unusedSimpArgs false
set_option linter.unusedVariables false
namespace Go.Proofs.Ytoccgkgdhobmfaa.Am.Ru
open Go
variable {G : Nat → Option (List V)} {E : Nat → Option (CallFn → List V → Hp → Nat → Option Out)}
theorem vT_of_fit {ds : List Dfn} {v : Val} {t : Typ} (h : fitV ds v t = true) : vT ds 24 t = true := by
  rw [fitV_eq, Bool.and_eq_true] at h; exact h.1
theorem fit_dp (ds : List Dfn) : ∀ (n : Nat) (t : Typ) (v : Val), rk ds n t → fitV ds v t = true → dpV v ≤ n := by
  intro n
  induction n with
  | zero => intro t v h; exact absurd h (by simp [rk])
  | succ n ih =>
    intro t v h hf
    obtain ⟨hvt, h⟩ := h
    rw [fitV_eq, hvt, Bool.true_and] at hf
    rw [dpV_eq]
    have fin : (∀ x ∈ v.kids, dpV x ≤ n) → dpVs v.kids + 1 ≤ n + 1 := fun hx => by have := dpVs_le v.kids hx; omega
    rcases h with (h | h) | ⟨h, hk, hr⟩ | ⟨h, hk, hs0, hs3, hr⟩
    · rw [if_pos h] at hf
      simp only [Bool.and_eq_true, decide_eq_true_eq] at hf
      exact fin (fun x hx => by rw [List.eq_nil_of_length_eq_zero hf.2.1] at hx; cases hx)
    · rw [if_neg (by omega), if_pos h] at hf
      simp only [Bool.and_eq_true, decide_eq_true_eq] at hf
      exact fin (fun x hx => by rw [List.eq_nil_of_length_eq_zero hf.2.1] at hx; cases hx)
    · rw [if_neg (by omega), if_neg (by omega), if_pos h] at hf
      simp only [Bool.and_eq_true, decide_eq_true_eq] at hf
      exact fin (fun x hx => ih _ x hr ((fitA_iff _ _ _).1 hf.2.2 x hx))
    · rw [if_neg (by omega), if_neg (by omega), if_neg (by omega)] at hf
      by_cases d1 : (defD ds t.ref).kind = 1
      · rw [if_pos d1] at hf
        simp only [Bool.and_eq_true, decide_eq_true_eq] at hf
        exact fin (fun x hx => ih _ x (hr _ (getD_mem _ _ _ (by omega))) ((fitA_iff _ _ _).1 hf.2.2.2.2 x hx))
      · rw [if_neg d1] at hf
        simp only [Bool.and_eq_true, decide_eq_true_eq] at hf
        refine fin (fun x hx => ?_)
        obtain ⟨i, hi⟩ := List.getElem?_of_mem hx
        have hlt : i < (defD ds t.ref).slots.length := by have := (List.getElem?_eq_some_iff.1 hi).1; omega
        exact ih _ x (hr _ (List.getElem_mem hlt)) ((fitZ_iff _ _ _).1 hf.2.2.2 i x _ hi (List.getElem?_eq_getElem hlt))
theorem mem_sz : ∀ {l : List Val} {x : Val}, x ∈ l → szV x ≤ szVs l ∧ dpV x ≤ dpVs l
  | a :: l, x, h => by
    rw [szVs_cons, dpVs_cons]
    rcases List.mem_cons.1 h with rfl | h
    · omega
    · have := mem_sz h; omega
theorem kid_small {v x : Val} (h : x ∈ v.kids) : szV x ≤ szV v ∧ dpV x ≤ dpV v := by
  have := mem_sz h
  rw [szV_eq v, dpV_eq v]; omega
theorem valid_of {ds : List Dfn} {t : Typ} {v : Val} (h1 : szV v ≤ 256) (h2 : dpV v ≤ 24) (h3 : fitV ds v t = true) : validV ds t v = true := by
  unfold validV smallV; rw [decide_eq_true h1, decide_eq_true h2, h3]; rfl
theorem tyDefs_get (l : List Int) : ∀ (m j : Nat), j < m → (tyDefs l m).getD j Dfn.z = tyDef l j
  | m + 1, j, h => by
    have hlen := tyDefs_len l m
    rw [tyDefs, List.getD_eq_getElem?_getD]
    by_cases hj : j < m
    · rw [List.getElem?_append_left (by omega), ← List.getD_eq_getElem?_getD, tyDefs_get l m j hj]
    · have : j = m := by omega
      subst this
      rw [List.getElem?_append_right (by omega), hlen, Nat.sub_self]; rfl
/-- A list of two, of one. -/
theorem valid_two (ds : List Dfn) (t : Typ) (v : Val) (hf : fitV ds v t = true) (hd : dpV v ≤ 20) (ht : vT ds 23 t = true) : validV ds (listT t) (.mk 4 0 [v, v]) = decide (2 * (szV v : Int) + 1 ≤ 256) := by
  have hvl := vT_list' ds t 23 ht
  unfold validV smallV
  have h1 : szV (.mk 4 0 [v, v]) = 1 + (szV v + (szV v + 0)) := by rw [szV_eq]; show 1 + szVs [v, v] = _; rw [szVs_cons, szVs_cons, szVs_nil]
  have h2 : dpV (.mk 4 0 [v, v]) ≤ 24 := by rw [dpV_eq]; show dpVs [v, v] + 1 ≤ _; rw [dpVs_cons, dpVs_cons, dpVs_nil]; omega
  have h3 : fitV ds (.mk 4 0 [v, v]) (listT t) = true := by
    rw [fitV_eq, hvl]
    show (true && (true && (true && fitA ds [v, v] t))) = true
    rw [fitA_cons, fitA_cons, fitA_nil, hf]; rfl
  rw [h1, h3, decide_eq_true h2]
  simp only [Bool.and_true]
  exact decide_eq_decide.2 (by omega)
theorem valid_one (ds : List Dfn) (t : Typ) (v : Val) (hf : fitV ds v t = true) (hd : dpV v ≤ 20) (ht : vT ds 23 t = true) (hs : 2 * (szV v : Int) + 1 ≤ 256) : validV ds (listT t) (.mk 4 0 [v]) = true := by
  have hvl := vT_list' ds t 23 ht
  refine valid_of ?_ ?_ ?_
  · rw [szV_eq]; show 1 + szVs [v] ≤ _; rw [szVs_cons, szVs_nil]; omega
  · rw [dpV_eq]; show dpVs [v] + 1 ≤ _; rw [dpVs_cons, dpVs_nil]; omega
  · rw [fitV_eq, hvl]
    show (true && (true && (true && fitA ds [v] t))) = true
    rw [fitA_cons, fitA_nil, hf]; rfl
theorem valid_num (ds : List Dfn) (n : Int) : validV ds Typ.z (numV n) = (decide (-1099511627776 ≤ n) && decide (n ≤ 1099511627776)) := by
  have h1 : szV (numV n) = 1 := by rw [szV_eq]; show 1 + szVs [] = 1; rw [szVs_nil]
  have h2 : dpV (numV n) = 1 := by rw [dpV_eq]; show dpVs [] + 1 = 1; rw [dpVs_nil]
  have h3 : vT ds 24 Typ.z = true := vT_k ds 23 0 (.inl rfl)
  unfold validV smallV
  rw [h1, h2, fitV_eq, h3]
  show (decide (1 ≤ 256) && decide (1 ≤ 24) && (true && (true && (true && (decide (-1099511627776 ≤ n) && decide (n ≤ 1099511627776)))))) = _
  simp
theorem kids_ok {ds : List Dfn} {i : Idn} {D : Dfn} (hD : defD ds i = D) {v : Val} (hv : validV ds (ofT i) v = true) {q : Nat} (hq : q < v.kids.length) :
    (D.kind = 1 → 0 ≤ v.n ∧ v.n < D.slots.length ∧ validV ds (D.slots.getD v.n.toNat Slt.z).ty (v.kids.getD q Val.z) = true) ∧
    (¬ D.kind = 1 → q < D.slots.length ∧ validV ds (D.slots.getD q Slt.z).ty (v.kids.getD q Val.z) = true) := by
  obtain ⟨h1, h2, h3⟩ := valid_sz hv
  have hk := kid_small (getD_mem v.kids q Val.z hq)
  have hvt := vT_of_fit h3
  rw [fitV_eq, hvt] at h3
  have hD' : defD ds (ofT i).ref = D := hD
  rw [Bool.true_and, if_neg (show ¬ (ofT i).kind = 0 by show ¬ (3 : Int) = 0; omega), if_neg (show ¬ (ofT i).kind = 1 by show ¬ (3 : Int) = 1; omega), if_neg (show ¬ (ofT i).kind = 2 by show ¬ (3 : Int) = 2; omega), hD'] at h3
  constructor
  · intro d1
    rw [if_pos d1] at h3
    simp only [Bool.and_eq_true, decide_eq_true_eq] at h3
    exact ⟨h3.2.1, h3.2.2.1, valid_of (by omega) (by omega) ((fitA_iff _ _ _).1 h3.2.2.2.2 _ (getD_mem _ _ _ hq))⟩
  · intro d1
    rw [if_neg d1] at h3
    simp only [Bool.and_eq_true, decide_eq_true_eq] at h3
    have hlt : q < D.slots.length := by omega
    refine ⟨hlt, valid_of (by omega) (by omega) ?_⟩
    refine (fitZ_iff _ _ _).1 h3.2.2.2 q _ _ ?_ ?_
    · rw [List.getD_eq_getElem?_getD, List.getElem?_eq_getElem hq]; rfl
    · rw [List.getD_eq_getElem?_getD, List.getElem?_eq_getElem hlt]; rfl
set_option maxHeartbeats 8000000 in
theorem law_parts (hE : XOK E) (l m : List Int) (hl : okI l) (hm : okI m) (which over : Int) (hw0 : -9223372036854775808 ≤ which) (hw1 : which < 9223372036854775808) (ho0 : -9223372036854775808 ≤ over) (ho1 : over < 9223372036854775808) :
    valP (cfW G T E) 12 [.sl 1 (rowI l), .sl 1 (rowI m), .int .i64 which, .int .i64 over] = some (.ret (.bool true)) := by
  have hM := tyM_b l
  have hlen : (typesP l).defs.length = tyM l := tyDefs_len l (tyM l)
  have hty := types_ok (G := G) hE l hl
  have hx := types_okD l
  have hr1 := around_ok (G := G) hE which (tyM l) hw0 hw1 (by omega)
  have ha0 := arnd_nonneg which (tyM l) (by omega)
  have ha1 := arnd_lt which (tyM l) (by omega)
  obtain ⟨j, hj⟩ : ∃ j : Nat, arnd which (tyM l) = (j : Int) := ⟨(arnd which (tyM l)).toNat, by omega⟩
  rw [hj] at hr1 ha1
  have hjM : j < tyM l := by omega
  have hr2 := around_ok (G := G) hE over 4 ho0 ho1 (by omega)
  have hb0 := arnd_nonneg over 4 (by omega)
  have hb1 := arnd_lt over 4 (by omega)
  generalize arnd over 4 = r at hr2 hb0 hb1
  have hget : (typesP l).defs.getD j Dfn.z = tyDef l j := tyDefs_get l _ j hjM
  have hval := value_ok (G := G) hE (typesP l) hx m hm 9 (by omega) (ofT (idK (1 + (j : Int)))) (okT_of _) (rk_le _ (by omega) (rk_of l j hjM))
  have hv := value_tys l m j hjM
  have hD := defD_tys l j hjM
  have hokD : okD (tyDef l j) := by rw [← hD]; exact okD_def hx _
  have hid : (tyDef l j).id = idK (1 + (j : Int)) := rfl
  have hdp := fit_dp _ 9 _ _ (rk_le _ (by omega) (rk_of l j hjM)) (valid_sz hv.1).2.2
  have hvt23 := vT_of l j 22 hjM
  generalize valueP (typesP l) m 9 (ofT (idK (1 + (j : Int)))) = v at *
  have hsz := valid_sz hv.1
  have hsize := size_ok (G := G) hE v hv.2.1
  rw [wrap_i64_ok _ (by omega) (by omega)] at hsize
  have hvk := (okV_kids v).1 hv.2.1
  have htwo : valP (cfW G T E) 44 [.agg (typesP l).row, .agg (listT (ofT (idK (1 + (j : Int))))).row, .agg [V.int .i64 4, .int .i64 0, .sl 3 [v.row, v.row]]] = some (.ret (.bool (decide (2 * (szV v : Int) + 1 ≤ 256)))) := by
    have h := valid_v (G := G) hE (typesP l) hx (listT (ofT (idK (1 + (j : Int))))) (okT_list (okT_of _)) (.mk 4 0 [v, v]) ((okV_kids _).2 ⟨by show (2 : Nat) < _; omega, fun x hx => by
      have : x = v := by simpa [Val.kids_mk] using hx
      rw [this]; exact hv.2.1⟩)
    rw [valid_two _ _ v hsz.2.2 (by omega) hvt23, Val.row_eq (.mk 4 0 [v, v])] at h
    exact h
  have hone : 2 * (szV v : Int) + 1 ≤ 256 → valP (cfW G T E) 44 [.agg (typesP l).row, .agg (listT (ofT (idK (1 + (j : Int))))).row, .agg [V.int .i64 4, .int .i64 0, .sl 3 [v.row]]] = some (.ret (.bool true)) := by
    intro hs
    have h := valid_v (G := G) hE (typesP l) hx (listT (ofT (idK (1 + (j : Int))))) (okT_list (okT_of _)) (.mk 4 0 [v]) ((okV_kids _).2 ⟨by show (1 : Nat) < _; omega, fun x hx => by
      have : x = v := by simpa [Val.kids_mk] using hx
      rw [this]; exact hv.2.1⟩)
    rw [valid_one _ _ v hsz.2.2 (by omega) hvt23 hs, Val.row_eq (.mk 4 0 [v])] at h
    exact h
  have hn1 := valid_v (G := G) hE (typesP l) hx Typ.z okT_z (numV (1099511627775 + r)) (okV_c.2.2.2.2.2.2.2.2.2 _)
  have hn2 := valid_v (G := G) hE (typesP l) hx Typ.z okT_z (numV (-(1099511627775 + r))) (okV_c.2.2.2.2.2.2.2.2.2 _)
  rw [valid_num, Tz_row] at hn1 hn2
  have hli := lives_ok (G := G) hE
  have hkids : ∀ q, q < v.kids.length → _ := fun q hq => kids_ok (q := q) hD hv.1 hq
  have hcall : ∀ q k, q < v.kids.length → k < (tyDef l j).slots.length → validV (typesP l).defs ((tyDef l j).slots.getD k Slt.z).ty (v.kids.getD q Val.z) = true → valP (cfW G T E) 44 [.agg (typesP l).row, .agg ((tyDef l j).slots.getD k Slt.z).ty.row, .agg (v.kids.getD q Val.z).row] = some (.ret (.bool true)) := by
    intro q k hq hk hvk'
    have h := valid_v (G := G) hE (typesP l) hx _ (hokD.2 _ (getD_mem _ k Slt.z hk)) _ (hvk.2 _ (getD_mem _ q Val.z hq))
    rw [hvk'] at h; exact h
  generalize tyDef l j = D at *
  have hDl := hokD.1
  refine xrun 20 (m := m12) hE rfl rfl rfl rfl ?_
  simp (maxSteps := 10000000) (disch := first | assumption | omega | (simp only [zy19, zy17, zy18, zy34, zy35, zy36, zy11, zy12, rsL] <;> omega) | with_reducible exact rowOK_nil _ _ | ((repeat' apply rowOK_put) <;> first | assumption | exact rowP_ok _ _ _ _ _ | omega) | (simp only [rsI]; done)) only [↓rsW, ↓rsd, rsu, rsX, zyB, Int.reduceEq, ↓reduceIte, zy0, zy1, zy2, zy3, zy4, zy5, zy6, zy7, zy8, zy9, zy10, zy11, zy12, zy13, zy14, zy15, zy16, Nat.reduceEqDiff, Nat.reduceBEq, Nat.reduceAdd, Nat.reduceMul, Nat.reduceSub, Int.reduceToNat, zy17, zy18, zy19, zy20, Nat.reduceLT, Nat.reduceLeDiff, zy21, zy22, zy23, zy24, zy25, zy26, Int.reduceAdd, Int.reduceMul, Int.reduceSub, Int.reduceNeg, Int.reduceDiv, Int.reduceMod, zy27, rsY, m12, hty, hlen, hr1, hget, hid, of_ok hE, hval]
  refine go_loop2 20 (fun n s => ∃ q : Nat, n = v.kids.length - q ∧ q ≤ v.kids.length ∧ s.N = 3 ∧ s.e 3 = .int .i64 over ∧ s.e 8 = .bool false ∧ s.e 9 = .ptr 0 0 ∧ s.e 10 = .ptr 1 0 ∧ s.e 11 = .ptr 2 0 ∧ s.e 12 = .int .i64 (q : Nat) ∧
    s.o 0 = .box (typesP l).row ∧ s.o 1 = .box D.row ∧ s.o 2 = .box v.row) v.kids.length ?_ ?_
  · refine ⟨0, rfl, by omega, rfl, ?_⟩
    simp (maxSteps := 10000000) (disch := first | assumption | omega | (simp only [zy19, zy17, zy18, zy34, zy35, zy36, zy11, zy12, rsL] <;> omega) | with_reducible exact rowOK_nil _ _ | ((repeat' apply rowOK_put) <;> first | assumption | exact rowP_ok _ _ _ _ _ | omega) | (simp only [rsI]; done)) only [↓rsW, ↓rsd, rsu, rsX, zyB, Int.reduceEq, ↓reduceIte, zy0, zy1, zy2, zy3, zy4, zy5, zy6, zy7, zy8, zy9, zy10, zy11, zy12, zy13, zy14, zy15, zy16, Nat.reduceEqDiff, Nat.reduceBEq, Nat.reduceAdd, Nat.reduceMul, Nat.reduceSub, Int.reduceToNat, zy17, zy18, zy19, zy20, Nat.reduceLT, Nat.reduceLeDiff, zy21, zy22, zy23, zy24, zy25, zy26, Int.reduceAdd, Int.reduceMul, Int.reduceSub, Int.reduceNeg, Int.reduceDiv, Int.reduceMod, zy27, rsY]
    rfl
  · rintro n e o N ⟨q, hn, hq, rfl, e3, e8, e9, e10, e11, e12, o0, o1, o2⟩
    simp only at e3 e8 e9 e10 e11 e12 o0 o1 o2
    by_cases hlt : q < v.kids.length
    · have hk := hkids q hlt
      by_cases d1 : D.kind = 1
      · obtain ⟨h1, h2, h3⟩ := hk.1 d1
        obtain ⟨k, hk'⟩ : ∃ k : Nat, v.n = (k : Int) := ⟨v.n.toNat, by omega⟩
        rw [hk', Int.toNat_natCast] at h3
        have hkl : k < D.slots.length := by omega
        have hc := hcall q k hlt hkl h3
        simp (maxSteps := 10000000) (disch := first | assumption | omega | (simp only [zy19, zy17, zy18, zy34, zy35, zy36, zy11, zy12, rsL] <;> omega) | with_reducible exact rowOK_nil _ _ | ((repeat' apply rowOK_put) <;> first | assumption | exact rowP_ok _ _ _ _ _ | omega) | (simp only [rsI]; done)) only [↓rsW, ↓rsd, rsu, rsX, zyB, Int.reduceEq, ↓reduceIte, zy0, zy1, zy2, zy3, zy4, zy5, zy6, zy7, zy8, zy9, zy10, zy11, zy12, zy13, zy14, zy15, zy16, Nat.reduceEqDiff, Nat.reduceBEq, Nat.reduceAdd, Nat.reduceMul, Nat.reduceSub, Int.reduceToNat, zy17, zy18, zy19, zy20, Nat.reduceLT, Nat.reduceLeDiff, zy21, zy22, zy23, zy24, zy25, zy26, Int.reduceAdd, Int.reduceMul, Int.reduceSub, Int.reduceNeg, Int.reduceDiv, Int.reduceMod, zy27, rsY, e3, e8, e9, e10, e11, e12, o0, o1, o2, d1, hk', hc]
        exact ⟨v.kids.length - (q + 1), by omega, q + 1, rfl, by omega, rfl⟩
      · obtain ⟨h1, h2⟩ := hk.2 d1
        have hc := hcall q q hlt h1 h2
        simp (maxSteps := 10000000) (disch := first | assumption | omega | (simp only [zy19, zy17, zy18, zy34, zy35, zy36, zy11, zy12, rsL] <;> omega) | with_reducible exact rowOK_nil _ _ | ((repeat' apply rowOK_put) <;> first | assumption | exact rowP_ok _ _ _ _ _ | omega) | (simp only [rsI]; done)) only [↓rsW, ↓rsd, rsu, rsX, zyB, Int.reduceEq, ↓reduceIte, zy0, zy1, zy2, zy3, zy4, zy5, zy6, zy7, zy8, zy9, zy10, zy11, zy12, zy13, zy14, zy15, zy16, Nat.reduceEqDiff, Nat.reduceBEq, Nat.reduceAdd, Nat.reduceMul, Nat.reduceSub, Int.reduceToNat, zy17, zy18, zy19, zy20, Nat.reduceLT, Nat.reduceLeDiff, zy21, zy22, zy23, zy24, zy25, zy26, Int.reduceAdd, Int.reduceMul, Int.reduceSub, Int.reduceNeg, Int.reduceDiv, Int.reduceMod, zy27, rsY, e3, e8, e9, e10, e11, e12, o0, o1, o2, d1, hc]
        exact ⟨v.kids.length - (q + 1), by omega, q + 1, rfl, by omega, rfl⟩
    · have hq' : q = v.kids.length := by omega
      subst hq'
      clear hkids hcall
      have hr0 : r ≤ 1 ∨ 1 < r := by omega
      by_cases hs : 2 * (szV v : Int) + 1 ≤ 256
      · have hone' := hone hs
        rw [decide_eq_true hs] at htwo
        by_cases hr1 : r ≤ 1
        · rw [decide_eq_true (show -1099511627776 ≤ 1099511627775 + r by omega), decide_eq_true (show 1099511627775 + r ≤ 1099511627776 by omega)] at hn1
          rw [decide_eq_true (show -1099511627776 ≤ -(1099511627775 + r) by omega), decide_eq_true (show -(1099511627775 + r) ≤ 1099511627776 by omega)] at hn2
          simp (maxSteps := 10000000) (disch := first | assumption | omega | (simp only [zy19, zy17, zy18, zy34, zy35, zy36, zy11, zy12, rsL] <;> omega) | with_reducible exact rowOK_nil _ _ | ((repeat' apply rowOK_put) <;> first | assumption | exact rowP_ok _ _ _ _ _ | omega) | (simp only [rsI]; done)) only [↓rsW, ↓rsd, rsu, rsX, zyB, Int.reduceEq, ↓reduceIte, zy0, zy1, zy2, zy3, zy4, zy5, zy6, zy7, zy8, zy9, zy10, zy11, zy12, zy13, zy14, zy15, zy16, Nat.reduceEqDiff, Nat.reduceBEq, Nat.reduceAdd, Nat.reduceMul, Nat.reduceSub, Int.reduceToNat, zy17, zy18, zy19, zy20, Nat.reduceLT, Nat.reduceLeDiff, zy21, zy22, zy23, zy24, zy25, zy26, Int.reduceAdd, Int.reduceMul, Int.reduceSub, Int.reduceNeg, Int.reduceDiv, Int.reduceMod, zy27, rsY, e3, e8, e9, e10, e11, e12, o0, o1, o2, hid, of_ok hE, list_ok hE, htwo, hone', hsize, hr2, num_ok hE, hn1, hn2, hli, beq_self_eq_true]
        · rw [decide_eq_true (show -1099511627776 ≤ 1099511627775 + r by omega), decide_eq_false (show ¬ 1099511627775 + r ≤ 1099511627776 by omega)] at hn1
          rw [decide_eq_false (show ¬ -1099511627776 ≤ -(1099511627775 + r) by omega)] at hn2
          simp (maxSteps := 10000000) (disch := first | assumption | omega | (simp only [zy19, zy17, zy18, zy34, zy35, zy36, zy11, zy12, rsL] <;> omega) | with_reducible exact rowOK_nil _ _ | ((repeat' apply rowOK_put) <;> first | assumption | exact rowP_ok _ _ _ _ _ | omega) | (simp only [rsI]; done)) only [↓rsW, ↓rsd, rsu, rsX, zyB, Int.reduceEq, ↓reduceIte, zy0, zy1, zy2, zy3, zy4, zy5, zy6, zy7, zy8, zy9, zy10, zy11, zy12, zy13, zy14, zy15, zy16, Nat.reduceEqDiff, Nat.reduceBEq, Nat.reduceAdd, Nat.reduceMul, Nat.reduceSub, Int.reduceToNat, zy17, zy18, zy19, zy20, Nat.reduceLT, Nat.reduceLeDiff, zy21, zy22, zy23, zy24, zy25, zy26, Int.reduceAdd, Int.reduceMul, Int.reduceSub, Int.reduceNeg, Int.reduceDiv, Int.reduceMod, zy27, rsY, e3, e8, e9, e10, e11, e12, o0, o1, o2, hid, of_ok hE, list_ok hE, htwo, hone', hsize, hr2, num_ok hE, hn1, hn2, hli, beq_self_eq_true]
      · rw [decide_eq_false hs] at htwo
        by_cases hr1 : r ≤ 1
        · rw [decide_eq_true (show -1099511627776 ≤ 1099511627775 + r by omega), decide_eq_true (show 1099511627775 + r ≤ 1099511627776 by omega)] at hn1
          rw [decide_eq_true (show -1099511627776 ≤ -(1099511627775 + r) by omega), decide_eq_true (show -(1099511627775 + r) ≤ 1099511627776 by omega)] at hn2
          simp (maxSteps := 10000000) (disch := first | assumption | omega | (simp only [zy19, zy17, zy18, zy34, zy35, zy36, zy11, zy12, rsL] <;> omega) | with_reducible exact rowOK_nil _ _ | ((repeat' apply rowOK_put) <;> first | assumption | exact rowP_ok _ _ _ _ _ | omega) | (simp only [rsI]; done)) only [↓rsW, ↓rsd, rsu, rsX, zyB, Int.reduceEq, ↓reduceIte, zy0, zy1, zy2, zy3, zy4, zy5, zy6, zy7, zy8, zy9, zy10, zy11, zy12, zy13, zy14, zy15, zy16, Nat.reduceEqDiff, Nat.reduceBEq, Nat.reduceAdd, Nat.reduceMul, Nat.reduceSub, Int.reduceToNat, zy17, zy18, zy19, zy20, Nat.reduceLT, Nat.reduceLeDiff, zy21, zy22, zy23, zy24, zy25, zy26, Int.reduceAdd, Int.reduceMul, Int.reduceSub, Int.reduceNeg, Int.reduceDiv, Int.reduceMod, zy27, rsY, e3, e8, e9, e10, e11, e12, o0, o1, o2, hid, of_ok hE, list_ok hE, htwo, hsize, hr2, num_ok hE, hn1, hn2, hli, beq_self_eq_true]
        · rw [decide_eq_true (show -1099511627776 ≤ 1099511627775 + r by omega), decide_eq_false (show ¬ 1099511627775 + r ≤ 1099511627776 by omega)] at hn1
          rw [decide_eq_false (show ¬ -1099511627776 ≤ -(1099511627775 + r) by omega)] at hn2
          simp (maxSteps := 10000000) (disch := first | assumption | omega | (simp only [zy19, zy17, zy18, zy34, zy35, zy36, zy11, zy12, rsL] <;> omega) | with_reducible exact rowOK_nil _ _ | ((repeat' apply rowOK_put) <;> first | assumption | exact rowP_ok _ _ _ _ _ | omega) | (simp only [rsI]; done)) only [↓rsW, ↓rsd, rsu, rsX, zyB, Int.reduceEq, ↓reduceIte, zy0, zy1, zy2, zy3, zy4, zy5, zy6, zy7, zy8, zy9, zy10, zy11, zy12, zy13, zy14, zy15, zy16, Nat.reduceEqDiff, Nat.reduceBEq, Nat.reduceAdd, Nat.reduceMul, Nat.reduceSub, Int.reduceToNat, zy17, zy18, zy19, zy20, Nat.reduceLT, Nat.reduceLeDiff, zy21, zy22, zy23, zy24, zy25, zy26, Int.reduceAdd, Int.reduceMul, Int.reduceSub, Int.reduceNeg, Int.reduceDiv, Int.reduceMod, zy27, rsY, e3, e8, e9, e10, e11, e12, o0, o1, o2, hid, of_ok hE, list_ok hE, htwo, hsize, hr2, num_ok hE, hn1, hn2, hli, beq_self_eq_true]
end Go.Proofs.Ytoccgkgdhobmfaa.Am.Ru
set_option maxRecDepth 100000
namespace Go.Proofs.Ytoccgkgdhobmfaa.Am
open Go
/-- Every function of the table is the program's. -/
noncomputable def tblOk : Bool := (List.range tbl.length).all fun f => match T f with
  | some m => chkF Go.Proofs.Try.prog f m
  | none => true
theorem tbl_ok : tblOk = true := by kernel_rfl
theorem T_ok : ∀ f m, T f = some m → chkF Go.Proofs.Try.prog f m = true := by
  intro f m h
  have hf : f < tbl.length := by
    rcases Nat.lt_or_ge f tbl.length with h' | h'
    · exact h'
    · unfold T at h; rw [List.getElem?_eq_none h'] at h; cases h
  have := List.all_eq_true.1 tbl_ok f (List.mem_range.2 hf)
  rw [h] at this
  exact this
end Go.Proofs.Ytoccgkgdhobmfaa.Am
set_option maxRecDepth 100000
set_option linter.unusedVariables false
set_option linter.unusedSimpArgs false
namespace Go.Proofs.Ytoccgkgdhobmfaa.Am.Ru
open Go Go.ChangeShapes Go.WideShapes Go.ChangeAt Go.RowKit
/-- The memory that the arguments lie in. -/
abbrev WM (W : World) : Mem := fun b => W.heap[b]?
theorem cellAt_cell {W : World} {b off : Nat} {v : Value} (h : W.cell? ⟨b, off, none⟩ = some v) : cellAt (WM W) b off = some v := by
  unfold World.cell? at h
  unfold cellAt WM
  split <;> simp_all
/-- What a call that answers true leaves. -/
theorem calls_true {P : Program} {G : Nat → Option (List V)} {cf : CallFn} (hX : CallOk P G cf) {f : Nat} {a : List V} {vargs : Array Value} {W : World}
    (h : valP cf f a = some (.ret (.bool true))) (hG : GOK (WM W) G) (hl : vargs.size = a.length) (hr : ∀ (j : Nat) v, a[j]? = some v → PRel (WM W) v (vargs.getD j undef)) :
    Calls P f vargs W (fun e W' => e = .returned (.bool true) ∧ Kp (fun _ => False) W W') := by
  unfold valP at h
  split at h
  · rename_i v o' hcf
    simp only [Option.some.injEq, CV.ret.injEq] at h
    subst h
    have hok : Ok (WM W) (fun _ => none) 0 (fun _ => False) W dd W :=
      ⟨⟨fun b x hx => hx, fun i k hk => (nomatch hk), fun i hi => absurd rfl hi, fun i j ki kj _ _ hk => (nomatch hk)⟩, Kp.refl _ _⟩
    refine ((hX f a dd 0 _ hcf).2 (WM W) (fun _ => none) W (fun _ => False) vargs hok hG hl (fun j v hj => .pure (hr j v hj))).mono ?_
    rintro e W' ⟨x, M', β', N', he, _, _, _, _, hk, hret⟩
    have : PRel M' (.bool true) x := hret
    cases this
    exact ⟨he, hk.kp⟩
  all_goals simp at h
/-- What a call that keeps the old blocks and answers true leaves, as the rows say it. -/
theorem post_true {H : Type} {enc : TypeId × Value → H} {P : Program} {f : Func} {s : ChangeSpec} {apart fresh handsOn again : Bool} {W W' : World} {args : Array Value} {ds : List (DataW H)} {before : List MemPlace} {tb : TypeId}
    (K : Kids P (· < P.types.size)) (hz : ∀ t e, t < P.types.size → P.underlying t = some (.slice e) → 0 < P.cellsOf e) (hts : ∀ t ∈ f.params.toList, t < P.types.size)
    (hW : DataW.Whole enc P f.params.toList [] apart W args.toList ds [] before) (hv : s.vars = [])
    (hs : s.fn H ds = { results := [.lit (.bool true)], args := ds })
    (hk : Kp (fun _ => False) W W') (hres : f.resultTypes = #[tb]) (hb : P.underlying tb = some .bool) :
    s.post enc P f apart fresh handsOn again W args (.bool true) W' := by
  have hold : ∀ b, b < W.heap.size → W'.heap[b]? = W.heap[b]? := fun b hb => hk.block b hb (fun h => h)
  have hlt := hW.lt
  have hcell : ∀ b off, b < W.heap.size → W'.cell? ⟨b, off, none⟩ = W.cell? ⟨b, off, none⟩ := fun b off hb => by unfold World.cell?; simp only [hold b hb]
  have hsame : ∀ p ∈ before, W.sameAt W' p := by
    intro p hp
    have := hlt p hp
    cases p with
    | cell b off => exact hcell b off this
    | map b => exact hold b this
  have hW0 := hW
  obtain ⟨pa, pv, hA, hV, hpb, hfr, hnd⟩ := hW
  obtain ⟨-, rfl⟩ := trodVars_none hV
  obtain rfl : before = pa := by simpa using hpb
  have carryT : ∀ {t v d ps} {sp : Nat → Bool}, DataW.Trod enc P W 0 sp true t v d ps → (∀ p ∈ ps, W.sameAt W' p) → DataW.Trod enc P W' 0 sp true t v d ps :=
    fun ⟨n, hn⟩ hp => ⟨n, DataW.trod_carry n _ _ _ hn hp⟩
  have carry : ∀ {sp : Nat → Bool} {ts vs ds ps}, DataW.TrodAll enc P W 0 sp true ts vs ds ps → (∀ p ∈ ps, W.sameAt W' p) → DataW.TrodAll enc P W' 0 sp true ts vs ds ps := by
    intro sp ts
    induction ts with
    | nil => intro vs ds ps h hp
             obtain ⟨rfl, rfl, rfl⟩ := trodAll_nil h
             exact trodAll_mk0
    | cons t ts ih =>
      intro vs ds ps h hp
      obtain ⟨v, vs1, d, ds1, p, q, rfl, rfl, rfl, h1, h2⟩ := trodAll_cons h
      exact ⟨p, q, carryT h1 (fun x hx => hp x (List.mem_append_left _ hx)), ih h2 (fun x hx => hp x (List.mem_append_right _ hx)), rfl⟩
  have hargs : ∀ sp : Nat → Bool, (∀ p ∈ before, sp p.block = true) → DataW.TrodAll enc P W' 0 sp true f.params.toList args.toList ds before :=
    fun sp hsp => carry (DataW.TrodAll.respare K hz hts hA hsp) hsame
  have hR : ∀ (b : Nat) (sp : Nat → Bool) (hd : Bool), DataW.TrodAll enc P W' b sp hd f.resultTypes.toList ((Value.bool true).resultList f.resultTypes.size) [.lit (.bool true)] [] := by
    intro b sp hd
    rw [hres]
    exact trodAll_cons_mk (shut_bool hb _) trodAll_mk0
  have hkb : W.keptBut W' (fun p => p ∈ before ∧ (p ∈ ([] : List MemPlace) ∨ p ∈ before ∨ p ∈ ([] : List MemPlace))) := by
    refine ⟨hk.os, hk.output, fun i hi => ?_⟩
    rw [hold i hi]
    generalize W.heap[i]? = q
    cases q with
    | none => exact rfl
    | some q =>
      cases q with
      | cells c t fr => exact ⟨rfl, rfl, rfl, fun _ _ => rfl⟩
      | map es clock => exact Or.inr ⟨rfl, rfl⟩
      | _ => exact rfl
  have hW1 : DataW.Whole enc P f.params.toList s.vars apart W args.toList ds [] before := by rw [hv]; exact hW0
  have hlast : ∀ sp : Nat → Bool, DataW.TrodVars enc P W' sp s.vars ([] : List (DataW H)) [] := by rw [hv]; exact fun _ => rfl
  refine ⟨ds, [], before, [], before, [], hW1, ?_, ?_, ?_, hkb, fun _ => ?_⟩
  · rw [List.append_nil, hs]; exact hR _ _ _
  · rw [List.append_nil, hs]; exact hargs _ (fun p hp => by simpa using hlt p hp)
  · rw [List.append_nil, hs]; exact hlast _
  · refine ⟨ok_one hres rfl (okWide_bool_mk hb _), _, _, ([] ++ before) ++ [], ⟨[] ++ before, [], trodAll_append (hargs _ (fun _ _ => rfl)) (hR _ _ _), hlast _, rfl, ?_, ?_⟩, ?_⟩
    · intro b off hp
      have hp' : MemPlace.cell b off ∈ before := by simpa using hp
      have h0 := hfr b off hp'
      have hb' := hlt _ hp'
      unfold World.frozen? at h0 ⊢
      rw [hold b hb']
      exact h0
    · intro ha
      simpa using hnd ha
    · intro p hp _
      simpa using hp
end Go.Proofs.Ytoccgkgdhobmfaa.Am.Ru
set_option maxRecDepth 100000
set_option linter.unusedVariables false
set_option linter.unusedSimpArgs false
namespace Go.Proofs.Ytoccgkgdhobmfaa.Am.Ru
open Go Go.ChangeShapes Go.WideShapes Go.ChangeAt Go.RowKit
section
variable {H : Type} {enc : TypeId × Value → H} {P : Program} {W : World} {r : Reach} {b0 : Nat} {sp : Nat → Bool} {held : Bool} {base : Nat}
theorem spot_none {a : Addr} {v : Value} (h : W.cell? a = some v) : a.spot = none := by
  unfold World.cell? at h
  cases hs : a.spot with
  | none => rfl
  | some x =>
    rw [hs] at h
    split at h <;> simp at h
theorem arg_i64 {t : TypeId} {v : Value} {d : DataW H} {p : List MemPlace} (ht : P.underlying t = some (.int .i64)) (hval : Value.okWide P W r b0 t v) (hd : DataW.Trod enc P W base sp held t v d p) :
    ∃ n : Int, PRel (WM W) (.int .i64 n) v ∧ -9223372036854775808 ≤ n ∧ n < 9223372036854775808 := by
  obtain ⟨n, rfl, -, -, hw⟩ := open_int ht hval hd
  simp only [Lit.wf, Bool.and_eq_true, decide_eq_true_eq] at hw
  have h1 : (-9223372036854775808 : Int) ≤ n := hw.1
  have h2 : n ≤ (9223372036854775807 : Int) := hw.2
  exact ⟨n, PRel.int _ _, h1, by omega⟩
end
end Go.Proofs.Ytoccgkgdhobmfaa.Am.Ru
set_option maxRecDepth 100000
set_option linter.unusedVariables false
set_option linter.unusedSimpArgs false
namespace Go.Proofs.Ytoccgkgdhobmfaa.Am.Ru
open Go Go.ChangeShapes Go.WideShapes Go.ChangeAt Go.RowKit
/-- The types that hold no pointer, map, function or interface. -/
def fineD (l : List TypeId) : Option TypeDesc → Bool
  | some (.int _) | some .bool | some .string => true
  | some (.slice e) => l.contains e
  | some (.struct fs) => fs.toList.all fun f => l.contains f.type
  | _ => false
def fineB (P : Program) (l : List TypeId) : Bool := l.all fun t => decide (t < P.types.size) && fineD l (P.underlying t)
def sumF (c : Nat → Nat) : Nat → Nat
  | 0 => 0
  | n + 1 => sumF c n + c n
def catF (ls : Nat → List V) : Nat → List V
  | 0 => []
  | n + 1 => catF ls n ++ ls n
/-- The cells of a value of a type, and a count of its parts. -/
inductive ShV (P : Program) : TypeId → List V → Nat → Prop
  | int {t : TypeId} {k : IntKind} {n : Int} (ht : P.underlying t = some (.int k)) (hw : (Lit.int k n).wf = true) : ShV P t [.int k n] 1
  | bool {t : TypeId} {b : Bool} (ht : P.underlying t = some .bool) : ShV P t [.bool b] 1
  | str {t : TypeId} {s : List UInt8} (ht : P.underlying t = some .string) (hs : s.length ≤ 9223372036854775807) : ShV P t [.str s] (s.length + 1)
  | sl {t e : TypeId} (rows : List (List V)) (c : Nat → Nat) (ht : P.underlying t = some (.slice e)) (hl : rows.length ≤ 9223372036854775807) (hr : ∀ (i : Nat) r, rows[i]? = some r → ShV P e r (c i)) : ShV P t [.sl (P.cellsOf e) rows] (sumF c rows.length + 1)
  | struct {t : TypeId} {fs : Array Field} (ls : Nat → List V) (c : Nat → Nat) (ht : P.underlying t = some (.struct fs)) (hr : ∀ (i : Nat) f, fs[i]? = some f → ShV P f.type (ls i) (c i)) : ShV P t (catF ls fs.size) (sumF c fs.size + 1)
def CR (W : World) (cs : List Value) (vs : List V) : Prop := vs.length = cs.length ∧ ∀ (j : Nat) v, vs[j]? = some v → (cs.getD j undef).oneCell' = true ∧ PRel (WM W) v (cs.getD j undef)
theorem CR.nil {W : World} : CR W [] [] := ⟨rfl, fun j v h => by simp at h⟩
theorem CR.one {W : World} {x : Value} {v : V} (h1 : x.oneCell' = true) (h2 : PRel (WM W) v x) : CR W [x] [v] := by
  refine ⟨rfl, fun j v' h => ?_⟩
  match j, h with
  | 0, h => obtain rfl := Option.some.inj h; exact ⟨h1, h2⟩
theorem CR.app {W : World} {cs ds : List Value} {vs ws : List V} (h : CR W cs vs) (k : CR W ds ws) : CR W (cs ++ ds) (vs ++ ws) := by
  refine ⟨by rw [List.length_append, List.length_append, h.1, k.1], fun j v hj => ?_⟩
  by_cases hlt : j < vs.length
  · rw [List.getElem?_append_left hlt] at hj
    have := h.2 j v hj
    have hc : j < cs.length := by rw [← h.1]; exact hlt
    simp only [List.getD, List.getElem?_append_left hc]; exact this
  · have hge : vs.length ≤ j := Nat.le_of_not_lt hlt
    rw [List.getElem?_append_right hge] at hj
    have hc : cs.length ≤ j := by rw [← h.1]; exact hge
    have := k.2 _ v hj
    simp only [List.getD, List.getElem?_append_right hc]; rw [← h.1]; exact this
section
variable {H : Type} {enc : TypeId × Value → H} {P : Program} {W : World} {l : List TypeId}
theorem bulk_sum (xs : List (DataW H)) (c : Nat → Nat) (h : ∀ (i : Nat) x, xs[i]? = some x → c i ≤ Rows.uptoBulk x) : sumF c xs.length ≤ Rows.uptoBulkAll xs := by
  have key : ∀ (n : Nat), n ≤ xs.length → sumF c n ≤ Rows.uptoBulkAll (xs.take n) := by
    have app : ∀ (a b : List (DataW H)), Rows.uptoBulkAll (a ++ b) = Rows.uptoBulkAll a + Rows.uptoBulkAll b := by
      intro a b
      induction a with
      | nil => simp [Rows.uptoBulkAll]
      | cons x a ih => simp only [List.cons_append, Rows.uptoBulkAll, ih]; omega
    intro n
    induction n with
    | zero => intro _; simp [sumF]
    | succ n ih =>
      intro hn
      have h1 := ih (by omega)
      have hx : xs[n]? = some xs[n] := List.getElem?_eq_getElem (by omega)
      have h2 := h n _ hx
      rw [List.take_add_one, hx, app]
      simp only [sumF, Option.toList, Rows.uptoBulkAll]
      omega
  have := key xs.length (Nat.le_refl _)
  rwa [List.take_length] at this
theorem cell_spot {a : Addr} {v : Value} (h : W.cell? a = some v) : a = ⟨a.block, a.off, none⟩ := by
  have := spot_none h
  cases a; simp_all
theorem add_off (b off n : Nat) : (⟨b, off, none⟩ : Addr).add n = ⟨b, off + n, none⟩ := by
  unfold Addr.add
  split
  · subst_vars; rfl
  · rfl
theorem fine_of (hf : fineB P l = true) {t : TypeId} (ht : t ∈ l) : t < P.types.size ∧ fineD l (P.underlying t) = true := by
  have := List.all_eq_true.1 hf t ht
  simpa only [Bool.and_eq_true, decide_eq_true_eq] using this
theorem choose_rows {m : Nat} {R : Nat → List V → Nat → Prop} (h : ∀ i, i < m → ∃ vs k, R i vs k) : ∃ (f : Nat → List V) (c : Nat → Nat), ∀ i, i < m → R i (f i) (c i) := by
  refine ⟨fun i => if h' : i < m then (h i h').choose else [], fun i => if h' : i < m then (h i h').choose_spec.choose else 0, fun i hi => ?_⟩
  simp only [hi, dif_pos]
  exact (h i hi).choose_spec.choose_spec
theorem trod_sh (K : Kids P (· < P.types.size)) (hf : fineB P l = true) (hz : ∀ t e, t < P.types.size → P.underlying t = some (.slice e) → 0 < P.cellsOf e) :
    ∀ (n : Nat) (t : TypeId) (cs : List Value) (x : DataW H × List MemPlace), t ∈ l → DataW.trod enc P W 0 (fun _ => true) true n t cs = some x →
      ∃ vs k, ShV P t vs k ∧ k ≤ Rows.uptoBulk x.1 ∧ CR W cs vs := by
  intro n
  induction n with
  | zero => intro t cs x ht h; simp [DataW.trod] at h
  | succ n ih =>
    intro t cs x ht h
    obtain ⟨hts, hfd⟩ := fine_of hf ht
    generalize hu : P.underlying t = u at hfd
    match u, hfd with
    | some (.int k), _ =>
      obtain ⟨m, rfl, rfl, hw⟩ := DataW.trod_int hu h
      exact ⟨_, _, .int hu hw, Nat.le_refl _, .one rfl (PRel.int _ _)⟩
    | some .bool, _ =>
      obtain ⟨b, rfl, rfl⟩ := DataW.trod_bool hu h
      exact ⟨_, _, .bool hu, Nat.le_refl _, .one rfl (PRel.bool _)⟩
    | some .string, _ =>
      obtain ⟨s, rfl, rfl, hs⟩ := DataW.trod_string hu h
      refine ⟨_, _, .str (s := s.data.toList) hu ?_, Nat.le_refl _, .one rfl (PRel.str _)⟩
      have : s.data.toList.length = s.size := Array.length_toList
      rw [this]; unfold maxLen at hs; omega
    | some (.slice e), hfd =>
      have hel : e ∈ l := by simpa [fineD] using hfd
      rcases DataW.trod_slice hu h with ⟨rfl, rfl⟩ | ⟨a, len, cap, elems, rest, n', hn, rfl, rfl, hb, hlc, hcm, hel', hget, -, -⟩
      · exact ⟨_, _, .sl [] (fun _ => 0) hu (by simp) (fun i r h => by simp at h), by simp [sumF, Rows.uptoBulk], .one rfl (PRel.slEmpty _ _ _ _)⟩
      · obtain rfl : n = n' := by omega
        have hpos := hz t e hts hu
        have hall : ∀ i, i < len → ∃ vs k, (ShV P e vs k ∧ k ≤ Rows.uptoBulk ((elems.map (·.1)).getD i .nil) ∧ ∃ cs', W.cells? 0 (a.add (i * P.cellsOf e)) (P.cellsOf e) = some cs' ∧ CR W cs' vs) := by
          intro i hi
          have hg := hget i hi
          have hie : i < elems.length := by omega
          rw [List.getElem?_eq_getElem hie, Option.bind_eq_some_iff] at hg
          obtain ⟨cs', hc1, hc2⟩ := hg
          obtain ⟨vs, k, h1, h2, h3⟩ := ih e cs' _ hel hc2
          refine ⟨vs, k, h1, ?_, cs', hc1, h3⟩
          simp only [List.getD, List.getElem?_map, List.getElem?_eq_getElem hie, Option.map_some, Option.getD_some]; exact h2
        obtain ⟨f, c, hfc⟩ := choose_rows hall
        have hrl : ((List.range len).map f).length = len := by simp
        have hrg : ∀ (i : Nat) r, ((List.range len).map f)[i]? = some r → i < len ∧ r = f i := by
          intro i r hi
          have hlt : i < len := by have := (List.getElem?_eq_some_iff.1 hi).1; simpa using this
          rw [List.getElem?_map, List.getElem?_range hlt] at hi
          exact ⟨hlt, (Option.some.inj hi).symm⟩
        have hspot : 0 < len → a = ⟨a.block, a.off, none⟩ := by
          intro h0
          obtain ⟨-, -, cs', hc1, -⟩ := hfc 0 h0
          obtain ⟨-, hcl, hcell⟩ := World.cells?_some hc1
          have h1 := hcell 0 hpos
          rw [List.getElem?_eq_getElem (by omega)] at h1
          have h2 : (a.add (0 * P.cellsOf e)).add 0 = a := by rw [Nat.zero_mul]; unfold Addr.add; simp
          rw [h2] at h1
          exact cell_spot h1
        refine ⟨_, _, .sl ((List.range len).map f) c hu (by rw [hrl]; unfold maxLen at hcm; omega) (fun i r hi => by obtain ⟨hlt, rfl⟩ := hrg i r hi; exact (hfc i hlt).1), ?_, ?_⟩
        · rw [hrl]
          simp only [Rows.uptoBulk]
          have hm : (elems.map (·.1)).length = len := by simp [hel']
          have := bulk_sum (elems.map (·.1)) c (fun i y hy => by
            have hlt : i < len := by have := (List.getElem?_eq_some_iff.1 hy).1; omega
            have := (hfc i hlt).2.1
            simp only [List.getD, hy, Option.getD_some] at this
            exact this)
          rw [hm] at this
          omega
        · refine .one rfl ?_
          have hrowlen : ∀ i, i < len → (f i).length = P.cellsOf e := by
            intro i hi
            obtain ⟨-, -, cs', hc1, hc2⟩ := hfc i hi
            rw [hc2.1]; exact (World.cells?_some hc1).2.1
          have hcell : ∀ i, i < len → ∀ (j : Nat) v, (f i)[j]? = some v → ∃ y, W.cell? ⟨a.block, a.off + (i * P.cellsOf e + j), none⟩ = some y ∧ y.oneCell' = true ∧ PRel (WM W) v y := by
            intro i hi j v hj
            have hjl : j < P.cellsOf e := by rw [← hrowlen i hi]; exact (List.getElem?_eq_some_iff.1 hj).1
            obtain ⟨-, -, cs', hc1, hc2⟩ := hfc i hi
            obtain ⟨-, hcl, hcell⟩ := World.cells?_some hc1
            have h1 := hcell j hjl
            rw [hspot (by omega), add_off, add_off, List.getElem?_eq_getElem (by omega)] at h1
            have h2 := hc2.2 j v hj
            have hg : cs'.getD j undef = cs'[j] := by simp [List.getD, List.getElem?_eq_getElem (show j < cs'.length by omega)]
            rw [hg] at h2
            exact ⟨_, by rw [← Nat.add_assoc]; exact h1, h2⟩
          have hX : ∀ (i : Nat) r (j : Nat) v, ((List.range len).map f)[i]? = some r → r[j]? = some v → W.cell? ⟨a.block, a.off + (i * P.cellsOf e + j), none⟩ = some ((W.cell? ⟨a.block, a.off + (i * P.cellsOf e + j), none⟩).getD undef) ∧ ((W.cell? ⟨a.block, a.off + (i * P.cellsOf e + j), none⟩).getD undef).oneCell' = true ∧ PRel (WM W) v ((W.cell? ⟨a.block, a.off + (i * P.cellsOf e + j), none⟩).getD undef) := by
            intro i r j v hi hj
            obtain ⟨hlt, rfl⟩ := hrg i r hi
            obtain ⟨y, h1, h2, h3⟩ := hcell i hlt j v hj
            rw [h1]; exact ⟨rfl, h2, h3⟩
          have hfin := PRel.sl (M := WM W) (P.cellsOf e) ((List.range len).map f) (some a) cap a.block a.off (fun i j => (W.cell? ⟨a.block, a.off + (i * P.cellsOf e + j), none⟩).getD undef) (by rw [hrl]; exact hlc)
            (fun hne => by rw [← hspot (by rw [← hrl]; exact List.length_pos_iff.2 hne)])
            (fun i r hi => by obtain ⟨hlt, rfl⟩ := hrg i r hi; exact hrowlen i hlt)
            (fun i r j v hi hj => cellAt_cell (hX i r j v hi hj).1) (fun i r j v hi hj => (hX i r j v hi hj).2.1) (fun i r j v hi hj => (hX i r j v hi hj).2.2)
          rw [hrl] at hfin
          exact hfin
    | some (.struct fs), hfd =>
      obtain ⟨xs, n', hn, rfl, hcl, hxl, hget⟩ := DataW.trod_struct hu h
      obtain rfl : n = n' := by omega
      obtain ⟨-, hsum, hoff⟩ := K.struct hts hu
      have hfl : ∀ f ∈ fs.toList, f.type ∈ l := by
        intro f hf'
        have := List.all_eq_true.1 (show fs.toList.all (fun f => l.contains f.type) = true from hfd) f hf'
        simpa using this
      have hall : ∀ i, i < fs.size → ∃ vs k, (∃ f, fs.toList[i]? = some f ∧ ShV P f.type vs k ∧ k ≤ Rows.uptoBulk ((xs.map (·.1)).getD i .nil) ∧ CR W ((cs.drop f.offset).take (P.cellsOf f.type)) vs) := by
        intro i hi
        have hfi : fs.toList[i]? = some fs[i] := by simp [hi]
        have hg := hget i fs[i] (by simp [hi])
        have hix : i < xs.length := by omega
        rw [List.getElem?_eq_getElem hix] at hg
        obtain ⟨vs, k, h1, h2, h3⟩ := ih _ _ _ (hfl _ (List.mem_of_getElem? hfi)) hg
        refine ⟨vs, k, fs[i], hfi, h1, ?_, h3⟩
        simp only [List.getD, List.getElem?_map, List.getElem?_eq_getElem hix, Option.map_some, Option.getD_some]; exact h2
      obtain ⟨g, c, hgc⟩ := choose_rows hall
      refine ⟨_, _, .struct g c hu (fun i f hi => ?_), ?_, ?_⟩
      · have hlt : i < fs.size := (Array.getElem?_eq_some_iff.1 hi).1
        obtain ⟨f', hf', h1, -⟩ := hgc i hlt
        obtain rfl : f' = f := by
          have : fs.toList[i]? = fs[i]? := by simp
          rw [this, hi] at hf'; exact (Option.some.inj hf').symm
        exact h1
      · simp only [Rows.uptoBulk]
        have := bulk_sum (xs.map (·.1)) c (fun i y hy => by
          have hlt : i < fs.size := by have := (List.getElem?_eq_some_iff.1 hy).1; simp at this; omega
          obtain ⟨f', hf', -, h2, -⟩ := hgc i hlt
          simp only [List.getD, hy, Option.getD_some] at h2
          exact h2)
        rw [List.length_map, hxl] at this
        omega
      · have key : ∀ m, m ≤ fs.size → CR W (cs.take ((fs.toList.take m).map fun f => P.cellsOf f.type).sum) (catF g m) := by
          intro m
          induction m with
          | zero => intro _; simp only [List.take_zero, List.map_nil, List.sum_nil, catF]; exact .nil
          | succ m ihm =>
            intro hm
            obtain ⟨f', hf', h1, -, h3⟩ := hgc m (by omega)
            have h4 := hoff m f' hf'
            have h5 := CR.app (ihm (by omega)) h3
            rw [h4] at h5
            rw [List.take_add_one, hf', List.map_append, List.sum_append]
            simp only [Option.toList, List.map_cons, List.map_nil, List.sum_cons, List.sum_nil, Nat.add_zero]
            rw [List.take_add]
            exact h5
        have := key fs.size (Nat.le_refl _)
        rw [show fs.toList.take fs.size = fs.toList from List.take_of_length_le (by simp), ← hsum, ← hcl, List.take_length] at this
        exact this
end
end Go.Proofs.Ytoccgkgdhobmfaa.Am.Ru
set_option maxRecDepth 100000
set_option linter.unusedVariables false
set_option linter.unusedSimpArgs false
namespace Go.Proofs.Ytoccgkgdhobmfaa.Am.Ru
open Go Go.ChangeShapes Go.WideShapes Go.ChangeAt Go.RowKit
section
variable {P : Program}
def InvV (P : Program) (vs : List V) (k : Nat) : Option TypeDesc → Prop
  | some (.int q) => ∃ n, vs = [.int q n] ∧ (Lit.int q n).wf = true
  | some .bool => ∃ b, vs = [.bool b]
  | some .string => ∃ s : List UInt8, vs = [.str s] ∧ s.length ≤ 9223372036854775807 ∧ k = s.length + 1
  | some (.slice e) => ∃ (rows : List (List V)) (c : Nat → Nat), vs = [.sl (P.cellsOf e) rows] ∧ rows.length ≤ 9223372036854775807 ∧ (∀ (i : Nat) r, rows[i]? = some r → ShV P e r (c i)) ∧ k = sumF c rows.length + 1
  | some (.struct fs) => ∃ (ls : Nat → List V) (c : Nat → Nat), vs = catF ls fs.size ∧ (∀ (i : Nat) f, fs[i]? = some f → ShV P f.type (ls i) (c i)) ∧ k = sumF c fs.size + 1
  | _ => False
theorem ShV.inv {t : TypeId} {vs : List V} {k : Nat} (h : ShV P t vs k) : InvV P vs k (P.underlying t) := by
  cases h with
  | int ht hw => rw [ht]; exact ⟨_, rfl, hw⟩
  | bool ht => rw [ht]; exact ⟨_, rfl⟩
  | str ht hs => rw [ht]; exact ⟨_, rfl, hs, rfl⟩
  | sl rows c ht hl hr => rw [ht]; exact ⟨rows, c, rfl, hl, hr, rfl⟩
  | struct ls c ht hr => rw [ht]; exact ⟨ls, c, rfl, hr, rfl⟩
theorem rows_of {X : Type} (row : X → List V) (Q : X → Nat → Prop) : ∀ (rows : List (List V)) (c : Nat → Nat), (∀ (i : Nat) r, rows[i]? = some r → ∃ v : X, r = row v ∧ Q v (c i)) →
    ∃ l : List X, rows = l.map row ∧ l.length = rows.length ∧ ∀ (i : Nat) v, l[i]? = some v → Q v (c i)
  | [], c, h => ⟨[], rfl, rfl, fun i v hv => by simp at hv⟩
  | r :: rows, c, h => by
    obtain ⟨v, e1, q⟩ := h 0 r rfl
    obtain ⟨l, e2, hl, ql⟩ := rows_of row Q rows (fun i => c (i + 1)) (fun i r' hr => h (i + 1) r' hr)
    refine ⟨v :: l, by rw [e1, e2]; rfl, by simp [hl], fun i w hw => ?_⟩
    match i, hw with
    | 0, hw => obtain rfl := Option.some.inj hw; exact q
    | i + 1, hw => exact ql i w hw
theorem mem_of_get {X : Type} {l : List X} {Q : X → Prop} (h : ∀ (i : Nat) v, l[i]? = some v → Q v) : ∀ x ∈ l, Q x := by
  intro x hx
  obtain ⟨i, hi⟩ := List.getElem?_of_mem hx
  exact h i x hi
theorem wf64 {n : Int} (hw : (Lit.int .i64 n).wf = true) : -9223372036854775808 ≤ n ∧ n < 9223372036854775808 := by
  simp only [Lit.wf, Bool.and_eq_true, decide_eq_true_eq] at hw
  have h1 : (-9223372036854775808 : Int) ≤ n := hw.1
  have h2 : n ≤ (9223372036854775807 : Int) := hw.2
  exact ⟨h1, by omega⟩
end
theorem sh_int {vs : List V} {k : Nat} (h : ShV Try.prog 3 vs k) : ∃ n : Int, vs = [.int .i64 n] ∧ -9223372036854775808 ≤ n ∧ n < 9223372036854775808 := by
  have := h.inv; rw [Try.underlying3] at this
  obtain ⟨n, rfl, hw⟩ := this
  exact ⟨n, rfl, wf64 hw⟩
theorem tc3 : Try.prog.cellsOf 3 = 1 := by kernel_rfl
theorem ShV.pos {P : Program} {t : TypeId} {vs : List V} {k : Nat} (h : ShV P t vs k) : 1 ≤ k := by cases h <;> omega
theorem sumF_ge (c : Nat → Nat) : ∀ n, (∀ i, i < n → 1 ≤ c i) → n ≤ sumF c n
  | 0, _ => Nat.zero_le _
  | n + 1, h => by have := sumF_ge c n (fun i hi => h i (by omega)); have := h n (by omega); simp only [sumF]; omega
theorem rows_k {P : Program} {e : TypeId} {rows : List (List V)} {c : Nat → Nat} (hr : ∀ (i : Nat) r, rows[i]? = some r → ShV P e r (c i)) : rows.length ≤ sumF c rows.length :=
  sumF_ge c _ (fun i hi => (hr i _ (List.getElem?_eq_getElem hi)).pos)
theorem sh_ints {vs : List V} {k : Nat} (h : ShV Try.prog 22 vs k) : ∃ l : List Int, vs = [.sl 1 (rowI l)] ∧ okI l ∧ l.length < k := by
  have := h.inv; rw [Try.underlying22] at this
  obtain ⟨rows, c, rfl, hl, hr, hk⟩ := this
  obtain ⟨l, e, hll, hq⟩ := rows_of (fun n : Int => [V.int .i64 n]) (fun n _ => -9223372036854775808 ≤ n ∧ n < 9223372036854775808) rows c (fun i r hi => by obtain ⟨n, e, h⟩ := sh_int (hr i r hi); exact ⟨n, e, h⟩)
  have := rows_k hr
  exact ⟨l, by rw [tc3, e]; rfl, ⟨by omega, mem_of_get hq⟩, by omega⟩
end Go.Proofs.Ytoccgkgdhobmfaa.Am.Ru
set_option maxRecDepth 100000
set_option linter.unusedVariables false
set_option linter.unusedSimpArgs false
namespace Go.Proofs.Ytoccgkgdhobmfaa.Am.Ru
open Go Go.ChangeShapes Go.WideShapes Go.ChangeAt Go.RowKit
def EN : Nat → Option (CallFn → List V → Hp → Nat → Option Out) := fun _ => none
def GN : Nat → Option (List V) := fun _ => none
theorem xokN : XOK EN := ⟨fun f x h => (nomatch h), fun _ _ => rfl⟩
theorem gokN (W : World) : GOK (WM W) GN := fun g cs h => (nomatch h)
theorem mixed : Try.prog.follows .mixedOrders = true := by kernel_rfl
theorem callOk (G : Nat → Option (List V)) : CallOk Try.prog G (cfW G T EN) := cfW_sound (fun f x h => (nomatch h)) mixed T_ok (fun f x h => (nomatch h))
theorem own : ownKnob Try.prog.godebug = none := by kernel_rfl
theorem kids : Kids Try.prog (· < Try.prog.types.size) := kids_rows (by kernel_rfl) (by kernel_rfl)
theorem full : ∀ t e, t < Try.prog.types.size → Try.prog.underlying t = some (.slice e) → 0 < Try.prog.cellsOf e := slices_full_of Try.prog (by kernel_rfl)
def fineL : List TypeId := [3, 5, 9, 22, 23, 24, 26, 29, 30, 31, 33, 34, 35, 37, 39, 43, 45, 48, 83, 91, 93]
theorem fine : fineB Try.prog fineL = true := by kernel_rfl
section
variable {H : Type} {enc : TypeId × Value → H} {W : World} {r : Reach} {b0 : Nat}
theorem arg_sl {t e : TypeId} {v : Value} {d : DataW H} {p : List MemPlace} (ht : Try.prog.underlying t = some (.slice e)) (hl : t ∈ fineL) (hval : Value.okWide Try.prog W r b0 t v)
    (hd : DataW.Trod enc Try.prog W 0 (fun _ => true) true t v d p) : ∃ vs k, ShV Try.prog t vs k ∧ k ≤ Rows.uptoBulk d ∧ ∀ y, vs = [y] → PRel (WM W) y v := by
  obtain ⟨a, len, cap, rfl⟩ := okWide_slice ht hval
  obtain ⟨n, hn⟩ := hd
  obtain ⟨vs, k, h1, h2, h3⟩ := trod_sh kids fine full n t _ _ hl hn
  refine ⟨vs, k, h1, h2, fun y hy => ?_⟩
  subst hy
  exact (h3.2 0 y rfl).2
theorem ga_ints {v : Value} {d : DataW H} {p : List MemPlace} (hval : Value.okWide Try.prog W r b0 22 v) (hd : DataW.Trod enc Try.prog W 0 (fun _ => true) true 22 v d p) :
    ∃ l : List Int, PRel (WM W) (.sl 1 (rowI l)) v ∧ okI l ∧ l.length < Rows.uptoBulk d := by
  obtain ⟨vs, k, h1, h2, h3⟩ := arg_sl Try.underlying22 (by decide) hval hd
  obtain ⟨l, rfl, h4, h5⟩ := sh_ints h1
  exact ⟨l, h3 _ rfl, h4, by omega⟩
theorem ga_int {v : Value} {d : DataW H} {p : List MemPlace} (hval : Value.okWide Try.prog W r b0 3 v) (hd : DataW.Trod enc Try.prog W 0 (fun _ => true) true 3 v d p) :
    ∃ n : Int, PRel (WM W) (.int .i64 n) v ∧ -9223372036854775808 ≤ n ∧ n < 9223372036854775808 := arg_i64 Try.underlying3 hval hd
end
/-- One more argument. -/
theorem relS {M : Mem} {a : V} {l : List V} {v : Value} {vs : List Value} (h : PRel M a v) (k : ∀ (j : Nat) x, l[j]? = some x → PRel M x (vs.toArray.getD j undef)) : ∀ (j : Nat) x, (a :: l)[j]? = some x → PRel M x ((v :: vs).toArray.getD j undef) := by
  intro j x hj
  match j, hj with
  | 0, hj => obtain rfl := Option.some.inj hj; simpa using h
  | j + 1, hj =>
    have := k j x hj
    simpa [Array.getD_eq_getD_getElem?] using this
theorem relN {M : Mem} : ∀ (j : Nat) x, ([] : List V)[j]? = some x → PRel M x (([] : List Value).toArray.getD j undef) := fun j x h => by simp at h
end Go.Proofs.Ytoccgkgdhobmfaa.Am.Ru
set_option maxRecDepth 100000
set_option linter.unusedVariables false
namespace Go.Proofs.Ytoccgkgdhobmfaa.valueParts
open Go Go.ChangeShapes Go.WideShapes Go.ChangeAt Go.RowKit Go.Proofs.Ytoccgkgdhobmfaa.Am.Ru
theorem hts : ∀ t ∈ Try.f12.params.toList, t < Try.prog.types.size := fun t ht =>
  of_decide_eq_true (List.all_eq_true.1 (show (Try.f12.params.toList.all fun t => decide (t < Try.prog.types.size)) = true by kernel_rfl) t ht)
theorem res : Try.f12.resultTypes = #[4] := by kernel_rfl
theorem contract (H : Type) (enc : TypeId × Value → H) (W : World) (base : Nat) (args : Array Value) (ds gs : List (DataW H)) (before : List MemPlace)
    (hval : ∀ (j : Nat) t v, Try.f12.params[j]? = some t → args[j]? = some v → Value.okWide Try.prog W .any base t v)
    (hW : DataW.Whole enc Try.prog Try.f12.params.toList Rows.valuePartsSpec.vars false W args.toList ds gs before) :
    Calls Try.prog 12 args W fun e W' => ∃ v, e = .returned v ∧ Rows.valuePartsSpec.post enc Try.prog Try.f12 false true false false W args v W' := by
  have hW' := hW
  obtain ⟨p, q, hA0, hV, hpq, hfz, hnd⟩ := hW
  obtain ⟨rfl, rfl⟩ := trodVars_none hV
  have hA : DataW.TrodAll enc Try.prog W 0 (fun _ => true) true Try.f12.params.toList args.toList ds p := hA0
  rw [Try.params12] at hA hval
  obtain ⟨v0, vs0, d0, ds0, p0, q0, e0, rfl, rfl, h0, r0⟩ := trodAll_cons hA
  obtain ⟨v1, vs1, d1, ds1, p1, q1, e1, rfl, rfl, h1, r1⟩ := trodAll_cons r0
  obtain ⟨v2, vs2, d2, ds2, p2, q2, e2, rfl, rfl, h2, r2⟩ := trodAll_cons r1
  obtain ⟨v3, vs3, d3, ds3, p3, q3, e3, rfl, rfl, h3, r3⟩ := trodAll_cons r2
  obtain ⟨rfl, rfl, rfl⟩ := trodAll_nil r3
  obtain rfl : args = #[v0, v1, v2, v3] := by cases args; simp_all
  obtain ⟨a0, g0, l0, m0⟩ := ga_ints (hval 0 22 v0 rfl rfl) h0
  obtain ⟨a1, g1, l1, m1⟩ := ga_ints (hval 1 22 v1 rfl rfl) h1
  obtain ⟨a2, g2, l2, m2⟩ := ga_int (hval 2 3 v2 rfl rfl) h2
  obtain ⟨a3, g3, l3, m3⟩ := ga_int (hval 3 3 v3 rfl rfl) h3
  refine (calls_true (callOk GN) (law_parts xokN a0 a1 l0 l1 a2 a3 l2 m2 l3 m3) (gokN W) rfl (relS g0 (relS g1 (relS g2 (relS g3 relN))))).mono ?_
  rintro e W' ⟨he, hk⟩
  exact ⟨_, he, post_true kids full hts hW' rfl rfl hk res Try.underlying4⟩
theorem laid_met (os : Os) : laidMet Try.prog Rows.valuePartsRow.laid ((World.holding Try.prog os ⟨#[], #[], []⟩).forCall (fun _ _ => 0) ⟨#[], #[(.slice none 0 0 : Value), (.slice none 0 0 : Value), (.int .i64 0 : Value), (.int .i64 0 : Value)], []⟩).memory :=
  laidMet_of_run' 12 (by kernel_rfl) (by kernel_rfl)
theorem reads (os : Os) {H : Type} (enc : TypeId × Value → H) : ∃ places, DataW.whole enc Try.prog ((World.holding Try.prog os ⟨#[], #[], []⟩).forCall (fun _ _ => 0) ⟨#[], #[(.slice none 0 0 : Value), (.slice none 0 0 : Value), (.int .i64 0 : Value), (.int .i64 0 : Value)], []⟩).memory Try.f12.params.toList Rows.valuePartsSpec.vars false (#[(.slice none 0 0 : Value), (.slice none 0 0 : Value), (.int .i64 0 : Value), (.int .i64 0 : Value)] : Array Value).toList 12 = some ([.nil, .nil, .lit (.int .i64 0), .lit (.int .i64 0)], [], places) :=
  ⟨[], by kernel_rfl⟩
/-- The first form's step. -/
theorem lifted (os : Os) (started : os.Started) (H : Type) (enc : TypeId × Value → H) (F : Stop.Interp) :
    ReturnsInHanded {} Try.checked os 12 .any ((OpenSpec.ofChange Rows.valuePartsSpec).preRow enc Try.prog Try.f12 Rows.valuePartsRow.domain false Rows.valuePartsRow.laid) (((OpenSpec.ofChange Rows.valuePartsSpec).at F).post enc Try.prog Try.f12 false true false false) := by
  obtain ⟨places, hx⟩ := reads os enc
  refine returnsInHanded_of_row (C := Try.checked) (s := (OpenSpec.ofChange Rows.valuePartsSpec)) own started (by kernel_rfl) Try.func12
    (witness_row_at (enc := enc) (C := Try.checked) false (World.holding Try.prog os ⟨#[], #[], []⟩) #[(.slice none 0 0 : Value), (.slice none 0 0 : Value), (.int .i64 0 : Value), (.int .i64 0 : Value)] rfl (by kernel_rfl) (by kernel_rfl) (by kernel_rfl)
      (OpenSpec.preRow_of_cond 12 hx (by kernel_rfl) (fun k hk => by cases hk) (by kernel_rfl) (laid_met os))) ?_
  intro W base args ds gs before hval hW hD hC _ _ _ _
  exact contract H enc W base args ds gs before hval hW
theorem said : Rows.ValuePartsSaid :=
  OpenClaim.holds_of_cond 12 Try.f12 rfl rfl rfl rfl rfl rfl rfl ⟨rfl, rfl, rfl, rfl, rfl⟩ rfl rfl rfl rfl rfl (by kernel_rfl) Try.func12 (by kernel_rfl)
    (of_decide_eq_true (by kernel_rfl)) (by unfold Func.isWrapper; first | (rw [if_pos (by decide +kernel)]; kernel_rfl) | (rw [if_neg (by decide +kernel)]; exact ⟨rfl, rfl⟩))
    (fun os started H enc _ F => by rw [OpenClaim.pre_eq_preRow]; exact lifted os started H enc F)
end Go.Proofs.Ytoccgkgdhobmfaa.valueParts
