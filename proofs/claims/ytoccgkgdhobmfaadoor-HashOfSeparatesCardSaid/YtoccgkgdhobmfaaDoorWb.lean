/- The abstract machine, part 8: the elements of a slice; conversions between strings and bytes; new objects; stores. -/
import Derived.Test.YtoccgkgdhobmfaaDoorWa
import Derived.Laws.BytesArg
import Derived.Laws.Pointers
set_option linter.unusedVariables false
set_option linter.unusedSimpArgs false
namespace Go.Proofs.YtoccgkgdhobmfaaDoor.Am
open Go

theorem flat_index {e q : Nat} {xs : List (List V)} {v : V} (he : 0 < e) (h : ∀ l ∈ xs, l.length = e) (hq : xs.flatten[q]? = some v) :
    ∃ l, xs[q / e]? = some l ∧ l[q % e]? = some v ∧ q / e * e + q % e = q := by
  have hlt := (List.getElem?_eq_some_iff.1 hq).1
  rw [flat_len h] at hlt
  have h1 : q / e < xs.length := (Nat.div_lt_iff_lt_mul he).2 hlt
  have h2 : (xs[q / e]).length = e := h _ (List.getElem_mem _)
  have h3 : q % e < e := Nat.mod_lt _ he
  have h4 : xs[q / e]? = some xs[q / e] := List.getElem?_eq_getElem h1
  have h5 : (xs[q / e])[q % e]? = some ((xs[q / e])[q % e]'(by omega)) := List.getElem?_eq_getElem (by omega)
  have h6 : q / e * e + q % e = q := by rw [Nat.mul_comm]; exact Nat.div_add_mod q e
  have := flat_get h h4 h5
  rw [h6, hq] at this
  exact ⟨_, h4, by rw [this]; exact h5, h6⟩

theorem flat_drop {e : Nat} : ∀ {xs : List (List V)} (n : Nat), (∀ l ∈ xs, l.length = e) → n ≤ xs.length → (xs.drop n).flatten = xs.flatten.drop (n * e) := by
  intro xs
  induction xs with
  | nil => intro n h hn; simp
  | cons a r ih =>
    intro n h hn
    cases n with
    | zero => simp
    | succ n =>
      have ha : a.length = e := h a (by simp)
      simp only [List.drop_succ_cons, List.flatten_cons]
      rw [ih n (fun l hl => h l (by simp [hl])) (by simpa using hn)]
      have h1 : (n + 1) * e = a.length + n * e := by rw [ha, Nat.succ_mul]; omega
      rw [h1, List.drop_append, List.drop_eq_nil_of_le (as := a) (by omega), List.nil_append]
      congr 1; omega
theorem flat_take {e : Nat} : ∀ {xs : List (List V)} (n : Nat), (∀ l ∈ xs, l.length = e) → n ≤ xs.length → (xs.take n).flatten = xs.flatten.take (n * e) := by
  intro xs
  induction xs with
  | nil => intro n h hn; simp
  | cons a r ih =>
    intro n h hn
    cases n with
    | zero => simp
    | succ n =>
      have ha : a.length = e := h a (by simp)
      simp only [List.take_succ_cons, List.flatten_cons]
      rw [ih n (fun l hl => h l (by simp [hl])) (by simpa using hn)]
      have h1 : (n + 1) * e = a.length + n * e := by rw [ha, Nat.succ_mul]; omega
      rw [h1, List.take_append, List.take_of_length_le (l := a) (by omega)]
      congr 2; omega

theorem chunks_flat {e : Nat} : ∀ (n : Nat) (c : List V), c.length = n * e → (chunks e n c).flatten = c ∧ (∀ l ∈ chunks e n c, l.length = e) ∧ (chunks e n c).length = n := by
  intro n
  induction n with
  | zero => intro c hc; simp at hc; subst hc; simp [chunks]
  | succ n ih =>
    intro c hc
    rw [Nat.succ_mul] at hc
    obtain ⟨h1, h2, h3⟩ := ih (c.drop e) (by simp; omega)
    refine ⟨by simp [chunks, h1], ?_, by simp [chunks, h3]⟩
    intro l hl
    simp only [chunks, List.mem_cons] at hl
    rcases hl with rfl | hl
    · simp; omega
    · exact h2 l hl

section
variable {P : Program} {M : Mem} {β : Names} {N : Nat} {Lb : Nat → Prop} {w0 w : World} {o : Hp} {ks : List Nat} {e : Env} {a : Go.Act} {G : Nat → Option (List V)}

/-- The elements of a slice: where they stand. -/
theorem elems_sound (hk : Ok M β N Lb w0 o w) {esz : Nat} (he : 0 < esz) {v : V} {x : Value} {r : List (List V) × List Nat} (h : elemsOf o esz v = some r) (hr : Rel M β v x) :
    (∀ l ∈ r.1, l.length = esz) ∧ ((∃ s, v = .str s ∧ r.1 = bytesV s) ∨ ∃ ad c, x = .slice ad r.1.length c ∧ r.1.length ≤ c ∧ (r.1 ≠ [] → ∃ b off cc ty fr, ad = some ⟨b, off, none⟩ ∧ w.heap[b]? = some (.cells cc ty fr) ∧
      off + r.1.length * esz ≤ cc.size ∧ RelL M β r.1.flatten ((cc.toList.drop off).take (r.1.length * esz)))) := by
  cases v <;> simp only [elemsOf] at h <;> (try cases h)
  · -- str
    rename_i s
    split at h
    · rename_i h1; cases h; subst h1
      refine ⟨?_, .inl ⟨s, rfl, rfl⟩⟩
      intro l hl
      simp only [bytesV, List.mem_map] at hl
      obtain ⟨b, _, rfl⟩ := hl; rfl
    · cases h
  · -- nils
    split at h
    · cases h
      exact ⟨by simp, .inr ⟨none, 0, hr.nils_inv, by simp, fun h => absurd rfl h⟩⟩
    · cases h
  · -- sl
    rename_i s xs
    split at h
    · rename_i hs; cases h; subst hs
      have hp := hr.sl_inv
      cases hp with
      | sl _ _ ad cap b off xx hcap ha hel hcc ho hrr =>
        have hall : ∀ l ∈ xs, l.length = s := by
          intro l hl
          obtain ⟨j, hj⟩ := List.getElem?_of_mem hl
          exact hel j l hj
        refine ⟨hall, .inr ⟨ad, cap, rfl, hcap, ?_⟩⟩
        dsimp only
        intro hne
        have had := ha hne
        obtain ⟨l0, r0, rfl⟩ : ∃ l r, xs = l :: r := by cases xs with | nil => exact absurd rfl hne | cons l r => exact ⟨l, r, rfl⟩
        have hl0 : l0.length = s := hall l0 (by simp)
        have h00 := hcc 0 l0 0 (l0[0]'(by omega)) (by simp) (List.getElem?_eq_getElem (by omega))
        unfold cellAt at h00
        cases hm : M b with
        | none => simp [hm] at h00
        | some ob =>
          cases ob with
          | cells cc ty fr =>
            have hw := hk.sr.sub b _ hm
            have hget : ∀ q v, (l0 :: r0).flatten[q]? = some v → ∃ x, cc[off + q]? = some x ∧ x.oneCell' = true ∧ Rel M β v x := by
              intro q v hq
              obtain ⟨l, h1, h2, h3⟩ := flat_index he hall hq
              have h4 := hcc _ l _ v h1 h2
              rw [h3] at h4
              simp only [cellAt, hm] at h4
              exact ⟨_, h4, ho _ l _ v h1 h2, .pure (hrr _ l _ v h1 h2)⟩
            have hfl := flat_len hall
            have hpos : 0 < (l0 :: r0).length * s := Nat.mul_pos (by simp) he
            have hlast := hget ((l0 :: r0).length * s - 1) _ (List.getElem?_eq_getElem (by omega))
            obtain ⟨xl, hxl, _⟩ := hlast
            have hsz := (Array.getElem?_eq_some_iff.1 hxl).1
            refine ⟨b, off, cc, ty, fr, had, hw, by omega, RelL.of_get (by rw [hfl]; simp only [List.length_take, List.length_drop, Array.length_toList]; omega) ?_⟩
            intro j v hj
            obtain ⟨x, h1, h2, h3⟩ := hget j v hj
            have hjlt := (List.getElem?_eq_some_iff.1 hj).1
            refine ⟨x, ?_, h2, h3⟩
            rw [List.getElem?_take, if_pos (by omega), List.getElem?_drop, Array.getElem?_toList]; exact h1
          | _ => simp [hm] at h00
    · cases h
  · -- vsl
    rename_i i st len
    cases hrv : rdVec o i with
    | none => rw [hrv] at h; cases h
    | some ex =>
      rw [hrv] at h
      simp only [Option.bind_some] at h
      split at h
      · rename_i hs; cases h
        obtain ⟨hve, hlen⟩ := hs
        obtain ⟨k, hβ, he', hall, c, ty, fr, h2, h3, h4, h5, h6⟩ := read_vec hk hrv
        have hallr : ∀ l ∈ (ex.2.drop st).take len, l.length = esz := by
          intro l hl; rw [← hve]; exact hall l (List.mem_of_mem_drop (List.mem_of_mem_take hl))
        have hll : ((ex.2.drop st).take len).length = len := by simp; omega
        refine ⟨hallr, .inr ?_⟩
        rw [hll]
        cases hr with
        | pure h => cases h
        | vslE _ _ cap ad hst =>
          exact ⟨ad, cap, rfl, by omega, fun hne => absurd (by simp) hne⟩
        | vsl _ _ _ cap k' hk' hl' hs' =>
          rw [hβ] at hk'; cases hk'
          refine ⟨_, cap, rfl, hl', fun _ => ⟨k.b, st * k.esz, c, ty, fr, rfl, h2, ?_, ?_⟩⟩
          · have : len * esz ≤ cap * k.esz := by rw [he', hve]; exact Nat.mul_le_mul_right _ hl'
            omega
          · have hfl := flat_len hall
            rw [flat_take (e := esz) len (fun l hl => by rw [← hve]; exact hall l (List.mem_of_mem_drop hl)) (by simp; omega), flat_drop (e := esz) st (fun l hl => by rw [← hve]; exact hall l hl) (by omega)]
            have hmul : st * esz + len * esz ≤ ex.2.flatten.length := by
              rw [hfl, hve, ← Nat.add_mul]; exact Nat.mul_le_mul_right _ hlen
            have hst : st * k.esz = st * esz := by rw [he', hve]
            rw [hst]
            exact relL_cut h6 hmul
      · cases h
  · -- bsl
    rename_i i off len s
    split at h
    · rename_i hs; subst hs
      cases hb : rdBox o i with
      | none => rw [hb] at h; cases h
      | some cs =>
        rw [hb] at h
        simp only [Option.bind_some] at h
        cases hc : cut off (len * s) cs with
        | none => rw [hc] at h; cases h
        | some l =>
          rw [hc] at h; cases h
          obtain ⟨h1, rfl⟩ := cut_some hc
          obtain ⟨k, hβ, c, ty, fr, h2, h3, h4, h5, h6⟩ := read_box hk hb
          obtain ⟨g1, g2, g3⟩ := chunks_flat (e := s) len ((cs.drop off).take (len * s)) (by simp; omega)
          refine ⟨g2, .inr ?_⟩
          simp only [g3]
          cases hr with
          | pure h => cases h
          | bslE _ _ _ cap ad => exact ⟨ad, cap, rfl, by omega, fun hne => absurd (by simp [chunks]) hne⟩
          | bsl _ _ _ _ cap k' hk' hl' =>
            rw [hβ] at hk'; cases hk'
            refine ⟨_, cap, rfl, hl', fun _ => ⟨k.b, off, c, ty, fr, rfl, h2, by omega, ?_⟩⟩
            rw [g1]
            exact relL_cut h6 h1
    · cases h

theorem bytesOf_nums {xs : List (List V)} {s : List UInt8} : bytesOf xs = some s → ∃ ns : List Int, xs = ns.map (fun n => [V.int .u8 n]) ∧ s = ns.map fun n => UInt8.ofNat n.toNat := by
  intro h
  induction xs generalizing s with
  | nil => simp only [bytesOf, Option.some.injEq] at h; subst h; exact ⟨[], rfl, rfl⟩
  | cons l r ih =>
    unfold bytesOf at h
    split at h
    · rename_i heq; cases heq
    · rename_i n r' heq
      cases heq
      cases hb : bytesOf r with
      | none => rw [hb] at h; cases h
      | some t =>
        rw [hb] at h; cases h
        obtain ⟨ns, rfl, rfl⟩ := ih hb
        exact ⟨n :: ns, rfl, rfl⟩
    · cases h

theorem flat_one {α β : Type} (ns : List α) (f : α → β) : (ns.map fun n => [f n]).flatten = ns.map f := by
  induction ns with
  | nil => rfl
  | cons n r ih => simp [ih]

def chkConvStr (P : Program) (op : Go.Op) (x : Arg) : Bool := match op with | .convert s d x' => isBytes P s && isStr P d && chkA x' x | _ => false
theorem snd_convStr {p : Oper} {x : Arg} {v : V} {r : List (List V) × List Nat} {s : List UInt8} (hc : chkConvStr P p.op x = true) (hv : evA G e x = v) (hns : ∀ s, v ≠ .str s) (hel : elemsOf o 1 v = some r) (hb : bytesOf r.1 = some s)
    (hk : Ok M β N Lb w0 o w) (he : EnvR M β e a) (hg : GOK M G) : Gd M β N Lb w0 ks o (.str s) ((execOp a.eval p).run P w) := by
  unfold chkConvStr at hc
  split at hc
  · rename_i src dst x' hop
    simp only [Bool.and_eq_true] at hc
    obtain ⟨el, hs, hel8⟩ := isBytes_of hc.1.1
    have hd := isStr_of hc.1.2
    have h1 := evA_sound hc.2 he hg
    rw [hv] at h1
    obtain ⟨_, h2⟩ := elems_sound hk (by omega) hel h1
    rcases h2 with ⟨s', hs', _⟩ | ⟨ad, c, hx, _, h3⟩
    · exact absurd hs' (hns s')
    · obtain ⟨ns, hns', rfl⟩ := bytesOf_nums hb
      have hlen : r.1.length = ns.length := by rw [hns']; simp
      have hrun : (convert src dst (a.eval x')).run P w = .ok (.string ⟨(ns.map fun n => UInt8.ofNat n.toNat).toArray⟩) w := by
        rw [hx]
        cases hn : r.1 with
        | nil =>
          rw [hn] at hlen
          have h0 : ns = [] := List.eq_nil_of_length_eq_zero (by simpa using hlen.symm)
          subst h0
          cases ad with
          | none => exact run_convert_bytes_nil w src el hs hel8 _ _ dst hd
          | some adr =>
            obtain ⟨b, off, spot⟩ := adr
            have hcv : (convert src dst (.slice (some ⟨b, off, spot⟩) 0 c)).run P w = .ok (.string ByteArray.empty) w := by
              rw [run_convert_bytes_string w src dst el _ 0 c hs hel8 hd]
              simp [Conv.bytesToString, loadCells, loadCellsFrom]
            exact hcv
        | cons l0 r0 =>
          obtain ⟨b, off, cc, ty, fr, rfl, hw, hsz, hrl⟩ := h3 (by rw [hn]; simp)
          rw [← hn, hlen]
          rw [hns'] at hrl
          have hfl : (ns.map fun n => [V.int .u8 n]).flatten = ns.map (V.int .u8) := flat_one ns _
          rw [hfl] at hrl
          simp only [List.length_map, Nat.mul_one] at hrl
          exact run_convert_bytes_arg w src el hs hel8 b off ns.length c ns rfl (fun i hi => by
            have h4 : (ns.map (V.int .u8))[i]? = some (.int .u8 ns[i]) := by simp [hi]
            have hlt : off + i < cc.size := by rw [hlen] at hsz; omega
            have h5 : ((cc.toList.drop off).take ns.length)[i]? = some cc[off + i] := by
              rw [List.getElem?_take, if_pos hi, List.getElem?_drop, Array.getElem?_toList]; simp [hlt]
            have h6 := (hrl.2.1 i _ _ h4 h5).int_inv
            rw [cell_at hw]
            simp [hlt, h6, hi]) dst hd
      refine .pure hk ?_ (.pure (.str _))
      simp only [execOp, hop, Sem.run_bind, hrun, Result.andThen_ok, Sem.run_pure]
  · cases hc

/-! ### A new object -/

/-- Behind a new block. -/
theorem Gd.new (hk : Ok M β N Lb w0 o w) {i : Nat} {x : AObj} {v' : V} {y : Value} {r : Result Next} {ob : Obj} {k : Blk} (hi : β i = none) (hiN : i < N) (hx : wrt x = true) (hkb : k.b = w.heap.size)
    (hr : r = .ok (.value y) (w.alloc ob)) (hh : Holds M (nput β i k) (WrOf Lb w0) (w.alloc ob) k x) (hv : Rel M (nput β i k) v' y) (his : i ∈ ks) : Gd M β N Lb w0 ks (hput o i x) v' r := by
  refine ⟨y, w.alloc ob, M, nput β i k, .inl hr, fun _ _ h => h, fun _ _ => rfl, nput_le hi, ?_, ⟨?_, hk.kp.alloc ob⟩, hv⟩
  · intro j kj hj
    unfold nput at hj
    split at hj
    · rename_i e; exact .inr (e ▸ his)
    · exact .inl hj
  · refine (hk.sr.alloc ob).new hi hiN hx ?_ hh
    intro j kj hj hβ
    obtain ⟨k', hk', hh'⟩ := hk.sr.live j (fun e => by rw [e] at hj; cases hj)
    rw [hβ] at hk'; cases hk'
    have := hh'.lt hj
    omega

theorem clear00 (c : Array Value) : Clear c (0, 0) := .inl rfl

theorem Gd.newBox (hk : Ok M β N Lb w0 o w) {i : Nat} {cs : List V} {c : Array Value} {ty : TypeId} {r : Result Next} (hi : β i = none) (hiN : i < N) (hrl : RelL M β cs c.toList)
    (hr : r = .ok (.value (.pointer (some ⟨w.heap.size, 0, none⟩))) (w.alloc (.cells c ty))) (his : i ∈ ks) : Gd M β N Lb w0 ks (hput o i (.box cs)) (.ptr i 0) r := by
  have hlen : cs.length = c.size := by simpa using hrl.1
  refine .new (k := ⟨w.heap.size, c.size, 0⟩) hk hi hiN rfl rfl hr ?_ (.ptr _ _ _ nput_eq) his
  refine ⟨.inl hk.kp.size, hk.sr.fresh, c, ty, (0, 0), heap_alloc_eq _ _, clear00 _, rfl, by omega, ?_⟩
  intro j v hj
  have hlt : j < c.size := by rw [← hlen]; exact (List.getElem?_eq_some_iff.1 hj).1
  refine ⟨c[j], by simp [hlt], hrl.2.2 _ (by simp), ?_⟩
  exact (hrl.2.1 j v _ hj (by simp [hlt])).mono (fun _ _ h => h) (nput_le hi)

theorem Gd.newVec (hk : Ok M β N Lb w0 o w) {i esz : Nat} {xs : List (List V)} {c : Array Value} {ty : TypeId} {r : Result Next} {n cap : Nat} (hi : β i = none) (hiN : i < N) (hall : ∀ l ∈ xs, l.length = esz)
    (hle : xs.length * esz ≤ c.size) (hrl : RelL M β xs.flatten (c.toList.take (xs.length * esz))) (hn : n ≤ cap) (hcap : cap * esz ≤ c.size)
    (hr : r = .ok (.value (.slice (some ⟨w.heap.size, 0, none⟩) n cap)) (w.alloc (.cells c ty))) (his : i ∈ ks) : Gd M β N Lb w0 ks (hput o i (.vec esz xs)) (.vsl i 0 n) r := by
  have hfl := flat_len hall
  refine .new (k := ⟨w.heap.size, c.size, esz⟩) hk hi hiN rfl rfl hr ?_ ?_ his
  · refine ⟨.inl hk.kp.size, hk.sr.fresh, rfl, hall, c, ty, (0, 0), heap_alloc_eq _ _, clear00 _, rfl, by omega, ?_⟩
    intro j v hj
    have hlt : j < xs.length * esz := by rw [← hfl]; exact (List.getElem?_eq_some_iff.1 hj).1
    have hlt' : j < c.size := by omega
    have h1 : (c.toList.take (xs.length * esz))[j]? = some c[j] := by rw [List.getElem?_take, if_pos hlt]; simp [hlt']
    exact ⟨c[j], by simp [hlt'], hrl.2.2 _ (List.mem_of_getElem? h1), (hrl.2.1 j v _ hj h1).mono (fun _ _ h => h) (nput_le hi)⟩
  · have := Rel.vsl (M := M) i 0 n cap ⟨w.heap.size, c.size, esz⟩ (nput_eq (β := β)) hn (by simpa using hcap)
    simpa using this

def chkAlloc (P : Program) (op : Go.Op) (zero : List V) : Bool := match op with | .alloc t => tzero P t zero | _ => false
theorem snd_alloc {p : Oper} {zero : List V} {i : Nat} (hc : chkAlloc P p.op zero = true) (hk : Ok M β N Lb w0 o w) (hi : β i = none) (hiN : i < N) (his : i ∈ ks) :
    Gd M β N Lb w0 ks (hput o i (.box zero)) (.ptr i 0) ((execOp a.eval p).run P w) := by
  unfold chkAlloc at hc
  split at hc
  · rename_i t hop
    obtain ⟨z, h1, h2, _⟩ := tzero_run (P := P) (w := w) (M := M) (β := β) hc
    refine .newBox hk hi hiN h2 ?_ his (ty := t)
    simp only [execOp, hop, Instr.alloc, Sem.run_bind, h1, Result.andThen_ok, newVar, newRow, run_newObj, Sem.run_pure, World.alloc_eq]
  · cases hc

def chkBox (op : Go.Op) (x : Arg) : Bool := match op with | .box t y => chkA y x | _ => false
theorem snd_box {p : Oper} {x : Arg} {i : Nat} (hc : chkBox p.op x = true) (hok : okCells (evA G e x) = true) (hk : Ok M β N Lb w0 o w) (he : EnvR M β e a) (hg : GOK M G) (hi : β i = none) (hiN : i < N) (his : i ∈ ks) :
    Gd M β N Lb w0 ks (hput o i (.box (evA G e x).cells)) (.ptr i 0) ((execOp a.eval p).run P w) := by
  unfold chkBox at hc
  split at hc
  · rename_i t y hop
    refine .newBox hk hi hiN ((evA_sound hc he hg).cells hok) ?_ his (ty := t)
    simp only [execOp, hop, Instr.box, newVar, newRow, Sem.run_bind, run_newObj, Result.andThen_ok, Sem.run_pure, World.alloc_eq]
  · cases hc

/-! ### Stores -/

theorem splice_get {off : Nat} {new cs cs' : List V} (h : splice off new cs = some cs') : off + new.length ≤ cs.length ∧ cs'.length = cs.length ∧
    ∀ (j : Nat), cs'[j]? = if off ≤ j ∧ j < off + new.length then new[j - off]? else cs[j]? := by
  unfold splice at h
  split at h
  · rename_i hl; cases h
    refine ⟨hl, by simp; omega, ?_⟩
    intro j
    rw [List.getElem?_append]
    have h1 : (cs.take off).length = off := by simp; omega
    rw [h1]
    by_cases hj : j < off
    · rw [if_pos hj, if_neg (by omega), List.getElem?_take, if_pos hj]
    · rw [if_neg hj, List.getElem?_append]
      by_cases hj2 : j < off + new.length
      · rw [if_pos (by omega), if_pos (by omega)]
      · rw [if_neg (by omega), if_neg (by omega), List.getElem?_drop]; congr 1; omega
  · cases h

theorem boxAt_write {size : Nat} {cs cs' new : List V} {c : Array Value} {ty : TypeId} {fr : Nat × Nat} {vals : List Value} {off : Nat} (hcl : Clear c fr) (hs : c.size = size) (hl : cs.length ≤ c.size)
    (hr : ∀ (j : Nat) (v : V), cs[j]? = some v → ∃ x, c[j]? = some x ∧ x.oneCell' = true ∧ Rel M β v x) (hsp : splice off new cs = some cs') (hn : RelL M β new vals) :
    BoxAt (some (.cells (wcells c off vals) ty fr)) size (Rel M β) cs' := by
  obtain ⟨h1, h2, h3⟩ := splice_get hsp
  refine ⟨_, ty, fr, rfl, ?_, by rw [wcells_size]; exact hs, by rw [wcells_size]; omega, ?_⟩
  · unfold Clear at *; rw [wcells_size]; exact hcl
  · intro j v hj
    rw [h3 j] at hj
    rw [wcells_get vals c off (by rw [← hn.1]; omega) j, ← hn.1]
    split at hj
    · rename_i hjj
      rw [if_pos hjj]
      have hlt : j - off < vals.length := by rw [← hn.1]; omega
      exact ⟨vals[j - off], by simp [hlt], hn.2.2 _ (List.getElem_mem _), hn.2.1 _ v _ hj (by simp [hlt])⟩
    · rename_i hjj
      rw [if_neg hjj]; exact hr j v hj

theorem flat_set {e : Nat} : ∀ {xs : List (List V)} {j off : Nat} {c c' new : List V}, (∀ l ∈ xs, l.length = e) → xs[j]? = some c → splice off new c = some c' →
    splice (j * e + off) new xs.flatten = some (xs.set j c').flatten := by
  intro xs j off c c' new h hj hs
  obtain ⟨h1, h2, h3⟩ := splice_get hs
  have hc : c.length = e := h c (List.mem_of_getElem? hj)
  have hjlt := (List.getElem?_eq_some_iff.1 hj).1
  have hfl := flat_len h
  have hmul : j * e + e ≤ xs.length * e := by
    have := Nat.mul_le_mul_right e (Nat.succ_le_of_lt hjlt)
    rw [Nat.succ_mul] at this; exact this
  have hlt : j * e + off + new.length ≤ xs.flatten.length := by omega
  have hsp : splice (j * e + off) new xs.flatten = some (xs.flatten.take (j * e + off) ++ (new ++ xs.flatten.drop (j * e + off + new.length))) := by
    unfold splice; rw [if_pos hlt]
  rw [hsp]
  congr 1
  have hs' : c' = c.take off ++ (new ++ c.drop (off + new.length)) := by
    unfold splice at hs; rw [if_pos h1] at hs; cases hs; rfl
  have hset : xs.set j c' = xs.take j ++ c' :: xs.drop (j + 1) := by
    rw [List.set_eq_take_append_cons_drop, if_pos hjlt]
  have hxs : xs = xs.take j ++ c :: xs.drop (j + 1) := by
    have hcj : xs[j] = c := by rw [List.getElem?_eq_getElem hjlt] at hj; exact Option.some.inj hj
    rw [← hcj]
    simp
  have hA : (xs.take j).flatten.length = j * e := by
    rw [flat_len (e := e) (fun l hl => h l (List.mem_of_mem_take hl))]; simp; rw [Nat.min_eq_left (by omega)]
  rw [hset]
  conv => lhs; rw [hxs]
  simp only [List.flatten_append, List.flatten_cons]
  rw [hs']
  generalize hAA : (xs.take j).flatten = A at *
  generalize hB : (xs.drop (j + 1)).flatten = B at *
  rw [List.take_append, List.take_of_length_le (by omega), hA, List.drop_append, List.drop_eq_nil_of_le (by omega), List.nil_append, hA,
    List.take_append_of_le_length (by omega), List.drop_append_of_le_length (by omega)]
  have e1 : j * e + off - j * e = off := by omega
  have e2 : j * e + off + new.length - j * e = off + new.length := by omega
  rw [e1, e2]
  simp

theorem poke_sound (hk : Ok M β N Lb w0 o w) {new : List V} {v : V} {x : Value} {ups : List (Nat × AObj)} {vals : List Value} (h : poke o new v = some ups) (hr : Rel M β v x) (hn : RelL M β new vals) :
    ∃ b off c ty fr, x = .pointer (some ⟨b, off, none⟩) ∧ w.heap[b]? = some (.cells c ty fr) ∧ Clear c fr ∧ off + vals.length ≤ c.size ∧ Ok M β N Lb w0 (hputs o ups) (wset w b (.cells (wcells c off vals) ty fr)) := by
  cases v <;> simp only [poke] at h <;> (try cases h)
  · rename_i i off
    cases ho : o i with
    | box cs =>
      rw [ho] at h
      simp only at h
      cases hsp : splice off new cs with
      | none => rw [hsp] at h; cases h
      | some cs' =>
        rw [hsp] at h; cases h
        obtain ⟨k, hβ, hh⟩ := hk.sr.live i (by rw [ho]; simp)
        rw [ho] at hh
        obtain ⟨hw1, hw2, c, ty, fr, hb, hcl, hsz, hl, hrr⟩ := hh
        obtain ⟨k', hβ', rfl⟩ := hr.ptr_inv
        rw [hβ] at hβ'; cases hβ'
        have hlen := (splice_get hsp).1
        refine ⟨k.b, off, c, ty, fr, rfl, hb, hcl, by rw [← hn.1]; omega, ?_, hk.kp.wset _ _ hw1⟩
        refine hk.sr.write hβ (by rw [ho]; rfl) rfl ⟨hw1, hw2, ?_⟩
        rw [heap_wset_eq _ _ _ (lt_of_some hb)]
        exact boxAt_write hcl hsz hl hrr hsp hn
    | _ => rw [ho] at h; cases h
  · rename_i i j off
    cases ho : o i with
    | vec s xs =>
      rw [ho] at h
      simp only at h
      cases hj : xs[j]? with
      | none => rw [hj] at h; cases h
      | some cc =>
        rw [hj] at h
        simp only [Option.bind_some] at h
        cases hsp : splice off new cc with
        | none => rw [hsp] at h; cases h
        | some cc' =>
          rw [hsp] at h; cases h
          obtain ⟨k, hβ, hh⟩ := hk.sr.live i (by rw [ho]; simp)
          rw [ho] at hh
          obtain ⟨hw1, hw2, hes, hall, c, ty, fr, hb, hcl, hsz, hl, hrr⟩ := hh
          obtain ⟨k', hβ', rfl⟩ := hr.ept_inv
          rw [hβ] at hβ'; cases hβ'
          have hfs := flat_set hall hj hsp
          have hlen := (splice_get hfs).1
          rw [hes]
          refine ⟨k.b, j * s + off, c, ty, fr, rfl, hb, hcl, by rw [← hn.1]; omega, ?_, hk.kp.wset _ _ hw1⟩
          refine hk.sr.write hβ (by rw [ho]; rfl) rfl ⟨hw1, hw2, hes, ?_, ?_⟩
          · intro l hl'
            rcases List.mem_or_eq_of_mem_set hl' with h1 | h1
            · exact hall l h1
            · subst h1
              have := (splice_get hsp).2.1
              rw [this]; exact hall cc (List.mem_of_getElem? hj)
          · rw [heap_wset_eq _ _ _ (lt_of_some hb)]
            exact boxAt_write hcl hsz hl hrr hfs hn
    | _ => rw [ho] at h; cases h

def chkStore (P : Program) (op : Go.Op) (n : Nat) (x y : Arg) : Bool := match op with | .store t x' y' => chkA x' x && chkA y' y && tsize P t n | _ => false
theorem snd_store {p : Oper} {n : Nat} {x y : Arg} {ups : List (Nat × AObj)} (hc : chkStore P p.op n x y = true) (hlen : (evA G e y).cells.length = n) (hok : okCells (evA G e y) = true) (hp : poke o (evA G e y).cells (evA G e x) = some ups)
    (hk : Ok M β N Lb w0 o w) (he : EnvR M β e a) (hg : GOK M G) : Gd M β N Lb w0 ks (hputs o ups) .junk ((execOp a.eval p).run P w) := by
  unfold chkStore at hc
  split at hc
  · rename_i t x' y' hop
    simp only [Bool.and_eq_true] at hc
    have h1 := evA_sound hc.1.1 he hg
    have h2 := (evA_sound hc.1.2 he hg).cells hok
    obtain ⟨b, off, c, ty, fr, h3, h4, h5, h6, h7⟩ := poke_sound hk hp h1 h2
    have hst := run_storeCells (P := P) b off (a.eval y').cells.toList w c 0 h4 h5 (by omega) h2.2.2
    have hsz : (a.eval y').cells.size = n := by rw [← hlen]; simpa using h2.1.symm
    refine ⟨undef, _, M, β, .inr ⟨?_, rfl⟩, fun _ _ h => h, fun _ _ => rfl, fun _ _ h => h, fun _ _ h => .inl h, h7, .pure (.junk _)⟩
    simp only [execOp, hop, Instr.storeAt, h3, Instr.sureAddr, storeVar, Sem.run_bind, Sem.run_pure, Result.andThen_ok, tsize_run hc.2, hsz, ne_eq, not_true, if_false, Sem.run_ite, hst, Nat.add_zero]
  · cases hc
end
end Go.Proofs.YtoccgkgdhobmfaaDoor.Am

/- The abstract machine, part 9: append, copy, make, literals. -/
set_option linter.unusedVariables false
set_option linter.unusedSimpArgs false
namespace Go.Proofs.YtoccgkgdhobmfaaDoor.Am
open Go

theorem growBy_le (n : Nat) : ∀ (r c : Nat), c ≤ n + (n + 768) / 4 → Builtin.growBy n r c ≤ n + (n + 768) / 4 := by
  intro r
  induction r with
  | zero => intro c h; simpa [Builtin.growBy] using h
  | succ r ih =>
    intro c h
    simp only [Builtin.growBy]
    split
    · exact h
    · exact ih _ (by omega)
theorem nextcap_le {need cap : Nat} (h : cap < need) : Builtin.nextslicecap need cap ≤ 2 * need + 200 := by
  unfold Builtin.nextslicecap
  split
  · omega
  · split
    · omega
    · have := growBy_le need 4 cap (by omega)
      omega

section
variable {P : Program} {M : Mem} {β : Names} {N : Nat} {Lb : Nat → Prop} {w0 w : World} {o : Hp} {ks : List Nat} {e : Env} {a : Go.Act} {G : Nat → Option (List V)}

/-- The cells of a slice or of a string's bytes. -/
theorem run_first (hk : Ok M β N Lb w0 o w) {esz : Nat} (he : 0 < esz) {v : V} {x : Value} {r : List (List V) × List Nat} (h : elemsOf o esz v = some r) (hr : Rel M β v x) :
    (Builtin.lenOf x).run P w = .ok r.1.length w ∧ ∃ arr : Array Value, (∀ w', w'.heap = w.heap → ∀ n, n ≤ r.1.length → (Builtin.firstCells esz n x).run P w' = .ok (arr.toList.take (n * esz)).toArray w') ∧ RelL M β r.1.flatten arr.toList := by
  obtain ⟨hall, h2⟩ := elems_sound hk he h hr
  rcases h2 with ⟨s, rfl, hs⟩ | ⟨ad, c, rfl, hc, h3⟩
  · have h1 : esz = 1 := by
      simp only [elemsOf] at h
      split at h
      · assumption
      · cases h
    subst h1
    have hx := hr.str_inv
    subst hx
    rw [hs]
    refine ⟨by simp [Builtin.lenOf, size_str, bytesV], (s.map fun b => Value.int .u8 (b.toNat : Int)).toArray, ?_, ?_⟩
    · intro w' hw' n hn
      simp only [bytesV, List.length_map] at hn
      simp only [Builtin.firstCells, Sem.run_pure, extract_str, Nat.mul_one]
      congr 1
      apply Array.ext'
      simp [List.map_take]
    · refine RelL.of_get (by rw [flat_len (e := 1) (by rw [← hs]; exact hall)]; simp [bytesV]) ?_
      intro j v hj
      have hfl : (bytesV s).flatten = s.map fun b => V.int .u8 (b.toNat : Int) := flat_one s _
      rw [hfl] at hj
      simp only [List.getElem?_map, Option.map_eq_some_iff] at hj
      obtain ⟨b, hb, rfl⟩ := hj
      exact ⟨.int .u8 b.toNat, by simp [hb], rfl, .pure (.int _ _)⟩
  · refine ⟨by simp [Builtin.lenOf], ?_⟩
    by_cases hne : r.1 = []
    · refine ⟨#[], ?_, by rw [hne]; exact RelL.nil⟩
      intro w' hw' n hn
      rw [hne] at hn
      have h0 : n = 0 := by simpa using hn
      subst h0
      cases ad with
      | none => simp [Builtin.firstCells]
      | some ad => simp [Builtin.firstCells, loadCells, loadCellsFrom]
    · obtain ⟨b, off, cc, ty, fr, rfl, hw, hsz, hrl⟩ := h3 hne
      refine ⟨((cc.toList.drop off).take (r.1.length * esz)).toArray, ?_, by simpa using hrl⟩
      intro w' hw' n hn
      have hmul : n * esz ≤ r.1.length * esz := Nat.mul_le_mul_right _ hn
      simp only [Builtin.firstCells, run_loadCells_at (w := w') (by rw [hw']; exact hw) (show off + n * esz ≤ cc.size by omega)]
      congr 1
      apply Array.ext'
      simp [List.take_take, Nat.min_eq_left hmul]

def notInt (P : Program) (t : Nat) : Bool := match P.underlying t with | some (.slice _) | some .string => true | _ => false
theorem notInt_run {t : Nat} (h : notInt P t = true) : (∃ el, P.underlying t = some (.slice el)) ∨ P.underlying t = some .string := by
  unfold notInt at h
  split at h
  · exact .inl ⟨_, by assumption⟩
  · exact .inr (by assumption)
  · cases h

def zsize (P : Program) (t n : Nat) : Bool := match P.info? t with
  | some i => (match i.zero with | some z => z.cells.size == n | none => false)
  | none => false
theorem zsize_run {t n : Nat} (h : zsize P t n = true) (w : World) : ∃ z, (zeroValue t).run P w = .ok z w ∧ z.cells.size = n := by
  unfold zsize at h
  split at h
  · rename_i i hi
    split at h
    · rename_i z hz
      simp only [beq_iff_eq] at h
      exact ⟨z, by simp [zeroValue, typeInfo, hi, hz], h⟩
    · cases h
  · cases h

def chkAppend (P : Program) (op : Go.Op) (esz ebytes : Nat) (s x : Arg) : Bool := match op with
  | .call { callee := .builtin .append, args, argTypes } => chkArgs args.toList [s, x] && argTypes.size == 2 && (match argTypes[0]?, argTypes[1]? with
    | some t, some t' => notInt P t' && (match P.underlying t with
      | some (.slice el) => tsize P el esz && tbytes P el ebytes && zsize P el esz && decide (0 < esz) && decide (ebytes ≤ 1000000) && decide (0 < ebytes)
      | _ => false)
    | _, _ => false)
  | _ => false

theorem zeroCells_size (z : Array Value) (n : Nat) : (Builtin.zeroCells z n).size = n * z.size := by simp [Builtin.zeroCells]

/-- The stores of an append in place. -/
def stBase (base : Option Addr) (off : Nat) (vs : List Value) : Sem Unit := match base with | some a => storeCells (a.add off) vs | none => pure ()

/-- append where there is room. -/
theorem run_append_fit {t t' el esz : Nat} {ty : TypeId} {base : Option Addr} {sLen sCap n : Nat} {x : Value} {arr : Array Value} (hu : P.underlying t = some (.slice el)) (ht' : notInt P t' = true)
    (hsz : tsize P el esz = true) (hlen : (Builtin.lenOf x).run P w = .ok n w) (harr : ∀ w', w'.heap = w.heap → (Builtin.firstCells esz n x).run P w' = .ok arr w') (hfit : sLen + n ≤ sCap) :
    (Builtin.append_ #[t, t'] ty #[.slice base sLen sCap, x]).run P w = ((stBase base (sLen * esz) arr.toList).run P w).andThen fun _ w' => .ok (.slice base (sLen + n) sCap) w' := by
  have hd0 := notInt_run ht'
  have h1 : ∀ w', (sizeOf el).run P w' = .ok esz w' := fun w' => tsize_run hsz
  rcases hd0 with ⟨el', hd⟩ | hd
  all_goals
    simp only [Builtin.append_, List.getElem?_toArray, List.getElem?_cons_zero, List.getElem?_cons_succ, Sem.run_bind, run_underlying hu, Result.andThen_ok, h1, run_underlying hd, Sem.run_pure, Bool.false_eq_true, if_false, hlen, Bool.not_false, if_true, Sem.run_ite]
    rw [if_pos hfit]
    simp only [harr w rfl, Result.andThen_ok]
    cases base with
    | none => simp [stBase]
    | some a => simp [stBase]

/-- append where there is none. -/
theorem run_append_grow {t t' el esz ebytes : Nat} {ty : TypeId} {base : Option Addr} {sLen sCap n : Nat} {x : Value} {arr old : Array Value} (hu : P.underlying t = some (.slice el)) (ht' : notInt P t' = true)
    (hsz : tsize P el esz = true) (hby : tbytes P el ebytes = true) (hz : zsize P el esz = true) (hb0 : 0 < ebytes) (hb1 : ebytes ≤ 1000000) (hlen : (Builtin.lenOf x).run P w = .ok n w) (harr : ∀ w', w'.heap = w.heap → (Builtin.firstCells esz n x).run P w' = .ok arr w')
    (hold : ∀ w', w'.heap = w.heap → (Builtin.firstCells esz sLen (.slice base sLen sCap)).run P w' = .ok old w') (hroom : room (sLen + n) ebytes = true) (hfit0 : sCap < sLen + n) :
    ∃ cap rest, sLen + n ≤ cap ∧ rest.size = (cap - (sLen + n)) * esz ∧
      (Builtin.append_ #[t, t'] ty #[.slice base sLen sCap, x]).run P w = .ok (.slice (some ⟨w.heap.size, 0, none⟩) (sLen + n) cap) (w.drew.alloc (.cells (old ++ arr ++ rest) el)) := by
  have hd0 := notInt_run ht'
  have hro : (sLen + n) * ebytes ≤ 17592186044416 := of_decide_eq_true hroom
  have h1 : ∀ w', (sizeOf el).run P w' = .ok esz w' := fun w' => tsize_run hsz
  have hfit : ¬ (sLen + n ≤ sCap) := by omega
  obtain ⟨inf, hinf, hbytes⟩ := tbytes_run (P := P) (w := w) hby
  have hinf' : ∀ w', (typeInfo el).run P w' = .ok inf w' := by
    intro w'
    unfold tbytes at hby
    split at hby
    · rename_i i hi
      have h2 : (typeInfo el).run P w = .ok i w := by simp [typeInfo, hi]
      rw [h2] at hinf; cases hinf
      simp [typeInfo, hi]
    · cases hby
  refine ⟨sLen + n + w.tape w.drawn (.appendCap (sLen + n) sCap el) % (2 ^ 63 - (sLen + n)), ?_⟩
  generalize hcap : sLen + n + w.tape w.drawn (.appendCap (sLen + n) sCap el) % (2 ^ 63 - (sLen + n)) = cap
  obtain ⟨z, hzr, hzs⟩ := zsize_run hz w.drew
  refine ⟨Builtin.zeroCells z.cells (cap - (sLen + n)), by omega, by rw [zeroCells_size, hzs], ?_⟩
  have hnext := nextcap_le (need := sLen + n) (cap := sCap) (by omega)
  have hmul : Builtin.nextslicecap (sLen + n) sCap * inf.bytes ≤ 281474976710656 := by
    rw [hbytes]
    have h2 : Builtin.nextslicecap (sLen + n) sCap * ebytes ≤ (2 * (sLen + n) + 200) * ebytes := Nat.mul_le_mul_right _ hnext
    have h3 : (2 * (sLen + n) + 200) * ebytes = 2 * ((sLen + n) * ebytes) + 200 * ebytes := by rw [Nat.add_mul, Nat.mul_assoc]
    omega
  have hneed : ((sLen + n : Nat) : Int) ≤ 9223372036854775807 := by
    have : sLen + n ≤ (sLen + n) * ebytes := Nat.le_mul_of_pos_right _ hb0
    omega
  have hc1 : ¬ (((sLen + n : Nat) : Int) > IntKind.i64.max ∧ inf.bytes = 0) := by
    intro h
    have := h.1
    simp [IntKind.max, IntKind.signed, IntKind.bits] at this
    omega
  have hc2 : ¬ (Builtin.nextslicecap (sLen + n) sCap * inf.bytes > 2 ^ 48) := by
    have : (2 : Nat) ^ 48 = 281474976710656 := by decide
    omega
  rcases hd0 with ⟨el', hd⟩ | hd
  all_goals
    simp only [Builtin.append_, List.getElem?_toArray, List.getElem?_cons_zero, List.getElem?_cons_succ, Sem.run_bind, run_underlying hu, Result.andThen_ok, h1, run_underlying hd, Sem.run_pure, Bool.false_eq_true, if_false, hlen, Bool.not_false, if_true, Sem.run_ite]
    rw [if_neg hfit]
    simp only [Sem.run_bind, hinf', Result.andThen_ok, Bool.false_eq_true, false_or, hc1, hc2, if_false, Sem.run_pure, run_choose, Question.forced, World.drew_eq, Question.cut, hcap, run_askRoom]
    rw [hold w.drew rfl]
    simp only [Result.andThen_ok, harr w.drew rfl, hzr, newRow, Sem.run_bind, run_newObj, Sem.run_pure, World.alloc_eq, World.size_drew]
end
end Go.Proofs.YtoccgkgdhobmfaaDoor.Am

/- The abstract machine, part 10: append, copy, make, literals (the steps). -/
set_option linter.unusedVariables false
set_option linter.unusedSimpArgs false
namespace Go.Proofs.YtoccgkgdhobmfaaDoor.Am
open Go

section
variable {P : Program} {M : Mem} {β : Names} {N : Nat} {Lb : Nat → Prop} {w0 w : World} {o : Hp} {ks : List Nat} {e : Env} {a : Go.Act} {G : Nat → Option (List V)}

theorem relL_names {β' : Names} {cs : List V} {xs : List Value} (h : RelL M β cs xs) (hβ : ∀ i k, β i = some k → β' i = some k) : RelL M β' cs xs := h.mono (fun _ _ h => h) hβ

/-- A row in place: its object turns, under a new name. -/
theorem Gd.inPlace (hk : Ok M β N Lb w0 o w) {i id esz : Nat} {xs xs' : List (List V)} {k : Blk} {ob : Obj} {v' : V} {y : Value} {r : Result Next} (ho : o i = .vec esz xs) (hβ : β i = some k) (hi : β id = none) (hiN : id < N) (his : id ∈ ks)
    (hall : ∀ l ∈ xs', l.length = esz) (hb : BoxAt (some ob) k.size (Rel M β) xs'.flatten) (hr : r = .ok (.value y) (wset w k.b ob)) (hv : Rel M (nput β id k) v' y) :
    Gd M β N Lb w0 ks (hput (hput o i .dead) id (.vec esz xs')) v' r := by
  obtain ⟨k', hk', hh⟩ := hk.sr.live i (by rw [ho]; simp)
  rw [hβ] at hk'; cases hk'
  have hlt := hh.lt (by rw [ho]; rfl)
  rw [ho] at hh
  obtain ⟨hw1, hw2, hes, _, _⟩ := hh
  have hhold : Holds M β (WrOf Lb w0) (wset w k.b ob) k (.vec esz xs') := ⟨hw1, hw2, hes, hall, by rw [heap_wset_eq _ _ _ hlt]; exact hb⟩
  have h1 := (hk.sr.write (x := .vec esz xs') hβ (by rw [ho]; rfl) rfl hhold).kill i
  have hne : id ≠ i := fun e => by rw [e, hβ] at hi; cases hi
  have h2 := h1.new (i := id) (k := k) (x := .vec esz xs') hi hiN rfl (by
    intro j kj hj hkj hbe
    have hji : j ≠ i := by
      intro e
      unfold hput at hj
      rw [if_pos e] at hj; cases hj
    have hj' : wrt (o j) = true := by
      unfold hput at hj
      rwa [if_neg hji, if_neg hji] at hj
    exact hji (hk.sr.inj j i kj k hj' (by rw [ho]; rfl) hkj hβ hbe)) (hhold.names (nput_le hi))
  have he : hput (hput (hput o i (.vec esz xs')) i .dead) id (.vec esz xs') = hput (hput o i .dead) id (.vec esz xs') := by
    funext j
    unfold hput
    by_cases hj : j = id
    · rw [if_pos hj, if_pos hj]
    · rw [if_neg hj, if_neg hj]
      by_cases hj2 : j = i
      · rw [if_pos hj2, if_pos hj2]
      · rw [if_neg hj2, if_neg hj2, if_neg hj2]
  rw [he] at h2
  refine ⟨y, _, M, nput β id k, .inl hr, fun _ _ h => h, fun _ _ => rfl, nput_le hi, ?_, ⟨h2, hk.kp.wset _ _ hw1⟩, hv⟩
  intro j kj hj
  unfold nput at hj
  split at hj
  · rename_i e; exact .inr (e ▸ his)
  · exact .inl hj

theorem append_core (hk : Ok M β N Lb w0 o w) {id esz ebytes : Nat} (hesz : 0 < esz) {el : TypeId} {new : List (List V)} {rd : List Nat} {vs : V} {act : Act} {base : Option Addr} {sLen sCap : Nat} {arr : Array Value} {r : Result Next}
    (hall : ∀ l ∈ new, l.length = esz) (hrl : RelL M β new.flatten arr.toList) (hs : Rel M β vs (.slice base sLen sCap)) (hap : appendTo o id esz ebytes new rd vs = some act) (hi : β id = none) (hiN : id < N) (his : id ∈ ks)
    (hfit : room (sLen + new.length) ebytes = true → sLen + new.length ≤ sCap → ∀ w1, (stBase base (sLen * esz) arr.toList).run P w = .ok () w1 → r = .ok (.value (.slice base (sLen + new.length) sCap)) w1)
    (hgrow : room (sLen + new.length) ebytes = true → sCap < sLen + new.length → ∀ old : Array Value, (∀ w', w'.heap = w.heap → (Builtin.firstCells esz sLen (.slice base sLen sCap)).run P w' = .ok old w') →
      ∃ cap rest, sLen + new.length ≤ cap ∧ rest.size = (cap - (sLen + new.length)) * esz ∧ r = .ok (.value (.slice (some ⟨w.heap.size, 0, none⟩) (sLen + new.length) cap)) (w.drew.alloc (.cells (old ++ arr ++ rest) el)))
    (hsame : new = [] → sLen ≤ sCap → r = .ok (.value (.slice base sLen sCap)) w) :
    Gd M β N Lb w0 ks (hputs o act.ups) act.val r := by
  have hfl := flat_len hall
  have harr : arr.size = new.length * esz := by have := hrl.1; rw [hfl] at this; simpa using this.symm
  unfold appendTo at hap
  split at hap
  · -- nils
    rename_i s
    have hx := hs.nils_inv
    cases hx
    split at hap
    · rename_i hc
      obtain ⟨rfl, hroom⟩ := hc
      split at hap
      · rename_i hemp
        have h0 : new = [] := by simpa using hemp
        subst h0
        cases hap
        exact .pure hk (hsame rfl (Nat.le_refl _)) (.pure (.nils _))
      · rename_i hemp
        cases hap
        have h0 : new ≠ [] := by simpa using hemp
        have hpos : 0 < new.length := List.length_pos_iff.2 h0
        obtain ⟨cap, rest, h1, h2, h3⟩ := hgrow (by simpa using hroom) (by omega) #[] (fun w' _ => by simp [Builtin.firstCells])
        have hk' : Ok M β N Lb w0 o w.drew := ⟨hk.sr.drew, hk.kp.drew⟩
        have hsz : (#[] ++ arr ++ rest : Array Value).size = cap * s := by
          simp only [Array.size_append, List.size_toArray, List.length_nil, harr, h2, Nat.zero_add]
          rw [← Nat.add_mul]; congr 1; omega
        have hle : new.length * s ≤ cap * s := Nat.mul_le_mul_right _ (by omega)
        refine Gd.newVec (c := #[] ++ arr ++ rest) (ty := el) (n := new.length) (cap := cap) hk' hi hiN hall (by rw [hsz]; exact hle) ?_ (by omega) (by rw [hsz]; omega) ?_ his
        · have : ((#[] ++ arr ++ rest : Array Value).toList.take (new.length * s)) = arr.toList := by
            rw [← harr]; simp
          rw [this]; exact hrl
        · rw [h3]; simp
    · cases hap
  · -- sl
    split at hap
    · rename_i e xs hemp
      have h0 : new = [] := by simpa using hemp
      subst h0
      cases hap
      have hp := hs.sl_inv
      cases hp with
      | sl _ _ _ _ b off xx hcap ha hel hcc ho hr =>
        exact .pure hk (hsame rfl hcap) hs
    · cases hap
  · -- vsl
    rename_i i st len
    split at hap
    · rename_i e xs ho
      split at hap
      · rename_i hc
        obtain ⟨rfl, rfl, hlen, hroom, hrd⟩ := hc
        cases hap
        obtain ⟨k, hβ, hh⟩ := hk.sr.live i (by rw [ho]; simp)
        have hh0 := hh
        rw [ho] at hh
        obtain ⟨hw1, hw2, hes, hallx, c, ty, fr, hb, hcl, hsz, hl, hrr⟩ := hh
        have hflx := flat_len hallx
        have hmul : len * e ≤ xs.length * e := Nat.mul_le_mul_right _ hlen
        have halln : ∀ l ∈ xs.take len ++ new, l.length = e := by
          intro l hl'
          rcases List.mem_append.1 hl' with h | h
          · exact hallx l (List.mem_of_mem_take h)
          · exact hall l h
        have hfl2 : (xs.take len ++ new).flatten = xs.flatten.take (len * e) ++ new.flatten := by
          rw [List.flatten_append, flat_take len hallx hlen]
        have hlen2 : (xs.take len ++ new).length = len + new.length := by simp; omega
        cases hs with
        | pure h => cases h
        | vslE _ _ _ _ h => exact absurd rfl h
        | vsl _ _ _ _ k' hk' hlc hsk =>
          rw [hβ] at hk'; cases hk'
          rw [hes] at hsk
          simp only [Nat.zero_mul, Nat.zero_add] at hsk
          by_cases hf : sLen + new.length ≤ sCap
          · have hmul2 : (sLen + new.length) * e ≤ sCap * e := Nat.mul_le_mul_right _ hf
            have hmul3 : (sLen + new.length) * e = sLen * e + new.length * e := Nat.add_mul _ _ _
            have hst := run_storeCells (P := P) k.b (sLen * e) arr.toList w c 0 hb hcl (by simp only [Array.length_toList, harr]; omega) hrl.2.2
            simp only [Nat.add_zero] at hst
            have hadd : (⟨k.b, 0 * k.esz, none⟩ : Addr).add (sLen * e) = ⟨k.b, sLen * e, none⟩ := by rw [addr_add]; simp
            have h1 := hfit hroom hf (wset w k.b (.cells (wcells c (sLen * e) arr.toList) ty fr)) (by simp only [stBase, hadd]; exact hst)
            refine Gd.inPlace hk ho hβ hi hiN his halln ?_ h1 ?_
            · refine ⟨_, ty, fr, rfl, ?_, by rw [wcells_size]; exact hsz, ?_, ?_⟩
              · unfold Clear at *; rw [wcells_size]; exact hcl
              · rw [wcells_size, flat_len halln, hlen2]; omega
              · intro j v hj
                have hvl : arr.toList.length = new.length * e := by simpa using harr
                rw [wcells_get _ c (sLen * e) (by rw [hvl]; omega) j, hvl]
                rw [hfl2, List.getElem?_append] at hj
                have htl : (xs.flatten.take (sLen * e)).length = sLen * e := by rw [List.length_take, hflx]; omega
                rw [htl] at hj
                split at hj
                · rename_i hjl
                  rw [if_neg (by omega)]
                  rw [List.getElem?_take, if_pos hjl] at hj
                  exact hrr j v hj
                · rename_i hjl
                  have hjlt := (List.getElem?_eq_some_iff.1 hj).1
                  rw [hfl] at hjlt
                  rw [if_pos (by omega)]
                  have hlt : j - sLen * e < arr.toList.length := by omega
                  exact ⟨arr.toList[j - sLen * e], by rw [List.getElem?_eq_getElem hlt], hrl.2.2 _ (List.getElem_mem _), hrl.2.1 _ v _ hj (List.getElem?_eq_getElem hlt)⟩
            · have := Rel.vsl (M := M) id 0 (sLen + new.length) sCap k (nput_eq (β := β)) hf (by rw [hes]; omega)
              simpa using this
          · have hel : elemsOf o e (.vsl i 0 sLen) = some ((xs.drop 0).take sLen, [i]) := by
              simp only [elemsOf, rdVec, ho, Option.bind_some]
              rw [if_pos ⟨trivial, by omega⟩]
            have hsr : Rel M β (.vsl i 0 sLen) (.slice (some ⟨k.b, 0 * k.esz, none⟩) sLen sCap) := .vsl i 0 sLen sCap k hβ hlc (by rw [hes]; omega)
            obtain ⟨_, old, h1, h2⟩ := run_first (P := P) hk hesz hel hsr
            simp only [List.drop_zero] at h1 h2
            have htl : (xs.take sLen).length = sLen := by simp; omega
            rw [htl] at h1
            have hol : old.size = sLen * e := by
              have := h2.1
              rw [flat_len (e := e) (fun l hl => hallx l (List.mem_of_mem_take hl)), htl] at this
              simpa using this.symm
            have hold : ∀ w', w'.heap = w.heap → (Builtin.firstCells e sLen (.slice (some ⟨k.b, 0 * k.esz, none⟩) sLen sCap)).run P w' = .ok old w' := by
              intro w' hw'
              rw [h1 w' hw' sLen (Nat.le_refl _)]
              congr 1
              apply Array.ext'
              simp [List.take_of_length_le (show old.toList.length ≤ sLen * e by simp [hol])]
            obtain ⟨cap, rest, h3, h4, h5⟩ := hgrow hroom (by omega) old hold
            have hk' : Ok M β N Lb w0 (hput o i .dead) w.drew := ⟨(hk.sr.kill i).drew, hk.kp.drew⟩
            have hmul3 : (sLen + new.length) * e = sLen * e + new.length * e := Nat.add_mul _ _ _
            have hszn : (old ++ arr ++ rest : Array Value).size = cap * e := by
              simp only [Array.size_append, harr, h4, hol]
              rw [← hmul3, ← Nat.add_mul]; congr 1; omega
            have hmul4 : (sLen + new.length) * e ≤ cap * e := Nat.mul_le_mul_right _ h3
            refine Gd.newVec (c := old ++ arr ++ rest) (ty := el) (n := sLen + new.length) (cap := cap) hk' hi hiN halln (by rw [hszn, hlen2]; exact hmul4) ?_ h3 (by rw [hszn]; omega) h5 his
            rw [hlen2, hfl2, hmul3]
            have hh2 := h2
            rw [flat_take sLen hallx hlen] at hh2
            have : ((old ++ arr ++ rest : Array Value).toList.take (sLen * e + new.length * e)) = old.toList ++ arr.toList := by
              simp only [Array.toList_append]
              rw [List.take_append_of_le_length (by simp [hol, harr])]
              rw [List.take_of_length_le (by simp [hol, harr])]
            rw [this]
            exact hh2.append hrl
      · cases hap
    · cases hap
  · cases hap

theorem snd_append {p : Oper} {id esz ebytes : Nat} {s x : Arg} {r : List (List V) × List Nat} {act : Act} (hc : chkAppend P p.op esz ebytes s x = true) (hel : elemsOf o esz (evA G e x) = some r)
    (hap : appendTo o id esz ebytes r.1 r.2 (evA G e s) = some act) (hk : Ok M β N Lb w0 o w) (he : EnvR M β e a) (hg : GOK M G) (hi : β id = none) (hiN : id < N) (his : id ∈ ks) :
    Gd M β N Lb w0 ks (hputs o act.ups) act.val ((execOp a.eval p).run P w) := by
  unfold chkAppend at hc
  split at hc
  · rename_i args argTypes hop
    simp only [Bool.and_eq_true, beq_iff_eq] at hc
    obtain ⟨⟨hca, hsz2⟩, hc2⟩ := hc
    obtain ⟨y, u, hyu, hys, hux⟩ := chkArgs_two hca
    have hargs := arr_two hyu
    subst hargs
    split at hc2
    · rename_i t t' ht ht'
      have hat : argTypes = #[t, t'] := by
        apply Array.ext'
        obtain ⟨l⟩ := argTypes
        match l, hsz2 with
        | [a, b], _ => simp at ht ht'; subst ht; subst ht'; rfl
      simp only [Bool.and_eq_true] at hc2
      obtain ⟨hni, hc3⟩ := hc2
      split at hc3
      · rename_i el hu
        simp only [Bool.and_eq_true, decide_eq_true_eq] at hc3
        obtain ⟨⟨⟨⟨⟨h1, h2⟩, h3⟩, h4⟩, h5⟩, h6⟩ := hc3
        have hs := evA_sound hys he hg
        have hx := evA_sound hux he hg
        obtain ⟨hlen, arr, harr, hrl⟩ := run_first (P := P) hk h4 hel hx
        obtain ⟨hall, _⟩ := elems_sound hk h4 hel hx
        have hfl := flat_len hall
        have hals : arr.toList.length = r.1.length * esz := by rw [← hrl.1, hfl]
        have harr' : ∀ w', w'.heap = w.heap → (Builtin.firstCells esz r.1.length (a.eval u)).run P w' = .ok arr w' := by
          intro w' hw'
          rw [harr w' hw' _ (Nat.le_refl _)]
          congr 1
          apply Array.ext'
          rw [List.take_of_length_le (by omega)]
        have hsl : ∃ base sLen sCap, a.eval y = .slice base sLen sCap := by
          unfold appendTo at hap
          generalize evA G e s = vs at *
          cases vs <;> (try cases hap)
          · exact ⟨_, _, _, hs.nils_inv⟩
          · have := hs.sl_inv; generalize a.eval y = z at *; cases this; exact ⟨_, _, _, rfl⟩
          · generalize a.eval y = z at *
            cases hs with
            | pure h => cases h
            | vsl _ _ _ _ _ _ _ _ => exact ⟨_, _, _, rfl⟩
            | vslE _ _ _ _ _ => exact ⟨_, _, _, rfl⟩
        obtain ⟨base, sLen, sCap, hsv⟩ := hsl
        rw [hsv] at hs
        have hexec : ∀ res w1, (Builtin.append_ #[t, t'] p.type #[.slice base sLen sCap, a.eval u]).run P w = .ok res w1 → (execOp a.eval p).run P w = .ok (.value res) w1 := by
          intro res w1 h
          have : (execOp a.eval p).run P w = ((Builtin.append_ #[t, t'] p.type #[.slice base sLen sCap, a.eval u]).run P w).andThen fun v w' => .ok (.value v) w' := by
            simp [execOp, hop, resolve, invoke, builtin, hat, hsv]
          rw [this, h]; rfl
        refine append_core (P := P) (el := el) hk h4 hall hrl hs hap hi hiN his ?_ ?_ ?_
        · intro hroom hf w1 hw1
          refine hexec _ _ ?_
          rw [run_append_fit (P := P) (w := w) hu hni h1 hlen harr' hf, hw1]; rfl
        · intro hroom hf old hold
          obtain ⟨cap, rest, g1, g2, g3⟩ := run_append_grow (P := P) (w := w) (ty := p.type) hu hni h1 h2 h3 h6 h5 hlen harr' hold hroom hf
          exact ⟨cap, rest, g1, g2, hexec _ _ g3⟩
        · intro hnil hf
          refine hexec _ _ ?_
          have hn0 : r.1.length = 0 := by rw [hnil]; rfl
          have ha0 : arr.toList = [] := by rw [hnil] at hrl; exact List.eq_nil_of_length_eq_zero hrl.1.symm
          rw [run_append_fit (P := P) (w := w) hu hni h1 hlen harr' (by omega), ha0, hn0]
          cases base <;> simp [stBase, storeCells]
      · cases hc3
    · cases hc2
  · cases hc
end
end Go.Proofs.YtoccgkgdhobmfaaDoor.Am

/- The abstract machine, part 11: copy, make, literals, bytes of a string. -/
set_option linter.unusedVariables false
set_option linter.unusedSimpArgs false
namespace Go.Proofs.YtoccgkgdhobmfaaDoor.Am
open Go

section
variable {P : Program} {M : Mem} {β : Names} {N : Nat} {Lb : Nat → Prop} {w0 w : World} {o : Hp} {ks : List Nat} {e : Env} {a : Go.Act} {G : Nat → Option (List V)}

/-! ### A new block that stands still -/

def mput (M : Mem) (b : Nat) (ob : Obj) : Mem := fun x => if x = b then some ob else M x
theorem mput_le {b : Nat} {ob : Obj} (h : M b = none) : ∀ x y, M x = some y → mput M b ob x = some y := by
  intro x y hx
  unfold mput
  rw [if_neg (fun e => by rw [e, h] at hx; cases hx)]; exact hx

theorem Holds.mem {M' : Mem} {Wr : Nat → Prop} {k : Blk} {x : AObj} (h : Holds M β Wr w k x) (hM : ∀ b y, M b = some y → M' b = some y) (hn : wrt x = true → M' k.b = Option.none) : Holds M' β Wr w k x := by
  cases x with
  | box cs => obtain ⟨h1, h2, h3⟩ := h; exact ⟨h1, hn rfl, h3.mono (fun _ h => h) fun _ _ h => h.mono hM (fun _ _ h => h)⟩
  | vec e xs => obtain ⟨h1, h2, h3, h4, h5⟩ := h; exact ⟨h1, hn rfl, h3, h4, h5.mono (fun _ h => h) fun _ _ h => h.mono hM (fun _ _ h => h)⟩
  | dead => exact h
  | fbox cs => exact BoxAt.mono h (fun x hx => hM _ x hx) (fun _ _ h => h.mono hM)
  | fvec e xs => obtain ⟨h1, h2, h3⟩ := h; exact ⟨h1, h2, h3.mono (fun x hx => hM _ x hx) (fun _ _ h => h.mono hM)⟩

theorem Ok.still (hk : Ok M β N Lb w0 o w) (ob : Obj) : Ok (mput M w.heap.size ob) β N Lb w0 o (w.alloc ob) := by
  have hf := hk.sr.fresh
  refine ⟨⟨?_, hk.sr.bnd, ?_, hk.sr.inj⟩, hk.kp.alloc ob⟩
  · intro b x hx
    unfold mput at hx
    split at hx
    · rename_i e; subst e; cases hx; exact heap_alloc_eq _ _
    · have := hk.sr.sub b x hx
      rw [heap_alloc_lt _ _ _ (lt_of_some this)]; exact this
  · intro i hi
    obtain ⟨k, h1, h2⟩ := hk.sr.live i hi
    refine ⟨k, h1, (h2.world (w' := w.alloc ob) fun hx => heap_alloc_lt _ _ _ (h2.lt hx)).mem (mput_le hf) fun hx => ?_⟩
    have hlt := h2.lt hx
    unfold mput
    rw [if_neg (by omega)]; exact h2.none hx

theorem Gd.still (hk : Ok M β N Lb w0 o w) {ob : Obj} {v' : V} {y : Value} {r : Result Next} (hr : r = .ok (.value y) (w.alloc ob)) (hv : PRel (mput M w.heap.size ob) v' y) : Gd M β N Lb w0 ks o v' r := by
  refine ⟨y, _, _, β, .inl hr, mput_le hk.sr.fresh, ?_, fun _ _ h => h, fun _ _ h => .inl h, hk.still ob, .pure hv⟩
  intro b hb
  have := hk.kp.size
  unfold mput
  rw [if_neg (by omega)]

theorem cellAt_mput {b off : Nat} {c : Array Value} {ty : TypeId} {fr : Nat × Nat} : cellAt (mput M b (.cells c ty fr)) b off = c[off]? := by simp [cellAt, mput]

def chkConvBytes (P : Program) (op : Go.Op) (x : Arg) : Bool := match op with | .convert s d x' => isBytes P d && isStr P s && chkA x' x | _ => false

theorem freeze_last (w : World) (c : Array Value) (ty : TypeId) : (w.alloc (.cells c ty)).freeze ⟨w.heap.size, c.size, none⟩ 1 = w.alloc (.cells c ty (c.size, c.size + 1)) := by
  simp only [World.freeze, World.alloc]
  rw [if_neg (by omega)]
  congr 1
  apply Array.ext
  · simp
  · intro i h1 h2
    simp only [Array.getElem_modify, Array.getElem_push]
    by_cases hi : w.heap.size = i
    · subst hi; simp
    · simp only [hi, if_false]
      have : i < w.heap.size := by simp at h2; omega
      simp [this]

theorem snd_convBytes {p : Oper} {x : Arg} {s : List UInt8} (hc : chkConvBytes P p.op x = true) (hx : evA G e x = .str s) (hk : Ok M β N Lb w0 o w) (he : EnvR M β e a) (hg : GOK M G) :
    Gd M β N Lb w0 ks o (.sl 1 (bytesV s)) ((execOp a.eval p).run P w) := by
  unfold chkConvBytes at hc
  split at hc
  · rename_i src dst x' hop
    simp only [Bool.and_eq_true] at hc
    obtain ⟨el, hd, hel8⟩ := isBytes_of hc.1.1
    have hs := isStr_of hc.1.2
    have h1 := evA_sound hc.2 he hg
    rw [hx] at h1
    generalize hcap : s.length + w.tape w.drawn (.appendCap s.length 0 el) % (2 ^ 63 - s.length) = cap
    have hle : s.length ≤ cap := by omega
    generalize hcc : ((s.map fun b => Value.int .u8 (b.toNat : Int)).toArray ++ Array.replicate (cap - s.length) (.int .u8 0)) = c
    have hdata : (⟨s.toArray⟩ : ByteArray).data.map (fun b => Value.int .u8 (b.toNat : Int)) = (s.map fun b => Value.int .u8 (b.toNat : Int)).toArray := by simp
    have hrun : (convert src dst (a.eval x')).run P w = .ok (.slice (some ⟨w.heap.size, 0, none⟩) s.length cap) (w.drew.alloc (.cells c el (c.size, c.size + 1))) := by
      rw [h1.str_inv]
      have hsh : (w.drew.alloc (.cells c el)).shape? w.heap.size = some (el, c.size) := by
        simp only [World.shape?]
        have := heap_alloc_eq w.drew (.cells c el)
        simp only [World.size_drew] at this
        rw [this]
      have hfz := freeze_last w.drew c el
      simp only [World.size_drew] at hfz
      simp only [convert, Sem.run_bind, run_underlying hs, run_underlying hd, Result.andThen_ok, run_underlying hel8, Conv.stringToBytes, run_choose, Question.forced, Bool.false_eq_true, if_false, Question.cut, size_str, hcap, World.drew_eq, hdata, newRow, run_newObj, World.alloc_eq, Sem.run_pure, hcc,
        markStringish, World.size_drew, run_shape, hsh, run_freeze, hfz]
    have hk' : Ok M β N Lb w0 o w.drew := ⟨hk.sr.drew, hk.kp.drew⟩
    refine .still (ob := .cells c el (c.size, c.size + 1)) (y := .slice (some ⟨w.heap.size, 0, none⟩) s.length cap) hk' ?_ ?_
    · simp only [execOp, hop, Sem.run_bind, hrun, Result.andThen_ok, Sem.run_pure]
    · have hl : (bytesV s).length = s.length := by simp [bytesV]
      rw [← hl]
      have hget : ∀ (i : Nat) (cc : List V) (j : Nat) (v : V), (bytesV s)[i]? = some cc → cc[j]? = some v → j = 0 ∧ ∃ b, s[i]? = some b ∧ v = .int .u8 b.toNat := by
        intro i cc j v hi hj
        simp only [bytesV, List.getElem?_map, Option.map_eq_some_iff] at hi
        obtain ⟨b, hb, rfl⟩ := hi
        simp only [byteV] at hj
        cases j with
        | zero => simp at hj; exact ⟨rfl, b, hb, hj.symm⟩
        | succ j => simp at hj
      refine .sl 1 (bytesV s) _ cap w.heap.size 0 (fun i _ => .int .u8 ((s.getD i 0).toNat : Int)) (by rw [hl]; exact hle) (fun _ => rfl) ?_ ?_ ?_ ?_
      · intro i cc hi
        simp only [bytesV, List.getElem?_map, Option.map_eq_some_iff] at hi
        obtain ⟨b, _, rfl⟩ := hi; rfl
      · intro i cc j v hi hj
        obtain ⟨rfl, b, hb, rfl⟩ := hget i cc j v hi hj
        have hlt := (List.getElem?_eq_some_iff.1 hb).1
        have : cellAt (mput M w.drew.heap.size (.cells c el (c.size, c.size + 1))) w.heap.size (0 + (i * 1 + 0)) = c[0 + (i * 1 + 0)]? := cellAt_mput
        rw [this, ← hcc]
        rw [Array.getElem?_append_left (by simp; omega)]
        simp [hb, List.getD]
      · intro i cc j v hi hj; rfl
      · intro i cc j v hi hj
        obtain ⟨rfl, b, hb, rfl⟩ := hget i cc j v hi hj
        have : s.getD i 0 = b := by simp [List.getD, hb]
        rw [this]; exact .int _ _
  · cases hc

/-! ### copy -/

def chkCopy (P : Program) (op : Go.Op) (esz : Nat) (d s : Arg) : Bool := match op with
  | .call { callee := .builtin .copy, args, argTypes } => chkArgs args.toList [d, s] && (match argTypes[0]? with
    | some t => (match P.underlying t with
      | some (.slice el) => tsize P el esz && decide (0 < esz)
      | _ => false)
    | _ => false)
  | _ => false

theorem snd_copy {p : Oper} {esz : Nat} {d s : Arg} {r : List (List V) × List Nat} {i off len : Nat} {cs cs' : List V} (hc : chkCopy P p.op esz d s = true) (hel : elemsOf o esz (evA G e s) = some r) (hd : evA G e d = .bsl i off len esz)
    (ho : o i = .box cs) (hsp : splice off (r.1.take len).flatten cs = some cs') (hk : Ok M β N Lb w0 o w) (he : EnvR M β e a) (hg : GOK M G) :
    Gd M β N Lb w0 ks (hput o i (.box cs')) (lenB (min r.1.length len)) ((execOp a.eval p).run P w) := by
  unfold chkCopy at hc
  split at hc
  · rename_i args argTypes hop
    simp only [Bool.and_eq_true] at hc
    obtain ⟨y, u, hyu, hys, hux⟩ := chkArgs_two hc.1
    have hargs := arr_two hyu
    subst hargs
    have hc2 := hc.2
    split at hc2
    · rename_i t ht
      split at hc2
      · rename_i el hu
        simp only [Bool.and_eq_true, decide_eq_true_eq] at hc2
        obtain ⟨hsz, hpos⟩ := hc2
        have hs := evA_sound hux he hg
        have hdd := evA_sound hys he hg
        rw [hd] at hdd
        obtain ⟨hlen, arr, harr, hrl⟩ := run_first (P := P) hk hpos hel hs
        obtain ⟨hall, _⟩ := elems_sound hk hpos hel hs
        have hmin : (r.1.take len).length = min r.1.length len := by simp [Nat.min_comm]
        have hfl := flat_len hall
        have hal : arr.toList.length = r.1.length * esz := by rw [← hrl.1, hfl]
        obtain ⟨k, hβ, hh⟩ := hk.sr.live i (by rw [ho]; simp)
        have hh0 := hh
        rw [ho] at hh
        obtain ⟨hw1, hw2, c, ty, fr, hb, hcl, hcs, hl, hrr⟩ := hh
        obtain ⟨g1, g2, g3⟩ := splice_get hsp
        have hrl' : RelL M β (r.1.take len).flatten (arr.toList.take (min r.1.length len * esz)) := by
          have h1 : r.1.take len = r.1.take (min r.1.length len) := by
            rcases Nat.le_total r.1.length len with h | h
            · rw [Nat.min_eq_left h, List.take_of_length_le h, List.take_of_length_le (Nat.le_refl _)]
            · rw [Nat.min_eq_right h]
          rw [h1, flat_take (e := esz) _ hall (Nat.min_le_left _ _)]
          exact hrl.take _
        have hbase : ∃ base cap, a.eval y = .slice base len cap ∧ (len ≠ 0 → base = some ⟨k.b, off, none⟩) := by
          generalize a.eval y = z at *
          cases hdd with
          | pure h => cases h
          | bsl _ _ _ _ cap k' hk' hl' => rw [hβ] at hk'; cases hk'; exact ⟨_, cap, rfl, fun _ => rfl⟩
          | bslE _ _ _ cap ad => exact ⟨ad, cap, rfl, fun h => absurd rfl h⟩
        obtain ⟨base, cap, hbv, hbb⟩ := hbase
        have hw : Ok M β N Lb w0 (hput o i (.box cs')) (wset w k.b (.cells (wcells c off (arr.toList.take (min r.1.length len * esz))) ty fr)) := by
          refine ⟨hk.sr.write hβ (by rw [ho]; rfl) rfl ⟨hw1, hw2, ?_⟩, hk.kp.wset _ _ hw1⟩
          rw [heap_wset_eq _ _ _ (lt_of_some hb)]
          exact boxAt_write hcl hcs hl hrr hsp hrl'
        have hst : (stBase base 0 (arr.toList.take (min r.1.length len * esz))).run P w = .ok () (wset w k.b (.cells (wcells c off (arr.toList.take (min r.1.length len * esz))) ty fr)) := by
          by_cases h0 : len = 0
          · subst h0
            have hn : arr.toList.take (min r.1.length 0 * esz) = [] := by simp
            rw [hn]
            simp only [wcells]
            rw [wset_same hb]
            cases base <;> simp [stBase, storeCells]
          · rw [hbb h0]
            have := run_storeCells (P := P) k.b off (arr.toList.take (min r.1.length len * esz)) w c 0 hb hcl (by rw [← hrl'.1]; omega) hrl'.2.2
            simp only [stBase, addr_add, Nat.add_zero] at this ⊢
            exact this
        refine ⟨.int .i64 (min r.1.length len : Nat), _, M, β, .inl ?_, fun _ _ h => h, fun _ _ => rfl, fun _ _ h => h, fun _ _ h => .inl h, hw, .pure (.int _ _)⟩
        have hf : (Builtin.firstCells esz (Nat.min r.1.length len) (a.eval u)).run P w = .ok (arr.toList.take (min r.1.length len * esz)).toArray w := harr w rfl _ (Nat.min_le_left _ _)
        have hrun : (Builtin.copy_ argTypes p.type #[a.eval y, a.eval u]).run P w = ((stBase base 0 (arr.toList.take (min r.1.length len * esz))).run P w).andThen fun _ w' => .ok (.int .i64 (min r.1.length len : Nat)) w' := by
          simp only [Builtin.copy_, ht, List.getElem?_toArray, List.getElem?_cons_zero, List.getElem?_cons_succ, Sem.run_bind, run_underlying hu, Result.andThen_ok, hbv, hlen, tsize_run hsz, hf, Sem.run_pure]
          cases base with
          | none => simp [stBase, goInt]
          | some ad => simp [stBase, goInt, Addr.add]
        rw [hst] at hrun
        have : (execOp a.eval p).run P w = ((Builtin.copy_ argTypes p.type #[a.eval y, a.eval u]).run P w).andThen fun v w' => .ok (.value v) w' := by
          simp [execOp, hop, resolve, invoke, builtin]
        rw [this, hrun]; rfl
      · cases hc2
    · cases hc2
  · cases hc
end
end Go.Proofs.YtoccgkgdhobmfaaDoor.Am

/- The abstract machine, part 12: literals, make, append of a made slice. -/
set_option linter.unusedVariables false
set_option linter.unusedSimpArgs false
namespace Go.Proofs.YtoccgkgdhobmfaaDoor.Am
open Go

section
variable {P : Program} {M : Mem} {β : Names} {N : Nat} {Lb : Nat → Prop} {w0 w : World} {o : Hp} {ks : List Nat} {e : Env} {a : Go.Act} {G : Nat → Option (List V)}

theorem relL_splice {cs cs' new : List V} {c : Array Value} {vals : List Value} {off : Nat} (h : RelL M β cs c.toList) (hsp : splice off new cs = some cs') (hn : RelL M β new vals) : RelL M β cs' (wcells c off vals).toList := by
  obtain ⟨h1, h2, h3⟩ := splice_get hsp
  have hl : cs.length = c.size := by simpa using h.1
  refine RelL.of_get (by rw [h2, hl]; simp [wcells_size]) ?_
  intro j v hj
  rw [h3 j] at hj
  rw [Array.getElem?_toList, wcells_get vals c off (by rw [← hn.1]; omega) j, ← hn.1]
  split at hj
  · rename_i hjj
    rw [if_pos hjj]
    have hlt : j - off < vals.length := by rw [← hn.1]; omega
    exact ⟨vals[j - off], by simp [hlt], hn.2.2 _ (List.getElem_mem _), hn.2.1 _ v _ hj (by simp [hlt])⟩
  · rename_i hjj
    rw [if_neg hjj]
    have hlt := (List.getElem?_eq_some_iff.1 hj).1
    have hlt' : j < c.size := by omega
    exact ⟨c[j], by simp [hlt'], h.2.2 _ (by simp), h.2.1 j v _ hj (by simp [hlt'])⟩

theorem fold_wcells (off : Nat) : ∀ (l : List Value) (k : Nat) (c : Array Value), (l.zipIdx k).foldl (fun cs p => cs.setIfInBounds (off + p.2) p.1) c = wcells c (off + k) l := by
  intro l
  induction l with
  | nil => intro k c; rfl
  | cons v r ih => intro k c; simp only [List.zipIdx_cons, List.foldl_cons, wcells]; rw [ih (k + 1)]; rw [Nat.add_assoc]

def chkParts (place : Nat → Option (Nat × Nat)) : List (Nat × Operand) → List (Nat × Nat × Arg) → Bool
  | [], [] => true
  | (i, x) :: r, (off, n, y) :: s => (match place i with | some q => q.1 == off && q.2 == n | none => false) && chkA x y && chkParts place r s
  | _, _ => false

theorem fill_sound {place : Nat → Option (Nat × Nat)} : ∀ {ps : List (Nat × Operand)} {qs : List (Nat × Nat × Arg)} {cs cs' : List V} {c : Array Value}, chkParts place ps qs = true → fillParts G e qs cs = some cs' → RelL M β cs c.toList → EnvR M β e a → GOK M G →
    ∃ c', Instr.fill place c (ps.map fun p => (p.1, a.eval p.2)) = some c' ∧ RelL M β cs' c'.toList := by
  intro ps
  induction ps with
  | nil =>
    intro qs cs cs' c hc hf hr he hg
    cases qs with
    | nil => cases hf; exact ⟨c, rfl, hr⟩
    | cons q qs => cases hc
  | cons p ps ih =>
    intro qs cs cs' c hc hf hr he hg
    obtain ⟨i, x⟩ := p
    cases qs with
    | nil => cases hc
    | cons q qs =>
      obtain ⟨off, n, y⟩ := q
      simp only [chkParts, Bool.and_eq_true] at hc
      obtain ⟨⟨hp, hx⟩, hrest⟩ := hc
      split at hp
      · rename_i q hq
        simp only [Bool.and_eq_true, beq_iff_eq] at hp
        obtain ⟨rfl, rfl⟩ := hp
        simp only [fillParts] at hf
        split at hf
        · rename_i hlen
          obtain ⟨hlen, hok⟩ := hlen
          have hv := evA_sound (M := M) (β := β) hx he hg
          have hcl := hv.cells hok
          cases hsp : splice q.1 (evA G e y).cells cs with
          | none => rw [hsp] at hf; cases hf
          | some cs1 =>
            rw [hsp] at hf
            simp only [Option.bind_some] at hf
            have hr1 := relL_splice hr hsp hcl
            obtain ⟨c', h1, h2⟩ := ih hrest hf hr1 he hg
            refine ⟨c', ?_, h2⟩
            have hs1 := (splice_get hsp).1
            have hcs : cs.length = c.size := by simpa using hr.1
            have hvl : (a.eval x).cells.size = q.2 := by rw [← hlen]; simpa using hcl.1.symm
            have hfold : (a.eval x).cells.zipIdx.foldl (fun cs (p : Value × Nat) => cs.setIfInBounds (q.1 + p.2) p.1) c = wcells c q.1 (a.eval x).cells.toList := by
              have := fold_wcells q.1 (a.eval x).cells.toList 0 c
              simp only [Nat.add_zero] at this
              rw [← this, ← Array.foldl_toList]
              simp
            simp only [List.map_cons, Instr.fill, hq]
            rw [if_neg (by simp [hvl]; omega)]
            rw [← h1]
            congr 1
        · cases hf
      · cases hp

def structPlace (P : Program) (fs : Array Field) (i : Nat) : Option (Nat × Nat) := (fs[i]?).bind fun f => (P.info? f.type).map fun inf => (f.offset, inf.size)

theorem mapM_places {fs : List Field} (h : ∀ f ∈ fs, (P.info? f.type).isSome = true) :
    (fs.mapM fun f => do pure (f.offset, ← sizeOf f.type) : Sem (List (Nat × Nat))).run P w = .ok (fs.map fun f => (f.offset, P.cellsOf f.type)) w := by
  induction fs with
  | nil => simp
  | cons f r ih =>
    have hf := h f (by simp)
    obtain ⟨inf, hinf⟩ := Option.isSome_iff_exists.1 hf
    have hs : (sizeOf f.type).run P w = .ok (P.cellsOf f.type) w := by simp [sizeOf, typeInfo, hinf, Program.cellsOf]
    simp only [List.mapM_cons, Sem.run_bind, hs, Result.andThen_ok, Sem.run_pure, ih (fun g hg => h g (by simp [hg])), List.map_cons]

def chkBuild (P : Program) (op : Go.Op) (zero : List V) (parts : List (Nat × Nat × Arg)) : Bool := match op with
  | .build t ps => tzero P t zero && (match P.underlying t with
    | some (.struct fs) => fs.all (fun f => (P.info? f.type).isSome) && chkParts (structPlace P fs) ps.toList parts
    | some (.array _ el) => (match P.info? el with | some inf => chkParts (fun i => some (i * inf.size, inf.size)) ps.toList parts | none => false)
    | _ => false)
  | _ => false
theorem snd_build {p : Oper} {zero cs : List V} {parts : List (Nat × Nat × Arg)} (hc : chkBuild P p.op zero parts = true) (hf : fillParts G e parts zero = some cs)
    (hk : Ok M β N Lb w0 o w) (he : EnvR M β e a) (hg : GOK M G) : Gd M β N Lb w0 ks o (.agg cs) ((execOp a.eval p).run P w) := by
  unfold chkBuild at hc
  split at hc
  · rename_i t ps hop
    simp only [Bool.and_eq_true] at hc
    obtain ⟨z, h1, h2, _⟩ := tzero_run (P := P) (w := w) (M := M) (β := β) hc.1
    have hc2 := hc.2
    have hmap : (ps.map fun (i, x) => (i, a.eval x)).toList = ps.toList.map fun p => (p.1, a.eval p.2) := by simp
    split at hc2
    · rename_i fs hu
      simp only [Bool.and_eq_true] at hc2
      obtain ⟨c', h3, h4⟩ := fill_sound (a := a) hc2.2 hf h2 he hg
      refine .pure (x := .agg c') hk ?_ (by simpa using h4.agg)
      have hpl := mapM_places (P := P) (w := w) (fs := fs.toList) (by intro f hf'; have := hc2.1; rw [Array.all_eq_true_iff_forall_mem] at this; exact this f (by simpa using hf'))
      have hpl2 : (fs.mapM fun f => do pure (f.offset, ← sizeOf f.type) : Sem (Array (Nat × Nat))).run P w = .ok (fs.map fun f => (f.offset, P.cellsOf f.type)) w := by
        rw [Array.mapM_eq_mapM_toList]
        simp only [Sem.run_map, hpl, Result.andThen_ok]
        congr 1
        apply Array.ext'
        simp
      have hplace : (fun i => (fs.map fun f => (f.offset, P.cellsOf f.type))[i]?) = structPlace P fs := by
        funext i
        simp only [structPlace, Array.getElem?_map]
        cases hfi : fs[i]? with
        | none => rfl
        | some f =>
          have hm : f ∈ fs := Array.mem_of_getElem? hfi
          have hsome := hc2.1
          rw [Array.all_eq_true_iff_forall_mem] at hsome
          obtain ⟨inf, hinf⟩ := Option.isSome_iff_exists.1 (hsome f hm)
          simp [hinf, Program.cellsOf]
      simp only [execOp, hop, Instr.build, Sem.run_bind, h1, Result.andThen_ok, run_underlying hu, hpl2, hplace, hmap, h3, Sem.run_pure]
    · rename_i n el hu
      split at hc2
      · rename_i inf hinf
        obtain ⟨c', h3, h4⟩ := fill_sound (a := a) hc2 hf h2 he hg
        refine .pure (x := .agg c') hk ?_ (by simpa using h4.agg)
        have hs : (sizeOf el).run P w = .ok inf.size w := by simp [sizeOf, typeInfo, hinf]
        simp only [execOp, hop, Instr.build, Sem.run_bind, h1, Result.andThen_ok, run_underlying hu, hs, hmap, h3, Sem.run_pure]
      · cases hc2
    · cases hc2
  · cases hc

/-! ### Slice literals -/

def chkElems : List (Nat × Operand) → List (Nat × Arg) → Bool
  | [], [] => true
  | (i, x) :: r, (j, y) :: s => i == j && chkA x y && chkElems r s
  | _, _ => false

theorem fillE_sound {esz : Nat} : ∀ {ps : List (Nat × Operand)} {qs : List (Nat × Arg)} {xs xs' : List (List V)} {c : Array Value}, chkElems ps qs = true → fillElems G e esz qs xs = some xs' → (∀ l ∈ xs, l.length = esz) → RelL M β xs.flatten c.toList → EnvR M β e a → GOK M G →
    ∃ c', Instr.fill (fun i => some (i * esz, esz)) c (ps.map fun p => (p.1, a.eval p.2)) = some c' ∧ RelL M β xs'.flatten c'.toList ∧ (∀ l ∈ xs', l.length = esz) ∧ xs'.length = xs.length := by
  intro ps
  induction ps with
  | nil =>
    intro qs xs xs' c hc hf hall hr he hg
    cases qs with
    | nil => cases hf; exact ⟨c, rfl, hr, hall, rfl⟩
    | cons q qs => cases hc
  | cons p ps ih =>
    intro qs xs xs' c hc hf hall hr he hg
    obtain ⟨i, x⟩ := p
    cases qs with
    | nil => cases hc
    | cons q qs =>
      obtain ⟨j, y⟩ := q
      simp only [chkElems, Bool.and_eq_true, beq_iff_eq] at hc
      obtain ⟨⟨rfl, hx⟩, hrest⟩ := hc
      simp only [fillElems] at hf
      split at hf
      · rename_i hlen
        obtain ⟨hlen, hij, hok⟩ := hlen
        have hv := evA_sound (M := M) (β := β) hx he hg
        have hcl := hv.cells hok
        have hxi : xs[i]? = some xs[i] := List.getElem?_eq_getElem hij
        have hil : (xs[i]).length = esz := hall _ (List.getElem_mem _)
        have hs0 : splice 0 (evA G e y).cells xs[i] = some (evA G e y).cells := by
          unfold splice
          rw [if_pos (by omega), List.drop_eq_nil_of_le (by omega)]; simp
        have hsp := flat_set hall hxi hs0
        rw [Nat.add_zero] at hsp
        have hr1 := relL_splice hr hsp hcl
        have hall' : ∀ l ∈ xs.set i (evA G e y).cells, l.length = esz := by
          intro l hl
          rcases List.mem_or_eq_of_mem_set hl with h | h
          · exact hall l h
          · rw [h]; exact hlen
        obtain ⟨c', h1, h2, h3, h4⟩ := ih hrest hf hall' hr1 he hg
        refine ⟨c', ?_, h2, h3, by rw [h4]; simp⟩
        have hs1 := (splice_get hsp).1
        have hcs : xs.flatten.length = c.size := by simpa using hr.1
        have hvl : (a.eval x).cells.size = esz := by rw [← hlen]; simpa using hcl.1.symm
        have hfold : (a.eval x).cells.zipIdx.foldl (fun cs (p : Value × Nat) => cs.setIfInBounds (i * esz + p.2) p.1) c = wcells c (i * esz) (a.eval x).cells.toList := by
          have := fold_wcells (i * esz) (a.eval x).cells.toList 0 c
          simp only [Nat.add_zero] at this
          rw [← this, ← Array.foldl_toList]
          simp
        simp only [List.map_cons, Instr.fill]
        have hs1' : i * esz + esz ≤ c.size := by rw [← hcs]; rw [hlen] at hs1; exact hs1
        rw [if_neg (by rw [hvl]; simp; omega)]
        rw [← h1]
        congr 1
      · cases hf

theorem range_cells {z : Array Value} {zl : List V} (n : Nat) (h : RelL M β zl z.toList) (h0 : 0 < zl.length) :
    RelL M β (List.replicate n zl).flatten ((Array.range (n * zl.length)).map fun i => z[i % z.size]!).toList := by
  have hz : z.size = zl.length := by simpa using h.1.symm
  refine RelL.of_get (by simp) ?_
  intro j v hj
  have hall : ∀ l ∈ List.replicate n zl, l.length = zl.length := by intro l hl; rw [(List.mem_replicate.1 hl).2]
  obtain ⟨l, h1, h2, h3⟩ := flat_index h0 hall hj
  have hl : l = zl := (List.mem_replicate.1 (List.mem_of_getElem? h1)).2
  subst hl
  have hlt : j % l.length < z.size := by rw [hz]; exact Nat.mod_lt _ h0
  have hjn : j < n * l.length := by
    have := (List.getElem?_eq_some_iff.1 hj).1
    rw [flat_len hall] at this; simpa using this
  refine ⟨z[j % l.length], ?_, h.2.2 _ (by simp), h.2.1 _ v _ h2 (by simp [hlt])⟩
  have h4 : z[j % l.length]! = z[j % l.length] := getElem!_pos z _ hlt
  simp [hjn, hz, h4]

def chkLit (P : Program) (op : Go.Op) (esz : Nat) (zero : List (List V)) (parts : List (Nat × Arg)) : Bool := match op with
  | .buildSlice t len ps => (match P.underlying t with
    | some (.slice el) => tsize P el esz && decide (0 < esz) && decide (len * esz ≤ 16777216) && zero.length == len && (match P.info? el with
      | some inf => (match inf.zero with | some z => z.cells.size == esz && zero.all (fun l => chkCells z.cells.toList l) | none => false)
      | none => false) && chkElems ps.toList parts
    | _ => false)
  | _ => false

theorem allEq {zero : List (List V)} {zs : List Value} (h : zero.all (fun l => chkCells zs l) = true) : ∀ l ∈ zero, RelL M β l zs := by
  intro l hl
  rw [List.all_eq_true] at h
  exact (chkCells_sound (h l hl)).1

theorem lit_start {z : Array Value} {esz : Nat} {zero : List (List V)} (hz : z.size = esz) (h0 : 0 < esz) (h : ∀ l ∈ zero, RelL M β l z.toList) :
    (∀ l ∈ zero, l.length = esz) ∧ RelL M β zero.flatten ((Array.range (zero.length * esz)).map fun i => z[i % z.size]!).toList := by
  have hall : ∀ l ∈ zero, l.length = esz := by intro l hl; have := (h l hl).1; simp at this; omega
  refine ⟨hall, RelL.of_get (by rw [flat_len hall]; simp) ?_⟩
  intro j v hj
  obtain ⟨l, h1, h2, h3⟩ := flat_index h0 hall hj
  have hlt : j % esz < z.size := by rw [hz]; exact Nat.mod_lt _ h0
  have hjn : j < zero.length * esz := by
    have := (List.getElem?_eq_some_iff.1 hj).1
    rwa [flat_len hall] at this
  have hl := h l (List.mem_of_getElem? h1)
  refine ⟨z[j % esz], ?_, hl.2.2 _ (by simp), hl.2.1 _ v _ h2 (by simp [hlt])⟩
  have h4 : z[j % esz]! = z[j % esz] := getElem!_pos z _ hlt
  simp [hjn, hz, h4]

/-- What a slice literal comes to. -/
theorem run_lit {p : Oper} {esz : Nat} {zero xs : List (List V)} {parts : List (Nat × Arg)} (hc : chkLit P p.op esz zero parts = true) (hf : fillElems G e esz parts zero = some xs) (he : EnvR M β e a) (hg : GOK M G) :
    ∃ (c : Array Value) (el : TypeId), (execOp a.eval p).run P w = .ok (.value (.slice (some ⟨w.heap.size, 0, none⟩) xs.length xs.length)) (w.alloc (.cells c el)) ∧ RelL M β xs.flatten c.toList ∧ (∀ l ∈ xs, l.length = esz) ∧ 0 < esz := by
  unfold chkLit at hc
  split at hc
  · rename_i t len ps hop
    split at hc
    · rename_i el hu
      simp only [Bool.and_eq_true, decide_eq_true_eq, beq_iff_eq] at hc
      obtain ⟨⟨⟨⟨⟨hsz, h0⟩, h24⟩, hlen⟩, hz⟩, hel⟩ := hc
      split at hz
      · rename_i inf hinf
        split at hz
        · rename_i z hzz
          simp only [Bool.and_eq_true, beq_iff_eq] at hz
          obtain ⟨hzs, hzall⟩ := hz
          obtain ⟨hall, hr⟩ := lit_start (M := M) (β := β) hzs h0 (allEq hzall)
          obtain ⟨c, h1, h2, h3, h4⟩ := fillE_sound (a := a) hel hf hall hr he hg
          refine ⟨c, el, ?_, h2, h3, h0⟩
          have hzv : (zeroValue el).run P w = .ok z w := by simp [zeroValue, typeInfo, hinf, hzz]
          have hmap : (ps.map fun (i, x) => (i, a.eval x)).toList = ps.toList.map fun p => (p.1, a.eval p.2) := by simp
          have h24' : ¬ (len * esz > 2 ^ 24) := by
            have : (2 : Nat) ^ 24 = 16777216 := by decide
            omega
          rw [hlen] at h1 h4
          by_cases hz0 : len * esz = 0
          · have hl0 : len = 0 := by rcases Nat.mul_eq_zero.1 hz0 with h | h <;> omega
            subst hl0
            have h1' : Instr.fill (fun i => some (i * esz, esz)) ((Array.range (0 * esz)).map fun i => (#[] : Array Value)[i % (#[] : Array Value).size]!) (ps.toList.map fun p => (p.1, a.eval p.2)) = some c := by
              rw [← h1]; congr 1; simp
            rw [Nat.zero_mul] at h1'
            have h00 : ¬ (0 > 2 ^ 24) := by decide
            simp only [execOp, hop, Instr.buildSlice, Sem.run_bind, run_underlying hu, Result.andThen_ok, tsize_run hsz, Sem.run_ite, Nat.zero_mul, h00, if_false, if_true, Sem.run_pure, hmap, h1', newRow, run_newObj, World.alloc_eq, h4]
          · simp only [execOp, hop, Instr.buildSlice, Sem.run_bind, run_underlying hu, Result.andThen_ok, tsize_run hsz, Sem.run_ite, h24', if_false, hz0, hzv, Sem.run_pure, hmap, h1, newRow, run_newObj, World.alloc_eq, h4]
        · cases hz
      · cases hz
    · cases hc
  · cases hc

theorem snd_lit {p : Oper} {esz : Nat} {zero xs : List (List V)} {parts : List (Nat × Arg)} {id : Nat} (hc : chkLit P p.op esz zero parts = true) (hf : fillElems G e esz parts zero = some xs)
    (hk : Ok M β N Lb w0 o w) (he : EnvR M β e a) (hg : GOK M G) (hi : β id = none) (hiN : id < N) (his : id ∈ ks) : Gd M β N Lb w0 ks (hput o id (.vec esz xs)) (.vsl id 0 xs.length) ((execOp a.eval p).run P w) := by
  obtain ⟨c, el, h1, h2, h3, h0⟩ := run_lit (P := P) (w := w) (a := a) hc hf he hg
  have hl : c.size = xs.length * esz := by have := h2.1; rw [flat_len h3] at this; simpa using this.symm
  refine .newVec (c := c) (ty := el) hk hi hiN h3 (by omega) ?_ (Nat.le_refl _) (by omega) h1 his
  rw [← hl, List.take_of_length_le (by simp)]
  exact h2

theorem nrm_sound {v v' : V} {x : Value} (h : nrm v = some v') (hr : Rel M β v x) : PRel M v' x := by
  cases v <;> simp only [nrm] at h <;> (try cases h)
  · rw [hr.int_inv]; exact .int _ _
  · rw [hr.bool_inv]; exact .bool _
  · rw [hr.str_inv]; exact .str _
  · rw [hr.nilp_inv]; exact .nilp
  · rw [hr.nils_inv]
    exact .sl _ [] none 0 0 0 (fun _ _ => undef) (Nat.le_refl _) (fun h => absurd rfl h) (by simp) (by simp) (by simp) (by simp)
  · rw [hr.nilf_inv]; exact .nilf
  · rw [hr.nili_inv]; exact .nili
  · exact hr.imp_inv
  · exact hr.sl_inv
  · rename_i t v
    split at h
    · cases h
      obtain ⟨y, rfl, hy⟩ := hr.iface_inv
      rw [hy.int_inv]; exact .iface _ _ _ (.int _ _)
    · cases h

theorem nrmL_get : ∀ {cs cs' : List V}, nrmL cs = some cs' → cs'.length = cs.length ∧ ∀ (j : Nat) v', cs'[j]? = some v' → ∃ v, cs[j]? = some v ∧ nrm v = some v' := by
  intro cs
  induction cs with
  | nil => intro cs' h; cases h; exact ⟨rfl, by simp⟩
  | cons a r ih =>
    intro cs' h
    simp only [nrmL] at h
    cases ha : nrm a with
    | none => rw [ha] at h; cases h
    | some a' =>
      rw [ha] at h
      simp only [Option.bind_some] at h
      cases hr : nrmL r with
      | none => rw [hr] at h; cases h
      | some r' =>
        rw [hr] at h; cases h
        obtain ⟨h1, h2⟩ := ih hr
        refine ⟨by simp [h1], ?_⟩
        intro j v' hj
        cases j with
        | zero => simp at hj; subst hj; exact ⟨a, rfl, ha⟩
        | succ j => simp only [List.getElem?_cons_succ] at hj; exact h2 j v' hj

theorem nrmLL_get : ∀ {xs xs' : List (List V)}, nrmLL xs = some xs' → xs'.length = xs.length ∧ ∀ (i : Nat) l', xs'[i]? = some l' → ∃ l, xs[i]? = some l ∧ nrmL l = some l' := by
  intro xs
  induction xs with
  | nil => intro xs' h; cases h; exact ⟨rfl, by simp⟩
  | cons a r ih =>
    intro xs' h
    simp only [nrmLL] at h
    cases ha : nrmL a with
    | none => rw [ha] at h; cases h
    | some a' =>
      rw [ha] at h
      simp only [Option.bind_some] at h
      cases hr : nrmLL r with
      | none => rw [hr] at h; cases h
      | some r' =>
        rw [hr] at h; cases h
        obtain ⟨h1, h2⟩ := ih hr
        refine ⟨by simp [h1], ?_⟩
        intro j v' hj
        cases j with
        | zero => simp at hj; subst hj; exact ⟨a, rfl, ha⟩
        | succ j => simp only [List.getElem?_cons_succ] at hj; exact h2 j v' hj

theorem snd_ilit {p : Oper} {esz : Nat} {zero xs xs' : List (List V)} {parts : List (Nat × Arg)} (hc : chkLit P p.op esz zero parts = true) (hf : fillElems G e esz parts zero = some xs) (hn : nrmLL xs = some xs')
    (hk : Ok M β N Lb w0 o w) (he : EnvR M β e a) (hg : GOK M G) : Gd M β N Lb w0 ks o (.sl esz xs') ((execOp a.eval p).run P w) := by
  obtain ⟨c, el, h1, h2, h3, h0⟩ := run_lit (P := P) (w := w) (a := a) hc hf he hg
  have hl : c.size = xs.length * esz := by have := h2.1; rw [flat_len h3] at this; simpa using this.symm
  obtain ⟨n1, n2⟩ := nrmLL_get hn
  refine .still hk h1 ?_
  rw [← n1]
  have hall' : ∀ (i : Nat) (l' : List V), xs'[i]? = some l' → l'.length = esz := by
    intro i l' hi
    obtain ⟨l, h4, h5⟩ := n2 i l' hi
    rw [(nrmL_get h5).1]; exact h3 l (List.mem_of_getElem? h4)
  have hget : ∀ (i : Nat) (l' : List V) (j : Nat) (v' : V), xs'[i]? = some l' → l'[j]? = some v' → ∃ v, xs.flatten[i * esz + j]? = some v ∧ nrm v = some v' := by
    intro i l' j v' hi hj
    obtain ⟨l, h4, h5⟩ := n2 i l' hi
    obtain ⟨v, h6, h7⟩ := (nrmL_get h5).2 j v' hj
    exact ⟨v, flat_get h3 h4 h6, h7⟩
  have hcl : ∀ (q : Nat) (v : V), xs.flatten[q]? = some v → c[q]? = some (c.getD q undef) ∧ (c.getD q undef).oneCell' = true ∧ Rel M β v (c.getD q undef) := by
    intro q v hq
    have hlt : q < c.size := by
      have := (List.getElem?_eq_some_iff.1 hq).1
      rw [flat_len h3] at this; omega
    have hx : c[q]? = some c[q] := by simp [hlt]
    rw [getD_of_getElem? hx]
    exact ⟨hx, h2.2.2 _ (by simp), h2.2.1 q v _ hq (by simp [hlt])⟩
  refine .sl esz xs' _ _ w.heap.size 0 (fun i j => c.getD (i * esz + j) undef) (by omega) (fun _ => rfl) hall' ?_ ?_ ?_
  · intro i l' j v' hi hj
    obtain ⟨v, h4, _⟩ := hget i l' j v' hi hj
    rw [cellAt_mput, Nat.zero_add]; exact (hcl _ v h4).1
  · intro i l' j v' hi hj
    obtain ⟨v, h4, _⟩ := hget i l' j v' hi hj
    exact (hcl _ v h4).2.1
  · intro i l' j v' hi hj
    obtain ⟨v, h4, h5⟩ := hget i l' j v' hi hj
    exact (nrm_sound h5 (hcl _ v h4).2.2).mono (mput_le hk.sr.fresh)

end
end Go.Proofs.YtoccgkgdhobmfaaDoor.Am

/- The abstract machine, part 13: equality of values. -/
set_option linter.unusedVariables false
set_option linter.unusedSimpArgs false
namespace Go.Proofs.YtoccgkgdhobmfaaDoor.Am
open Go

section
variable {P : Program} {M : Mem} {β : Names} {N : Nat} {Lb : Nat → Prop} {w0 w : World} {o : Hp} {ks : List Nat} {e : Env} {a : Go.Act} {G : Nat → Option (List V)}

/-- The kinds of a type's cells, if it is one of scalars. -/
def eqFs (f : TypeId → Option (List Nat)) : List Field → Nat → Option (List Nat)
  | [], _ => some []
  | x :: r, n => match f x.type with
    | some l => if x.offset = n ∧ x.name ≠ "_" then (eqFs f r (n + l.length)).map (l ++ ·) else none
    | none => none
def scT (P : Program) (t : TypeId) : Option Nat := match P.underlying t with
  | some .bool => some 0
  | some (.int _) => some 1
  | some .string => some 2
  | _ => none
def eqT (P : Program) : Nat → TypeId → Option (List Nat)
  | 0, _ => none
  | d + 1, t => match P.underlying t with
    | some (.struct fs) => if P.stoodInHeld t then none else match eqFs (eqT P d) fs.toList 0 with
      | some l => if tsize P t l.length then some l else none
      | none => none
    | some (.array k el) => match eqT P d el with
      | some l => if tsize P el l.length && tsize P t (k * l.length) then some (List.replicate k l).flatten else none
      | none => none
    | _ => match scT P t with
      | some k => if tsize P t 1 then some [k] else none
      | none => none

theorem eqCells_append : ∀ {ks as cs js bs ds : List _} {b : Bool}, ks.length = as.length → ks.length = cs.length → eqCells (ks ++ js) (as ++ bs) (cs ++ ds) = some b →
    ∃ b1 b2, eqCells ks as cs = some b1 ∧ eqCells js bs ds = some b2 ∧ b = (b1 && b2) := by
  intro ks
  induction ks with
  | nil => intro as cs js bs ds b h1 h2 h; cases as with | nil => (cases cs with | nil => exact ⟨true, b, rfl, h, by simp⟩ | cons c cs => simp at h2) | cons c cs => simp at h1
  | cons k ks ih =>
    intro as cs js bs ds b h1 h2 h
    cases as with
    | nil => simp at h1
    | cons a as =>
    cases cs with
    | nil => simp at h2
    | cons c cs =>
      simp only [List.cons_append, eqCells] at h
      cases hx : eqK k a c with
      | none => rw [hx] at h; cases h
      | some x =>
        rw [hx] at h
        simp only [Option.bind_some] at h
        cases hr : eqCells (ks ++ js) (as ++ bs) (cs ++ ds) with
        | none => rw [hr] at h; cases h
        | some y =>
          rw [hr] at h; cases h
          obtain ⟨b1, b2, h3, h4, rfl⟩ := ih (by simpa using h1) (by simpa using h2) hr
          exact ⟨x && b1, b2, by simp [eqCells, hx, h3], h4, by rw [Bool.and_assoc]⟩

theorem eqCells_len : ∀ {ks : List Nat} {as bs : List V} {b : Bool}, eqCells ks as bs = some b → as.length = ks.length ∧ bs.length = ks.length := by
  intro ks
  induction ks with
  | nil => intro as bs b h; cases as with | nil => (cases bs with | nil => exact ⟨rfl, rfl⟩ | cons c cs => cases h) | cons c cs => cases h
  | cons k ks ih =>
    intro as bs b h
    cases as with
    | nil => cases h
    | cons a as =>
    cases bs with
    | nil => cases h
    | cons c cs =>
      simp only [eqCells] at h
      cases hx : eqK k a c with
      | none => rw [hx] at h; cases h
      | some x =>
        rw [hx] at h
        simp only [Option.bind_some] at h
        cases hr : eqCells ks as cs with
        | none => rw [hr] at h; cases h
        | some y => have := ih hr; simp [this.1, this.2]

theorem eqStr {t : TypeId} {d : Nat} (s1 s2 : List UInt8) (h : P.underlying t = some .string) : (Op.equalIn (d + 1) t (.string ⟨s1.toArray⟩) (.string ⟨s2.toArray⟩)).run P w = .ok (s1 == s2) w := by
  have := run_equalIn_string (P := P) w d t ⟨s1.toArray⟩ ⟨s2.toArray⟩ h
  rw [bytesToList, bytesToList] at this; exact this

theorem eqK_run {t : TypeId} {k : Nat} (ht : scT P t = some k) {a b : V} {x y : Value} {r : Bool} (h : eqK k a b = some r) (ha : Rel M β a x) (hb : Rel M β b y) (d : Nat) : (Op.equalIn (d + 1) t x y).run P w = .ok r w := by
  unfold eqK at h
  split at h
  · rw [ha.bool_inv, hb.bool_inv]
    cases h
    unfold scT at ht
    split at ht <;> first | (cases ht; done) | (exact run_equalIn_bool' w d t _ _ (by assumption))
  · split at h
    · rename_i hk; subst hk
      rw [ha.int_inv, hb.int_inv]
      cases h
      unfold scT at ht
      split at ht <;> first | (cases ht; done) | (exact run_equalIn_int w d t _ _ _ _ (by assumption))
    · cases h
  · rw [ha.str_inv, hb.str_inv]
    cases h
    unfold scT at ht
    split at ht <;> first | (cases ht; done) | (exact eqStr _ _ (by assumption))
  · cases h

/-- The model's value of so many cells. -/
def ofCells (P : Program) (t : TypeId) (xs : List Value) : Value := if tagg P t then .agg xs.toArray else xs.headD undef

theorem part_cells {t : TypeId} {n off : Nat} {xs : List Value} (hs : tsize P t n = true) (h1 : tagg P t = false → n = 1) (hso : tsome P t = true) (hl : off + n ≤ xs.length) :
    (part t xs.toArray off).run P w = .ok (ofCells P t ((xs.drop off).take n)) w := by
  unfold ofCells
  cases hag : tagg P t with
  | true =>
    have hx : xs.toArray.extract off (off + n) = ((xs.drop off).take n).toArray := by
      apply Array.ext'
      simp [List.extract_eq_take_drop]
    simp only [part, Sem.run_bind, tagg_run hag, Result.andThen_ok, if_true, tsize_run hs, Sem.run_pure, hx]
  | false =>
    have hn := h1 hag
    subst hn
    have hlt : off < xs.length := by omega
    have h2 : (xs.drop off).take 1 = [xs[off]] := by
      rw [List.drop_eq_getElem_cons hlt, List.take_succ_cons, List.take_zero]
    simp only [part, Sem.run_bind, tagg_run' hag hso, Result.andThen_ok, Bool.false_eq_true, if_false, h2]
    simp [hlt]

theorem scT_facts {t : TypeId} {k : Nat} (h : scT P t = some k) : tagg P t = false ∧ tsome P t = true := by
  unfold scT at h
  unfold tagg tsome
  split at h <;> first | (cases h; done) | (rename_i hu; rw [hu]; exact ⟨rfl, rfl⟩)

/-- What is asked of a type's own equality. -/
def EqOk (P : Program) (t : TypeId) (ks : List Nat) (d : Nat) : Prop :=
  (tagg P t = false → ks.length = 1) ∧ tsome P t = true ∧ ∀ (M : Mem) (β : Names) (w : World) (as bs : List V) (xs ys : List Value) (b : Bool), RelL M β as xs → RelL M β bs ys → eqCells ks as bs = some b → ∀ D, (Op.equalIn (d + D) t (ofCells P t xs) (ofCells P t ys)).run P w = .ok b w

theorem eqFields_run {d : Nat} (ih : ∀ t ks, eqT P d t = some ks → EqOk P t ks d) (hsz : ∀ t ks, eqT P d t = some ks → tsize P t ks.length = true) {M : Mem} {β : Names} {w : World} (D : Nat) : ∀ (fs : List Field) (off : Nat) (ks : List Nat) (as bs : List V) (xs ys : List Value) (b : Bool),
    eqFs (eqT P d) fs off = some ks → RelL M β (as.drop off) (xs.drop off) → RelL M β (bs.drop off) (ys.drop off) → as.length = off + ks.length → bs.length = off + ks.length → xs.length = as.length → ys.length = bs.length → eqCells ks (as.drop off) (bs.drop off) = some b →
    (Op.eqFields (d + D) xs.toArray ys.toArray fs).run P w = .ok b w := by
  intro fs
  induction fs with
  | nil =>
    intro off ks as bs xs ys b hf hx hy hla hlb hlx hly hb
    cases hf
    have h1 : as.drop off = [] := List.drop_eq_nil_of_le (by simp at hla; omega)
    have h2 : bs.drop off = [] := List.drop_eq_nil_of_le (by simp at hlb; omega)
    rw [h1, h2] at hb
    cases hb
    simp [Op.eqFields]
  | cons f fs ihf =>
    intro off ks as bs xs ys b hf hx hy hla hlb hlx hly hb
    simp only [eqFs] at hf
    cases hft : eqT P d f.type with
    | none => rw [hft] at hf; cases hf
    | some l =>
      rw [hft] at hf
      simp only at hf
      split at hf
      · rename_i hc
        obtain ⟨rfl, hname⟩ := hc
        cases hr : eqFs (eqT P d) fs (f.offset + l.length) with
        | none => rw [hr] at hf; cases hf
        | some js =>
          rw [hr] at hf; cases hf
          simp only [List.length_append] at hla hlb
          have ha1 : as.drop f.offset = (as.drop f.offset).take l.length ++ as.drop (f.offset + l.length) := by
            rw [← List.drop_drop, List.take_append_drop]
          have hb1 : bs.drop f.offset = (bs.drop f.offset).take l.length ++ bs.drop (f.offset + l.length) := by
            rw [← List.drop_drop, List.take_append_drop]
          rw [ha1, hb1] at hb
          obtain ⟨b1, b2, h1, h2, rfl⟩ := eqCells_append (by simp; omega) (by simp; omega) hb
          obtain ⟨hk1, hk2, hk3⟩ := ih f.type l hft
          have hs := hsz f.type l hft
          have hp1 := part_cells (P := P) (w := w) (off := f.offset) (xs := xs) hs hk1 hk2 (by omega)
          have hp2 := part_cells (P := P) (w := w) (off := f.offset) (xs := ys) hs hk1 hk2 (by omega)
          have heq := hk3 M β w _ _ _ _ b1 (hx.take l.length) (hy.take l.length) h1 D
          have hrest := ihf (f.offset + l.length) js as bs xs ys b2 hr (by have := hx.drop l.length; rwa [List.drop_drop, List.drop_drop] at this) (by have := hy.drop l.length; rwa [List.drop_drop, List.drop_drop] at this) (by omega) (by omega) hlx hly h2
          simp only [Op.eqFields]
          rw [if_pos hname]
          simp only [Sem.run_bind, hp1, hp2, Result.andThen_ok, heq]
          cases b1
          · simp
          · simpa using hrest
      · cases hf

theorem eqItems_run {d : Nat} {el : TypeId} {l : List Nat} (ih : EqOk P el l d) (hs : tsize P el l.length = true) {M : Mem} {β : Names} {w : World} (D : Nat) : ∀ (n i : Nat) (as bs : List V) (xs ys : List Value) (b : Bool),
    RelL M β (as.drop (i * l.length)) (xs.drop (i * l.length)) → RelL M β (bs.drop (i * l.length)) (ys.drop (i * l.length)) → as.length = (i + n) * l.length → bs.length = (i + n) * l.length → xs.length = as.length → ys.length = bs.length →
    eqCells (List.replicate n l).flatten (as.drop (i * l.length)) (bs.drop (i * l.length)) = some b →
    (Op.eqItems (d + D) el l.length xs.toArray ys.toArray (List.range' i n)).run P w = .ok b w := by
  intro n
  induction n with
  | zero =>
    intro i as bs xs ys b hx hy hla hlb hlx hly hb
    have h1 : as.drop (i * l.length) = [] := List.drop_eq_nil_of_le (by simp at hla; omega)
    have h2 : bs.drop (i * l.length) = [] := List.drop_eq_nil_of_le (by simp at hlb; omega)
    rw [h1, h2] at hb
    cases hb
    simp [Op.eqItems]
  | succ n ihn =>
    intro i as bs xs ys b hx hy hla hlb hlx hly hb
    have hmul : (i + (n + 1)) * l.length = i * l.length + l.length + n * l.length := by rw [Nat.add_mul, Nat.add_mul]; omega
    have hmul2 : (i + 1) * l.length = i * l.length + l.length := by rw [Nat.add_mul]; omega
    have ha1 : as.drop (i * l.length) = (as.drop (i * l.length)).take l.length ++ as.drop ((i + 1) * l.length) := by
      rw [hmul2, ← List.drop_drop, List.take_append_drop]
    have hb1 : bs.drop (i * l.length) = (bs.drop (i * l.length)).take l.length ++ bs.drop ((i + 1) * l.length) := by
      rw [hmul2, ← List.drop_drop, List.take_append_drop]
    rw [ha1, hb1, List.replicate_succ, List.flatten_cons] at hb
    obtain ⟨b1, b2, h1, h2, rfl⟩ := eqCells_append (by simp; omega) (by simp; omega) hb
    obtain ⟨hk1, hk2, hk3⟩ := ih
    have hp1 := part_cells (P := P) (w := w) (off := i * l.length) (xs := xs) hs hk1 hk2 (by omega)
    have hp2 := part_cells (P := P) (w := w) (off := i * l.length) (xs := ys) hs hk1 hk2 (by omega)
    have heq := hk3 M β w _ _ _ _ b1 (hx.take l.length) (hy.take l.length) h1 D
    have hrest := ihn (i + 1) as bs xs ys b2 (by have := hx.drop l.length; rwa [List.drop_drop, List.drop_drop, ← hmul2] at this) (by have := hy.drop l.length; rwa [List.drop_drop, List.drop_drop, ← hmul2] at this) (by rw [hla, hmul, Nat.add_mul, Nat.add_mul]; omega) (by rw [hlb, hmul, Nat.add_mul, Nat.add_mul]; omega) hlx hly h2
    simp only [List.range'_succ, Op.eqItems, Sem.run_bind, hp1, hp2, Result.andThen_ok, heq]
    cases b1
    · simp
    · simpa using hrest

theorem eqT_size : ∀ (d : Nat) (t : TypeId) (ks : List Nat), eqT P d t = some ks → tsize P t ks.length = true := by
  intro d t ks h
  cases d with
  | zero => cases h
  | succ d =>
    simp only [eqT] at h
    split at h
    · split at h
      · cases h
      · split at h
        · split at h
          · cases h; assumption
          · cases h
        · cases h
    · rename_i k el hu
      split at h
      · split at h
        · rename_i hc
          cases h
          simp only [Bool.and_eq_true] at hc
          simpa using hc.2
        · cases h
      · cases h
    · split at h
      · split at h
        · cases h; assumption
        · cases h
      · cases h

theorem eqT_ok : ∀ (d : Nat) (t : TypeId) (ks : List Nat), eqT P d t = some ks → EqOk P t ks d := by
  intro d
  induction d with
  | zero => intro t ks h; cases h
  | succ d ih =>
    intro t ks h
    simp only [eqT] at h
    split at h
    · rename_i fs hu
      split at h
      · cases h
      · rename_i hst
        split at h
        · rename_i l hl
          split at h
          · rename_i hsz
            cases h
            have hag : tagg P t = true := by unfold tagg; rw [hu]
            refine ⟨fun hh => (by rw [hag] at hh; cases hh), (by unfold tsome; rw [hu]; rfl), ?_⟩
            intro M β w as bs xs ys b hx hy hb D
            obtain ⟨h1, h2⟩ := eqCells_len hb
            have hf : P.fieldsOf t = fs := by unfold Program.fieldsOf; rw [hu]
            have := eqFields_run (P := P) (ih := ih) (hsz := fun t ks h => eqT_size d t ks h) (M := M) (β := β) (w := w) D fs.toList 0 _ as bs xs ys b hl (by simpa using hx) (by simpa using hy) (by omega) (by omega) hx.1.symm hy.1.symm (by simpa using hb)
            simp only [ofCells, hag, if_true]
            have hd : d + 1 + D = (d + D) + 1 := by omega
            rw [hd, run_equalIn_struct w (d + D) t xs.toArray ys.toArray (by rw [hf]; exact hu) (by simpa using hst), hf]
            exact this
          · cases h
        · cases h
    · rename_i k el hu
      split at h
      · rename_i l hl
        split at h
        · rename_i hc
          cases h
          simp only [Bool.and_eq_true] at hc
          have hag : tagg P t = true := by unfold tagg; rw [hu]
          refine ⟨fun hh => (by rw [hag] at hh; cases hh), (by unfold tsome; rw [hu]; rfl), ?_⟩
          intro M β w as bs xs ys b hx hy hb D
          obtain ⟨h1, h2⟩ := eqCells_len hb
          have hlen : (List.replicate k l).flatten.length = (0 + k) * l.length := by simp
          have := eqItems_run (P := P) (ih := ih el l hl) (hs := hc.1) (M := M) (β := β) (w := w) D k 0 as bs xs ys b (by simpa using hx) (by simpa using hy) (by omega) (by omega) hx.1.symm hy.1.symm (by simpa using hb)
          simp only [ofCells, hag, if_true]
          have hd : d + 1 + D = (d + D) + 1 := by omega
          have hsz := hc.1
          unfold tsize at hsz
          split at hsz
          · rename_i inf hinf
            simp only [beq_iff_eq] at hsz
            have hco : P.cellsOf el = l.length := by simp [Program.cellsOf, hinf, hsz]
            rw [hd, run_equalIn_array w (d + D) xs.toArray ys.toArray hu hinf, hco, List.range_eq_range']
            exact this
          · cases hsz
        · cases h
      · cases h
    · split at h
      · rename_i k hk
        split at h
        · cases h
          obtain ⟨hag, hso⟩ := scT_facts hk
          refine ⟨fun _ => rfl, hso, ?_⟩
          intro M β w as bs xs ys b hx hy hb D
          obtain ⟨h1, h2⟩ := eqCells_len hb
          have h1' : xs.length = 1 := by rw [← hx.1, h1]; rfl
          have h2' : ys.length = 1 := by rw [← hy.1, h2]; rfl
          match as, bs, xs, ys, h1, h2, h1', h2', hx, hy, hb with
          | [a], [c], [x], [y], _, _, _, _, hx, hy, hb =>
            simp only [eqCells] at hb
            cases he : eqK k a c with
            | none => rw [he] at hb; cases hb
            | some r =>
              rw [he] at hb
              simp at hb
              subst hb
              simp only [ofCells, hag, Bool.false_eq_true, if_false, List.headD_cons]
              have hd : d + 1 + D = (d + D) + 1 := by omega
              rw [hd]
              exact eqK_run hk he (hx.2.1 0 a x rfl rfl) (hy.2.1 0 c y rfl rfl) _
        · cases h
      · cases h

def eqOp : Go.Op → Bool → Option (TypeId × Operand × Operand)
  | .binOp .eql t x y _, false => some (t, x, y)
  | .binOp .neq t x y _, true => some (t, x, y)
  | _, _ => none
def chkEqv (P : Program) (op : Go.Op) (neg : Bool) (ks : List Nat) (x y : Arg) : Bool := match eqOp op neg with
  | some (t, x', y') => chkA x' x && chkA y' y && eqT P 20 t == some ks && !P.eqGuardType P.depth t && tagg P t
  | none => false
def chkEqb (P : Program) (op : Go.Op) (neg : Bool) (x y : Arg) : Bool := match eqOp op neg with
  | some (t, x', y') => chkA x' x && chkA y' y && (match P.underlying t with | some .bool => true | _ => false)
  | none => false
def chkEqp (P : Program) (op : Go.Op) (neg : Bool) (x y : Arg) : Bool := match eqOp op neg with
  | some (t, x', y') => chkA x' x && chkA y' y && (match P.underlying t with | some (.pointer _) => true | _ => false)
  | none => false

theorem eqOp_some {op : Go.Op} {neg : Bool} {t : TypeId} {x y : Operand} (h : eqOp op neg = some (t, x, y)) : ∃ yt, op = .binOp (if neg then .neq else .eql) t x y yt := by
  unfold eqOp at h
  split at h
  · cases h; exact ⟨_, rfl⟩
  · cases h; exact ⟨_, rfl⟩
  · cases h

theorem snd_eqv {p : Oper} {neg : Bool} {ks' : List Nat} {x y : Arg} {as bs : List V} {b : Bool} (hc : chkEqv P p.op neg ks' x y = true) (hx : evA G e x = .agg as) (hy : evA G e y = .agg bs) (hb : eqCells ks' as bs = some b)
    (hk : Ok M β N Lb w0 o w) (he : EnvR M β e a) (hg : GOK M G) : Gd M β N Lb w0 ks o (.bool (if neg then !b else b)) ((execOp a.eval p).run P w) := by
  unfold chkEqv at hc
  split at hc
  · rename_i t x' y' hop
    simp only [Bool.and_eq_true, beq_iff_eq, Bool.not_eq_true'] at hc
    obtain ⟨⟨⟨⟨h1, h2⟩, h3⟩, h4⟩, h5⟩ := hc
    obtain ⟨yt, hop'⟩ := eqOp_some hop
    have hx1 := evA_sound h1 he hg
    have hy1 := evA_sound h2 he hg
    rw [hx] at hx1; rw [hy] at hy1
    have hxc := hx1.cells rfl
    have hyc := hy1.cells rfl
    obtain ⟨xs, hxe, _⟩ := hx1.agg_inv
    obtain ⟨ys, hye, _⟩ := hy1.agg_inv
    obtain ⟨_, _, h6⟩ := eqT_ok 20 t ks' h3
    have h7 := h6 M β w as bs _ _ b hxc hyc hb 9980
    rw [hxe, hye] at h7
    simp only [ofCells, h5, if_true, Value.cells] at h7
    have h8 : (Op.equalIn 10000 t (.agg xs) (.agg ys)).run P w = .ok b w := by simpa using h7
    have hge := run_eqGuard_agg (P := P) w (if neg then .neq else .eql) t x' y' xs ys h4
    refine .pure hk ?_ (.pure (.bool _))
    cases neg
    · have := run_eql_struct (P := P) w t xs ys
      rw [h8] at this
      simp only [Bool.false_eq_true, if_false] at hge hop' ⊢
      simp only [execOp, hop', hxe, hye, Sem.run_bind, hge, Result.andThen_ok, this, Sem.run_pure]
    · have := run_neq_struct (P := P) w t xs ys
      rw [h8] at this
      simp only [if_true] at hge hop' ⊢
      simp only [execOp, hop', hxe, hye, Sem.run_bind, hge, Result.andThen_ok, this, Sem.run_pure]
  · cases hc

theorem snd_eqb {p : Oper} {neg : Bool} {x y : Arg} {r s : Bool} (hc : chkEqb P p.op neg x y = true) (hx : evA G e x = .bool r) (hy : evA G e y = .bool s)
    (hk : Ok M β N Lb w0 o w) (he : EnvR M β e a) (hg : GOK M G) : Gd M β N Lb w0 ks o (.bool (if neg then !(r == s) else (r == s))) ((execOp a.eval p).run P w) := by
  unfold chkEqb at hc
  split at hc
  · rename_i t x' y' hop
    simp only [Bool.and_eq_true] at hc
    obtain ⟨⟨h1, h2⟩, h3⟩ := hc
    obtain ⟨yt, hop'⟩ := eqOp_some hop
    have hx1 := evA_sound h1 he hg
    have hy1 := evA_sound h2 he hg
    rw [hx] at hx1; rw [hy] at hy1
    split at h3
    · rename_i hu
      have hge : ∀ op, (eqGuard op t x' y' (.bool r) (.bool s)).run P w = .ok () w := by intro op; unfold eqGuard; cases op <;> rfl
      have hq : (Op.equal t (.bool r) (.bool s)).run P w = .ok (r == s) w := run_equal_bool w t r s hu
      refine .pure hk ?_ (.pure (.bool _))
      cases neg
      · simp only [Bool.false_eq_true, if_false] at hop' ⊢
        simp only [execOp, hop', hx1.bool_inv, hy1.bool_inv, Sem.run_bind, hge, Result.andThen_ok, binOp, hq, Sem.run_pure]
      · simp only [if_true] at hop' ⊢
        simp only [execOp, hop', hx1.bool_inv, hy1.bool_inv, Sem.run_bind, hge, Result.andThen_ok, binOp, hq, Sem.run_pure]
    · cases h3
  · cases hc

theorem snd_eqp {p : Oper} {neg : Bool} {x y : Arg} {b : Bool} (hc : chkEqp P p.op neg x y = true) (hb : eqP (evA G e x) (evA G e y) = some b)
    (hk : Ok M β N Lb w0 o w) (he : EnvR M β e a) (hg : GOK M G) : Gd M β N Lb w0 ks o (.bool (if neg then !b else b)) ((execOp a.eval p).run P w) := by
  unfold chkEqp at hc
  split at hc
  · rename_i t x' y' hop
    simp only [Bool.and_eq_true] at hc
    obtain ⟨⟨h1, h2⟩, h3⟩ := hc
    obtain ⟨yt, hop'⟩ := eqOp_some hop
    have hx1 := evA_sound h1 he hg
    have hy1 := evA_sound h2 he hg
    generalize evA G e x = u at *
    generalize evA G e y = v at *
    split at h3
    · rename_i el hu
      have key : ∃ p q, a.eval x' = .pointer p ∧ a.eval y' = .pointer q ∧ (p = none ∧ b = q.isNone ∨ q = none ∧ b = p.isNone) := by
        unfold eqP at hb
        split at hb <;> cases hb
        · exact ⟨none, none, hx1.nilp_inv, hy1.nilp_inv, .inl ⟨rfl, rfl⟩⟩
        · obtain ⟨k, _, h⟩ := hy1.ptr_inv; exact ⟨none, _, hx1.nilp_inv, h, .inl ⟨rfl, rfl⟩⟩
        · obtain ⟨k, _, h⟩ := hx1.ptr_inv; exact ⟨_, none, h, hy1.nilp_inv, .inr ⟨rfl, rfl⟩⟩
        · have h := hy1.imp_inv; generalize a.eval y' = z at *; cases h; exact ⟨none, _, hx1.nilp_inv, rfl, .inl ⟨rfl, rfl⟩⟩
        · have h := hx1.imp_inv; generalize a.eval x' = z at *; cases h; exact ⟨_, none, rfl, hy1.nilp_inv, .inr ⟨rfl, rfl⟩⟩
        · obtain ⟨k, _, h⟩ := hy1.ept_inv; exact ⟨none, _, hx1.nilp_inv, h, .inl ⟨rfl, rfl⟩⟩
        · obtain ⟨k, _, h⟩ := hx1.ept_inv; exact ⟨_, none, h, hy1.nilp_inv, .inr ⟨rfl, rfl⟩⟩
      obtain ⟨pp, q, hp, hq, hpq⟩ := key
      have hge : ∀ op, (eqGuard op t x' y' (.pointer pp) (.pointer q)).run P w = .ok () w := by intro op; unfold eqGuard; cases op <;> rfl
      have heq : (Op.equal t (.pointer pp) (.pointer q)).run P w = .ok b w := by
        have h1 : ∀ d q, (Op.equalIn (d + 1) t (.pointer none) (.pointer q)).run P w = .ok q.isNone w := by intro d q; simp [Op.equalIn, run_underlying hu]
        have h2 : ∀ d q, (Op.equalIn (d + 1) t (.pointer q) (.pointer none)).run P w = .ok q.isNone w := by intro d q; cases q <;> simp [Op.equalIn, run_underlying hu]
        rcases hpq with ⟨rfl, rfl⟩ | ⟨rfl, rfl⟩
        · exact h1 9999 q
        · exact h2 9999 pp
      refine .pure hk ?_ (.pure (.bool _))
      cases neg
      · simp only [Bool.false_eq_true, if_false] at hop' ⊢
        simp only [execOp, hop', hp, hq, Sem.run_bind, hge, Result.andThen_ok, binOp, heq, Sem.run_pure]
      · simp only [if_true] at hop' ⊢
        simp only [execOp, hop', hp, hq, Sem.run_bind, hge, Result.andThen_ok, binOp, heq, Sem.run_pure]
    · cases h3
  · cases hc
end
end Go.Proofs.YtoccgkgdhobmfaaDoor.Am

/- The abstract machine, part 14: every instruction but a call. -/
set_option linter.unusedVariables false
set_option linter.unusedSimpArgs false
namespace Go.Proofs.YtoccgkgdhobmfaaDoor.Am
open Go

def chkConvSl (P : Program) (op : Go.Op) (x : Arg) : Bool := match op with | .convert s d x' => s == d && isBytes P s && chkA x' x | _ => false

theorem freeze_wset {w : World} {b n : Nat} {c : Array Value} {ty : TypeId} {fr : Nat × Nat} (h : w.heap[b]? = some (.cells c ty fr)) :
    w.freeze ⟨b, n, none⟩ 1 = wset w b (.cells c ty (if fr.1 == fr.2 then (n, n + 1) else (min fr.1 n, max fr.2 (n + 1)))) := by
  have hlt := lt_of_some h
  have hx : w.heap[b] = .cells c ty fr := by simpa [Array.getElem?_eq_getElem hlt] using h
  unfold World.freeze wset
  rw [if_neg (by omega)]
  congr 1
  apply Array.ext
  · simp
  · intro i h1 h2
    simp only [Array.getElem_modify]
    rw [Array.getElem_setIfInBounds (by simpa using h2)]
    by_cases e : b = i
    · subst e; obtain ⟨lo, hi⟩ := fr; simp [hx]
    · simp only [e, if_false]

theorem snd_convSl {P : Program} {M : Mem} {β : Names} {N : Nat} {Lb : Nat → Prop} {w0 w : World} {o : Hp} {ks : List Nat} {e : Env} {a : Go.Act} {G : Nat → Option (List V)} {p : Oper} {x : Arg} {i st len s : Nat} {xs : List (List V)}
    (hc : chkConvSl P p.op x = true) (hx : evA G e x = .vsl i st len) (ho : o i = .vec s xs) (hlen : 0 < len) (hk : Ok M β N Lb w0 o w) (he : EnvR M β e a) (hg : GOK M G) :
    Gd M β N Lb w0 ks (hput o i (.vec s xs)) (.vsl i st len) ((execOp a.eval p).run P w) := by
  unfold chkConvSl at hc
  split at hc
  · rename_i src dst x' hop
    simp only [Bool.and_eq_true, beq_iff_eq] at hc
    obtain ⟨⟨rfl, hb⟩, hc⟩ := hc
    obtain ⟨el, hs, hel⟩ := isBytes_of hb
    have h1 := evA_sound hc he hg
    rw [hx] at h1
    obtain ⟨k, hk1, hh⟩ := hk.sr.live i (by rw [ho]; simp)
    rw [ho] at hh
    obtain ⟨w1, w2, w3, w4, c, ty, fr, b1, b2, b3, b4, b5⟩ := hh
    have hv : ∃ off cap, a.eval x' = .slice (some ⟨k.b, off, none⟩) len cap := by
      generalize a.eval x' = z at h1
      cases h1 with
      | pure h => cases h
      | vsl _ _ _ cap k' hk' hl hs => rw [hk1] at hk'; cases hk'; exact ⟨_, cap, rfl⟩
      | vslE _ _ cap a h => omega
    obtain ⟨off, cap, hev⟩ := hv
    have hsh : w.shape? k.b = some (ty, c.size) := by simp [World.shape?, b1]
    generalize hfr : (if fr.1 == fr.2 then (c.size, c.size + 1) else (min fr.1 c.size, max fr.2 (c.size + 1))) = fr'
    have hcl : Clear c fr' := by
      subst hfr
      unfold Clear at *
      split
      · exact .inr (Nat.le_refl _)
      · rename_i hne
        simp only [beq_iff_eq] at hne
        right
        show c.size ≤ min fr.1 c.size
        omega
    have hrun : (convert src src (a.eval x')).run P w = .ok (a.eval x') (wset w k.b (.cells c ty fr')) := by
      rw [hev]
      have hfz := freeze_wset (n := c.size) b1
      rw [hfr] at hfz
      simp only [convert, Sem.run_bind, run_underlying hs, run_underlying hel, Result.andThen_ok, beq_self_eq_true, markStringish, run_shape, hsh, run_freeze, hfz, Sem.run_pure]
    refine ⟨a.eval x', wset w k.b (.cells c ty fr'), M, β, .inl (by simp only [execOp, hop, Sem.run_bind, hrun, Result.andThen_ok, Sem.run_pure]), fun _ _ h => h, fun _ _ => rfl, fun _ _ h => h, fun _ _ h => .inl h,
      ⟨hk.sr.write hk1 (by rw [ho]; rfl) rfl ⟨w1, w2, w3, w4, c, ty, fr', ?_, hcl, b3, b4, b5⟩, hk.kp.wset _ _ w1⟩, h1⟩
    exact heap_wset_eq _ _ _ (lt_of_some b1)
  · cases hc

def allocK : I → List Nat
  | .alloc k _ | .box k _ | .lit k _ _ _ | .append k _ _ _ _ | .appendZ k _ _ _ _ _ | .make k _ _ _ _ _ => [k]
  | .call _ _ _ w => w.toList
  | _ => []

def chkI (P : Program) (p : Oper) : I → Bool
  | .mov x => chkMov p.op x
  | .pick c x y => chkPick p.op c x y
  | .alloc _ zero => chkAlloc P p.op zero
  | .box _ x => chkBox p.op x
  | .build zero parts => chkBuild P p.op zero parts
  | .lit _ esz zero parts => chkLit P p.op esz zero parts
  | .ilit esz zero parts => chkLit P p.op esz zero parts
  | .load agg x => chkLoad P p.op agg x
  | .store n x y => chkStore P p.op n x y
  | .nilCheck x => chkNil p.op x
  | .bin b x y => chkBin P p.op b x y
  | .eqv neg ks x y => chkEqv P p.op neg ks x y
  | .eqp neg x y => chkEqp P p.op neg x y
  | .eqb neg x y => chkEqb P p.op neg x y
  | .un u x => chkUn p.op u x
  | .convInt k x => chkConvInt P p.op k x
  | .convStr x => chkConvStr P p.op x
  | .convBytes x => chkConvBytes P p.op x
  | .convSl x => chkConvSl P p.op x
  | .arrPtr n x => chkArrPtr P p.op n x
  | .mkIface t x => chkIface P p.op t x
  | .mkFn f caps => chkFn p.op f caps
  | .sliceS x lo hi => chkSliceS P p.op x lo hi
  | .sliceL esz x lo hi => chkSliceL P p.op esz x lo hi
  | .sliceA n esz x lo hi => chkSliceA P p.op n esz x lo hi
  | .fieldAddr off x => chkFieldAddr P p.op off x
  | .field off agg x => chkField P p.op off agg x
  | .indexAddrA n esz x i => chkIndexA P p.op n esz x i
  | .indexAddrL esz x i => chkIndexL P p.op esz x i
  | .indexS x i => chkIndexS P p.op x i
  | .indexA n esz agg x i => chkIndexV P p.op n esz agg x i
  | .append _ esz ebytes s x => chkAppend P p.op esz ebytes s x
  | .appendZ _ _ _ _ _ _ => false
  | .copy esz d s => chkCopy P p.op esz d s
  | .len x => chkLen P p.op x
  | .lenS x => chkLenS P p.op x
  | .lenA n => chkLenA P p.op n
  | .cap0 x => chkCap P p.op x
  | .mmax xs => chkMax p.op xs
  | .mmin xs => chkMin p.op xs
  | .make _ _ _ _ _ _ => false
  | .extract x i => chkExtract p.op x i
  | .call _ _ _ _ => false
  | .panic _ => false

section
variable {P : Program} {M : Mem} {β : Names} {N : Nat} {Lb : Nat → Prop} {w0 w : World} {o : Hp} {ks : List Nat} {e : Env} {a : Go.Act} {G : Nat → Option (List V)}

theorem bind_some' {α β : Type} {x : Option α} {f : α → Option β} {b : β} (h : x.bind f = some b) : ∃ a, x = some a ∧ f a = some b := by
  cases x with
  | none => cases h
  | some a => exact ⟨a, rfl, h⟩
theorem map_some' {α β : Type} {x : Option α} {f : α → β} {b : β} (h : x.map f = some b) : ∃ a, x = some a ∧ f a = b := by
  cases x with
  | none => cases h
  | some a => cases h; exact ⟨a, rfl, rfl⟩

theorem stepI_sound {p : Oper} {i : I} {base : Nat} {act : Act} (hs : stepI G e o base i = some act) (hc : chkI P p i = true) (hk : Ok M β N Lb w0 o w) (he : EnvR M β e a) (hg : GOK M G)
    (hf : ∀ k ∈ allocK i, β (base + k) = none ∧ base + k < N ∧ base + k ∈ ks) : Gd M β N Lb w0 ks (hputs o act.ups) act.val ((execOp a.eval p).run P w) := by
  cases i with
  | mov x => cases hs; exact snd_mov hc hk he hg
  | pick c x y =>
    simp only [stepI] at hs
    split at hs
    · rename_i t ht; cases hs; exact snd_pick hc ht hk he hg
    · cases hs
  | alloc k zero =>
    cases hs
    obtain ⟨h1, h2, h3⟩ := hf k (by simp [allocK])
    exact snd_alloc hc hk h1 h2 h3
  | box k x =>
    simp only [stepI] at hs
    split at hs
    · rename_i hok; cases hs
      obtain ⟨h1, h2, h3⟩ := hf k (by simp [allocK])
      exact snd_box hc hok hk he hg h1 h2 h3
    · cases hs
  | build zero parts =>
    obtain ⟨u, h1, rfl⟩ := okV_some hs
    obtain ⟨cs, h2, rfl⟩ := map_some' h1
    exact snd_build hc h2 hk he hg
  | lit k esz zero parts =>
    obtain ⟨xs, h1, rfl⟩ := map_some' hs
    obtain ⟨g1, g2, g3⟩ := hf k (by simp [allocK])
    exact snd_lit hc h1 hk he hg g1 g2 g3
  | ilit esz zero parts =>
    obtain ⟨u, h1, rfl⟩ := okV_some hs
    obtain ⟨xs, h2, rfl⟩ := map_some' h1
    obtain ⟨ys, h3, h4⟩ := bind_some' h2
    exact snd_ilit hc h3 h4 hk he hg
  | load agg x =>
    obtain ⟨r, h1, h2⟩ := bind_some' hs
    obtain ⟨v, h3, rfl⟩ := map_some' h2
    exact snd_load hc h1 h3 hk he hg
  | store n x y =>
    simp only [stepI] at hs
    split at hs
    · rename_i hl
      obtain ⟨u, h1, rfl⟩ := map_some' hs
      exact snd_store hc hl.1 hl.2 h1 hk he hg
    · cases hs
  | nilCheck x =>
    simp only [stepI] at hs
    split at hs <;> (try cases hs)
    all_goals (rename_i h; exact snd_nil hc h trivial hk he hg)
  | bin b x y =>
    obtain ⟨u, h1, rfl⟩ := okV_some hs
    exact snd_bin hc h1 hk he hg
  | eqv neg ks' x y =>
    simp only [stepI] at hs
    split at hs
    · rename_i as bs hx hy
      obtain ⟨u, h1, rfl⟩ := okV_some hs
      obtain ⟨b, h2, rfl⟩ := map_some' h1
      exact snd_eqv hc hx hy h2 hk he hg
    · cases hs
  | eqp neg x y =>
    obtain ⟨u, h1, rfl⟩ := okV_some hs
    obtain ⟨b, h2, rfl⟩ := map_some' h1
    exact snd_eqp hc h2 hk he hg
  | eqb neg x y =>
    simp only [stepI] at hs
    split at hs
    · rename_i r s hx hy
      cases hs
      exact snd_eqb hc hx hy hk he hg
    · cases hs
  | un u x =>
    obtain ⟨v, h1, rfl⟩ := okV_some hs
    exact snd_un hc h1 hk he hg
  | convInt k x =>
    simp only [stepI] at hs
    split at hs
    · rename_i h; cases hs; exact snd_convInt hc h hk he hg
    · cases hs
  | convStr x =>
    simp only [stepI] at hs
    split at hs
    · cases hs
    · rename_i hns
      obtain ⟨r, h1, h2⟩ := bind_some' hs
      obtain ⟨s, h3, rfl⟩ := map_some' h2
      exact snd_convStr hc rfl (fun s h => hns (by rw [h]; rfl)) h1 h3 hk he hg
  | convBytes x =>
    simp only [stepI] at hs
    split at hs
    · rename_i s h; cases hs; exact snd_convBytes hc h hk he hg
    · cases hs
  | convSl x =>
    simp only [stepI] at hs
    split at hs
    · rename_i i st len h
      split at hs
      · rename_i s xs ho
        split at hs
        · rename_i hlen; cases hs; exact snd_convSl hc h ho hlen hk he hg
        · cases hs
      · cases hs
    · cases hs
  | arrPtr n x =>
    simp only [stepI] at hs
    split at hs
    · rename_i i off len s h
      split at hs
      · rename_i hn; cases hs; exact snd_arrPtr hc h hn.1 hn.2 hk he hg
      · cases hs
    · cases hs
  | mkIface t x => cases hs; exact snd_iface hc hk he hg
  | mkFn f caps => cases hs; exact snd_fn hc hk he hg
  | sliceS x lo hi =>
    simp only [stepI] at hs
    split at hs
    · rename_i s h
      obtain ⟨l, h1, hs⟩ := bind_some' hs
      obtain ⟨r, h2, hs⟩ := bind_some' hs
      split at hs
      · rename_i hb; cases hs; exact snd_sliceS hc h h1 h2 hb.1 hb.2 hk he hg
      · cases hs
    · cases hs
  | sliceL esz x lo hi =>
    obtain ⟨n, h1, hs⟩ := bind_some' hs
    obtain ⟨l, h2, hs⟩ := bind_some' hs
    obtain ⟨r, h3, hs⟩ := bind_some' hs
    obtain ⟨h4, h5⟩ := snd_sliceL (ks := ks) hc h1 h2 h3 hs hk he hg
    rw [h5]; exact h4
  | sliceA n esz x lo hi =>
    simp only [stepI] at hs
    split at hs
    · rename_i i off h
      obtain ⟨l, h1, hs⟩ := bind_some' hs
      obtain ⟨r, h2, hs⟩ := bind_some' hs
      split at hs
      · rename_i hb; cases hs; exact snd_sliceA hc h h1 h2 hb.1 hb.2 hk he hg
      · cases hs
    · cases hs
  | fieldAddr off x =>
    simp only [stepI] at hs
    split at hs <;> (try cases hs)
    all_goals (rename_i h; exact snd_fieldAddr hc (by rw [h]) hk he hg)
  | field off agg x =>
    simp only [stepI] at hs
    split at hs
    · rename_i cs h
      obtain ⟨v, h1, rfl⟩ := okV_some hs
      obtain ⟨l, h2, h3⟩ := bind_some' h1
      exact snd_field hc h h2 h3 hk he hg
    · cases hs
  | indexAddrA n esz x i =>
    obtain ⟨j, h1, hs⟩ := bind_some' hs
    split at hs
    · rename_i hlt
      split at hs <;> (try cases hs)
      all_goals (rename_i h; exact snd_indexAddrA hc h1 hlt (by rw [h]) hk he hg)
    · cases hs
  | indexAddrL esz x i =>
    obtain ⟨j, h1, hs⟩ := bind_some' hs
    obtain ⟨h4, h5⟩ := snd_indexAddrL (ks := ks) hc h1 hs hk he hg
    rw [h5]; exact h4
  | indexS x i =>
    obtain ⟨j, h1, hs⟩ := bind_some' hs
    split at hs
    · rename_i s h
      obtain ⟨b, h2, hs⟩ := bind_some' hs
      cases hs
      exact snd_indexS hc h1 h h2 hk he hg
    · cases hs
  | indexA n esz agg x i =>
    obtain ⟨j, h1, hs⟩ := bind_some' hs
    split at hs
    · rename_i cs h
      split at hs
      · rename_i hlt
        obtain ⟨v, h2, rfl⟩ := okV_some hs
        obtain ⟨l, h3, h4⟩ := bind_some' h2
        exact snd_indexV hc h1 h hlt h3 h4 hk he hg
      · cases hs
    · cases hs
  | append k esz ebytes s x =>
    obtain ⟨r, h1, hs⟩ := bind_some' hs
    obtain ⟨g1, g2, g3⟩ := hf k (by simp [allocK])
    exact snd_append hc h1 hs hk he hg g1 g2 g3
  | appendZ k esz ebytes zero s n => cases hc
  | copy esz d s =>
    obtain ⟨r, h1, hs⟩ := bind_some' hs
    split at hs
    · rename_i i off len t h
      split at hs
      · rename_i hc2
        split at hs
        · rename_i cs ho
          obtain ⟨c, h2, rfl⟩ := map_some' hs
          obtain ⟨rfl, _⟩ := hc2
          exact snd_copy hc h1 h ho h2 hk he hg
        · cases hs
      · cases hs
    · cases hs
  | len x =>
    obtain ⟨u, h1, rfl⟩ := okV_some hs
    obtain ⟨n, h2, rfl⟩ := map_some' h1
    exact snd_len hc h2 hk he hg
  | lenS x =>
    simp only [stepI] at hs
    split at hs
    · rename_i s h; cases hs; exact snd_lenS hc h hk he hg
    · cases hs
  | lenA n => cases hs; exact snd_lenA hc hk
  | cap0 x =>
    simp only [stepI] at hs
    split at hs
    · rename_i s h; cases hs; exact snd_cap hc h hk he hg
    · cases hs
  | mmax xs =>
    cases xs with
    | nil => cases hs
    | cons y ys =>
      obtain ⟨u, h1, rfl⟩ := okV_some hs
      exact snd_max hc h1 hk he hg
  | mmin xs =>
    cases xs with
    | nil => cases hs
    | cons y ys =>
      obtain ⟨u, h1, rfl⟩ := okV_some hs
      exact snd_min hc h1 hk he hg
  | make k esz ebytes zero len cap => cases hc
  | extract x i =>
    simp only [stepI] at hs
    split at hs
    · rename_i vs h
      obtain ⟨v, h1, rfl⟩ := okV_some hs
      exact snd_extract hc h h1 hk he hg
    · cases hs
  | call f args raw own => cases hc
  | panic x => cases hc
end
end Go.Proofs.YtoccgkgdhobmfaaDoor.Am
