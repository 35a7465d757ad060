/- The abstract machine, part 15: values that stand still from now on; which objects a value names. -/
import Derived.Test.YtoccgkgdhobmfaaDoorWb
import Derived.Orders
set_option linter.unusedVariables false
set_option linter.unusedSimpArgs false
namespace Go.Proofs.YtoccgkgdhobmfaaDoor.Am
open Go

theorem seqM_get {α β γ : Type} {f : α → Option (β × List γ)} : ∀ {l : List α} {r : List β × List γ}, seqM f l = some r →
    r.1.length = l.length ∧ (∀ (j : Nat) a, l[j]? = some a → ∃ q, f a = some q ∧ r.1[j]? = some q.1 ∧ ∀ y ∈ q.2, y ∈ r.2) ∧ ∀ y ∈ r.2, ∃ a q, a ∈ l ∧ f a = some q ∧ y ∈ q.2 := by
  intro l
  induction l with
  | nil => intro r h; cases h; exact ⟨rfl, by simp, by simp⟩
  | cons a l ih =>
    intro r h
    simp only [seqM] at h
    obtain ⟨q, h1, h2⟩ := bind_some' h
    obtain ⟨s, h3, rfl⟩ := map_some' h2
    obtain ⟨g1, g2, g3⟩ := ih h3
    refine ⟨by simp [g1], ?_, ?_⟩
    · intro j b hj
      cases j with
      | zero => simp at hj; subst hj; exact ⟨q, h1, by simp, fun y hy => List.mem_append_left _ hy⟩
      | succ j =>
        simp only [List.getElem?_cons_succ] at hj
        obtain ⟨q', e1, e2, e3⟩ := g2 j b hj
        exact ⟨q', e1, by simpa using e2, fun y hy => List.mem_append_right _ (e3 y hy)⟩
    · intro y hy
      rcases List.mem_append.1 hy with h | h
      · exact ⟨a, q, by simp, h1, h⟩
      · obtain ⟨b, q', e1, e2, e3⟩ := g3 y h
        exact ⟨b, q', by simp [e1], e2, e3⟩

section
variable {M M2 : Mem} {β : Names} {N : Nat} {Wr : Nat → Prop} {o : Hp} {w : World}

/-- What holds of an object that stands still from now on. -/
def Still (M2 : Mem) (β : Names) (w : World) (o : Hp) (i : Nat) (a : AObj) : Prop :=
  wrt (o i) = true ∧ wrt a = false ∧ a ≠ .dead ∧ ∃ k, β i = some k ∧ Holds M2 β (fun _ => False) w k a

theorem boxAt_frz {size : Nat} {cs cs' : List V} {ob : Option Obj} (h : BoxAt ob size (Rel M β) cs) (hl : cs'.length = cs.length)
    (hf : ∀ (j : Nat) v x, cs[j]? = some v → Rel M β v x → ∃ v', cs'[j]? = some v' ∧ PRel M2 v' x) : BoxAt ob size (PRel M2) cs' := by
  obtain ⟨c, ty, fr, hb, hc, hs, hle, hr⟩ := h
  refine ⟨c, ty, fr, hb, hc, hs, by omega, ?_⟩
  intro j v' hj
  have hlt : j < cs.length := by rw [← hl]; exact (List.getElem?_eq_some_iff.1 hj).1
  obtain ⟨x, h1, h2, h3⟩ := hr j cs[j] (List.getElem?_eq_getElem hlt)
  obtain ⟨v'', h4, h5⟩ := hf j _ x (List.getElem?_eq_getElem hlt) h3
  rw [hj] at h4; cases h4
  exact ⟨x, h1, h2, h5⟩

theorem flat_map_get {xs xs' : List (List V)} {e : Nat} (he : ∀ l ∈ xs, l.length = e) (hl : xs'.length = xs.length)
    (h : ∀ (i : Nat) l, xs[i]? = some l → ∃ l', xs'[i]? = some l' ∧ l'.length = l.length) : (∀ l ∈ xs', l.length = e) ∧ xs'.flatten.length = xs.flatten.length := by
  have h1 : ∀ l ∈ xs', l.length = e := by
    intro l hl'
    obtain ⟨i, hi⟩ := List.getElem?_of_mem hl'
    have hlt : i < xs.length := by rw [← hl]; exact (List.getElem?_eq_some_iff.1 hi).1
    obtain ⟨l', h2, h3⟩ := h i xs[i] (List.getElem?_eq_getElem hlt)
    rw [hi] at h2; cases h2
    rw [h3]; exact he _ (List.getElem_mem _)
  exact ⟨h1, by rw [flat_len h1, flat_len he, hl]⟩

/-- Stable cells that are named by a list of elements. -/
theorem prel_sl_of_box {e st len size : Nat} {xs : List (List V)} {b : Nat} {cap : Nat} {a : Option Addr} (h : BoxAt (M2 b) size (PRel M2) xs.flatten) (hall : ∀ l ∈ xs, l.length = e) (hst : st + len ≤ xs.length) (hcap : len ≤ cap) (ha : len ≠ 0 → a = some ⟨b, st * e, none⟩) :
    PRel M2 (.sl e ((xs.drop st).take len)) (.slice a len cap) := by
  obtain ⟨c, ty, fr, hb, hc, hs, hle, hr⟩ := h
  have hlen : ((xs.drop st).take len).length = len := by simp; omega
  have hget : ∀ (i : Nat) (l : List V), ((xs.drop st).take len)[i]? = some l → xs[st + i]? = some l := by
    intro i l hi
    rw [List.getElem?_take] at hi
    split at hi
    · rwa [List.getElem?_drop] at hi
    · cases hi
  have hcell : ∀ (i : Nat) (l : List V) (j : Nat) (v : V), ((xs.drop st).take len)[i]? = some l → l[j]? = some v → ∃ x, c[(st + i) * e + j]? = some x ∧ x.oneCell' = true ∧ PRel M2 v x := by
    intro i l j v hi hj
    exact hr _ v (flat_get hall (hget i l hi) hj)
  have := PRel.sl (M := M2) e ((xs.drop st).take len) a cap b (st * e) (fun i j => c.getD ((st + i) * e + j) undef) (by rw [hlen]; exact hcap)
    (fun hne => ha (by intro h0; subst h0; simp at hne))
    (fun i l hi => hall l (List.mem_of_getElem? (hget i l hi)))
    (fun i l j v hi hj => by
      obtain ⟨x, h1, _⟩ := hcell i l j v hi hj
      have h2 : st * e + (i * e + j) = (st + i) * e + j := by rw [Nat.add_mul]; omega
      simp only [cellAt, hb, h2, h1, getD_of_getElem? h1])
    (fun i l j v hi hj => by obtain ⟨x, h1, h2, _⟩ := hcell i l j v hi hj; rw [getD_of_getElem? h1]; exact h2)
    (fun i l j v hi hj => by obtain ⟨x, h1, _, h2⟩ := hcell i l j v hi hj; rw [getD_of_getElem? h1]; exact h2)
  rwa [hlen] at this

theorem prel_imp_of_box {size off : Nat} {cs : List V} {b : Nat} (h : BoxAt (M2 b) size (PRel M2) cs) : PRel M2 (.imp cs off) (.pointer (some ⟨b, off, none⟩)) := by
  obtain ⟨c, ty, fr, hb, hc, hs, hle, hr⟩ := h
  have := PRel.imp (M := M2) cs off b 0 (fun j => c.getD j undef)
    (fun j v hj => by obtain ⟨x, h1, _⟩ := hr j v hj; simp only [cellAt, hb, Nat.zero_add, h1, getD_of_getElem? h1])
    (fun j v hj => by obtain ⟨x, h1, h2, _⟩ := hr j v hj; rw [getD_of_getElem? h1]; exact h2)
    (fun j v hj => by obtain ⟨x, h1, _, h2⟩ := hr j v hj; rw [getD_of_getElem? h1]; exact h2)
  simpa using this

theorem PRel.slEmpty (M : Mem) (e : Nat) (a : Option Addr) (cap : Nat) : PRel M (.sl e []) (.slice a 0 cap) :=
  .sl e [] a cap 0 0 (fun _ _ => undef) (Nat.zero_le _) (fun h => absurd rfl h) (by simp) (by simp) (by simp) (by simp)

theorem cut_map {cs cs' l : List V} {off n : Nat} (h : cut off n cs = some l) (hl : cs'.length = cs.length) : ∃ l', cut off n cs' = some l' := by
  obtain ⟨h1, _⟩ := cut_some h
  exact ⟨_, by unfold cut; rw [if_pos (by omega)]⟩

/-- A value that is made to stand still. 'M2' has the blocks of the objects that are led to. -/
theorem frz_sound (hsr : SR M β N Wr o w) (hM : ∀ b y, M b = some y → M2 b = some y) : ∀ (n : Nat) (v : V) (r : V × List (Nat × AObj)) (x : Value), frz o n v = some r → Rel M β v x →
    (∀ i a, (i, a) ∈ r.2 → ∀ k, β i = some k → M2 k.b = w.heap[k.b]?) → PRel M2 r.1 x ∧ ∀ i a, (i, a) ∈ r.2 → Still M2 β w o i a := by
  intro n
  induction n with
  | zero => intro v r x h; cases h
  | succ n ih =>
    intro v r x h hr hm
    have hcells : ∀ {cs : List V} {q : List V × List (Nat × AObj)}, seqM (frz o n) cs = some q → (∀ i a, (i, a) ∈ q.2 → ∀ k, β i = some k → M2 k.b = w.heap[k.b]?) →
        (∀ (j : Nat) v x, cs[j]? = some v → Rel M β v x → ∃ v', q.1[j]? = some v' ∧ PRel M2 v' x) ∧ ((∃ xf : V → Value, ∀ v ∈ cs, Rel M β v (xf v)) → ∀ i a, (i, a) ∈ q.2 → Still M2 β w o i a) := by
      intro cs q hq hmq
      obtain ⟨g1, g2, g3⟩ := seqM_get hq
      refine ⟨?_, ?_⟩
      · intro j v x hj hv
        obtain ⟨s, e1, e2, e3⟩ := g2 j v hj
        exact ⟨s.1, e2, (ih v s x e1 hv fun i a hi => hmq i a (e3 _ hi)).1⟩
      · rintro ⟨xf, hxf⟩ i a hi
        obtain ⟨b, s, e1, e2, e3⟩ := g3 _ hi
        refine (ih b s (xf b) e2 (hxf b e1) fun i a hi' => ?_).2 i a e3
        obtain ⟨j, hj⟩ := List.getElem?_of_mem e1
        obtain ⟨s', f1, f2, f3⟩ := g2 j b hj
        rw [e2] at f1; cases f1
        exact hmq i a (f3 _ hi')
    have hex : ∀ {cs : List V}, (∀ v ∈ cs, ∃ x, Rel M β v x) → ∃ xf : V → Value, ∀ v ∈ cs, Rel M β v (xf v) := by
      intro cs hcs
      exact ⟨fun v => Classical.epsilon fun x => Rel M β v x, fun v hv => Classical.epsilon_spec (hcs v hv)⟩
    cases v with
    | int k m => cases h; rw [hr.int_inv]; exact ⟨.int _ _, by simp⟩
    | bool b => cases h; rw [hr.bool_inv]; exact ⟨.bool _, by simp⟩
    | str s => cases h; rw [hr.str_inv]; exact ⟨.str _, by simp⟩
    | nilp => cases h; rw [hr.nilp_inv]; exact ⟨.nilp, by simp⟩
    | nilf => cases h; rw [hr.nilf_inv]; exact ⟨.nilf, by simp⟩
    | nili => cases h; rw [hr.nili_inv]; exact ⟨.nili, by simp⟩
    | imp c off => cases h; exact ⟨hr.imp_inv.mono hM, by simp⟩
    | sl e xs => cases h; exact ⟨hr.sl_inv.mono hM, by simp⟩
    | nils e => cases h; rw [hr.nils_inv]; exact ⟨PRel.slEmpty _ _ _ _, by simp⟩
    | junk => cases h
    | ept i j off => cases h
    | own e xs => cases h
    | iface t u =>
      obtain ⟨q, h1, rfl⟩ := map_some' h
      obtain ⟨y, rfl, hy⟩ := hr.iface_inv
      obtain ⟨h2, h3⟩ := ih u q y h1 hy hm
      exact ⟨.iface _ _ _ h2, h3⟩
    | fn f caps =>
      obtain ⟨q, h1, rfl⟩ := map_some' h
      obtain ⟨xs, rfl, hl, hxs⟩ := hr.fn_inv
      obtain ⟨h2, h3⟩ := hcells h1 hm
      obtain ⟨g1, _, _⟩ := seqM_get h1
      refine ⟨.fn f q.1 xs (by rw [hl, g1]) ?_, h3 (hex ?_)⟩
      · intro j v hj
        have hlt : j < caps.length := by rw [← g1]; exact (List.getElem?_eq_some_iff.1 hj).1
        obtain ⟨v', e1, e2⟩ := h2 j caps[j] _ (List.getElem?_eq_getElem hlt) (hxs j _ (List.getElem?_eq_getElem hlt))
        rw [hj] at e1; cases e1; exact e2
      · intro v hv
        obtain ⟨j, hj⟩ := List.getElem?_of_mem hv
        exact ⟨_, hxs j v hj⟩
    | agg cs =>
      obtain ⟨q, h1, rfl⟩ := map_some' h
      obtain ⟨xs, rfl, hl, ho, hxs⟩ := hr.agg_inv
      obtain ⟨h2, h3⟩ := hcells h1 hm
      obtain ⟨g1, _, _⟩ := seqM_get h1
      refine ⟨.agg q.1 xs (by rw [hl, g1]) ?_ ?_, h3 (hex ?_)⟩
      · intro j v hj
        have hlt : j < cs.length := by rw [← g1]; exact (List.getElem?_eq_some_iff.1 hj).1
        exact ho j _ (List.getElem?_eq_getElem hlt)
      · intro j v hj
        have hlt : j < cs.length := by rw [← g1]; exact (List.getElem?_eq_some_iff.1 hj).1
        obtain ⟨v', e1, e2⟩ := h2 j cs[j] _ (List.getElem?_eq_getElem hlt) (hxs j _ (List.getElem?_eq_getElem hlt))
        rw [hj] at e1; cases e1; exact e2
      · intro v hv
        obtain ⟨j, hj⟩ := List.getElem?_of_mem hv
        exact ⟨_, hxs j v hj⟩
    | tup cs =>
      obtain ⟨q, h1, rfl⟩ := map_some' h
      obtain ⟨xs, rfl, hl, hxs⟩ := hr.tup_inv
      obtain ⟨h2, h3⟩ := hcells h1 hm
      obtain ⟨g1, _, _⟩ := seqM_get h1
      refine ⟨.tup q.1 xs (by rw [hl, g1]) ?_, h3 (hex ?_)⟩
      · intro j v hj
        have hlt : j < cs.length := by rw [← g1]; exact (List.getElem?_eq_some_iff.1 hj).1
        obtain ⟨v', e1, e2⟩ := h2 j cs[j] _ (List.getElem?_eq_getElem hlt) (hxs j _ (List.getElem?_eq_getElem hlt))
        rw [hj] at e1; cases e1; exact e2
      · intro v hv
        obtain ⟨j, hj⟩ := List.getElem?_of_mem hv
        exact ⟨_, hxs j v hj⟩
    | ptr i off =>
      obtain ⟨k, hβ, rfl⟩ := hr.ptr_inv
      simp only [frz] at h
      split at h
      · rename_i cs ho
        obtain ⟨q, h1, rfl⟩ := map_some' h
        obtain ⟨k', hk', hh⟩ := hsr.live i (by rw [ho]; simp)
        rw [hβ] at hk'; cases hk'
        rw [ho] at hh
        obtain ⟨hw1, hw2, hb⟩ := hh
        have hmk : M2 k.b = w.heap[k.b]? := hm i (.fbox q.1) (by simp) k hβ
        obtain ⟨h2, h3⟩ := hcells h1 (fun i a hi => hm i a (by simp [hi]))
        obtain ⟨g1, _, _⟩ := seqM_get h1
        have hbx : BoxAt (M2 k.b) k.size (PRel M2) q.1 := by rw [hmk]; exact boxAt_frz hb g1 h2
        refine ⟨prel_imp_of_box hbx, ?_⟩
        intro j a hj
        rcases List.mem_cons.1 hj with hj | hj
        · cases hj
          exact ⟨by rw [ho]; rfl, rfl, by simp, k, hβ, hbx⟩
        · refine h3 (hex ?_) j a hj
          intro v hv
          obtain ⟨j, hj⟩ := List.getElem?_of_mem hv
          obtain ⟨c, ty, fr, _, _, _, _, hrr⟩ := hb
          obtain ⟨x, _, _, hx⟩ := hrr j v hj
          exact ⟨x, hx⟩
      · rename_i cs ho
        cases h
        obtain ⟨k', hk', hh⟩ := hsr.live i (by rw [ho]; simp)
        rw [hβ] at hk'; cases hk'
        rw [ho] at hh
        exact ⟨prel_imp_of_box (hh.mono (fun x hx => hM _ x hx) (fun _ _ h => h.mono hM)), by simp⟩
      · cases h
    | vsl i st len =>
      simp only [frz] at h
      have hx : ∃ a cap, x = .slice a len cap ∧ len ≤ cap ∧ (len ≠ 0 → ∃ k, β i = some k ∧ a = some ⟨k.b, st * k.esz, none⟩) := by
        cases hr with
        | pure h => cases h
        | vsl _ _ _ cap k hk hl hs => exact ⟨_, cap, rfl, hl, fun _ => ⟨k, hk, rfl⟩⟩
        | vslE _ _ cap a hst => exact ⟨_, cap, rfl, by omega, fun h => absurd rfl h⟩
      obtain ⟨ad, cap, rfl, hcap, had⟩ := hx
      split at h
      · rename_i e xs ho
        split at h
        · rename_i hst
          obtain ⟨q, h1, rfl⟩ := map_some' h
          obtain ⟨k, hβ, hh⟩ := hsr.live i (by rw [ho]; simp)
          rw [ho] at hh
          obtain ⟨hw1, hw2, hes, hall, hb⟩ := hh
          have hmk : M2 k.b = w.heap[k.b]? := hm i (.fvec e q.1) (by simp) k hβ
          obtain ⟨g1, g2, g3⟩ := seqM_get h1
          have hmq : ∀ i a, (i, a) ∈ q.2 → ∀ k, β i = some k → M2 k.b = w.heap[k.b]? := fun i a hi => hm i a (by simp [hi])
          have hrel : ∀ l ∈ xs, ∀ v ∈ l, ∃ x, Rel M β v x := by
            intro l hl v hv
            obtain ⟨i', hi'⟩ := List.getElem?_of_mem hl
            obtain ⟨j, hj⟩ := List.getElem?_of_mem hv
            obtain ⟨c, ty, fr, _, _, _, _, hrr⟩ := hb
            obtain ⟨x, _, _, hx⟩ := hrr _ v (flat_get hall hi' hj)
            exact ⟨x, hx⟩
          obtain ⟨f1, f2⟩ := flat_map_get hall g1 (fun i l hi => by
            obtain ⟨s, e1, e2, e3⟩ := g2 i l hi
            exact ⟨s.1, e2, (seqM_get e1).1⟩)
          have hbx : BoxAt (M2 k.b) k.size (PRel M2) q.1.flatten := by
            rw [hmk]
            by_cases he0 : e = 0
            · have h0 : q.1.flatten = [] := List.eq_nil_of_length_eq_zero (by rw [flat_len f1, he0]; simp)
              rw [h0]
              obtain ⟨c, ty, fr, e1, e2, e3, _, _⟩ := hb
              exact ⟨c, ty, fr, e1, e2, e3, by simp, by simp⟩
            · refine boxAt_frz hb f2 ?_
              intro j v x hj hv
              obtain ⟨l, e1, e2, e3⟩ := flat_index (Nat.pos_of_ne_zero he0) hall hj
              obtain ⟨s, t1, t2, t3⟩ := g2 _ l e1
              obtain ⟨v', u1, u2⟩ := (hcells t1 (fun i a hi => hmq i a (t3 _ hi))).1 _ v x e2 hv
              refine ⟨v', ?_, u2⟩
              rw [← e3]; exact flat_get f1 t2 u1
          refine ⟨prel_sl_of_box hbx f1 (by rw [g1]; exact hst) hcap ?_, ?_⟩
          · intro h0
            obtain ⟨k', hk', hae⟩ := had h0
            rw [hβ] at hk'; cases hk'
            rw [hae, hes]
          · intro j a hj
            rcases List.mem_cons.1 hj with hj | hj
            · cases hj
              exact ⟨by rw [ho]; rfl, rfl, by simp, k, hβ, hes, f1, hbx⟩
            · obtain ⟨l, s, e1, e2, e3⟩ := g3 _ hj
              refine (hcells e2 ?_).2 (hex (hrel l e1)) j a e3
              intro i a hi
              obtain ⟨i', hi'⟩ := List.getElem?_of_mem e1
              obtain ⟨s', t1, t2, t3⟩ := g2 i' l hi'
              rw [e2] at t1; cases t1
              exact hmq i a (t3 _ hi)
        · cases h
      · rename_i e xs ho
        split at h
        · rename_i hst
          cases h
          obtain ⟨k, hβ, hh⟩ := hsr.live i (by rw [ho]; simp)
          rw [ho] at hh
          obtain ⟨hes, hall, hb⟩ := hh
          refine ⟨prel_sl_of_box (hb.mono (fun x hx => hM _ x hx) (fun _ _ h => h.mono hM)) hall hst hcap ?_, by simp⟩
          intro h0
          obtain ⟨k', hk', hae⟩ := had h0
          rw [hβ] at hk'; cases hk'
          rw [hae, hes]
        · cases h
      · cases h
    | bsl i off len e =>
      simp only [frz] at h
      have hx : ∃ a cap, x = .slice a len cap ∧ len ≤ cap ∧ (len ≠ 0 → ∃ k, β i = some k ∧ a = some ⟨k.b, off, none⟩) := by
        cases hr with
        | pure h => cases h
        | bsl _ _ _ _ cap k hk hl => exact ⟨_, cap, rfl, hl, fun _ => ⟨k, hk, rfl⟩⟩
        | bslE _ _ _ cap a => exact ⟨_, cap, rfl, by omega, fun h => absurd rfl h⟩
      obtain ⟨ad, cap, rfl, hcap, had⟩ := hx
      have fin : ∀ {cs l : List V} {k : Blk}, β i = some k → BoxAt (M2 k.b) k.size (PRel M2) cs → cut off (len * e) cs = some l → PRel M2 (.sl e (chunks e len l)) (.slice ad len cap) := by
        intro cs l k hβ hb hc
        obtain ⟨c1, rfl⟩ := cut_some hc
        obtain ⟨g1, g2, g3⟩ := chunks_flat (e := e) len ((cs.drop off).take (len * e)) (by simp; omega)
        obtain ⟨c, ty, fr, e1, e2, e3, e4, e5⟩ := hb
        have hcell : ∀ (i : Nat) (l : List V) (j : Nat) (v : V), (chunks e len ((cs.drop off).take (len * e)))[i]? = some l → l[j]? = some v → ∃ x, c[off + (i * e + j)]? = some x ∧ x.oneCell' = true ∧ PRel M2 v x := by
          intro i l j v hi hj
          have := flat_get g2 hi hj
          rw [g1, List.getElem?_take] at this
          split at this
          · rw [List.getElem?_drop] at this
            exact e5 _ v this
          · cases this
        have := PRel.sl (M := M2) e (chunks e len ((cs.drop off).take (len * e))) ad cap k.b off (fun i j => c.getD (off + (i * e + j)) undef) (by rw [g3]; exact hcap)
          (fun hne => by
            obtain ⟨k', hk', hae⟩ := had (by intro h0; subst h0; simp [chunks] at hne)
            rw [hβ] at hk'; cases hk'; exact hae)
          (fun i l hi => g2 l (List.mem_of_getElem? hi))
          (fun i l j v hi hj => by obtain ⟨x, h1, _⟩ := hcell i l j v hi hj; simp only [cellAt, e1, h1, getD_of_getElem? h1])
          (fun i l j v hi hj => by obtain ⟨x, h1, h2, _⟩ := hcell i l j v hi hj; rw [getD_of_getElem? h1]; exact h2)
          (fun i l j v hi hj => by obtain ⟨x, h1, _, h2⟩ := hcell i l j v hi hj; rw [getD_of_getElem? h1]; exact h2)
        rwa [g3] at this
      split at h
      · rename_i cs ho
        obtain ⟨q, h1, h⟩ := bind_some' h
        obtain ⟨l, h2, rfl⟩ := map_some' h
        obtain ⟨k, hβ, hh⟩ := hsr.live i (by rw [ho]; simp)
        rw [ho] at hh
        obtain ⟨hw1, hw2, hb⟩ := hh
        have hmk : M2 k.b = w.heap[k.b]? := hm i (.fbox q.1) (by simp) k hβ
        obtain ⟨h3, h4⟩ := hcells h1 (fun i a hi => hm i a (by simp [hi]))
        obtain ⟨g1, _, _⟩ := seqM_get h1
        have hbx : BoxAt (M2 k.b) k.size (PRel M2) q.1 := by rw [hmk]; exact boxAt_frz hb g1 h3
        refine ⟨fin hβ hbx h2, ?_⟩
        intro j a hj
        rcases List.mem_cons.1 hj with hj | hj
        · cases hj
          exact ⟨by rw [ho]; rfl, rfl, by simp, k, hβ, hbx⟩
        · refine h4 (hex ?_) j a hj
          intro v hv
          obtain ⟨j, hj⟩ := List.getElem?_of_mem hv
          obtain ⟨c, ty, fr, _, _, _, _, hrr⟩ := hb
          obtain ⟨x, _, _, hx⟩ := hrr j v hj
          exact ⟨x, hx⟩
      · rename_i cs ho
        obtain ⟨l, h2, rfl⟩ := map_some' h
        obtain ⟨k, hβ, hh⟩ := hsr.live i (by rw [ho]; simp)
        rw [ho] at hh
        exact ⟨fin hβ (hh.mono (fun x hx => hM _ x hx) (fun _ _ h => h.mono hM)) h2, by simp⟩
      · cases h
end
end Go.Proofs.YtoccgkgdhobmfaaDoor.Am

/- The abstract machine, part 16: marks, names, what a call is asked. -/
set_option linter.unusedVariables false
set_option linter.unusedSimpArgs false
namespace Go.Proofs.YtoccgkgdhobmfaaDoor.Am
open Go

theorem hputs_get : ∀ (u : List (Nat × AObj)) (o : Hp) (i : Nat), (i ∉ ids u ∧ hputs o u i = o i) ∨ ∃ a, (i, a) ∈ u ∧ hputs o u i = a := by
  intro u
  induction u with
  | nil => intro o i; exact .inl ⟨by simp [ids], rfl⟩
  | cons x r ih =>
    intro o i
    obtain ⟨j, a⟩ := x
    simp only [hputs]
    rcases ih (hput o j a) i with ⟨h1, h2⟩ | ⟨b, h1, h2⟩
    · by_cases hij : i = j
      · subst hij
        exact .inr ⟨a, by simp, by rw [h2]; simp [hput]⟩
      · exact .inl ⟨by simp [ids] at h1 ⊢; exact ⟨hij, h1⟩, by rw [h2]; simp [hput, hij]⟩
    · exact .inr ⟨b, by simp [h1], h2⟩
theorem hputs_other {u : List (Nat × AObj)} {o : Hp} {i : Nat} (h : i ∉ ids u) : hputs o u i = o i := by
  rcases hputs_get u o i with ⟨_, h2⟩ | ⟨a, h1, _⟩
  · exact h2
  · exact absurd (List.mem_map.2 ⟨_, h1, rfl⟩) h

def marked (β : Names) (fs : List (Nat × AObj)) (b : Nat) : Prop := ∃ i a k, (i, a) ∈ fs ∧ β i = some k ∧ k.b = b
open Classical in
noncomputable def mmem (M : Mem) (β : Names) (fs : List (Nat × AObj)) (w : World) : Mem := fun b => if marked β fs b then w.heap[b]? else M b

section
variable {M M2 : Mem} {β : Names} {N : Nat} {Wr : Nat → Prop} {o : Hp} {w : World} {fs : List (Nat × AObj)}

theorem mmem_le (hsr : SR M β N Wr o w) : ∀ b y, M b = some y → mmem M β fs w b = some y := by
  intro b y h
  unfold mmem
  split
  · exact hsr.sub b y h
  · exact h
theorem mmem_mark {i : Nat} {a : AObj} {k : Blk} (h : (i, a) ∈ fs) (hk : β i = some k) : mmem M β fs w k.b = w.heap[k.b]? := by
  unfold mmem
  rw [if_pos ⟨i, a, k, h, hk, rfl⟩]
theorem mmem_not {b : Nat} (h : ¬ marked β fs b) : mmem M β fs w b = M b := by
  unfold mmem
  rw [if_neg h]
theorem mmem_sub (hsr : SR M β N Wr o w) : ∀ b x, mmem M β fs w b = some x → w.heap[b]? = some x := by
  intro b x h
  unfold mmem at h
  split at h
  · exact h
  · exact hsr.sub b x h

/-- An object's block is marked only with the object itself. -/
theorem not_marked (hsr : SR M β N Wr o w) (hst : ∀ i a, (i, a) ∈ fs → wrt (o i) = true) {i : Nat} {k : Blk} (hi : wrt (o i) = true) (hk : β i = some k) (hn : i ∉ ids fs) : ¬ marked β fs k.b := by
  rintro ⟨j, a, kj, h1, h2, h3⟩
  have := hsr.inj i j k kj hi (hst j a h1) hk h2 h3.symm
  subst this
  exact hn (List.mem_map.2 ⟨_, h1, rfl⟩)

theorem SR.mark (hsr : SR M β N Wr o w) (hst : ∀ i a, (i, a) ∈ fs → Still (mmem M β fs w) β w o i a) : SR (mmem M β fs w) β N Wr (hputs o fs) w where
  sub := mmem_sub hsr
  bnd := hsr.bnd
  live i hi := by
    rcases hputs_get fs o i with ⟨h1, h2⟩ | ⟨a, h1, h2⟩
    · rw [h2] at hi ⊢
      obtain ⟨k, hk, hh⟩ := hsr.live i hi
      refine ⟨k, hk, hh.mem (mmem_le hsr) fun hw => ?_⟩
      rw [mmem_not (not_marked hsr (fun i a h => (hst i a h).1) hw hk h1)]
      exact hh.none hw
    · rw [h2]
      obtain ⟨g1, g2, g3, k, hk, hh⟩ := hst i a h1
      refine ⟨k, hk, ?_⟩
      cases a with
      | box cs => cases g2
      | vec e xs => cases g2
      | dead => exact hh
      | fbox cs => exact hh
      | fvec e xs => exact hh
  inj i j ki kj hi hj hki hkj hb := by
    have key : ∀ i, wrt (hputs o fs i) = true → wrt (o i) = true := by
      intro i hi
      rcases hputs_get fs o i with ⟨h1, h2⟩ | ⟨a, h1, h2⟩
      · rwa [h2] at hi
      · rw [h2] at hi
        rw [(hst i a h1).2.1] at hi; cases hi
    exact hsr.inj i j ki kj (key i hi) (key j hj) hki hkj hb

/-! ### Names -/

theorem flat_prel {v : V} {x : Value} (h : flat v = true) (hr : Rel M β v x) : PRel M v x := by
  cases v <;> (try cases h)
  · rw [hr.int_inv]; exact .int _ _
  · rw [hr.bool_inv]; exact .bool _
  · rw [hr.str_inv]; exact .str _
  · rw [hr.nilp_inv]; exact .nilp
  · rw [hr.nilf_inv]; exact .nilf
  · rw [hr.nili_inv]; exact .nili
  · exact hr.imp_inv
  · exact hr.sl_inv

theorem seqM_refs {n : Nat} {cs : List V} {l : List Nat} (h : (seqM (fun v => (refs n v).map fun l => ((), l)) cs).map (·.2) = some l) :
    ∀ v ∈ cs, ∃ s, refs n v = some s ∧ ∀ i ∈ s, i ∈ l := by
  obtain ⟨r, h1, rfl⟩ := map_some' h
  obtain ⟨_, g2, _⟩ := seqM_get h1
  intro v hv
  obtain ⟨j, hj⟩ := List.getElem?_of_mem hv
  obtain ⟨q, e1, _, e3⟩ := g2 j v hj
  obtain ⟨s, e4, rfl⟩ := map_some' e1
  exact ⟨s, e4, e3⟩

theorem refs_rel {β' : Names} : ∀ (n : Nat) (v : V) (l : List Nat) (x : Value), refs n v = some l → Rel M β v x → (∀ i ∈ l, ∀ k, β i = some k → β' i = some k) → Rel M β' v x := by
  intro n
  induction n with
  | zero => intro v l x h; cases h
  | succ n ih =>
    intro v l x h hr hβ
    cases v with
    | junk => exact .pure (.junk _)
    | int k m => rw [hr.int_inv]; exact .pure (.int _ _)
    | bool b => rw [hr.bool_inv]; exact .pure (.bool _)
    | str s => rw [hr.str_inv]; exact .pure (.str _)
    | nilp => rw [hr.nilp_inv]; exact .pure .nilp
    | nils e => rw [hr.nils_inv]; exact .pure (.nils _)
    | nilf => rw [hr.nilf_inv]; exact .pure .nilf
    | nili => rw [hr.nili_inv]; exact .pure .nili
    | imp c off => exact .pure hr.imp_inv
    | sl e xs => exact .pure hr.sl_inv
    | own e xs => exact hr.own_inv.elim
    | ptr i off =>
      cases h
      obtain ⟨k, h1, rfl⟩ := hr.ptr_inv
      exact .ptr _ _ k (hβ i (by simp) k h1)
    | ept i j off =>
      cases h
      obtain ⟨k, h1, rfl⟩ := hr.ept_inv
      exact .ept _ _ _ k (hβ i (by simp) k h1)
    | vsl i st len =>
      cases h
      cases hr with
      | pure h => cases h
      | vsl _ _ _ cap k hk hl hs => exact .vsl _ _ _ _ k (hβ i (by simp) k hk) hl hs
      | vslE _ _ cap a hst => exact .vslE _ _ _ _ hst
    | bsl i off len e =>
      cases h
      cases hr with
      | pure h => cases h
      | bsl _ _ _ _ cap k hk hl => exact .bsl _ _ _ _ _ k (hβ i (by simp) k hk) hl
      | bslE _ _ _ cap a => exact .bslE _ _ _ _ _
    | fn f caps =>
      obtain ⟨xs, rfl, hl, hxs⟩ := hr.fn_inv
      have hs := seqM_refs h
      refine .fn f caps xs hl fun j v hj => ?_
      obtain ⟨s, e1, e2⟩ := hs v (List.mem_of_getElem? hj)
      exact ih v s _ e1 (hxs j v hj) fun i hi => hβ i (e2 i hi)
    | iface t v =>
      obtain ⟨y, rfl, hy⟩ := hr.iface_inv
      exact .iface _ _ _ (ih v l y h hy hβ)
    | agg cs =>
      obtain ⟨xs, rfl, hl, ho, hxs⟩ := hr.agg_inv
      have hs := seqM_refs h
      refine .agg cs xs hl ho fun j v hj => ?_
      obtain ⟨s, e1, e2⟩ := hs v (List.mem_of_getElem? hj)
      exact ih v s _ e1 (hxs j v hj) fun i hi => hβ i (e2 i hi)
    | tup cs =>
      obtain ⟨xs, rfl, hl, hxs⟩ := hr.tup_inv
      have hs := seqM_refs h
      refine .tup cs xs hl fun j v hj => ?_
      obtain ⟨s, e1, e2⟩ := hs v (List.mem_of_getElem? hj)
      exact ih v s _ e1 (hxs j v hj) fun i hi => hβ i (e2 i hi)

theorem obj_names {β' : Names} {k : Blk} {x : AObj} {l : List Nat} (h : objRefs x = some l) (hh : Holds M β Wr w k x) (hβ : ∀ i ∈ l, ∀ k, β i = some k → β' i = some k) : Holds M β' Wr w k x := by
  cases x with
  | dead => cases h
  | fbox cs => exact hh
  | fvec e xs => exact hh
  | box cs =>
    obtain ⟨h1, h2, c, ty, fr, b1, b2, b3, b4, b5⟩ := hh
    have hs := seqM_refs (n := deep) h
    refine ⟨h1, h2, c, ty, fr, b1, b2, b3, b4, fun j v hj => ?_⟩
    obtain ⟨x, e1, e2, e3⟩ := b5 j v hj
    obtain ⟨s, f1, f2⟩ := hs v (List.mem_of_getElem? hj)
    exact ⟨x, e1, e2, refs_rel deep v s x f1 e3 fun i hi => hβ i (f2 i hi)⟩
  | vec e xs =>
    obtain ⟨h1, h2, h3, h4, c, ty, fr, b1, b2, b3, b4, b5⟩ := hh
    simp only [objRefs] at h
    split at h
    · rename_i hall
      refine ⟨h1, h2, h3, h4, c, ty, fr, b1, b2, b3, b4, fun j v hj => ?_⟩
      obtain ⟨x, e1, e2, e3⟩ := b5 j v hj
      refine ⟨x, e1, e2, .pure (flat_prel ?_ e3)⟩
      obtain ⟨l', hl', hv⟩ := List.mem_flatten.1 (List.mem_of_getElem? hj)
      rw [List.all_eq_true] at hall
      have := hall l' hl'
      rw [List.all_eq_true] at this
      exact this v hv
    · cases h

theorem reach_closed {o : Hp} : ∀ (n : Nat) (todo acc L : List Nat), reach o n todo acc = some L → (∀ i ∈ acc, ∃ l, objRefs (o i) = some l ∧ ∀ j ∈ l, j ∈ acc ∨ j ∈ todo) →
    (∀ i ∈ todo, i ∈ L) ∧ (∀ i ∈ acc, i ∈ L) ∧ ∀ i ∈ L, ∃ l, objRefs (o i) = some l ∧ ∀ j ∈ l, j ∈ L := by
  intro n
  induction n with
  | zero => intro todo acc L h; cases h
  | succ n ih =>
    intro todo acc L h hacc
    cases todo with
    | nil =>
      cases h
      exact ⟨by simp, fun i h => h, fun i hi => by obtain ⟨l, h1, h2⟩ := hacc i hi; exact ⟨l, h1, fun j hj => (h2 j hj).resolve_right (by simp)⟩⟩
    | cons i r =>
      simp only [reach] at h
      split at h
      · rename_i hc
        have hi : i ∈ acc := by simpa using hc
        obtain ⟨h1, h2, h3⟩ := ih r acc L h (fun j hj => by
          obtain ⟨l, e1, e2⟩ := hacc j hj
          refine ⟨l, e1, fun q hq => ?_⟩
          rcases e2 q hq with h | h
          · exact .inl h
          · rcases List.mem_cons.1 h with h | h
            · exact .inl (h ▸ hi)
            · exact .inr h)
        exact ⟨fun j hj => by rcases List.mem_cons.1 hj with h | h; exact h ▸ h2 i hi; exact h1 j h, h2, h3⟩
      · obtain ⟨l, e1, e2⟩ := bind_some' h
        obtain ⟨h1, h2, h3⟩ := ih (l ++ r) (i :: acc) L e2 (fun j hj => by
          rcases List.mem_cons.1 hj with h | h
          · subst h; exact ⟨l, e1, fun q hq => .inr (by simp [hq])⟩
          · obtain ⟨l', f1, f2⟩ := hacc j h
            refine ⟨l', f1, fun q hq => ?_⟩
            rcases f2 q hq with h | h
            · exact .inl (by simp [h])
            · rcases List.mem_cons.1 h with h | h
              · exact .inl (by simp [h])
              · exact .inr (by simp [h]))
        exact ⟨fun j hj => by rcases List.mem_cons.1 hj with h | h; exact h2 j (by simp [h]); exact h1 j (by simp [h]), fun j hj => h2 j (by simp [hj]), h3⟩

/-! ### Arguments -/

theorem frzArgs_get {o : Hp} : ∀ {l : List V} {m : List Bool} {r : List V × List (Nat × AObj)} {q : List Nat}, frzArgs o l m = some r → rawRefs l m = some q →
    r.1.length = l.length ∧ (∀ (j : Nat) a, l[j]? = some a → (r.1[j]? = some a ∧ ∃ s, refs deep a = some s ∧ ∀ i ∈ s, i ∈ q) ∨ ∃ t, frz o deep a = some t ∧ r.1[j]? = some t.1 ∧ ∀ y ∈ t.2, y ∈ r.2) ∧
      ∀ y ∈ r.2, ∃ a t, a ∈ l ∧ frz o deep a = some t ∧ y ∈ t.2 ∧ ∀ z ∈ t.2, z ∈ r.2 := by
  intro l
  induction l with
  | nil => intro m r q h1 h2; cases h1; exact ⟨rfl, by simp, by simp⟩
  | cons a l ih =>
    intro m r q h1 h2
    match m, h1, h2 with
    | true :: m, h1, h2 =>
      simp only [frzArgs] at h1
      simp only [rawRefs] at h2
      obtain ⟨s, h3, rfl⟩ := map_some' h1
      obtain ⟨t, h4, h5⟩ := bind_some' h2
      obtain ⟨u, h6, rfl⟩ := map_some' h5
      obtain ⟨g1, g2, g3⟩ := ih h3 h6
      refine ⟨by simp [g1], ?_, ?_⟩
      · intro j b hj
        cases j with
        | zero => simp at hj; subst hj; exact .inl ⟨by simp, t, h4, fun i hi => by simp [hi]⟩
        | succ j =>
          simp only [List.getElem?_cons_succ] at hj ⊢
          rcases g2 j b hj with ⟨e1, s', e2, e3⟩ | h
          · exact .inl ⟨e1, s', e2, fun i hi => by simp [e3 i hi]⟩
          · exact .inr h
      · intro y hy
        obtain ⟨b, t', e1, e2, e3, e4⟩ := g3 y hy
        exact ⟨b, t', by simp [e1], e2, e3, e4⟩
    | false :: m, h1, h2 =>
      simp only [frzArgs, List.tail_cons] at h1
      simp only [rawRefs, List.tail_cons] at h2
      obtain ⟨t, h3, h4⟩ := bind_some' h1
      obtain ⟨s, h5, rfl⟩ := map_some' h4
      obtain ⟨g1, g2, g3⟩ := ih h5 h2
      refine ⟨by simp [g1], ?_, ?_⟩
      · intro j b hj
        cases j with
        | zero => simp at hj; subst hj; exact .inr ⟨t, h3, by simp, fun y hy => by simp [hy]⟩
        | succ j =>
          simp only [List.getElem?_cons_succ] at hj ⊢
          rcases g2 j b hj with h | ⟨t', e1, e2, e3⟩
          · exact .inl h
          · exact .inr ⟨t', e1, e2, fun y hy => by simp [e3 y hy]⟩
      · intro y hy
        rcases List.mem_append.1 hy with h | h
        · exact ⟨a, t, by simp, h3, h, fun z hz => by simp [hz]⟩
        · obtain ⟨b, t', e1, e2, e3, e4⟩ := g3 y h
          exact ⟨b, t', by simp [e1], e2, e3, fun z hz => by simp [e4 z hz]⟩
    | [], h1, h2 =>
      simp only [frzArgs, List.tail_nil] at h1
      simp only [rawRefs, List.tail_nil] at h2
      obtain ⟨t, h3, h4⟩ := bind_some' h1
      obtain ⟨s, h5, rfl⟩ := map_some' h4
      obtain ⟨g1, g2, g3⟩ := ih h5 h2
      refine ⟨by simp [g1], ?_, ?_⟩
      · intro j b hj
        cases j with
        | zero => simp at hj; subst hj; exact .inr ⟨t, h3, by simp, fun y hy => by simp [hy]⟩
        | succ j =>
          simp only [List.getElem?_cons_succ] at hj ⊢
          rcases g2 j b hj with h | ⟨t', e1, e2, e3⟩
          · exact .inl h
          · exact .inr ⟨t', e1, e2, fun y hy => by simp [e3 y hy]⟩
      · intro y hy
        rcases List.mem_append.1 hy with h | h
        · exact ⟨a, t, by simp, h3, h, fun z hz => by simp [hz]⟩
        · obtain ⟨b, t', e1, e2, e3, e4⟩ := g3 y h
          exact ⟨b, t', by simp [e1], e2, e3, fun z hz => by simp [e4 z hz]⟩
end
end Go.Proofs.YtoccgkgdhobmfaaDoor.Am

/- The abstract machine, part 17: a call. -/
set_option linter.unusedVariables false
set_option linter.unusedSimpArgs false
namespace Go.Proofs.YtoccgkgdhobmfaaDoor.Am
open Go

def RetOk (M : Mem) (β : Names) (o : Hp) (w : World) (N : Nat) (v : V) (x : Value) : Prop :=
  match v with
  | .own e xs => ∃ i k cap, N ≤ i ∧ o i = .vec e xs ∧ β i = some k ∧ x = .slice (some ⟨k.b, 0, none⟩) xs.length cap ∧ xs.length ≤ cap ∧ cap * e ≤ k.size ∧ BoxAt w.heap[k.b]? k.size (PRel M) xs.flatten
  | v => PRel M v x

def CallPost (M : Mem) (β : Names) (N : Nat) (Lb : Nat → Prop) (w : World) : Out → Ending → World → Prop
  | .ret v o', e, w' => ∃ x M' β' N', e = .returned x ∧ (∀ b y, M b = some y → M' b = some y) ∧ (∀ b, b < w.heap.size → ¬ Lb b → M' b = M b) ∧
      (∀ i k, β i = some k → β' i = some k) ∧ (∀ i k, β' i = some k → β i = some k ∨ N ≤ i) ∧ Ok M' β' N' Lb w o' w' ∧ RetOk M' β' o' w' N v x
  | .panic v, e, w' => ∃ x, e = .panicked [{ v := x, recovered := false }] ∧ PRel (fun _ => none) v x ∧ Kp Lb w w'

def Callable (P : Program) (g : Nat) : Prop := ∃ fn, P.funcs[g]? = some fn ∧ (fn.name == "runtime.NumGoroutine") = false ∧ fn.body.isNone = false

def CallOk (P : Program) (G : Nat → Option (List V)) (cf : CallFn) : Prop := ∀ g args o N out, cf g args o N = some out → Callable P g ∧
  ∀ (M : Mem) (β : Names) (w : World) (Lb : Nat → Prop) (vargs : Array Value), Ok M β N Lb w o w → GOK M G → vargs.size = args.length → (∀ (j : Nat) v, args[j]? = some v → Rel M β v (vargs.getD j undef)) →
    Calls P g vargs w (CallPost M β N Lb w out)

/-- What a step may do to memory and names. -/
structure Ext (M : Mem) (β : Names) (Lb : Nat → Prop) (w0 : World) (ks : List Nat) (M' : Mem) (β' : Names) : Prop where
  mem : ∀ b y, M b = some y → M' b = some y
  old : ∀ b, b < w0.heap.size → ¬ Lb b → M' b = M b
  nam : ∀ i k, β i = some k → β' i = some k
  new : ∀ i k, β' i = some k → β i = some k ∨ i ∈ ks

theorem Holds.wrt_mono {M : Mem} {β : Names} {Wr Wr' : Nat → Prop} {w : World} {k : Blk} {x : AObj} (h : Holds M β Wr w k x) (hw : wrt x = true → Wr' k.b) : Holds M β Wr' w k x := by
  cases x with
  | box cs => obtain ⟨h1, h2⟩ := h; exact ⟨hw rfl, h2⟩
  | vec e xs => obtain ⟨h1, h2⟩ := h; exact ⟨hw rfl, h2⟩
  | dead => exact h
  | fbox cs => exact h
  | fvec e xs => exact h

section
variable {P : Program} {M : Mem} {β : Names} {N : Nat} {Lb : Nat → Prop} {w0 w : World} {o : Hp} {ks : List Nat} {e : Env} {a : Go.Act} {G : Nat → Option (List V)}

theorem scalarV_prel {M M' : Mem} {v : V} {x : Value} (h : scalarV v = true) (hr : PRel M v x) : PRel M' v x := by
  cases v <;> (try cases h)
  · cases hr; exact .int _ _
  · cases hr; exact .bool _
  · cases hr; exact .str _
  · cases hr; exact .nilp
  · cases hr; exact .nils _
  · cases hr; exact .nilf
  · cases hr; exact .nili
  · rename_i e xs
    have h0 : xs = [] := by simpa [scalarV] using h
    subst h0
    cases hr; exact PRel.slEmpty _ _ _ _
  · rename_i t v
    cases hr with
    | iface _ _ y hy =>
      refine .iface _ _ _ ?_
      cases v <;> (try (simp [scalarV] at h; done)) <;> (try cases h)
      · cases hy; exact .int _ _
      · cases hy; exact .bool _
      · cases hy; exact .str _

theorem scalarC_prel {M M' : Mem} {v : V} {x : Value} (h : (match v with | .agg cs => cs.all scalarV | v => scalarV v) = true) (hr : PRel M v x) : PRel M' v x := by
  cases v with
  | agg cs =>
    cases hr with
    | agg _ xs hl ho hrr =>
      rw [List.all_eq_true] at h
      exact .agg cs xs hl ho fun j v hj => scalarV_prel (h v (List.mem_of_getElem? hj)) (hrr j v hj)
  | _ => exact scalarV_prel h hr

theorem scalar_prel {M M' : Mem} {v : V} {x : Value} (h : scalar v = true) (hr : PRel M v x) : PRel M' v x := by
  cases v with
  | tup vs =>
    cases hr with
    | tup _ xs hl hrr =>
      simp only [scalar] at h
      rw [List.all_eq_true] at h
      exact .tup vs xs hl fun j v hj => scalarC_prel (h v (List.mem_of_getElem? hj)) (hrr j v hj)
  | agg cs => exact scalarC_prel (v := .agg cs) h hr
  | own e xs => cases hr
  | _ => exact scalarC_prel h hr

theorem notRef_not {L : List Nat} {u : List (Nat × AObj)} (h : notRef L u = true) : ∀ i ∈ L, i ∉ ids u := by
  intro i hi hu
  obtain ⟨x, hx, rfl⟩ := List.mem_map.1 hu
  unfold notRef at h
  rw [List.all_eq_true] at h
  have := h x hx
  simp at this
  exact this hi

/-- The names that are handed on. -/
def namesOf (β : Names) (L : List Nat) : Names := fun i => if L.contains i then β i else none
theorem namesOf_some {L : List Nat} {i : Nat} {k : Blk} (h : namesOf β L i = some k) : i ∈ L ∧ β i = some k := by
  unfold namesOf at h
  split at h
  · exact ⟨by simpa using (by assumption : L.contains i = true), h⟩
  · cases h
theorem namesOf_in {L : List Nat} {i : Nat} (h : i ∈ L) : namesOf β L i = β i := by
  unfold namesOf
  rw [if_pos (by simpa using h)]
theorem restrict_in {L : List Nat} {i : Nat} (h : i ∈ L) : restrict o L i = o i := by
  unfold restrict
  rw [if_pos (by simpa using h)]
theorem restrict_out {L : List Nat} {i : Nat} (h : i ∉ L) : restrict o L i = .dead := by
  unfold restrict
  rw [if_neg (by simpa using h)]

/-- The blocks of the objects that are handed on by address. -/
def blocksOf (o : Hp) (β : Names) (L : List Nat) (b : Nat) : Prop := ∃ i k, i ∈ L ∧ β i = some k ∧ k.b = b ∧ wrt (o i) = true

theorem callee_ok (hk : Ok M β N Lb w0 o w) {L : List Nat} {fs : List (Nat × AObj)} {Nc : Nat} (hL : ∀ i ∈ L, ∃ l, objRefs (o i) = some l ∧ ∀ j ∈ l, j ∈ L) (hn : notRef L fs = true) (hst : ∀ i a, (i, a) ∈ fs → wrt (o i) = true)
    (hNc : ∀ i ∈ L, ∀ k, β i = some k → i < Nc) : Ok (mmem M β fs w) (namesOf β L) Nc (blocksOf o β L) w (restrict o L) w := by
  refine ⟨⟨mmem_sub hk.sr, ?_, ?_, ?_⟩, Kp.refl _ _⟩
  · intro i k hi
    obtain ⟨h1, h2⟩ := namesOf_some hi
    exact hNc i h1 k h2
  · intro i hi
    by_cases hiL : i ∈ L
    · rw [restrict_in hiL] at hi ⊢
      obtain ⟨k, h1, h2⟩ := hk.sr.live i hi
      obtain ⟨l, h3, h4⟩ := hL i hiL
      refine ⟨k, by rw [namesOf_in hiL]; exact h1, ?_⟩
      have h5 := obj_names (β' := namesOf β L) h3 h2 (fun j hj k hjk => by rw [namesOf_in (h4 j hj)]; exact hjk)
      have h6 := h5.mem (M' := mmem M β fs w) (mmem_le hk.sr) (fun hw => by
        rw [mmem_not (not_marked hk.sr hst hw h1 (notRef_not hn i hiL))]; exact h2.none hw)
      exact h6.wrt_mono fun hw => .inr ⟨i, k, hiL, h1, rfl, hw⟩
    · rw [restrict_out hiL] at hi; exact absurd rfl hi
  · intro i j ki kj hi hj hki hkj hb
    obtain ⟨i1, i2⟩ := namesOf_some hki
    obtain ⟨j1, j2⟩ := namesOf_some hkj
    rw [restrict_in i1] at hi
    rw [restrict_in j1] at hj
    exact hk.sr.inj i j ki kj hi hj i2 j2 hb

theorem closedIn_spec {o' : Hp} {L : List Nat} : ∀ {r : List Nat}, closedIn o' L r = true → ∀ i ∈ r, ∃ l, objRefs (o' i) = some l ∧ ∀ j ∈ l, j ∈ L := by
  intro r
  induction r with
  | nil => intro h i hi; cases hi
  | cons a r ih =>
    intro h i hi
    simp only [closedIn, Bool.and_eq_true] at h
    rcases List.mem_cons.1 hi with rfl | hi
    · have h1 := h.1
      split at h1
      · rename_i l hl
        rw [List.all_eq_true] at h1
        exact ⟨l, hl, fun j hj => by simpa using h1 j hj⟩
      · cases h1
    · exact ih h.2 i hi

theorem ids_append (u v : List (Nat × AObj)) : ids (u ++ v) = ids u ++ ids v := by simp [ids]
theorem ids_map (L : List Nat) (f : Nat → AObj) : ids (L.map fun i => (i, f i)) = L := by simp [ids, Function.comp_def]

/-- Behind the call: the caller's heap. -/
theorem caller_ok (hk : Ok M β N Lb w0 o w) {L : List Nat} {fs : List (Nat × AObj)} {M3 : Mem} {β3 : Names} {N3 : Nat} {o' : Hp} {w' : World} (hn : notRef L fs = true)
    (hst : ∀ i a, (i, a) ∈ fs → Still (mmem M β fs w) β w o i a)
    (hm : ∀ b y, mmem M β fs w b = some y → M3 b = some y) (hold : ∀ b, b < w.heap.size → ¬ blocksOf o β L b → M3 b = mmem M β fs w b)
    (hnam : ∀ i k, namesOf β L i = some k → β3 i = some k) (h3 : Ok M3 β3 N3 (blocksOf o β L) w o' w')
    (hcl : ∀ i ∈ L, ∃ l, objRefs (o' i) = some l ∧ ∀ j ∈ l, j ∈ L) (hlive : ∀ i ∈ L, o i ≠ .dead) :
    Ok M3 β N Lb w0 (hputs o (L.map (fun i => (i, o' i)) ++ fs)) w' ∧ (∀ b y, M b = some y → M3 b = some y) ∧ (∀ b, b < w0.heap.size → ¬ Lb b → M3 b = M b) := by
  have hle : ∀ b y, M b = some y → M3 b = some y := fun b y h => hm b y (mmem_le hk.sr b y h)
  have hwr : ∀ b, blocksOf o β L b → WrOf Lb w0 b := by
    rintro b ⟨i, k, h1, h2, rfl, h4⟩
    obtain ⟨k', hk', hh⟩ := hk.sr.live i (hlive i h1)
    rw [h2] at hk'; cases hk'
    exact hh.wr h4
  have hkp : Kp Lb w0 w' := hk.kp.trans (h3.kp.mono hwr)
  have hmark : ∀ b, marked β fs b → WrOf Lb w0 b := by
    rintro b ⟨i, a, k, h1, h2, rfl⟩
    obtain ⟨g1, _⟩ := hst i a h1
    obtain ⟨k', hk', hh⟩ := hk.sr.live i (fun e => by rw [e] at g1; cases g1)
    rw [h2] at hk'; cases hk'
    exact hh.wr g1
  have hof : ∀ {i : Nat} {k : Blk}, wrt (o i) = true → β i = some k → i ∉ L → ¬ blocksOf o β L k.b := by
    rintro i k h1 h2 h3' ⟨j, kj, g1, g2, g3, g4⟩
    have := hk.sr.inj i j k kj h1 g4 h2 g2 g3.symm
    exact h3' (this ▸ g1)
  have hfst : ∀ i a, (i, a) ∈ fs → wrt (o i) = true := fun i a h => (hst i a h).1
  refine ⟨⟨⟨h3.sr.sub, hk.sr.bnd, ?_, ?_⟩, hkp⟩, hle, ?_⟩
  · intro i hi
    rcases hputs_get (L.map (fun i => (i, o' i)) ++ fs) o i with ⟨g1, g2⟩ | ⟨x, g1, g2⟩
    · rw [ids_append, ids_map, List.mem_append] at g1
      rw [g2] at hi ⊢
      obtain ⟨k, e1, e2⟩ := hk.sr.live i hi
      refine ⟨k, e1, ?_⟩
      have hnb : wrt (o i) = true → ¬ blocksOf o β L k.b := fun hw => hof hw e1 (fun h => g1 (.inl h))
      have e3 : Holds M β (WrOf Lb w0) w' k (o i) := e2.world fun hw => h3.kp.block _ (e2.lt hw) (hnb hw)
      refine e3.mem hle fun hw => ?_
      rw [hold _ (e2.lt hw) (hnb hw), mmem_not (not_marked hk.sr hfst hw e1 (fun h => g1 (.inr h)))]
      exact e2.none hw
    · rw [g2]
      rcases List.mem_append.1 g1 with h | h
      · obtain ⟨j, hj, hje⟩ := List.mem_map.1 h
        cases hje
        obtain ⟨l, f1, f2⟩ := hcl i hj
        obtain ⟨k, e1, e2⟩ := h3.sr.live i (fun e => by rw [e] at f1; cases f1)
        obtain ⟨k0, e0, _⟩ := hk.sr.live i (hlive i hj)
        have hke : β3 i = some k0 := hnam i k0 (by rw [namesOf_in hj]; exact e0)
        rw [e1] at hke; cases hke
        refine ⟨k, e0, ?_⟩
        have f3 := obj_names (β' := β) f1 e2 (fun j hj' kj hkj => by
          have hjL := f2 j hj'
          obtain ⟨kj0, t0, _⟩ := hk.sr.live j (hlive j hjL)
          have := hnam j kj0 (by rw [namesOf_in hjL]; exact t0)
          rw [hkj] at this; cases this; exact t0)
        refine f3.wrt_mono fun hw => ?_
        rcases e2.wr hw with h | h
        · exact .inl (Nat.le_trans hk.kp.size h)
        · exact hwr _ h
      · obtain ⟨s1, s2, s3, k, s4, s5⟩ := hst i x h
        refine ⟨k, s4, ?_⟩
        cases x with
        | box cs => cases s2
        | vec e xs => cases s2
        | dead => exact absurd rfl s3
        | fbox cs => exact BoxAt.mono s5 (fun y hy => hm _ y hy) (fun _ _ h => h.mono hm)
        | fvec e xs => obtain ⟨t1, t2, t3⟩ := s5; exact ⟨t1, t2, t3.mono (fun y hy => hm _ y hy) (fun _ _ h => h.mono hm)⟩
  · have key : ∀ i k, wrt (hputs o (L.map (fun i => (i, o' i)) ++ fs) i) = true → β i = some k → (i ∈ L ∧ wrt (o' i) = true ∧ β3 i = some k) ∨ (i ∉ L ∧ wrt (o i) = true) := by
      intro i k hi hki
      rcases hputs_get (L.map (fun i => (i, o' i)) ++ fs) o i with ⟨g1, g2⟩ | ⟨x, g1, g2⟩
      · rw [ids_append, ids_map, List.mem_append] at g1
        rw [g2] at hi
        exact .inr ⟨fun h => g1 (.inl h), hi⟩
      · rw [g2] at hi
        rcases List.mem_append.1 g1 with h | h
        · obtain ⟨j, hj, hje⟩ := List.mem_map.1 h
          cases hje
          exact .inl ⟨hj, hi, hnam i k (by rw [namesOf_in hj]; exact hki)⟩
        · have := (hst i x h).2.1
          rw [this] at hi; cases hi
    intro i j ki kj hi hj hki hkj hb
    rcases key i ki hi hki with ⟨i1, i2, i3⟩ | ⟨i1, i2⟩ <;> rcases key j kj hj hkj with ⟨j1, j2, j3⟩ | ⟨j1, j2⟩
    · exact h3.sr.inj i j ki kj i2 j2 i3 j3 hb
    · exfalso
      -- i is handed on, j is not
      obtain ⟨kk, e1, e2⟩ := h3.sr.live i (fun e => by rw [e] at i2; cases i2)
      rw [i3] at e1; cases e1
      obtain ⟨kk, e3, e4⟩ := hk.sr.live j (fun e => by rw [e] at j2; cases j2)
      rw [hkj] at e3; cases e3
      rcases e2.wr i2 with h | h
      · have := e4.lt j2; omega
      · rw [hb] at h; exact hof j2 hkj j1 h
    · exfalso
      obtain ⟨kk, e1, e2⟩ := h3.sr.live j (fun e => by rw [e] at j2; cases j2)
      rw [j3] at e1; cases e1
      obtain ⟨kk, e3, e4⟩ := hk.sr.live i (fun e => by rw [e] at i2; cases i2)
      rw [hki] at e3; cases e3
      rcases e2.wr j2 with h | h
      · have := e4.lt i2; omega
      · rw [← hb] at h; exact hof i2 hki i1 h
    · exact hk.sr.inj i j ki kj i2 j2 hki hkj hb
  · intro b hb hnl
    have hnw : ¬ WrOf Lb w0 b := fun h => h.elim (fun h => by omega) hnl
    rw [hold b (Nat.lt_of_lt_of_le hb hk.kp.size) (fun h => hnw (hwr b h)), mmem_not (fun h => hnw (hmark b h))]
end
end Go.Proofs.YtoccgkgdhobmfaaDoor.Am

/- The abstract machine, part 18: a call, from the caller's side; every operation. -/
set_option linter.unusedVariables false
set_option linter.unusedSimpArgs false
namespace Go.Proofs.YtoccgkgdhobmfaaDoor.Am
open Go

section
variable {P : Program} {M : Mem} {β : Names} {N : Nat} {Lb : Nat → Prop} {w0 w : World} {o : Hp} {ks : List Nat} {e : Env} {a : Go.Act} {G : Nat → Option (List V)}

theorem mputs_le {b : Nat} {ob : Obj} (hs : ∀ x, M b = some x → x = ob) : ∀ x y, M x = some y → mput M b ob x = some y := by
  intro x y hx
  unfold mput
  split
  · rename_i e; subst e; rw [hs y hx]
  · exact hx

/-- A block that no object of the call's own has, from now on stands still. -/
theorem ok_still_block (hk : Ok M β N Lb w0 o w) {b : Nat} {ob : Obj} (hb : w.heap[b]? = some ob) (hne : ∀ j kj, wrt (o j) = true → β j = some kj → kj.b ≠ b) : Ok (mput M b ob) β N Lb w0 o w := by
  have hle := mputs_le (M := M) (b := b) (ob := ob) (fun x hx => by have := hk.sr.sub b x hx; rw [hb] at this; cases this; rfl)
  refine ⟨⟨?_, hk.sr.bnd, ?_, hk.sr.inj⟩, hk.kp⟩
  · intro b' x hx
    unfold mput at hx
    split at hx
    · rename_i e; subst e; cases hx; exact hb
    · exact hk.sr.sub b' x hx
  · intro i hi
    obtain ⟨k, h1, h2⟩ := hk.sr.live i hi
    refine ⟨k, h1, h2.mem hle fun hw => ?_⟩
    unfold mput
    rw [if_neg (hne i k hw h1)]; exact h2.none hw

/-- What a step comes to. -/
def StepPost (M : Mem) (β : Names) (N : Nat) (Lb : Nat → Prop) (w0 : World) (ks : List Nat) (o : Hp) : Did → Ending → World → Prop
  | .act v u _, e, w' => ∃ x M' β', e = .returned x ∧ Ext M β Lb w0 ks M' β' ∧ Ok M' β' N Lb w0 (hputs o u) w' ∧ Rel M' β' v x
  | .panic v, e, w' => ∃ x, e = .panicked [{ v := x, recovered := false }] ∧ PRel (fun _ => none) v x ∧ Kp Lb w0 w'

theorem caller_scalar (hk : Ok M β N Lb w0 o w) {w' : World} {Lb' : Nat → Prop} (hkp : Kp Lb' w w') (hno : ∀ b, ¬ Lb' b) : Ok M β N Lb w0 o w' :=
  ⟨hk.sr.world fun b hb => hkp.block b hb (hno b), hk.kp.trans (hkp.mono fun b h => absurd h (hno b))⟩

theorem hputs_append (o : Hp) : ∀ (u v : List (Nat × AObj)), hputs o (u ++ v) = hputs (hputs o u) v := by
  intro u
  induction u generalizing o with
  | nil => intro v; rfl
  | cons x r ih => intro v; obtain ⟨i, a⟩ := x; simp only [List.cons_append, hputs]; exact ih _ v

/-- A block of the callee's own is none of the caller's. -/
theorem caller_ne (hk : Ok M β N Lb w0 o w) {L : List Nat} {fs : List (Nat × AObj)} {M3 : Mem} {β3 : Names} {N3 : Nat} {o' : Hp} {w' : World}
    (hst : ∀ i a, (i, a) ∈ fs → wrt a = false)
    (hnam : ∀ i k, namesOf β L i = some k → β3 i = some k) (h3 : Ok M3 β3 N3 (blocksOf o β L) w o' w')
    {i : Nat} {k : Blk} (hi : wrt (o' i) = true) (hki : β3 i = some k) (hiL : i ∉ L) :
    ∀ j kj, wrt (hputs o (L.map (fun i => (i, o' i)) ++ fs) j) = true → β j = some kj → kj.b ≠ k.b := by
  intro j kj hj hkj hb
  have key : (j ∈ L ∧ wrt (o' j) = true ∧ β3 j = some kj) ∨ (j ∉ L ∧ wrt (o j) = true) := by
    rcases hputs_get (L.map (fun i => (i, o' i)) ++ fs) o j with ⟨g1, g2⟩ | ⟨x, g1, g2⟩
    · rw [ids_append, ids_map, List.mem_append] at g1
      rw [g2] at hj
      exact .inr ⟨fun h => g1 (.inl h), hj⟩
    · rw [g2] at hj
      rcases List.mem_append.1 g1 with h | h
      · obtain ⟨j', hj', hje⟩ := List.mem_map.1 h
        cases hje
        exact .inl ⟨hj', hj, hnam j kj (by rw [namesOf_in hj']; exact hkj)⟩
      · rw [hst j x h] at hj; cases hj
  rcases key with ⟨j1, j2, j3⟩ | ⟨j1, j2⟩
  · have := h3.sr.inj j i kj k j2 hi j3 hki hb
    exact hiL (this ▸ j1)
  · obtain ⟨kk, e1, e2⟩ := h3.sr.live i (fun e => by rw [e] at hi; cases hi)
    rw [hki] at e1; cases e1
    obtain ⟨kk, e3, e4⟩ := hk.sr.live j (fun e => by rw [e] at j2; cases j2)
    rw [hkj] at e3; cases e3
    rcases e2.wr hi with h | h
    · have := e4.lt j2; omega
    · obtain ⟨q, kq, g1, g2, g3, g4⟩ := h
      have := hk.sr.inj j q kj kq j2 g4 hkj g2 (hb.trans g3.symm)
      exact j1 (this ▸ g1)

theorem doCall_sound {cf : CallFn} (hcf : CallOk P G cf) {base : Nat} {f : V} {args : List V} {raw : List Bool} {own : Option Nat} {did : Did} (hd : doCall cf o base N f args raw own = some did)
    (hk : Ok M β N Lb w0 o w) (hg : GOK M G) {fv : Value} {vargs : Array Value} (hf : Rel M β f fv) (hl : vargs.size = args.length) (ha : ∀ (j : Nat) v, args[j]? = some v → Rel M β v (vargs.getD j undef))
    (hfr : ∀ k, own = some k → β (base + k) = none ∧ base + k < N ∧ base + k ∈ ks) :
    ∃ g xs, fv = .func (.func g) #[] xs ∧ Callable P g ∧ Calls P g (vargs ++ xs) w (StepPost M β N Lb w0 ks o did) := by
  unfold doCall at hd
  split at hd
  · rename_i g caps
    obtain ⟨xs, rfl, hxl, hxs⟩ := hf.fn_inv
    refine ⟨g, xs, rfl, ?_⟩
    simp only at hd
    obtain ⟨r0, hr0, hd⟩ := bind_some' hd
    obtain ⟨L, hL, hd⟩ := bind_some' hd
    obtain ⟨fa, hfa, hd⟩ := bind_some' hd
    split at hd
    · rename_i hnr
      obtain ⟨hr1, _, hr3⟩ := reach_closed 64 r0 [] L hL (by simp)
      obtain ⟨g1, g2, g3⟩ := frzArgs_get hfa hr0
      have hall : ∀ (j : Nat) v, (args ++ caps)[j]? = some v → Rel M β v ((vargs ++ xs).getD j undef) := by
        intro j v hj
        rw [List.getElem?_append] at hj
        split at hj
        · rename_i hlt
          have := ha j v hj
          have hx : (vargs ++ xs)[j]? = vargs[j]? := Array.getElem?_append_left (by omega)
          rw [Array.getD_eq_getD_getElem?] at this ⊢
          rw [hx]; exact this
        · rename_i hge
          have := hxs _ v hj
          have hx : (vargs ++ xs)[j]? = xs[j - vargs.size]? := Array.getElem?_append_right (by omega)
          rw [Array.getD_eq_getD_getElem?] at this ⊢
          rw [hx, hl]; exact this
      have hmk : ∀ i a, (i, a) ∈ fa.2 → ∀ k, β i = some k → mmem M β fa.2 w k.b = w.heap[k.b]? := fun i a h k hk' => mmem_mark h hk'
      have hstill : ∀ i a, (i, a) ∈ fa.2 → Still (mmem M β fa.2 w) β w o i a := by
        intro i a hi
        obtain ⟨v, t, e1, e2, e3, e4⟩ := g3 _ hi
        obtain ⟨j, hj⟩ := List.getElem?_of_mem e1
        exact (frz_sound hk.sr (mmem_le hk.sr) deep v t _ e2 (hall j v hj) fun i a h k hk' => hmk i a (e4 _ h) k hk').2 i a e3
      have hargs : ∀ (j : Nat) v, fa.1[j]? = some v → Rel (mmem M β fa.2 w) (namesOf β L) v ((vargs ++ xs).getD j undef) := by
        intro j v hj
        have hlt : j < (args ++ caps).length := by rw [← g1]; exact (List.getElem?_eq_some_iff.1 hj).1
        have hu := List.getElem?_eq_getElem hlt
        rcases g2 j _ hu with ⟨e1, s, e2, e3⟩ | ⟨t, e1, e2, e3⟩
        · rw [hj] at e1; cases e1
          have := refs_rel (β' := namesOf β L) deep _ s _ e2 (hall j _ hu) (fun i hi k hik => by rw [namesOf_in (hr1 i (e3 i hi))]; exact hik)
          exact this.mono (mmem_le hk.sr) (fun _ _ h => h)
        · rw [hj] at e2; cases e2
          exact .pure (frz_sound hk.sr (mmem_le hk.sr) deep _ t _ e1 (hall j _ hu) fun i a h k hk' => hmk i a (e3 _ h) k hk').1
      have hsz : (vargs ++ xs).size = fa.1.length := by simp [g1, hl, hxl]
      have hgok : GOK (mmem M β fa.2 w) G := fun g cs h => (hg g cs h).mono (mmem_le hk.sr)
      have hfst : ∀ i a, (i, a) ∈ fa.2 → wrt (o i) = true := fun i a h => (hstill i a h).1
      have hlive : ∀ i ∈ L, o i ≠ .dead := by
        intro i hi e
        obtain ⟨l, h1, _⟩ := hr3 i hi
        rw [e] at h1; cases h1
      -- the callee, with its own bound
      have hcall : ∀ out, (if L.isEmpty then cf g fa.1 (fun _ => .dead) 0 else cf g fa.1 (restrict o L) N) = some out →
          Callable P g ∧ ∃ Nc, (∀ i, i ∈ L → ∀ k, β i = some k → i < Nc) ∧ Calls P g (vargs ++ xs) w (CallPost (mmem M β fa.2 w) (namesOf β L) Nc (blocksOf o β L) w out) := by
        intro out hout
        split at hout
        · rename_i hLe
          have hL0 : L = [] := by simpa using hLe
          obtain ⟨h1, h2⟩ := hcf _ _ _ _ _ hout
          refine ⟨h1, 0, by rw [hL0]; simp, ?_⟩
          refine h2 _ _ _ _ _ ?_ hgok hsz hargs
          have := callee_ok hk (L := L) (fs := fa.2) (Nc := 0) hr3 hnr hfst (by rw [hL0]; simp)
          have he : restrict o L = fun _ => .dead := by funext i; rw [restrict_out (by rw [hL0]; simp)]
          rw [he] at this; exact this
        · obtain ⟨h1, h2⟩ := hcf _ _ _ _ _ hout
          refine ⟨h1, N, fun i _ k hk' => hk.sr.bnd i k hk', ?_⟩
          exact h2 _ _ _ _ _ (callee_ok hk hr3 hnr hfst (fun i _ k hk' => hk.sr.bnd i k hk')) hgok hsz hargs
      split at hd
      · rename_i v o' hout
        obtain ⟨hc1, Nc, hNc, hc2⟩ := hcall _ hout
        refine ⟨hc1, hc2.mono ?_⟩
        rintro en w' ⟨x, M3, β3, N3, rfl, hm, hold, hnam, hnew, h3, hret⟩
        split at hd
        · rename_i hcl
          cases hd
          have hcl' := closedIn_spec hcl
          by_cases hkeep : (L.isEmpty && scalar v) = true
          · simp only [hkeep, if_true]
            simp only [Bool.and_eq_true] at hkeep
            have hL0 : L = [] := by simpa using hkeep.1
            have hth : thaw (own.map (base + ·)) v = (v, []) := by
              unfold thaw
              split
              · simp [scalar, scalarV] at hkeep
              · rfl
            have hpv : PRel M3 v x := by
              unfold RetOk at hret
              split at hret
              · simp [scalar, scalarV] at hkeep
              · exact hret
            rw [hth]
            subst hL0
            refine ⟨x, M, β, rfl, ⟨fun _ _ h => h, fun _ _ _ => rfl, fun _ _ h => h, fun _ _ h => .inl h⟩, ?_, .pure (scalar_prel hkeep.2 hpv)⟩
            exact caller_scalar hk h3.kp (by rintro b ⟨i, k, h1, _⟩; simp at h1)
          · simp only [hkeep, Bool.false_eq_true, if_false]
            obtain ⟨k1, k2, k3⟩ := caller_ok hk hnr hstill hm hold hnam h3 hcl' hlive
            by_cases hown : ∃ e ys, v = .own e ys
            · obtain ⟨e, ys, rfl⟩ := hown
              obtain ⟨i, k, cap, f1, f2, f3, rfl, f5, f6, f7⟩ := hret
              have hiL : i ∉ L := by
                intro hi
                obtain ⟨k0, e0, _⟩ := hk.sr.live i (hlive i hi)
                have := hNc i hi k0 e0
                omega
              have hne := caller_ne hk (fs := fa.2) (fun i a h => (hstill i a h).2.1) hnam h3 (by rw [f2]; rfl) f3 hiL
              obtain ⟨kk, e1, e2⟩ := h3.sr.live i (by rw [f2]; simp)
              rw [f3] at e1; cases e1
              rw [f2] at e2
              obtain ⟨t1, t2, t3, t4, t5⟩ := e2
              cases own with
              | none =>
                simp only [thaw, Option.map_none, List.append_nil]
                obtain ⟨c, ty, fr, b1, b2, b3, b4, b5⟩ := f7
                have hst2 := ok_still_block k1 (b := k.b) (ob := .cells c ty fr) b1 hne
                have hle := mputs_le (M := M3) (b := k.b) (ob := .cells c ty fr) (fun x hx => by rw [t2] at hx; cases hx)
                refine ⟨_, mput M3 k.b (.cells c ty fr), β, rfl, ⟨fun b y h => hle b y (k2 b y h), ?_, fun _ _ h => h, fun _ _ h => .inl h⟩, hst2, .pure ?_⟩
                · intro b hb hnl
                  unfold mput
                  split
                  · rename_i e'; subst e'
                    exfalso
                    rcases t1 with h | h
                    · have := hk.kp.size; omega
                    · obtain ⟨q, kq, u1, u2, u3, u4⟩ := h
                      obtain ⟨kk, v1, v2⟩ := hk.sr.live q (hlive q u1)
                      rw [u2] at v1; cases v1
                      have := v2.wr u4
                      rw [u3] at this
                      exact this.elim (fun h => by omega) hnl
                  · exact k3 b hb hnl
                · have hbx : BoxAt (mput M3 k.b (.cells c ty fr) k.b) k.size (PRel (mput M3 k.b (.cells c ty fr))) ys.flatten := by
                    refine ⟨c, ty, fr, by simp [mput], b2, b3, b4, fun j v hj => ?_⟩
                    obtain ⟨x, v1, v2, v3⟩ := b5 j v hj
                    exact ⟨x, v1, v2, v3.mono hle⟩
                  have := prel_sl_of_box (st := 0) (len := ys.length) (cap := cap) (a := some ⟨k.b, 0, none⟩) hbx t4 (by omega) f5 (by simp)
                  simpa using this
              | some kn =>
                obtain ⟨g4, g5, g6⟩ := hfr kn rfl
                simp only [thaw, Option.map_some]
                have hholds : Holds M3 (nput β (base + kn) k) (WrOf Lb w0) w' k (.vec e ys) := by
                  refine ⟨?_, t2, t3, t4, f7.mono (fun _ h => h) (fun _ _ h => .pure h)⟩
                  rcases t1 with h | h
                  · exact .inl (Nat.le_trans hk.kp.size h)
                  · obtain ⟨q, kq, u1, u2, u3, u4⟩ := h
                    obtain ⟨kk, v1, v2⟩ := hk.sr.live q (hlive q u1)
                    rw [u2] at v1; cases v1
                    have := v2.wr u4
                    rwa [u3] at this
                refine ⟨_, M3, nput β (base + kn) k, rfl, ⟨k2, k3, nput_le g4, ?_⟩, ⟨(by rw [hputs_append]; exact k1.sr.new g4 g5 (x := .vec e ys) rfl hne hholds), k1.kp⟩, ?_⟩
                · intro j kj hj
                  unfold nput at hj
                  split at hj
                  · rename_i e'; subst e'; exact .inr g6
                  · exact .inl hj
                · have := Rel.vsl (M := M3) (β := nput β (base + kn) k) (base + kn) 0 ys.length cap k nput_eq f5 (by rw [t3]; omega)
                  simpa using this
            · have hth : thaw (own.map (base + ·)) v = (v, []) := by
                unfold thaw
                split
                · exact absurd ⟨_, _, rfl⟩ hown
                · rfl
              have hpv : PRel M3 v x := by
                unfold RetOk at hret
                split at hret
                · exact absurd ⟨_, _, rfl⟩ hown
                · exact hret
              rw [hth, List.append_nil]
              exact ⟨x, M3, β, rfl, ⟨k2, k3, fun _ _ h => h, fun _ _ h => .inl h⟩, k1, .pure hpv⟩
        · cases hd
      · rename_i v hout
        obtain ⟨hc1, Nc, hNc, hc2⟩ := hcall _ hout
        refine ⟨hc1, hc2.mono ?_⟩
        rintro en w' ⟨x, rfl, hp, hkp⟩
        cases hd
        refine ⟨x, rfl, hp, hk.kp.trans (hkp.mono ?_)⟩
        rintro b ⟨q, kq, u1, u2, u3, u4⟩
        obtain ⟨kk, v1, v2⟩ := hk.sr.live q (hlive q u1)
        rw [u2] at v1; cases v1
        have := v2.wr u4
        rwa [u3] at this
      · cases hd
    · cases hd
  · cases hd
end
end Go.Proofs.YtoccgkgdhobmfaaDoor.Am

/- The abstract machine, part 19: one operation, as the model's regions ask for it. -/
set_option linter.unusedVariables false
set_option linter.unusedSimpArgs false
namespace Go.Proofs.YtoccgkgdhobmfaaDoor.Am
open Go

def chkAL : List Operand → List Arg → Bool
  | [], [] => true
  | x :: xs, y :: ys => chkA x y && chkAL xs ys
  | _, _ => false

def chkCall (op : Go.Op) (f : Arg) (args : List Arg) : Bool :=
  match op with
  | .call c => (match c.callee with | .value g => chkA g f | _ => false) && chkAL c.args.toList args
  | _ => false
def chkPanic (op : Go.Op) (x : Arg) : Bool := match op with | .panic y => chkA y x | _ => false

def chkOp (P : Program) (p : Oper) : I → Bool
  | .call f args _ _ => chkCall p.op f args
  | .panic x => chkPanic p.op x
  | i => chkI P p i

section
variable {P : Program} {M : Mem} {β : Names} {N : Nat} {Lb : Nat → Prop} {w0 w : World} {o : Hp} {ks : List Nat} {e : Env} {a : Go.Act} {G : Nat → Option (List V)}

theorem chkAL_sound (he : EnvR M β e a) (hg : GOK M G) : ∀ {xs : List Operand} {ys : List Arg}, chkAL xs ys = true →
    xs.length = ys.length ∧ ∀ (j : Nat) (x : Operand) (y : Arg), xs[j]? = some x → ys[j]? = some y → Rel M β (evA G e y) (a.eval x) := by
  intro xs
  induction xs with
  | nil => intro ys h; cases ys with | nil => exact ⟨rfl, by simp⟩ | cons _ _ => cases h
  | cons x xs ih =>
    intro ys h
    cases ys with
    | nil => cases h
    | cons y ys =>
      simp only [chkAL, Bool.and_eq_true] at h
      obtain ⟨h1, h2⟩ := ih h.2
      refine ⟨by simp [h1], fun j u v hj hv => ?_⟩
      cases j with
      | zero => simp at hj hv; subst hj; subst hv; exact evA_sound h.1 he hg
      | succ j => simp at hj hv; exact h2 j u v hj hv

theorem Gd.wp {p : Oper} {act : Act} {K : Go.Act → World → Prop} {Q : Exit → Go.Act → World → Prop} (h : Gd M β N Lb w0 ks (hputs o act.ups) act.val ((execOp a.eval p).run P w))
    (hK : ∀ M' β' w' x, Ext M β Lb w0 ks M' β' → Ok M' β' N Lb w0 (hputs o act.ups) w' → Rel M' β' act.val x → K (a.put p.dst x) w') : p.wp P a w K Q := by
  obtain ⟨x, w', M', β', h1, h2, h3, h4, h5, h6, h7⟩ := h
  have := hK M' β' w' x ⟨h2, fun b hb _ => h3 b hb, h4, h5⟩ h6 h7
  unfold Oper.wp
  rcases h1 with h1 | ⟨h1, rfl⟩
  · rw [h1]; exact this
  · rw [h1]; exact this

theorem doOp_sound {cf : CallFn} (hcf : CallOk P G cf) {base : Nat} {p : Oper} {i : I} {did : Did} (hd : doOp G cf base N e o i = some did) (hc : chkOp P p i = true)
    (hk : Ok M β N Lb w0 o w) (he : EnvR M β e a) (hg : GOK M G) (hf : ∀ k ∈ allocK i, β (base + k) = none ∧ base + k < N ∧ base + k ∈ ks)
    {K : Go.Act → World → Prop} {Q : Exit → Go.Act → World → Prop}
    (hK : ∀ v u fp M' β' w' x, did = .act v u fp → Ext M β Lb w0 ks M' β' → Ok M' β' N Lb w0 (hputs o u) w' → Rel M' β' v x → K (a.put p.dst x) w')
    (hP : ∀ v x w', did = .panic v → PRel (fun _ => none) v x → Kp Lb w0 w' → Q (.panic [{ v := x, recovered := false }]) a w') : p.wp P a w K Q := by
  have simple : ∀ act, stepI G e o base i = some act → did = .act act.val act.ups ⟨act.rd, ids act.ups⟩ → chkI P p i = true → p.wp P a w K Q := by
    intro act h1 h2 h3
    exact (stepI_sound h1 h3 hk he hg hf).wp fun M' β' w' x g1 g2 g3 => hK _ _ _ M' β' w' x h2 g1 g2 g3
  by_cases hcall : ∃ f args raw own, i = .call f args raw own
  · obtain ⟨f, args, raw, own, rfl⟩ := hcall
    simp only [doOp] at hd
    simp only [chkOp, chkCall] at hc
    split at hc
    · rename_i c hop
      simp only [Bool.and_eq_true] at hc
      obtain ⟨hc1, hc2⟩ := hc
      split at hc1
      · rename_i gx hcal
        obtain ⟨hlen, hrel⟩ := chkAL_sound he hg hc2
        have hfv := evA_sound hc1 he hg
        obtain ⟨g, xs, hgx, ⟨fn, hfn, hname, hbody⟩, hcalls⟩ := doCall_sound (ks := ks) hcf hd hk hg hfv (vargs := c.args.map a.eval) (by simp [← hlen]) (fun j v hj => by
          rw [List.getElem?_map] at hj
          obtain ⟨y, hy, rfl⟩ := map_some' hj
          have hlt : j < c.args.toList.length := by rw [hlen]; exact (List.getElem?_eq_some_iff.1 hy).1
          have hx := List.getElem?_eq_getElem hlt
          have := hrel j _ y hx hy
          rw [Array.getD_eq_getD_getElem?, Array.getElem?_map]
          rw [Array.getElem?_toList] at hx
          rw [hx]; exact this) (fun k hk' => hf k (by rw [hk']; simp [allocK]))
        unfold Oper.wp
        have hn : fn.name ≠ "runtime.NumGoroutine" := by simpa using hname
        have hrun : (execOp a.eval p).run P w = .ok (.enter g (c.args.map a.eval ++ xs)) w := by
          simp only [execOp, hop, resolve, hcal, hgx, Deferred.ofValue, Sem.run_bind, Sem.run_pure, Result.andThen_ok, invoke, callFunc, run_program, hfn, hname, hbody, Bool.false_eq_true, if_false]
          simp
        rw [hrun, Oper.upon_enter]
        refine hcalls.mono fun en w' hp => ?_
        cases did with
        | act v u fp =>
          obtain ⟨x, M', β', rfl, h1, h2, h3⟩ := hp
          exact hK v u fp M' β' w' x rfl h1 h2 h3
        | panic v =>
          obtain ⟨x, rfl, h1, h2⟩ := hp
          exact hP v x w' rfl h1 h2
      · cases hc1
    · cases hc
  · by_cases hpan : ∃ x, i = .panic x
    · obtain ⟨x, rfl⟩ := hpan
      simp only [doOp] at hd
      simp only [chkOp, chkPanic] at hc
      split at hc
      · rename_i y hop
        have hr := evA_sound hc he hg
        have fin : ∀ t v, evA G e x = .iface t v → did = .panic (.iface t v) → (∀ z, Rel M β v z → PRel (fun _ => none) v z) → p.wp P a w K Q := by
          intro t v hx hdid hp
          rw [hx] at hr
          obtain ⟨z, hz, hzr⟩ := hr.iface_inv
          unfold Oper.wp
          have hrun : (execOp a.eval p).run P w = .halt (.panic (.iface t z)) w := by
            simp only [execOp, hop, hz, Instr.panic, Sem.run_bind, run_goPanic, Result.andThen_halt]
          rw [hrun, Oper.upon_panic]
          exact hP _ _ w hdid (.iface _ _ _ (hp z hzr)) hk.kp
        split at hd
        · rename_i t v hx
          split at hd
          · rename_i k n
            cases hd
            exact fin t _ hx rfl fun z hz => by rw [hz.int_inv]; exact .int _ _
          · rename_i s
            cases hd
            exact fin t _ hx rfl fun z hz => by rw [hz.str_inv]; exact .str _
          · cases hd
        · cases hd
      · cases hc
    · cases i with
      | call f args raw own => exact absurd ⟨_, _, _, _, rfl⟩ hcall
      | panic x => exact absurd ⟨_, rfl⟩ hpan
      | _ =>
        simp only [doOp] at hd
        obtain ⟨act, h1, h2⟩ := map_some' hd
        exact simple act h1 h2.symm hc
end
end Go.Proofs.YtoccgkgdhobmfaaDoor.Am

/- The abstract machine, part 20: what an operation looks at. -/
set_option linter.unusedVariables false
set_option linter.unusedSimpArgs false
namespace Go.Proofs.YtoccgkgdhobmfaaDoor.Am
open Go

def uses : I → List Arg
  | .mov x | .box _ x | .load _ x | .nilCheck x | .un _ x | .convInt _ x | .convStr x | .convBytes x | .convSl x | .arrPtr _ x | .mkIface _ x
  | .fieldAddr _ x | .field _ _ x | .len x | .lenS x | .cap0 x | .extract x _ | .panic x => [x]
  | .pick c x y => [c, x, y]
  | .alloc _ _ | .lenA _ => []
  | .build _ ps => ps.map (·.2.2)
  | .lit _ _ _ ps | .ilit _ _ ps => ps.map (·.2)
  | .store _ x y | .bin _ x y | .eqv _ _ x y | .eqp _ x y | .eqb _ x y | .indexAddrA _ _ x y | .indexAddrL _ x y | .indexS x y | .indexA _ _ _ x y
  | .append _ _ _ x y | .appendZ _ _ _ _ x y | .copy _ x y | .make _ _ _ _ x y => [x, y]
  | .mkFn _ xs | .mmax xs | .mmin xs => xs
  | .sliceS x lo hi | .sliceL _ x lo hi | .sliceA _ _ x lo hi => x :: (lo.toList ++ hi.toList)
  | .call f xs _ _ => f :: xs

def tmpOf : Arg → List Nat
  | .tmp t => [t]
  | _ => []
def temps (i : I) : List Nat := (uses i).flatMap tmpOf

section
variable {G : Nat → Option (List V)} {e e' : Env} {o o' : Hp} {base cx : Nat} {cf : CallFn}

theorem evA_congr {x : Arg} (h : ∀ t ∈ tmpOf x, e t = e' t) : evA G e x = evA G e' x := by
  cases x with
  | tmp t => exact h t (by simp [tmpOf])
  | _ => rfl
theorem optN_congr {d : Nat} {x : Option Arg} (h : ∀ y ∈ x.toList, evA G e y = evA G e' y) : optN G e d x = optN G e' d x := by
  cases x with
  | none => rfl
  | some y => simp only [optN, h y (by simp)]
theorem fillParts_congr : ∀ {ps : List (Nat × Nat × Arg)} {cs : List V}, (∀ y ∈ ps.map (·.2.2), evA G e y = evA G e' y) → fillParts G e ps cs = fillParts G e' ps cs := by
  intro ps
  induction ps with
  | nil => intro cs _; rfl
  | cons p ps ih =>
    intro cs h
    obtain ⟨off, n, x⟩ := p
    have h1 := h x (by simp)
    simp only [fillParts, h1]
    have : fillParts G e ps = fillParts G e' ps := funext fun cs => ih fun y hy => h y (by simp at hy ⊢; exact .inr hy)
    rw [this]
theorem fillElems_congr {esz : Nat} : ∀ {ps : List (Nat × Arg)} {xs : List (List V)}, (∀ y ∈ ps.map (·.2), evA G e y = evA G e' y) → fillElems G e esz ps xs = fillElems G e' esz ps xs := by
  intro ps
  induction ps with
  | nil => intro cs _; rfl
  | cons p ps ih =>
    intro cs h
    obtain ⟨off, x⟩ := p
    have h1 := h x (by simp)
    simp only [fillElems, h1]
    rw [ih fun y hy => h y (by simp at hy ⊢; exact .inr hy)]

theorem stepI_env {i : I} (h : ∀ x ∈ uses i, evA G e x = evA G e' x) : stepI G e o base i = stepI G e' o base i := by
  cases i <;> simp only [uses, List.mem_cons, List.not_mem_nil, or_false, forall_eq_or_imp, forall_eq] at h <;> simp only [stepI]
  case build zero ps => rw [fillParts_congr h]
  case lit k esz zero ps => rw [fillElems_congr h]
  case ilit esz zero ps => rw [fillElems_congr h]
  case mkFn f xs => rw [List.map_congr_left h]
  case mmax xs => rw [List.map_congr_left h]
  case mmin xs => rw [List.map_congr_left h]
  case sliceS x lo hi =>
    rw [h.1, optN_congr (x := lo) fun y hy => h.2 y (by simp [hy])]
    have h2 : ∀ d, optN G e d hi = optN G e' d hi := fun d => optN_congr fun y hy => h.2 y (by simp [hy])
    simp only [h2]
  case sliceL esz x lo hi =>
    rw [h.1, optN_congr (x := lo) fun y hy => h.2 y (by simp [hy])]
    have h2 : ∀ d, optN G e d hi = optN G e' d hi := fun d => optN_congr fun y hy => h.2 y (by simp [hy])
    simp only [h2]
  case sliceA n esz x lo hi =>
    rw [h.1, optN_congr (x := lo) fun y hy => h.2 y (by simp [hy])]
    have h2 : ∀ d, optN G e d hi = optN G e' d hi := fun d => optN_congr fun y hy => h.2 y (by simp [hy])
    simp only [h2]
  all_goals (first | rfl | (simp only [h]; done) | (simp only [h.1, h.2]; done) | (simp only [h.1, h.2.1, h.2.2]; done))

theorem doOp_env {i : I} (h : ∀ t ∈ temps i, e t = e' t) : doOp G cf base cx e o i = doOp G cf base cx e' o i := by
  have h' : ∀ x ∈ uses i, evA G e x = evA G e' x := fun x hx => evA_congr fun t ht => h t (List.mem_flatMap.2 ⟨x, hx, ht⟩)
  have hs := stepI_env (o := o) (base := base) h'
  cases i with
  | call f args raw own =>
    simp only [uses, List.mem_cons, forall_eq_or_imp] at h'
    simp only [doOp, h'.1]
    rw [List.map_congr_left h'.2]
  | panic x =>
    simp only [uses, List.mem_cons, List.not_mem_nil, or_false, forall_eq] at h'
    simp only [doOp, h']
  | _ => simp only [doOp, hs]

/-! ### Objects -/

def memfree : I → Bool
  | .mov _ | .pick _ _ _ | .build _ _ | .ilit _ _ _ | .nilCheck _ | .bin _ _ _ | .eqv _ _ _ _ | .eqp _ _ _ | .eqb _ _ _ | .un _ _ | .convInt _ _ | .convBytes _
  | .arrPtr _ _ | .mkIface _ _ | .mkFn _ _ | .sliceS _ _ _ | .sliceA _ _ _ _ _ | .fieldAddr _ _ | .field _ _ _ | .indexAddrA _ _ _ _ | .indexS _ _ | .indexA _ _ _ _ _
  | .len _ | .lenS _ | .lenA _ | .cap0 _ | .mmax _ | .mmin _ | .extract _ _ | .panic _ => true
  | _ => false
def rdonly : I → Bool
  | .load _ _ | .sliceL _ _ _ _ | .indexAddrL _ _ _ | .convStr _ => true
  | _ => false
def mayPanic : I → Bool
  | .call _ _ _ _ | .panic _ => true
  | _ => false

theorem okV_free {v : Option V} {act : Act} (h : okV v = some act) : act.ups = [] ∧ act.rd = [] := by
  cases v with
  | none => cases h
  | some v => cases h; exact ⟨rfl, rfl⟩
theorem ok_free {v : V} {act : Act} (h : ok v = some act) : act.ups = [] ∧ act.rd = [] := by cases h; exact ⟨rfl, rfl⟩

theorem stepI_free {i : I} (hi : memfree i = true) : stepI G e o base i = stepI G e o' base i ∧ ∀ act, stepI G e o base i = some act → act.ups = [] ∧ act.rd = [] := by
  cases i <;> simp only [memfree, Bool.false_eq_true] at hi
  all_goals
    refine ⟨rfl, fun act h => ?_⟩
    simp only [stepI] at h
    repeat (first
      | (with_reducible exact okV_free h)
      | (with_reducible exact ok_free h)
      | (focus ((with_reducible cases h); done))
      | split at h
      | (replace h := bind_some' h; obtain ⟨_, _, h⟩ := h))

end
end Go.Proofs.YtoccgkgdhobmfaaDoor.Am

/- The abstract machine, part 21: which objects an operation looks at. -/
set_option linter.unusedVariables false
set_option linter.unusedSimpArgs false
namespace Go.Proofs.YtoccgkgdhobmfaaDoor.Am
open Go

section
variable {G : Nat → Option (List V)} {e e' : Env} {o o' : Hp} {base cx : Nat} {cf : CallFn}

theorem peek_loc {n : Nat} {v : V} {r : List V × List Nat} (h : peek o n v = some r) (hr : ∀ i ∈ r.2, o' i = o i) : peek o' n v = some r := by
  cases v <;> simp only [peek] at h ⊢ <;> (try cases h)
  case ptr i off =>
    obtain ⟨cs, h1, h2⟩ := bind_some' h
    obtain ⟨l, h3, rfl⟩ := map_some' h2
    have : rdBox o' i = rdBox o i := by unfold rdBox; rw [hr i (by simp)]
    rw [this]; exact h
  case ept i j off =>
    obtain ⟨cs, h1, h2⟩ := bind_some' h
    obtain ⟨l, h3, h4⟩ := bind_some' h2
    obtain ⟨l', h5, rfl⟩ := map_some' h4
    have : rdVec o' i = rdVec o i := by unfold rdVec; rw [hr i (by simp)]
    rw [this]; exact h
  case imp cs off => exact h

theorem poke_loc {new : List V} {v : V} {r : List (Nat × AObj)} (h : poke o new v = some r) (hr : ∀ i ∈ ids r, o' i = o i) : poke o' new v = some r := by
  cases v <;> simp only [poke] at h ⊢ <;> (try cases h)
  case ptr i off =>
    split at h
    · rename_i cs ho
      obtain ⟨l, h1, rfl⟩ := map_some' h
      rw [hr i (by simp [ids]), ho]; exact h
    · cases h
  case ept i j off =>
    split at h
    · rename_i e xs ho
      obtain ⟨c, h1, h2⟩ := bind_some' h
      obtain ⟨l, h3, rfl⟩ := map_some' h2
      rw [hr i (by simp [ids]), ho]; exact h
    · cases h

theorem elemsOf_loc {esz : Nat} {v : V} {r : List (List V) × List Nat} (h : elemsOf o esz v = some r) (hr : ∀ i ∈ r.2, o' i = o i) : elemsOf o' esz v = some r := by
  cases v <;> simp only [elemsOf] at h ⊢ <;> (try exact h)
  case vsl i st len =>
    obtain ⟨ex, h1, h2⟩ := bind_some' h
    have : i ∈ r.2 := by
      split at h2
      · cases h2; simp
      · cases h2
    have : rdVec o' i = rdVec o i := by unfold rdVec; rw [hr i this]
    rw [this]; exact h
  case bsl i off len e =>
    split at h
    · rename_i he
      obtain ⟨cs, h1, h2⟩ := bind_some' h
      obtain ⟨l, h3, rfl⟩ := map_some' h2
      have : rdBox o' i = rdBox o i := by unfold rdBox; rw [hr i (by simp)]
      rw [if_pos he, this]; exact h
    · cases h

theorem sliceElems_loc {esz lo hi : Nat} {v : V} {act : Act} (h : sliceElems o esz lo hi v = some act) (hr : ∀ i ∈ act.rd, o' i = o i) : sliceElems o' esz lo hi v = some act := by
  cases v <;> simp only [sliceElems] at h ⊢ <;> (try exact h)
  case vsl i st len =>
    obtain ⟨ex, h1, h2⟩ := bind_some' h
    have : i ∈ act.rd := by
      split at h2
      · cases h2; simp
      · cases h2
    have : rdVec o' i = rdVec o i := by unfold rdVec; rw [hr i this]
    rw [this]; exact h

theorem idxL_loc {esz j : Nat} {v : V} {act : Act} (h : idxL o esz j v = some act) (hr : ∀ i ∈ act.rd, o' i = o i) : idxL o' esz j v = some act := by
  cases v <;> simp only [idxL] at h ⊢ <;> (try exact h)
  case vsl i st len =>
    obtain ⟨ex, h1, h2⟩ := bind_some' h
    have : i ∈ act.rd := by
      split at h2
      · cases h2; simp
      · cases h2
    have : rdVec o' i = rdVec o i := by unfold rdVec; rw [hr i this]
    rw [this]; exact h

theorem appendTo_loc {id esz eb : Nat} {new : List (List V)} {rd : List Nat} {v : V} {act : Act} (h : appendTo o id esz eb new rd v = some act) (hr : ∀ i ∈ ids act.ups, o' i = o i) :
    appendTo o' id esz eb new rd v = some act ∧ act.rd = rd := by
  cases v <;> simp only [appendTo] at h ⊢
  case nils e =>
    refine ⟨h, ?_⟩
    split at h
    · split at h <;> (cases h; rfl)
    · cases h
  case sl e xs =>
    refine ⟨h, ?_⟩
    split at h
    · cases h; rfl
    · cases h
  case vsl i st len =>
    split at h
    · rename_i e xs ho
      split at h
      · rename_i hc
        cases h
        rw [hr i (by simp [ids]), ho]
        simp only [hc, if_true, and_self, and_true]
      · cases h
    · cases h
  all_goals cases h

/-- A step needs no more than what it says. -/
theorem stepI_loc {i : I} {act : Act} (h : stepI G e o base i = some act) (hr : ∀ x ∈ act.rd, o' x = o x) (hw : ∀ x ∈ ids act.ups, o' x = o x) : stepI G e o' base i = some act := by
  by_cases hf : memfree i = true
  · rw [(stepI_free (o := o') (o' := o) hf).1]; exact h
  cases i <;> (try (simp [memfree] at hf; done)) <;> simp only [stepI] at h ⊢ <;> (try exact h)
  case load agg x =>
    obtain ⟨r, h1, h2⟩ := bind_some' h
    obtain ⟨v, h3, rfl⟩ := map_some' h2
    rw [peek_loc h1 hr]; simp [h3]
  case store n x y =>
    split at h
    · rename_i hc
      obtain ⟨u, h1, rfl⟩ := map_some' h
      rw [if_pos hc, poke_loc h1 hw]; rfl
    · cases h
  case convStr x =>
    split at h
    · cases h
    · rename_i hc
      obtain ⟨r, h1, h2⟩ := bind_some' h
      obtain ⟨s, h3, rfl⟩ := map_some' h2
      rw [if_neg hc, elemsOf_loc h1 hr]; simp [h3]
  case convSl x =>
    split at h
    · rename_i i st len hx
      split at h
      · rename_i s xs ho
        split at h
        · rename_i hlen
          cases h
          rw [hw i (by simp [ids]), ho]
          simp [hlen]
        · cases h
      · cases h
    · cases h
  case sliceL esz x lo hi =>
    obtain ⟨n, h1, h⟩ := bind_some' h
    obtain ⟨l, h2, h⟩ := bind_some' h
    obtain ⟨r, h3, h⟩ := bind_some' h
    simp only [h1, h2, h3, Option.bind_some]
    exact sliceElems_loc h hr
  case indexAddrL esz x y =>
    obtain ⟨j, h1, h⟩ := bind_some' h
    simp only [h1, Option.bind_some]
    exact idxL_loc h hr
  case append k esz eb s x =>
    obtain ⟨r, h1, h⟩ := bind_some' h
    obtain ⟨h2, h3⟩ := appendTo_loc h hw
    rw [elemsOf_loc h1 (by rw [← h3]; exact hr)]
    exact h2
  case appendZ k esz eb zero s n =>
    obtain ⟨m, h1, h⟩ := bind_some' h
    split at h
    · rename_i hc
      simp only [h1, Option.bind_some]
      rw [if_pos hc]
      exact (appendTo_loc h hw).1
    · cases h
  case copy esz d s =>
    obtain ⟨r, h1, h⟩ := bind_some' h
    split at h
    · rename_i i off len t hd
      split at h
      · rename_i hc
        split at h
        · rename_i cs ho
          obtain ⟨c, h2, rfl⟩ := map_some' h
          rw [elemsOf_loc h1 hr]
          simp only [Option.bind_some]
          rw [if_pos hc, hw i (by simp [ids]), ho]
          simp [h2]
        · cases h
      · cases h
    · cases h

theorem flatMap_congr' {α β : Type} {l : List α} {f g : α → List β} (h : ∀ a ∈ l, f a = g a) : l.flatMap f = l.flatMap g := by
  induction l with
  | nil => rfl
  | cons a l ih => simp only [List.flatMap_cons, h a (by simp), ih fun b hb => h b (by simp [hb])]

theorem seqM_congr {α β γ : Type} {f g : α → Option (β × List γ)} {l : List α} (h : ∀ a ∈ l, f a = g a) : seqM f l = seqM g l := by
  induction l with
  | nil => rfl
  | cons a l ih => simp only [seqM, h a (by simp), ih fun b hb => h b (by simp [hb])]

theorem looks_loc : ∀ (n : Nat) (v : V), (∀ i ∈ looks o n v, o' i = o i) → frz o' n v = frz o n v ∧ looks o' n v = looks o n v := by
  intro n
  induction n with
  | zero => intro v _; exact ⟨rfl, rfl⟩
  | succ n ih =>
    intro v h
    have hc : ∀ {cs : List V}, (∀ i ∈ cs.flatMap (looks o n), o' i = o i) → seqM (frz o' n) cs = seqM (frz o n) cs ∧ cs.flatMap (looks o' n) = cs.flatMap (looks o n) := by
      intro cs hcs
      have hv : ∀ v ∈ cs, frz o' n v = frz o n v ∧ looks o' n v = looks o n v := fun v hv => ih v fun i hi => hcs i (List.mem_flatMap.2 ⟨v, hv, hi⟩)
      exact ⟨seqM_congr fun v hm => (hv v hm).1, flatMap_congr' fun v hm => (hv v hm).2⟩
    cases v <;> simp only [looks, frz] at h ⊢ <;> (try exact ⟨rfl, rfl⟩) <;> (try exact ⟨trivial, trivial⟩)
    case ptr i off =>
      have h0 := h i (by simp)
      rw [h0]
      cases ho : o i <;> (try exact ⟨rfl, rfl⟩)
      rename_i cs
      rw [ho] at h
      obtain ⟨h1, h2⟩ := hc (cs := cs) fun j hj => h j (by simp only [List.mem_cons]; exact .inr hj)
      simp only [h1, h2, and_self]
    case bsl i off len e =>
      have h0 := h i (by simp)
      rw [h0]
      cases ho : o i <;> (try exact ⟨rfl, rfl⟩)
      rename_i cs
      rw [ho] at h
      obtain ⟨h1, h2⟩ := hc (cs := cs) fun j hj => h j (by simp only [List.mem_cons]; exact .inr hj)
      simp only [h1, h2, and_self]
    case vsl i st len =>
      have h0 := h i (by simp)
      rw [h0]
      cases ho : o i <;> (try exact ⟨rfl, rfl⟩)
      rename_i e xs
      rw [ho] at h
      have hl : ∀ l ∈ xs, seqM (frz o' n) l = seqM (frz o n) l ∧ l.flatMap (looks o' n) = l.flatMap (looks o n) := fun l hl =>
        hc (cs := l) fun j hj => h j (by simp only [List.mem_cons]; exact .inr (List.mem_flatMap.2 ⟨l, hl, hj⟩))
      have e1 : seqM (seqM (frz o' n)) xs = seqM (seqM (frz o n)) xs := seqM_congr fun l hm => (hl l hm).1
      have e2 : (xs.flatMap fun l => l.flatMap (looks o' n)) = xs.flatMap fun l => l.flatMap (looks o n) := flatMap_congr' fun l hm => (hl l hm).2
      simp only [e1, e2, and_self]
    case fn f caps => obtain ⟨h1, h2⟩ := hc h; simp only [h1, h2, and_self]
    case agg cs => obtain ⟨h1, h2⟩ := hc h; simp only [h1, h2, and_self]
    case tup cs => obtain ⟨h1, h2⟩ := hc h; simp only [h1, h2, and_self]
    case iface t v => obtain ⟨h1, h2⟩ := ih v h; simp only [h1, h2, and_self]

theorem frzArgs_loc : ∀ {l : List V} {m : List Bool}, (∀ i ∈ looksArgs o l m, o' i = o i) → frzArgs o' l m = frzArgs o l m ∧ looksArgs o' l m = looksArgs o l m := by
  intro l
  induction l with
  | nil => intro m h; exact ⟨rfl, rfl⟩
  | cons a l ih =>
    intro m h
    match m, h with
    | true :: m, h =>
      simp only [looksArgs] at h
      obtain ⟨h1, h2⟩ := ih h
      simp only [frzArgs, looksArgs, h1, h2, and_self]
    | false :: m, h =>
      simp only [looksArgs, List.tail_cons] at h
      obtain ⟨h1, h2⟩ := looks_loc deep a fun i hi => h i (List.mem_append_left _ hi)
      obtain ⟨h3, h4⟩ := ih (m := m) fun i hi => h i (List.mem_append_right _ hi)
      simp only [frzArgs, looksArgs, List.tail_cons, h1, h2, h3, h4, and_self]
    | [], h =>
      simp only [looksArgs, List.tail_nil] at h
      obtain ⟨h1, h2⟩ := looks_loc deep a fun i hi => h i (List.mem_append_left _ hi)
      obtain ⟨h3, h4⟩ := ih (m := []) fun i hi => h i (List.mem_append_right _ hi)
      simp only [frzArgs, looksArgs, List.tail_nil, h1, h2, h3, h4, and_self]

theorem reach_acc : ∀ (n : Nat) (todo acc L : List Nat), reach o n todo acc = some L → ∀ i ∈ acc, i ∈ L := by
  intro n
  induction n with
  | zero => intro todo acc L h; cases h
  | succ n ih =>
    intro todo acc L h i hi
    cases todo with
    | nil => cases h; exact hi
    | cons j r =>
      simp only [reach] at h
      split at h
      · exact ih _ _ _ h i hi
      · obtain ⟨l, e1, e2⟩ := bind_some' h
        exact ih _ _ _ e2 i (by simp [hi])
theorem reach_loc : ∀ (n : Nat) (todo acc L : List Nat), reach o n todo acc = some L → (∀ i ∈ L, o' i = o i) → reach o' n todo acc = some L := by
  intro n
  induction n with
  | zero => intro todo acc L h; cases h
  | succ n ih =>
    intro todo acc L h hL
    cases todo with
    | nil => exact h
    | cons j r =>
      simp only [reach] at h ⊢
      split at h
      · rename_i hc; rw [if_pos hc]; exact ih _ _ _ h hL
      · rename_i hc
        rw [if_neg hc]
        obtain ⟨l, e1, e2⟩ := bind_some' h
        have := reach_acc _ _ _ _ e2 j (by simp)
        rw [hL j this, e1]
        exact ih _ _ _ e2 hL

theorem restrict_loc {L : List Nat} (h : ∀ i ∈ L, o' i = o i) : restrict o' L = restrict o L := by
  funext i
  unfold restrict
  split
  · rename_i hc; exact h i (by simpa using hc)
  · rfl

theorem doCall_wr {f : V} {args : List V} {raw : List Bool} {own : Option Nat} {v : V} {u : List (Nat × AObj)} {fp : Fp} (h : doCall cf o base cx f args raw own = some (.act v u fp)) : fp.wr = ids u := by
  unfold doCall at h
  split at h
  · simp only at h
    obtain ⟨r0, h1, h⟩ := bind_some' h
    obtain ⟨L, h2, h⟩ := bind_some' h
    obtain ⟨fa, h3, h⟩ := bind_some' h
    split at h
    · split at h
      · split at h
        · cases h
          simp only [ids_append, ids_map]
        · cases h
      · cases h
      · cases h
    · cases h
  · cases h

theorem doCall_loc {f : V} {args : List V} {raw : List Bool} {own : Option Nat} {v : V} {u : List (Nat × AObj)} {fp : Fp} (h : doCall cf o base cx f args raw own = some (.act v u fp))
    (hr : ∀ x ∈ fp.rd, o' x = o x) (hw : ∀ x ∈ fp.wr, o' x = o x) : doCall cf o' base cx f args raw own = some (.act v u fp) := by
  have h0 := h
  unfold doCall at h ⊢
  split at h
  · rename_i g caps
    simp only at h ⊢
    obtain ⟨r0, h1, h⟩ := bind_some' h
    obtain ⟨L, h2, h⟩ := bind_some' h
    obtain ⟨fa, h3, h⟩ := bind_some' h
    have key : (∀ i ∈ L, i ∈ fp.wr) ∧ fp.rd = looksArgs o (args ++ caps) raw := by
      split at h
      · split at h
        · split at h
          · cases h
            exact ⟨fun i hi => by simp [hi], rfl⟩
          · cases h
        · cases h
        · cases h
      · cases h
    have hL : ∀ i ∈ L, o' i = o i := fun i hi => hw i (key.1 i hi)
    obtain ⟨k1, k2⟩ := frzArgs_loc (o := o) (o' := o') (l := args ++ caps) (m := raw) (by rw [← key.2]; exact hr)
    simp only [h1, Option.bind_some, reach_loc _ _ _ _ h2 hL, k1, h3, k2, restrict_loc hL]
    exact h
  · cases h

theorem doOp_wr {i : I} {v : V} {u : List (Nat × AObj)} {fp : Fp} (h : doOp G cf base cx e o i = some (.act v u fp)) : fp.wr = ids u := by
  cases i with
  | call f args raw own => exact doCall_wr h
  | panic x =>
    simp only [doOp] at h
    split at h
    · split at h <;> cases h
    · cases h
  | _ =>
    simp only [doOp] at h
    obtain ⟨a, h1, h2⟩ := map_some' h
    cases h2; rfl

theorem doOp_loc {i : I} {v : V} {u : List (Nat × AObj)} {fp : Fp} (h : doOp G cf base cx e o i = some (.act v u fp)) (hr : ∀ x ∈ fp.rd, o' x = o x) (hw : ∀ x ∈ fp.wr, o' x = o x) :
    doOp G cf base cx e o' i = some (.act v u fp) := by
  cases i with
  | call f args raw own => exact doCall_loc h hr hw
  | panic x => exact h
  | _ =>
    simp only [doOp] at h ⊢
    obtain ⟨a, h1, h2⟩ := map_some' h
    cases h2
    rw [stepI_loc h1 hr hw]; rfl

theorem doOp_free {i : I} {v : V} {u : List (Nat × AObj)} {fp : Fp} (hi : memfree i = true) (h : doOp G cf base cx e o i = some (.act v u fp)) : u = [] ∧ fp.rd = [] := by
  cases i with
  | call f args raw own => simp [memfree] at hi
  | panic x =>
    simp only [doOp] at h
    split at h
    · split at h <;> cases h
    · cases h
  | _ =>
    simp only [doOp] at h
    obtain ⟨a, h1, h2⟩ := map_some' h
    cases h2
    exact (stepI_free (o' := o) hi).2 a h1

theorem sliceElems_ups {esz lo hi : Nat} {v : V} {act : Act} (h : sliceElems o esz lo hi v = some act) : act.ups = [] := by
  cases v <;> simp only [sliceElems] at h
  case nils e => split at h; exact (ok_free h).1; cases h
  case sl e xs => split at h; exact (ok_free h).1; cases h
  case vsl i st len => obtain ⟨ex, h1, h2⟩ := bind_some' h; split at h2; cases h2; rfl; cases h2
  case bsl i off len e => split at h; exact (ok_free h).1; cases h
  all_goals cases h
theorem idxL_ups {esz j : Nat} {v : V} {act : Act} (h : idxL o esz j v = some act) : act.ups = [] := by
  cases v <;> simp only [idxL] at h
  case sl s xs => split at h; obtain ⟨c, h1, h2⟩ := bind_some' h; exact (ok_free h2).1; cases h
  case vsl i st len => obtain ⟨ex, h1, h2⟩ := bind_some' h; split at h2; cases h2; rfl; cases h2
  case bsl i off len s => split at h; exact (ok_free h).1; cases h
  all_goals cases h
theorem doOp_rdonly {i : I} {v : V} {u : List (Nat × AObj)} {fp : Fp} (hi : rdonly i = true) (h : doOp G cf base cx e o i = some (.act v u fp)) : u = [] := by
  cases i <;> simp only [rdonly, Bool.false_eq_true] at hi
  all_goals
    simp only [doOp] at h
    obtain ⟨a, h1, h2⟩ := map_some' h
    cases h2
    simp only [stepI] at h1
  · obtain ⟨r, g1, g2⟩ := bind_some' h1
    obtain ⟨w, g3, rfl⟩ := map_some' g2; rfl
  · split at h1
    · cases h1
    · obtain ⟨r, g1, g2⟩ := bind_some' h1
      obtain ⟨w, g3, rfl⟩ := map_some' g2; rfl
  · obtain ⟨r, g1, g2⟩ := bind_some' h1
    obtain ⟨r2, g3, g4⟩ := bind_some' g2
    obtain ⟨r3, g5, g6⟩ := bind_some' g4
    exact sliceElems_ups g6
  · obtain ⟨r, g1, g2⟩ := bind_some' h1
    exact idxL_ups g2

theorem doOp_panics {i : I} {v : V} (h : doOp G cf base cx e o i = some (.panic v)) : mayPanic i = true := by
  cases i with
  | call f args raw own => rfl
  | panic x => rfl
  | _ =>
    simp only [doOp] at h
    obtain ⟨a, h1, h2⟩ := map_some' h
    cases h2

end
end Go.Proofs.YtoccgkgdhobmfaaDoor.Am
