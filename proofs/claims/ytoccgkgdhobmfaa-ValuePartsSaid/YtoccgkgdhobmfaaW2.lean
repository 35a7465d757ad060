/- Part 2 of a proof: the abstract machine and the contracts of the program. -/
import Derived.Test.YtoccgkgdhobmfaaW1
import Derived.Orders
import Derived.Scope
set_option linter.unusedVariables false
set_option linter.unusedSimpArgs false
namespace Go.Proofs.Ytoccgkgdhobmfaa.Am
open Go
theorem seqM_get {α β γ : Type} {f : α → Option (β × List γ)} : ∀ {l : List α} {r : List β × List γ}, seqM f l = some r →
    r.1.length = l.length ∧ (∀ (j : Nat) a, l[j]? = some a → ∃ q, f a = some q ∧ r.1[j]? = some q.1 ∧ ∀ y ∈ q.2, y ∈ r.2) ∧ ∀ y ∈ r.2, ∃ a q, a ∈ l ∧ f a = some q ∧ y ∈ q.2 := by
  intro l
  induction l with
  | nil => intro r h; cases h; exact ⟨rfl, by simp, by simp⟩
  | cons a l ih =>
    intro r h
    simp only [seqM] at h
    obtain ⟨q, h1, h2⟩ := bind_some' h
    obtain ⟨s, h3, rfl⟩ := map_some' h2
    obtain ⟨g1, g2, g3⟩ := ih h3
    refine ⟨by simp [g1], ?_, ?_⟩
    · intro j b hj
      cases j with
      | zero => simp at hj; subst hj; exact ⟨q, h1, by simp, fun y hy => List.mem_append_left _ hy⟩
      | succ j =>
        simp only [List.getElem?_cons_succ] at hj
        obtain ⟨q', e1, e2, e3⟩ := g2 j b hj
        exact ⟨q', e1, by simpa using e2, fun y hy => List.mem_append_right _ (e3 y hy)⟩
    · intro y hy
      rcases List.mem_append.1 hy with h | h
      · exact ⟨a, q, by simp, h1, h⟩
      · obtain ⟨b, q', e1, e2, e3⟩ := g3 y h
        exact ⟨b, q', by simp [e1], e2, e3⟩
section
variable {M M2 : Mem} {β : Names} {N : Nat} {Wr : Nat → Prop} {o : Hp} {w : World}
/-- What holds of an object that stands still from now on. -/
def Still (M2 : Mem) (β : Names) (w : World) (o : Hp) (i : Nat) (a : AObj) : Prop :=
  wrt (o i) = true ∧ wrt a = false ∧ a ≠ .dead ∧ ∃ k, β i = some k ∧ Holds M2 β (fun _ => False) w k a
theorem boxAt_frz {size : Nat} {cs cs' : List V} {ob : Option Obj} (h : BoxAt ob size (Rel M β) cs) (hl : cs'.length = cs.length)
    (hf : ∀ (j : Nat) v x, cs[j]? = some v → Rel M β v x → ∃ v', cs'[j]? = some v' ∧ PRel M2 v' x) : BoxAt ob size (PRel M2) cs' := by
  obtain ⟨c, ty, fr, hb, hc, hs, hle, hr⟩ := h
  refine ⟨c, ty, fr, hb, hc, hs, by omega, ?_⟩
  intro j v' hj
  have hlt : j < cs.length := by rw [← hl]; exact (List.getElem?_eq_some_iff.1 hj).1
  obtain ⟨x, h1, h2, h3⟩ := hr j cs[j] (List.getElem?_eq_getElem hlt)
  obtain ⟨v'', h4, h5⟩ := hf j _ x (List.getElem?_eq_getElem hlt) h3
  rw [hj] at h4; cases h4
  exact ⟨x, h1, h2, h5⟩
theorem flat_map_get {xs xs' : List (List V)} {e : Nat} (he : ∀ l ∈ xs, l.length = e) (hl : xs'.length = xs.length)
    (h : ∀ (i : Nat) l, xs[i]? = some l → ∃ l', xs'[i]? = some l' ∧ l'.length = l.length) : (∀ l ∈ xs', l.length = e) ∧ xs'.flatten.length = xs.flatten.length := by
  have h1 : ∀ l ∈ xs', l.length = e := by
    intro l hl'
    obtain ⟨i, hi⟩ := List.getElem?_of_mem hl'
    have hlt : i < xs.length := by rw [← hl]; exact (List.getElem?_eq_some_iff.1 hi).1
    obtain ⟨l', h2, h3⟩ := h i xs[i] (List.getElem?_eq_getElem hlt)
    rw [hi] at h2; cases h2
    rw [h3]; exact he _ (List.getElem_mem _)
  exact ⟨h1, by rw [flat_len h1, flat_len he, hl]⟩
/-- Stable cells that are named by a list of elements. -/
theorem prel_sl_of_box {e st len size : Nat} {xs : List (List V)} {b : Nat} {cap : Nat} {a : Option Addr} (h : BoxAt (M2 b) size (PRel M2) xs.flatten) (hall : ∀ l ∈ xs, l.length = e) (hst : st + len ≤ xs.length) (hcap : len ≤ cap) (ha : len ≠ 0 → a = some ⟨b, st * e, none⟩) :
    PRel M2 (.sl e ((xs.drop st).take len)) (.slice a len cap) := by
  obtain ⟨c, ty, fr, hb, hc, hs, hle, hr⟩ := h
  have hlen : ((xs.drop st).take len).length = len := by simp; omega
  have hget : ∀ (i : Nat) (l : List V), ((xs.drop st).take len)[i]? = some l → xs[st + i]? = some l := by
    intro i l hi
    rw [List.getElem?_take] at hi
    split at hi
    · rwa [List.getElem?_drop] at hi
    · cases hi
  have hcell : ∀ (i : Nat) (l : List V) (j : Nat) (v : V), ((xs.drop st).take len)[i]? = some l → l[j]? = some v → ∃ x, c[(st + i) * e + j]? = some x ∧ x.oneCell' = true ∧ PRel M2 v x := by
    intro i l j v hi hj
    exact hr _ v (flat_get hall (hget i l hi) hj)
  have := PRel.sl (M := M2) e ((xs.drop st).take len) a cap b (st * e) (fun i j => c.getD ((st + i) * e + j) undef) (by rw [hlen]; exact hcap)
    (fun hne => ha (by intro h0; subst h0; simp at hne))
    (fun i l hi => hall l (List.mem_of_getElem? (hget i l hi)))
    (fun i l j v hi hj => by
      obtain ⟨x, h1, _⟩ := hcell i l j v hi hj
      have h2 : st * e + (i * e + j) = (st + i) * e + j := by rw [Nat.add_mul]; omega
      simp only [cellAt, hb, h2, h1, getD_of_getElem? h1])
    (fun i l j v hi hj => by obtain ⟨x, h1, h2, _⟩ := hcell i l j v hi hj; rw [getD_of_getElem? h1]; exact h2)
    (fun i l j v hi hj => by obtain ⟨x, h1, _, h2⟩ := hcell i l j v hi hj; rw [getD_of_getElem? h1]; exact h2)
  rwa [hlen] at this
theorem prel_imp_of_box {size off : Nat} {cs : List V} {b : Nat} (h : BoxAt (M2 b) size (PRel M2) cs) : PRel M2 (.imp cs off) (.pointer (some ⟨b, off, none⟩)) := by
  obtain ⟨c, ty, fr, hb, hc, hs, hle, hr⟩ := h
  have := PRel.imp (M := M2) cs off b 0 (fun j => c.getD j undef)
    (fun j v hj => by obtain ⟨x, h1, _⟩ := hr j v hj; simp only [cellAt, hb, Nat.zero_add, h1, getD_of_getElem? h1])
    (fun j v hj => by obtain ⟨x, h1, h2, _⟩ := hr j v hj; rw [getD_of_getElem? h1]; exact h2)
    (fun j v hj => by obtain ⟨x, h1, _, h2⟩ := hr j v hj; rw [getD_of_getElem? h1]; exact h2)
  simpa using this
theorem PRel.slEmpty (M : Mem) (e : Nat) (a : Option Addr) (cap : Nat) : PRel M (.sl e []) (.slice a 0 cap) :=
  .sl e [] a cap 0 0 (fun _ _ => undef) (Nat.zero_le _) (fun h => absurd rfl h) (by simp) (by simp) (by simp) (by simp)
theorem cut_map {cs cs' l : List V} {off n : Nat} (h : cut off n cs = some l) (hl : cs'.length = cs.length) : ∃ l', cut off n cs' = some l' := by
  obtain ⟨h1, _⟩ := cut_some h
  exact ⟨_, by unfold cut; rw [if_pos (by omega)]⟩
/-- A value that is made to stand still. 'M2' has the blocks of the objects that are led to. -/
theorem frz_sound (hsr : SR M β N Wr o w) (hM : ∀ b y, M b = some y → M2 b = some y) : ∀ (n : Nat) (v : V) (r : V × List (Nat × AObj)) (x : Value), frz o n v = some r → Rel M β v x →
    (∀ i a, (i, a) ∈ r.2 → ∀ k, β i = some k → M2 k.b = w.heap[k.b]?) → PRel M2 r.1 x ∧ ∀ i a, (i, a) ∈ r.2 → Still M2 β w o i a := by
  intro n
  induction n with
  | zero => intro v r x h; cases h
  | succ n ih =>
    intro v r x h hr hm
    have hcells : ∀ {cs : List V} {q : List V × List (Nat × AObj)}, seqM (frz o n) cs = some q → (∀ i a, (i, a) ∈ q.2 → ∀ k, β i = some k → M2 k.b = w.heap[k.b]?) →
        (∀ (j : Nat) v x, cs[j]? = some v → Rel M β v x → ∃ v', q.1[j]? = some v' ∧ PRel M2 v' x) ∧ ((∃ xf : V → Value, ∀ v ∈ cs, Rel M β v (xf v)) → ∀ i a, (i, a) ∈ q.2 → Still M2 β w o i a) := by
      intro cs q hq hmq
      obtain ⟨g1, g2, g3⟩ := seqM_get hq
      refine ⟨?_, ?_⟩
      · intro j v x hj hv
        obtain ⟨s, e1, e2, e3⟩ := g2 j v hj
        exact ⟨s.1, e2, (ih v s x e1 hv fun i a hi => hmq i a (e3 _ hi)).1⟩
      · rintro ⟨xf, hxf⟩ i a hi
        obtain ⟨b, s, e1, e2, e3⟩ := g3 _ hi
        refine (ih b s (xf b) e2 (hxf b e1) fun i a hi' => ?_).2 i a e3
        obtain ⟨j, hj⟩ := List.getElem?_of_mem e1
        obtain ⟨s', f1, f2, f3⟩ := g2 j b hj
        rw [e2] at f1; cases f1
        exact hmq i a (f3 _ hi')
    have hex : ∀ {cs : List V}, (∀ v ∈ cs, ∃ x, Rel M β v x) → ∃ xf : V → Value, ∀ v ∈ cs, Rel M β v (xf v) := by
      intro cs hcs
      exact ⟨fun v => Classical.epsilon fun x => Rel M β v x, fun v hv => Classical.epsilon_spec (hcs v hv)⟩
    cases v with
    | int k m => cases h; rw [hr.int_inv]; exact ⟨.int _ _, by simp⟩
    | bool b => cases h; rw [hr.bool_inv]; exact ⟨.bool _, by simp⟩
    | str s => cases h; rw [hr.str_inv]; exact ⟨.str _, by simp⟩
    | nilp => cases h; rw [hr.nilp_inv]; exact ⟨.nilp, by simp⟩
    | nilf => cases h; rw [hr.nilf_inv]; exact ⟨.nilf, by simp⟩
    | nili => cases h; rw [hr.nili_inv]; exact ⟨.nili, by simp⟩
    | imp c off => cases h; exact ⟨hr.imp_inv.mono hM, by simp⟩
    | sl e xs => cases h; exact ⟨hr.sl_inv.mono hM, by simp⟩
    | nils e => cases h; rw [hr.nils_inv]; exact ⟨PRel.slEmpty _ _ _ _, by simp⟩
    | junk => cases h
    | ept i j off => cases h
    | own e xs => cases h
    | iface t u =>
      obtain ⟨q, h1, rfl⟩ := map_some' h
      obtain ⟨y, rfl, hy⟩ := hr.iface_inv
      obtain ⟨h2, h3⟩ := ih u q y h1 hy hm
      exact ⟨.iface _ _ _ h2, h3⟩
    | fn f caps =>
      obtain ⟨q, h1, rfl⟩ := map_some' h
      obtain ⟨xs, rfl, hl, hxs⟩ := hr.fn_inv
      obtain ⟨h2, h3⟩ := hcells h1 hm
      obtain ⟨g1, _, _⟩ := seqM_get h1
      refine ⟨.fn f q.1 xs (by rw [hl, g1]) ?_, h3 (hex ?_)⟩
      · intro j v hj
        have hlt : j < caps.length := by rw [← g1]; exact (List.getElem?_eq_some_iff.1 hj).1
        obtain ⟨v', e1, e2⟩ := h2 j caps[j] _ (List.getElem?_eq_getElem hlt) (hxs j _ (List.getElem?_eq_getElem hlt))
        rw [hj] at e1; cases e1; exact e2
      · intro v hv
        obtain ⟨j, hj⟩ := List.getElem?_of_mem hv
        exact ⟨_, hxs j v hj⟩
    | agg cs =>
      obtain ⟨q, h1, rfl⟩ := map_some' h
      obtain ⟨xs, rfl, hl, ho, hxs⟩ := hr.agg_inv
      obtain ⟨h2, h3⟩ := hcells h1 hm
      obtain ⟨g1, _, _⟩ := seqM_get h1
      refine ⟨.agg q.1 xs (by rw [hl, g1]) ?_ ?_, h3 (hex ?_)⟩
      · intro j v hj
        have hlt : j < cs.length := by rw [← g1]; exact (List.getElem?_eq_some_iff.1 hj).1
        exact ho j _ (List.getElem?_eq_getElem hlt)
      · intro j v hj
        have hlt : j < cs.length := by rw [← g1]; exact (List.getElem?_eq_some_iff.1 hj).1
        obtain ⟨v', e1, e2⟩ := h2 j cs[j] _ (List.getElem?_eq_getElem hlt) (hxs j _ (List.getElem?_eq_getElem hlt))
        rw [hj] at e1; cases e1; exact e2
      · intro v hv
        obtain ⟨j, hj⟩ := List.getElem?_of_mem hv
        exact ⟨_, hxs j v hj⟩
    | tup cs =>
      obtain ⟨q, h1, rfl⟩ := map_some' h
      obtain ⟨xs, rfl, hl, hxs⟩ := hr.tup_inv
      obtain ⟨h2, h3⟩ := hcells h1 hm
      obtain ⟨g1, _, _⟩ := seqM_get h1
      refine ⟨.tup q.1 xs (by rw [hl, g1]) ?_, h3 (hex ?_)⟩
      · intro j v hj
        have hlt : j < cs.length := by rw [← g1]; exact (List.getElem?_eq_some_iff.1 hj).1
        obtain ⟨v', e1, e2⟩ := h2 j cs[j] _ (List.getElem?_eq_getElem hlt) (hxs j _ (List.getElem?_eq_getElem hlt))
        rw [hj] at e1; cases e1; exact e2
      · intro v hv
        obtain ⟨j, hj⟩ := List.getElem?_of_mem hv
        exact ⟨_, hxs j v hj⟩
    | ptr i off =>
      obtain ⟨k, hβ, rfl⟩ := hr.ptr_inv
      simp only [frz] at h
      split at h
      · rename_i cs ho
        obtain ⟨q, h1, rfl⟩ := map_some' h
        obtain ⟨k', hk', hh⟩ := hsr.live i (by rw [ho]; simp)
        rw [hβ] at hk'; cases hk'
        rw [ho] at hh
        obtain ⟨hw1, hw2, hb⟩ := hh
        have hmk : M2 k.b = w.heap[k.b]? := hm i (.fbox q.1) (by simp) k hβ
        obtain ⟨h2, h3⟩ := hcells h1 (fun i a hi => hm i a (by simp [hi]))
        obtain ⟨g1, _, _⟩ := seqM_get h1
        have hbx : BoxAt (M2 k.b) k.size (PRel M2) q.1 := by rw [hmk]; exact boxAt_frz hb g1 h2
        refine ⟨prel_imp_of_box hbx, ?_⟩
        intro j a hj
        rcases List.mem_cons.1 hj with hj | hj
        · cases hj
          exact ⟨by rw [ho]; rfl, rfl, by simp, k, hβ, hbx⟩
        · refine h3 (hex ?_) j a hj
          intro v hv
          obtain ⟨j, hj⟩ := List.getElem?_of_mem hv
          obtain ⟨c, ty, fr, _, _, _, _, hrr⟩ := hb
          obtain ⟨x, _, _, hx⟩ := hrr j v hj
          exact ⟨x, hx⟩
      · rename_i cs ho
        cases h
        obtain ⟨k', hk', hh⟩ := hsr.live i (by rw [ho]; simp)
        rw [hβ] at hk'; cases hk'
        rw [ho] at hh
        exact ⟨prel_imp_of_box (hh.mono (fun x hx => hM _ x hx) (fun _ _ h => h.mono hM)), by simp⟩
      · cases h
    | vsl i st len =>
      simp only [frz] at h
      have hx : ∃ a cap, x = .slice a len cap ∧ len ≤ cap ∧ (len ≠ 0 → ∃ k, β i = some k ∧ a = some ⟨k.b, st * k.esz, none⟩) := by
        cases hr with
        | pure h => cases h
        | vsl _ _ _ cap k hk hl hs => exact ⟨_, cap, rfl, hl, fun _ => ⟨k, hk, rfl⟩⟩
        | vslE _ _ cap a hst => exact ⟨_, cap, rfl, by omega, fun h => absurd rfl h⟩
      obtain ⟨ad, cap, rfl, hcap, had⟩ := hx
      split at h
      · rename_i e xs ho
        split at h
        · rename_i hst
          obtain ⟨q, h1, rfl⟩ := map_some' h
          obtain ⟨k, hβ, hh⟩ := hsr.live i (by rw [ho]; simp)
          rw [ho] at hh
          obtain ⟨hw1, hw2, hes, hall, hb⟩ := hh
          have hmk : M2 k.b = w.heap[k.b]? := hm i (.fvec e q.1) (by simp) k hβ
          obtain ⟨g1, g2, g3⟩ := seqM_get h1
          have hmq : ∀ i a, (i, a) ∈ q.2 → ∀ k, β i = some k → M2 k.b = w.heap[k.b]? := fun i a hi => hm i a (by simp [hi])
          have hrel : ∀ l ∈ xs, ∀ v ∈ l, ∃ x, Rel M β v x := by
            intro l hl v hv
            obtain ⟨i', hi'⟩ := List.getElem?_of_mem hl
            obtain ⟨j, hj⟩ := List.getElem?_of_mem hv
            obtain ⟨c, ty, fr, _, _, _, _, hrr⟩ := hb
            obtain ⟨x, _, _, hx⟩ := hrr _ v (flat_get hall hi' hj)
            exact ⟨x, hx⟩
          obtain ⟨f1, f2⟩ := flat_map_get hall g1 (fun i l hi => by
            obtain ⟨s, e1, e2, e3⟩ := g2 i l hi
            exact ⟨s.1, e2, (seqM_get e1).1⟩)
          have hbx : BoxAt (M2 k.b) k.size (PRel M2) q.1.flatten := by
            rw [hmk]
            by_cases he0 : e = 0
            · have h0 : q.1.flatten = [] := List.eq_nil_of_length_eq_zero (by rw [flat_len f1, he0]; simp)
              rw [h0]
              obtain ⟨c, ty, fr, e1, e2, e3, _, _⟩ := hb
              exact ⟨c, ty, fr, e1, e2, e3, by simp, by simp⟩
            · refine boxAt_frz hb f2 ?_
              intro j v x hj hv
              obtain ⟨l, e1, e2, e3⟩ := flat_index (Nat.pos_of_ne_zero he0) hall hj
              obtain ⟨s, t1, t2, t3⟩ := g2 _ l e1
              obtain ⟨v', u1, u2⟩ := (hcells t1 (fun i a hi => hmq i a (t3 _ hi))).1 _ v x e2 hv
              refine ⟨v', ?_, u2⟩
              rw [← e3]; exact flat_get f1 t2 u1
          refine ⟨prel_sl_of_box hbx f1 (by rw [g1]; exact hst) hcap ?_, ?_⟩
          · intro h0
            obtain ⟨k', hk', hae⟩ := had h0
            rw [hβ] at hk'; cases hk'
            rw [hae, hes]
          · intro j a hj
            rcases List.mem_cons.1 hj with hj | hj
            · cases hj
              exact ⟨by rw [ho]; rfl, rfl, by simp, k, hβ, hes, f1, hbx⟩
            · obtain ⟨l, s, e1, e2, e3⟩ := g3 _ hj
              refine (hcells e2 ?_).2 (hex (hrel l e1)) j a e3
              intro i a hi
              obtain ⟨i', hi'⟩ := List.getElem?_of_mem e1
              obtain ⟨s', t1, t2, t3⟩ := g2 i' l hi'
              rw [e2] at t1; cases t1
              exact hmq i a (t3 _ hi)
        · cases h
      · rename_i e xs ho
        split at h
        · rename_i hst
          cases h
          obtain ⟨k, hβ, hh⟩ := hsr.live i (by rw [ho]; simp)
          rw [ho] at hh
          obtain ⟨hes, hall, hb⟩ := hh
          refine ⟨prel_sl_of_box (hb.mono (fun x hx => hM _ x hx) (fun _ _ h => h.mono hM)) hall hst hcap ?_, by simp⟩
          intro h0
          obtain ⟨k', hk', hae⟩ := had h0
          rw [hβ] at hk'; cases hk'
          rw [hae, hes]
        · cases h
      · cases h
    | bsl i off len e =>
      simp only [frz] at h
      have hx : ∃ a cap, x = .slice a len cap ∧ len ≤ cap ∧ (len ≠ 0 → ∃ k, β i = some k ∧ a = some ⟨k.b, off, none⟩) := by
        cases hr with
        | pure h => cases h
        | bsl _ _ _ _ cap k hk hl => exact ⟨_, cap, rfl, hl, fun _ => ⟨k, hk, rfl⟩⟩
        | bslE _ _ _ cap a => exact ⟨_, cap, rfl, by omega, fun h => absurd rfl h⟩
      obtain ⟨ad, cap, rfl, hcap, had⟩ := hx
      have fin : ∀ {cs l : List V} {k : Blk}, β i = some k → BoxAt (M2 k.b) k.size (PRel M2) cs → cut off (len * e) cs = some l → PRel M2 (.sl e (chunks e len l)) (.slice ad len cap) := by
        intro cs l k hβ hb hc
        obtain ⟨c1, rfl⟩ := cut_some hc
        obtain ⟨g1, g2, g3⟩ := chunks_flat (e := e) len ((cs.drop off).take (len * e)) (by simp; omega)
        obtain ⟨c, ty, fr, e1, e2, e3, e4, e5⟩ := hb
        have hcell : ∀ (i : Nat) (l : List V) (j : Nat) (v : V), (chunks e len ((cs.drop off).take (len * e)))[i]? = some l → l[j]? = some v → ∃ x, c[off + (i * e + j)]? = some x ∧ x.oneCell' = true ∧ PRel M2 v x := by
          intro i l j v hi hj
          have := flat_get g2 hi hj
          rw [g1, List.getElem?_take] at this
          split at this
          · rw [List.getElem?_drop] at this
            exact e5 _ v this
          · cases this
        have := PRel.sl (M := M2) e (chunks e len ((cs.drop off).take (len * e))) ad cap k.b off (fun i j => c.getD (off + (i * e + j)) undef) (by rw [g3]; exact hcap)
          (fun hne => by
            obtain ⟨k', hk', hae⟩ := had (by intro h0; subst h0; simp [chunks] at hne)
            rw [hβ] at hk'; cases hk'; exact hae)
          (fun i l hi => g2 l (List.mem_of_getElem? hi))
          (fun i l j v hi hj => by obtain ⟨x, h1, _⟩ := hcell i l j v hi hj; simp only [cellAt, e1, h1, getD_of_getElem? h1])
          (fun i l j v hi hj => by obtain ⟨x, h1, h2, _⟩ := hcell i l j v hi hj; rw [getD_of_getElem? h1]; exact h2)
          (fun i l j v hi hj => by obtain ⟨x, h1, _, h2⟩ := hcell i l j v hi hj; rw [getD_of_getElem? h1]; exact h2)
        rwa [g3] at this
      split at h
      · rename_i cs ho
        obtain ⟨q, h1, h⟩ := bind_some' h
        obtain ⟨l, h2, rfl⟩ := map_some' h
        obtain ⟨k, hβ, hh⟩ := hsr.live i (by rw [ho]; simp)
        rw [ho] at hh
        obtain ⟨hw1, hw2, hb⟩ := hh
        have hmk : M2 k.b = w.heap[k.b]? := hm i (.fbox q.1) (by simp) k hβ
        obtain ⟨h3, h4⟩ := hcells h1 (fun i a hi => hm i a (by simp [hi]))
        obtain ⟨g1, _, _⟩ := seqM_get h1
        have hbx : BoxAt (M2 k.b) k.size (PRel M2) q.1 := by rw [hmk]; exact boxAt_frz hb g1 h3
        refine ⟨fin hβ hbx h2, ?_⟩
        intro j a hj
        rcases List.mem_cons.1 hj with hj | hj
        · cases hj
          exact ⟨by rw [ho]; rfl, rfl, by simp, k, hβ, hbx⟩
        · refine h4 (hex ?_) j a hj
          intro v hv
          obtain ⟨j, hj⟩ := List.getElem?_of_mem hv
          obtain ⟨c, ty, fr, _, _, _, _, hrr⟩ := hb
          obtain ⟨x, _, _, hx⟩ := hrr j v hj
          exact ⟨x, hx⟩
      · rename_i cs ho
        obtain ⟨l, h2, rfl⟩ := map_some' h
        obtain ⟨k, hβ, hh⟩ := hsr.live i (by rw [ho]; simp)
        rw [ho] at hh
        exact ⟨fin hβ (hh.mono (fun x hx => hM _ x hx) (fun _ _ h => h.mono hM)) h2, by simp⟩
      · cases h
end
end Go.Proofs.Ytoccgkgdhobmfaa.Am
set_option linter.unusedVariables false
set_option linter.unusedSimpArgs false
namespace Go.Proofs.Ytoccgkgdhobmfaa.Am
open Go
theorem hputs_get : ∀ (u : List (Nat × AObj)) (o : Hp) (i : Nat), (i ∉ ids u ∧ hputs o u i = o i) ∨ ∃ a, (i, a) ∈ u ∧ hputs o u i = a := by
  intro u
  induction u with
  | nil => intro o i; exact .inl ⟨by simp [ids], rfl⟩
  | cons x r ih =>
    intro o i
    obtain ⟨j, a⟩ := x
    simp only [hputs]
    rcases ih (hput o j a) i with ⟨h1, h2⟩ | ⟨b, h1, h2⟩
    · by_cases hij : i = j
      · subst hij
        exact .inr ⟨a, by simp, by rw [h2]; simp [hput]⟩
      · exact .inl ⟨by simp [ids] at h1 ⊢; exact ⟨hij, h1⟩, by rw [h2]; simp [hput, hij]⟩
    · exact .inr ⟨b, by simp [h1], h2⟩
theorem hputs_other {u : List (Nat × AObj)} {o : Hp} {i : Nat} (h : i ∉ ids u) : hputs o u i = o i := by
  rcases hputs_get u o i with ⟨_, h2⟩ | ⟨a, h1, _⟩
  · exact h2
  · exact absurd (List.mem_map.2 ⟨_, h1, rfl⟩) h
def marked (β : Names) (fs : List (Nat × AObj)) (b : Nat) : Prop := ∃ i a k, (i, a) ∈ fs ∧ β i = some k ∧ k.b = b
open Classical in
noncomputable def mmem (M : Mem) (β : Names) (fs : List (Nat × AObj)) (w : World) : Mem := fun b => if marked β fs b then w.heap[b]? else M b
section
variable {M M2 : Mem} {β : Names} {N : Nat} {Wr : Nat → Prop} {o : Hp} {w : World} {fs : List (Nat × AObj)}
theorem mmem_le (hsr : SR M β N Wr o w) : ∀ b y, M b = some y → mmem M β fs w b = some y := by
  intro b y h
  unfold mmem
  split
  · exact hsr.sub b y h
  · exact h
theorem mmem_mark {i : Nat} {a : AObj} {k : Blk} (h : (i, a) ∈ fs) (hk : β i = some k) : mmem M β fs w k.b = w.heap[k.b]? := by
  unfold mmem
  rw [if_pos ⟨i, a, k, h, hk, rfl⟩]
theorem mmem_not {b : Nat} (h : ¬ marked β fs b) : mmem M β fs w b = M b := by
  unfold mmem
  rw [if_neg h]
theorem mmem_sub (hsr : SR M β N Wr o w) : ∀ b x, mmem M β fs w b = some x → w.heap[b]? = some x := by
  intro b x h
  unfold mmem at h
  split at h
  · exact h
  · exact hsr.sub b x h
/-- An object's block is marked only with the object itself. -/
theorem not_marked (hsr : SR M β N Wr o w) (hst : ∀ i a, (i, a) ∈ fs → wrt (o i) = true) {i : Nat} {k : Blk} (hi : wrt (o i) = true) (hk : β i = some k) (hn : i ∉ ids fs) : ¬ marked β fs k.b := by
  rintro ⟨j, a, kj, h1, h2, h3⟩
  have := hsr.inj i j k kj hi (hst j a h1) hk h2 h3.symm
  subst this
  exact hn (List.mem_map.2 ⟨_, h1, rfl⟩)
theorem SR.mark (hsr : SR M β N Wr o w) (hst : ∀ i a, (i, a) ∈ fs → Still (mmem M β fs w) β w o i a) : SR (mmem M β fs w) β N Wr (hputs o fs) w where
  sub := mmem_sub hsr
  bnd := hsr.bnd
  live i hi := by
    rcases hputs_get fs o i with ⟨h1, h2⟩ | ⟨a, h1, h2⟩
    · rw [h2] at hi ⊢
      obtain ⟨k, hk, hh⟩ := hsr.live i hi
      refine ⟨k, hk, hh.mem (mmem_le hsr) fun hw => ?_⟩
      rw [mmem_not (not_marked hsr (fun i a h => (hst i a h).1) hw hk h1)]
      exact hh.none hw
    · rw [h2]
      obtain ⟨g1, g2, g3, k, hk, hh⟩ := hst i a h1
      refine ⟨k, hk, ?_⟩
      cases a with
      | box cs => cases g2
      | vec e xs => cases g2
      | dead => exact hh
      | fbox cs => exact hh
      | fvec e xs => exact hh
  inj i j ki kj hi hj hki hkj hb := by
    have key : ∀ i, wrt (hputs o fs i) = true → wrt (o i) = true := by
      intro i hi
      rcases hputs_get fs o i with ⟨h1, h2⟩ | ⟨a, h1, h2⟩
      · rwa [h2] at hi
      · rw [h2] at hi
        rw [(hst i a h1).2.1] at hi; cases hi
    exact hsr.inj i j ki kj (key i hi) (key j hj) hki hkj hb
theorem flat_prel {v : V} {x : Value} (h : flat v = true) (hr : Rel M β v x) : PRel M v x := by
  cases v <;> (try cases h)
  · rw [hr.int_inv]; exact .int _ _
  · rw [hr.bool_inv]; exact .bool _
  · rw [hr.str_inv]; exact .str _
  · rw [hr.nilp_inv]; exact .nilp
  · rw [hr.nilf_inv]; exact .nilf
  · rw [hr.nili_inv]; exact .nili
  · exact hr.imp_inv
  · exact hr.sl_inv
theorem seqM_refs {n : Nat} {cs : List V} {l : List Nat} (h : (seqM (fun v => (refs n v).map fun l => ((), l)) cs).map (·.2) = some l) :
    ∀ v ∈ cs, ∃ s, refs n v = some s ∧ ∀ i ∈ s, i ∈ l := by
  obtain ⟨r, h1, rfl⟩ := map_some' h
  obtain ⟨_, g2, _⟩ := seqM_get h1
  intro v hv
  obtain ⟨j, hj⟩ := List.getElem?_of_mem hv
  obtain ⟨q, e1, _, e3⟩ := g2 j v hj
  obtain ⟨s, e4, rfl⟩ := map_some' e1
  exact ⟨s, e4, e3⟩
theorem refs_rel {β' : Names} : ∀ (n : Nat) (v : V) (l : List Nat) (x : Value), refs n v = some l → Rel M β v x → (∀ i ∈ l, ∀ k, β i = some k → β' i = some k) → Rel M β' v x := by
  intro n
  induction n with
  | zero => intro v l x h; cases h
  | succ n ih =>
    intro v l x h hr hβ
    cases v with
    | junk => exact .pure (.junk _)
    | int k m => rw [hr.int_inv]; exact .pure (.int _ _)
    | bool b => rw [hr.bool_inv]; exact .pure (.bool _)
    | str s => rw [hr.str_inv]; exact .pure (.str _)
    | nilp => rw [hr.nilp_inv]; exact .pure .nilp
    | nils e => rw [hr.nils_inv]; exact .pure (.nils _)
    | nilf => rw [hr.nilf_inv]; exact .pure .nilf
    | nili => rw [hr.nili_inv]; exact .pure .nili
    | imp c off => exact .pure hr.imp_inv
    | sl e xs => exact .pure hr.sl_inv
    | own e xs => exact hr.own_inv.elim
    | ptr i off =>
      cases h
      obtain ⟨k, h1, rfl⟩ := hr.ptr_inv
      exact .ptr _ _ k (hβ i (by simp) k h1)
    | ept i j off =>
      cases h
      obtain ⟨k, h1, rfl⟩ := hr.ept_inv
      exact .ept _ _ _ k (hβ i (by simp) k h1)
    | vsl i st len =>
      cases h
      cases hr with
      | pure h => cases h
      | vsl _ _ _ cap k hk hl hs => exact .vsl _ _ _ _ k (hβ i (by simp) k hk) hl hs
      | vslE _ _ cap a hst => exact .vslE _ _ _ _ hst
    | bsl i off len e =>
      cases h
      cases hr with
      | pure h => cases h
      | bsl _ _ _ _ cap k hk hl => exact .bsl _ _ _ _ _ k (hβ i (by simp) k hk) hl
      | bslE _ _ _ cap a => exact .bslE _ _ _ _ _
    | fn f caps =>
      obtain ⟨xs, rfl, hl, hxs⟩ := hr.fn_inv
      have hs := seqM_refs h
      refine .fn f caps xs hl fun j v hj => ?_
      obtain ⟨s, e1, e2⟩ := hs v (List.mem_of_getElem? hj)
      exact ih v s _ e1 (hxs j v hj) fun i hi => hβ i (e2 i hi)
    | iface t v =>
      obtain ⟨y, rfl, hy⟩ := hr.iface_inv
      exact .iface _ _ _ (ih v l y h hy hβ)
    | agg cs =>
      obtain ⟨xs, rfl, hl, ho, hxs⟩ := hr.agg_inv
      have hs := seqM_refs h
      refine .agg cs xs hl ho fun j v hj => ?_
      obtain ⟨s, e1, e2⟩ := hs v (List.mem_of_getElem? hj)
      exact ih v s _ e1 (hxs j v hj) fun i hi => hβ i (e2 i hi)
    | tup cs =>
      obtain ⟨xs, rfl, hl, hxs⟩ := hr.tup_inv
      have hs := seqM_refs h
      refine .tup cs xs hl fun j v hj => ?_
      obtain ⟨s, e1, e2⟩ := hs v (List.mem_of_getElem? hj)
      exact ih v s _ e1 (hxs j v hj) fun i hi => hβ i (e2 i hi)
theorem obj_names {β' : Names} {k : Blk} {x : AObj} {l : List Nat} (h : objRefs x = some l) (hh : Holds M β Wr w k x) (hβ : ∀ i ∈ l, ∀ k, β i = some k → β' i = some k) : Holds M β' Wr w k x := by
  cases x with
  | dead => cases h
  | fbox cs => exact hh
  | fvec e xs => exact hh
  | box cs =>
    obtain ⟨h1, h2, c, ty, fr, b1, b2, b3, b4, b5⟩ := hh
    have hs := seqM_refs (n := deep) h
    refine ⟨h1, h2, c, ty, fr, b1, b2, b3, b4, fun j v hj => ?_⟩
    obtain ⟨x, e1, e2, e3⟩ := b5 j v hj
    obtain ⟨s, f1, f2⟩ := hs v (List.mem_of_getElem? hj)
    exact ⟨x, e1, e2, refs_rel deep v s x f1 e3 fun i hi => hβ i (f2 i hi)⟩
  | vec e xs =>
    obtain ⟨h1, h2, h3, h4, c, ty, fr, b1, b2, b3, b4, b5⟩ := hh
    simp only [objRefs] at h
    split at h
    · rename_i hall
      refine ⟨h1, h2, h3, h4, c, ty, fr, b1, b2, b3, b4, fun j v hj => ?_⟩
      obtain ⟨x, e1, e2, e3⟩ := b5 j v hj
      refine ⟨x, e1, e2, .pure (flat_prel ?_ e3)⟩
      obtain ⟨l', hl', hv⟩ := List.mem_flatten.1 (List.mem_of_getElem? hj)
      rw [List.all_eq_true] at hall
      have := hall l' hl'
      rw [List.all_eq_true] at this
      exact this v hv
    · cases h
theorem reach_closed {o : Hp} : ∀ (n : Nat) (todo acc L : List Nat), reach o n todo acc = some L → (∀ i ∈ acc, ∃ l, objRefs (o i) = some l ∧ ∀ j ∈ l, j ∈ acc ∨ j ∈ todo) →
    (∀ i ∈ todo, i ∈ L) ∧ (∀ i ∈ acc, i ∈ L) ∧ ∀ i ∈ L, ∃ l, objRefs (o i) = some l ∧ ∀ j ∈ l, j ∈ L := by
  intro n
  induction n with
  | zero => intro todo acc L h; cases h
  | succ n ih =>
    intro todo acc L h hacc
    cases todo with
    | nil =>
      cases h
      exact ⟨by simp, fun i h => h, fun i hi => by obtain ⟨l, h1, h2⟩ := hacc i hi; exact ⟨l, h1, fun j hj => (h2 j hj).resolve_right (by simp)⟩⟩
    | cons i r =>
      simp only [reach] at h
      split at h
      · rename_i hc
        have hi : i ∈ acc := by simpa using hc
        obtain ⟨h1, h2, h3⟩ := ih r acc L h (fun j hj => by
          obtain ⟨l, e1, e2⟩ := hacc j hj
          refine ⟨l, e1, fun q hq => ?_⟩
          rcases e2 q hq with h | h
          · exact .inl h
          · rcases List.mem_cons.1 h with h | h
            · exact .inl (h ▸ hi)
            · exact .inr h)
        exact ⟨fun j hj => by rcases List.mem_cons.1 hj with h | h; exact h ▸ h2 i hi; exact h1 j h, h2, h3⟩
      · obtain ⟨l, e1, e2⟩ := bind_some' h
        obtain ⟨h1, h2, h3⟩ := ih (l ++ r) (i :: acc) L e2 (fun j hj => by
          rcases List.mem_cons.1 hj with h | h
          · subst h; exact ⟨l, e1, fun q hq => .inr (by simp [hq])⟩
          · obtain ⟨l', f1, f2⟩ := hacc j h
            refine ⟨l', f1, fun q hq => ?_⟩
            rcases f2 q hq with h | h
            · exact .inl (by simp [h])
            · rcases List.mem_cons.1 h with h | h
              · exact .inl (by simp [h])
              · exact .inr (by simp [h]))
        exact ⟨fun j hj => by rcases List.mem_cons.1 hj with h | h; exact h2 j (by simp [h]); exact h1 j (by simp [h]), fun j hj => h2 j (by simp [hj]), h3⟩
theorem frzArgs_get {o : Hp} : ∀ {l : List V} {m : List Bool} {r : List V × List (Nat × AObj)} {q : List Nat}, frzArgs o l m = some r → rawRefs l m = some q →
    r.1.length = l.length ∧ (∀ (j : Nat) a, l[j]? = some a → (r.1[j]? = some a ∧ ∃ s, refs deep a = some s ∧ ∀ i ∈ s, i ∈ q) ∨ ∃ t, frz o deep a = some t ∧ r.1[j]? = some t.1 ∧ ∀ y ∈ t.2, y ∈ r.2) ∧
      ∀ y ∈ r.2, ∃ a t, a ∈ l ∧ frz o deep a = some t ∧ y ∈ t.2 ∧ ∀ z ∈ t.2, z ∈ r.2 := by
  intro l
  induction l with
  | nil => intro m r q h1 h2; cases h1; exact ⟨rfl, by simp, by simp⟩
  | cons a l ih =>
    intro m r q h1 h2
    match m, h1, h2 with
    | true :: m, h1, h2 =>
      simp only [frzArgs] at h1
      simp only [rawRefs] at h2
      obtain ⟨s, h3, rfl⟩ := map_some' h1
      obtain ⟨t, h4, h5⟩ := bind_some' h2
      obtain ⟨u, h6, rfl⟩ := map_some' h5
      obtain ⟨g1, g2, g3⟩ := ih h3 h6
      refine ⟨by simp [g1], ?_, ?_⟩
      · intro j b hj
        cases j with
        | zero => simp at hj; subst hj; exact .inl ⟨by simp, t, h4, fun i hi => by simp [hi]⟩
        | succ j =>
          simp only [List.getElem?_cons_succ] at hj ⊢
          rcases g2 j b hj with ⟨e1, s', e2, e3⟩ | h
          · exact .inl ⟨e1, s', e2, fun i hi => by simp [e3 i hi]⟩
          · exact .inr h
      · intro y hy
        obtain ⟨b, t', e1, e2, e3, e4⟩ := g3 y hy
        exact ⟨b, t', by simp [e1], e2, e3, e4⟩
    | false :: m, h1, h2 =>
      simp only [frzArgs, List.tail_cons] at h1
      simp only [rawRefs, List.tail_cons] at h2
      obtain ⟨t, h3, h4⟩ := bind_some' h1
      obtain ⟨s, h5, rfl⟩ := map_some' h4
      obtain ⟨g1, g2, g3⟩ := ih h5 h2
      refine ⟨by simp [g1], ?_, ?_⟩
      · intro j b hj
        cases j with
        | zero => simp at hj; subst hj; exact .inr ⟨t, h3, by simp, fun y hy => by simp [hy]⟩
        | succ j =>
          simp only [List.getElem?_cons_succ] at hj ⊢
          rcases g2 j b hj with h | ⟨t', e1, e2, e3⟩
          · exact .inl h
          · exact .inr ⟨t', e1, e2, fun y hy => by simp [e3 y hy]⟩
      · intro y hy
        rcases List.mem_append.1 hy with h | h
        · exact ⟨a, t, by simp, h3, h, fun z hz => by simp [hz]⟩
        · obtain ⟨b, t', e1, e2, e3, e4⟩ := g3 y h
          exact ⟨b, t', by simp [e1], e2, e3, fun z hz => by simp [e4 z hz]⟩
    | [], h1, h2 =>
      simp only [frzArgs, List.tail_nil] at h1
      simp only [rawRefs, List.tail_nil] at h2
      obtain ⟨t, h3, h4⟩ := bind_some' h1
      obtain ⟨s, h5, rfl⟩ := map_some' h4
      obtain ⟨g1, g2, g3⟩ := ih h5 h2
      refine ⟨by simp [g1], ?_, ?_⟩
      · intro j b hj
        cases j with
        | zero => simp at hj; subst hj; exact .inr ⟨t, h3, by simp, fun y hy => by simp [hy]⟩
        | succ j =>
          simp only [List.getElem?_cons_succ] at hj ⊢
          rcases g2 j b hj with h | ⟨t', e1, e2, e3⟩
          · exact .inl h
          · exact .inr ⟨t', e1, e2, fun y hy => by simp [e3 y hy]⟩
      · intro y hy
        rcases List.mem_append.1 hy with h | h
        · exact ⟨a, t, by simp, h3, h, fun z hz => by simp [hz]⟩
        · obtain ⟨b, t', e1, e2, e3, e4⟩ := g3 y h
          exact ⟨b, t', by simp [e1], e2, e3, fun z hz => by simp [e4 z hz]⟩
end
end Go.Proofs.Ytoccgkgdhobmfaa.Am
set_option linter.unusedVariables false
set_option linter.unusedSimpArgs false
namespace Go.Proofs.Ytoccgkgdhobmfaa.Am
open Go
def RetOk (M : Mem) (β : Names) (o : Hp) (w : World) (N : Nat) (v : V) (x : Value) : Prop :=
  match v with
  | .own e xs => ∃ i k cap, N ≤ i ∧ o i = .vec e xs ∧ β i = some k ∧ x = .slice (some ⟨k.b, 0, none⟩) xs.length cap ∧ xs.length ≤ cap ∧ cap * e ≤ k.size ∧ BoxAt w.heap[k.b]? k.size (PRel M) xs.flatten
  | v => PRel M v x
def CallPost (M : Mem) (β : Names) (N : Nat) (Lb : Nat → Prop) (w : World) : Out → Ending → World → Prop
  | .ret v o', e, w' => ∃ x M' β' N', e = .returned x ∧ (∀ b y, M b = some y → M' b = some y) ∧ (∀ b, b < w.heap.size → ¬ Lb b → M' b = M b) ∧
      (∀ i k, β i = some k → β' i = some k) ∧ (∀ i k, β' i = some k → β i = some k ∨ N ≤ i) ∧ Ok M' β' N' Lb w o' w' ∧ RetOk M' β' o' w' N v x
  | .panic v, e, w' => ∃ x, e = .panicked [{ v := x, recovered := false }] ∧ PRel (fun _ => none) v x ∧ Kp Lb w w'
def Callable (P : Program) (g : Nat) : Prop := ∃ fn, P.funcs[g]? = some fn ∧ (fn.name == "runtime.NumGoroutine") = false ∧ fn.body.isNone = false
def CallOk (P : Program) (G : Nat → Option (List V)) (cf : CallFn) : Prop := ∀ g args o N out, cf g args o N = some out → Callable P g ∧
  ∀ (M : Mem) (β : Names) (w : World) (Lb : Nat → Prop) (vargs : Array Value), Ok M β N Lb w o w → GOK M G → vargs.size = args.length → (∀ (j : Nat) v, args[j]? = some v → Rel M β v (vargs.getD j undef)) →
    Calls P g vargs w (CallPost M β N Lb w out)
/-- What a step may do to memory and names. -/
structure Ext (M : Mem) (β : Names) (Lb : Nat → Prop) (w0 : World) (ks : List Nat) (M' : Mem) (β' : Names) : Prop where
  mem : ∀ b y, M b = some y → M' b = some y
  old : ∀ b, b < w0.heap.size → ¬ Lb b → M' b = M b
  nam : ∀ i k, β i = some k → β' i = some k
  new : ∀ i k, β' i = some k → β i = some k ∨ i ∈ ks
theorem Holds.wrt_mono {M : Mem} {β : Names} {Wr Wr' : Nat → Prop} {w : World} {k : Blk} {x : AObj} (h : Holds M β Wr w k x) (hw : wrt x = true → Wr' k.b) : Holds M β Wr' w k x := by
  cases x with
  | box cs => obtain ⟨h1, h2⟩ := h; exact ⟨hw rfl, h2⟩
  | vec e xs => obtain ⟨h1, h2⟩ := h; exact ⟨hw rfl, h2⟩
  | dead => exact h
  | fbox cs => exact h
  | fvec e xs => exact h
section
variable {P : Program} {M : Mem} {β : Names} {N : Nat} {Lb : Nat → Prop} {w0 w : World} {o : Hp} {ks : List Nat} {e : Env} {a : Go.Act} {G : Nat → Option (List V)}
theorem scalarV_prel {M M' : Mem} {v : V} {x : Value} (h : scalarV v = true) (hr : PRel M v x) : PRel M' v x := by
  cases v <;> (try cases h)
  · cases hr; exact .int _ _
  · cases hr; exact .bool _
  · cases hr; exact .str _
  · cases hr; exact .nilp
  · cases hr; exact .nils _
  · cases hr; exact .nilf
  · cases hr; exact .nili
  · rename_i e xs
    have h0 : xs = [] := by simpa [scalarV] using h
    subst h0
    cases hr; exact PRel.slEmpty _ _ _ _
  · rename_i t v
    cases hr with
    | iface _ _ y hy =>
      refine .iface _ _ _ ?_
      cases v <;> (try (simp [scalarV] at h; done)) <;> (try cases h)
      · cases hy; exact .int _ _
      · cases hy; exact .bool _
      · cases hy; exact .str _
theorem scalarC_prel {M M' : Mem} {v : V} {x : Value} (h : (match v with | .agg cs => cs.all scalarV | v => scalarV v) = true) (hr : PRel M v x) : PRel M' v x := by
  cases v with
  | agg cs =>
    cases hr with
    | agg _ xs hl ho hrr =>
      rw [List.all_eq_true] at h
      exact .agg cs xs hl ho fun j v hj => scalarV_prel (h v (List.mem_of_getElem? hj)) (hrr j v hj)
  | _ => exact scalarV_prel h hr
theorem scalar_prel {M M' : Mem} {v : V} {x : Value} (h : scalar v = true) (hr : PRel M v x) : PRel M' v x := by
  cases v with
  | tup vs =>
    cases hr with
    | tup _ xs hl hrr =>
      simp only [scalar] at h
      rw [List.all_eq_true] at h
      exact .tup vs xs hl fun j v hj => scalarC_prel (h v (List.mem_of_getElem? hj)) (hrr j v hj)
  | agg cs => exact scalarC_prel (v := .agg cs) h hr
  | own e xs => cases hr
  | _ => exact scalarC_prel h hr
theorem notRef_not {L : List Nat} {u : List (Nat × AObj)} (h : notRef L u = true) : ∀ i ∈ L, i ∉ ids u := by
  intro i hi hu
  obtain ⟨x, hx, rfl⟩ := List.mem_map.1 hu
  unfold notRef at h
  rw [List.all_eq_true] at h
  have := h x hx
  simp at this
  exact this hi
/-- The names that are handed on. -/
def namesOf (β : Names) (L : List Nat) : Names := fun i => if L.contains i then β i else none
theorem namesOf_some {L : List Nat} {i : Nat} {k : Blk} (h : namesOf β L i = some k) : i ∈ L ∧ β i = some k := by
  unfold namesOf at h
  split at h
  · exact ⟨by simpa using (by assumption : L.contains i = true), h⟩
  · cases h
theorem namesOf_in {L : List Nat} {i : Nat} (h : i ∈ L) : namesOf β L i = β i := by
  unfold namesOf
  rw [if_pos (by simpa using h)]
theorem restrict_in {L : List Nat} {i : Nat} (h : i ∈ L) : restrict o L i = o i := by
  unfold restrict
  rw [if_pos (by simpa using h)]
theorem restrict_out {L : List Nat} {i : Nat} (h : i ∉ L) : restrict o L i = .dead := by
  unfold restrict
  rw [if_neg (by simpa using h)]
/-- The blocks of the objects that are handed on by address. -/
def blocksOf (o : Hp) (β : Names) (L : List Nat) (b : Nat) : Prop := ∃ i k, i ∈ L ∧ β i = some k ∧ k.b = b ∧ wrt (o i) = true
theorem callee_ok (hk : Ok M β N Lb w0 o w) {L : List Nat} {fs : List (Nat × AObj)} {Nc : Nat} (hL : ∀ i ∈ L, ∃ l, objRefs (o i) = some l ∧ ∀ j ∈ l, j ∈ L) (hn : notRef L fs = true) (hst : ∀ i a, (i, a) ∈ fs → wrt (o i) = true)
    (hNc : ∀ i ∈ L, ∀ k, β i = some k → i < Nc) : Ok (mmem M β fs w) (namesOf β L) Nc (blocksOf o β L) w (restrict o L) w := by
  refine ⟨⟨mmem_sub hk.sr, ?_, ?_, ?_⟩, Kp.refl _ _⟩
  · intro i k hi
    obtain ⟨h1, h2⟩ := namesOf_some hi
    exact hNc i h1 k h2
  · intro i hi
    by_cases hiL : i ∈ L
    · rw [restrict_in hiL] at hi ⊢
      obtain ⟨k, h1, h2⟩ := hk.sr.live i hi
      obtain ⟨l, h3, h4⟩ := hL i hiL
      refine ⟨k, by rw [namesOf_in hiL]; exact h1, ?_⟩
      have h5 := obj_names (β' := namesOf β L) h3 h2 (fun j hj k hjk => by rw [namesOf_in (h4 j hj)]; exact hjk)
      have h6 := h5.mem (M' := mmem M β fs w) (mmem_le hk.sr) (fun hw => by
        rw [mmem_not (not_marked hk.sr hst hw h1 (notRef_not hn i hiL))]; exact h2.none hw)
      exact h6.wrt_mono fun hw => .inr ⟨i, k, hiL, h1, rfl, hw⟩
    · rw [restrict_out hiL] at hi; exact absurd rfl hi
  · intro i j ki kj hi hj hki hkj hb
    obtain ⟨i1, i2⟩ := namesOf_some hki
    obtain ⟨j1, j2⟩ := namesOf_some hkj
    rw [restrict_in i1] at hi
    rw [restrict_in j1] at hj
    exact hk.sr.inj i j ki kj hi hj i2 j2 hb
theorem closedIn_spec {o' : Hp} {L : List Nat} : ∀ {r : List Nat}, closedIn o' L r = true → ∀ i ∈ r, ∃ l, objRefs (o' i) = some l ∧ ∀ j ∈ l, j ∈ L := by
  intro r
  induction r with
  | nil => intro h i hi; cases hi
  | cons a r ih =>
    intro h i hi
    simp only [closedIn, Bool.and_eq_true] at h
    rcases List.mem_cons.1 hi with rfl | hi
    · have h1 := h.1
      split at h1
      · rename_i l hl
        rw [List.all_eq_true] at h1
        exact ⟨l, hl, fun j hj => by simpa using h1 j hj⟩
      · cases h1
    · exact ih h.2 i hi
theorem ids_append (u v : List (Nat × AObj)) : ids (u ++ v) = ids u ++ ids v := by simp [ids]
theorem ids_map (L : List Nat) (f : Nat → AObj) : ids (L.map fun i => (i, f i)) = L := by simp [ids, Function.comp_def]
/-- Behind the call: the caller's heap. -/
theorem caller_ok (hk : Ok M β N Lb w0 o w) {L : List Nat} {fs : List (Nat × AObj)} {M3 : Mem} {β3 : Names} {N3 : Nat} {o' : Hp} {w' : World} (hn : notRef L fs = true)
    (hst : ∀ i a, (i, a) ∈ fs → Still (mmem M β fs w) β w o i a)
    (hm : ∀ b y, mmem M β fs w b = some y → M3 b = some y) (hold : ∀ b, b < w.heap.size → ¬ blocksOf o β L b → M3 b = mmem M β fs w b)
    (hnam : ∀ i k, namesOf β L i = some k → β3 i = some k) (h3 : Ok M3 β3 N3 (blocksOf o β L) w o' w')
    (hcl : ∀ i ∈ L, ∃ l, objRefs (o' i) = some l ∧ ∀ j ∈ l, j ∈ L) (hlive : ∀ i ∈ L, o i ≠ .dead) :
    Ok M3 β N Lb w0 (hputs o (L.map (fun i => (i, o' i)) ++ fs)) w' ∧ (∀ b y, M b = some y → M3 b = some y) ∧ (∀ b, b < w0.heap.size → ¬ Lb b → M3 b = M b) := by
  have hle : ∀ b y, M b = some y → M3 b = some y := fun b y h => hm b y (mmem_le hk.sr b y h)
  have hwr : ∀ b, blocksOf o β L b → WrOf Lb w0 b := by
    rintro b ⟨i, k, h1, h2, rfl, h4⟩
    obtain ⟨k', hk', hh⟩ := hk.sr.live i (hlive i h1)
    rw [h2] at hk'; cases hk'
    exact hh.wr h4
  have hkp : Kp Lb w0 w' := hk.kp.trans (h3.kp.mono hwr)
  have hmark : ∀ b, marked β fs b → WrOf Lb w0 b := by
    rintro b ⟨i, a, k, h1, h2, rfl⟩
    obtain ⟨g1, _⟩ := hst i a h1
    obtain ⟨k', hk', hh⟩ := hk.sr.live i (fun e => by rw [e] at g1; cases g1)
    rw [h2] at hk'; cases hk'
    exact hh.wr g1
  have hof : ∀ {i : Nat} {k : Blk}, wrt (o i) = true → β i = some k → i ∉ L → ¬ blocksOf o β L k.b := by
    rintro i k h1 h2 h3' ⟨j, kj, g1, g2, g3, g4⟩
    have := hk.sr.inj i j k kj h1 g4 h2 g2 g3.symm
    exact h3' (this ▸ g1)
  have hfst : ∀ i a, (i, a) ∈ fs → wrt (o i) = true := fun i a h => (hst i a h).1
  refine ⟨⟨⟨h3.sr.sub, hk.sr.bnd, ?_, ?_⟩, hkp⟩, hle, ?_⟩
  · intro i hi
    rcases hputs_get (L.map (fun i => (i, o' i)) ++ fs) o i with ⟨g1, g2⟩ | ⟨x, g1, g2⟩
    · rw [ids_append, ids_map, List.mem_append] at g1
      rw [g2] at hi ⊢
      obtain ⟨k, e1, e2⟩ := hk.sr.live i hi
      refine ⟨k, e1, ?_⟩
      have hnb : wrt (o i) = true → ¬ blocksOf o β L k.b := fun hw => hof hw e1 (fun h => g1 (.inl h))
      have e3 : Holds M β (WrOf Lb w0) w' k (o i) := e2.world fun hw => h3.kp.block _ (e2.lt hw) (hnb hw)
      refine e3.mem hle fun hw => ?_
      rw [hold _ (e2.lt hw) (hnb hw), mmem_not (not_marked hk.sr hfst hw e1 (fun h => g1 (.inr h)))]
      exact e2.none hw
    · rw [g2]
      rcases List.mem_append.1 g1 with h | h
      · obtain ⟨j, hj, hje⟩ := List.mem_map.1 h
        cases hje
        obtain ⟨l, f1, f2⟩ := hcl i hj
        obtain ⟨k, e1, e2⟩ := h3.sr.live i (fun e => by rw [e] at f1; cases f1)
        obtain ⟨k0, e0, _⟩ := hk.sr.live i (hlive i hj)
        have hke : β3 i = some k0 := hnam i k0 (by rw [namesOf_in hj]; exact e0)
        rw [e1] at hke; cases hke
        refine ⟨k, e0, ?_⟩
        have f3 := obj_names (β' := β) f1 e2 (fun j hj' kj hkj => by
          have hjL := f2 j hj'
          obtain ⟨kj0, t0, _⟩ := hk.sr.live j (hlive j hjL)
          have := hnam j kj0 (by rw [namesOf_in hjL]; exact t0)
          rw [hkj] at this; cases this; exact t0)
        refine f3.wrt_mono fun hw => ?_
        rcases e2.wr hw with h | h
        · exact .inl (Nat.le_trans hk.kp.size h)
        · exact hwr _ h
      · obtain ⟨s1, s2, s3, k, s4, s5⟩ := hst i x h
        refine ⟨k, s4, ?_⟩
        cases x with
        | box cs => cases s2
        | vec e xs => cases s2
        | dead => exact absurd rfl s3
        | fbox cs => exact BoxAt.mono s5 (fun y hy => hm _ y hy) (fun _ _ h => h.mono hm)
        | fvec e xs => obtain ⟨t1, t2, t3⟩ := s5; exact ⟨t1, t2, t3.mono (fun y hy => hm _ y hy) (fun _ _ h => h.mono hm)⟩
  · have key : ∀ i k, wrt (hputs o (L.map (fun i => (i, o' i)) ++ fs) i) = true → β i = some k → (i ∈ L ∧ wrt (o' i) = true ∧ β3 i = some k) ∨ (i ∉ L ∧ wrt (o i) = true) := by
      intro i k hi hki
      rcases hputs_get (L.map (fun i => (i, o' i)) ++ fs) o i with ⟨g1, g2⟩ | ⟨x, g1, g2⟩
      · rw [ids_append, ids_map, List.mem_append] at g1
        rw [g2] at hi
        exact .inr ⟨fun h => g1 (.inl h), hi⟩
      · rw [g2] at hi
        rcases List.mem_append.1 g1 with h | h
        · obtain ⟨j, hj, hje⟩ := List.mem_map.1 h
          cases hje
          exact .inl ⟨hj, hi, hnam i k (by rw [namesOf_in hj]; exact hki)⟩
        · have := (hst i x h).2.1
          rw [this] at hi; cases hi
    intro i j ki kj hi hj hki hkj hb
    rcases key i ki hi hki with ⟨i1, i2, i3⟩ | ⟨i1, i2⟩ <;> rcases key j kj hj hkj with ⟨j1, j2, j3⟩ | ⟨j1, j2⟩
    · exact h3.sr.inj i j ki kj i2 j2 i3 j3 hb
    · exfalso
      -- i is handed on, j is not
      obtain ⟨kk, e1, e2⟩ := h3.sr.live i (fun e => by rw [e] at i2; cases i2)
      rw [i3] at e1; cases e1
      obtain ⟨kk, e3, e4⟩ := hk.sr.live j (fun e => by rw [e] at j2; cases j2)
      rw [hkj] at e3; cases e3
      rcases e2.wr i2 with h | h
      · have := e4.lt j2; omega
      · rw [hb] at h; exact hof j2 hkj j1 h
    · exfalso
      obtain ⟨kk, e1, e2⟩ := h3.sr.live j (fun e => by rw [e] at j2; cases j2)
      rw [j3] at e1; cases e1
      obtain ⟨kk, e3, e4⟩ := hk.sr.live i (fun e => by rw [e] at i2; cases i2)
      rw [hki] at e3; cases e3
      rcases e2.wr j2 with h | h
      · have := e4.lt i2; omega
      · rw [← hb] at h; exact hof i2 hki i1 h
    · exact hk.sr.inj i j ki kj i2 j2 hki hkj hb
  · intro b hb hnl
    have hnw : ¬ WrOf Lb w0 b := fun h => h.elim (fun h => by omega) hnl
    rw [hold b (Nat.lt_of_lt_of_le hb hk.kp.size) (fun h => hnw (hwr b h)), mmem_not (fun h => hnw (hmark b h))]
end
end Go.Proofs.Ytoccgkgdhobmfaa.Am
set_option linter.unusedVariables false
set_option linter.unusedSimpArgs false
namespace Go.Proofs.Ytoccgkgdhobmfaa.Am
open Go
section
variable {P : Program} {M : Mem} {β : Names} {N : Nat} {Lb : Nat → Prop} {w0 w : World} {o : Hp} {ks : List Nat} {e : Env} {a : Go.Act} {G : Nat → Option (List V)}
theorem mputs_le {b : Nat} {ob : Obj} (hs : ∀ x, M b = some x → x = ob) : ∀ x y, M x = some y → mput M b ob x = some y := by
  intro x y hx
  unfold mput
  split
  · rename_i e; subst e; rw [hs y hx]
  · exact hx
/-- A block that no object of the call's own has, from now on stands still. -/
theorem ok_still_block (hk : Ok M β N Lb w0 o w) {b : Nat} {ob : Obj} (hb : w.heap[b]? = some ob) (hne : ∀ j kj, wrt (o j) = true → β j = some kj → kj.b ≠ b) : Ok (mput M b ob) β N Lb w0 o w := by
  have hle := mputs_le (M := M) (b := b) (ob := ob) (fun x hx => by have := hk.sr.sub b x hx; rw [hb] at this; cases this; rfl)
  refine ⟨⟨?_, hk.sr.bnd, ?_, hk.sr.inj⟩, hk.kp⟩
  · intro b' x hx
    unfold mput at hx
    split at hx
    · rename_i e; subst e; cases hx; exact hb
    · exact hk.sr.sub b' x hx
  · intro i hi
    obtain ⟨k, h1, h2⟩ := hk.sr.live i hi
    refine ⟨k, h1, h2.mem hle fun hw => ?_⟩
    unfold mput
    rw [if_neg (hne i k hw h1)]; exact h2.none hw
/-- What a step comes to. -/
def StepPost (M : Mem) (β : Names) (N : Nat) (Lb : Nat → Prop) (w0 : World) (ks : List Nat) (o : Hp) : Did → Ending → World → Prop
  | .act v u _, e, w' => ∃ x M' β', e = .returned x ∧ Ext M β Lb w0 ks M' β' ∧ Ok M' β' N Lb w0 (hputs o u) w' ∧ Rel M' β' v x
  | .panic v, e, w' => ∃ x, e = .panicked [{ v := x, recovered := false }] ∧ PRel (fun _ => none) v x ∧ Kp Lb w0 w'
theorem caller_scalar (hk : Ok M β N Lb w0 o w) {w' : World} {Lb' : Nat → Prop} (hkp : Kp Lb' w w') (hno : ∀ b, ¬ Lb' b) : Ok M β N Lb w0 o w' :=
  ⟨hk.sr.world fun b hb => hkp.block b hb (hno b), hk.kp.trans (hkp.mono fun b h => absurd h (hno b))⟩
theorem hputs_append (o : Hp) : ∀ (u v : List (Nat × AObj)), hputs o (u ++ v) = hputs (hputs o u) v := by
  intro u
  induction u generalizing o with
  | nil => intro v; rfl
  | cons x r ih => intro v; obtain ⟨i, a⟩ := x; simp only [List.cons_append, hputs]; exact ih _ v
/-- A block of the callee's own is none of the caller's. -/
theorem caller_ne (hk : Ok M β N Lb w0 o w) {L : List Nat} {fs : List (Nat × AObj)} {M3 : Mem} {β3 : Names} {N3 : Nat} {o' : Hp} {w' : World}
    (hst : ∀ i a, (i, a) ∈ fs → wrt a = false)
    (hnam : ∀ i k, namesOf β L i = some k → β3 i = some k) (h3 : Ok M3 β3 N3 (blocksOf o β L) w o' w')
    {i : Nat} {k : Blk} (hi : wrt (o' i) = true) (hki : β3 i = some k) (hiL : i ∉ L) :
    ∀ j kj, wrt (hputs o (L.map (fun i => (i, o' i)) ++ fs) j) = true → β j = some kj → kj.b ≠ k.b := by
  intro j kj hj hkj hb
  have key : (j ∈ L ∧ wrt (o' j) = true ∧ β3 j = some kj) ∨ (j ∉ L ∧ wrt (o j) = true) := by
    rcases hputs_get (L.map (fun i => (i, o' i)) ++ fs) o j with ⟨g1, g2⟩ | ⟨x, g1, g2⟩
    · rw [ids_append, ids_map, List.mem_append] at g1
      rw [g2] at hj
      exact .inr ⟨fun h => g1 (.inl h), hj⟩
    · rw [g2] at hj
      rcases List.mem_append.1 g1 with h | h
      · obtain ⟨j', hj', hje⟩ := List.mem_map.1 h
        cases hje
        exact .inl ⟨hj', hj, hnam j kj (by rw [namesOf_in hj']; exact hkj)⟩
      · rw [hst j x h] at hj; cases hj
  rcases key with ⟨j1, j2, j3⟩ | ⟨j1, j2⟩
  · have := h3.sr.inj j i kj k j2 hi j3 hki hb
    exact hiL (this ▸ j1)
  · obtain ⟨kk, e1, e2⟩ := h3.sr.live i (fun e => by rw [e] at hi; cases hi)
    rw [hki] at e1; cases e1
    obtain ⟨kk, e3, e4⟩ := hk.sr.live j (fun e => by rw [e] at j2; cases j2)
    rw [hkj] at e3; cases e3
    rcases e2.wr hi with h | h
    · have := e4.lt j2; omega
    · obtain ⟨q, kq, g1, g2, g3, g4⟩ := h
      have := hk.sr.inj j q kj kq j2 g4 hkj g2 (hb.trans g3.symm)
      exact j1 (this ▸ g1)
theorem doCall_sound {cf : CallFn} (hcf : CallOk P G cf) {base : Nat} {f : V} {args : List V} {raw : List Bool} {own : Option Nat} {did : Did} (hd : doCall cf o base N f args raw own = some did)
    (hk : Ok M β N Lb w0 o w) (hg : GOK M G) {fv : Value} {vargs : Array Value} (hf : Rel M β f fv) (hl : vargs.size = args.length) (ha : ∀ (j : Nat) v, args[j]? = some v → Rel M β v (vargs.getD j undef))
    (hfr : ∀ k, own = some k → β (base + k) = none ∧ base + k < N ∧ base + k ∈ ks) :
    ∃ g xs, fv = .func (.func g) #[] xs ∧ Callable P g ∧ Calls P g (vargs ++ xs) w (StepPost M β N Lb w0 ks o did) := by
  unfold doCall at hd
  split at hd
  · rename_i g caps
    obtain ⟨xs, rfl, hxl, hxs⟩ := hf.fn_inv
    refine ⟨g, xs, rfl, ?_⟩
    simp only at hd
    obtain ⟨r0, hr0, hd⟩ := bind_some' hd
    obtain ⟨L, hL, hd⟩ := bind_some' hd
    obtain ⟨fa, hfa, hd⟩ := bind_some' hd
    split at hd
    · rename_i hnr
      obtain ⟨hr1, _, hr3⟩ := reach_closed 64 r0 [] L hL (by simp)
      obtain ⟨g1, g2, g3⟩ := frzArgs_get hfa hr0
      have hall : ∀ (j : Nat) v, (args ++ caps)[j]? = some v → Rel M β v ((vargs ++ xs).getD j undef) := by
        intro j v hj
        rw [List.getElem?_append] at hj
        split at hj
        · rename_i hlt
          have := ha j v hj
          have hx : (vargs ++ xs)[j]? = vargs[j]? := Array.getElem?_append_left (by omega)
          rw [Array.getD_eq_getD_getElem?] at this ⊢
          rw [hx]; exact this
        · rename_i hge
          have := hxs _ v hj
          have hx : (vargs ++ xs)[j]? = xs[j - vargs.size]? := Array.getElem?_append_right (by omega)
          rw [Array.getD_eq_getD_getElem?] at this ⊢
          rw [hx, hl]; exact this
      have hmk : ∀ i a, (i, a) ∈ fa.2 → ∀ k, β i = some k → mmem M β fa.2 w k.b = w.heap[k.b]? := fun i a h k hk' => mmem_mark h hk'
      have hstill : ∀ i a, (i, a) ∈ fa.2 → Still (mmem M β fa.2 w) β w o i a := by
        intro i a hi
        obtain ⟨v, t, e1, e2, e3, e4⟩ := g3 _ hi
        obtain ⟨j, hj⟩ := List.getElem?_of_mem e1
        exact (frz_sound hk.sr (mmem_le hk.sr) deep v t _ e2 (hall j v hj) fun i a h k hk' => hmk i a (e4 _ h) k hk').2 i a e3
      have hargs : ∀ (j : Nat) v, fa.1[j]? = some v → Rel (mmem M β fa.2 w) (namesOf β L) v ((vargs ++ xs).getD j undef) := by
        intro j v hj
        have hlt : j < (args ++ caps).length := by rw [← g1]; exact (List.getElem?_eq_some_iff.1 hj).1
        have hu := List.getElem?_eq_getElem hlt
        rcases g2 j _ hu with ⟨e1, s, e2, e3⟩ | ⟨t, e1, e2, e3⟩
        · rw [hj] at e1; cases e1
          have := refs_rel (β' := namesOf β L) deep _ s _ e2 (hall j _ hu) (fun i hi k hik => by rw [namesOf_in (hr1 i (e3 i hi))]; exact hik)
          exact this.mono (mmem_le hk.sr) (fun _ _ h => h)
        · rw [hj] at e2; cases e2
          exact .pure (frz_sound hk.sr (mmem_le hk.sr) deep _ t _ e1 (hall j _ hu) fun i a h k hk' => hmk i a (e3 _ h) k hk').1
      have hsz : (vargs ++ xs).size = fa.1.length := by simp [g1, hl, hxl]
      have hgok : GOK (mmem M β fa.2 w) G := fun g cs h => (hg g cs h).mono (mmem_le hk.sr)
      have hfst : ∀ i a, (i, a) ∈ fa.2 → wrt (o i) = true := fun i a h => (hstill i a h).1
      have hlive : ∀ i ∈ L, o i ≠ .dead := by
        intro i hi e
        obtain ⟨l, h1, _⟩ := hr3 i hi
        rw [e] at h1; cases h1
      -- the callee, with its own bound
      have hcall : ∀ out, (if L.isEmpty then cf g fa.1 (fun _ => .dead) 0 else cf g fa.1 (restrict o L) N) = some out →
          Callable P g ∧ ∃ Nc, (∀ i, i ∈ L → ∀ k, β i = some k → i < Nc) ∧ Calls P g (vargs ++ xs) w (CallPost (mmem M β fa.2 w) (namesOf β L) Nc (blocksOf o β L) w out) := by
        intro out hout
        split at hout
        · rename_i hLe
          have hL0 : L = [] := by simpa using hLe
          obtain ⟨h1, h2⟩ := hcf _ _ _ _ _ hout
          refine ⟨h1, 0, by rw [hL0]; simp, ?_⟩
          refine h2 _ _ _ _ _ ?_ hgok hsz hargs
          have := callee_ok hk (L := L) (fs := fa.2) (Nc := 0) hr3 hnr hfst (by rw [hL0]; simp)
          have he : restrict o L = fun _ => .dead := by funext i; rw [restrict_out (by rw [hL0]; simp)]
          rw [he] at this; exact this
        · obtain ⟨h1, h2⟩ := hcf _ _ _ _ _ hout
          refine ⟨h1, N, fun i _ k hk' => hk.sr.bnd i k hk', ?_⟩
          exact h2 _ _ _ _ _ (callee_ok hk hr3 hnr hfst (fun i _ k hk' => hk.sr.bnd i k hk')) hgok hsz hargs
      split at hd
      · rename_i v o' hout
        obtain ⟨hc1, Nc, hNc, hc2⟩ := hcall _ hout
        refine ⟨hc1, hc2.mono ?_⟩
        rintro en w' ⟨x, M3, β3, N3, rfl, hm, hold, hnam, hnew, h3, hret⟩
        split at hd
        · rename_i hcl
          cases hd
          have hcl' := closedIn_spec hcl
          by_cases hkeep : (L.isEmpty && scalar v) = true
          · simp only [hkeep, if_true]
            simp only [Bool.and_eq_true] at hkeep
            have hL0 : L = [] := by simpa using hkeep.1
            have hth : thaw (own.map (base + ·)) v = (v, []) := by
              unfold thaw
              split
              · simp [scalar, scalarV] at hkeep
              · rfl
            have hpv : PRel M3 v x := by
              unfold RetOk at hret
              split at hret
              · simp [scalar, scalarV] at hkeep
              · exact hret
            rw [hth]
            subst hL0
            refine ⟨x, M, β, rfl, ⟨fun _ _ h => h, fun _ _ _ => rfl, fun _ _ h => h, fun _ _ h => .inl h⟩, ?_, .pure (scalar_prel hkeep.2 hpv)⟩
            exact caller_scalar hk h3.kp (by rintro b ⟨i, k, h1, _⟩; simp at h1)
          · simp only [hkeep, Bool.false_eq_true, if_false]
            obtain ⟨k1, k2, k3⟩ := caller_ok hk hnr hstill hm hold hnam h3 hcl' hlive
            by_cases hown : ∃ e ys, v = .own e ys
            · obtain ⟨e, ys, rfl⟩ := hown
              obtain ⟨i, k, cap, f1, f2, f3, rfl, f5, f6, f7⟩ := hret
              have hiL : i ∉ L := by
                intro hi
                obtain ⟨k0, e0, _⟩ := hk.sr.live i (hlive i hi)
                have := hNc i hi k0 e0
                omega
              have hne := caller_ne hk (fs := fa.2) (fun i a h => (hstill i a h).2.1) hnam h3 (by rw [f2]; rfl) f3 hiL
              obtain ⟨kk, e1, e2⟩ := h3.sr.live i (by rw [f2]; simp)
              rw [f3] at e1; cases e1
              rw [f2] at e2
              obtain ⟨t1, t2, t3, t4, t5⟩ := e2
              cases own with
              | none =>
                simp only [thaw, Option.map_none, List.append_nil]
                obtain ⟨c, ty, fr, b1, b2, b3, b4, b5⟩ := f7
                have hst2 := ok_still_block k1 (b := k.b) (ob := .cells c ty fr) b1 hne
                have hle := mputs_le (M := M3) (b := k.b) (ob := .cells c ty fr) (fun x hx => by rw [t2] at hx; cases hx)
                refine ⟨_, mput M3 k.b (.cells c ty fr), β, rfl, ⟨fun b y h => hle b y (k2 b y h), ?_, fun _ _ h => h, fun _ _ h => .inl h⟩, hst2, .pure ?_⟩
                · intro b hb hnl
                  unfold mput
                  split
                  · rename_i e'; subst e'
                    exfalso
                    rcases t1 with h | h
                    · have := hk.kp.size; omega
                    · obtain ⟨q, kq, u1, u2, u3, u4⟩ := h
                      obtain ⟨kk, v1, v2⟩ := hk.sr.live q (hlive q u1)
                      rw [u2] at v1; cases v1
                      have := v2.wr u4
                      rw [u3] at this
                      exact this.elim (fun h => by omega) hnl
                  · exact k3 b hb hnl
                · have hbx : BoxAt (mput M3 k.b (.cells c ty fr) k.b) k.size (PRel (mput M3 k.b (.cells c ty fr))) ys.flatten := by
                    refine ⟨c, ty, fr, by simp [mput], b2, b3, b4, fun j v hj => ?_⟩
                    obtain ⟨x, v1, v2, v3⟩ := b5 j v hj
                    exact ⟨x, v1, v2, v3.mono hle⟩
                  have := prel_sl_of_box (st := 0) (len := ys.length) (cap := cap) (a := some ⟨k.b, 0, none⟩) hbx t4 (by omega) f5 (by simp)
                  simpa using this
              | some kn =>
                obtain ⟨g4, g5, g6⟩ := hfr kn rfl
                simp only [thaw, Option.map_some]
                have hholds : Holds M3 (nput β (base + kn) k) (WrOf Lb w0) w' k (.vec e ys) := by
                  refine ⟨?_, t2, t3, t4, f7.mono (fun _ h => h) (fun _ _ h => .pure h)⟩
                  rcases t1 with h | h
                  · exact .inl (Nat.le_trans hk.kp.size h)
                  · obtain ⟨q, kq, u1, u2, u3, u4⟩ := h
                    obtain ⟨kk, v1, v2⟩ := hk.sr.live q (hlive q u1)
                    rw [u2] at v1; cases v1
                    have := v2.wr u4
                    rwa [u3] at this
                refine ⟨_, M3, nput β (base + kn) k, rfl, ⟨k2, k3, nput_le g4, ?_⟩, ⟨(by rw [hputs_append]; exact k1.sr.new g4 g5 (x := .vec e ys) rfl hne hholds), k1.kp⟩, ?_⟩
                · intro j kj hj
                  unfold nput at hj
                  split at hj
                  · rename_i e'; subst e'; exact .inr g6
                  · exact .inl hj
                · have := Rel.vsl (M := M3) (β := nput β (base + kn) k) (base + kn) 0 ys.length cap k nput_eq f5 (by rw [t3]; omega)
                  simpa using this
            · have hth : thaw (own.map (base + ·)) v = (v, []) := by
                unfold thaw
                split
                · exact absurd ⟨_, _, rfl⟩ hown
                · rfl
              have hpv : PRel M3 v x := by
                unfold RetOk at hret
                split at hret
                · exact absurd ⟨_, _, rfl⟩ hown
                · exact hret
              rw [hth, List.append_nil]
              exact ⟨x, M3, β, rfl, ⟨k2, k3, fun _ _ h => h, fun _ _ h => .inl h⟩, k1, .pure hpv⟩
        · cases hd
      · rename_i v hout
        obtain ⟨hc1, Nc, hNc, hc2⟩ := hcall _ hout
        refine ⟨hc1, hc2.mono ?_⟩
        rintro en w' ⟨x, rfl, hp, hkp⟩
        cases hd
        refine ⟨x, rfl, hp, hk.kp.trans (hkp.mono ?_)⟩
        rintro b ⟨q, kq, u1, u2, u3, u4⟩
        obtain ⟨kk, v1, v2⟩ := hk.sr.live q (hlive q u1)
        rw [u2] at v1; cases v1
        have := v2.wr u4
        rwa [u3] at this
      · cases hd
    · cases hd
  · cases hd
end
end Go.Proofs.Ytoccgkgdhobmfaa.Am
set_option linter.unusedVariables false
set_option linter.unusedSimpArgs false
namespace Go.Proofs.Ytoccgkgdhobmfaa.Am
open Go
section
variable {P : Program} {M : Mem} {β : Names} {N : Nat} {Lb : Nat → Prop} {w0 w : World} {o : Hp} {ks : List Nat} {e : Env} {a : Go.Act} {G : Nat → Option (List V)}
theorem rows_frz (hk : Ok M β N Lb w0 o w) {xs : List (List V)} {q : List (List V) × List (Nat × AObj)} (h1 : seqM (seqM (frz o deep)) xs = some q)
    (hcell : ∀ (jj : Nat) l, xs[jj]? = some l → ∀ (j : Nat) v, l[j]? = some v → ∃ x, Rel M β v x) :
    q.1.length = xs.length ∧ (∀ (jj : Nat) l, xs[jj]? = some l → ∃ s, q.1[jj]? = some s ∧ s.length = l.length ∧ ∀ (j : Nat) v x, l[j]? = some v → Rel M β v x → ∃ v', s[j]? = some v' ∧ PRel (mmem M β q.2 w) v' x) ∧
    ∀ j a, (j, a) ∈ q.2 → Still (mmem M β q.2 w) β w o j a := by
  obtain ⟨g1, g2, g3⟩ := seqM_get h1
  have hmk : ∀ j a, (j, a) ∈ q.2 → ∀ kk, β j = some kk → mmem M β q.2 w kk.b = w.heap[kk.b]? := fun j a h kk hkk => mmem_mark h hkk
  refine ⟨g1, ?_, ?_⟩
  · intro jj l hl
    obtain ⟨s, e1, e2, e3⟩ := g2 jj l hl
    obtain ⟨f1, f2, f3⟩ := seqM_get e1
    refine ⟨s.1, e2, f1, ?_⟩
    intro j v x hj hvx
    obtain ⟨t, u1, u2, u3⟩ := f2 j v hj
    exact ⟨t.1, u2, (frz_sound hk.sr (mmem_le hk.sr) deep v t x u1 hvx fun i a hi kk hkk => hmk i a (e3 _ (u3 _ hi)) kk hkk).1⟩
  · intro j a hj
    obtain ⟨l, s, e1, e2, e3⟩ := g3 _ hj
    obtain ⟨jj, hjj⟩ := List.getElem?_of_mem e1
    obtain ⟨f1, f2, f3⟩ := seqM_get e2
    obtain ⟨v, t, u1, u2, u3⟩ := f3 _ e3
    obtain ⟨jv, hjv⟩ := List.getElem?_of_mem u1
    obtain ⟨x, hx⟩ := hcell jj l hjj jv v hjv
    obtain ⟨s', t1, t2, t3⟩ := g2 jj l hjj
    rw [e2] at t1; cases t1
    obtain ⟨t', y1, y2, y3⟩ := f2 jv v hjv
    rw [u2] at y1; cases y1
    exact (frz_sound hk.sr (mmem_le hk.sr) deep v t x u2 hx fun i a hi kk hkk => hmk i a (t3 _ (y3 _ hi)) kk hkk).2 j a u3
theorem mark_old' (hk : Ok M β N Lb w0 o w) {fs : List (Nat × AObj)} (hst : ∀ i a, (i, a) ∈ fs → wrt (o i) = true) : ∀ b, b < w0.heap.size → ¬ Lb b → mmem M β fs w b = M b := by
  intro b hb hn
  refine mmem_not ?_
  rintro ⟨i, a, k, h1, h2, rfl⟩
  have hw := hst i a h1
  obtain ⟨k', g1, g2⟩ := hk.sr.live i (fun e => by rw [e] at hw; cases hw)
  rw [h2] at g1; cases g1
  exact (g2.wr hw).elim (fun h => by omega) hn
theorem snd_flit {p : Oper} {esz : Nat} {zero : List (List V)} {parts : List (Nat × Arg)} {d : Did} (hc : chkLit P p.op esz zero parts = true) (hd : doFlit o esz (fillElems G e esz parts zero) = some d)
    (hk : Ok M β N Lb w0 o w) (he : EnvR M β e a) (hg : GOK M G) :
    ∃ v u fp M' β' w' x, d = .act v u fp ∧ (execOp a.eval p).run P w = .ok (.value x) w' ∧ Ext M β Lb w0 ks M' β' ∧ Ok M' β' N Lb w0 (hputs o u) w' ∧ Rel M' β' v x := by
  obtain ⟨xs, hf, h2⟩ := bind_some' hd
  obtain ⟨r, hr, rfl⟩ := map_some' h2
  obtain ⟨c, el, h1, hrl, hall, h0⟩ := run_lit (P := P) (w := w) (a := a) hc hf he hg
  have hl : c.size = xs.length * esz := by have := hrl.1; rw [flat_len hall] at this; simpa using this.symm
  have hcl : ∀ (q : Nat) (v : V), xs.flatten[q]? = some v → c[q]? = some (c.getD q undef) ∧ (c.getD q undef).oneCell' = true ∧ Rel M β v (c.getD q undef) := by
    intro q v hq
    have hlt : q < c.size := by
      have := (List.getElem?_eq_some_iff.1 hq).1
      rw [flat_len hall] at this; omega
    have hx : c[q]? = some c[q] := by simp [hlt]
    rw [getD_of_getElem? hx]
    exact ⟨hx, hrl.2.2 _ (by simp), hrl.2.1 q v _ hq (by simp [hlt])⟩
  obtain ⟨g1, g2, g3⟩ := rows_frz hk hr (fun jj l hjl j v hj => ⟨_, (hcl _ v (flat_get hall hjl hj)).2.2⟩)
  have hk1 : Ok (mmem M β r.2 w) β N Lb w0 (hputs o r.2) w := ⟨hk.sr.mark g3, hk.kp⟩
  have hold := mark_old' hk (fs := r.2) (fun i a h => (g3 i a h).1)
  have hle := mmem_le (fs := r.2) hk.sr
  refine ⟨_, _, _, mput (mmem M β r.2 w) w.heap.size (.cells c el), β, _, _, rfl, h1, ⟨fun b y h => mput_le hk1.sr.fresh b y (hle b y h), ?_, fun _ _ h => h, fun _ _ h => .inl h⟩, hk1.still _, .pure ?_⟩
  · intro b hb hn
    have := hk.kp.size
    unfold mput
    rw [if_neg (by omega)]
    exact hold b hb hn
  · rw [← g1]
    have hget : ∀ (i : Nat) (l' : List V) (j : Nat) (v' : V), r.1[i]? = some l' → l'[j]? = some v' → ∃ l v, xs[i]? = some l ∧ l[j]? = some v ∧ xs.flatten[i * esz + j]? = some v := by
      intro i l' j v' hi hj
      have hil : i < xs.length := by rw [← g1]; exact (List.getElem?_eq_some_iff.1 hi).1
      have hx := List.getElem?_eq_getElem hil
      obtain ⟨s, e1, e2, e3⟩ := g2 i _ hx
      rw [hi] at e1; cases e1
      have hjl : j < xs[i].length := by rw [← e2]; exact (List.getElem?_eq_some_iff.1 hj).1
      have hv := List.getElem?_eq_getElem hjl
      exact ⟨_, _, hx, hv, flat_get hall hx hv⟩
    have hall' : ∀ (i : Nat) (l' : List V), r.1[i]? = some l' → l'.length = esz := by
      intro i l' hi
      have hil : i < xs.length := by rw [← g1]; exact (List.getElem?_eq_some_iff.1 hi).1
      have hx := List.getElem?_eq_getElem hil
      obtain ⟨s, e1, e2, e3⟩ := g2 i _ hx
      rw [hi] at e1; cases e1
      rw [e2]; exact hall _ (List.getElem_mem hil)
    refine .sl esz r.1 _ _ w.heap.size 0 (fun i j => c.getD (i * esz + j) undef) (by omega) (fun _ => rfl) hall' ?_ ?_ ?_
    · intro i l' j v' hi hj
      obtain ⟨l, v, _, _, h4⟩ := hget i l' j v' hi hj
      rw [cellAt_mput, Nat.zero_add]; exact (hcl _ v h4).1
    · intro i l' j v' hi hj
      obtain ⟨l, v, _, _, h4⟩ := hget i l' j v' hi hj
      exact (hcl _ v h4).2.1
    · intro i l' j v' hi hj
      obtain ⟨l, v, h5, h6, h4⟩ := hget i l' j v' hi hj
      obtain ⟨s, e1, e2, e3⟩ := g2 i l h5
      rw [hi] at e1; cases e1
      obtain ⟨v'', e4, e5⟩ := e3 j v _ h6 (hcl _ v h4).2.2
      rw [hj] at e4; cases e4
      exact e5.mono (mput_le hk1.sr.fresh)
end
end Go.Proofs.Ytoccgkgdhobmfaa.Am
set_option linter.unusedVariables false
set_option linter.unusedSimpArgs false
namespace Go.Proofs.Ytoccgkgdhobmfaa.Am
open Go
def chkAL : List Operand → List Arg → Bool
  | [], [] => true
  | x :: xs, y :: ys => chkA x y && chkAL xs ys
  | _, _ => false
def chkCall (op : Go.Op) (f : Arg) (args : List Arg) : Bool :=
  match op with
  | .call c => (match c.callee with | .value g => chkA g f | _ => false) && chkAL c.args.toList args
  | _ => false
def chkPanic (op : Go.Op) (x : Arg) : Bool := match op with | .panic y => chkA y x | _ => false
def chkOp (P : Program) (p : Oper) : I → Bool
  | .call f args _ _ => chkCall p.op f args
  | .panic x => chkPanic p.op x
  | .flit esz zero parts => chkLit P p.op esz zero parts
  | i => chkI P p i
section
variable {P : Program} {M : Mem} {β : Names} {N : Nat} {Lb : Nat → Prop} {w0 w : World} {o : Hp} {ks : List Nat} {e : Env} {a : Go.Act} {G : Nat → Option (List V)}
theorem chkAL_sound (he : EnvR M β e a) (hg : GOK M G) : ∀ {xs : List Operand} {ys : List Arg}, chkAL xs ys = true →
    xs.length = ys.length ∧ ∀ (j : Nat) (x : Operand) (y : Arg), xs[j]? = some x → ys[j]? = some y → Rel M β (evA G e y) (a.eval x) := by
  intro xs
  induction xs with
  | nil => intro ys h; cases ys with | nil => exact ⟨rfl, by simp⟩ | cons _ _ => cases h
  | cons x xs ih =>
    intro ys h
    cases ys with
    | nil => cases h
    | cons y ys =>
      simp only [chkAL, Bool.and_eq_true] at h
      obtain ⟨h1, h2⟩ := ih h.2
      refine ⟨by simp [h1], fun j u v hj hv => ?_⟩
      cases j with
      | zero => simp at hj hv; subst hj; subst hv; exact evA_sound h.1 he hg
      | succ j => simp at hj hv; exact h2 j u v hj hv
theorem Gd.wp {p : Oper} {act : Act} {K : Go.Act → World → Prop} {Q : Exit → Go.Act → World → Prop} (h : Gd M β N Lb w0 ks (hputs o act.ups) act.val ((execOp a.eval p).run P w))
    (hK : ∀ M' β' w' x, Ext M β Lb w0 ks M' β' → Ok M' β' N Lb w0 (hputs o act.ups) w' → Rel M' β' act.val x → K (a.put p.dst x) w') : p.wp P a w K Q := by
  obtain ⟨x, w', M', β', h1, h2, h3, h4, h5, h6, h7⟩ := h
  have := hK M' β' w' x ⟨h2, fun b hb _ => h3 b hb, h4, h5⟩ h6 h7
  unfold Oper.wp
  rcases h1 with h1 | ⟨h1, rfl⟩
  · rw [h1]; exact this
  · rw [h1]; exact this
theorem doOp_sound {cf : CallFn} (hcf : CallOk P G cf) {base : Nat} {p : Oper} {i : I} {did : Did} (hd : doOp G cf base N e o i = some did) (hc : chkOp P p i = true)
    (hk : Ok M β N Lb w0 o w) (he : EnvR M β e a) (hg : GOK M G) (hf : ∀ k ∈ allocK i, β (base + k) = none ∧ base + k < N ∧ base + k ∈ ks)
    {K : Go.Act → World → Prop} {Q : Exit → Go.Act → World → Prop}
    (hK : ∀ v u fp M' β' w' x, did = .act v u fp → Ext M β Lb w0 ks M' β' → Ok M' β' N Lb w0 (hputs o u) w' → Rel M' β' v x → K (a.put p.dst x) w')
    (hP : ∀ v x w', did = .panic v → PRel (fun _ => none) v x → Kp Lb w0 w' → Q (.panic [{ v := x, recovered := false }]) a w') : p.wp P a w K Q := by
  have simple : ∀ act, stepI G e o base i = some act → did = .act act.val act.ups ⟨act.rd, ids act.ups⟩ → chkI P p i = true → p.wp P a w K Q := by
    intro act h1 h2 h3
    exact (stepI_sound h1 h3 hk he hg hf).wp fun M' β' w' x g1 g2 g3 => hK _ _ _ M' β' w' x h2 g1 g2 g3
  by_cases hcall : ∃ f args raw own, i = .call f args raw own
  · obtain ⟨f, args, raw, own, rfl⟩ := hcall
    simp only [doOp] at hd
    simp only [chkOp, chkCall] at hc
    split at hc
    · rename_i c hop
      simp only [Bool.and_eq_true] at hc
      obtain ⟨hc1, hc2⟩ := hc
      split at hc1
      · rename_i gx hcal
        obtain ⟨hlen, hrel⟩ := chkAL_sound he hg hc2
        have hfv := evA_sound hc1 he hg
        obtain ⟨g, xs, hgx, ⟨fn, hfn, hname, hbody⟩, hcalls⟩ := doCall_sound (ks := ks) hcf hd hk hg hfv (vargs := c.args.map a.eval) (by simp [← hlen]) (fun j v hj => by
          rw [List.getElem?_map] at hj
          obtain ⟨y, hy, rfl⟩ := map_some' hj
          have hlt : j < c.args.toList.length := by rw [hlen]; exact (List.getElem?_eq_some_iff.1 hy).1
          have hx := List.getElem?_eq_getElem hlt
          have := hrel j _ y hx hy
          rw [Array.getD_eq_getD_getElem?, Array.getElem?_map]
          rw [Array.getElem?_toList] at hx
          rw [hx]; exact this) (fun k hk' => hf k (by rw [hk']; simp [allocK]))
        unfold Oper.wp
        have hn : fn.name ≠ "runtime.NumGoroutine" := by simpa using hname
        have hrun : (execOp a.eval p).run P w = .ok (.enter g (c.args.map a.eval ++ xs)) w := by
          simp only [execOp, hop, resolve, hcal, hgx, Deferred.ofValue, Sem.run_bind, Sem.run_pure, Result.andThen_ok, invoke, callFunc, run_program, hfn, hname, hbody, Bool.false_eq_true, if_false]
          simp
        rw [hrun, Oper.upon_enter]
        refine hcalls.mono fun en w' hp => ?_
        cases did with
        | act v u fp =>
          obtain ⟨x, M', β', rfl, h1, h2, h3⟩ := hp
          exact hK v u fp M' β' w' x rfl h1 h2 h3
        | panic v =>
          obtain ⟨x, rfl, h1, h2⟩ := hp
          exact hP v x w' rfl h1 h2
      · cases hc1
    · cases hc
  · by_cases hpan : ∃ x, i = .panic x
    · obtain ⟨x, rfl⟩ := hpan
      simp only [doOp] at hd
      simp only [chkOp, chkPanic] at hc
      split at hc
      · rename_i y hop
        have hr := evA_sound hc he hg
        have fin : ∀ t v, evA G e x = .iface t v → did = .panic (.iface t v) → (∀ z, Rel M β v z → PRel (fun _ => none) v z) → p.wp P a w K Q := by
          intro t v hx hdid hp
          rw [hx] at hr
          obtain ⟨z, hz, hzr⟩ := hr.iface_inv
          unfold Oper.wp
          have hrun : (execOp a.eval p).run P w = .halt (.panic (.iface t z)) w := by
            simp only [execOp, hop, hz, Instr.panic, Sem.run_bind, run_goPanic, Result.andThen_halt]
          rw [hrun, Oper.upon_panic]
          exact hP _ _ w hdid (.iface _ _ _ (hp z hzr)) hk.kp
        split at hd
        · rename_i t v hx
          split at hd
          · rename_i k n
            cases hd
            exact fin t _ hx rfl fun z hz => by rw [hz.int_inv]; exact .int _ _
          · rename_i s
            cases hd
            exact fin t _ hx rfl fun z hz => by rw [hz.str_inv]; exact .str _
          · cases hd
        · cases hd
      · cases hc
    · cases i with
      | flit esz zero parts =>
        simp only [doOp] at hd
        obtain ⟨v, u, fp, M', β', w', x, rfl, h1, h2, h3, h4⟩ := snd_flit (ks := ks) hc hd hk he hg
        unfold Oper.wp
        rw [h1]
        exact hK v u fp M' β' w' x rfl h2 h3 h4
      | call f args raw own => exact absurd ⟨_, _, _, _, rfl⟩ hcall
      | panic x => exact absurd ⟨_, rfl⟩ hpan
      | _ =>
        simp only [doOp] at hd
        obtain ⟨act, h1, h2⟩ := map_some' hd
        exact simple act h1 h2.symm hc
end
end Go.Proofs.Ytoccgkgdhobmfaa.Am
set_option linter.unusedVariables false
set_option linter.unusedSimpArgs false
namespace Go.Proofs.Ytoccgkgdhobmfaa.Am
open Go
def uses : I → List Arg
  | .mov x | .box _ x | .load _ x | .nilCheck x | .un _ x | .convInt _ x | .convStr x | .convBytes x | .convSl x | .arrPtr _ x | .mkIface _ x
  | .fieldAddr _ x | .field _ _ x | .len x | .lenS x | .cap0 x | .extract x _ | .panic x => [x]
  | .pick c x y => [c, x, y]
  | .alloc _ _ | .lenA _ => []
  | .build _ ps => ps.map (·.2.2)
  | .lit _ _ _ ps | .ilit _ _ ps | .flit _ _ ps => ps.map (·.2)
  | .store _ x y | .bin _ x y | .eqv _ _ x y | .eqp _ x y | .eqb _ x y | .indexAddrA _ _ x y | .indexAddrL _ x y | .indexS x y | .indexA _ _ _ x y
  | .append _ _ _ x y | .appendZ _ _ _ _ x y | .copy _ x y | .make _ _ _ _ x y => [x, y]
  | .mkFn _ xs | .mmax xs | .mmin xs => xs
  | .sliceS x lo hi | .sliceL _ x lo hi | .sliceA _ _ x lo hi => x :: (lo.toList ++ hi.toList)
  | .call f xs _ _ => f :: xs
def tmpOf : Arg → List Nat
  | .tmp t => [t]
  | _ => []
def temps (i : I) : List Nat := (uses i).flatMap tmpOf
section
variable {G : Nat → Option (List V)} {e e' : Env} {o o' : Hp} {base cx : Nat} {cf : CallFn}
theorem evA_congr {x : Arg} (h : ∀ t ∈ tmpOf x, e t = e' t) : evA G e x = evA G e' x := by
  cases x with
  | tmp t => exact h t (by simp [tmpOf])
  | _ => rfl
theorem optN_congr {d : Nat} {x : Option Arg} (h : ∀ y ∈ x.toList, evA G e y = evA G e' y) : optN G e d x = optN G e' d x := by
  cases x with
  | none => rfl
  | some y => simp only [optN, h y (by simp)]
theorem fillParts_congr : ∀ {ps : List (Nat × Nat × Arg)} {cs : List V}, (∀ y ∈ ps.map (·.2.2), evA G e y = evA G e' y) → fillParts G e ps cs = fillParts G e' ps cs := by
  intro ps
  induction ps with
  | nil => intro cs _; rfl
  | cons p ps ih =>
    intro cs h
    obtain ⟨off, n, x⟩ := p
    have h1 := h x (by simp)
    simp only [fillParts, h1]
    have : fillParts G e ps = fillParts G e' ps := funext fun cs => ih fun y hy => h y (by simp at hy ⊢; exact .inr hy)
    rw [this]
theorem fillElems_congr {esz : Nat} : ∀ {ps : List (Nat × Arg)} {xs : List (List V)}, (∀ y ∈ ps.map (·.2), evA G e y = evA G e' y) → fillElems G e esz ps xs = fillElems G e' esz ps xs := by
  intro ps
  induction ps with
  | nil => intro cs _; rfl
  | cons p ps ih =>
    intro cs h
    obtain ⟨off, x⟩ := p
    have h1 := h x (by simp)
    simp only [fillElems, h1]
    rw [ih fun y hy => h y (by simp at hy ⊢; exact .inr hy)]
theorem stepI_env {i : I} (h : ∀ x ∈ uses i, evA G e x = evA G e' x) : stepI G e o base i = stepI G e' o base i := by
  cases i <;> simp only [uses, List.mem_cons, List.not_mem_nil, or_false, forall_eq_or_imp, forall_eq] at h <;> simp only [stepI]
  case build zero ps => rw [fillParts_congr h]
  case lit k esz zero ps => rw [fillElems_congr h]
  case ilit esz zero ps => rw [fillElems_congr h]
  case mkFn f xs => rw [List.map_congr_left h]
  case mmax xs => rw [List.map_congr_left h]
  case mmin xs => rw [List.map_congr_left h]
  case sliceS x lo hi =>
    rw [h.1, optN_congr (x := lo) fun y hy => h.2 y (by simp [hy])]
    have h2 : ∀ d, optN G e d hi = optN G e' d hi := fun d => optN_congr fun y hy => h.2 y (by simp [hy])
    simp only [h2]
  case sliceL esz x lo hi =>
    rw [h.1, optN_congr (x := lo) fun y hy => h.2 y (by simp [hy])]
    have h2 : ∀ d, optN G e d hi = optN G e' d hi := fun d => optN_congr fun y hy => h.2 y (by simp [hy])
    simp only [h2]
  case sliceA n esz x lo hi =>
    rw [h.1, optN_congr (x := lo) fun y hy => h.2 y (by simp [hy])]
    have h2 : ∀ d, optN G e d hi = optN G e' d hi := fun d => optN_congr fun y hy => h.2 y (by simp [hy])
    simp only [h2]
  all_goals (first | rfl | (simp only [h]; done) | (simp only [h.1, h.2]; done) | (simp only [h.1, h.2.1, h.2.2]; done))
theorem doOp_env {i : I} (h : ∀ t ∈ temps i, e t = e' t) : doOp G cf base cx e o i = doOp G cf base cx e' o i := by
  have h' : ∀ x ∈ uses i, evA G e x = evA G e' x := fun x hx => evA_congr fun t ht => h t (List.mem_flatMap.2 ⟨x, hx, ht⟩)
  have hs := stepI_env (o := o) (base := base) h'
  cases i with
  | call f args raw own =>
    simp only [uses, List.mem_cons, forall_eq_or_imp] at h'
    simp only [doOp, h'.1]
    rw [List.map_congr_left h'.2]
  | panic x =>
    simp only [uses, List.mem_cons, List.not_mem_nil, or_false, forall_eq] at h'
    simp only [doOp, h']
  | flit esz zero ps => simp only [doOp, fillElems_congr (G := G) (e := e) (e' := e') h']
  | _ => simp only [doOp, hs]
def memfree : I → Bool
  | .mov _ | .pick _ _ _ | .build _ _ | .ilit _ _ _ | .nilCheck _ | .bin _ _ _ | .eqv _ _ _ _ | .eqp _ _ _ | .eqb _ _ _ | .un _ _ | .convInt _ _ | .convBytes _
  | .arrPtr _ _ | .mkIface _ _ | .mkFn _ _ | .sliceS _ _ _ | .sliceA _ _ _ _ _ | .fieldAddr _ _ | .field _ _ _ | .indexAddrA _ _ _ _ | .indexS _ _ | .indexA _ _ _ _ _
  | .len _ | .lenS _ | .lenA _ | .cap0 _ | .mmax _ | .mmin _ | .extract _ _ | .panic _ => true
  | _ => false
def rdonly : I → Bool
  | .load _ _ | .sliceL _ _ _ _ | .indexAddrL _ _ _ | .convStr _ => true
  | _ => false
def mayPanic : I → Bool
  | .call _ _ _ _ | .panic _ => true
  | _ => false
theorem okV_free {v : Option V} {act : Act} (h : okV v = some act) : act.ups = [] ∧ act.rd = [] := by
  cases v with
  | none => cases h
  | some v => cases h; exact ⟨rfl, rfl⟩
theorem ok_free {v : V} {act : Act} (h : ok v = some act) : act.ups = [] ∧ act.rd = [] := by cases h; exact ⟨rfl, rfl⟩
theorem stepI_free {i : I} (hi : memfree i = true) : stepI G e o base i = stepI G e o' base i ∧ ∀ act, stepI G e o base i = some act → act.ups = [] ∧ act.rd = [] := by
  cases i <;> simp only [memfree, Bool.false_eq_true] at hi
  all_goals
    refine ⟨rfl, fun act h => ?_⟩
    simp only [stepI] at h
    repeat (first
      | (with_reducible exact okV_free h)
      | (with_reducible exact ok_free h)
      | (focus ((with_reducible cases h); done))
      | split at h
      | (replace h := bind_some' h; obtain ⟨_, _, h⟩ := h))
end
end Go.Proofs.Ytoccgkgdhobmfaa.Am
set_option linter.unusedVariables false
set_option linter.unusedSimpArgs false
namespace Go.Proofs.Ytoccgkgdhobmfaa.Am
open Go
section
variable {G : Nat → Option (List V)} {e e' : Env} {o o' : Hp} {base cx : Nat} {cf : CallFn}
theorem peek_loc {n : Nat} {v : V} {r : List V × List Nat} (h : peek o n v = some r) (hr : ∀ i ∈ r.2, o' i = o i) : peek o' n v = some r := by
  cases v <;> simp only [peek] at h ⊢ <;> (try cases h)
  case ptr i off =>
    obtain ⟨cs, h1, h2⟩ := bind_some' h
    obtain ⟨l, h3, rfl⟩ := map_some' h2
    have : rdBox o' i = rdBox o i := by unfold rdBox; rw [hr i (by simp)]
    rw [this]; exact h
  case ept i j off =>
    obtain ⟨cs, h1, h2⟩ := bind_some' h
    obtain ⟨l, h3, h4⟩ := bind_some' h2
    obtain ⟨l', h5, rfl⟩ := map_some' h4
    have : rdVec o' i = rdVec o i := by unfold rdVec; rw [hr i (by simp)]
    rw [this]; exact h
  case imp cs off => exact h
theorem poke_loc {new : List V} {v : V} {r : List (Nat × AObj)} (h : poke o new v = some r) (hr : ∀ i ∈ ids r, o' i = o i) : poke o' new v = some r := by
  cases v <;> simp only [poke] at h ⊢ <;> (try cases h)
  case ptr i off =>
    split at h
    · rename_i cs ho
      obtain ⟨l, h1, rfl⟩ := map_some' h
      rw [hr i (by simp [ids]), ho]; exact h
    · cases h
  case ept i j off =>
    split at h
    · rename_i e xs ho
      obtain ⟨c, h1, h2⟩ := bind_some' h
      obtain ⟨l, h3, rfl⟩ := map_some' h2
      rw [hr i (by simp [ids]), ho]; exact h
    · cases h
theorem elemsOf_loc {esz : Nat} {v : V} {r : List (List V) × List Nat} (h : elemsOf o esz v = some r) (hr : ∀ i ∈ r.2, o' i = o i) : elemsOf o' esz v = some r := by
  cases v <;> simp only [elemsOf] at h ⊢ <;> (try exact h)
  case vsl i st len =>
    obtain ⟨ex, h1, h2⟩ := bind_some' h
    have : i ∈ r.2 := by
      split at h2
      · cases h2; simp
      · cases h2
    have : rdVec o' i = rdVec o i := by unfold rdVec; rw [hr i this]
    rw [this]; exact h
  case bsl i off len e =>
    split at h
    · rename_i he
      obtain ⟨cs, h1, h2⟩ := bind_some' h
      obtain ⟨l, h3, rfl⟩ := map_some' h2
      have : rdBox o' i = rdBox o i := by unfold rdBox; rw [hr i (by simp)]
      rw [if_pos he, this]; exact h
    · cases h
theorem sliceElems_loc {esz lo hi : Nat} {v : V} {act : Act} (h : sliceElems o esz lo hi v = some act) (hr : ∀ i ∈ act.rd, o' i = o i) : sliceElems o' esz lo hi v = some act := by
  cases v <;> simp only [sliceElems] at h ⊢ <;> (try exact h)
  case vsl i st len =>
    obtain ⟨ex, h1, h2⟩ := bind_some' h
    have : i ∈ act.rd := by
      split at h2
      · cases h2; simp
      · cases h2
    have : rdVec o' i = rdVec o i := by unfold rdVec; rw [hr i this]
    rw [this]; exact h
theorem idxL_loc {esz j : Nat} {v : V} {act : Act} (h : idxL o esz j v = some act) (hr : ∀ i ∈ act.rd, o' i = o i) : idxL o' esz j v = some act := by
  cases v <;> simp only [idxL] at h ⊢ <;> (try exact h)
  case vsl i st len =>
    obtain ⟨ex, h1, h2⟩ := bind_some' h
    have : i ∈ act.rd := by
      split at h2
      · cases h2; simp
      · cases h2
    have : rdVec o' i = rdVec o i := by unfold rdVec; rw [hr i this]
    rw [this]; exact h
theorem appendTo_loc {id esz eb : Nat} {new : List (List V)} {rd : List Nat} {v : V} {act : Act} (h : appendTo o id esz eb new rd v = some act) (hr : ∀ i ∈ ids act.ups, o' i = o i) :
    appendTo o' id esz eb new rd v = some act ∧ act.rd = rd := by
  cases v <;> simp only [appendTo] at h ⊢
  case nils e =>
    refine ⟨h, ?_⟩
    split at h
    · split at h <;> (cases h; rfl)
    · cases h
  case sl e xs =>
    refine ⟨h, ?_⟩
    split at h
    · cases h; rfl
    · cases h
  case vsl i st len =>
    split at h
    · rename_i e xs ho
      split at h
      · rename_i hc
        cases h
        rw [hr i (by simp [ids]), ho]
        simp only [hc, if_true, and_self, and_true]
      · cases h
    · cases h
  all_goals cases h
/-- A step needs no more than what it says. -/
theorem stepI_loc {i : I} {act : Act} (h : stepI G e o base i = some act) (hr : ∀ x ∈ act.rd, o' x = o x) (hw : ∀ x ∈ ids act.ups, o' x = o x) : stepI G e o' base i = some act := by
  by_cases hf : memfree i = true
  · rw [(stepI_free (o := o') (o' := o) hf).1]; exact h
  cases i <;> (try (simp [memfree] at hf; done)) <;> simp only [stepI] at h ⊢ <;> (try exact h)
  case load agg x =>
    obtain ⟨r, h1, h2⟩ := bind_some' h
    obtain ⟨v, h3, rfl⟩ := map_some' h2
    rw [peek_loc h1 hr]; simp [h3]
  case store n x y =>
    split at h
    · rename_i hc
      obtain ⟨u, h1, rfl⟩ := map_some' h
      rw [if_pos hc, poke_loc h1 hw]; rfl
    · cases h
  case convStr x =>
    split at h
    · cases h
    · rename_i hc
      obtain ⟨r, h1, h2⟩ := bind_some' h
      obtain ⟨s, h3, rfl⟩ := map_some' h2
      rw [if_neg hc, elemsOf_loc h1 hr]; simp [h3]
  case convSl x =>
    split at h
    · rename_i i st len hx
      split at h
      · rename_i s xs ho
        split at h
        · rename_i hlen
          cases h
          rw [hw i (by simp [ids]), ho]
          simp [hlen]
        · cases h
      · cases h
    · cases h
  case sliceL esz x lo hi =>
    obtain ⟨n, h1, h⟩ := bind_some' h
    obtain ⟨l, h2, h⟩ := bind_some' h
    obtain ⟨r, h3, h⟩ := bind_some' h
    simp only [h1, h2, h3, Option.bind_some]
    exact sliceElems_loc h hr
  case indexAddrL esz x y =>
    obtain ⟨j, h1, h⟩ := bind_some' h
    simp only [h1, Option.bind_some]
    exact idxL_loc h hr
  case append k esz eb s x =>
    obtain ⟨r, h1, h⟩ := bind_some' h
    obtain ⟨h2, h3⟩ := appendTo_loc h hw
    rw [elemsOf_loc h1 (by rw [← h3]; exact hr)]
    exact h2
  case appendZ k esz eb zero s n =>
    obtain ⟨m, h1, h⟩ := bind_some' h
    split at h
    · rename_i hc
      simp only [h1, Option.bind_some]
      rw [if_pos hc]
      exact (appendTo_loc h hw).1
    · cases h
  case copy esz d s =>
    obtain ⟨r, h1, h⟩ := bind_some' h
    split at h
    · rename_i i off len t hd
      split at h
      · rename_i hc
        split at h
        · rename_i cs ho
          obtain ⟨c, h2, rfl⟩ := map_some' h
          rw [elemsOf_loc h1 hr]
          simp only [Option.bind_some]
          rw [if_pos hc, hw i (by simp [ids]), ho]
          simp [h2]
        · cases h
      · cases h
    · cases h
theorem flatMap_congr' {α β : Type} {l : List α} {f g : α → List β} (h : ∀ a ∈ l, f a = g a) : l.flatMap f = l.flatMap g := by
  induction l with
  | nil => rfl
  | cons a l ih => simp only [List.flatMap_cons, h a (by simp), ih fun b hb => h b (by simp [hb])]
theorem seqM_congr {α β γ : Type} {f g : α → Option (β × List γ)} {l : List α} (h : ∀ a ∈ l, f a = g a) : seqM f l = seqM g l := by
  induction l with
  | nil => rfl
  | cons a l ih => simp only [seqM, h a (by simp), ih fun b hb => h b (by simp [hb])]
theorem looks_loc : ∀ (n : Nat) (v : V), (∀ i ∈ looks o n v, o' i = o i) → frz o' n v = frz o n v ∧ looks o' n v = looks o n v := by
  intro n
  induction n with
  | zero => intro v _; exact ⟨rfl, rfl⟩
  | succ n ih =>
    intro v h
    have hc : ∀ {cs : List V}, (∀ i ∈ cs.flatMap (looks o n), o' i = o i) → seqM (frz o' n) cs = seqM (frz o n) cs ∧ cs.flatMap (looks o' n) = cs.flatMap (looks o n) := by
      intro cs hcs
      have hv : ∀ v ∈ cs, frz o' n v = frz o n v ∧ looks o' n v = looks o n v := fun v hv => ih v fun i hi => hcs i (List.mem_flatMap.2 ⟨v, hv, hi⟩)
      exact ⟨seqM_congr fun v hm => (hv v hm).1, flatMap_congr' fun v hm => (hv v hm).2⟩
    cases v <;> simp only [looks, frz] at h ⊢ <;> (try exact ⟨rfl, rfl⟩) <;> (try exact ⟨trivial, trivial⟩)
    case ptr i off =>
      have h0 := h i (by simp)
      rw [h0]
      cases ho : o i <;> (try exact ⟨rfl, rfl⟩)
      rename_i cs
      rw [ho] at h
      obtain ⟨h1, h2⟩ := hc (cs := cs) fun j hj => h j (by simp only [List.mem_cons]; exact .inr hj)
      simp only [h1, h2, and_self]
    case bsl i off len e =>
      have h0 := h i (by simp)
      rw [h0]
      cases ho : o i <;> (try exact ⟨rfl, rfl⟩)
      rename_i cs
      rw [ho] at h
      obtain ⟨h1, h2⟩ := hc (cs := cs) fun j hj => h j (by simp only [List.mem_cons]; exact .inr hj)
      simp only [h1, h2, and_self]
    case vsl i st len =>
      have h0 := h i (by simp)
      rw [h0]
      cases ho : o i <;> (try exact ⟨rfl, rfl⟩)
      rename_i e xs
      rw [ho] at h
      have hl : ∀ l ∈ xs, seqM (frz o' n) l = seqM (frz o n) l ∧ l.flatMap (looks o' n) = l.flatMap (looks o n) := fun l hl =>
        hc (cs := l) fun j hj => h j (by simp only [List.mem_cons]; exact .inr (List.mem_flatMap.2 ⟨l, hl, hj⟩))
      have e1 : seqM (seqM (frz o' n)) xs = seqM (seqM (frz o n)) xs := seqM_congr fun l hm => (hl l hm).1
      have e2 : (xs.flatMap fun l => l.flatMap (looks o' n)) = xs.flatMap fun l => l.flatMap (looks o n) := flatMap_congr' fun l hm => (hl l hm).2
      simp only [e1, e2, and_self]
    case fn f caps => obtain ⟨h1, h2⟩ := hc h; simp only [h1, h2, and_self]
    case agg cs => obtain ⟨h1, h2⟩ := hc h; simp only [h1, h2, and_self]
    case tup cs => obtain ⟨h1, h2⟩ := hc h; simp only [h1, h2, and_self]
    case iface t v => obtain ⟨h1, h2⟩ := ih v h; simp only [h1, h2, and_self]
theorem frzArgs_loc : ∀ {l : List V} {m : List Bool}, (∀ i ∈ looksArgs o l m, o' i = o i) → frzArgs o' l m = frzArgs o l m ∧ looksArgs o' l m = looksArgs o l m := by
  intro l
  induction l with
  | nil => intro m h; exact ⟨rfl, rfl⟩
  | cons a l ih =>
    intro m h
    match m, h with
    | true :: m, h =>
      simp only [looksArgs] at h
      obtain ⟨h1, h2⟩ := ih h
      simp only [frzArgs, looksArgs, h1, h2, and_self]
    | false :: m, h =>
      simp only [looksArgs, List.tail_cons] at h
      obtain ⟨h1, h2⟩ := looks_loc deep a fun i hi => h i (List.mem_append_left _ hi)
      obtain ⟨h3, h4⟩ := ih (m := m) fun i hi => h i (List.mem_append_right _ hi)
      simp only [frzArgs, looksArgs, List.tail_cons, h1, h2, h3, h4, and_self]
    | [], h =>
      simp only [looksArgs, List.tail_nil] at h
      obtain ⟨h1, h2⟩ := looks_loc deep a fun i hi => h i (List.mem_append_left _ hi)
      obtain ⟨h3, h4⟩ := ih (m := []) fun i hi => h i (List.mem_append_right _ hi)
      simp only [frzArgs, looksArgs, List.tail_nil, h1, h2, h3, h4, and_self]
theorem reach_acc : ∀ (n : Nat) (todo acc L : List Nat), reach o n todo acc = some L → ∀ i ∈ acc, i ∈ L := by
  intro n
  induction n with
  | zero => intro todo acc L h; cases h
  | succ n ih =>
    intro todo acc L h i hi
    cases todo with
    | nil => cases h; exact hi
    | cons j r =>
      simp only [reach] at h
      split at h
      · exact ih _ _ _ h i hi
      · obtain ⟨l, e1, e2⟩ := bind_some' h
        exact ih _ _ _ e2 i (by simp [hi])
theorem reach_loc : ∀ (n : Nat) (todo acc L : List Nat), reach o n todo acc = some L → (∀ i ∈ L, o' i = o i) → reach o' n todo acc = some L := by
  intro n
  induction n with
  | zero => intro todo acc L h; cases h
  | succ n ih =>
    intro todo acc L h hL
    cases todo with
    | nil => exact h
    | cons j r =>
      simp only [reach] at h ⊢
      split at h
      · rename_i hc; rw [if_pos hc]; exact ih _ _ _ h hL
      · rename_i hc
        rw [if_neg hc]
        obtain ⟨l, e1, e2⟩ := bind_some' h
        have := reach_acc _ _ _ _ e2 j (by simp)
        rw [hL j this, e1]
        exact ih _ _ _ e2 hL
theorem restrict_loc {L : List Nat} (h : ∀ i ∈ L, o' i = o i) : restrict o' L = restrict o L := by
  funext i
  unfold restrict
  split
  · rename_i hc; exact h i (by simpa using hc)
  · rfl
theorem doCall_wr {f : V} {args : List V} {raw : List Bool} {own : Option Nat} {v : V} {u : List (Nat × AObj)} {fp : Fp} (h : doCall cf o base cx f args raw own = some (.act v u fp)) : fp.wr = ids u := by
  unfold doCall at h
  split at h
  · simp only at h
    obtain ⟨r0, h1, h⟩ := bind_some' h
    obtain ⟨L, h2, h⟩ := bind_some' h
    obtain ⟨fa, h3, h⟩ := bind_some' h
    split at h
    · split at h
      · split at h
        · cases h
          simp only [ids_append, ids_map]
        · cases h
      · cases h
      · cases h
    · cases h
  · cases h
theorem doCall_loc {f : V} {args : List V} {raw : List Bool} {own : Option Nat} {v : V} {u : List (Nat × AObj)} {fp : Fp} (h : doCall cf o base cx f args raw own = some (.act v u fp))
    (hr : ∀ x ∈ fp.rd, o' x = o x) (hw : ∀ x ∈ fp.wr, o' x = o x) : doCall cf o' base cx f args raw own = some (.act v u fp) := by
  have h0 := h
  unfold doCall at h ⊢
  split at h
  · rename_i g caps
    simp only at h ⊢
    obtain ⟨r0, h1, h⟩ := bind_some' h
    obtain ⟨L, h2, h⟩ := bind_some' h
    obtain ⟨fa, h3, h⟩ := bind_some' h
    have key : (∀ i ∈ L, i ∈ fp.wr) ∧ fp.rd = looksArgs o (args ++ caps) raw := by
      split at h
      · split at h
        · split at h
          · cases h
            exact ⟨fun i hi => by simp [hi], rfl⟩
          · cases h
        · cases h
        · cases h
      · cases h
    have hL : ∀ i ∈ L, o' i = o i := fun i hi => hw i (key.1 i hi)
    obtain ⟨k1, k2⟩ := frzArgs_loc (o := o) (o' := o') (l := args ++ caps) (m := raw) (by rw [← key.2]; exact hr)
    simp only [h1, Option.bind_some, reach_loc _ _ _ _ h2 hL, k1, h3, k2, restrict_loc hL]
    exact h
  · cases h
theorem doFlit_act {esz : Nat} {x : Option (List (List V))} {d : Did} (h : doFlit o esz x = some d) : ∃ xs r, x = some xs ∧ seqM (seqM (frz o deep)) xs = some r ∧ d = .act (.sl esz r.1) r.2 ⟨xs.flatMap fun l => l.flatMap (looks o deep), ids r.2⟩ := by
  obtain ⟨xs, h1, h2⟩ := bind_some' h
  obtain ⟨r, h3, h4⟩ := map_some' h2
  exact ⟨xs, r, h1, h3, h4.symm⟩
theorem doFlit_loc {esz : Nat} {x : Option (List (List V))} {v : V} {u : List (Nat × AObj)} {fp : Fp} (h : doFlit o esz x = some (.act v u fp)) (hr : ∀ x ∈ fp.rd, o' x = o x) : doFlit o' esz x = some (.act v u fp) := by
  obtain ⟨xs, r, rfl, h2, h3⟩ := doFlit_act h
  cases h3
  have hl : ∀ l ∈ xs, seqM (frz o' deep) l = seqM (frz o deep) l ∧ l.flatMap (looks o' deep) = l.flatMap (looks o deep) := by
    intro l hl
    have hv : ∀ v ∈ l, frz o' deep v = frz o deep v ∧ looks o' deep v = looks o deep v := fun v hv => looks_loc deep v fun i hi => hr i (List.mem_flatMap.2 ⟨l, hl, List.mem_flatMap.2 ⟨v, hv, hi⟩⟩)
    exact ⟨seqM_congr fun v hm => (hv v hm).1, flatMap_congr' fun v hm => (hv v hm).2⟩
  have e1 : seqM (seqM (frz o' deep)) xs = seqM (seqM (frz o deep)) xs := seqM_congr fun l hm => (hl l hm).1
  have e2 : (xs.flatMap fun l => l.flatMap (looks o' deep)) = xs.flatMap fun l => l.flatMap (looks o deep) := flatMap_congr' fun l hm => (hl l hm).2
  simp only [doFlit, Option.bind_some, e1, h2, Option.map_some, e2]
theorem doOp_wr {i : I} {v : V} {u : List (Nat × AObj)} {fp : Fp} (h : doOp G cf base cx e o i = some (.act v u fp)) : fp.wr = ids u := by
  cases i with
  | flit esz zero ps =>
    obtain ⟨xs, r, _, _, h3⟩ := doFlit_act h
    cases h3; rfl
  | call f args raw own => exact doCall_wr h
  | panic x =>
    simp only [doOp] at h
    split at h
    · split at h <;> cases h
    · cases h
  | _ =>
    simp only [doOp] at h
    obtain ⟨a, h1, h2⟩ := map_some' h
    cases h2; rfl
theorem doOp_loc {i : I} {v : V} {u : List (Nat × AObj)} {fp : Fp} (h : doOp G cf base cx e o i = some (.act v u fp)) (hr : ∀ x ∈ fp.rd, o' x = o x) (hw : ∀ x ∈ fp.wr, o' x = o x) :
    doOp G cf base cx e o' i = some (.act v u fp) := by
  cases i with
  | flit esz zero ps => exact doFlit_loc h hr
  | call f args raw own => exact doCall_loc h hr hw
  | panic x => exact h
  | _ =>
    simp only [doOp] at h ⊢
    obtain ⟨a, h1, h2⟩ := map_some' h
    cases h2
    rw [stepI_loc h1 hr hw]; rfl
theorem doOp_free {i : I} {v : V} {u : List (Nat × AObj)} {fp : Fp} (hi : memfree i = true) (h : doOp G cf base cx e o i = some (.act v u fp)) : u = [] ∧ fp.rd = [] := by
  cases i with
  | flit esz zero ps => simp [memfree] at hi
  | call f args raw own => simp [memfree] at hi
  | panic x =>
    simp only [doOp] at h
    split at h
    · split at h <;> cases h
    · cases h
  | _ =>
    simp only [doOp] at h
    obtain ⟨a, h1, h2⟩ := map_some' h
    cases h2
    exact (stepI_free (o' := o) hi).2 a h1
theorem sliceElems_ups {esz lo hi : Nat} {v : V} {act : Act} (h : sliceElems o esz lo hi v = some act) : act.ups = [] := by
  cases v <;> simp only [sliceElems] at h
  case nils e => split at h; exact (ok_free h).1; cases h
  case sl e xs => split at h; exact (ok_free h).1; cases h
  case vsl i st len => obtain ⟨ex, h1, h2⟩ := bind_some' h; split at h2; cases h2; rfl; cases h2
  case bsl i off len e => split at h; exact (ok_free h).1; cases h
  all_goals cases h
theorem idxL_ups {esz j : Nat} {v : V} {act : Act} (h : idxL o esz j v = some act) : act.ups = [] := by
  cases v <;> simp only [idxL] at h
  case sl s xs => split at h; obtain ⟨c, h1, h2⟩ := bind_some' h; exact (ok_free h2).1; cases h
  case vsl i st len => obtain ⟨ex, h1, h2⟩ := bind_some' h; split at h2; cases h2; rfl; cases h2
  case bsl i off len s => split at h; exact (ok_free h).1; cases h
  all_goals cases h
theorem doOp_rdonly {i : I} {v : V} {u : List (Nat × AObj)} {fp : Fp} (hi : rdonly i = true) (h : doOp G cf base cx e o i = some (.act v u fp)) : u = [] := by
  cases i <;> simp only [rdonly, Bool.false_eq_true] at hi
  all_goals
    simp only [doOp] at h
    obtain ⟨a, h1, h2⟩ := map_some' h
    cases h2
    simp only [stepI] at h1
  · obtain ⟨r, g1, g2⟩ := bind_some' h1
    obtain ⟨w, g3, rfl⟩ := map_some' g2; rfl
  · split at h1
    · cases h1
    · obtain ⟨r, g1, g2⟩ := bind_some' h1
      obtain ⟨w, g3, rfl⟩ := map_some' g2; rfl
  · obtain ⟨r, g1, g2⟩ := bind_some' h1
    obtain ⟨r2, g3, g4⟩ := bind_some' g2
    obtain ⟨r3, g5, g6⟩ := bind_some' g4
    exact sliceElems_ups g6
  · obtain ⟨r, g1, g2⟩ := bind_some' h1
    exact idxL_ups g2
theorem doOp_panics {i : I} {v : V} (h : doOp G cf base cx e o i = some (.panic v)) : mayPanic i = true := by
  cases i with
  | flit esz zero ps =>
    obtain ⟨xs, r, _, _, h3⟩ := doFlit_act h
    cases h3
  | call f args raw own => rfl
  | panic x => rfl
  | _ =>
    simp only [doOp] at h
    obtain ⟨a, h1, h2⟩ := map_some' h
    cases h2
end
end Go.Proofs.Ytoccgkgdhobmfaa.Am
set_option linter.unusedVariables false
set_option linter.unusedSimpArgs false
namespace Go.Proofs.Ytoccgkgdhobmfaa.Am
open Go
inductive Rec where
  | skip
  | act (v : V) (u : List (Nat × AObj)) (rd : List Nat)
def Rec.val : Rec → V
  | .skip => .tup []
  | .act v _ _ => v
def Rec.ups : Rec → List (Nat × AObj)
  | .skip => []
  | .act _ u _ => u
def Rec.rd : Rec → List Nat
  | .skip => []
  | .act _ _ rd => rd
def Rec.fp (r : Rec) : Fp := ⟨r.rd, ids r.ups⟩
abbrev Tr := List (Op' × Rec)
abbrev EO := Env × Hp
def ap (x : Op' × Rec) (s : EO) : EO := (eputO s.1 x.1.dst x.2.val, hputs s.2 x.2.ups)
def runTr (tr : Tr) (s : EO) : EO := tr.foldl (fun s x => ap x s) s
def foldS (S : Nat → Bool) : Nat → Tr → EO → EO
  | _, [], s => s
  | k, x :: l, s => foldS S (k + 1) l (if S k then ap x s else s)
def recOf (G : Nat → Option (List V)) (cf : CallFn) (base cx : Nat) (s : EO) (q : Op') : Option Rec :=
  match wantedV s.1 q.guard with
  | some true => match doOp G cf base cx s.1 s.2 q.i with
    | some (.act v u fp) => some (.act v u fp.rd)
    | _ => none
  | some false => some .skip
  | none => none
def guardT (q : Op') : List Nat := match q.guard with | some (t, _) => [t] | none => []
def looksT (q : Op') : List Nat := temps q.i ++ guardT q
section
variable {G : Nat → Option (List V)} {base cx : Nat} {cf : CallFn}
theorem wantedV_congr {e e' : Env} {g : Option (Nat × Bool)} (h : ∀ t, (∃ b, g = some (t, b)) → e t = e' t) : wantedV e g = wantedV e' g := by
  cases g with
  | none => rfl
  | some x => obtain ⟨t, b⟩ := x; simp only [wantedV, h t ⟨b, rfl⟩]
theorem wanted_loc {e e' : Env} {q : Op'} (h : ∀ t ∈ looksT q, e t = e' t) : wantedV e q.guard = wantedV e' q.guard :=
  wantedV_congr fun t ⟨b, hb⟩ => h t (List.mem_append_right _ (by simp [guardT, hb]))
theorem recOf_loc {s s' : EO} {q : Op'} {r : Rec} (h : recOf G cf base cx s q = some r) (ht : ∀ t ∈ looksT q, s'.1 t = s.1 t) (hr : ∀ z ∈ r.rd, s'.2 z = s.2 z) (hu : ∀ z ∈ ids r.ups, s'.2 z = s.2 z) :
    recOf G cf base cx s' q = some r := by
  unfold recOf at h ⊢
  rw [wanted_loc ht]
  split at h
  · rename_i hw
    split at h
    · rename_i v u fp hd
      cases h
      rw [doOp_env (e' := s.1) fun t htm => ht t (List.mem_append_left _ htm)]
      rw [doOp_loc hd hr (by rw [doOp_wr hd]; exact hu)]
    · cases h
  · exact h
  · cases h
def TrEnd (G : Nat → Option (List V)) (cf : CallFn) (base cx : Nat) (qs : List Op') (tr : Tr) (s : EO) (fps : List Fp) : RR → Prop
  | .ok e' o' f => tr.length = qs.length ∧ f = fps.reverse ++ tr.map (·.2.fp) ∧ runTr tr s = (e', o')
  | .panic v f => f = fps.reverse ++ tr.map (·.2.fp) ∧ ∃ q, qs[tr.length]? = some q ∧ wantedV (runTr tr s).1 q.guard = some true ∧ doOp G cf base cx (runTr tr s).1 (runTr tr s).2 q.i = some (.panic v)
theorem runOps_tr : ∀ (qs : List Op') (e : Env) (o : Hp) (fps : List Fp) (rr : RR), runOps G cf base cx qs e o fps = some rr →
    ∃ tr : Tr, (∀ (j : Nat) x, tr[j]? = some x → qs[j]? = some x.1 ∧ recOf G cf base cx (runTr (tr.take j) (e, o)) x.1 = some x.2) ∧
      TrEnd G cf base cx qs tr (e, o) fps rr := by
  intro qs
  induction qs with
  | nil =>
    intro e o fps rr h
    cases h
    exact ⟨[], by simp, rfl, by simp, rfl⟩
  | cons q qs ih =>
    intro e o fps rr h
    have step : ∀ (r : Rec), recOf G cf base cx (e, o) q = some r → runOps G cf base cx qs (eputO e q.dst r.val) (hputs o r.ups) (r.fp :: fps) = some rr →
        ∃ tr : Tr, (∀ (j : Nat) x, tr[j]? = some x → (q :: qs)[j]? = some x.1 ∧ recOf G cf base cx (runTr (tr.take j) (e, o)) x.1 = some x.2) ∧
          TrEnd G cf base cx (q :: qs) tr (e, o) fps rr := by
      intro r hr hrun
      obtain ⟨tr, h1, h2⟩ := ih _ _ _ _ hrun
      refine ⟨(q, r) :: tr, ?_, ?_⟩
      · intro j x hj
        cases j with
        | zero => simp at hj; subst hj; exact ⟨rfl, hr⟩
        | succ j =>
          simp only [List.getElem?_cons_succ] at hj ⊢
          obtain ⟨g1, g2⟩ := h1 j x hj
          exact ⟨g1, by simpa [runTr, ap] using g2⟩
      · cases rr with
        | ok e' o' f =>
          obtain ⟨g1, g2, g3⟩ := h2
          exact ⟨by simp [g1], by simp [g2], by simpa [runTr, ap] using g3⟩
        | panic v f =>
          obtain ⟨g0, p, g1, g2, g3⟩ := h2
          exact ⟨by simp [g0], p, by simpa using g1, by simpa [runTr, ap] using g2, by simpa [runTr, ap] using g3⟩
    simp only [runOps] at h
    split at h
    · rename_i hw
      split at h
      · rename_i v u fp hd
        have hwr := doOp_wr hd
        refine step (.act v u fp.rd) (by simp only [recOf, hw, hd]) ?_
        have : Rec.fp (.act v u fp.rd) = fp := by cases fp; simp only [Rec.fp, Rec.rd, Rec.ups] at *; rw [hwr]
        rw [this]; exact h
      · rename_i v hd
        cases h
        exact ⟨[], by simp, by simp, q, rfl, hw, hd⟩
      · cases h
    · rename_i hw
      exact step .skip (by simp only [recOf, hw]) h
    · cases h
theorem foldS_lt (j : Nat) : ∀ (tr : Tr) (k : Nat) (s : EO), foldS (fun i => decide (i < j)) k tr s = runTr (tr.take (j - k)) s := by
  intro tr
  induction tr with
  | nil => intro k s; simp [foldS, runTr]
  | cons x l ih =>
    intro k s
    simp only [foldS]
    rw [ih]
    by_cases h : k < j
    · have : j - k = (j - (k + 1)) + 1 := by omega
      simp only [h, decide_true, if_true, this, List.take_succ_cons, runTr, List.foldl_cons]
    · have h1 : j - k = 0 := by omega
      have h2 : j - (k + 1) = 0 := by omega
      simp [h, h1, h2, runTr]
theorem foldS_all : ∀ (tr : Tr) (S : Nat → Bool) (k : Nat) (s : EO), (∀ i, i < tr.length → S (k + i) = true) → foldS S k tr s = runTr tr s := by
  intro tr
  induction tr with
  | nil => intro S k s _; rfl
  | cons x l ih =>
    intro S k s h
    simp only [foldS, h 0 (by simp), Nat.add_zero]
    have h0 := h 0 (by simp)
    simp only [Nat.add_zero] at h0
    rw [if_pos h0, ih S (k + 1) _ fun i hi => by have := h (i + 1) (by simp; omega); rwa [show k + 1 + i = k + (i + 1) by omega]]
    rfl
theorem eputO_other {e : Env} {d : Option Nat} {v : V} {t : Nat} (h : d ≠ some t) : eputO e d v t = e t := by
  cases d with
  | none => rfl
  | some d => simp only [eputO, eput]; rw [if_neg]; intro h'; exact h (by rw [h'])
theorem foldS_env {t : Nat} {S S' : Nat → Bool} : ∀ (tr : Tr) (k : Nat) (s s' : EO), (∀ (i : Nat) x, tr[i]? = some x → S (k + i) ≠ S' (k + i) → x.1.dst ≠ some t) → s.1 t = s'.1 t →
    (foldS S k tr s).1 t = (foldS S' k tr s').1 t := by
  intro tr
  induction tr with
  | nil => intro k s s' _ h; exact h
  | cons x l ih =>
    intro k s s' h hs
    simp only [foldS]
    refine ih (k + 1) _ _ (fun i y hi hne => h (i + 1) y (by simpa using hi) (by rwa [show k + (i + 1) = k + 1 + i by omega])) ?_
    have h0 := h 0 x rfl
    simp only [Nat.add_zero] at h0
    have hap : (ap x s).1 t = (ap x s').1 t := by
      simp only [ap]
      cases x.1.dst with
      | none => exact hs
      | some d => simp only [eputO, eput]; split; rfl; exact hs
    by_cases h1 : S k = true <;> by_cases h2 : S' k = true
    · simp only [h1, h2, if_true]; exact hap
    · have := h0 (by simp [h1, h2])
      simp only [h1, h2, if_true, Bool.false_eq_true, if_false, ap, eputO_other this]; exact hs
    · have := h0 (by simp [h1, h2])
      simp only [h1, h2, if_true, Bool.false_eq_true, if_false, ap, eputO_other this]; exact hs
    · simp only [h1, h2, Bool.false_eq_true, if_false]; exact hs
theorem hputs_in {z : Nat} : ∀ (u : List (Nat × AObj)) (o o' : Hp), (z ∈ ids u ∨ o z = o' z) → hputs o u z = hputs o' u z := by
  intro u
  induction u with
  | nil => intro o o' h; simp only [hputs]; exact h.resolve_left (by simp [ids])
  | cons x r ih =>
    intro o o' h
    obtain ⟨i, a⟩ := x
    simp only [hputs]
    refine ih _ _ ?_
    by_cases hz : z = i
    · exact .inr (by simp [hput, hz])
    · rcases h with h | h
      · simp only [ids, List.map_cons, List.mem_cons] at h
        exact .inl (h.resolve_left hz)
      · exact .inr (by simp [hput, hz, h])
theorem foldS_hp {z : Nat} {S S' : Nat → Bool} : ∀ (tr : Tr) (k : Nat) (s s' : EO), (∀ (i : Nat) x, tr[i]? = some x → S (k + i) ≠ S' (k + i) → z ∉ ids x.2.ups) → s.2 z = s'.2 z →
    (foldS S k tr s).2 z = (foldS S' k tr s').2 z := by
  intro tr
  induction tr with
  | nil => intro k s s' _ h; exact h
  | cons x l ih =>
    intro k s s' h hs
    simp only [foldS]
    refine ih (k + 1) _ _ (fun i y hi hne => h (i + 1) y (by simpa using hi) (by rwa [show k + (i + 1) = k + 1 + i by omega])) ?_
    have h0 := h 0 x rfl
    simp only [Nat.add_zero] at h0
    by_cases h1 : S k = true <;> by_cases h2 : S' k = true
    · simp only [h1, h2, if_true]; exact hputs_in _ _ _ (.inr hs)
    · have := h0 (by simp [h1, h2])
      simp only [h1, h2, if_true, Bool.false_eq_true, if_false, ap, hputs_other this]; exact hs
    · have := h0 (by simp [h1, h2])
      simp only [h1, h2, if_true, Bool.false_eq_true, if_false, ap, hputs_other this]; exact hs
    · simp only [h1, h2, Bool.false_eq_true, if_false]; exact hs
theorem foldS_none : ∀ (tr : Tr) (k : Nat) (s : EO), foldS (fun _ => false) k tr s = s := by
  intro tr
  induction tr with
  | nil => intro k s; rfl
  | cons x l ih => intro k s; simp only [foldS, Bool.false_eq_true, if_false]; exact ih _ _
/-- The last that wrote. -/
theorem foldS_env_last {t : Nat} {S : Nat → Bool} : ∀ (tr : Tr) (k : Nat) (s : EO) (j : Nat) x, tr[j]? = some x → S (k + j) = true → x.1.dst = some t →
    (∀ (i : Nat) y, tr[i]? = some y → j < i → S (k + i) = true → y.1.dst ≠ some t) → (foldS S k tr s).1 t = x.2.val := by
  intro tr
  induction tr with
  | nil => intro k s j x hj; simp at hj
  | cons a l ih =>
    intro k s j x hj hS hd h
    simp only [foldS]
    cases j with
    | zero =>
      simp at hj; subst hj
      simp only [Nat.add_zero] at hS
      rw [if_pos hS]
      have := foldS_env (t := t) (S := S) (S' := fun _ => false) l (k + 1) (ap a s) (ap a s) (fun i y hi hne => by
        have hSi : S (k + 1 + i) = true := by simpa using hne
        exact h (i + 1) y (by simpa using hi) (by omega) (by rwa [show k + (i + 1) = k + 1 + i by omega])) rfl
      rw [this, foldS_none]
      simp [ap, hd, eputO, eput]
    | succ j =>
      refine ih (k + 1) _ j x (by simpa using hj) (by rwa [show k + 1 + j = k + (j + 1) by omega]) hd fun i y hi hlt hSi => ?_
      exact h (i + 1) y (by simpa using hi) (by omega) (by rwa [show k + (i + 1) = k + 1 + i by omega])
theorem foldS_hp_last {z : Nat} {S : Nat → Bool} {o0 : Hp} : ∀ (tr : Tr) (k : Nat) (s : EO) (j : Nat) x, tr[j]? = some x → S (k + j) = true → z ∈ ids x.2.ups →
    (∀ (i : Nat) y, tr[i]? = some y → j < i → S (k + i) = true → z ∉ ids y.2.ups) → (foldS S k tr s).2 z = hputs o0 x.2.ups z := by
  intro tr
  induction tr with
  | nil => intro k s j x hj; simp at hj
  | cons a l ih =>
    intro k s j x hj hS hd h
    simp only [foldS]
    cases j with
    | zero =>
      simp at hj; subst hj
      simp only [Nat.add_zero] at hS
      rw [if_pos hS]
      have := foldS_hp (z := z) (S := S) (S' := fun _ => false) l (k + 1) (ap a s) (ap a s) (fun i y hi hne => by
        have hSi : S (k + 1 + i) = true := by simpa using hne
        exact h (i + 1) y (by simpa using hi) (by omega) (by rwa [show k + (i + 1) = k + 1 + i by omega])) rfl
      rw [this, foldS_none]
      exact hputs_in _ _ _ (.inl hd)
    | succ j =>
      refine ih (k + 1) _ j x (by simpa using hj) (by rwa [show k + 1 + j = k + (j + 1) by omega]) hd fun i y hi hlt hSi => ?_
      exact h (i + 1) y (by simpa using hi) (by omega) (by rwa [show k + (i + 1) = k + 1 + i by omega])
structure Ap (x y : Op' × Rec) : Prop where
  d1 : ∀ t, x.1.dst = some t → t ∉ looksT y.1
  d2 : ∀ t, y.1.dst = some t → t ∉ looksT x.1
  d3 : ∀ t, x.1.dst = some t → y.1.dst ≠ some t
  m1 : ∀ z ∈ ids x.2.ups, z ∉ y.2.rd ∧ z ∉ ids y.2.ups
  m2 : ∀ z ∈ ids y.2.ups, z ∉ x.2.rd
theorem Ap.symm {x y : Op' × Rec} (h : Ap x y) : Ap y x :=
  ⟨h.d2, h.d1, fun t h1 h2 => h.d3 t h2 h1, fun z hz => ⟨h.m2 z hz, fun hx => (h.m1 z hx).2 hz⟩, fun z hz => (h.m1 z hz).1⟩
/-- What one operation does is the same in every order. -/
theorem rec_any {tr : Tr} {s : EO} {S : Nat → Bool} {j : Nat} {x : Op' × Rec} (hj : tr[j]? = some x) (hr : recOf G cf base cx (runTr (tr.take j) s) x.1 = some x.2)
    (hap : ∀ (i : Nat) y, tr[i]? = some y → S i ≠ decide (i < j) → Ap x y) : recOf G cf base cx (foldS S 0 tr s) x.1 = some x.2 := by
  have h0 := foldS_lt j tr 0 s
  rw [Nat.sub_zero] at h0
  rw [← h0] at hr
  refine recOf_loc hr ?_ ?_ ?_
  · intro t ht
    refine foldS_env tr 0 s s (fun i y hi hne hd => ?_) rfl
    rw [Nat.zero_add] at hne
    exact (hap i y hi hne).d2 t hd ht
  · intro z hz
    refine foldS_hp tr 0 s s (fun i y hi hne hu => ?_) rfl
    rw [Nat.zero_add] at hne
    exact (hap i y hi hne).m2 z hu hz
  · intro z hz
    refine foldS_hp tr 0 s s (fun i y hi hne hu => ?_) rfl
    rw [Nat.zero_add] at hne
    exact ((hap i y hi hne).m1 z hz).2 hu
theorem ap_any {tr : Tr} {s : EO} {S S' : Nat → Bool} {j : Nat} {x : Op' × Rec} (hj : tr[j]? = some x) (hS : ∀ i, S' i = (S i || decide (i = j))) (hSj : S j = false)
    (hap : ∀ (i : Nat) y, tr[i]? = some y → j < i → S i = true → Ap x y) : ap x (foldS S 0 tr s) = foldS S' 0 tr s := by
  have hdiff : ∀ i, S i ≠ S' i → i = j := by
    intro i hi
    rw [hS] at hi
    by_cases h : i = j
    · exact h
    · simp [h] at hi
  have hSj' : S' j = true := by rw [hS]; simp
  have hlt : ∀ i, j < i → S' i = true → S i = true := by
    intro i hi h
    rw [hS] at h
    have : i ≠ j := by omega
    simpa [this] using h
  apply Prod.ext
  · funext t
    by_cases hd : x.1.dst = some t
    · rw [foldS_env_last tr 0 s j x hj (by rw [Nat.zero_add]; exact hSj') hd fun i y hi hji hSi => ?_]
      · simp [ap, hd, eputO, eput]
      · rw [Nat.zero_add] at hSi
        exact (hap i y hi hji (hlt i hji hSi)).d3 t hd
    · simp only [ap, eputO_other hd]
      refine foldS_env tr 0 s s (fun i y hi hne => ?_) rfl
      rw [Nat.zero_add] at hne
      have := hdiff i hne
      subst this
      rw [hj] at hi; cases hi
      exact hd
  · funext z
    by_cases hz : z ∈ ids x.2.ups
    · rw [foldS_hp_last (o0 := (foldS S 0 tr s).2) tr 0 s j x hj (by rw [Nat.zero_add]; exact hSj') hz fun i y hi hji hSi => ?_]
      · rfl
      · rw [Nat.zero_add] at hSi
        exact ((hap i y hi hji (hlt i hji hSi)).m1 z hz).2
    · simp only [ap, hputs_other hz]
      refine foldS_hp tr 0 s s (fun i y hi hne => ?_) rfl
      rw [Nat.zero_add] at hne
      have := hdiff i hne
      subst this
      rw [hj] at hi; cases hi
      exact hz
end
end Go.Proofs.Ytoccgkgdhobmfaa.Am
set_option linter.unusedVariables false
set_option linter.unusedSimpArgs false
namespace Go.Proofs.Ytoccgkgdhobmfaa.Am
open Go
def directs (ops : List Oper) : List (List Nat) := ops.map fun o => (o.after.toList.filter (Region.binds .any)).map (·.on)
def maskOf (ms : List Nat) (d : List Nat) : Nat := d.foldl (fun m e => m ||| (1 <<< e) ||| ms.getD e 0) 0
def masks (ds : List (List Nat)) : List Nat := ds.foldl (fun acc d => acc ++ [maskOf acc d]) []
def masksOK (ms : List Nat) : Nat → List (List Nat) → Bool
  | _, [] => true
  | j, d :: ds => d.all (fun e => decide (e < j)) && (ms.getD j 0 == maskOf ms d) && masksOK ms (j + 1) ds
def apartT (x y : Op') : Bool :=
  (match x.dst with | some d => !(looksT y).contains d && y.dst != some d | none => true) && (match y.dst with | some d => !(looksT x).contains d | none => true)
def pairOK (draw : List (Nat × Nat)) (i j : Nat) (x y : Op') : Bool :=
  apartT x y && (memfree x.i || memfree y.i || (rdonly x.i && rdonly y.i) || draw.contains (i, j))
/-- An operation that may panic: nothing is free to come behind it, and nothing that touches memory before it. -/
def panOK (draw : List (Nat × Nat)) (ms : List Nat) (n : Nat) (p : Nat) : Bool :=
  ((List.range n).all fun j => decide (j ≤ p) || (ms.getD j 0).testBit p) && draw.all fun x => x.2 != p
def rowOK (draw : List (Nat × Nat)) (ms : List Nat) (i : Nat) (x : Op') : Nat → List Op' → Bool
  | _, [] => true
  | j, y :: r => ((ms.getD j 0).testBit i || pairOK draw i j x y) && rowOK draw ms i x (j + 1) r
def pairsOK (draw : List (Nat × Nat)) (ms : List Nat) : Nat → List Op' → Bool
  | _, [] => true
  | i, x :: r => rowOK draw ms i x (i + 1) r && pairsOK draw ms (i + 1) r
def chkGuard (ops : List Oper) (g : Option (Nat × Bool)) (h : Option (Nat × Bool)) : Bool :=
  match g, h with
  | none, none => true
  | some (j, b), some (t, c) => b == c && ((ops[j]?).bind (·.dst)) == some t
  | _, _ => false
def chkQ (P : Program) (nt : Nat) (ops : List Oper) (p : Oper) (q : Op') : Bool :=
  (p.dst == q.dst) && (match q.dst with | some d => decide (d < nt) | none => true) && chkOp P p q.i && chkGuard ops p.guard q.guard
def chkQs (P : Program) (nt : Nat) (ops : List Oper) : List Oper → List Op' → Bool
  | [], [] => true
  | p :: ps, q :: qs => chkQ P nt ops p q && chkQs P nt ops ps qs
  | _, _ => false
def allocsOK (n : Nat) : List Nat → Bool
  | [] => true
  | k :: r => decide (k < n) && !r.contains k && allocsOK n r
def chkRegion (P : Program) (nt : Nat) (ops : List Oper) (draws : Bool) (draw : Option (List (Nat × Nat) × List Nat)) (nalloc : Nat) (qs : List Op') : Bool :=
  chkQs P nt ops ops qs && allocsOK nalloc (qs.flatMap fun q => allocK q.i) &&
  (match draws, draw with
   | false, none => true
   | true, some l => masksOK (masks (directs ops)) 0 (directs ops) && pairsOK l.1 (masks (directs ops)) 0 qs && l.2.all (panOK l.1 (masks (directs ops)) qs.length)
   | _, _ => false)
theorem maskOf_bit {ms : List Nat} {i : Nat} : ∀ {d : List Nat} {m : Nat}, (d.foldl (fun m e => m ||| (1 <<< e) ||| ms.getD e 0) m).testBit i = true → m.testBit i = true ∨ ∃ e ∈ d, e = i ∨ (ms.getD e 0).testBit i = true := by
  intro d
  induction d with
  | nil => intro m h; exact .inl h
  | cons e d ih =>
    intro m h
    simp only [List.foldl_cons] at h
    rcases ih h with h | ⟨e', h1, h2⟩
    · rw [Nat.testBit_or, Nat.testBit_or, Bool.or_eq_true, Bool.or_eq_true] at h
      rcases h with (h | h) | h
      · exact .inl h
      · refine .inr ⟨e, by simp, .inl ?_⟩
        rw [Nat.shiftLeft_eq, Nat.one_mul, Nat.testBit_two_pow] at h
        simpa using h
      · exact .inr ⟨e, by simp, .inr h⟩
    · exact .inr ⟨e', by simp [h1], h2⟩
theorem masksOK_spec {ms : List Nat} : ∀ {ds : List (List Nat)} {k : Nat}, masksOK ms k ds = true → ∀ (j : Nat) d, ds[j]? = some d → (∀ e ∈ d, e < k + j) ∧ ms.getD (k + j) 0 = maskOf ms d := by
  intro ds
  induction ds with
  | nil => intro k _ j d hj; simp at hj
  | cons a ds ih =>
    intro k h j d hj
    simp only [masksOK, Bool.and_eq_true, beq_iff_eq] at h
    obtain ⟨⟨h1, h2⟩, h3⟩ := h
    cases j with
    | zero => simp at hj; subst hj; rw [List.all_eq_true] at h1; exact ⟨fun e he => by simpa using h1 e he, h2⟩
    | succ j =>
      have := ih h3 j d (by simpa using hj)
      rw [show k + (j + 1) = k + 1 + j by omega]; exact this
/-- What stands before, in a set that is closed. -/
theorem mask_closed {ms : List Nat} {ds : List (List Nat)} (h : masksOK ms 0 ds = true) {S : Nat → Bool} (hS : ∀ j d, ds[j]? = some d → S j = true → ∀ e ∈ d, S e = true) :
    ∀ (j : Nat) d, ds[j]? = some d → (∀ e ∈ d, S e = true) → ∀ i, (ms.getD j 0).testBit i = true → S i = true := by
  intro j
  induction j using Nat.strongRecOn with
  | _ j ih =>
    intro d hd hdS i hi
    obtain ⟨h1, h2⟩ := masksOK_spec h j d hd
    rw [Nat.zero_add] at h1 h2
    rw [h2] at hi
    rcases maskOf_bit hi with h3 | ⟨e, he, h3⟩
    · simp at h3
    · rcases h3 with rfl | h3
      · exact hdS _ he
      · have hlt := h1 e he
        have hjl : j < ds.length := (List.getElem?_eq_some_iff.1 hd).1
        have hde : ds[e]? = some ds[e] := List.getElem?_eq_getElem (by omega)
        exact ih e hlt _ hde (fun e' he' => hS e _ hde (hdS e he) e' he') i h3
theorem rowOK_spec {draw : List (Nat × Nat)} {ms : List Nat} {i : Nat} {x : Op'} : ∀ {qs : List Op'} {k : Nat}, rowOK draw ms i x k qs = true → ∀ (j : Nat) y, qs[j]? = some y → (ms.getD (k + j) 0).testBit i = true ∨ pairOK draw i (k + j) x y = true := by
  intro qs
  induction qs with
  | nil => intro k _ j y hj; simp at hj
  | cons a qs ih =>
    intro k h j y hj
    simp only [rowOK, Bool.and_eq_true, Bool.or_eq_true] at h
    cases j with
    | zero => simp at hj; subst hj; exact h.1
    | succ j => rw [show k + (j + 1) = k + 1 + j by omega]; exact ih h.2 j y (by simpa using hj)
theorem pairsOK_spec {draw : List (Nat × Nat)} {ms : List Nat} : ∀ {qs : List Op'} {k : Nat}, pairsOK draw ms k qs = true → ∀ (i j : Nat) x y, qs[i]? = some x → qs[j]? = some y → i < j →
    (ms.getD (k + j) 0).testBit (k + i) = true ∨ pairOK draw (k + i) (k + j) x y = true := by
  intro qs
  induction qs with
  | nil => intro k _ i j x y hi; simp at hi
  | cons a qs ih =>
    intro k h i j x y hi hj hlt
    simp only [pairsOK, Bool.and_eq_true] at h
    cases j with
    | zero => omega
    | succ j =>
      cases i with
      | zero =>
        simp at hi; subst hi
        have := rowOK_spec h.1 j y (by simpa using hj)
        rw [show k + (j + 1) = k + 1 + j by omega]; exact this
      | succ i =>
        have := ih h.2 i j x y (by simpa using hi) (by simpa using hj) (by omega)
        rw [show k + (j + 1) = k + 1 + j by omega, show k + (i + 1) = k + 1 + i by omega]; exact this
theorem apartT_spec {x y : Op'} (h : apartT x y = true) : (∀ t, x.dst = some t → t ∉ looksT y) ∧ (∀ t, y.dst = some t → t ∉ looksT x) ∧ ∀ t, x.dst = some t → y.dst ≠ some t := by
  simp only [apartT, Bool.and_eq_true] at h
  refine ⟨fun t ht => ?_, fun t ht => ?_, fun t ht => ?_⟩
  · have := h.1; rw [ht] at this; simp only [Bool.and_eq_true, Bool.not_eq_true'] at this
    intro hm; have := this.1; rw [List.contains_iff_mem.2 hm] at this; cases this
  · have := h.2; rw [ht] at this; simp only [Bool.not_eq_true'] at this
    intro hm; rw [List.contains_iff_mem.2 hm] at this; cases this
  · have := h.1; rw [ht] at this; simp only [Bool.and_eq_true] at this
    simpa using this.2
theorem chkQs_spec {P : Program} {nt : Nat} {ops : List Oper} : ∀ {ps : List Oper} {qs : List Op'}, chkQs P nt ops ps qs = true → ps.length = qs.length ∧ ∀ (j : Nat) p q, ps[j]? = some p → qs[j]? = some q → chkQ P nt ops p q = true := by
  intro ps
  induction ps with
  | nil => intro qs h; cases qs with | nil => exact ⟨rfl, by simp⟩ | cons _ _ => cases h
  | cons p ps ih =>
    intro qs h
    cases qs with
    | nil => cases h
    | cons q qs =>
      simp only [chkQs, Bool.and_eq_true] at h
      obtain ⟨h1, h2⟩ := ih h.2
      refine ⟨by simp [h1], fun j u v hj hv => ?_⟩
      cases j with
      | zero => simp at hj hv; subst hj; subst hv; exact h.1
      | succ j => exact h2 j u v (by simpa using hj) (by simpa using hv)
theorem allocsOK_spec {n : Nat} : ∀ {l : List Nat}, allocsOK n l = true → (∀ k ∈ l, k < n) ∧ l.Nodup := by
  intro l
  induction l with
  | nil => intro _; simp
  | cons k r ih =>
    intro h
    simp only [allocsOK, Bool.and_eq_true, decide_eq_true_eq, Bool.not_eq_true'] at h
    obtain ⟨h1, h2⟩ := ih h.2
    refine ⟨by intro x hx; rcases List.mem_cons.1 hx with rfl | hx; exact h.1.1; exact h1 x hx, List.nodup_cons.2 ⟨fun hm => ?_, h2⟩⟩
    have := h.1.2; rw [List.contains_iff_mem.2 hm] at this; cases this
theorem allocs_apart : ∀ {qs : List Op'}, (qs.flatMap fun q => allocK q.i).Nodup → ∀ (i j : Nat) x y, qs[i]? = some x → qs[j]? = some y → i ≠ j → ∀ k ∈ allocK x.i, k ∉ allocK y.i := by
  intro qs
  induction qs with
  | nil => intro _ i j x y hi; simp at hi
  | cons a qs ih =>
    intro h i j x y hi hj hne k hk hk'
    simp only [List.flatMap_cons] at h
    obtain ⟨h1, h2, h3⟩ := List.nodup_append.1 h
    cases i with
    | zero =>
      cases j with
      | zero => exact hne rfl
      | succ j =>
        simp at hi hj; subst hi
        exact h3 k hk k (List.mem_flatMap.2 ⟨y, List.mem_of_getElem? hj, hk'⟩) rfl
    | succ i =>
      cases j with
      | zero =>
        simp at hi hj; subst hj
        exact h3 k hk' k (List.mem_flatMap.2 ⟨x, List.mem_of_getElem? hi, hk⟩) rfl
      | succ j => exact ih h2 i j x y (by simpa using hi) (by simpa using hj) (by omega) k hk hk'
theorem checkPairs_spec {fps : List Fp} : ∀ {l : List (Nat × Nat)}, checkPairs fps l = true → ∀ i j, (i, j) ∈ l → fpsApart (fps.getD i ⟨[], []⟩) (fps.getD j ⟨[], []⟩) = true := by
  intro l
  induction l with
  | nil => intro _ i j h; cases h
  | cons x l ih =>
    intro h i j hm
    obtain ⟨a, b⟩ := x
    simp only [checkPairs, Bool.and_eq_true] at h
    rcases List.mem_cons.1 hm with h' | h'
    · cases h'; exact h.1
    · exact ih h.2 i j h'
theorem apart_spec {a b : List Nat} (h : apart a b = true) : ∀ z ∈ a, z ∉ b := by
  intro z hz hb
  unfold apart at h
  rw [List.all_eq_true] at h
  have := h z hz
  rw [List.contains_iff_mem.2 hb] at this
  cases this
end Go.Proofs.Ytoccgkgdhobmfaa.Am
set_option linter.unusedVariables false
set_option linter.unusedSimpArgs false
namespace Go.Proofs.Ytoccgkgdhobmfaa.Am
open Go
/-- What a run may do to memory and names. -/
structure Grow (M0 : Mem) (β0 : Names) (N0 : Nat) (Lb : Nat → Prop) (w0 : World) (M : Mem) (β : Names) : Prop where
  mem : ∀ b y, M0 b = some y → M b = some y
  old : ∀ b, b < w0.heap.size → ¬ Lb b → M b = M0 b
  nam : ∀ i k, β0 i = some k → β i = some k
  new : ∀ i k, β i = some k → β0 i = some k ∨ N0 ≤ i
theorem Grow.refl (M0 : Mem) (β0 : Names) (N0 : Nat) (Lb : Nat → Prop) (w0 : World) : Grow M0 β0 N0 Lb w0 M0 β0 := ⟨fun _ _ h => h, fun _ _ _ => rfl, fun _ _ h => h, fun _ _ h => .inl h⟩
theorem Grow.ext {M0 : Mem} {β0 : Names} {N0 : Nat} {Lb : Nat → Prop} {w0 : World} {M M' : Mem} {β β' : Names} {ks : List Nat} (h : Grow M0 β0 N0 Lb w0 M β) (k : Ext M β Lb w0 ks M' β') (hk : ∀ i ∈ ks, N0 ≤ i) :
    Grow M0 β0 N0 Lb w0 M' β' where
  mem b y hb := k.mem b y (h.mem b y hb)
  old b hb hn := (k.old b hb hn).trans (h.old b hb hn)
  nam i x hi := k.nam i x (h.nam i x hi)
  new i x hi := (k.new i x hi).elim (h.new i x) fun hm => .inr (hk i hm)
theorem GOK.mono {M M' : Mem} {G : Nat → Option (List V)} (h : GOK M G) (hm : ∀ b y, M b = some y → M' b = some y) : GOK M' G := fun g cs hg => (h g cs hg).mono hm
theorem EnvR.put {M : Mem} {β : Names} {e : Env} {a : Go.Act} {v : V} {x : Value} {d : Option Nat} (h : EnvR M β e a) (hv : Rel M β v x) (hd : ∀ t, d = some t → t < a.tmps.size) : EnvR M β (eputO e d v) (a.put d x) := by
  cases d with
  | none => exact h
  | some d =>
    intro s
    have hlt := hd d rfl
    simp only [eputO, eput, Act.put]
    by_cases e' : s = d
    · subst e'; simp only [if_true]; rw [Array.getD_eq_getD_getElem?]; simpa [hlt] using hv
    · rw [if_neg e', Array.getD_eq_getD_getElem?, Array.getElem?_setIfInBounds_ne (Ne.symm e')]
      have := h s; rwa [Array.getD_eq_getD_getElem?] at this
theorem EnvR.mono {M M' : Mem} {β β' : Names} {e : Env} {a : Go.Act} (h : EnvR M β e a) (hm : ∀ b y, M b = some y → M' b = some y) (hn : ∀ i k, β i = some k → β' i = some k) : EnvR M' β' e a :=
  fun s => (h s).mono hm hn
theorem put_size (a : Go.Act) (d : Option Nat) (x : Value) : (a.put d x).tmps.size = a.tmps.size := by cases d <;> simp [Act.put]
theorem put_defers (a : Go.Act) (d : Option Nat) (x : Value) : (a.put d x).defers = a.defers := by cases d <;> rfl
theorem wanted_sound {M : Mem} {β : Names} {e : Env} {a : Go.Act} {ops : Array Oper} {p : Oper} {g : Option (Nat × Bool)} {b : Bool} (hc : chkGuard ops.toList p.guard g = true) (he : EnvR M β e a) (hw : wantedV e g = some b) :
    Region.wanted p (yielded ops a.tmps) = b := by
  unfold chkGuard at hc
  cases hpg : p.guard with
  | none =>
    rw [hpg] at hc
    cases g with
    | none => cases hw; simp [Region.wanted, hpg]
    | some x => cases hc
  | some x =>
    obtain ⟨j, b1⟩ := x
    rw [hpg] at hc
    cases g with
    | none => cases hc
    | some y =>
      obtain ⟨t, c⟩ := y
      simp only [Bool.and_eq_true, beq_iff_eq, Array.getElem?_toList] at hc
      obtain ⟨rfl, hd⟩ := hc
      simp only [wantedV] at hw
      split at hw
      · rename_i d hd'
        cases hw
        have hr := he t
        rw [hd'] at hr
        have := hr.bool_inv
        rw [Array.getD_eq_getD_getElem?] at this
        have hsome : a.tmps[t]? = some (.bool d) := by
          cases hx : a.tmps[t]? with
          | none => rw [hx] at this; simp [undef] at this
          | some y => rw [hx] at this; simpa using this
        simp only [Region.wanted, hpg, yielded, hd, Option.bind_some, hsome]
        cases d <;> cases b1 <;> rfl
      · rename_i vs hd'
        cases hw
        have hr := he t
        rw [hd'] at hr
        obtain ⟨xs, hx⟩ : ∃ xs, a.tmps.getD t undef = .tuple xs := by
          revert hr
          generalize a.tmps.getD t undef = y
          intro hr
          cases hr
          case pure h => cases h; exact ⟨_, rfl⟩
          all_goals exact ⟨_, rfl⟩
        have hny : ∀ c, a.tmps[t]? ≠ some (.bool c) := by
          intro c hc'
          rw [Array.getD_eq_getD_getElem?, hc'] at hx
          cases hx
        simp only [Region.wanted, hpg, yielded, hd, Option.bind_some]
        cases hq : a.tmps[t]? with
        | none => rfl
        | some y =>
          cases y
          case bool c => exact absurd hq (hny c)
          all_goals rfl
      · cases hw
section
variable {P : Program} {G : Nat → Option (List V)} {cf : CallFn} {M0 : Mem} {β0 : Names} {N0 : Nat} {Lb : Nat → Prop} {w0 : World} {nt base cx : Nat} {ops : Array Oper} {qs : List Op'} {tr : Tr} {s0 : EO}
def Inv (M0 : Mem) (β0 : Names) (N0 : Nat) (Lb : Nat → Prop) (w0 : World) (nt base cx : Nat) (qs : List Op') (tr : Tr) (s0 : EO) (S : Nat → Bool) (a : Go.Act) (w : World) : Prop :=
  ∃ M β, Grow M0 β0 N0 Lb w0 M β ∧ Ok M β cx Lb w0 (foldS S 0 tr s0).2 w ∧ EnvR M β (foldS S 0 tr s0).1 a ∧ a.tmps.size = nt ∧ a.defers = [] ∧
    ∀ (j : Nat) q, qs[j]? = some q → S j = false → ∀ k ∈ allocK q.i, β (base + k) = none
theorem chkQ_spec {p : Oper} {q : Op'} (h : chkQ P nt ops.toList p q = true) : p.dst = q.dst ∧ (∀ t, q.dst = some t → t < nt) ∧ chkOp P p q.i = true ∧ chkGuard ops.toList p.guard q.guard = true := by
  simp only [chkQ, Bool.and_eq_true, beq_iff_eq] at h
  refine ⟨h.1.1.1, fun t ht => ?_, h.1.2, h.2⟩
  have := h.1.1.2
  rw [ht] at this
  simpa using this
theorem op_step (hcf : CallOk P G cf) (hg : GOK M0 G) (hN : N0 ≤ base) (halloc : ∀ k ∈ qs.flatMap (fun q => allocK q.i), base + k < cx) (hnd : (qs.flatMap fun q => allocK q.i).Nodup)
    {j : Nat} {p : Oper} {q : Op'} {r : Rec} (hp : ops[j]? = some p) (hq : qs[j]? = some q) (hchk : chkQ P nt ops.toList p q = true) {S S' : Nat → Bool} {a : Go.Act} {w : World} (hS : S j = false)
    (hinv : Inv M0 β0 N0 Lb w0 nt base cx qs tr s0 S a w) (hrec : recOf G cf base cx (foldS S 0 tr s0) q = some r) (hap : ap (q, r) (foldS S 0 tr s0) = foldS S' 0 tr s0) (hS' : ∀ i, S' i = (S i || decide (i = j)))
    {K : Go.Act → World → Prop} {Q : Exit → Go.Act → World → Prop} (hK : ∀ a w, Inv M0 β0 N0 Lb w0 nt base cx qs tr s0 S' a w → K a w) : wpOp P ops Q j K a w := by
  obtain ⟨M, β, hgrow, hk, he, hsz, hdef, hfr⟩ := hinv
  obtain ⟨c1, c2, c3, c4⟩ := chkQ_spec hchk
  unfold wpOp
  rw [hp]
  simp only
  unfold recOf at hrec
  have hfr' : ∀ (k' : Nat) q', qs[k']? = some q' → S' k' = false → S k' = false ∧ k' ≠ j := by
    intro k' q' _ h
    rw [hS'] at h
    simpa using h
  split at hrec
  · rename_i hw
    split at hrec
    · rename_i v u fp hd
      cases hrec
      have hwant := wanted_sound c4 he hw
      rw [if_pos hwant]
      refine .inl (doOp_sound (ks := (allocK q.i).map (base + ·)) hcf hd c3 hk he (hg.mono hgrow.mem) ?_ ?_ ?_)
      · intro k hk'
        exact ⟨hfr j q hq hS k hk', halloc k (List.mem_flatMap.2 ⟨q, List.mem_of_getElem? hq, hk'⟩), List.mem_map.2 ⟨k, hk', rfl⟩⟩
      · intro v' u' fp' M' β' w' x hdid hext hok hrel
        cases hdid
        refine hK _ _ ⟨M', β', hgrow.ext hext ?_, ?_, ?_, by rw [put_size]; exact hsz, by rw [put_defers]; exact hdef, ?_⟩
        · intro i hi
          obtain ⟨k, _, rfl⟩ := List.mem_map.1 hi
          omega
        · rw [← hap]; exact hok
        · rw [← hap, c1]
          exact (he.mono hext.mem hext.nam).put hrel fun t ht => by rw [hsz]; exact c2 t ht
        · intro k' q' hq' hSk kk hkk
          obtain ⟨h1, h2⟩ := hfr' k' q' hq' hSk
          have h3 := hfr k' q' hq' h1 kk hkk
          cases hb : β' (base + kk) with
          | none => rfl
          | some y =>
            rcases hext.new _ _ hb with h | h
            · rw [h3] at h; cases h
            · obtain ⟨k2, hk2, he2⟩ := List.mem_map.1 h
              have : k2 = kk := by omega
              subst this
              exact absurd hk2 (allocs_apart hnd k' j q' q hq' hq h2 k2 hkk)
      · intro v' x w' hdid; cases hdid
    · cases hrec
  · rename_i hw
    cases hrec
    have hwant := wanted_sound c4 he hw
    rw [if_neg (by rw [hwant]; simp)]
    refine hK _ _ ⟨M, β, hgrow, ?_, ?_, by rw [put_size]; exact hsz, by rw [put_defers]; exact hdef, fun k' q' hq' hSk => hfr k' q' hq' (hfr' k' q' hq' hSk).1⟩
    · rw [← hap]; exact hk
    · rw [← hap, c1]
      exact he.put (.pure (PRel.tup [] #[] rfl (fun j v hj => by simp at hj))) fun t ht => by rw [hsz]; exact c2 t ht
  · cases hrec
theorem op_panic (hcf : CallOk P G cf) (hg : GOK M0 G) (halloc : ∀ k ∈ qs.flatMap (fun q => allocK q.i), base + k < cx)
    {j : Nat} {p : Oper} {q : Op'} {v : V} (hp : ops[j]? = some p) (hq : qs[j]? = some q) (hchk : chkQ P nt ops.toList p q = true) {S : Nat → Bool} {a : Go.Act} {w : World} (hS : S j = false)
    (hinv : Inv M0 β0 N0 Lb w0 nt base cx qs tr s0 S a w) (hw : wantedV (foldS S 0 tr s0).1 q.guard = some true) (hd : doOp G cf base cx (foldS S 0 tr s0).1 (foldS S 0 tr s0).2 q.i = some (.panic v))
    {K : Go.Act → World → Prop} {Q : Exit → Go.Act → World → Prop} (hQ : ∀ x a w', PRel (fun _ => none) v x → a.defers = [] → Kp Lb w0 w' → Q (.panic [{ v := x, recovered := false }]) a w') : wpOp P ops Q j K a w := by
  obtain ⟨M, β, hgrow, hk, he, hsz, hdef, hfr⟩ := hinv
  obtain ⟨c1, c2, c3, c4⟩ := chkQ_spec hchk
  unfold wpOp
  rw [hp]
  simp only
  have hwant := wanted_sound c4 he hw
  rw [if_pos hwant]
  refine .inl (doOp_sound (ks := (allocK q.i).map (base + ·)) hcf hd c3 hk he (hg.mono hgrow.mem) ?_ ?_ ?_)
  · intro k hk'
    exact ⟨hfr j q hq hS k hk', halloc k (List.mem_flatMap.2 ⟨q, List.mem_of_getElem? hq, hk'⟩), List.mem_map.2 ⟨k, hk', rfl⟩⟩
  · intro v' u' fp' M' β' w' x hdid; cases hdid
  · intro v' x w' hdid hp hkp
    cases hdid
    exact hQ x a w' hp hdef hkp
/-- The operations that follow one another in the order of the text. -/
theorem text_ok (hcf : CallOk P G cf) (hg : GOK M0 G) (hN : N0 ≤ base) (halloc : ∀ k ∈ qs.flatMap (fun q => allocK q.i), base + k < cx) (hnd : (qs.flatMap fun q => allocK q.i).Nodup)
    (hchk : ∀ (j : Nat) p q, ops[j]? = some p → qs[j]? = some q → chkQ P nt ops.toList p q = true) (hlen : ops.size = qs.length)
    (htr : ∀ (j : Nat) x, tr[j]? = some x → qs[j]? = some x.1 ∧ recOf G cf base cx (runTr (tr.take j) s0) x.1 = some x.2) {Q : Exit → Go.Act → World → Prop}
    (hend : (tr.length = qs.length ∧ ∀ a w, Inv M0 β0 N0 Lb w0 nt base cx qs tr s0 (fun i => decide (i < tr.length)) a w → Q .normal a w) ∨
      ∃ v q, qs[tr.length]? = some q ∧ wantedV (runTr tr s0).1 q.guard = some true ∧ doOp G cf base cx (runTr tr s0).1 (runTr tr s0).2 q.i = some (.panic v) ∧
        ∀ x a w', PRel (fun _ => none) v x → a.defers = [] → Kp Lb w0 w' → Q (.panic [{ v := x, recovered := false }]) a w') :
    ∀ (n j : Nat) (a : Go.Act) (w : World), n + j = ops.size → j ≤ tr.length → Inv M0 β0 N0 Lb w0 nt base cx qs tr s0 (fun i => decide (i < j)) a w → wpOps P ops Q (List.range' j n) a w := by
  intro n
  induction n with
  | zero =>
    intro j a w hj hjt hinv
    simp only [List.range'_zero, wpOps]
    rcases hend with ⟨h1, h2⟩ | ⟨v, q, h1, h2, h3, h4⟩
    · have : j = tr.length := by omega
      subst this
      exact h2 a w hinv
    · have := (List.getElem?_eq_some_iff.1 h1).1
      omega
  | succ n ih =>
    intro j a w hj hjt hinv
    rw [List.range'_succ, wpOps_cons]
    have hjo : j < ops.size := by omega
    have hp : ops[j]? = some ops[j] := Array.getElem?_eq_getElem hjo
    by_cases hlt : j < tr.length
    · have hx : tr[j]? = some tr[j] := List.getElem?_eq_getElem hlt
      obtain ⟨h1, h2⟩ := htr j _ hx
      have h0 := foldS_lt j tr 0 s0
      rw [Nat.sub_zero] at h0
      have hr1 : recOf G cf base cx (foldS (fun i => decide (i < j)) 0 tr s0) tr[j].1 = some tr[j].2 := by rw [h0]; exact h2
      have hap := ap_any (S := fun i => decide (i < j)) (S' := fun i => decide (i < j + 1)) (s := s0) hx (fun i => by
        by_cases h : i < j
        · simp [h]; omega
        · by_cases h' : i = j
          · simp [h']
          · simp [h, h']; omega) (by simp) (fun i y _ hji hi => by simp at hi; omega)
      refine op_step hcf hg hN halloc hnd hp h1 (hchk j _ _ hp h1) (by simp) hinv hr1 (S' := fun i => decide (i < j + 1)) hap (fun i => by
        by_cases h : i < j
        · simp [h]; omega
        · by_cases h' : i = j
          · simp [h']
          · simp [h, h']; omega) ?_
      intro a' w' hinv'
      exact ih (j + 1) a' w' (by omega) (by omega) hinv'
    · have hje : j = tr.length := by omega
      rcases hend with ⟨h1, h2⟩ | ⟨v, q, h1, h2, h3, h4⟩
      · omega
      · subst hje
        have h0 := foldS_lt tr.length tr 0 s0
        rw [Nat.sub_zero, List.take_length] at h0
        exact op_panic hcf hg halloc hp h1 (hchk _ _ _ hp h1) (by simp) hinv (by rw [h0]; exact h2) (by rw [h0]; exact h3) h4
end
end Go.Proofs.Ytoccgkgdhobmfaa.Am
set_option linter.unusedVariables false
set_option linter.unusedSimpArgs false
namespace Go.Proofs.Ytoccgkgdhobmfaa.Am
open Go
def cnt (S : Nat → Bool) : Nat → Nat
  | 0 => 0
  | n + 1 => cnt S n + (if S n then 0 else 1)
theorem cnt_zero {S : Nat → Bool} : ∀ {n : Nat}, cnt S n = 0 → ∀ i, i < n → S i = true := by
  intro n
  induction n with
  | zero => intro _ i h; omega
  | succ n ih =>
    intro h i hi
    simp only [cnt] at h
    by_cases hs : S n = true
    · by_cases e : i = n
      · rw [e]; exact hs
      · exact ih (by omega) i (by omega)
    · rw [if_neg hs] at h; omega
theorem cnt_set {S S' : Nat → Bool} {j : Nat} (h : ∀ i, S' i = (S i || decide (i = j))) (hj : S j = false) : ∀ {n : Nat}, cnt S n = cnt S' n + (if j < n then 1 else 0) := by
  intro n
  induction n with
  | zero => rfl
  | succ n ih =>
    simp only [cnt]
    rw [ih, h n]
    by_cases e : n = j
    · subst e; simp [hj]
    · have : (j < n + 1) ↔ (j < n) := by omega
      simp only [e, decide_false, Bool.or_false, this]; omega
section
variable {P : Program} {G : Nat → Option (List V)} {cf : CallFn} {M0 : Mem} {β0 : Names} {N0 : Nat} {Lb : Nat → Prop} {w0 : World} {nt base cx : Nat} {ops : Array Oper} {qs : List Op'} {tr : Tr} {s0 : EO}
def sOf (listed : Array Bool) (i : Nat) : Bool := listed.getD i false
theorem sOf_set {listed : Array Bool} {j : Nat} (hj : j < listed.size) (i : Nat) : sOf (listed.setIfInBounds j true) i = (sOf listed i || decide (i = j)) := by
  unfold sOf
  rw [Array.getD_eq_getD_getElem?, Array.getD_eq_getD_getElem?]
  by_cases h : i = j
  · subst h; simp [hj]
  · rw [Array.getElem?_setIfInBounds_ne (Ne.symm h)]; simp [h]
theorem directs_get {j : Nat} {p : Oper} (h : ops[j]? = some p) : (directs ops.toList)[j]? = some ((p.after.toList.filter (Region.binds .any)).map (·.on)) := by
  unfold directs
  rw [List.getElem?_map, Array.getElem?_toList, h]; rfl
theorem any_ok (hcf : CallOk P G cf) (hg : GOK M0 G) (hN : N0 ≤ base) (halloc : ∀ k ∈ qs.flatMap (fun q => allocK q.i), base + k < cx) (hnd : (qs.flatMap fun q => allocK q.i).Nodup)
    (hchk : ∀ (j : Nat) p q, ops[j]? = some p → qs[j]? = some q → chkQ P nt ops.toList p q = true) (hlen : ops.size = qs.length)
    (htr : ∀ (j : Nat) x, tr[j]? = some x → qs[j]? = some x.1 ∧ recOf G cf base cx (runTr (tr.take j) s0) x.1 = some x.2) {ms : List Nat} (hms : masksOK ms 0 (directs ops.toList) = true)
    (hB : ∀ (i j : Nat) x y, tr[i]? = some x → tr[j]? = some y → i < j → (ms.getD j 0).testBit i = true ∨ Ap x y) {Q : Exit → Go.Act → World → Prop}
    (hend : (tr.length = qs.length ∧ ∀ S a w, (∀ i, i < tr.length → S i = true) → Inv M0 β0 N0 Lb w0 nt base cx qs tr s0 S a w → Q .normal a w) ∨
      ∃ v q, qs[tr.length]? = some q ∧ wantedV (runTr tr s0).1 q.guard = some true ∧ doOp G cf base cx (runTr tr s0).1 (runTr tr s0).2 q.i = some (.panic v) ∧
        (∀ (i : Nat) x, tr[i]? = some x → (ms.getD tr.length 0).testBit i = false → (∀ t, x.1.dst = some t → t ∉ looksT q) ∧ (memfree q.i = true ∨ ids x.2.ups = [])) ∧
        (∀ j, tr.length < j → j < qs.length → (ms.getD j 0).testBit tr.length = true) ∧
        ∀ x a w', PRel (fun _ => none) v x → a.defers = [] → Kp Lb w0 w' → Q (.panic [{ v := x, recovered := false }]) a w') :
    ∀ (fuel : Nat) (listed : Array Bool) (a : Go.Act) (w : World), listed.size = ops.size → cnt (sOf listed) ops.size ≤ fuel →
      (∀ j d, (directs ops.toList)[j]? = some d → sOf listed j = true → ∀ e ∈ d, sOf listed e = true) → (∀ i, sOf listed i = true → i < tr.length) →
      Inv M0 β0 N0 Lb w0 nt base cx qs tr s0 (sOf listed) a w → wpAny P .any ops Q fuel listed a w := by
  -- nothing left: all is done
  have fin : ∀ (listed : Array Bool) (a : Go.Act) (w : World), listed.size = ops.size → Region.ready .any ops listed = [] → (∀ i, sOf listed i = true → i < tr.length) →
      Inv M0 β0 N0 Lb w0 nt base cx qs tr s0 (sOf listed) a w → Q .normal a w := by
    intro listed a w hsz hnil hin hinv
    have hall : ∀ i, i < ops.size → sOf listed i = true := by
      intro i
      induction i using Nat.strongRecOn with
      | _ i ih =>
        intro hi
        cases hs : sOf listed i with
        | true => rfl
        | false =>
          exfalso
          have hp : ops[i]? = some ops[i] := Array.getElem?_eq_getElem hi
          have hmem : i ∈ Region.ready .any ops listed := by
            rw [mem_ready]
            refine ⟨?_, ops[i], hp, ?_⟩
            · unfold sOf at hs
              rw [Array.getD_eq_getD_getElem?] at hs ⊢
              have : i < listed.size := by omega
              rw [Array.getElem?_eq_getElem this] at hs ⊢
              simpa using hs
            · intro e he hb
              have hd := directs_get hp
              obtain ⟨h1, _⟩ := masksOK_spec hms i _ hd
              have hm : e.on ∈ ((ops[i].after.toList.filter (Region.binds .any)).map (·.on)) := List.mem_map.2 ⟨e, List.mem_filter.2 ⟨by simpa using he, hb⟩, rfl⟩
              have hlt := h1 _ hm
              rw [Nat.zero_add] at hlt
              exact ih e.on hlt (by omega)
          rw [hnil] at hmem; cases hmem
    rcases hend with ⟨h1, h2⟩ | ⟨v, q, h1, _⟩
    · exact h2 _ a w (fun i hi => hall i (by omega)) hinv
    · have h3 := (List.getElem?_eq_some_iff.1 h1).1
      have := hin tr.length (hall _ (by omega))
      omega
  intro fuel
  induction fuel with
  | zero =>
    intro listed a w hsz hcnt hcl hin hinv
    have hall := cnt_zero (Nat.le_zero.1 hcnt)
    have hnil : Region.ready .any ops listed = [] := by
      cases hr : Region.ready .any ops listed with
      | nil => rfl
      | cons i r =>
        exfalso
        have hm : i ∈ Region.ready .any ops listed := by rw [hr]; simp
        rw [mem_ready] at hm
        obtain ⟨h1, o, h2, _⟩ := hm
        have hi := (Array.getElem?_eq_some_iff.1 h2).1
        have := hall i hi
        unfold sOf at this
        rw [Array.getD_eq_getD_getElem?] at this h1
        have hl : i < listed.size := by omega
        rw [Array.getElem?_eq_getElem hl] at this h1
        simp at this h1
        rw [this] at h1; cases h1
    exact ⟨hnil, fin listed a w hsz hnil hin hinv⟩
  | succ fuel ih =>
    intro listed a w hsz hcnt hcl hin hinv
    refine ⟨fun hnil => fin listed a w hsz hnil hin hinv, fun i hi => ?_⟩
    rw [mem_ready] at hi
    obtain ⟨h1, p, h2, h3⟩ := hi
    have hio := (Array.getElem?_eq_some_iff.1 h2).1
    have hil : i < listed.size := by omega
    have hS : sOf listed i = false := by
      unfold sOf
      rw [Array.getD_eq_getD_getElem?] at h1 ⊢
      rw [Array.getElem?_eq_getElem hil] at h1 ⊢
      simpa using h1
    have hd := directs_get h2
    have hdS : ∀ e ∈ ((p.after.toList.filter (Region.binds .any)).map (·.on)), sOf listed e = true := by
      intro e he
      obtain ⟨ed, hed, rfl⟩ := List.mem_map.1 he
      obtain ⟨g1, g2⟩ := List.mem_filter.1 hed
      exact h3 ed (by simpa using g1) g2
    have hpre := mask_closed hms hcl i _ hd hdS
    have hpost : ∀ k, sOf listed k = true → (ms.getD k 0).testBit i = true → False := by
      intro k hk hb
      have hkl := hin k hk
      have hkq : k < ops.size := by
        have hx : tr[k]? = some tr[k] := List.getElem?_eq_getElem hkl
        have := (List.getElem?_eq_some_iff.1 (htr k _ hx).1).1
        omega
      have hdk := directs_get (Array.getElem?_eq_getElem hkq)
      have := mask_closed hms hcl k _ hdk (hcl k _ hdk hk) i hb
      rw [hS] at this; cases this
    have hqi : qs[i]? = some qs[i] := List.getElem?_eq_getElem (by omega)
    by_cases hlt : i < tr.length
    · have hx : tr[i]? = some tr[i] := List.getElem?_eq_getElem hlt
      obtain ⟨g1, g2⟩ := htr i _ hx
      have hap : ∀ (k : Nat) y, tr[k]? = some y → sOf listed k ≠ decide (k < i) → Ap tr[i] y := by
        intro k y hk hne
        by_cases hki : k < i
        · have hSk : sOf listed k = false := by simpa [hki] using hne
          rcases hB k i y _ hk hx hki with h | h
          · have := hpre k h
            rw [hSk] at this; cases this
          · exact h.symm
        · have hSk : sOf listed k = true := by simpa [hki] using hne
          have hne' : i ≠ k := fun e => by rw [← e, hS] at hSk; cases hSk
          rcases hB i k _ y hx hk (by omega) with h | h
          · exact (hpost k hSk h).elim
          · exact h
      have hset := sOf_set hil
      refine op_step hcf hg hN halloc hnd h2 g1 (hchk i _ _ h2 g1) hS hinv (rec_any hx g2 hap) (S' := sOf (listed.setIfInBounds i true)) (ap_any hx hset hS fun k y hk hik hSk => hap k y hk (by
        have : ¬ k < i := by omega
        simp [this, hSk])) hset ?_
      intro a' w' hinv'
      refine ih _ a' w' (by simpa using hsz) ?_ ?_ ?_ hinv'
      · have := cnt_set hset hS (n := ops.size)
        rw [if_pos hio] at this
        omega
      · intro j d hj hSj e he
        rw [hset] at hSj ⊢
        by_cases hji : j = i
        · subst hji
          rw [hd] at hj; cases hj
          rw [hdS e he]; rfl
        · have : sOf listed j = true := by simpa [hji] using hSj
          rw [hcl j d hj this e he]; rfl
      · intro k hk
        rw [hset] at hk
        by_cases hki : k = i
        · omega
        · exact hin k (by simpa [hki] using hk)
    · rcases hend with ⟨e1, e2⟩ | ⟨v, q, e1, e2, e3, e4, e5, e6⟩
      · omega
      · have hSp : sOf listed tr.length = false := by
          cases h : sOf listed tr.length with
          | false => rfl
          | true => have := hin _ h; omega
        by_cases hip : i = tr.length
        · subst hip
          have hag : ∀ (k : Nat) x, tr[k]? = some x → sOf listed k ≠ true → (∀ t, x.1.dst = some t → t ∉ looksT q) ∧ (memfree q.i = true ∨ ids x.2.ups = []) := by
            intro k x hk hSk
            refine e4 k x hk ?_
            cases hb : (ms.getD tr.length 0).testBit k with
            | false => rfl
            | true => exact absurd (hpre k hb) hSk
          have hall := foldS_all tr (fun _ => true) 0 s0 (fun _ _ => rfl)
          have henv : ∀ t ∈ looksT q, (foldS (sOf listed) 0 tr s0).1 t = (runTr tr s0).1 t := by
            intro t ht
            rw [← hall]
            refine foldS_env tr 0 s0 s0 (fun k y hk hne hdd => ?_) rfl
            rw [Nat.zero_add] at hne
            exact (hag k y hk hne).1 t hdd ht
          refine op_panic hcf hg halloc h2 e1 (hchk _ _ _ h2 e1) hS hinv ?_ ?_ e6
          · rw [wanted_loc henv]; exact e2
          · rw [doOp_env (e' := (runTr tr s0).1) fun t ht => henv t (List.mem_append_left _ ht)]
            by_cases hmf : memfree q.i = true
            · have : doOp G cf base cx (runTr tr s0).1 (foldS (sOf listed) 0 tr s0).2 q.i = doOp G cf base cx (runTr tr s0).1 (runTr tr s0).2 q.i := by
                have hp := doOp_panics e3
                cases hqq : q.i with
                | panic x => rfl
                | call f x r o => rw [hqq] at hmf; cases hmf
                | _ => rw [hqq] at hp; cases hp
              rw [this]; exact e3
            · have : (foldS (sOf listed) 0 tr s0).2 = (runTr tr s0).2 := by
                funext z
                rw [← hall]
                refine foldS_hp tr 0 s0 s0 (fun k y hk hne => ?_) rfl
                rw [Nat.zero_add] at hne
                rw [(hag k y hk hne).2.resolve_left hmf]; simp
              rw [this]; exact e3
        · have := hpre tr.length (e5 i (by omega) (by omega))
          rw [hSp] at this; cases this
end
end Go.Proofs.Ytoccgkgdhobmfaa.Am
set_option linter.unusedVariables false
set_option linter.unusedSimpArgs false
namespace Go.Proofs.Ytoccgkgdhobmfaa.Am
open Go
def chkCode (P : Program) (nt : Nat) : Code → MC → Bool
  | .skip, .skip => true
  | .label _, .skip => true
  | .region _ ops draw, .region d k qs => chkRegion P nt ops.toList draw d k qs
  | .seq a b, .seq a' b' => chkCode P nt a a' && chkCode P nt b b'
  | .cond c a b, .cond c' a' b' => chkA c c' && (chkCode P nt a a' && chkCode P nt b b')
  | .block i a, .block j a' => i == j && chkCode P nt a a'
  | .loop a, .loop a' => chkCode P nt a a'
  | .exit i, .exit j => i == j
  | .scope a, .scope a' => chkCode P nt a a'
  | .ret, .ret => true
  | _, _ => false
section
variable {P : Program} {G : Nat → Option (List V)} {cf : CallFn} {M0 : Mem} {β0 : Names} {N0 : Nat} {Lb : Nat → Prop} {w0 : World} {nt : Nat}
def Sim (M0 : Mem) (β0 : Names) (N0 : Nat) (Lb : Nat → Prop) (w0 : World) (nt : Nat) (s : St) (a : Go.Act) (w : World) : Prop :=
  ∃ M β, Grow M0 β0 N0 Lb w0 M β ∧ Ok M β s.N Lb w0 s.o w ∧ EnvR M β s.e a ∧ a.tmps.size = nt ∧ a.defers = [] ∧ N0 ≤ s.N
def Post (M0 : Mem) (β0 : Names) (N0 : Nat) (Lb : Nat → Prop) (w0 : World) (nt : Nat) (s : St) (Q : Exit → Go.Act → World → Prop) : Ex → Prop
  | .normal => ∀ a w, Sim M0 β0 N0 Lb w0 nt s a w → Q .normal a w
  | .exit i => ∀ a w, Sim M0 β0 N0 Lb w0 nt s a w → Q (.exit i) a w
  | .ret => ∀ a w, Sim M0 β0 N0 Lb w0 nt s a w → Q .ret a w
  | .panic v => ∀ x a w, PRel (fun _ => none) v x → a.defers = [] → Kp Lb w0 w → Q (.panic [{ v := x, recovered := false }]) a w
theorem Ok.more {M : Mem} {β : Names} {N N' : Nat} {o : Hp} {w : World} (h : Ok M β N Lb w0 o w) (hn : N ≤ N') : Ok M β N' Lb w0 o w :=
  ⟨⟨h.sr.sub, fun i k hk => Nat.lt_of_lt_of_le (h.sr.bnd i k hk) hn, h.sr.live, h.sr.inj⟩, h.kp⟩
theorem sOf_empty (n i : Nat) : sOf (Array.replicate n false) i = false := by
  unfold sOf
  rw [Array.getD_eq_getD_getElem?, Array.getElem?_replicate]
  split <;> rfl
theorem fps_get {tr : Tr} {j : Nat} {x : Op' × Rec} (h : tr[j]? = some x) : (tr.map (·.2.fp)).getD j ⟨[], []⟩ = x.2.fp := by
  rw [List.getD_eq_getElem?_getD, List.getElem?_map, h]; rfl
theorem pair_ap {l : List (Nat × Nat)} {tr : Tr} {s0 : EO} {base cx : Nat} (hl : checkPairs (tr.map (·.2.fp)) l = true)
    (htr : ∀ (j : Nat) x, tr[j]? = some x → recOf G cf base cx (runTr (tr.take j) s0) x.1 = some x.2) {i j : Nat} {x y : Op' × Rec} (hx : tr[i]? = some x) (hy : tr[j]? = some y)
    (hp : pairOK l i j x.1 y.1 = true) : Ap x y := by
  simp only [pairOK, Bool.and_eq_true, Bool.or_eq_true] at hp
  obtain ⟨h1, h2⟩ := hp
  obtain ⟨a1, a2, a3⟩ := apartT_spec h1
  have ronly : ∀ (k : Nat) z, tr[k]? = some z → rdonly z.1.i = true → ids z.2.ups = [] := by
    intro k z hz hm
    have := htr k z hz
    unfold recOf at this
    split at this
    · split at this
      · rename_i v u fp hd
        obtain ⟨q, r⟩ := z
        cases this
        simp [Rec.ups, doOp_rdonly hm hd, ids]
      · cases this
    · obtain ⟨q, r⟩ := z
      cases this; rfl
    · cases this
  have free : ∀ (k : Nat) z, tr[k]? = some z → memfree z.1.i = true → ids z.2.ups = [] ∧ z.2.rd = [] := by
    intro k z hz hm
    have := htr k z hz
    unfold recOf at this
    split at this
    · split at this
      · rename_i v u fp hd
        obtain ⟨q, r⟩ := z
        cases this
        obtain ⟨e1, e2⟩ := doOp_free hm hd
        exact ⟨by simp [Rec.ups, e1, ids], by simp [Rec.rd, e2]⟩
      · cases this
    · obtain ⟨q, r⟩ := z
      cases this; exact ⟨rfl, rfl⟩
    · cases this
  rcases h2 with ((h2 | h2) | h2) | h2
  · obtain ⟨e1, e2⟩ := free i x hx h2
    exact ⟨a1, a2, a3, by rw [e1]; simp, by rw [e2]; simp⟩
  · obtain ⟨e1, e2⟩ := free j y hy h2
    exact ⟨a1, a2, a3, by rw [e1, e2]; simp, by rw [e1]; simp⟩
  · exact ⟨a1, a2, a3, by rw [ronly i x hx h2.1]; simp, by rw [ronly j y hy h2.2]; simp⟩
  · have hap := checkPairs_spec hl i j (by simpa using h2)
    rw [fps_get hx, fps_get hy] at hap
    simp only [fpsApart, Bool.and_eq_true, Rec.fp] at hap
    obtain ⟨⟨b1, b2⟩, b3⟩ := hap
    exact ⟨a1, a2, a3, fun z hz => ⟨apart_spec b2 z hz, apart_spec b1 z hz⟩, fun z hz => apart_spec b3 z hz⟩
theorem region_sound (hcf : CallOk P G cf) (hmix : P.follows .mixedOrders = true) (hg : GOK M0 G) {id : Nat} {ops : Array Oper} {draws : Bool} {d : Option (List (Nat × Nat) × List Nat)} {k : Nat} {qs : List Op'} {s s' : St} {x : Ex}
    (h : runRegion G cf d k qs s = some (x, s')) (hc : chkRegion P nt ops.toList draws d k qs = true) {a : Go.Act} {w : World} (hs : Sim M0 β0 N0 Lb w0 nt s a w) {Q : Exit → Go.Act → World → Prop}
    (hQ : Post M0 β0 N0 Lb w0 nt s' Q x) : (Code.region id ops draws).wp P Q a w := by
  obtain ⟨M, β, hgrow, hk, he, hsz, hdef, hN⟩ := hs
  simp only [chkRegion, Bool.and_eq_true] at hc
  obtain ⟨⟨hc1, hc2⟩, hc3⟩ := hc
  obtain ⟨hlen, hchk⟩ := chkQs_spec hc1
  obtain ⟨hal, hnd⟩ := allocsOK_spec hc2
  have halloc : ∀ kk ∈ qs.flatMap (fun q => allocK q.i), s.N + kk < s.N + k := fun kk hkk => by have := hal kk hkk; omega
  have hchk' : ∀ (j : Nat) p q, ops[j]? = some p → qs[j]? = some q → chkQ P nt ops.toList p q = true := fun j p q hp hq => hchk j p q (by rw [Array.getElem?_toList]; exact hp) hq
  have hlen' : ops.size = qs.length := by rw [← hlen]; simp
  have hinv : ∀ {tr : Tr} {S : Nat → Bool} {w' : World}, (∀ i, S i = false) → SR M β s.N (WrOf Lb w0) s.o w' → Kp Lb w0 w' → Inv M0 β0 N0 Lb w0 nt s.N (s.N + k) qs tr (s.e, s.o) S a w' := by
    intro tr S w' hS hsr hkp
    have hSe : S = fun _ => false := funext hS
    subst hSe
    refine ⟨M, β, hgrow, ?_, ?_, hsz, hdef, ?_⟩
    · rw [foldS_none]; exact Ok.more ⟨hsr, hkp⟩ (by omega)
    · rw [foldS_none]; exact he
    · intro j q hq _ kk hkk
      cases hb : β (s.N + kk) with
      | none => rfl
      | some y => have := hk.sr.bnd _ _ hb; omega
  unfold runRegion at h
  -- the run in the order of the text
  have main : ∀ (rr : RR), runOps G cf s.N (s.N + k) qs s.e s.o [] = some rr → ∃ tr : Tr, (∀ (j : Nat) x, tr[j]? = some x → qs[j]? = some x.1 ∧ recOf G cf s.N (s.N + k) (runTr (tr.take j) (s.e, s.o)) x.1 = some x.2) ∧ TrEnd G cf s.N (s.N + k) qs tr (s.e, s.o) [] rr :=
    fun rr hr => runOps_tr qs s.e s.o [] rr hr
  split at h
  · rename_i e' o' fps hrun
    obtain ⟨tr, htr, hend⟩ := main _ hrun
    obtain ⟨t1, t2, t3⟩ := hend
    rw [List.reverse_nil, List.nil_append] at t2
    have hdone : ∀ S a w, (∀ i, i < tr.length → S i = true) → Inv M0 β0 N0 Lb w0 nt s.N (s.N + k) qs tr (s.e, s.o) S a w → x = .normal → s' = ⟨e', o', s.N + k⟩ → Q .normal a w := by
      rintro S a w hS ⟨M', β', g1, g2, g3, g4, g5, _⟩ rfl rfl
      rw [foldS_all tr S 0 _ (fun i hi => by rw [Nat.zero_add]; exact hS i hi), t3] at g2 g3
      exact hQ a w ⟨M', β', g1, g2, g3, g4, g5, by show N0 ≤ s.N + k; omega⟩
    split at h
    · rename_i hpairs
      cases h
      cases d with
      | none =>
        cases draws with
        | true => cases hc3
        | false =>
          apply wp_region
          rw [List.range_eq_range']
          refine text_ok (β0 := β0) (base := s.N) (cx := s.N + k) (s0 := (s.e, s.o)) hcf hg hN halloc hnd hchk' hlen' htr (.inl ⟨t1, fun a w hi => hdone _ a w (fun i hi => by simpa using hi) hi rfl rfl⟩) ops.size 0 a w (by omega) (by omega) ?_
          exact hinv (fun i => by simp) hk.sr hk.kp
      | some l =>
        cases draws with
        | false => cases hc3
        | true =>
          simp only [Bool.and_eq_true] at hc3
          apply wp_region_any hmix
          refine any_ok (β0 := β0) (base := s.N) (cx := s.N + k) (s0 := (s.e, s.o)) (tr := tr) hcf hg hN halloc hnd hchk' hlen' htr hc3.1.1 ?_ (.inl ⟨t1, fun S a w hS hi => hdone S a w hS hi rfl rfl⟩) ops.size _ a _ (by simp) ?_ ?_ ?_ ?_
          · intro i j y z hi hj hlt
            have := pairsOK_spec hc3.1.2 i j y.1 z.1 (htr i y hi).1 (htr j z hj).1 hlt
            rw [Nat.zero_add, Nat.zero_add] at this
            exact this.imp (fun h => h) fun hp => pair_ap (by rw [← t2]; exact hpairs) (fun j x hj => (htr j x hj).2) hi hj hp
          · have : ∀ S n, cnt S n ≤ n := by
              intro S n
              induction n with
              | zero => exact Nat.le_refl _
              | succ n ih => simp only [cnt]; split <;> omega
            exact this _ _
          · intro j d' _ hj
            rw [sOf_empty] at hj; cases hj
          · intro i hi
            rw [sOf_empty] at hi; cases hi
          · exact hinv (fun i => sOf_empty _ i) hk.sr.drew hk.kp.drew
    · cases h
  · rename_i v fps hrun
    obtain ⟨tr, htr, hend⟩ := main _ hrun
    obtain ⟨t2, q, t3, t4, t5⟩ := hend
    rw [List.reverse_nil, List.nil_append] at t2
    split at h
    · rename_i hpairs
      cases h
      cases d with
      | none =>
        cases draws with
        | true => cases hc3
        | false =>
          apply wp_region
          rw [List.range_eq_range']
          refine text_ok (β0 := β0) (base := s.N) (cx := s.N + k) (s0 := (s.e, s.o)) hcf hg hN halloc hnd hchk' hlen' htr (.inr ⟨v, q, t3, t4, t5, hQ⟩) ops.size 0 a w (by omega) (by omega) ?_
          exact hinv (fun i => by simp) hk.sr hk.kp
      | some l =>
        cases draws with
        | false => cases hc3
        | true =>
          simp only [Bool.and_eq_true] at hc3
          simp only [drawPan, Bool.and_eq_true] at hpairs
          obtain ⟨hp1, hp2⟩ := hpairs
          have hfl : fps.length = tr.length := by rw [t2]; simp
          have hpan : panOK l.1 (masks (directs ops.toList)) qs.length tr.length = true := by
            have := hc3.2
            rw [List.all_eq_true] at this
            rw [hfl] at hp2
            exact this _ (List.contains_iff_mem.1 hp2)
          simp only [panOK, Bool.and_eq_true, List.all_eq_true] at hpan
          have hnol : ∀ i j, (i, j) ∈ l.1 → j ≠ tr.length := by
            intro i j hij
            simpa using hpan.2 _ hij
          have hmp := doOp_panics t5
          apply wp_region_any hmix
          refine any_ok (β0 := β0) (base := s.N) (cx := s.N + k) (s0 := (s.e, s.o)) (tr := tr) hcf hg hN halloc hnd hchk' hlen' htr hc3.1.1 ?_ (.inr ⟨v, q, t3, t4, t5, ?_, ?_, hQ⟩) ops.size _ a _ (by simp) ?_ ?_ ?_ ?_
          · intro i j y z hi hj hlt
            have := pairsOK_spec hc3.1.2 i j y.1 z.1 (htr i y hi).1 (htr j z hj).1 hlt
            rw [Nat.zero_add, Nat.zero_add] at this
            exact this.imp (fun h => h) fun hp => pair_ap (by rw [← t2]; exact hp1) (fun j x hj => (htr j x hj).2) hi hj hp
          · intro i y hi hb
            have hlt := (List.getElem?_eq_some_iff.1 hi).1
            have := pairsOK_spec hc3.1.2 i tr.length y.1 q (htr i y hi).1 t3 hlt
            rw [Nat.zero_add, Nat.zero_add] at this
            rcases this with h | h
            · rw [hb] at h; cases h
            · simp only [pairOK, Bool.and_eq_true, Bool.or_eq_true] at h
              obtain ⟨h1, h2⟩ := h
              refine ⟨(apartT_spec h1).1, ?_⟩
              rcases h2 with ((h2 | h2) | h2) | h2
              · right
                have := (htr i y hi).2
                unfold recOf at this
                split at this
                · split at this
                  · rename_i v' u fp hd
                    obtain ⟨q', r'⟩ := y
                    cases this
                    obtain ⟨e1, e2⟩ := doOp_free h2 hd
                    simp [Rec.ups, e1, ids]
                  · cases this
                · obtain ⟨q', r'⟩ := y
                  cases this; rfl
                · cases this
              · exact .inl h2
              · exfalso
                have := h2.2
                cases hqq : q.i <;> rw [hqq] at this hmp <;> first | (cases hmp; done) | (cases this; done)
              · exact absurd rfl (hnol _ _ (by simpa using h2))
          · intro j hj1 hj2
            have := hpan.1 j (List.mem_range.2 hj2)
            simp only [Bool.or_eq_true, decide_eq_true_eq] at this
            exact this.resolve_left (by omega)
          · have : ∀ S n, cnt S n ≤ n := by
              intro S n
              induction n with
              | zero => exact Nat.le_refl _
              | succ n ih => simp only [cnt]; split <;> omega
            exact this _ _
          · intro j d' _ hj
            rw [sOf_empty] at hj; cases hj
          · intro i hi
            rw [sOf_empty] at hi; cases hi
          · exact hinv (fun i => sOf_empty _ i) hk.sr.drew hk.kp.drew
    · cases h
  · cases h
theorem least {p : Nat → Prop} : ∀ n, p n → ∃ m, m ≤ n ∧ p m ∧ ∀ k, k < m → ¬ p k := by
  intro n
  induction n using Nat.strongRecOn with
  | _ n ih =>
    intro h
    by_cases hh : ∃ k, k < n ∧ p k
    · obtain ⟨k, h1, h2⟩ := hh
      obtain ⟨m, g1, g2, g3⟩ := ih k h1 h2
      exact ⟨m, by omega, g2, g3⟩
    · exact ⟨n, Nat.le_refl _, h, fun k hk hp => hh ⟨k, hk, hp⟩⟩
open Classical in
noncomputable def lst (p : Nat → Prop) : Nat := if h : ∃ n, p n then Classical.choose (least (Classical.choose h) (Classical.choose_spec h)) else 0
theorem lst_spec {p : Nat → Prop} (h : ∃ n, p n) : p (lst p) := by
  unfold lst
  rw [dif_pos h]
  exact (Classical.choose_spec (least (Classical.choose h) (Classical.choose_spec h))).2.1
theorem lst_le {p : Nat → Prop} {n : Nat} (h : p n) : lst p ≤ n := by
  unfold lst
  rw [dif_pos ⟨n, h⟩]
  have := (Classical.choose_spec (least (Classical.choose (⟨n, h⟩ : ∃ n, p n)) (Classical.choose_spec (⟨n, h⟩ : ∃ n, p n)))).2.2
  exact Nat.le_of_not_lt fun hlt => this _ hlt h
theorem Post.then {s : St} {x : Ex} {K : Go.Act → World → Prop} {Q : Exit → Go.Act → World → Prop} (hx : x ≠ .normal) (h : Post M0 β0 N0 Lb w0 nt s Q x) : Post M0 β0 N0 Lb w0 nt s (Exit.then K Q) x := by
  cases x with
  | normal => exact absurd rfl hx
  | exit i => exact h
  | ret => exact h
  | panic v => exact h
theorem exec_sound (hcf : CallOk P G cf) (hmix : P.follows .mixedOrders = true) (hg : GOK M0 G) {n : Nat} : ∀ (m : MC) (c : Code) (s s' : St) (x : Ex), exec G cf n m s = some (x, s') → chkCode P nt c m = true →
    ∀ (a : Go.Act) (w : World), Sim M0 β0 N0 Lb w0 nt s a w → ∀ (Q : Exit → Go.Act → World → Prop), Post M0 β0 N0 Lb w0 nt s' Q x → c.wp P Q a w := by
  intro m
  induction m with
  | skip =>
    intro c s s' x h hc a w hs Q hQ
    cases h
    cases c <;> simp only [chkCode, Bool.false_eq_true] at hc
    · exact wp_skip (hQ a w hs)
    · exact wp_label (hQ a w hs)
  | region d k qs =>
    intro c s s' x h hc a w hs Q hQ
    cases c <;> simp only [chkCode, Bool.false_eq_true] at hc
    exact region_sound hcf hmix hg h hc hs hQ
  | seq m1 m2 ih1 ih2 =>
    intro c s s' x h hc a w hs Q hQ
    cases c <;> simp only [chkCode, Bool.false_eq_true] at hc
    simp only [Bool.and_eq_true] at hc
    simp only [exec] at h
    apply wp_seq
    split at h
    · rename_i s1 h1
      exact ih1 _ s s1 .normal h1 hc.1 a w hs _ fun a1 w1 hs1 => ih2 _ s1 s' x h hc.2 a1 w1 hs1 Q hQ
    · rename_i hne
      exact ih1 _ s s' x h hc.1 a w hs _ (hQ.then fun e => hne s' (by rw [h, e]))
  | cond q m1 m2 ih1 ih2 =>
    intro c s s' x h hc a w hs Q hQ
    cases c <;> simp only [chkCode, Bool.false_eq_true] at hc
    simp only [Bool.and_eq_true] at hc
    simp only [exec] at h
    have hs0 := hs
    obtain ⟨M, β, hgrow, hk, he, hsz, hdef, hN⟩ := hs
    have hr := evA_sound hc.1 he (hg.mono hgrow.mem)
    split at h
    · rename_i hb
      rw [hb] at hr
      exact wp_cond_true hr.bool_inv (ih1 _ s s' x h hc.2.1 a w hs0 Q hQ)
    · rename_i hb
      rw [hb] at hr
      exact wp_cond_false hr.bool_inv (ih2 _ s s' x h hc.2.2 a w hs0 Q hQ)
    · cases h
  | block i m ih =>
    intro c s s' x h hc a w hs Q hQ
    cases c <;> simp only [chkCode, Bool.false_eq_true] at hc
    simp only [Bool.and_eq_true, beq_iff_eq] at hc
    obtain ⟨rfl, hc⟩ := hc
    simp only [exec] at h
    apply wp_block
    split at h
    · rename_i j s1 h1
      refine ih _ s s1 (.exit j) h1 hc a w hs _ ?_
      split at h
      · rename_i hj
        cases h
        intro a1 w1 hs1
        simp only [Exit.inBlock, hj, if_true]
        exact hQ a1 w1 hs1
      · rename_i hj
        cases h
        intro a1 w1 hs1
        simp only [Exit.inBlock, hj, if_false]
        exact hQ a1 w1 hs1
    · rename_i hne
      refine ih _ s s' x h hc a w hs _ ?_
      cases x with
      | exit j => exact absurd h (hne j s')
      | normal => exact hQ
      | ret => exact hQ
      | panic v => exact hQ
  | loop m ih =>
    intro c s s' x h hc a w hs Q hQ
    cases c <;> simp only [chkCode, Bool.false_eq_true] at hc
    rename_i c
    simp only [exec] at h
    let p : Go.Act → World → Nat → Prop := fun a w k => ∃ s1, iter (exec G cf n m) k s1 = some (x, s') ∧ Sim M0 β0 N0 Lb w0 nt s1 a w
    refine wp_loop (fun a w => ∃ k, p a w k) (fun a w => lst (p a w)) ⟨n, s, h, hs⟩ ?_
    intro a1 w1 hI
    obtain ⟨s1, h1, hs1⟩ := lst_spec hI
    cases hk : lst (p a1 w1) with
    | zero => rw [hk] at h1; cases h1
    | succ k =>
      rw [hk] at h1
      simp only [iter] at h1
      split at h1
      · rename_i s2 h2
        exact ih c s1 s2 .normal h2 hc a1 w1 hs1 _ fun a2 w2 hs2 => ⟨⟨k, s2, h1, hs2⟩, by
          have := lst_le (p := p a2 w2) (n := k) ⟨s2, h1, hs2⟩
          omega⟩
      · rename_i hne
        exact ih c s1 s' x h1 hc a1 w1 hs1 _ (hQ.then fun e => hne s' (by rw [h1, e]))
  | exit i =>
    intro c s s' x h hc a w hs Q hQ
    cases h
    cases c <;> simp only [chkCode, Bool.false_eq_true] at hc
    simp only [beq_iff_eq] at hc
    subst hc
    exact wp_exit (hQ a w hs)
  | scope m ih =>
    intro c s s' x h hc a w hs Q hQ
    cases c <;> simp only [chkCode, Bool.false_eq_true] at hc
    simp only [exec] at h
    apply wp_scope_straight
    refine ih _ s s' x h hc a w hs _ ?_
    cases x <;> exact hQ
  | ret =>
    intro c s s' x h hc a w hs Q hQ
    cases h
    cases c <;> simp only [chkCode, Bool.false_eq_true] at hc
    exact wp_ret (hQ a w hs)
end
end Go.Proofs.Ytoccgkgdhobmfaa.Am
set_option linter.unusedVariables false
set_option linter.unusedSimpArgs false
namespace Go.Proofs.Ytoccgkgdhobmfaa.Am
open Go
def chkR (P : Program) : ResultVar → Res → Bool
  | .tmp t, .tmp s => t == s
  | .cell a t, .cell b agg => a == b && (match agg with | some n => tagg P t && tsize P t n && decide (0 < n) | none => !tagg P t && tsome P t)
  | _, _ => false
def chkRs (P : Program) : List ResultVar → List Res → Bool
  | [], [] => true
  | x :: xs, y :: ys => chkR P x y && chkRs P xs ys
  | _, _ => false
def chkF (P : Program) (f : Nat) (m : MF) : Bool :=
  match P.funcs[f]? with
  | some fn => match fn.body with
    | some c => !(fn.name == "runtime.NumGoroutine") && decide (fn.ntmps = m.ntmps) && decide (m.np ≤ m.ntmps) && chkRs P fn.results.toList m.res && chkCode P m.ntmps c m.body
    | none => false
  | none => false
section
variable {P : Program} {G : Nat → Option (List V)} {cf : CallFn} {M M0 : Mem} {β β0 : Names} {N N0 : Nat} {Lb : Nat → Prop} {w w0 : World} {nt : Nat} {o : Hp} {e : Env} {a : Go.Act}
def resRun (tmps : Array Value) : ResultVar → Sem Value
  | .tmp t => pure (tmps.getD t undef)
  | .cell a t => do loadVar t (← asAddr (tmps.getD a undef))
theorem res_one (hk : Ok M β N Lb w0 o w) (he : EnvR M β e a) {x : ResultVar} {y : Res} (hc : chkR P x y = true) {v : V} (hv : resOf o e y = some v) :
    ∃ z, (resRun a.tmps x).run P w = .ok z w ∧ Rel M β v z := by
  cases x <;> cases y <;> simp only [chkR, Bool.false_eq_true] at hc
  · simp only [beq_iff_eq] at hc
    subst hc
    cases hv
    exact ⟨_, rfl, he _⟩
  · rename_i t ty b agg
    simp only [Bool.and_eq_true, beq_iff_eq] at hc
    obtain ⟨rfl, hc⟩ := hc
    simp only [resOf] at hv
    obtain ⟨r, h1, h2⟩ := bind_some' hv
    have hn : 0 < agg.getD 1 := by
      cases agg with
      | some n => simp only [Bool.and_eq_true, decide_eq_true_eq] at hc; exact hc.2
      | none => simp
    obtain ⟨b, off, c, ty', fr, g1, g2, g3, g4⟩ := peek_sound hk hn h1 (he t)
    obtain ⟨z, g5, g6, _⟩ := run_loadVar (P := P) hc g2 g3 g4 h2
    refine ⟨z, ?_, g6⟩
    simp only [resRun, g1, asAddr, Sem.run_bind, Sem.run_pure, Result.andThen_ok, g5]
theorem res_all (hk : Ok M β N Lb w0 o w) (he : EnvR M β e a) : ∀ {xs : List ResultVar} {ys : List Res} {vs : List V}, chkRs P xs ys = true → resAll o e ys = some vs →
    ∃ zs, (xs.mapM (resRun a.tmps)).run P w = .ok zs w ∧ zs.length = vs.length ∧ ∀ (j : Nat) v z, vs[j]? = some v → zs[j]? = some z → Rel M β v z := by
  intro xs
  induction xs with
  | nil =>
    intro ys vs hc hv
    cases ys with
    | cons _ _ => cases hc
    | nil => cases hv; exact ⟨[], by simp, rfl, by simp⟩
  | cons x xs ih =>
    intro ys vs hc hv
    cases ys with
    | nil => cases hc
    | cons y ys =>
      simp only [chkRs, Bool.and_eq_true] at hc
      simp only [resAll] at hv
      obtain ⟨v, h1, h2⟩ := bind_some' hv
      obtain ⟨us, h3, rfl⟩ := map_some' h2
      obtain ⟨z, g1, g2⟩ := res_one hk he hc.1 h1
      obtain ⟨zs, g3, g4, g5⟩ := ih hc.2 h3
      refine ⟨z :: zs, ?_, by simp [g4], ?_⟩
      · simp only [List.mapM_cons, Sem.run_bind, g1, Result.andThen_ok, g3, Sem.run_pure]
      · intro j u t hj ht
        cases j with
        | zero => simp at hj ht; subst hj; subst ht; exact g2
        | succ j => exact g5 j u t (by simpa using hj) (by simpa using ht)
theorem results_sound (hk : Ok M β N Lb w0 o w) (he : EnvR M β e a) {fn : Func} {rs : List Res} {vs : List V} (hc : chkRs P fn.results.toList rs = true) (hv : resAll o e rs = some vs) :
    ∃ z, (results fn a.tmps).run P w = .ok z w ∧ Rel M β (resV vs) z := by
  obtain ⟨zs, h1, h2, h3⟩ := res_all hk he hc hv
  have hm : (fn.results.mapM (resRun a.tmps)).run P w = .ok zs.toArray w := by
    rw [Array.mapM_eq_mapM_toList]
    simp only [map_eq_pure_bind, Sem.run_bind, h1, Result.andThen_ok, Sem.run_pure]
  have hres : (results fn a.tmps).run P w = .ok (if h : zs.toArray.size = 1 then zs.toArray[0] else .tuple zs.toArray) w := by
    have : results fn a.tmps = (fn.results.mapM (resRun a.tmps)) >>= fun vs => pure (if h : vs.size = 1 then vs[0] else .tuple vs) := by
      unfold results
      congr 1
    rw [this, Sem.run_bind, hm, Result.andThen_ok, Sem.run_pure]
  refine ⟨_, hres, ?_⟩
  cases vs with
  | nil =>
    cases zs with
    | cons _ _ => simp at h2
    | nil => exact .tup [] #[] rfl (by simp)
  | cons v r =>
    cases zs with
    | nil => simp at h2
    | cons z r' =>
      cases r with
      | nil =>
        cases r' with
        | cons _ _ => simp at h2
        | nil => exact h3 0 v z rfl rfl
      | cons v2 r2 =>
        cases r' with
        | nil => simp at h2
        | cons z2 r2' =>
          simp only [resV]
          rw [dif_neg (by simp)]
          refine .tup _ _ (by simpa using h2) ?_
          intro j u hj
          have hlt : j < (v :: v2 :: r2).length := (List.getElem?_eq_some_iff.1 hj).1
          have hlt' : j < (z :: z2 :: r2').length := by rw [h2]; exact hlt
          have hz : (z :: z2 :: r2').toArray[j]? = some (z :: z2 :: r2')[j] := by simp [hlt']
          rw [getD_of_getElem? hz]
          exact h3 j u _ hj (List.getElem?_eq_getElem hlt')
theorem RetOk.of_prel {v : V} {x : Value} {o : Hp} (h : PRel M v x) : RetOk M β o w N v x := by
  cases v with
  | own e xs => cases h
  | _ => exact h
theorem mark_old (hk : Ok M β N Lb w0 o w) {fs : List (Nat × AObj)} (hst : ∀ i a, (i, a) ∈ fs → wrt (o i) = true) : ∀ b, b < w0.heap.size → ¬ Lb b → mmem M β fs w b = M b := by
  intro b hb hn
  refine mmem_not ?_
  rintro ⟨i, a, k, h1, h2, rfl⟩
  have hw := hst i a h1
  obtain ⟨k', g1, g2⟩ := hk.sr.live i (fun e => by rw [e] at hw; cases hw)
  rw [h2] at g1; cases g1
  exact (g2.wr hw).elim (fun h => by omega) hn
theorem SR.again {Wr : Nat → Prop} (h : SR M β N Wr o w) {i : Nat} {k : Blk} {x : AObj} (hi : β i = some k) (hwi : wrt (o i) = true) (hx : wrt x = true) (hh : Holds M β Wr w k x) : SR M β N Wr (hput o i x) w := by
  obtain ⟨k', g1, g2⟩ := h.live i (fun e => by rw [e] at hwi; cases hwi)
  rw [hi] at g1; cases g1
  have hlt := g2.lt hwi
  have hob : w.heap[k.b]? = some w.heap[k.b] := Array.getElem?_eq_getElem hlt
  have := SR.write h (ob := w.heap[k.b]) hi hwi hx (by rw [wset_same hob]; exact hh)
  rwa [wset_same hob] at this
theorem result_sound (hk : Ok M β N Lb w0 o w) {Nc : Nat} {v : V} {x : Value} {r : V × List (Nat × AObj)} (hr : result o Nc v = some r) (hv : Rel M β v x) :
    ∃ M', (∀ b y, M b = some y → M' b = some y) ∧ (∀ b, b < w0.heap.size → ¬ Lb b → M' b = M b) ∧ Ok M' β N Lb w0 (hputs o r.2) w ∧ RetOk M' β (hputs o r.2) w Nc r.1 x := by
  have plain : frz o deep v = some r → ∃ M', (∀ b y, M b = some y → M' b = some y) ∧ (∀ b, b < w0.heap.size → ¬ Lb b → M' b = M b) ∧ Ok M' β N Lb w0 (hputs o r.2) w ∧ RetOk M' β (hputs o r.2) w Nc r.1 x := by
    intro hf
    obtain ⟨h1, h2⟩ := frz_sound hk.sr (mmem_le (fs := r.2) hk.sr) deep v r x hf hv fun i a hi k hkk => mmem_mark hi hkk
    exact ⟨mmem M β r.2 w, mmem_le hk.sr, mark_old hk (fun i a h => (h2 i a h).1), ⟨hk.sr.mark h2, hk.kp⟩, .of_prel h1⟩
  unfold result at hr
  split at hr
  · rename_i i len
    split at hr
    · rename_i e' xs ho
      split at hr
      · rename_i hN
        split at hr
        · rename_i hlen
          obtain ⟨q, h1, h2⟩ := bind_some' hr
          split at h2
          · cases h2
          · rename_i hni
            cases h2
            have hwi : wrt (o i) = true := by rw [ho]; rfl
            obtain ⟨k, hki, hh⟩ := hk.sr.live i (by rw [ho]; simp)
            rw [ho] at hh
            obtain ⟨w1, w2, w3, w4, w5⟩ := hh
            obtain ⟨g1, g2, g3⟩ := seqM_get h1
            have hmk : ∀ j a, (j, a) ∈ q.2 → ∀ kk, β j = some kk → mmem M β q.2 w kk.b = w.heap[kk.b]? := fun j a h kk hkk => mmem_mark h hkk
            have hcell : ∀ (jj : Nat) l, (xs.take len)[jj]? = some l → ∀ (j : Nat) v, l[j]? = some v → ∃ x, Rel M β v x := by
              intro jj l hl j v hj
              rw [List.getElem?_take] at hl
              split at hl
              · obtain ⟨c, ty, fr, _, _, _, _, hrr⟩ := w5
                obtain ⟨x, _, _, hx⟩ := hrr _ v (flat_get w4 hl hj)
                exact ⟨x, hx⟩
              · cases hl
            -- one row of cells
            have hrow : ∀ (jj : Nat) l, (xs.take len)[jj]? = some l → ∃ s, seqM (frz o deep) l = some s ∧ q.1[jj]? = some s.1 ∧ s.1.length = l.length ∧
                (∀ (j : Nat) v x, l[j]? = some v → Rel M β v x → ∃ v', s.1[j]? = some v' ∧ PRel (mmem M β q.2 w) v' x) ∧ ∀ y ∈ s.2, y ∈ q.2 := by
              intro jj l hl
              obtain ⟨s, e1, e2, e3⟩ := g2 jj l hl
              obtain ⟨f1, f2, f3⟩ := seqM_get e1
              refine ⟨s, e1, e2, f1, ?_, e3⟩
              intro j v x hj hvx
              obtain ⟨t, u1, u2, u3⟩ := f2 j v hj
              exact ⟨t.1, u2, (frz_sound hk.sr (mmem_le hk.sr) deep v t x u1 hvx fun i a hi kk hkk => hmk i a (e3 _ (u3 _ hi)) kk hkk).1⟩
            have hstill : ∀ j a, (j, a) ∈ q.2 → Still (mmem M β q.2 w) β w o j a := by
              intro j a hj
              obtain ⟨l, s, e1, e2, e3⟩ := g3 _ hj
              obtain ⟨jj, hjj⟩ := List.getElem?_of_mem e1
              obtain ⟨f1, f2, f3⟩ := seqM_get e2
              obtain ⟨v, t, u1, u2, u3⟩ := f3 _ e3
              obtain ⟨jv, hjv⟩ := List.getElem?_of_mem u1
              obtain ⟨x, hx⟩ := hcell jj l hjj jv v hjv
              obtain ⟨s', t1, t2, t3⟩ := g2 jj l hjj
              rw [e2] at t1; cases t1
              obtain ⟨t', y1, y2, y3⟩ := f2 jv v hjv
              rw [u2] at y1; cases y1
              exact (frz_sound hk.sr (mmem_le hk.sr) deep v t x u2 hx fun i a hi kk hkk => hmk i a (t3 _ (y3 _ hi)) kk hkk).2 j a u3
            have htl : ∀ l ∈ xs.take len, l.length = e' := fun l hl => w4 l (List.mem_of_mem_take hl)
            obtain ⟨l1, l2⟩ := flat_map_get htl g1 (fun jj l hl => by
              obtain ⟨s, e1, e2, e3, _⟩ := hrow jj l hl
              exact ⟨s.1, e2, e3⟩)
            have hlt : (xs.take len).length = len := by simp; omega
            have hbox : BoxAt w.heap[k.b]? k.size (PRel (mmem M β q.2 w)) q.1.flatten := by
              obtain ⟨c, ty, fr, b1, b2, b3, b4, b5⟩ := w5
              refine ⟨c, ty, fr, b1, b2, b3, ?_, ?_⟩
              · rw [l2, flat_len htl, hlt]
                rw [flat_len w4] at b4
                exact Nat.le_trans (Nat.mul_le_mul_right _ hlen) b4
              · intro j v' hj
                by_cases he0 : e' = 0
                · exfalso
                  have : q.1.flatten.length = 0 := by rw [flat_len l1, he0]; simp
                  rw [List.eq_nil_of_length_eq_zero this] at hj
                  simp at hj
                · obtain ⟨row, d1, d2, d3⟩ := flat_index (Nat.pos_of_ne_zero he0) l1 hj
                  have hjl : j / e' < (xs.take len).length := by rw [← g1]; exact (List.getElem?_eq_some_iff.1 d1).1
                  have hxl := List.getElem?_eq_getElem hjl
                  obtain ⟨s, e1, e2, e3, e4, _⟩ := hrow _ _ hxl
                  rw [d1] at e2; cases e2
                  have hjm : j % e' < ((xs.take len)[j / e']).length := by rw [← e3]; exact (List.getElem?_eq_some_iff.1 d2).1
                  have hvl := List.getElem?_eq_getElem hjm
                  have hxs : xs[j / e']? = some (xs.take len)[j / e'] := by
                    have := hxl
                    rw [List.getElem?_take] at this
                    split at this
                    · exact this
                    · cases this
                  have hfl := flat_get w4 hxs hvl
                  rw [d3] at hfl
                  obtain ⟨x, u1, u2, u3⟩ := b5 j _ hfl
                  obtain ⟨v'', y1, y2⟩ := e4 _ _ x hvl u3
                  rw [d2] at y1; cases y1
                  exact ⟨x, u1, u2, y2⟩
            have hsr := hk.sr.mark hstill
            have hni' : i ∉ ids q.2 := by
              intro hm
              apply hni
              exact List.contains_iff_mem.2 hm
            have hoi : hputs o q.2 i = .vec e' xs := by rw [hputs_other hni', ho]
            have hMn : mmem M β q.2 w k.b = none := by rw [mmem_not (not_marked hk.sr (fun i a h => (hstill i a h).1) hwi hki hni')]; exact w2
            have hsr2 := hsr.again (x := .vec e' q.1) hki (by rw [hoi]; rfl) rfl ⟨w1, hMn, w3, l1, hbox.mono (fun _ h => h) fun _ _ h => .pure h⟩
            refine ⟨mmem M β q.2 w, mmem_le hk.sr, mark_old hk (fun i a h => (hstill i a h).1), ?_, ?_⟩
            · rw [hputs_append]; exact ⟨hsr2, hk.kp⟩
            · have hx : ∃ cap, x = .slice (some ⟨k.b, 0, none⟩) len cap ∧ len ≤ cap ∧ cap * e' ≤ k.size := by
                cases hv with
                | pure h => cases h
                | vsl _ _ _ cap k' hk' hl hs =>
                  rw [hki] at hk'; cases hk'
                  exact ⟨cap, by simp, hl, by rw [w3] at hs; omega⟩
                | vslE _ _ cap a hst => exact absurd rfl hst
              obtain ⟨cap, rfl, c1, c2⟩ := hx
              have hql : q.1.length = len := by rw [g1, hlt]
              refine ⟨i, k, cap, hN, ?_, hki, by rw [hql], by rw [hql]; exact c1, c2, hbox⟩
              rw [hputs_append]; simp [hputs, hput]
        · cases hr
      · exact plain hr
    · exact plain hr
  · exact plain hr
theorem finish_sound {m : MF} {fn : Func} (hc : chkRs P fn.results.toList m.res = true) {s : St} {Nc : Nat} {out : Out} (hf : finish m Nc s = some out) (hs : Sim M0 β0 Nc Lb w0 nt s a w) :
    a.defers = [] ∧ ∃ v, (results fn a.tmps).run P w = .ok v w ∧ CallPost M0 β0 Nc Lb w0 out (.returned v) w := by
  obtain ⟨M, β, hgrow, hk, he, hsz, hdef, hN⟩ := hs
  simp only [finish] at hf
  obtain ⟨vs, h1, h2⟩ := bind_some' hf
  obtain ⟨r, h3, rfl⟩ := map_some' h2
  obtain ⟨z, h4, h5⟩ := results_sound hk he hc h1
  obtain ⟨M', h6, h7, h8, h9⟩ := result_sound hk h3 h5
  exact ⟨hdef, z, h4, z, M', β, s.N, rfl, fun b y h => h6 b y (hgrow.mem b y h), fun b hb hn => (h7 b hb hn).trans (hgrow.old b hb hn), hgrow.nam, hgrow.new, h8, h9⟩
def ExtOk (P : Program) (G : Nat → Option (List V)) (f : Nat) (x : CallFn → List V → Hp → Nat → Option Out) : Prop :=
  ∀ cf, CallOk P G cf → ∀ args o N out, x cf args o N = some out → Callable P f ∧
    ∀ (M : Mem) (β : Names) (w : World) (Lb : Nat → Prop) (vargs : Array Value), Ok M β N Lb w o w → GOK M G → vargs.size = args.length → (∀ (j : Nat) v, args[j]? = some v → Rel M β v (vargs.getD j undef)) →
      Calls P f vargs w (CallPost M β N Lb w out)
theorem callF_sound {T : Nat → Option MF} {E : Nat → Option (CallFn → List V → Hp → Nat → Option Out)} (hmix : P.follows .mixedOrders = true)
    (hT : ∀ f m, T f = some m → chkF P f m = true) (hE : ∀ f x, E f = some x → ExtOk P G f x) : ∀ n, CallOk P G (callF G T E n) := by
  intro n
  induction n with
  | zero => intro g args o N out h; cases h
  | succ n ih =>
    intro g args o N out h
    simp only [callF] at h
    split at h
    · rename_i x hx
      exact hE g x hx _ ih args o N out h
    · split at h
      · cases h
      · rename_i m hm
        have hchk := hT g m hm
        unfold chkF at hchk
        split at hchk
        · rename_i fn hfn
          split at hchk
          · rename_i c hbody
            simp only [Bool.and_eq_true, Bool.not_eq_true', decide_eq_true_eq] at hchk
            obtain ⟨⟨⟨⟨c1, c2⟩, c3⟩, c4⟩, c5⟩ := hchk
            split at h
            · rename_i hnp
              refine ⟨⟨fn, hfn, c1, by rw [hbody]; rfl⟩, ?_⟩
              intro M β w Lb vargs hk hg hl ha
              refine calls_of_wp hfn hbody ?_
              have hsim : Sim M β N Lb w m.ntmps ⟨initEnv args, o, N⟩ { tmps := vargs ++ Array.replicate (fn.ntmps - vargs.size) undef, defers := [] } w := by
                refine ⟨M, β, Grow.refl _ _ _ _ _, hk, ?_, ?_, rfl, Nat.le_refl _⟩
                · intro s
                  simp only [initEnv]
                  rw [Array.getD_eq_getD_getElem?]
                  by_cases hs : s < args.length
                  · have := ha s args[s] (List.getElem?_eq_getElem hs)
                    rw [Array.getElem?_append_left (by omega)]
                    rw [Array.getD_eq_getD_getElem?] at this
                    rw [List.getD_eq_getElem?_getD, List.getElem?_eq_getElem hs]
                    exact this
                  · rw [List.getD_eq_getElem?_getD, List.getElem?_eq_none (by omega)]
                    exact .pure (.junk _)
                · simp; omega
              split at h
              · rename_i s hex
                exact exec_sound ih hmix hg m.body c _ s .normal hex c5 _ w hsim _ fun a w' hs => finish_sound c4 h hs
              · rename_i s hex
                exact exec_sound ih hmix hg m.body c _ s .ret hex c5 _ w hsim _ fun a w' hs => finish_sound c4 h hs
              · rename_i v s hex
                cases h
                exact exec_sound ih hmix hg m.body c _ s (.panic v) hex c5 _ w hsim _ fun x a w' hx hd hkp => ⟨hd, x, rfl, hx, hkp⟩
              · cases h
            · cases h
          · cases hchk
        · cases hchk
end
end Go.Proofs.Ytoccgkgdhobmfaa.Am
set_option linter.unusedVariables false
set_option linter.unusedSimpArgs false
namespace Go.Proofs.Ytoccgkgdhobmfaa.Am
open Go
def Le (cf cf' : CallFn) : Prop := ∀ f a o N r, cf f a o N = some r → cf' f a o N = some r
def MonoE (E : Nat → Option (CallFn → List V → Hp → Nat → Option Out)) : Prop := ∀ f x, E f = some x → ∀ cf cf', Le cf cf' → ∀ a o N r, x cf a o N = some r → x cf' a o N = some r
section
variable {G : Nat → Option (List V)} {T : Nat → Option MF} {E : Nat → Option (CallFn → List V → Hp → Nat → Option Out)} {cf cf' : CallFn} {base cx : Nat}
theorem Le.refl (cf : CallFn) : Le cf cf := fun _ _ _ _ _ h => h
theorem doCall_mono (hl : Le cf cf') {o : Hp} {f : V} {args : List V} {raw : List Bool} {own : Option Nat} {d : Did} (h : doCall cf o base cx f args raw own = some d) : doCall cf' o base cx f args raw own = some d := by
  unfold doCall at h ⊢
  split at h
  · rename_i g caps
    simp only at h ⊢
    obtain ⟨r0, h1, h⟩ := bind_some' h
    obtain ⟨L, h2, h⟩ := bind_some' h
    obtain ⟨fa, h3, h⟩ := bind_some' h
    rw [h1, Option.bind_some, h2, Option.bind_some, h3, Option.bind_some]
    split at h
    · rename_i hn
      rw [if_pos hn]
      have key : ∀ r, (if L.isEmpty then cf g fa.1 (fun _ => .dead) 0 else cf g fa.1 (restrict o L) cx) = some r → (if L.isEmpty then cf' g fa.1 (fun _ => .dead) 0 else cf' g fa.1 (restrict o L) cx) = some r := by
        intro r hr
        split at hr <;> rename_i hL
        · rw [if_pos hL]; exact hl _ _ _ _ _ hr
        · rw [if_neg hL]; exact hl _ _ _ _ _ hr
      split at h
      · rename_i v o' hc; rw [key _ hc]; exact h
      · rename_i v hc; rw [key _ hc]; exact h
      · cases h
    · cases h
  · cases h
theorem doOp_mono (hl : Le cf cf') {e : Env} {o : Hp} {i : I} {d : Did} (h : doOp G cf base cx e o i = some d) : doOp G cf' base cx e o i = some d := by
  cases i with
  | call f args raw own => exact doCall_mono hl h
  | _ => exact h
theorem runOps_mono (hl : Le cf cf') : ∀ {ops : List Op'} {e : Env} {o : Hp} {fps : List Fp} {r : RR}, runOps G cf base cx ops e o fps = some r → runOps G cf' base cx ops e o fps = some r := by
  intro ops
  induction ops with
  | nil => intro e o fps r h; exact h
  | cons p ops ih =>
    intro e o fps r h
    simp only [runOps] at h ⊢
    split at h
    · split at h
      · rename_i v u fp hd; rw [doOp_mono hl hd]; exact ih h
      · rename_i v hd; rw [doOp_mono hl hd]; exact h
      · cases h
    · exact ih h
    · cases h
theorem runRegion_mono (hl : Le cf cf') {d : Option (List (Nat × Nat) × List Nat)} {k : Nat} {ops : List Op'} {s : St} {r : Ex × St} (h : runRegion G cf d k ops s = some r) : runRegion G cf' d k ops s = some r := by
  unfold runRegion at h ⊢
  split at h
  · rename_i e o fps hr; rw [runOps_mono hl hr]; exact h
  · rename_i v fps hr; rw [runOps_mono hl hr]; exact h
  · cases h
theorem iter_mono {b b' : St → Option (Ex × St)} (hb : ∀ s r, b s = some r → b' s = some r) : ∀ {n n' : Nat} {s : St} {r : Ex × St}, n ≤ n' → iter b n s = some r → iter b' n' s = some r := by
  intro n
  induction n with
  | zero => intro n' s r _ h; cases h
  | succ n ih =>
    intro n' s r hn h
    cases n' with
    | zero => omega
    | succ n' =>
      simp only [iter] at h ⊢
      split at h
      · rename_i s' hs; rw [hb _ _ hs]; exact ih (by omega) h
      · rename_i hne
        rw [hb _ _ h]
        split
        · rename_i s' heq; cases heq; exact absurd h (hne s')
        · rfl
theorem exec_mono (hl : Le cf cf') {n n' : Nat} (hn : n ≤ n') : ∀ (m : MC) (s : St) (r : Ex × St), exec G cf n m s = some r → exec G cf' n' m s = some r := by
  intro m
  induction m with
  | skip => intro s r h; exact h
  | region d k ops => intro s r h; exact runRegion_mono hl h
  | seq a b iha ihb =>
    intro s r h
    simp only [exec] at h ⊢
    split at h
    · rename_i s' hs; rw [iha _ _ hs]; exact ihb _ _ h
    · rename_i hne
      rw [iha _ _ h]
      split
      · rename_i s' heq; cases heq; exact absurd h (hne s')
      · rfl
  | cond c a b iha ihb =>
    intro s r h
    simp only [exec] at h ⊢
    split at h
    · exact iha _ _ h
    · exact ihb _ _ h
    · cases h
  | block i a ih =>
    intro s r h
    simp only [exec] at h ⊢
    split at h
    · rename_i j s' hs; rw [ih _ _ hs]; exact h
    · rename_i hne
      rw [ih _ _ h]
      split
      · rename_i j s' heq; cases heq; exact absurd h (hne j s')
      · rfl
  | loop a ih =>
    intro s r h
    simp only [exec] at h ⊢
    exact iter_mono (fun s r hs => ih s r hs) hn h
  | exit i => intro s r h; exact h
  | scope a ih => intro s r h; exact ih s r h
  | ret => intro s r h; exact h
theorem callF_eq (n f : Nat) (args : List V) (o : Hp) (N : Nat) : callF G T E (n + 1) f args o N = match E f with
    | some x => x (callF G T E n) args o N
    | none => match T f with
      | none => none
      | some m => if args.length = m.np then
          match exec G (callF G T E n) n m.body ⟨initEnv args, o, N⟩ with
          | some (.normal, s) => finish m N s
          | some (.ret, s) => finish m N s
          | some (.panic v, _) => some (.panic v)
          | _ => none
        else none := rfl
theorem callF_succ (hE : MonoE E) : ∀ n, Le (callF G T E n) (callF G T E (n + 1)) := by
  intro n
  induction n with
  | zero => intro f a o N r h; cases h
  | succ n ih =>
    intro f a o N r h
    rw [callF_eq] at h ⊢
    split at h
    · rename_i x hx
      exact hE f x hx _ _ ih _ _ _ _ h
    · split at h
      · cases h
      · rename_i m hm
        split at h
        · rename_i hnp
          simp only [hnp, if_true]
          split at h
          · rename_i s hs; rw [exec_mono ih (Nat.le_succ n) _ _ _ hs]; exact h
          · rename_i s hs; rw [exec_mono ih (Nat.le_succ n) _ _ _ hs]; exact h
          · rename_i v s hs; rw [exec_mono ih (Nat.le_succ n) _ _ _ hs]; exact h
          · cases h
        · cases h
theorem callF_mono (hE : MonoE E) {n n' : Nat} (h : n ≤ n') : Le (callF G T E n) (callF G T E n') := by
  induction h with
  | refl => exact Le.refl _
  | step _ ih => intro f a o N r hr; exact callF_succ hE _ _ _ _ _ _ (ih _ _ _ _ _ hr)
open Classical in
/-- What the calls come to, however much they need. -/
noncomputable def cfW (G : Nat → Option (List V)) (T : Nat → Option MF) (E : Nat → Option (CallFn → List V → Hp → Nat → Option Out)) : CallFn := fun f a o N =>
  if h : ∃ n r, callF G T E n f a o N = some r then some (Classical.choose (Classical.choose_spec h)) else none
theorem cfW_some (hE : MonoE E) {f : Nat} {a : List V} {o : Hp} {N : Nat} {r : Out} : cfW G T E f a o N = some r ↔ ∃ n, callF G T E n f a o N = some r := by
  unfold cfW
  constructor
  · intro h
    split at h
    · rename_i hx
      cases h
      exact ⟨_, Classical.choose_spec (Classical.choose_spec hx)⟩
    · cases h
  · rintro ⟨n, h⟩
    have hx : ∃ n r, callF G T E n f a o N = some r := ⟨n, r, h⟩
    rw [dif_pos hx]
    have h2 := Classical.choose_spec (Classical.choose_spec hx)
    have e1 := callF_mono hE (Nat.le_max_left n (Classical.choose hx)) _ _ _ _ _ h
    have e2 := callF_mono hE (Nat.le_max_right n (Classical.choose hx)) _ _ _ _ _ h2
    rw [e1] at e2
    exact e2.symm
open Classical in
noncomputable def iterW (b : St → Option (Ex × St)) : St → Option (Ex × St) := fun s => if h : ∃ n r, iter b n s = some r then some (Classical.choose (Classical.choose_spec h)) else none
theorem iterW_some {b : St → Option (Ex × St)} {s : St} {r : Ex × St} : iterW b s = some r ↔ ∃ n, iter b n s = some r := by
  unfold iterW
  constructor
  · intro h
    split at h
    · rename_i hx
      cases h
      exact ⟨_, Classical.choose_spec (Classical.choose_spec hx)⟩
    · cases h
  · rintro ⟨n, h⟩
    have hx : ∃ n r, iter b n s = some r := ⟨n, r, h⟩
    rw [dif_pos hx]
    have h2 := Classical.choose_spec (Classical.choose_spec hx)
    have e1 := iter_mono (fun s r h => h) (Nat.le_max_left n (Classical.choose hx)) h
    have e2 := iter_mono (fun s r h => h) (Nat.le_max_right n (Classical.choose hx)) h2
    rw [e1] at e2
    exact e2.symm
theorem iterW_step {b : St → Option (Ex × St)} {s s' : St} (h : b s = some (.normal, s')) : iterW b s = iterW b s' := by
  have key : ∀ r, iterW b s = some r ↔ iterW b s' = some r := by
    intro r
    rw [iterW_some, iterW_some]
    constructor
    · rintro ⟨n, hn⟩
      cases n with
      | zero => cases hn
      | succ n => simp only [iter, h] at hn; exact ⟨n, hn⟩
    · rintro ⟨n, hn⟩
      exact ⟨n + 1, by simp only [iter, h]; exact hn⟩
  cases hs : iterW b s with
  | some r => exact ((key r).1 hs).symm
  | none =>
    cases hs' : iterW b s' with
    | none => rfl
    | some r => rw [(key r).2 hs'] at hs; cases hs
theorem iterW_end {b : St → Option (Ex × St)} {s s' : St} {x : Ex} (h : b s = some (x, s')) (hx : x ≠ .normal) : iterW b s = some (x, s') := by
  rw [iterW_some]
  refine ⟨1, ?_⟩
  simp only [iter, h]
  cases x <;> first | rfl | exact absurd rfl hx
noncomputable def xec (G : Nat → Option (List V)) (cf : CallFn) : MC → St → Option (Ex × St)
  | .skip, s => some (.normal, s)
  | .region d k ops, s => runRegion G cf d k ops s
  | .seq a b, s => match xec G cf a s with
    | some (.normal, s') => xec G cf b s'
    | r => r
  | .cond c a b, s => match evA G s.e c with
    | .bool true => xec G cf a s
    | .bool false => xec G cf b s
    | _ => none
  | .block id a, s => match xec G cf a s with
    | some (.exit j, s') => if j = id then some (.normal, s') else some (.exit j, s')
    | r => r
  | .loop a, s => iterW (xec G cf a) s
  | .exit id, s => some (.exit id, s)
  | .scope a, s => xec G cf a s
  | .ret, s => some (.ret, s)
/-- From some fuel on. -/
def Evn (p : Nat → Prop) : Prop := ∃ k, ∀ n, k ≤ n → p n
theorem Evn.and {p q : Nat → Prop} (h : Evn p) (h' : Evn q) : Evn fun n => p n ∧ q n := by
  obtain ⟨k, hk⟩ := h
  obtain ⟨k', hk'⟩ := h'
  exact ⟨max k k', fun n hn => ⟨hk n (by omega), hk' n (by omega)⟩⟩
theorem Evn.mono {p q : Nat → Prop} (h : Evn p) (hpq : ∀ n, p n → q n) : Evn q := by
  obtain ⟨k, hk⟩ := h
  exact ⟨k, fun n hn => hpq n (hk n hn)⟩
theorem Evn.of {p : Nat → Prop} (h : ∀ n, p n) : Evn p := ⟨0, fun n _ => h n⟩
theorem cfW_evn (hE : MonoE E) {f : Nat} {a : List V} {o : Hp} {N : Nat} {r : Out} (h : cfW G T E f a o N = some r) : Evn fun n => callF G T E n f a o N = some r := by
  obtain ⟨n, hn⟩ := (cfW_some hE).1 h
  exact ⟨n, fun m hm => callF_mono hE hm _ _ _ _ _ hn⟩
theorem doCall_evn (hE : MonoE E) {o : Hp} {f : V} {args : List V} {raw : List Bool} {own : Option Nat} {d : Did} (h : doCall (cfW G T E) o base cx f args raw own = some d) :
    Evn fun n => doCall (callF G T E n) o base cx f args raw own = some d := by
  unfold doCall at h
  split at h
  · rename_i g caps
    simp only at h
    obtain ⟨r0, h1, h⟩ := bind_some' h
    obtain ⟨L, h2, h⟩ := bind_some' h
    obtain ⟨fa, h3, h⟩ := bind_some' h
    split at h
    · rename_i hn
      have key : ∀ r, (if L.isEmpty then cfW G T E g fa.1 (fun _ => .dead) 0 else cfW G T E g fa.1 (restrict o L) cx) = some r →
          Evn fun n => (if L.isEmpty then callF G T E n g fa.1 (fun _ => .dead) 0 else callF G T E n g fa.1 (restrict o L) cx) = some r := by
        intro r hr
        split at hr <;> rename_i hL
        · refine (cfW_evn hE hr).mono fun n h => ?_
          rw [if_pos hL]; exact h
        · refine (cfW_evn hE hr).mono fun n h => ?_
          rw [if_neg hL]; exact h
      split at h
      · rename_i v o' hc
        refine (key _ hc).mono fun n hk => ?_
        simp only [doCall, h1, Option.bind_some, h2, h3, hn, if_true, hk]; exact h
      · rename_i v hc
        refine (key _ hc).mono fun n hk => ?_
        simp only [doCall, h1, Option.bind_some, h2, h3, hn, if_true, hk]; exact h
      · cases h
    · cases h
  · cases h
theorem doOp_evn (hE : MonoE E) {e : Env} {o : Hp} {i : I} {d : Did} (h : doOp G (cfW G T E) base cx e o i = some d) : Evn fun n => doOp G (callF G T E n) base cx e o i = some d := by
  cases i with
  | call f args raw own => exact doCall_evn hE h
  | _ => exact .of fun n => h
theorem runOps_evn (hE : MonoE E) : ∀ {ops : List Op'} {e : Env} {o : Hp} {fps : List Fp} {r : RR}, runOps G (cfW G T E) base cx ops e o fps = some r → Evn fun n => runOps G (callF G T E n) base cx ops e o fps = some r := by
  intro ops
  induction ops with
  | nil => intro e o fps r h; exact .of fun n => h
  | cons p ops ih =>
    intro e o fps r h
    simp only [runOps] at h
    split at h
    · rename_i hw
      split at h
      · rename_i v u fp hd
        refine ((doOp_evn hE hd).and (ih h)).mono fun n hh => ?_
        simp only [runOps, hw, hh.1]; exact hh.2
      · rename_i v hd
        refine (doOp_evn hE hd).mono fun n hh => ?_
        simp only [runOps, hw, hh]; exact h
      · cases h
    · rename_i hw
      refine (ih h).mono fun n hh => ?_
      simp only [runOps, hw]; exact hh
    · cases h
theorem iter_evn {b : St → Option (Ex × St)} {c : Nat → St → Option (Ex × St)} (hb : ∀ s r, b s = some r → Evn fun n => c n s = some r) : ∀ {k : Nat} {s : St} {r : Ex × St}, iter b k s = some r →
    Evn fun n => iter (c n) k s = some r := by
  intro k
  induction k with
  | zero => intro s r h; cases h
  | succ k ih =>
    intro s r h
    simp only [iter] at h
    split at h
    · rename_i s' hs
      refine ((hb _ _ hs).and (ih h)).mono fun n hh => ?_
      simp only [iter, hh.1]; exact hh.2
    · rename_i hne
      refine (hb _ _ h).mono fun n hh => ?_
      simp only [iter, hh]
      split
      · rename_i s' heq; cases heq; exact absurd h (hne s')
      · rfl
theorem xec_evn (hE : MonoE E) : ∀ (m : MC) (s : St) (r : Ex × St), xec G (cfW G T E) m s = some r → Evn fun n => exec G (callF G T E n) n m s = some r := by
  intro m
  induction m with
  | skip => intro s r h; exact .of fun n => h
  | region d k ops =>
    intro s r h
    simp only [xec, runRegion] at h
    split at h
    · rename_i e o fps hr
      refine (runOps_evn hE hr).mono fun n hh => ?_
      simp only [exec, runRegion, hh]; exact h
    · rename_i v fps hr
      refine (runOps_evn hE hr).mono fun n hh => ?_
      simp only [exec, runRegion, hh]; exact h
    · cases h
  | seq a b iha ihb =>
    intro s r h
    simp only [xec] at h
    split at h
    · rename_i s' hs
      refine ((iha _ _ hs).and (ihb _ _ h)).mono fun n hh => ?_
      simp only [exec, hh.1]; exact hh.2
    · rename_i hne
      refine (iha _ _ h).mono fun n hh => ?_
      simp only [exec, hh]
      split
      · rename_i s' heq; cases heq; exact absurd h (hne s')
      · rfl
  | cond c a b iha ihb =>
    intro s r h
    simp only [xec] at h
    split at h
    · rename_i hc
      refine (iha _ _ h).mono fun n hh => ?_
      simp only [exec, hc]; exact hh
    · rename_i hc
      refine (ihb _ _ h).mono fun n hh => ?_
      simp only [exec, hc]; exact hh
    · cases h
  | block i a ih =>
    intro s r h
    simp only [xec] at h
    split at h
    · rename_i j s' hs
      refine (ih _ _ hs).mono fun n hh => ?_
      simp only [exec, hh]; exact h
    · rename_i hne
      refine (ih _ _ h).mono fun n hh => ?_
      simp only [exec, hh]
      split
      · rename_i j s' heq; cases heq; exact absurd h (hne j s')
      · rfl
  | loop a ih =>
    intro s r h
    simp only [xec] at h
    obtain ⟨k, hk⟩ := iterW_some.1 h
    obtain ⟨q, hq⟩ := iter_evn (c := fun n => exec G (callF G T E n) n a) (fun s r hs => ih s r hs) hk
    refine ⟨max q k, fun n hn => ?_⟩
    simp only [exec]
    exact iter_mono (fun s r h => h) (by omega) (hq n (by omega))
  | exit i => intro s r h; exact .of fun n => h
  | scope a ih => intro s r h; exact (ih s r h).mono fun n hh => hh
  | ret => intro s r h; exact .of fun n => h
/-- A function that is run. -/
theorem cfW_run (hE : MonoE E) {f : Nat} {m : MF} {a : List V} {o : Hp} {N : Nat} {s : St} {out : Out} (h0 : E f = none) (hT : T f = some m) (hnp : a.length = m.np)
    (hx : xec G (cfW G T E) m.body ⟨initEnv a, o, N⟩ = some (.ret, s) ∨ xec G (cfW G T E) m.body ⟨initEnv a, o, N⟩ = some (.normal, s)) (hf : finish m N s = some out) : cfW G T E f a o N = some out := by
  rcases hx with hx | hx
  all_goals
    obtain ⟨k, hk⟩ := xec_evn hE _ _ _ hx
    refine (cfW_some hE).2 ⟨k + 1, ?_⟩
    rw [callF_eq, h0]
    simp only [hT, hnp, if_true, hk k (Nat.le_refl _)]
    exact hf
theorem cfW_sound {P : Program} (hE : MonoE E) (hmix : P.follows .mixedOrders = true) (hT : ∀ f m, T f = some m → chkF P f m = true) (hX : ∀ f x, E f = some x → ExtOk P G f x) : CallOk P G (cfW G T E) := by
  intro g args o N out h
  obtain ⟨n, hn⟩ := (cfW_some hE).1 h
  exact callF_sound hmix hT hX n g args o N out hn
end
end Go.Proofs.Ytoccgkgdhobmfaa.Am
set_option linter.unusedVariables false
set_option linter.unusedSimpArgs false
namespace Go.Proofs.Ytoccgkgdhobmfaa.Am.Ru
open Go
abbrev dd : Hp := fun _ => .dead
abbrev Pst := Ex → St → Prop
/-- What waits behind a piece of code. -/
inductive Fr where
  | seq (b : MC)
  | block (id : Nat)
/-- The order of a region: given; of no matter; drawn, with what has been done so far. -/
inductive Md where
  | plain
  | free (l : List Nat) (n : Nat)
  | draw (p : List (Nat × Nat)) (l : List Nat) (fps : List Fp)
section
variable (G : Nat → Option (List V)) (cf : CallFn) (Φ : Pst)
def backD : List Fr → Ex → St → Prop
  | [], x, s => match x with
    | .panic v => ∀ s', Φ (.panic v) s'
    | x => Φ x s
  | .seq b :: k, x, s => match x with
    | .normal => ∃ y s', xec G cf b s = some (y, s') ∧ backD k y s'
    | x => backD k x s
  | .block id :: k, x, s => match x with
    | .exit j => if j = id then backD k .normal s else backD k (.exit j) s
    | x => backD k x s
def goD (c : MC) (k : List Fr) (s : St) : Prop := ∃ y s', xec G cf c s = some (y, s') ∧ backD G cf Φ k y s'
inductive R1 where
  | ok (e : Env) (o : Hp)
  | panic (v : V)
/-- Operations without their footprints. -/
def run1 (base cx : Nat) : List Op' → Env → Hp → Option R1
  | [], e, o => some (.ok e o)
  | p :: r, e, o =>
    match wantedV e p.guard with
    | some true =>
      match doOp G cf base cx e o p.i with
      | some (.act v u fp) => run1 base cx r (eputO e p.dst v) (hputs o u)
      | some (.panic v) => some (.panic v)
      | none => none
    | some false => run1 base cx r (eputO e p.dst (.tup [])) o
    | none => none
def opD (m : Md) (ops : List Op') (e : Env) (o : Hp) (b cx : Nat) (k : List Fr) : Prop :=
  match m with
  | .plain => match run1 G cf b cx ops e o with
    | some (.ok e' o') => backD G cf Φ k .normal ⟨e', o', cx⟩
    | some (.panic v) => ∀ s, Φ (.panic v) s
    | none => False
  | .free l n => match runOps G cf b cx ops e o (List.replicate n ⟨[], []⟩) with
    | some (.ok e' o' _) => backD G cf Φ k .normal ⟨e', o', cx⟩
    | some (.panic v fps') => l.contains fps'.length = true ∧ ∀ s, Φ (.panic v) s
    | none => False
  | .draw p l fps => match runOps G cf b cx ops e o fps with
    | some (.ok e' o' fps') => checkPairs fps' p = true ∧ backD G cf Φ k .normal ⟨e', o', cx⟩
    | some (.panic v fps') => (checkPairs fps' p && l.contains fps'.length) = true ∧ ∀ s, Φ (.panic v) s
    | none => False
end
theorem back_ex : ∃ f, f = backD := ⟨_, rfl⟩
theorem go_ex : ∃ f, f = goD := ⟨_, rfl⟩
theorem op_ex : ∃ f, f = opD := ⟨_, rfl⟩
/-- An outcome is handed to what waits. -/
noncomputable def back := Classical.choose back_ex
/-- Code runs, and then what waits. -/
noncomputable def go := Classical.choose go_ex
/-- Operations run, and then what waits. -/
noncomputable def op := Classical.choose op_ex
theorem back_eq : back = backD := Classical.choose_spec back_ex
theorem go_eq : go = goD := Classical.choose_spec go_ex
theorem op_eq : op = opD := Classical.choose_spec op_ex
def psh : Md → Fp → Md
  | .plain, _ => .plain
  | .free l n, _ => .free l (n + 1)
  | .draw p l fps, f => .draw p l (f :: fps)
theorem psh_plain (f : Fp) : psh .plain f = .plain := _root_.id rfl
theorem psh_free (l : List Nat) (n : Nat) (f : Fp) : psh (.free l n) f = .free l (n + 1) := _root_.id rfl
theorem psh_draw (p : List (Nat × Nat)) (l : List Nat) (fps : List Fp) (f : Fp) : psh (.draw p l fps) f = .draw p l (f :: fps) := _root_.id rfl
section
variable {G : Nat → Option (List V)} {cf : CallFn} {Φ : Pst} {k : List Fr} {s : St}
theorem back_nil_normal : back G cf Φ [] .normal s = Φ .normal s := by rw [back_eq]; rfl
theorem back_nil_exit (i : Nat) : back G cf Φ [] (.exit i) s = Φ (.exit i) s := by rw [back_eq]; rfl
theorem back_nil_ret : back G cf Φ [] .ret s = Φ .ret s := by rw [back_eq]; rfl
theorem backD_panic (v : V) : ∀ (k : List Fr) (s : St), backD G cf Φ k (.panic v) s = ∀ s', Φ (.panic v) s' := by
  intro k
  induction k with
  | nil => intro s; rfl
  | cons f k ih => intro s; cases f <;> exact ih s
theorem back_panic (v : V) : back G cf Φ k (.panic v) s = ∀ s', Φ (.panic v) s' := by rw [back_eq]; exact backD_panic v k s
theorem back_seq (b : MC) : back G cf Φ (.seq b :: k) .normal s = go G cf Φ b k s := by rw [back_eq, go_eq]; rfl
theorem back_seq_exit (b : MC) (i : Nat) : back G cf Φ (.seq b :: k) (.exit i) s = back G cf Φ k (.exit i) s := by rw [back_eq]; rfl
theorem back_seq_ret (b : MC) : back G cf Φ (.seq b :: k) .ret s = back G cf Φ k .ret s := by rw [back_eq]; rfl
theorem back_block (i : Nat) : back G cf Φ (.block i :: k) .normal s = back G cf Φ k .normal s := by rw [back_eq]; rfl
theorem back_block_exit (i j : Nat) : back G cf Φ (.block i :: k) (.exit j) s = if j = i then back G cf Φ k .normal s else back G cf Φ k (.exit j) s := by rw [back_eq]; rfl
theorem back_block_ret (i : Nat) : back G cf Φ (.block i :: k) .ret s = back G cf Φ k .ret s := by rw [back_eq]; rfl
theorem go_of {c : MC} {x : Ex} {s' : St} (h : xec G cf c s = some (x, s')) : go G cf Φ c k s = back G cf Φ k x s' := by
  rw [go_eq, back_eq]
  refine propext ⟨?_, ?_⟩
  · rintro ⟨y, t, h1, h2⟩; rw [h] at h1; cases h1; exact h2
  · intro h2; exact ⟨x, s', h, h2⟩
theorem go_skip : go G cf Φ .skip k s = back G cf Φ k .normal s := go_of rfl
theorem go_exit (i : Nat) : go G cf Φ (.exit i) k s = back G cf Φ k (.exit i) s := go_of rfl
theorem go_ret : go G cf Φ .ret k s = back G cf Φ k .ret s := go_of rfl
theorem go_scope (a : MC) : go G cf Φ (.scope a) k s = go G cf Φ a k s := by rw [go_eq]; rfl
theorem go_seq (a b : MC) : go G cf Φ (.seq a b) k s = go G cf Φ a (.seq b :: k) s := by
  rw [go_eq]
  refine propext ⟨?_, ?_⟩
  · rintro ⟨y, t, h1, h2⟩
    simp only [xec] at h1
    split at h1
    · rename_i s' hs; exact ⟨.normal, s', hs, y, t, h1, h2⟩
    · rename_i hne
      refine ⟨y, t, h1, ?_⟩
      cases y with
      | normal => exact absurd h1 (hne t)
      | _ => exact h2
  · rintro ⟨y, t, h1, h2⟩
    cases y with
    | normal => obtain ⟨z, u, h3, h4⟩ := h2; exact ⟨z, u, by simp only [xec, h1]; exact h3, h4⟩
    | exit i => exact ⟨_, t, by simp only [xec, h1], h2⟩
    | ret => exact ⟨_, t, by simp only [xec, h1], h2⟩
    | panic v => exact ⟨_, t, by simp only [xec, h1], h2⟩
theorem go_block (i : Nat) (a : MC) : go G cf Φ (.block i a) k s = go G cf Φ a (.block i :: k) s := by
  rw [go_eq]
  refine propext ⟨?_, ?_⟩
  · rintro ⟨y, t, h1, h2⟩
    simp only [xec] at h1
    split at h1
    · rename_i j s' hs
      refine ⟨.exit j, s', hs, ?_⟩
      show (if j = i then backD G cf Φ k .normal s' else backD G cf Φ k (.exit j) s')
      split at h1
      · rename_i hj; rw [if_pos hj]; cases h1; exact h2
      · rename_i hj; rw [if_neg hj]; cases h1; exact h2
    · rename_i hne
      refine ⟨y, t, h1, ?_⟩
      cases y with
      | exit j => exact absurd h1 (hne j t)
      | _ => exact h2
  · rintro ⟨y, t, h1, h2⟩
    cases y with
    | exit j =>
      have h2 : (if j = i then backD G cf Φ k .normal t else backD G cf Φ k (.exit j) t) := h2
      by_cases hj : j = i
      · rw [if_pos hj] at h2; exact ⟨_, t, by simp only [xec, h1, if_pos hj], h2⟩
      · rw [if_neg hj] at h2; exact ⟨_, t, by simp only [xec, h1, if_neg hj], h2⟩
    | normal => exact ⟨_, t, by simp only [xec, h1], h2⟩
    | ret => exact ⟨_, t, by simp only [xec, h1], h2⟩
    | panic v => exact ⟨_, t, by simp only [xec, h1], h2⟩
/-- A branch on a truth value. -/
def brn (v : V) (A B : Prop) : Prop := match v with | .bool true => A | .bool false => B | _ => False
def br (G : Nat → Option (List V)) (cf : CallFn) (Φ : Pst) (v : V) (a b : MC) (k : List Fr) (s : St) : Prop := brn v (go G cf Φ a k s) (go G cf Φ b k s)
theorem go_cond (c : Arg) (a b : MC) (e : Env) (o : Hp) (N : Nat) : go G cf Φ (.cond c a b) k ⟨e, o, N⟩ = br G cf Φ (evA G e c) a b k ⟨e, o, N⟩ := by
  unfold br
  rw [go_eq]
  unfold goD brn
  simp only [xec]
  generalize evA G e c = v
  cases v <;> (try (refine propext ⟨?_, False.elim⟩; rintro ⟨y, t, h1, h2⟩; cases h1))
  rename_i t
  cases t <;> rfl
theorem br_true (a b : MC) : br G cf Φ (.bool true) a b k s = go G cf Φ a k s := _root_.id rfl
theorem br_false (a b : MC) : br G cf Φ (.bool false) a b k s = go G cf Φ b k s := _root_.id rfl
def lpost (G : Nat → Option (List V)) (cf : CallFn) (Φ : Pst) (I : Nat → St → Prop) (n : Nat) (k : List Fr) : Pst
  | .normal, s => ∃ m, m < n ∧ I m s
  | x, s => back G cf Φ k x s
theorem lpost_normal (I : Nat → St → Prop) (n : Nat) : lpost G cf Φ I n k .normal s = ∃ m, m < n ∧ I m s := _root_.id rfl
theorem lpost_exit (I : Nat → St → Prop) (n i : Nat) : lpost G cf Φ I n k (.exit i) s = back G cf Φ k (.exit i) s := _root_.id rfl
theorem lpost_ret (I : Nat → St → Prop) (n : Nat) : lpost G cf Φ I n k .ret s = back G cf Φ k .ret s := _root_.id rfl
theorem lpost_panic (I : Nat → St → Prop) (n : Nat) (v : V) : lpost G cf Φ I n k (.panic v) s = back G cf Φ k (.panic v) s := _root_.id rfl
theorem go_loop {a : MC} (I : Nat → St → Prop) (n : Nat) (h0 : I n s) (hs : ∀ n s, I n s → go G cf (lpost G cf Φ I n k) a [] s) : go G cf Φ (.loop a) k s := by
  rw [go_eq]
  rw [go_eq] at hs
  have key : ∀ n s, I n s → ∃ y s', iterW (xec G cf a) s = some (y, s') ∧ backD G cf Φ k y s' := by
    intro n
    induction n using Nat.strongRecOn with
    | _ n ih =>
      intro s hI
      obtain ⟨y, t, h1, h2⟩ := hs n s hI
      cases y with
      | normal =>
        have h2 : lpost G cf Φ I n k .normal t := h2
        obtain ⟨m, hm, hI'⟩ := h2
        obtain ⟨z, u, h3, h4⟩ := ih m hm t hI'
        exact ⟨z, u, by rw [iterW_step h1]; exact h3, h4⟩
      | exit i =>
        have h2 : lpost G cf Φ I n k (.exit i) t := h2
        rw [lpost_exit, back_eq] at h2
        exact ⟨_, t, iterW_end h1 (by simp), h2⟩
      | ret =>
        have h2 : lpost G cf Φ I n k .ret t := h2
        rw [lpost_ret, back_eq] at h2
        exact ⟨_, t, iterW_end h1 (by simp), h2⟩
      | panic v =>
        have h2 : ∀ s', lpost G cf Φ I n k (.panic v) s' := h2
        have h3 := h2 t
        rw [lpost_panic, back_eq] at h3
        exact ⟨_, t, iterW_end h1 (by simp), h3⟩
  obtain ⟨y, t, h1, h2⟩ := key n s h0
  exact ⟨y, t, h1, h2⟩
theorem run1_map {b cx : Nat} : ∀ (ops : List Op') (e : Env) (o : Hp) (fps : List Fp), (runOps G cf b cx ops e o fps).map (fun r => match r with | .ok e o _ => R1.ok e o | .panic v _ => R1.panic v) = run1 G cf b cx ops e o := by
  intro ops
  induction ops with
  | nil => intro e o fps; rfl
  | cons p r ih =>
    intro e o fps
    simp only [runOps, run1]
    cases wantedV e p.guard with
    | none => rfl
    | some t =>
      cases t with
      | false => exact ih _ _ _
      | true =>
        cases doOp G cf b cx e o p.i with
        | none => rfl
        | some d =>
          cases d with
          | act v u fp => exact ih _ _ _
          | panic v => rfl
/-- Only the number of what was done before counts. -/
theorem runOps_len {b cx : Nat} : ∀ (ops : List Op') (e : Env) (o : Hp) (f g : List Fp), f.length = g.length →
    (runOps G cf b cx ops e o f).map (fun r => match r with | .ok e o l => (Sum.inl (e, o, l.length) : (Env × Hp × Nat) ⊕ (V × Nat)) | .panic v l => .inr (v, l.length)) =
    (runOps G cf b cx ops e o g).map (fun r => match r with | .ok e o l => (Sum.inl (e, o, l.length) : (Env × Hp × Nat) ⊕ (V × Nat)) | .panic v l => .inr (v, l.length)) := by
  intro ops
  induction ops with
  | nil => intro e o f g h; simp [runOps, h]
  | cons p r ih =>
    intro e o f g h
    simp only [runOps]
    cases wantedV e p.guard with
    | none => rfl
    | some t =>
      cases t with
      | false => exact ih _ _ _ _ (by simp [h])
      | true =>
        cases doOp G cf b cx e o p.i with
        | none => rfl
        | some d =>
          cases d with
          | act v u fp => exact ih _ _ _ _ (by simp [h])
          | panic v => simp [h]
theorem opD_free {b cx : Nat} (l : List Nat) (ops : List Op') (e : Env) (o : Hp) (f g : List Fp) (h : f.length = g.length) :
    (match runOps G cf b cx ops e o f with
    | some (.ok e' o' _) => backD G cf Φ k .normal ⟨e', o', cx⟩
    | some (.panic v fps') => l.contains fps'.length = true ∧ ∀ s, Φ (.panic v) s
    | none => False) =
    (match runOps G cf b cx ops e o g with
    | some (.ok e' o' _) => backD G cf Φ k .normal ⟨e', o', cx⟩
    | some (.panic v fps') => l.contains fps'.length = true ∧ ∀ s, Φ (.panic v) s
    | none => False) := by
  have hl := runOps_len (G := G) (cf := cf) (b := b) (cx := cx) ops e o f g h
  cases h1 : runOps G cf b cx ops e o f with
  | none => cases h2 : runOps G cf b cx ops e o g with
    | none => rfl
    | some y => rw [h1, h2] at hl; cases hl
  | some x => cases h2 : runOps G cf b cx ops e o g with
    | none => rw [h1, h2] at hl; cases hl
    | some y =>
      rw [h1, h2] at hl
      cases x with
      | ok e1 o1 l1 => cases y with
        | ok e2 o2 l2 => simp at hl; obtain ⟨rfl, rfl, _⟩ := hl; rfl
        | panic v2 l2 => simp at hl
      | panic v1 l1 => cases y with
        | ok e2 o2 l2 => simp at hl
        | panic v2 l2 => simp at hl; obtain ⟨rfl, h3⟩ := hl; simp only [h3]
theorem go_region (n : Nat) (ops : List Op') (e : Env) (o : Hp) (N : Nat) : go G cf Φ (.region none n ops) k ⟨e, o, N⟩ = op G cf Φ .plain ops e o N (N + n) k := by
  rw [go_eq, op_eq]
  simp only [goD, xec, runRegion, opD]
  rw [← run1_map ops e o []]
  cases runOps G cf N (N + n) ops e o [] with
  | none => exact propext ⟨(fun ⟨_, _, h, _⟩ => by cases h), False.elim⟩
  | some r =>
    cases r with
    | ok e' o' fps => exact propext ⟨fun ⟨_, _, h, h2⟩ => (by cases h; exact h2), fun h => ⟨_, _, rfl, h⟩⟩
    | panic v fps => exact propext ⟨fun ⟨_, _, h, h2⟩ => (by cases h; rw [backD_panic] at h2; exact h2), fun h => ⟨_, _, rfl, by rw [backD_panic]; exact h⟩⟩
theorem go_drawn (p : List (Nat × Nat)) (l : List Nat) (n : Nat) (ops : List Op') (e : Env) (o : Hp) (N : Nat) : go G cf Φ (.region (some (p, l)) n ops) k ⟨e, o, N⟩ = op G cf Φ (.draw p l []) ops e o N (N + n) k := by
  rw [go_eq, op_eq]
  simp only [goD, xec, runRegion, opD]
  cases runOps G cf N (N + n) ops e o [] with
  | none => exact propext ⟨(fun ⟨_, _, h, _⟩ => by cases h), False.elim⟩
  | some r =>
    cases r with
    | ok e' o' fps =>
      show (∃ y s', (if drawOK (some (p, l)) fps = true then some (Ex.normal, (⟨e', o', N + n⟩ : St)) else none) = some (y, s') ∧ backD G cf Φ k y s') = (drawOK (some (p, l)) fps = true ∧ _)
      by_cases hc : drawOK (some (p, l)) fps = true
      · rw [if_pos hc]; exact propext ⟨fun ⟨_, _, h, h2⟩ => (by cases h; exact ⟨hc, h2⟩), fun h => ⟨_, _, rfl, h.2⟩⟩
      · rw [if_neg hc]; exact propext ⟨(fun ⟨_, _, h, _⟩ => by cases h), (fun h => absurd h.1 hc)⟩
    | panic v fps =>
      show (∃ y s', (if drawPan (some (p, l)) fps = true then some (Ex.panic v, (⟨e, o, N⟩ : St)) else none) = some (y, s') ∧ backD G cf Φ k y s') = (drawPan (some (p, l)) fps = true ∧ _)
      by_cases hc : drawPan (some (p, l)) fps = true
      · rw [if_pos hc]; exact propext ⟨fun ⟨_, _, h, h2⟩ => (by cases h; rw [backD_panic] at h2; exact ⟨hc, h2⟩), fun h => ⟨_, _, rfl, by rw [backD_panic]; exact h.2⟩⟩
      · rw [if_neg hc]; exact propext ⟨(fun ⟨_, _, h, _⟩ => by cases h), (fun h => absurd h.1 hc)⟩
theorem go_draw (p : Nat × Nat) (ps : List (Nat × Nat)) (l : List Nat) (n : Nat) (ops : List Op') (e : Env) (o : Hp) (N : Nat) : go G cf Φ (.region (some (p :: ps, l)) n ops) k ⟨e, o, N⟩ = op G cf Φ (.draw (p :: ps) l []) ops e o N (N + n) k := go_drawn _ l n ops e o N
theorem go_free (l : List Nat) (n : Nat) (ops : List Op') (e : Env) (o : Hp) (N : Nat) : go G cf Φ (.region (some ([], l)) n ops) k ⟨e, o, N⟩ = op G cf Φ (.free l 0) ops e o N (N + n) k := by
  rw [go_drawn, op_eq]
  simp only [opD]
  show _ = (match runOps G cf N (N + n) ops e o [] with
    | some (.ok e' o' _) => backD G cf Φ k .normal ⟨e', o', N + n⟩
    | some (.panic v fps') => l.contains fps'.length = true ∧ ∀ s, Φ (.panic v) s
    | none => False)
  cases runOps G cf N (N + n) ops e o [] with
  | none => rfl
  | some r =>
    cases r with
    | ok e' o' fps => exact propext ⟨fun h => h.2, fun h => ⟨rfl, h⟩⟩
    | panic v fps => simp only [checkPairs, Bool.true_and]
section
variable {e : Env} {o : Hp} {b cx : Nat}
theorem op_nil : op G cf Φ .plain [] e o b cx k = back G cf Φ k .normal ⟨e, o, cx⟩ := by rw [op_eq, back_eq]; rfl
theorem op_nil_free (l : List Nat) (n : Nat) : op G cf Φ (.free l n) [] e o b cx k = back G cf Φ k .normal ⟨e, o, cx⟩ := by rw [op_eq, back_eq]; rfl
theorem op_nil_draw (p : List (Nat × Nat)) (l : List Nat) (fps : List Fp) : op G cf Φ (.draw p l fps) [] e o b cx k = (checkPairs fps.reverse p = true ∧ back G cf Φ k .normal ⟨e, o, cx⟩) := by rw [op_eq, back_eq]; rfl
/-- A panic. -/
def panOut (Φ : Pst) (v : V) : Md → Prop
  | .plain => ∀ s, Φ (.panic v) s
  | .free l n => l.contains n = true ∧ ∀ s, Φ (.panic v) s
  | .draw p l fps => (checkPairs fps.reverse p && l.contains fps.reverse.length) = true ∧ ∀ s, Φ (.panic v) s
theorem panOut_plain (v : V) : panOut Φ v .plain = ∀ s, Φ (.panic v) s := _root_.id rfl
theorem panOut_free (v : V) (l : List Nat) (n : Nat) : panOut Φ v (.free l n) = (l.contains n = true ∧ ∀ s, Φ (.panic v) s) := _root_.id rfl
theorem panOut_draw (v : V) (p : List (Nat × Nat)) (l : List Nat) (fps : List Fp) : panOut Φ v (.draw p l fps) = ((checkPairs fps.reverse p && l.contains fps.reverse.length) = true ∧ ∀ s, Φ (.panic v) s) := _root_.id rfl
theorem op_act {m : Md} {d : Option Nat} {i : I} {r : List Op'} {v : V} {u : List (Nat × AObj)} {fp : Fp} (h : doOp G cf b cx e o i = some (.act v u fp)) :
    op G cf Φ m (⟨d, i, none⟩ :: r) e o b cx k = op G cf Φ (psh m fp) r (eputO e d v) (hputs o u) b cx k := by
  rw [op_eq]
  cases m with
  | plain => simp only [opD, psh, run1, wantedV, h]
  | free l n => simp only [opD, psh, runOps, wantedV, h]; exact opD_free l r _ _ _ _ (by simp)
  | draw p l fps => simp only [opD, psh, runOps, wantedV, h]
theorem op_pan {m : Md} {d : Option Nat} {i : I} {r : List Op'} {v : V} (h : doOp G cf b cx e o i = some (.panic v)) :
    op G cf Φ m (⟨d, i, none⟩ :: r) e o b cx k = panOut Φ v m := by
  unfold panOut
  rw [op_eq]
  cases m with
  | plain => simp only [opD, run1, wantedV, h]
  | free l n => simp only [opD, runOps, wantedV, h, List.length_reverse, List.length_replicate]
  | draw p l fps => simp only [opD, runOps, wantedV, h]
theorem op_none {m : Md} {d : Option Nat} {i : I} {r : List Op'} (h : doOp G cf b cx e o i = none) :
    op G cf Φ m (⟨d, i, none⟩ :: r) e o b cx k = False := by
  rw [op_eq]
  cases m with
  | plain => simp only [opD, run1, wantedV, h]
  | free l n => simp only [opD, runOps, wantedV, h]
  | draw p l fps => simp only [opD, runOps, wantedV, h]
/-- An operation that is done only where a truth value is as asked. -/
def opg (G : Nat → Option (List V)) (cf : CallFn) (Φ : Pst) (g : V) (c : Bool) (m : Md) (d : Option Nat) (i : I) (r : List Op') (e : Env) (o : Hp) (b cx : Nat) (k : List Fr) : Prop :=
  match g with
  | .bool x => if x == c then op G cf Φ m (⟨d, i, none⟩ :: r) e o b cx k else op G cf Φ (psh m ⟨[], []⟩) r (eputO e d (.tup [])) o b cx k
  | .tup _ => op G cf Φ (psh m ⟨[], []⟩) r (eputO e d (.tup [])) o b cx k
  | _ => False
theorem op_guard {m : Md} {d : Option Nat} {i : I} {r : List Op'} {t : Nat} {c : Bool} :
    op G cf Φ m (⟨d, i, some (t, c)⟩ :: r) e o b cx k = opg G cf Φ (e t) c m d i r e o b cx k := by
  unfold opg
  rw [op_eq]
  cases h : e t
  case bool x =>
    simp only
    cases m with
    | plain => simp only [opD, psh, run1, wantedV, h]; cases x == c <;> rfl
    | free l n =>
      simp only [opD, psh, runOps, wantedV, h]
      cases x == c
      · exact opD_free l r _ _ _ _ (by simp)
      · rfl
    | draw p l fps => simp only [opD, psh, runOps, wantedV, h]; cases x == c <;> rfl
  case tup vs =>
    simp only
    cases m with
    | plain => simp only [opD, psh, run1, wantedV, h]
    | free l n => simp only [opD, psh, runOps, wantedV, h]; exact opD_free l r _ _ _ _ (by simp)
    | draw p l fps => simp only [opD, psh, runOps, wantedV, h]
  all_goals (cases m <;> simp only [opD, run1, runOps, wantedV, h])
theorem opg_tt {m : Md} {d : Option Nat} {i : I} {r : List Op'} : opg G cf Φ (.bool true) true m d i r e o b cx k = op G cf Φ m (⟨d, i, none⟩ :: r) e o b cx k := _root_.id rfl
theorem opg_ff {m : Md} {d : Option Nat} {i : I} {r : List Op'} : opg G cf Φ (.bool false) false m d i r e o b cx k = op G cf Φ m (⟨d, i, none⟩ :: r) e o b cx k := _root_.id rfl
theorem opg_tf {m : Md} {d : Option Nat} {i : I} {r : List Op'} : opg G cf Φ (.bool true) false m d i r e o b cx k = op G cf Φ (psh m ⟨[], []⟩) r (eputO e d (.tup [])) o b cx k := _root_.id rfl
theorem opg_ft {m : Md} {d : Option Nat} {i : I} {r : List Op'} : opg G cf Φ (.bool false) true m d i r e o b cx k = op G cf Φ (psh m ⟨[], []⟩) r (eputO e d (.tup [])) o b cx k := _root_.id rfl
theorem opg_u {m : Md} {d : Option Nat} {i : I} {r : List Op'} {c : Bool} {vs : List V} : opg G cf Φ (.tup vs) c m d i r e o b cx k = op G cf Φ (psh m ⟨[], []⟩) r (eputO e d (.tup [])) o b cx k := _root_.id rfl
/-- What comes behind an operation. -/
def on (G : Nat → Option (List V)) (cf : CallFn) (Φ : Pst) (a : Option Act) (m : Md) (d : Option Nat) (r : List Op') (e : Env) (o : Hp) (b cx : Nat) (k : List Fr) : Prop :=
  match a with
  | some a => op G cf Φ (psh m ⟨a.rd, ids a.ups⟩) r (eputO e d a.val) (hputs o a.ups) b cx k
  | none => False
theorem on_some {m : Md} {d : Option Nat} {r : List Op'} (v : V) (u : List (Nat × AObj)) (rd : List Nat) :
    on G cf Φ (some ⟨v, u, rd⟩) m d r e o b cx k = op G cf Φ (psh m ⟨rd, ids u⟩) r (eputO e d v) (hputs o u) b cx k := _root_.id rfl
theorem on_ok {m : Md} {d : Option Nat} {r : List Op'} (v : V) :
    on G cf Φ (ok v) m d r e o b cx k = op G cf Φ (psh m ⟨[], []⟩) r (eputO e d v) o b cx k := _root_.id rfl
theorem on_ok1 {d : Nat} {r : List Op'} (v : V) :
    on G cf Φ (ok v) .plain (some d) r e o b cx k = op G cf Φ .plain r (eput e d v) o b cx k := _root_.id rfl
theorem on_okV {m : Md} {d : Option Nat} {r : List Op'} (v : V) :
    on G cf Φ (okV (some v)) m d r e o b cx k = op G cf Φ (psh m ⟨[], []⟩) r (eputO e d v) o b cx k := _root_.id rfl
theorem on_okV1 {d : Nat} {r : List Op'} (v : V) :
    on G cf Φ (okV (some v)) .plain (some d) r e o b cx k = op G cf Φ .plain r (eput e d v) o b cx k := _root_.id rfl
def isCall : I → Bool
  | .call _ _ _ _ => true
  | .panic _ => true
  | .flit _ _ _ => true
  | _ => false
theorem op_step {m : Md} {d : Option Nat} {i : I} {r : List Op'} (hi : isCall i = false) :
    op G cf Φ m (⟨d, i, none⟩ :: r) e o b cx k = on G cf Φ (stepI G e o b i) m d r e o b cx k := by
  have hd : doOp G cf b cx e o i = (stepI G e o b i).map fun a => .act a.val a.ups ⟨a.rd, ids a.ups⟩ := by
    cases i <;> first | rfl | cases hi
  cases h : stepI G e o b i with
  | none => rw [h] at hd; rw [op_none hd]; rfl
  | some a => rw [h] at hd; rw [op_act hd]; rfl
end
end
def e2 (T : Nat) (l t : Env) : Env := fun s => if s < T then l s else t s
theorem e2_self (T : Nat) (e : Env) : e2 T e e = e := by funext s; unfold e2; split <;> rfl
theorem e2_ap (T : Nat) (l t : Env) (s : Nat) : e2 T l t s = if s < T then l s else t s := _root_.id rfl
theorem eput_e2 (T : Nat) (l t : Env) (d : Nat) (v : V) : eput (e2 T l t) d v = if d < T then e2 T (eput l d v) t else e2 T l (eput t d v) := by
  funext s
  by_cases h : d < T
  · rw [if_pos h]
    unfold e2 eput
    by_cases hs : s = d
    · subst hs; simp [h]
    · simp [hs]
  · rw [if_neg h]
    unfold e2 eput
    by_cases hs : s = d
    · subst hs; simp [h]
    · simp [hs]
section
variable {G : Nat → Option (List V)} {cf : CallFn} {Φ : Pst} {k : List Fr} {s : St}
theorem go_loop2 {a : MC} (T : Nat) (I : Nat → St → Prop) (n : Nat) (h0 : I n s) (hs : ∀ n e o N, I n ⟨e, o, N⟩ → go G cf (lpost G cf Φ I n k) a [] ⟨e2 T e e, o, N⟩) : go G cf Φ (.loop a) k s :=
  go_loop I n h0 fun n s hI => by have := hs n s.e s.o s.N hI; rw [e2_self] at this; exact this
end
end Go.Proofs.Ytoccgkgdhobmfaa.Am.Ru
set_option linter.unusedVariables false
set_option linter.unusedSimpArgs false
namespace Go.Proofs.Ytoccgkgdhobmfaa.Am.Ru
open Go
def vPick (c x y : V) : Option Act := match c with | .bool t => ok (if t then x else y) | _ => none
def vBox (i : Nat) (x : V) : Option Act := if okCells x then some ⟨.ptr i 0, [(i, .box x.cells)], []⟩ else none
def vBuild (x : Option (List V)) : Option Act := okV (x.map .agg)
def fill1 (off n : Nat) (v : V) (cs : List V) : Option (List V) := if v.cells.length = n ∧ okCells v = true then splice off v.cells cs else none
def fpR (G : Nat → Option (List V)) (e : Env) (r : List (Nat × Nat × Arg)) (x : Option (List V)) : Option (List V) := x.bind (fillParts G e r)
def fillE (j esz : Nat) (v : V) (xs : List (List V)) : Option (List (List V)) := if v.cells.length = esz ∧ j < xs.length ∧ okCells v = true then some (xs.set j v.cells) else none
def feR (G : Nat → Option (List V)) (e : Env) (esz : Nat) (r : List (Nat × Arg)) (x : Option (List (List V))) : Option (List (List V)) := x.bind (fillElems G e esz r)
def vLit (i esz : Nat) (x : Option (List (List V))) : Option Act := x.map fun xs => ⟨.vsl i 0 xs.length, [(i, .vec esz xs)], []⟩
def vIlit (esz : Nat) (x : Option (List (List V))) : Option Act := okV ((x.bind nrmLL).map (.sl esz))
def vLoad (o : Hp) (agg : Option Nat) (a : V) : Option Act := (peek o (agg.getD 1) a).bind fun r => (aggOf agg r.1).map fun v => ⟨v, [], r.2⟩
def vStore (o : Hp) (n : Nat) (a x : V) : Option Act := if x.cells.length = n ∧ okCells x = true then (poke o x.cells a).map fun u => ⟨.junk, u, []⟩ else none
def vNil (x : V) : Option Act := match x with
    | .ptr i off => ok (.ptr i off)
    | .ept i j off => ok (.ept i j off)
    | .imp c off => ok (.imp c off)
    | .fn f c => ok (.fn f c)
    | _ => none
def negb (neg : Bool) (b : Option Bool) : Option V := b.map fun b => .bool (if neg then !b else b)
def vEqv (neg : Bool) (ks : List Nat) (x y : V) : Option Act := match x, y with
    | .agg a, .agg b => okV (negb neg (eqCells ks a b))
    | _, _ => none
def vEqb (neg : Bool) (x y : V) : Option Act := match x, y with
    | .bool a, .bool b => ok (.bool (if neg then !(a == b) else (a == b)))
    | _, _ => none
def vConvInt (k : IntKind) (x : V) : Option Act := match x with | .int _ n => ok (.int k (k.wrap n)) | _ => none
def vConvStr (o : Hp) (x : V) : Option Act := if isStrV x then none else (elemsOf o 1 x).bind fun r => (bytesOf r.1).map fun s => ⟨.str s, [], r.2⟩
def vConvBytes (x : V) : Option Act := match x with | .str s => ok (.sl 1 (bytesV s)) | _ => none
def vConvSl (o : Hp) (x : V) : Option Act := match x with
    | .vsl i st len => match o i with
      | .vec s xs => if 0 < len then some ⟨.vsl i st len, [(i, .vec s xs)], []⟩ else none
      | _ => none
    | _ => none
def vArrPtr (n : Nat) (x : V) : Option Act := match x with | .bsl i off len _ => if 0 < n ∧ n ≤ len then ok (.ptr i off) else none | _ => none
def optV (d : Nat) : Option V → Option Nat
  | none => some d
  | some x => asN x
def vSliceS (x : V) (lo hi : Option V) : Option Act := match x with
    | .str s => (optV 0 lo).bind fun l => (optV s.length hi).bind fun h => if l ≤ h ∧ h ≤ s.length then ok (.str ((s.drop l).take (h - l))) else none
    | _ => none
def vSliceL (o : Hp) (esz : Nat) (x : V) (lo hi : Option V) : Option Act := (lenOf x).bind fun n => (optV 0 lo).bind fun l => (optV n hi).bind fun h => sliceElems o esz l h x
def vSliceA (n esz : Nat) (x : V) (lo hi : Option V) : Option Act := match x with
    | .ptr i off => (optV 0 lo).bind fun l => (optV n hi).bind fun h => if l ≤ h ∧ h ≤ n then ok (.bsl i (off + l * esz) (h - l) esz) else none
    | _ => none
def vFieldAddr (off : Nat) (x : V) : Option Act := match x with
    | .ptr i a => ok (.ptr i (a + off))
    | .ept i j a => ok (.ept i j (a + off))
    | .imp c a => ok (.imp c (a + off))
    | _ => none
def vField (off : Nat) (agg : Option Nat) (x : V) : Option Act := match x with
    | .agg cs => okV ((cut off (agg.getD 1) cs).bind (aggOf agg))
    | _ => none
def vIndexAddrA (n esz : Nat) (x i : V) : Option Act := (asN i).bind fun j => if j < n then (match x with
    | .ptr i a => ok (.ptr i (a + j * esz))
    | .ept i k a => ok (.ept i k (a + j * esz))
    | .imp c a => ok (.imp c (a + j * esz))
    | _ => none) else none
def vIndexAddrL (o : Hp) (esz : Nat) (x i : V) : Option Act := (asN i).bind fun j => idxL o esz j x
def vIndexS (x i : V) : Option Act := (asN i).bind fun j => match x with
    | .str s => (s[j]?).bind fun b => ok (.int .u8 b.toNat)
    | _ => none
def vIndexA (n esz : Nat) (agg : Bool) (x i : V) : Option Act := (asN i).bind fun j => match x with
    | .agg cs => if j < n then okV ((cut (j * esz) esz cs).bind (aggOf (if agg then some esz else none))) else none
    | _ => none
def vAppend (o : Hp) (id esz eb : Nat) (s x : V) : Option Act := (elemsOf o esz x).bind fun r => appendTo o id esz eb r.1 r.2 s
def vCopy (o : Hp) (esz : Nat) (d s : V) : Option Act := (elemsOf o esz s).bind fun r => match d with
    | .bsl i off len t => if t = esz ∧ !r.2.contains i then (match o i with
      | .box cs => (splice off (r.1.take len).flatten cs).map fun c => ⟨lenB (min r.1.length len), [(i, .box c)], r.2⟩
      | _ => none) else none
    | _ => none
def vLen (x : V) : Option Act := okV ((lenOf x).map lenB)
def vLenS (x : V) : Option Act := match x with | .str s => ok (lenB s.length) | _ => none
def vCap0 (x : V) : Option Act := match x with | .nils _ => ok (lenB 0) | _ => none
def vMax (l : List V) : Option Act := match l with | a :: r => okV (foldV maxI a r) | [] => none
def vMin (l : List V) : Option Act := match l with | a :: r => okV (foldV minI a r) | [] => none
def vMake (i esz eb : Nat) (zero : List V) (len cap : V) : Option Act := (asN len).bind fun n => (asN cap).bind fun c =>
      if n ≤ c ∧ room c eb then some ⟨.vsl i 0 n, [(i, .vec esz (List.replicate n zero))], []⟩ else none
def vExtract (x : V) (i : Nat) : Option Act := match x with | .tup vs => okV (vs[i]?) | _ => none
section
variable {G : Nat → Option (List V)} {cf : CallFn} {Φ : Pst} {k : List Fr} {e : Env} {o : Hp} {b cx : Nat} {m : Md} {d : Option Nat} {r : List Op'}
theorem op_mov (x : Arg) : op G cf Φ m (⟨d, .mov x, none⟩ :: r) e o b cx k = on G cf Φ (ok (evA G e x)) m d r e o b cx k := op_step rfl
theorem op_pick (c x y : Arg) : op G cf Φ m (⟨d, .pick c x y, none⟩ :: r) e o b cx k = on G cf Φ (vPick (evA G e c) (evA G e x) (evA G e y)) m d r e o b cx k := op_step rfl
theorem op_alloc (n : Nat) (z : List V) : op G cf Φ m (⟨d, .alloc n z, none⟩ :: r) e o b cx k = on G cf Φ (some ⟨.ptr (b + n) 0, [(b + n, .box z)], []⟩) m d r e o b cx k := op_step rfl
theorem op_box (n : Nat) (x : Arg) : op G cf Φ m (⟨d, .box n x, none⟩ :: r) e o b cx k = on G cf Φ (vBox (b + n) (evA G e x)) m d r e o b cx k := op_step rfl
theorem op_build (z : List V) (ps : List (Nat × Nat × Arg)) : op G cf Φ m (⟨d, .build z ps, none⟩ :: r) e o b cx k = on G cf Φ (vBuild (fillParts G e ps z)) m d r e o b cx k := op_step rfl
theorem op_lit (n esz : Nat) (z : List (List V)) (ps : List (Nat × Arg)) : op G cf Φ m (⟨d, .lit n esz z ps, none⟩ :: r) e o b cx k = on G cf Φ (vLit (b + n) esz (fillElems G e esz ps z)) m d r e o b cx k := op_step rfl
theorem op_ilit (esz : Nat) (z : List (List V)) (ps : List (Nat × Arg)) : op G cf Φ m (⟨d, .ilit esz z ps, none⟩ :: r) e o b cx k = on G cf Φ (vIlit esz (fillElems G e esz ps z)) m d r e o b cx k := op_step rfl
theorem op_load (agg : Option Nat) (a : Arg) : op G cf Φ m (⟨d, .load agg a, none⟩ :: r) e o b cx k = on G cf Φ (vLoad o agg (evA G e a)) m d r e o b cx k := op_step rfl
theorem op_store (n : Nat) (a x : Arg) : op G cf Φ m (⟨d, .store n a x, none⟩ :: r) e o b cx k = on G cf Φ (vStore o n (evA G e a) (evA G e x)) m d r e o b cx k := op_step rfl
theorem op_nilCheck (x : Arg) : op G cf Φ m (⟨d, .nilCheck x, none⟩ :: r) e o b cx k = on G cf Φ (vNil (evA G e x)) m d r e o b cx k := op_step rfl
theorem op_bin (p : BinOp) (x y : Arg) : op G cf Φ m (⟨d, .bin p x y, none⟩ :: r) e o b cx k = on G cf Φ (okV (binV p (evA G e x) (evA G e y))) m d r e o b cx k := op_step rfl
theorem op_eqv (neg : Bool) (ks : List Nat) (x y : Arg) : op G cf Φ m (⟨d, .eqv neg ks x y, none⟩ :: r) e o b cx k = on G cf Φ (vEqv neg ks (evA G e x) (evA G e y)) m d r e o b cx k := op_step rfl
theorem op_eqb (neg : Bool) (x y : Arg) : op G cf Φ m (⟨d, .eqb neg x y, none⟩ :: r) e o b cx k = on G cf Φ (vEqb neg (evA G e x) (evA G e y)) m d r e o b cx k := op_step rfl
theorem op_eqp (neg : Bool) (x y : Arg) : op G cf Φ m (⟨d, .eqp neg x y, none⟩ :: r) e o b cx k = on G cf Φ (okV (negb neg (eqP (evA G e x) (evA G e y)))) m d r e o b cx k := op_step rfl
theorem op_un (u : UnOp) (x : Arg) : op G cf Φ m (⟨d, .un u x, none⟩ :: r) e o b cx k = on G cf Φ (okV (unV u (evA G e x))) m d r e o b cx k := op_step rfl
theorem op_convInt (q : IntKind) (x : Arg) : op G cf Φ m (⟨d, .convInt q x, none⟩ :: r) e o b cx k = on G cf Φ (vConvInt q (evA G e x)) m d r e o b cx k := op_step rfl
theorem op_convStr (x : Arg) : op G cf Φ m (⟨d, .convStr x, none⟩ :: r) e o b cx k = on G cf Φ (vConvStr o (evA G e x)) m d r e o b cx k := op_step rfl
theorem op_convBytes (x : Arg) : op G cf Φ m (⟨d, .convBytes x, none⟩ :: r) e o b cx k = on G cf Φ (vConvBytes (evA G e x)) m d r e o b cx k := op_step rfl
theorem op_convSl (x : Arg) : op G cf Φ m (⟨d, .convSl x, none⟩ :: r) e o b cx k = on G cf Φ (vConvSl o (evA G e x)) m d r e o b cx k := op_step rfl
theorem op_arrPtr (n : Nat) (x : Arg) : op G cf Φ m (⟨d, .arrPtr n x, none⟩ :: r) e o b cx k = on G cf Φ (vArrPtr n (evA G e x)) m d r e o b cx k := op_step rfl
theorem op_mkIface (t : Nat) (x : Arg) : op G cf Φ m (⟨d, .mkIface t x, none⟩ :: r) e o b cx k = on G cf Φ (ok (.iface t (evA G e x))) m d r e o b cx k := op_step rfl
theorem op_mkFn (f : Nat) (xs : List Arg) : op G cf Φ m (⟨d, .mkFn f xs, none⟩ :: r) e o b cx k = on G cf Φ (ok (.fn f (xs.map (evA G e)))) m d r e o b cx k := op_step rfl
theorem optN_map (n : Nat) (x : Option Arg) : optN G e n x = optV n (x.map (evA G e)) := by cases x <;> rfl
theorem op_sliceS (x : Arg) (lo hi : Option Arg) : op G cf Φ m (⟨d, .sliceS x lo hi, none⟩ :: r) e o b cx k = on G cf Φ (vSliceS (evA G e x) (lo.map (evA G e)) (hi.map (evA G e))) m d r e o b cx k := by
  rw [op_step rfl]; simp only [stepI, vSliceS, optN_map]; rfl
theorem op_sliceL (esz : Nat) (x : Arg) (lo hi : Option Arg) : op G cf Φ m (⟨d, .sliceL esz x lo hi, none⟩ :: r) e o b cx k = on G cf Φ (vSliceL o esz (evA G e x) (lo.map (evA G e)) (hi.map (evA G e))) m d r e o b cx k := by
  rw [op_step rfl]; simp only [stepI, vSliceL, optN_map]
theorem op_sliceA (n esz : Nat) (x : Arg) (lo hi : Option Arg) : op G cf Φ m (⟨d, .sliceA n esz x lo hi, none⟩ :: r) e o b cx k = on G cf Φ (vSliceA n esz (evA G e x) (lo.map (evA G e)) (hi.map (evA G e))) m d r e o b cx k := by
  rw [op_step rfl]; simp only [stepI, vSliceA, optN_map]; rfl
theorem op_fieldAddr (off : Nat) (x : Arg) : op G cf Φ m (⟨d, .fieldAddr off x, none⟩ :: r) e o b cx k = on G cf Φ (vFieldAddr off (evA G e x)) m d r e o b cx k := op_step rfl
theorem op_field (off : Nat) (agg : Option Nat) (x : Arg) : op G cf Φ m (⟨d, .field off agg x, none⟩ :: r) e o b cx k = on G cf Φ (vField off agg (evA G e x)) m d r e o b cx k := op_step rfl
theorem op_indexAddrA (n esz : Nat) (x i : Arg) : op G cf Φ m (⟨d, .indexAddrA n esz x i, none⟩ :: r) e o b cx k = on G cf Φ (vIndexAddrA n esz (evA G e x) (evA G e i)) m d r e o b cx k := op_step rfl
theorem op_indexAddrL (esz : Nat) (x i : Arg) : op G cf Φ m (⟨d, .indexAddrL esz x i, none⟩ :: r) e o b cx k = on G cf Φ (vIndexAddrL o esz (evA G e x) (evA G e i)) m d r e o b cx k := op_step rfl
theorem op_indexS (x i : Arg) : op G cf Φ m (⟨d, .indexS x i, none⟩ :: r) e o b cx k = on G cf Φ (vIndexS (evA G e x) (evA G e i)) m d r e o b cx k := op_step rfl
theorem op_indexA (n esz : Nat) (agg : Bool) (x i : Arg) : op G cf Φ m (⟨d, .indexA n esz agg x i, none⟩ :: r) e o b cx k = on G cf Φ (vIndexA n esz agg (evA G e x) (evA G e i)) m d r e o b cx k := op_step rfl
theorem op_append (n esz eb : Nat) (x y : Arg) : op G cf Φ m (⟨d, .append n esz eb x y, none⟩ :: r) e o b cx k = on G cf Φ (vAppend o (b + n) esz eb (evA G e x) (evA G e y)) m d r e o b cx k := op_step rfl
theorem op_copy (esz : Nat) (x y : Arg) : op G cf Φ m (⟨d, .copy esz x y, none⟩ :: r) e o b cx k = on G cf Φ (vCopy o esz (evA G e x) (evA G e y)) m d r e o b cx k := op_step rfl
theorem op_len (x : Arg) : op G cf Φ m (⟨d, .len x, none⟩ :: r) e o b cx k = on G cf Φ (vLen (evA G e x)) m d r e o b cx k := op_step rfl
theorem op_lenS (x : Arg) : op G cf Φ m (⟨d, .lenS x, none⟩ :: r) e o b cx k = on G cf Φ (vLenS (evA G e x)) m d r e o b cx k := op_step rfl
theorem op_lenA (n : Nat) : op G cf Φ m (⟨d, .lenA n, none⟩ :: r) e o b cx k = on G cf Φ (ok (.int .i64 (n : Int))) m d r e o b cx k := op_step rfl
theorem op_cap0 (x : Arg) : op G cf Φ m (⟨d, .cap0 x, none⟩ :: r) e o b cx k = on G cf Φ (vCap0 (evA G e x)) m d r e o b cx k := op_step rfl
theorem op_mmax (xs : List Arg) : op G cf Φ m (⟨d, .mmax xs, none⟩ :: r) e o b cx k = on G cf Φ (vMax (xs.map (evA G e))) m d r e o b cx k := by
  rw [op_step rfl]; simp only [stepI, vMax]; rfl
theorem op_mmin (xs : List Arg) : op G cf Φ m (⟨d, .mmin xs, none⟩ :: r) e o b cx k = on G cf Φ (vMin (xs.map (evA G e))) m d r e o b cx k := by
  rw [op_step rfl]; simp only [stepI, vMin]; rfl
theorem op_make (n esz eb : Nat) (z : List V) (x y : Arg) : op G cf Φ m (⟨d, .make n esz eb z x y, none⟩ :: r) e o b cx k = on G cf Φ (vMake (b + n) esz eb z (evA G e x) (evA G e y)) m d r e o b cx k := op_step rfl
theorem op_extract (x : Arg) (i : Nat) : op G cf Φ m (⟨d, .extract x i, none⟩ :: r) e o b cx k = on G cf Φ (vExtract (evA G e x) i) m d r e o b cx k := op_step rfl
inductive CV where
  | ret (v : V)
  | panic (v : V)
end
/-- What a call comes to that is handed no object. -/
noncomputable def valP (cf : CallFn) (f : Nat) (a : List V) : Option CV := match cf f a dd 0 with
  | some (.ret v _) => some (.ret v)
  | some (.panic v) => some (.panic v)
  | none => none
def cl (G : Nat → Option (List V)) (cf : CallFn) (Φ : Pst) (f : V) (args : List V) (own : Option Nat) (m : Md) (d : Option Nat) (r : List Op') (e : Env) (o : Hp) (b cx : Nat) (k : List Fr) : Prop :=
  match doCall cf o b cx f args [] own with
  | some (.act v u fp) => op G cf Φ (psh m fp) r (eputO e d v) (hputs o u) b cx k
  | some (.panic v) => panOut Φ v m
  | none => False
def clf (G : Nat → Option (List V)) (cf : CallFn) (Φ : Pst) (g : Nat) (fa : Option (List V × List (Nat × AObj))) (lk : List Nat) (own : Option Nat) (m : Md) (d : Option Nat) (r : List Op') (e : Env) (o : Hp) (b cx : Nat) (k : List Fr) : Prop :=
  match fa with
  | some (as, ups) => match valP cf g as with
    | some (.ret v) => op G cf Φ (psh m ⟨lk, ids (if scalar v then [] else ups) ++ ids (thaw (own.map (b + ·)) v).2⟩) r (eputO e d (thaw (own.map (b + ·)) v).1) (hputs o ((if scalar v then [] else ups) ++ (thaw (own.map (b + ·)) v).2)) b cx k
    | some (.panic v) => panOut Φ v m
    | none => False
  | none => False
def clv (G : Nat → Option (List V)) (cf : CallFn) (Φ : Pst) (c : Option CV) (ups : List (Nat × AObj)) (lk : List Nat) (own : Option Nat) (m : Md) (d : Option Nat) (r : List Op') (e : Env) (o : Hp) (b cx : Nat) (k : List Fr) : Prop :=
  match c with
    | some (.ret v) => op G cf Φ (psh m ⟨lk, ids (if scalar v then [] else ups) ++ ids (thaw (own.map (b + ·)) v).2⟩) r (eputO e d (thaw (own.map (b + ·)) v).1) (hputs o ((if scalar v then [] else ups) ++ (thaw (own.map (b + ·)) v).2)) b cx k
    | some (.panic v) => panOut Φ v m
    | none => False
/-- What is handed back. -/
def clr (G : Nat → Option (List V)) (cf : CallFn) (Φ : Pst) (v : V) (sc : Bool) (th : V × List (Nat × AObj)) (ups : List (Nat × AObj)) (lk : List Nat) (m : Md) (d : Option Nat) (r : List Op') (e : Env) (o : Hp) (b cx : Nat) (k : List Fr) : Prop :=
  op G cf Φ (psh m ⟨lk, ids (if sc then [] else ups) ++ ids th.2⟩) r (eputO e d th.1) (hputs o ((if sc then [] else ups) ++ th.2)) b cx k
section
variable {G : Nat → Option (List V)} {cf : CallFn} {Φ : Pst} {k : List Fr} {e : Env} {o : Hp} {b cx : Nat} {m : Md} {d : Option Nat} {r : List Op'}
theorem op_call (f : Arg) (xs : List Arg) (own : Option Nat) : op G cf Φ m (⟨d, .call f xs [] own, none⟩ :: r) e o b cx k = cl G cf Φ (evA G e f) (xs.map (evA G e)) own m d r e o b cx k := by
  unfold cl
  cases h : doCall cf o b cx (evA G e f) (xs.map (evA G e)) [] own with
  | none => exact op_none h
  | some x => cases x with
    | act v u fp => exact op_act h
    | panic v => exact op_pan h
theorem rawRefs_nil : ∀ l : List V, rawRefs l [] = some [] := by
  intro l
  induction l with
  | nil => rfl
  | cons a l ih => exact ih
theorem cl_fn (g : Nat) (caps args : List V) (own : Option Nat) : cl G cf Φ (.fn g caps) args own m d r e o b cx k = clf G cf Φ g (frzArgs o (args ++ caps) []) (looksArgs o (args ++ caps) []) own m d r e o b cx k := by
  unfold cl clf
  have hreach : reach o 64 [] [] = some [] := _root_.id rfl
  unfold doCall
  simp only
  rw [rawRefs_nil, Option.bind_some, hreach, Option.bind_some]
  cases frzArgs o (args ++ caps) [] with
  | none => rfl
  | some fa =>
    obtain ⟨as, ups⟩ := fa
    have hn : notRef [] ups = true := by unfold notRef; rw [List.all_eq_true]; intro x _; rfl
    rw [Option.bind_some, if_pos hn]
    simp only [List.isEmpty_nil, if_true, valP]
    cases cf g as dd 0 with
    | none => rfl
    | some out =>
      cases out with
      | ret v o' => simp only [closedIn, if_true, Bool.true_and, List.map_nil, List.nil_append]
      | panic v => rfl
theorem clf_some (g : Nat) (as : List V) (ups : List (Nat × AObj)) (lk : List Nat) (own : Option Nat) : clf G cf Φ g (some (as, ups)) lk own m d r e o b cx k = clv G cf Φ (valP cf g as) ups lk own m d r e o b cx k := _root_.id rfl
theorem clv_ret (v : V) (ups : List (Nat × AObj)) (lk : List Nat) (own : Option Nat) : clv G cf Φ (some (.ret v)) ups lk own m d r e o b cx k = clr G cf Φ v (scalar v) (thaw (own.map (b + ·)) v) ups lk m d r e o b cx k := _root_.id rfl
theorem clv_panic (v : V) (ups : List (Nat × AObj)) (lk : List Nat) (own : Option Nat) : clv G cf Φ (some (.panic v)) ups lk own m d r e o b cx k = panOut Φ v m := _root_.id rfl
theorem clr_true (v x : V) (ux ups : List (Nat × AObj)) (lk : List Nat) : clr G cf Φ v true (x, ux) ups lk m d r e o b cx k = op G cf Φ (psh m ⟨lk, ids ux⟩) r (eputO e d x) (hputs o ux) b cx k := _root_.id rfl
theorem clr_false (v x : V) (ux ups : List (Nat × AObj)) (lk : List Nat) : clr G cf Φ v false (x, ux) ups lk m d r e o b cx k = op G cf Φ (psh m ⟨lk, ids ups ++ ids ux⟩) r (eputO e d x) (hputs o (ups ++ ux)) b cx k := _root_.id rfl
/-- A panic with a number of a named type. -/
theorem op_panic (x : Arg) (t : Nat) (q : IntKind) (n : Int) (h : evA G e x = .iface t (.int q n)) : op G cf Φ m (⟨d, .panic x, none⟩ :: r) e o b cx k = panOut Φ (.iface t (.int q n)) m := by
  refine op_pan ?_
  simp only [doOp, h]
end
def finV (o : Hp) (N : Nat) (vs : Option (List V)) : Option V := vs.bind fun vs => (result o N (resV vs)).map (·.1)
def fin (res : List Res) (N : Nat) (v : V) : Pst
  | .ret, s => finV s.o N (resAll s.o s.e res) = some v
  | .normal, s => finV s.o N (resAll s.o s.e res) = some v
  | _, _ => False
theorem fin_ret (res : List Res) (N : Nat) (v : V) (s : St) : fin res N v .ret s = (finV s.o N (resAll s.o s.e res) = some v) := _root_.id rfl
theorem fin_normal (res : List Res) (N : Nat) (v : V) (s : St) : fin res N v .normal s = (finV s.o N (resAll s.o s.e res) = some v) := _root_.id rfl
theorem fin_panic (res : List Res) (N : Nat) (v w : V) (s : St) : fin res N v (.panic w) s = False := _root_.id rfl
def finR (r : Option (V × List (Nat × AObj))) : Option V := r.map (·.1)
theorem finR_some (v : V) (u : List (Nat × AObj)) : finR (some (v, u)) = some v := _root_.id rfl
theorem finV_some (o : Hp) (N : Nat) (vs : List V) : finV o N (some vs) = finR (result o N (resV vs)) := _root_.id rfl
/-- A function that ends in a panic. -/
def pan (v : V) : Pst
  | .panic w, _ => w = v
  | _, _ => False
theorem pan_panic (v w : V) (s : St) : pan v (.panic w) s = (w = v) := _root_.id rfl
def jk : Env := fun _ => .junk
theorem jk_ap (s : Nat) : jk s = .junk := _root_.id rfl
theorem init_e2 (t : Nat) (a : List V) (h : a.length ≤ t) : initEnv a = e2 t (initEnv a) jk := by
  funext s
  unfold e2 initEnv jk
  split
  · rfl
  · simp only [List.getD]; rw [List.getElem?_eq_none (by omega)]; rfl
section
variable {G : Nat → Option (List V)} {T : Nat → Option MF} {E : Nat → Option (CallFn → List V → Hp → Nat → Option Out)}
theorem val_run (t : Nat) (hm : MonoE E) {f : Nat} {m : MF} {a : List V} {v : V} (h0 : E f = none) (hT : T f = some m) (hnp : a.length = m.np) (ht : a.length ≤ t)
    (h : go G (cfW G T E) (fin m.res 0 v) m.body [] ⟨e2 t (initEnv a) jk, dd, 0⟩) : valP (cfW G T E) f a = some (.ret v) := by
  rw [← init_e2 t a ht, go_eq] at h
  obtain ⟨y, s, h1, h2⟩ := h
  have key : finV s.o 0 (resAll s.o s.e m.res) = some v → ∃ o', finish m 0 s = some (.ret v o') := by
    intro h
    obtain ⟨vs, h1, h2⟩ := bind_some' h
    obtain ⟨r, h3, rfl⟩ := map_some' h2
    exact ⟨hputs s.o r.2, by simp only [finish, h1, Option.bind_some, h3, Option.map_some]⟩
  cases y with
  | ret => obtain ⟨o', ho⟩ := key h2; simp only [valP, cfW_run hm h0 hT hnp (.inl h1) ho]
  | normal => obtain ⟨o', ho⟩ := key h2; simp only [valP, cfW_run hm h0 hT hnp (.inr h1) ho]
  | exit i => cases h2
  | panic w => cases h2 s
end
end Go.Proofs.Ytoccgkgdhobmfaa.Am.Ru
set_option linter.unusedVariables false
set_option linter.unusedSimpArgs false
namespace Go.Proofs.Ytoccgkgdhobmfaa.Am.Ru
open Go
section
variable {G : Nat → Option (List V)} {e : Env} {o : Hp}
theorem eput_ap (e : Env) (d s : Nat) (v : V) : eput e d v s = if s = d then v else e s := _root_.id rfl
theorem eputO_some (e : Env) (d : Nat) (v : V) : eputO e (some d) v = eput e d v := _root_.id rfl
theorem eputO_none (e : Env) (v : V) : eputO e none v = e := _root_.id rfl
theorem hput_ap (o : Hp) (i j : Nat) (x : AObj) : hput o i x j = if j = i then x else o j := _root_.id rfl
theorem hput_ne (o : Hp) (i j : Nat) (x : AObj) (h : j ≠ i) : hput o i x j = o j := by simp [hput, h]
theorem hputs_nil (o : Hp) : hputs o [] = o := _root_.id rfl
theorem hputs_cons (o : Hp) (i : Nat) (x : AObj) (r : List (Nat × AObj)) : hputs o ((i, x) :: r) = hputs (hput o i x) r := _root_.id rfl
theorem evA_tmp (t : Nat) : evA G e (.tmp t) = e t := _root_.id rfl
theorem evA_const (v : V) : evA G e (.const v) = v := _root_.id rfl
theorem evA_fn (f : Nat) : evA G e (.fn f) = .fn f [] := _root_.id rfl
def gv : Option (List V) → V
  | some cs => .imp cs 0
  | none => .junk
theorem gv_some (cs : List V) : gv (some cs) = .imp cs 0 := _root_.id rfl
theorem evA_glob (g : Nat) : evA G e (.glob g) = gv (G g) := _root_.id rfl
theorem initEnv_ap (a : List V) (s : Nat) : initEnv a s = a.getD s .junk := _root_.id rfl
theorem vPick_true (x y : V) : vPick (.bool true) x y = ok x := _root_.id rfl
theorem vPick_false (x y : V) : vPick (.bool false) x y = ok y := _root_.id rfl
theorem vPick_bool (t : Bool) (x y : V) : vPick (.bool t) x y = ok (if t then x else y) := _root_.id rfl
theorem cells_of {v : V} (h : cellV v = true) : v.cells = [v] := by cases v <;> simp_all [cellV, V.cells]
theorem ok_of {v : V} (h : cellV v = true) : okCells v = true := by cases v <;> simp_all [cellV, okCells]
theorem vBox_cell (i : Nat) {x : V} (h : cellV x = true) : vBox i x = some ⟨.ptr i 0, [(i, .box [x])], []⟩ := by
  unfold vBox; rw [ok_of h, cells_of h]; rfl
theorem vBox_agg (i : Nat) (cs : List V) : vBox i (.agg cs) = some ⟨.ptr i 0, [(i, .box cs)], []⟩ := _root_.id rfl
theorem vBuild_some (cs : List V) : vBuild (some cs) = ok (.agg cs) := _root_.id rfl
theorem fp_nil (cs : List V) : fillParts G e [] cs = some cs := _root_.id rfl
theorem fp_cons (off n : Nat) (x : Arg) (r : List (Nat × Nat × Arg)) (cs : List V) : fillParts G e ((off, n, x) :: r) cs = fpR G e r (fill1 off n (evA G e x) cs) := by
  simp only [fillParts, fpR, fill1]
  split
  · rfl
  · rfl
theorem fpR_some (r : List (Nat × Nat × Arg)) (cs : List V) : fpR G e r (some cs) = fillParts G e r cs := _root_.id rfl
theorem fill1_cell (off : Nat) {v : V} (cs : List V) (h : cellV v = true) : fill1 off 1 v cs = splice off [v] cs := by
  unfold fill1; rw [cells_of h, ok_of h]; rfl
theorem fill1_agg (off n : Nat) (as cs : List V) (h : as.length = n) : fill1 off n (.agg as) cs = splice off as cs := by
  unfold fill1; rw [if_pos ⟨h, rfl⟩]; rfl
theorem fe_nil (esz : Nat) (xs : List (List V)) : fillElems G e esz [] xs = some xs := _root_.id rfl
theorem fe_cons (esz j : Nat) (x : Arg) (r : List (Nat × Arg)) (xs : List (List V)) : fillElems G e esz ((j, x) :: r) xs = feR G e esz r (fillE j esz (evA G e x) xs) := by
  simp only [fillElems, feR, fillE]
  split
  · rfl
  · rfl
theorem feR_some (esz : Nat) (r : List (Nat × Arg)) (xs : List (List V)) : feR G e esz r (some xs) = fillElems G e esz r xs := _root_.id rfl
theorem fillE_cell (j : Nat) {v : V} (xs : List (List V)) (h : cellV v = true) (hj : j < xs.length) : fillE j 1 v xs = some (xs.set j [v]) := by
  unfold fillE; rw [cells_of h, ok_of h, if_pos ⟨rfl, hj, rfl⟩]
theorem fillE_agg (j n : Nat) (as : List V) (xs : List (List V)) (h : as.length = n) (hj : j < xs.length) : fillE j n (.agg as) xs = some (xs.set j as) := by
  unfold fillE; rw [if_pos ⟨h, hj, rfl⟩]; rfl
theorem vLit_some (i esz : Nat) (xs : List (List V)) : vLit i esz (some xs) = some ⟨.vsl i 0 xs.length, [(i, .vec esz xs)], []⟩ := _root_.id rfl
theorem cut_zero (l : List V) : cut 0 0 l = some [] := by simp [cut]
theorem cut_cons (n : Nat) (v : V) (r : List V) : cut 0 (n + 1) (v :: r) = (cut 0 n r).map (v :: ·) := by
  unfold cut
  simp only [Nat.zero_add, List.length_cons, List.drop_zero, List.take_succ_cons]
  by_cases h : n ≤ r.length
  · rw [if_pos (by omega), if_pos h]; rfl
  · rw [if_neg (by omega), if_neg h]; rfl
theorem cut_succ (off n : Nat) (v : V) (r : List V) : cut (off + 1) n (v :: r) = cut off n r := by
  unfold cut
  simp only [List.length_cons, List.drop_succ_cons]
  by_cases h : off + n ≤ r.length
  · rw [if_pos (by omega), if_pos h]
  · rw [if_neg (by omega), if_neg h]
theorem cut_all (n : Nat) (cs : List V) (h : cs.length = n) : cut 0 n cs = some cs := by
  unfold cut; rw [if_pos (by omega), List.drop_zero, ← h, List.take_length]
theorem cut_num {α : Type} (f : α → V) (ws : List α) (d : α) (off : Nat) (h : off < ws.length) : cut off 1 (ws.map f) = some [f (ws.getD off d)] := by
  unfold cut
  rw [if_pos (by simp; omega)]
  have hd : (ws.map f).drop off = f ws[off] :: (ws.map f).drop (off + 1) := by
    rw [List.drop_eq_getElem_cons (by simpa using h)]; simp
  rw [hd]
  simp [List.getD, h]
theorem cut_map {α : Type} (f : α → V) (ws : List α) (off n : Nat) (h : off + n ≤ ws.length) : cut off n (ws.map f) = some (((ws.drop off).take n).map f) := by
  unfold cut
  rw [if_pos (by simpa using h)]
  simp
theorem splice_nil (cs : List V) : splice 0 [] cs = some cs := by simp [splice]
theorem splice_cons (v c : V) (new cs : List V) : splice 0 (v :: new) (c :: cs) = (splice 0 new cs).map (v :: ·) := by
  unfold splice
  simp only [Nat.zero_add, List.length_cons, List.take_zero, List.nil_append, List.drop_succ_cons, List.cons_append]
  by_cases h : new.length ≤ cs.length
  · rw [if_pos (by omega), if_pos h]; rfl
  · rw [if_neg (by omega), if_neg h]; rfl
theorem splice_succ (off : Nat) (c : V) (new cs : List V) : splice (off + 1) new (c :: cs) = (splice off new cs).map (c :: ·) := by
  unfold splice
  have : off + 1 + new.length = off + new.length + 1 := by omega
  rw [this]
  simp only [List.length_cons, List.take_succ_cons, List.drop_succ_cons, List.cons_append]
  by_cases h : off + new.length ≤ cs.length
  · rw [if_pos (by omega), if_pos h]; rfl
  · rw [if_neg (by omega), if_neg h]; rfl
theorem splice_all (new cs : List V) (h : new.length = cs.length) : splice 0 new cs = some new := by
  unfold splice; rw [if_pos (by omega)]; simp [h]
theorem splice_num {α : Type} (f : α → V) (ws : List α) (off : Nat) (x : α) (h : off < ws.length) : splice off [f x] (ws.map f) = some ((ws.set off x).map f) := by
  unfold splice
  simp only [List.length_cons, List.length_nil, Nat.zero_add, List.length_map]
  rw [if_pos (by omega), List.map_set, List.set_eq_take_append_cons_drop]
  rw [if_pos (by simpa using h)]; rfl
def ldc (agg : Option Nat) (rd : List Nat) (cs : Option (List V)) : Option Act := cs.bind fun cs => (aggOf agg cs).map fun v => ⟨v, [], rd⟩
def ld (agg : Option Nat) (i off : Nat) (x : AObj) : Option Act := match x with
  | .box cs => ldc agg [i] (cut off (agg.getD 1) cs)
  | .fbox cs => ldc agg [i] (cut off (agg.getD 1) cs)
  | _ => none
def lde (agg : Option Nat) (i off : Nat) (c : Option (List V)) : Option Act := c.bind fun c => ldc agg [i] (cut off (agg.getD 1) c)
def ldv (agg : Option Nat) (i j off : Nat) (x : AObj) : Option Act := match x with
  | .vec _ xs => lde agg i off (xs[j]?)
  | .fvec _ xs => lde agg i off (xs[j]?)
  | _ => none
theorem vLoad_ptr (agg : Option Nat) (i off : Nat) : vLoad o agg (.ptr i off) = ld agg i off (o i) := by
  unfold vLoad ld
  simp only [peek, rdBox]
  cases o i <;> (try rfl)
  all_goals (simp only [Option.bind_some, ldc]; rename_i cs; cases cut off (agg.getD 1) cs <;> rfl)
theorem ld_box (agg : Option Nat) (i off : Nat) (cs : List V) : ld agg i off (.box cs) = ldc agg [i] (cut off (agg.getD 1) cs) := _root_.id rfl
theorem ld_fbox (agg : Option Nat) (i off : Nat) (cs : List V) : ld agg i off (.fbox cs) = ldc agg [i] (cut off (agg.getD 1) cs) := _root_.id rfl
theorem vLoad_imp (agg : Option Nat) (cs : List V) (off : Nat) : vLoad o agg (.imp cs off) = ldc agg [] (cut off (agg.getD 1) cs) := by
  unfold vLoad; simp only [peek, ldc]; cases cut off (agg.getD 1) cs <;> rfl
theorem vLoad_ept (agg : Option Nat) (i j off : Nat) : vLoad o agg (.ept i j off) = ldv agg i j off (o i) := by
  unfold vLoad ldv
  simp only [peek, rdVec]
  cases o i <;> (try rfl)
  all_goals
    simp only [Option.bind_some, lde]
    rename_i n xs
    cases xs[j]? with
    | none => rfl
    | some c => simp only [Option.bind_some, ldc]; cases cut off (agg.getD 1) c <;> rfl
theorem ldv_vec (agg : Option Nat) (i j off n : Nat) (xs : List (List V)) : ldv agg i j off (.vec n xs) = lde agg i off (xs[j]?) := _root_.id rfl
theorem ldv_fvec (agg : Option Nat) (i j off n : Nat) (xs : List (List V)) : ldv agg i j off (.fvec n xs) = lde agg i off (xs[j]?) := _root_.id rfl
theorem lde_some (agg : Option Nat) (i off : Nat) (c : List V) : lde agg i off (some c) = ldc agg [i] (cut off (agg.getD 1) c) := _root_.id rfl
theorem ldc_one (rd : List Nat) (v : V) (r : List V) : ldc none rd (some (v :: r)) = some ⟨v, [], rd⟩ := _root_.id rfl
theorem ldc_agg (n : Nat) (rd : List Nat) (cs : List V) : ldc (some n) rd (some cs) = some ⟨.agg cs, [], rd⟩ := _root_.id rfl
def stc (i : Nat) (cs : Option (List V)) : Option Act := cs.map fun cs => ⟨.junk, [(i, .box cs)], []⟩
def stb (new : List V) (i off : Nat) (x : AObj) : Option Act := match x with
  | .box cs => stc i (splice off new cs)
  | _ => none
def stx (i n : Nat) (xs : List (List V)) (j : Nat) (c : Option (List V)) : Option Act := c.map fun c => ⟨.junk, [(i, .vec n (xs.set j c))], []⟩
def stw (i n : Nat) (xs : List (List V)) (j off : Nat) (new : List V) (c : Option (List V)) : Option Act := c.bind fun c => stx i n xs j (splice off new c)
def stv (new : List V) (i j off : Nat) (x : AObj) : Option Act := match x with
  | .vec n xs => stw i n xs j off new (xs[j]?)
  | _ => none
def sto (o : Hp) (new : List V) (a : V) : Option Act := (poke o new a).map fun u => ⟨.junk, u, []⟩
theorem vStore_cell (a : V) {x : V} (h : cellV x = true) : vStore o 1 a x = sto o [x] a := by
  unfold vStore; rw [cells_of h, ok_of h]; rfl
theorem vStore_agg (n : Nat) (a : V) (cs : List V) (h : cs.length = n) : vStore o n a (.agg cs) = sto o cs a := by
  unfold vStore; rw [if_pos ⟨h, rfl⟩]; rfl
theorem sto_ptr (new : List V) (i off : Nat) : sto o new (.ptr i off) = stb new i off (o i) := by
  unfold sto stb
  simp only [poke]
  cases o i <;> (try rfl)
  rename_i cs
  simp only [stc]
  cases splice off new cs <;> rfl
theorem stb_box (new : List V) (i off : Nat) (cs : List V) : stb new i off (.box cs) = stc i (splice off new cs) := _root_.id rfl
theorem stc_some (i : Nat) (cs : List V) : stc i (some cs) = some ⟨.junk, [(i, .box cs)], []⟩ := _root_.id rfl
theorem sto_ept (new : List V) (i j off : Nat) : sto o new (.ept i j off) = stv new i j off (o i) := by
  unfold sto stv
  simp only [poke]
  cases o i <;> (try rfl)
  rename_i n xs
  simp only [stw, stx]
  cases xs[j]? with
  | none => rfl
  | some c => simp only [Option.bind_some]; cases splice off new c <;> rfl
theorem stv_vec (new : List V) (i j off n : Nat) (xs : List (List V)) : stv new i j off (.vec n xs) = stw i n xs j off new (xs[j]?) := _root_.id rfl
theorem stw_some (i n : Nat) (xs : List (List V)) (j off : Nat) (new c : List V) : stw i n xs j off new (some c) = stx i n xs j (splice off new c) := _root_.id rfl
theorem stx_some (i n : Nat) (xs : List (List V)) (j : Nat) (c : List V) : stx i n xs j (some c) = some ⟨.junk, [(i, .vec n (xs.set j c))], []⟩ := _root_.id rfl
theorem vNil_ptr (i off : Nat) : vNil (.ptr i off) = ok (.ptr i off) := _root_.id rfl
theorem vNil_ept (i j off : Nat) : vNil (.ept i j off) = ok (.ept i j off) := _root_.id rfl
theorem vNil_imp (c : List V) (off : Nat) : vNil (.imp c off) = ok (.imp c off) := _root_.id rfl
theorem vNil_fn (f : Nat) (c : List V) : vNil (.fn f c) = ok (.fn f c) := _root_.id rfl
theorem negb_f (b : Bool) : negb false (some b) = some (.bool b) := _root_.id rfl
theorem negb_t (b : Bool) : negb true (some b) = some (.bool !b) := _root_.id rfl
theorem vEqv_agg (neg : Bool) (ks : List Nat) (a b : List V) : vEqv neg ks (.agg a) (.agg b) = okV (negb neg (eqCells ks a b)) := _root_.id rfl
def eqR (x : Option Bool) (y : Option Bool) : Option Bool := x.bind fun x => y.map (x && ·)
theorem eqR_some (x y : Bool) : eqR (some x) (some y) = some (x && y) := _root_.id rfl
theorem eqCells_nil : eqCells [] [] [] = some true := _root_.id rfl
theorem eqCells_cons (q : Nat) (ks : List Nat) (a b : V) (as bs : List V) : eqCells (q :: ks) (a :: as) (b :: bs) = eqR (eqK q a b) (eqCells ks as bs) := _root_.id rfl
theorem eqK_bool (a b : Bool) : eqK 0 (.bool a) (.bool b) = some (a == b) := _root_.id rfl
theorem eqK_int (q : IntKind) (a b : Int) : eqK 1 (.int q a) (.int q b) = some (a == b) := by simp [eqK]
theorem eqK_str (a b : List UInt8) : eqK 2 (.str a) (.str b) = some (a == b) := _root_.id rfl
theorem vEqb_f (a b : Bool) : vEqb false (.bool a) (.bool b) = ok (.bool (a == b)) := _root_.id rfl
theorem vEqb_t (a b : Bool) : vEqb true (.bool a) (.bool b) = ok (.bool (!(a == b))) := _root_.id rfl
theorem eqP_nn : eqP .nilp .nilp = some true := _root_.id rfl
theorem eqP_np (i off : Nat) : eqP .nilp (.ptr i off) = some false := _root_.id rfl
theorem eqP_pn (i off : Nat) : eqP (.ptr i off) .nilp = some false := _root_.id rfl
theorem eqP_ni (c : List V) (off : Nat) : eqP .nilp (.imp c off) = some false := _root_.id rfl
theorem eqP_in (c : List V) (off : Nat) : eqP (.imp c off) .nilp = some false := _root_.id rfl
theorem vConvInt_int (q p : IntKind) (n : Int) : vConvInt q (.int p n) = ok (.int q (q.wrap n)) := _root_.id rfl
theorem bytesOf_bytesV (s : List UInt8) : bytesOf (bytesV s) = some s := by
  induction s with
  | nil => rfl
  | cons a b ih =>
    show (bytesOf (bytesV b)).map (UInt8.ofNat ((a.toNat : Int)).toNat :: ·) = _
    rw [ih]; simp
def cvs (r : Option (List (List V) × List Nat)) : Option Act := r.bind fun r => (bytesOf r.1).map fun s => ⟨.str s, [], r.2⟩
theorem cvs_some (s : List UInt8) (rd : List Nat) : cvs (some (bytesV s, rd)) = some ⟨.str s, [], rd⟩ := by
  simp only [cvs, Option.bind_some, bytesOf_bytesV, Option.map_some]
theorem vConvStr_sl (n : Nat) (xs : List (List V)) : vConvStr o (.sl n xs) = cvs (elemsOf o 1 (.sl n xs)) := _root_.id rfl
theorem vConvStr_nils (n : Nat) : vConvStr o (.nils n) = cvs (elemsOf o 1 (.nils n)) := _root_.id rfl
theorem vConvStr_vsl (i st n : Nat) : vConvStr o (.vsl i st n) = cvs (elemsOf o 1 (.vsl i st n)) := _root_.id rfl
theorem vConvStr_bsl (i off n q : Nat) : vConvStr o (.bsl i off n q) = cvs (elemsOf o 1 (.bsl i off n q)) := _root_.id rfl
theorem vConvBytes_str (s : List UInt8) : vConvBytes (.str s) = ok (.sl 1 (bytesV s)) := _root_.id rfl
theorem vArrPtr_bsl (n i off len q : Nat) (h : 0 < n) (h' : n ≤ len) : vArrPtr n (.bsl i off len q) = ok (.ptr i off) := by
  simp only [vArrPtr]; rw [if_pos ⟨h, h'⟩]
theorem optV_none (n : Nat) : optV n none = some n := _root_.id rfl
theorem optV_some (n : Nat) (v : V) : optV n (some v) = asN v := _root_.id rfl
theorem asN_int (q : IntKind) (n : Int) (h : 0 ≤ n) : asN (.int q n) = some n.toNat := by simp [asN, h]
theorem vSliceS_none (s : List UInt8) : vSliceS (.str s) none none = ok (.str s) := by
  simp [vSliceS, optV]
theorem vSliceS_lo (s : List UInt8) (q : IntKind) (n : Int) (h : 0 ≤ n) (h' : n.toNat ≤ s.length) : vSliceS (.str s) (some (.int q n)) none = ok (.str (s.drop n.toNat)) := by
  simp only [vSliceS, optV, asN_int q n h, Option.bind_some]
  rw [if_pos ⟨h', Nat.le_refl _⟩, List.take_of_length_le (by simp)]
theorem vSliceS_hi (s : List UInt8) (q : IntKind) (n : Int) (h : 0 ≤ n) (h' : n.toNat ≤ s.length) : vSliceS (.str s) none (some (.int q n)) = ok (.str (s.take n.toNat)) := by
  simp only [vSliceS, optV, asN_int q n h, Option.bind_some]
  rw [if_pos ⟨Nat.zero_le _, h'⟩]; rfl
theorem vSliceS_both (s : List UInt8) (q q' : IntKind) (n n' : Int) (h : 0 ≤ n) (h' : n ≤ n') (h'' : n'.toNat ≤ s.length) : vSliceS (.str s) (some (.int q n)) (some (.int q' n')) = ok (.str ((s.drop n.toNat).take (n'.toNat - n.toNat))) := by
  simp only [vSliceS, optV, asN_int q n h, asN_int q' n' (by omega), Option.bind_some]
  rw [if_pos ⟨by omega, h''⟩]
def slR (o : Hp) (esz : Nat) (x : V) (n : Option Nat) (lo hi : Option V) : Option Act := n.bind fun n => (optV 0 lo).bind fun l => (optV n hi).bind fun h => sliceElems o esz l h x
theorem vSliceL_def (esz : Nat) (x : V) (lo hi : Option V) : vSliceL o esz x lo hi = slR o esz x (lenOf x) lo hi := _root_.id rfl
theorem slR_lo (esz n : Nat) (x : V) (q : IntKind) (l : Int) (h : 0 ≤ l) : slR o esz x (some n) (some (.int q l)) none = sliceElems o esz l.toNat n x := by
  simp only [slR, optV, asN_int q l h, Option.bind_some]
theorem slR_hi (esz n : Nat) (x : V) (q : IntKind) (l : Int) (h : 0 ≤ l) : slR o esz x (some n) none (some (.int q l)) = sliceElems o esz 0 l.toNat x := by
  simp only [slR, optV, asN_int q l h, Option.bind_some]
theorem slR_none (esz n : Nat) (x : V) : slR o esz x (some n) none none = sliceElems o esz 0 n x := _root_.id rfl
theorem slR_both (esz n : Nat) (x : V) (q q' : IntKind) (l l' : Int) (h : 0 ≤ l) (h' : 0 ≤ l') : slR o esz x (some n) (some (.int q l)) (some (.int q' l')) = sliceElems o esz l.toNat l'.toNat x := by
  simp only [slR, optV, asN_int q l h, asN_int q' l' h', Option.bind_some]
theorem sliceElems_sl (n lo hi : Nat) (xs : List (List V)) (h : lo ≤ hi) (h' : hi ≤ xs.length) : sliceElems o n lo hi (.sl n xs) = ok (.sl n ((xs.drop lo).take (hi - lo))) := by
  simp only [sliceElems]; rw [if_pos ⟨trivial, h, h'⟩]
theorem sliceElems_bsl (n lo hi i off len : Nat) (h : lo ≤ hi) (h' : hi ≤ len) : sliceElems o n lo hi (.bsl i off len n) = ok (.bsl i (off + lo * n) (hi - lo) n) := by
  simp only [sliceElems]; rw [if_pos ⟨trivial, h, h'⟩]
theorem bytes_cut (s : List UInt8) (lo n : Nat) : ((bytesV s).drop lo).take n = bytesV ((s.drop lo).take n) := by simp only [bytesV, List.map_drop, List.map_take]
theorem bytes_drop (s : List UInt8) (lo : Nat) : (bytesV s).drop lo = bytesV (s.drop lo) := by simp only [bytesV, List.map_drop]
theorem bytes_take (s : List UInt8) (n : Nat) : (bytesV s).take n = bytesV (s.take n) := by simp only [bytesV, List.map_take]
theorem bytes_app (s t : List UInt8) : bytesV s ++ bytesV t = bytesV (s ++ t) := by simp only [bytesV, List.map_append]
theorem bytes_len (s : List UInt8) : (bytesV s).length = s.length := by simp [bytesV]
theorem bytes_get (b : List UInt8) (j : Nat) (h : j < b.length) : (bytesV b)[j]? = some [.int .u8 (b.getD j 0).toNat] := by
  simp [bytesV, byteV, h, List.getD]
def slA (n esz i off : Nat) (lo hi : Option Nat) : Option Act := lo.bind fun l => hi.bind fun h => if l ≤ h ∧ h ≤ n then ok (.bsl i (off + l * esz) (h - l) esz) else none
theorem vSliceA_ptr (n esz i off : Nat) (lo hi : Option V) : vSliceA n esz (.ptr i off) lo hi = slA n esz i off (optV 0 lo) (optV n hi) := _root_.id rfl
theorem slA_some (n esz i off l h : Nat) (h1 : l ≤ h) (h2 : h ≤ n) : slA n esz i off (some l) (some h) = ok (.bsl i (off + l * esz) (h - l) esz) := by
  simp only [slA, Option.bind_some]; rw [if_pos ⟨h1, h2⟩]
theorem vFieldAddr_ptr (off i a : Nat) : vFieldAddr off (.ptr i a) = ok (.ptr i (a + off)) := _root_.id rfl
theorem vFieldAddr_ept (off i j a : Nat) : vFieldAddr off (.ept i j a) = ok (.ept i j (a + off)) := _root_.id rfl
theorem vFieldAddr_imp (off : Nat) (c : List V) (a : Nat) : vFieldAddr off (.imp c a) = ok (.imp c (a + off)) := _root_.id rfl
def aggR (agg : Option Nat) (cs : Option (List V)) : Option V := cs.bind (aggOf agg)
theorem vField_agg (off : Nat) (agg : Option Nat) (cs : List V) : vField off agg (.agg cs) = okV (aggR agg (cut off (agg.getD 1) cs)) := _root_.id rfl
theorem aggR_one (v : V) (r : List V) : aggR none (some (v :: r)) = some v := _root_.id rfl
theorem aggR_agg (n : Nat) (cs : List V) : aggR (some n) (some cs) = some (.agg cs) := _root_.id rfl
theorem vIndexAddrA_ptr (n esz i a : Nat) (q : IntKind) (x : Int) (h : 0 ≤ x) (h' : x.toNat < n) : vIndexAddrA n esz (.ptr i a) (.int q x) = ok (.ptr i (a + x.toNat * esz)) := by
  simp only [vIndexAddrA, asN_int q x h, Option.bind_some, h', if_true]
theorem vIndexAddrA_imp (n esz a : Nat) (c : List V) (q : IntKind) (x : Int) (h : 0 ≤ x) (h' : x.toNat < n) : vIndexAddrA n esz (.imp c a) (.int q x) = ok (.imp c (a + x.toNat * esz)) := by
  simp only [vIndexAddrA, asN_int q x h, Option.bind_some, h', if_true]
def ixs (c : Option (List V)) : Option Act := c.bind fun c => ok (.imp c 0)
theorem ixs_some (c : List V) : ixs (some c) = ok (.imp c 0) := _root_.id rfl
theorem vIndexAddrL_sl (n : Nat) (xs : List (List V)) (q : IntKind) (x : Int) (h : 0 ≤ x) : vIndexAddrL o n (.sl n xs) (.int q x) = ixs (xs[x.toNat]?) := by
  simp only [vIndexAddrL, asN_int q x h, Option.bind_some, idxL, if_true, ixs]
theorem vIndexAddrL_bsl (n i off len : Nat) (q : IntKind) (x : Int) (h : 0 ≤ x) (h' : x.toNat < len) : vIndexAddrL o n (.bsl i off len n) (.int q x) = ok (.ptr i (off + x.toNat * n)) := by
  simp only [vIndexAddrL, asN_int q x h, Option.bind_some, idxL]; rw [if_pos ⟨trivial, h'⟩]
theorem vIndexS_str (s : List UInt8) (q : IntKind) (x : Int) (h : 0 ≤ x) (h' : x.toNat < s.length) : vIndexS (.str s) (.int q x) = ok (.int .u8 (s.getD x.toNat 0).toNat) := by
  simp only [vIndexS, asN_int q x h, Option.bind_some, List.getElem?_eq_getElem h', List.getD, Option.getD_some]
theorem vIndexA_num {α : Type} (f : α → V) (ws : List α) (dflt : α) (n : Nat) (q : IntKind) (x : Int) (h : 0 ≤ x) (h' : x.toNat < n) (hl : ws.length = n) : vIndexA n 1 false (.agg (ws.map f)) (.int q x) = ok (f (ws.getD x.toNat dflt)) := by
  simp only [vIndexA, asN_int q x h, Option.bind_some, h', if_true, Nat.mul_one, cut_num f ws dflt _ (by omega : x.toNat < ws.length)]; rfl
theorem vLen_sl (n : Nat) (xs : List (List V)) : vLen (.sl n xs) = ok (.int .i64 xs.length) := _root_.id rfl
theorem vLen_vsl (i st n : Nat) : vLen (.vsl i st n) = ok (.int .i64 n) := _root_.id rfl
theorem vLen_nils (n : Nat) : vLen (.nils n) = ok (.int .i64 0) := _root_.id rfl
theorem vLen_bsl (i off n q : Nat) : vLen (.bsl i off n q) = ok (.int .i64 n) := _root_.id rfl
theorem vLenS_str (s : List UInt8) : vLenS (.str s) = ok (.int .i64 s.length) := _root_.id rfl
theorem lenOf_sl (n : Nat) (xs : List (List V)) : lenOf (.sl n xs) = some xs.length := _root_.id rfl
theorem lenOf_vsl (i st n : Nat) : lenOf (.vsl i st n) = some n := _root_.id rfl
theorem lenOf_nils (n : Nat) : lenOf (.nils n) = some 0 := _root_.id rfl
theorem lenOf_bsl (i off n q : Nat) : lenOf (.bsl i off n q) = some n := _root_.id rfl
theorem vExtract_tup (vs : List V) (i : Nat) : vExtract (.tup vs) i = okV (vs[i]?) := _root_.id rfl
theorem vCap0_nils (n : Nat) : vCap0 (.nils n) = ok (.int .i64 0) := _root_.id rfl
theorem vMax2 (q : IntKind) (a b : Int) : vMax [.int q a, .int q b] = ok (.int q (if b > a then b else a)) := by simp [vMax, foldV, maxI, okV, ok]
theorem vMin2 (q : IntKind) (a b : Int) : vMin [.int q a, .int q b] = ok (.int q (if b < a then b else a)) := by simp [vMin, foldV, minI, okV, ok]
/-- What holds a row that was made by append: nothing, while it is empty. -/
def rowV (esz i : Nat) (xs : List (List V)) : V := if xs = [] then .nils esz else .vsl i 0 xs.length
def apE (o : Hp) (id esz eb : Nat) (s : V) (x : Option (List (List V) × List Nat)) : Option Act := x.bind fun r => appendTo o id esz eb r.1 r.2 s
theorem vAppend_def (id esz eb : Nat) (s x : V) : vAppend o id esz eb s x = apE o id esz eb s (elemsOf o esz x) := _root_.id rfl
theorem elems_nils (n : Nat) : elemsOf o n (.nils n) = some ([], []) := by simp [elemsOf]
theorem elems_sl (n : Nat) (xs : List (List V)) : elemsOf o n (.sl n xs) = some (xs, []) := by simp [elemsOf]
theorem elems_str (s : List UInt8) : elemsOf o 1 (.str s) = some (bytesV s, []) := _root_.id rfl
theorem chunks1 {α : Type} (f : α → V) : ∀ (ws : List α), chunks 1 ws.length (ws.map f) = ws.map fun x => [f x] := by
  intro ws
  induction ws with
  | nil => rfl
  | cons a ws ih => simp only [List.length_cons, chunks, List.map_cons, List.take_succ_cons, List.take_zero, List.drop_succ_cons, List.drop_zero, ih]
theorem room_ok (n eb : Nat) (h : n * eb ≤ 17592186044416) : room n eb = true := by simp [room, h]
/-- Onto nothing. -/
theorem ap_nils (id esz eb : Nat) (x : List V) (xs : List (List V)) (rd : List Nat) (h : (xs.length + 1) * eb ≤ 17592186044416) :
    apE o id esz eb (.nils esz) (some (x :: xs, rd)) = some ⟨.vsl id 0 (xs.length + 1), [(id, .vec esz (x :: xs))], rd⟩ := by
  simp only [apE, Option.bind_some, appendTo, List.length_cons, room_ok _ _ h]; rfl
theorem hrd_nil (i : Nat) : ([] : List Nat).contains i = false := _root_.id rfl
theorem deep_eq : deep = 8 := _root_.id rfl
theorem fz_nil : frzArgs o [] [] = some ([], []) := _root_.id rfl
def fzR (r : Option (V × List (Nat × AObj))) (s : Option (List V × List (Nat × AObj))) : Option (List V × List (Nat × AObj)) := r.bind fun r => s.map fun s => (r.1 :: s.1, r.2 ++ s.2)
theorem fz_cons (a : V) (l : List V) : frzArgs o (a :: l) [] = fzR (frz o deep a) (frzArgs o l []) := _root_.id rfl
theorem fzR_some (a : V) (u : List (Nat × AObj)) (l : List V) (w : List (Nat × AObj)) : fzR (some (a, u)) (some (l, w)) = some (a :: l, u ++ w) := _root_.id rfl
def stand : V → Bool
  | .int _ _ | .bool _ | .str _ | .nilp | .nilf | .nili | .imp _ _ | .sl _ _ => true
  | _ => false
theorem frz_stand {n : Nat} {v : V} (h : stand v = true) : frz o (n + 1) v = some (v, []) := by cases v <;> first | rfl | cases h
theorem seqM_same {α γ : Type} {f : α → Option (α × List γ)} : ∀ {l : List α}, (∀ a ∈ l, f a = some (a, [])) → seqM f l = some (l, []) := by
  intro l
  induction l with
  | nil => intro _; rfl
  | cons a l ih => intro h; simp only [seqM, h a (by simp), Option.bind_some, ih fun b hb => h b (by simp [hb]), Option.map_some, List.append_nil]
theorem frz_rows {n : Nat} {xs : List (List V)} (h : ∀ l ∈ xs, ∀ v ∈ l, stand v = true) : seqM (seqM (frz o (n + 1))) xs = some (xs, []) :=
  seqM_same fun l hl => seqM_same fun v hv => frz_stand (h l hl v hv)
theorem bytes_stand (s : List UInt8) : ∀ l ∈ bytesV s, ∀ v ∈ l, stand v = true := by
  intro l hl v hv
  obtain ⟨b, _, rfl⟩ := List.mem_map.1 hl
  simp only [byteV, List.mem_singleton] at hv; subst hv; rfl
theorem thaw_int (w : Option Nat) (q : IntKind) (n : Int) : thaw w (.int q n) = (.int q n, []) := _root_.id rfl
theorem thaw_bool (w : Option Nat) (b : Bool) : thaw w (.bool b) = (.bool b, []) := _root_.id rfl
theorem thaw_str (w : Option Nat) (b : List UInt8) : thaw w (.str b) = (.str b, []) := _root_.id rfl
theorem thaw_agg (w : Option Nat) (b : List V) : thaw w (.agg b) = (.agg b, []) := _root_.id rfl
theorem thaw_tup (w : Option Nat) (b : List V) : thaw w (.tup b) = (.tup b, []) := _root_.id rfl
theorem thaw_sl (w : Option Nat) (n : Nat) (b : List (List V)) : thaw w (.sl n b) = (.sl n b, []) := _root_.id rfl
theorem thaw_fn (w : Option Nat) (n : Nat) (b : List V) : thaw w (.fn n b) = (.fn n b, []) := _root_.id rfl
theorem thaw_imp (w : Option Nat) (n : Nat) (b : List V) : thaw w (.imp b n) = (.imp b n, []) := _root_.id rfl
theorem thaw_own_none (n : Nat) (b : List (List V)) : thaw none (.own n b) = (.sl n b, []) := _root_.id rfl
theorem thaw_own_some (i n : Nat) (b : List (List V)) : thaw (some i) (.own n b) = (.vsl i 0 b.length, [(i, .vec n b)]) := _root_.id rfl
theorem scalar_int (q : IntKind) (n : Int) : scalar (.int q n) = true := _root_.id rfl
theorem scalar_bool (b : Bool) : scalar (.bool b) = true := _root_.id rfl
theorem scalar_str (b : List UInt8) : scalar (.str b) = true := _root_.id rfl
theorem scalar_own (n : Nat) (b : List (List V)) : scalar (.own n b) = false := _root_.id rfl
theorem scalar_nums {α : Type} (f : α → V) (hf : ∀ x, scalarV (f x) = true) (ws : List α) : scalar (.agg (ws.map f)) = true := by
  simp only [scalar, List.all_map, List.all_eq_true]; intro x _; exact hf x
/-- A row that a function hands over. -/
def ownV (n : Nat) (xs : List (List V)) : V := if xs = [] then .sl n [] else .own n xs
theorem thaw_ownV (n : Nat) (xs : List (List V)) : thaw none (ownV n xs) = (.sl n xs, []) := by
  unfold ownV; split
  · rename_i h; subst h; rfl
  · rfl
theorem resAll_nil : resAll o e [] = some [] := _root_.id rfl
def resC (r : Option V) (l : Option (List V)) : Option (List V) := r.bind fun v => l.map (v :: ·)
theorem resC_some (v : V) (l : List V) : resC (some v) (some l) = some (v :: l) := _root_.id rfl
theorem resAll_cons (r : Res) (l : List Res) : resAll o e (r :: l) = resC (resOf o e r) (resAll o e l) := _root_.id rfl
theorem resOf_tmp (t : Nat) : resOf o e (.tmp t) = some (e t) := _root_.id rfl
def rcl (agg : Option Nat) (a : Option Act) : Option V := a.map (·.val)
theorem resOf_cell (t : Nat) (agg : Option Nat) : resOf o e (.cell t agg) = rcl agg (vLoad o agg (e t)) := by
  simp only [resOf, rcl, vLoad]
  cases peek o (agg.getD 1) (e t) with
  | none => rfl
  | some r => simp only [Option.bind_some]; cases aggOf agg r.1 <;> rfl
theorem rcl_some (agg : Option Nat) (v : V) (u : List (Nat × AObj)) (rd : List Nat) : rcl agg (some ⟨v, u, rd⟩) = some v := _root_.id rfl
theorem resV_one (v : V) : resV [v] = v := _root_.id rfl
theorem resV_nil : resV [] = .tup [] := _root_.id rfl
theorem resV_two (v w : V) (l : List V) : resV (v :: w :: l) = .tup (v :: w :: l) := _root_.id rfl
variable {N : Nat}
theorem result_int (q : IntKind) (n : Int) : result o N (.int q n) = some (.int q n, []) := _root_.id rfl
theorem result_bool (b : Bool) : result o N (.bool b) = some (.bool b, []) := _root_.id rfl
theorem result_str (s : List UInt8) : result o N (.str s) = some (.str s, []) := _root_.id rfl
theorem result_sl (n : Nat) (xs : List (List V)) : result o N (.sl n xs) = some (.sl n xs, []) := _root_.id rfl
theorem result_nils (n : Nat) : result o N (.nils n) = some (.sl n [], []) := _root_.id rfl
theorem result_agg (cs : List V) : result o N (.agg cs) = frz o deep (.agg cs) := _root_.id rfl
theorem result_tup (cs : List V) : result o N (.tup cs) = frz o deep (.tup cs) := _root_.id rfl
theorem result_fn (f : Nat) (cs : List V) : result o N (.fn f cs) = frz o deep (.fn f cs) := _root_.id rfl
theorem result_imp (off : Nat) (cs : List V) : result o N (.imp cs off) = some (.imp cs off, []) := _root_.id rfl
theorem result_bsl (i off n q : Nat) : result o N (.bsl i off n q) = frz o deep (.bsl i off n q) := _root_.id rfl
end
end Go.Proofs.Ytoccgkgdhobmfaa.Am.Ru
