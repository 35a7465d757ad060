/- The abstract machine, part 22: a region's run in the order of its text, and the runs in other orders. -/
import Derived.Test.YtoccgkgdhobmfaaDoorWc
import Derived.Scope
set_option linter.unusedVariables false
set_option linter.unusedSimpArgs false
namespace Go.Proofs.YtoccgkgdhobmfaaDoor.Am
open Go

inductive Rec where
  | skip
  | act (v : V) (u : List (Nat × AObj)) (rd : List Nat)
def Rec.val : Rec → V
  | .skip => .junk
  | .act v _ _ => v
def Rec.ups : Rec → List (Nat × AObj)
  | .skip => []
  | .act _ u _ => u
def Rec.rd : Rec → List Nat
  | .skip => []
  | .act _ _ rd => rd
def Rec.fp (r : Rec) : Fp := ⟨r.rd, ids r.ups⟩

abbrev Tr := List (Op' × Rec)
abbrev EO := Env × Hp

def ap (x : Op' × Rec) (s : EO) : EO := (eputO s.1 x.1.dst x.2.val, hputs s.2 x.2.ups)
def runTr (tr : Tr) (s : EO) : EO := tr.foldl (fun s x => ap x s) s
def foldS (S : Nat → Bool) : Nat → Tr → EO → EO
  | _, [], s => s
  | k, x :: l, s => foldS S (k + 1) l (if S k then ap x s else s)

def recOf (G : Nat → Option (List V)) (cf : CallFn) (base cx : Nat) (s : EO) (q : Op') : Option Rec :=
  match wantedV s.1 q.guard with
  | some true => match doOp G cf base cx s.1 s.2 q.i with
    | some (.act v u fp) => some (.act v u fp.rd)
    | _ => none
  | some false => some .skip
  | none => none

def guardT (q : Op') : List Nat := match q.guard with | some (t, _) => [t] | none => []
def looksT (q : Op') : List Nat := temps q.i ++ guardT q

section
variable {G : Nat → Option (List V)} {base cx : Nat} {cf : CallFn}

theorem wantedV_congr {e e' : Env} {g : Option (Nat × Bool)} (h : ∀ t, (∃ b, g = some (t, b)) → e t = e' t) : wantedV e g = wantedV e' g := by
  cases g with
  | none => rfl
  | some x => obtain ⟨t, b⟩ := x; simp only [wantedV, h t ⟨b, rfl⟩]
theorem wanted_loc {e e' : Env} {q : Op'} (h : ∀ t ∈ looksT q, e t = e' t) : wantedV e q.guard = wantedV e' q.guard :=
  wantedV_congr fun t ⟨b, hb⟩ => h t (List.mem_append_right _ (by simp [guardT, hb]))

theorem recOf_loc {s s' : EO} {q : Op'} {r : Rec} (h : recOf G cf base cx s q = some r) (ht : ∀ t ∈ looksT q, s'.1 t = s.1 t) (hr : ∀ z ∈ r.rd, s'.2 z = s.2 z) (hu : ∀ z ∈ ids r.ups, s'.2 z = s.2 z) :
    recOf G cf base cx s' q = some r := by
  unfold recOf at h ⊢
  rw [wanted_loc ht]
  split at h
  · rename_i hw
    split at h
    · rename_i v u fp hd
      cases h
      rw [doOp_env (e' := s.1) fun t htm => ht t (List.mem_append_left _ htm)]
      rw [doOp_loc hd hr (by rw [doOp_wr hd]; exact hu)]
    · cases h
  · exact h
  · cases h

/-! ### The run in the order of the text -/

def TrEnd (G : Nat → Option (List V)) (cf : CallFn) (base cx : Nat) (qs : List Op') (tr : Tr) (s : EO) (fps : List Fp) : RR → Prop
  | .ok e' o' f => tr.length = qs.length ∧ f = fps.reverse ++ tr.map (·.2.fp) ∧ runTr tr s = (e', o')
  | .panic v f => f = fps.reverse ++ tr.map (·.2.fp) ∧ ∃ q, qs[tr.length]? = some q ∧ wantedV (runTr tr s).1 q.guard = some true ∧ doOp G cf base cx (runTr tr s).1 (runTr tr s).2 q.i = some (.panic v)

theorem runOps_tr : ∀ (qs : List Op') (e : Env) (o : Hp) (fps : List Fp) (rr : RR), runOps G cf base cx qs e o fps = some rr →
    ∃ tr : Tr, (∀ (j : Nat) x, tr[j]? = some x → qs[j]? = some x.1 ∧ recOf G cf base cx (runTr (tr.take j) (e, o)) x.1 = some x.2) ∧
      TrEnd G cf base cx qs tr (e, o) fps rr := by
  intro qs
  induction qs with
  | nil =>
    intro e o fps rr h
    cases h
    exact ⟨[], by simp, rfl, by simp, rfl⟩
  | cons q qs ih =>
    intro e o fps rr h
    have step : ∀ (r : Rec), recOf G cf base cx (e, o) q = some r → runOps G cf base cx qs (eputO e q.dst r.val) (hputs o r.ups) (r.fp :: fps) = some rr →
        ∃ tr : Tr, (∀ (j : Nat) x, tr[j]? = some x → (q :: qs)[j]? = some x.1 ∧ recOf G cf base cx (runTr (tr.take j) (e, o)) x.1 = some x.2) ∧
          TrEnd G cf base cx (q :: qs) tr (e, o) fps rr := by
      intro r hr hrun
      obtain ⟨tr, h1, h2⟩ := ih _ _ _ _ hrun
      refine ⟨(q, r) :: tr, ?_, ?_⟩
      · intro j x hj
        cases j with
        | zero => simp at hj; subst hj; exact ⟨rfl, hr⟩
        | succ j =>
          simp only [List.getElem?_cons_succ] at hj ⊢
          obtain ⟨g1, g2⟩ := h1 j x hj
          exact ⟨g1, by simpa [runTr, ap] using g2⟩
      · cases rr with
        | ok e' o' f =>
          obtain ⟨g1, g2, g3⟩ := h2
          exact ⟨by simp [g1], by simp [g2], by simpa [runTr, ap] using g3⟩
        | panic v f =>
          obtain ⟨g0, p, g1, g2, g3⟩ := h2
          exact ⟨by simp [g0], p, by simpa using g1, by simpa [runTr, ap] using g2, by simpa [runTr, ap] using g3⟩
    simp only [runOps] at h
    split at h
    · rename_i hw
      split at h
      · rename_i v u fp hd
        have hwr := doOp_wr hd
        refine step (.act v u fp.rd) (by simp only [recOf, hw, hd]) ?_
        have : Rec.fp (.act v u fp.rd) = fp := by cases fp; simp only [Rec.fp, Rec.rd, Rec.ups] at *; rw [hwr]
        rw [this]; exact h
      · rename_i v hd
        cases h
        exact ⟨[], by simp, by simp, q, rfl, hw, hd⟩
      · cases h
    · rename_i hw
      exact step .skip (by simp only [recOf, hw]) h
    · cases h

/-! ### Other orders -/

theorem foldS_lt (j : Nat) : ∀ (tr : Tr) (k : Nat) (s : EO), foldS (fun i => decide (i < j)) k tr s = runTr (tr.take (j - k)) s := by
  intro tr
  induction tr with
  | nil => intro k s; simp [foldS, runTr]
  | cons x l ih =>
    intro k s
    simp only [foldS]
    rw [ih]
    by_cases h : k < j
    · have : j - k = (j - (k + 1)) + 1 := by omega
      simp only [h, decide_true, if_true, this, List.take_succ_cons, runTr, List.foldl_cons]
    · have h1 : j - k = 0 := by omega
      have h2 : j - (k + 1) = 0 := by omega
      simp [h, h1, h2, runTr]
theorem foldS_all : ∀ (tr : Tr) (S : Nat → Bool) (k : Nat) (s : EO), (∀ i, i < tr.length → S (k + i) = true) → foldS S k tr s = runTr tr s := by
  intro tr
  induction tr with
  | nil => intro S k s _; rfl
  | cons x l ih =>
    intro S k s h
    simp only [foldS, h 0 (by simp), Nat.add_zero]
    have h0 := h 0 (by simp)
    simp only [Nat.add_zero] at h0
    rw [if_pos h0, ih S (k + 1) _ fun i hi => by have := h (i + 1) (by simp; omega); rwa [show k + 1 + i = k + (i + 1) by omega]]
    rfl

theorem eputO_other {e : Env} {d : Option Nat} {v : V} {t : Nat} (h : d ≠ some t) : eputO e d v t = e t := by
  cases d with
  | none => rfl
  | some d => simp only [eputO, eput]; rw [if_neg]; intro h'; exact h (by rw [h'])

theorem foldS_env {t : Nat} {S S' : Nat → Bool} : ∀ (tr : Tr) (k : Nat) (s s' : EO), (∀ (i : Nat) x, tr[i]? = some x → S (k + i) ≠ S' (k + i) → x.1.dst ≠ some t) → s.1 t = s'.1 t →
    (foldS S k tr s).1 t = (foldS S' k tr s').1 t := by
  intro tr
  induction tr with
  | nil => intro k s s' _ h; exact h
  | cons x l ih =>
    intro k s s' h hs
    simp only [foldS]
    refine ih (k + 1) _ _ (fun i y hi hne => h (i + 1) y (by simpa using hi) (by rwa [show k + (i + 1) = k + 1 + i by omega])) ?_
    have h0 := h 0 x rfl
    simp only [Nat.add_zero] at h0
    have hap : (ap x s).1 t = (ap x s').1 t := by
      simp only [ap]
      cases x.1.dst with
      | none => exact hs
      | some d => simp only [eputO, eput]; split; rfl; exact hs
    by_cases h1 : S k = true <;> by_cases h2 : S' k = true
    · simp only [h1, h2, if_true]; exact hap
    · have := h0 (by simp [h1, h2])
      simp only [h1, h2, if_true, Bool.false_eq_true, if_false, ap, eputO_other this]; exact hs
    · have := h0 (by simp [h1, h2])
      simp only [h1, h2, if_true, Bool.false_eq_true, if_false, ap, eputO_other this]; exact hs
    · simp only [h1, h2, Bool.false_eq_true, if_false]; exact hs

theorem hputs_in {z : Nat} : ∀ (u : List (Nat × AObj)) (o o' : Hp), (z ∈ ids u ∨ o z = o' z) → hputs o u z = hputs o' u z := by
  intro u
  induction u with
  | nil => intro o o' h; simp only [hputs]; exact h.resolve_left (by simp [ids])
  | cons x r ih =>
    intro o o' h
    obtain ⟨i, a⟩ := x
    simp only [hputs]
    refine ih _ _ ?_
    by_cases hz : z = i
    · exact .inr (by simp [hput, hz])
    · rcases h with h | h
      · simp only [ids, List.map_cons, List.mem_cons] at h
        exact .inl (h.resolve_left hz)
      · exact .inr (by simp [hput, hz, h])

theorem foldS_hp {z : Nat} {S S' : Nat → Bool} : ∀ (tr : Tr) (k : Nat) (s s' : EO), (∀ (i : Nat) x, tr[i]? = some x → S (k + i) ≠ S' (k + i) → z ∉ ids x.2.ups) → s.2 z = s'.2 z →
    (foldS S k tr s).2 z = (foldS S' k tr s').2 z := by
  intro tr
  induction tr with
  | nil => intro k s s' _ h; exact h
  | cons x l ih =>
    intro k s s' h hs
    simp only [foldS]
    refine ih (k + 1) _ _ (fun i y hi hne => h (i + 1) y (by simpa using hi) (by rwa [show k + (i + 1) = k + 1 + i by omega])) ?_
    have h0 := h 0 x rfl
    simp only [Nat.add_zero] at h0
    by_cases h1 : S k = true <;> by_cases h2 : S' k = true
    · simp only [h1, h2, if_true]; exact hputs_in _ _ _ (.inr hs)
    · have := h0 (by simp [h1, h2])
      simp only [h1, h2, if_true, Bool.false_eq_true, if_false, ap, hputs_other this]; exact hs
    · have := h0 (by simp [h1, h2])
      simp only [h1, h2, if_true, Bool.false_eq_true, if_false, ap, hputs_other this]; exact hs
    · simp only [h1, h2, Bool.false_eq_true, if_false]; exact hs

theorem foldS_none : ∀ (tr : Tr) (k : Nat) (s : EO), foldS (fun _ => false) k tr s = s := by
  intro tr
  induction tr with
  | nil => intro k s; rfl
  | cons x l ih => intro k s; simp only [foldS, Bool.false_eq_true, if_false]; exact ih _ _

/-- The last that wrote. -/
theorem foldS_env_last {t : Nat} {S : Nat → Bool} : ∀ (tr : Tr) (k : Nat) (s : EO) (j : Nat) x, tr[j]? = some x → S (k + j) = true → x.1.dst = some t →
    (∀ (i : Nat) y, tr[i]? = some y → j < i → S (k + i) = true → y.1.dst ≠ some t) → (foldS S k tr s).1 t = x.2.val := by
  intro tr
  induction tr with
  | nil => intro k s j x hj; simp at hj
  | cons a l ih =>
    intro k s j x hj hS hd h
    simp only [foldS]
    cases j with
    | zero =>
      simp at hj; subst hj
      simp only [Nat.add_zero] at hS
      rw [if_pos hS]
      have := foldS_env (t := t) (S := S) (S' := fun _ => false) l (k + 1) (ap a s) (ap a s) (fun i y hi hne => by
        have hSi : S (k + 1 + i) = true := by simpa using hne
        exact h (i + 1) y (by simpa using hi) (by omega) (by rwa [show k + (i + 1) = k + 1 + i by omega])) rfl
      rw [this, foldS_none]
      simp [ap, hd, eputO, eput]
    | succ j =>
      refine ih (k + 1) _ j x (by simpa using hj) (by rwa [show k + 1 + j = k + (j + 1) by omega]) hd fun i y hi hlt hSi => ?_
      exact h (i + 1) y (by simpa using hi) (by omega) (by rwa [show k + (i + 1) = k + 1 + i by omega])
theorem foldS_hp_last {z : Nat} {S : Nat → Bool} {o0 : Hp} : ∀ (tr : Tr) (k : Nat) (s : EO) (j : Nat) x, tr[j]? = some x → S (k + j) = true → z ∈ ids x.2.ups →
    (∀ (i : Nat) y, tr[i]? = some y → j < i → S (k + i) = true → z ∉ ids y.2.ups) → (foldS S k tr s).2 z = hputs o0 x.2.ups z := by
  intro tr
  induction tr with
  | nil => intro k s j x hj; simp at hj
  | cons a l ih =>
    intro k s j x hj hS hd h
    simp only [foldS]
    cases j with
    | zero =>
      simp at hj; subst hj
      simp only [Nat.add_zero] at hS
      rw [if_pos hS]
      have := foldS_hp (z := z) (S := S) (S' := fun _ => false) l (k + 1) (ap a s) (ap a s) (fun i y hi hne => by
        have hSi : S (k + 1 + i) = true := by simpa using hne
        exact h (i + 1) y (by simpa using hi) (by omega) (by rwa [show k + (i + 1) = k + 1 + i by omega])) rfl
      rw [this, foldS_none]
      exact hputs_in _ _ _ (.inl hd)
    | succ j =>
      refine ih (k + 1) _ j x (by simpa using hj) (by rwa [show k + 1 + j = k + (j + 1) by omega]) hd fun i y hi hlt hSi => ?_
      exact h (i + 1) y (by simpa using hi) (by omega) (by rwa [show k + (i + 1) = k + 1 + i by omega])

structure Ap (x y : Op' × Rec) : Prop where
  d1 : ∀ t, x.1.dst = some t → t ∉ looksT y.1
  d2 : ∀ t, y.1.dst = some t → t ∉ looksT x.1
  d3 : ∀ t, x.1.dst = some t → y.1.dst ≠ some t
  m1 : ∀ z ∈ ids x.2.ups, z ∉ y.2.rd ∧ z ∉ ids y.2.ups
  m2 : ∀ z ∈ ids y.2.ups, z ∉ x.2.rd

theorem Ap.symm {x y : Op' × Rec} (h : Ap x y) : Ap y x :=
  ⟨h.d2, h.d1, fun t h1 h2 => h.d3 t h2 h1, fun z hz => ⟨h.m2 z hz, fun hx => (h.m1 z hx).2 hz⟩, fun z hz => (h.m1 z hz).1⟩

/-- What one operation does is the same in every order. -/
theorem rec_any {tr : Tr} {s : EO} {S : Nat → Bool} {j : Nat} {x : Op' × Rec} (hj : tr[j]? = some x) (hr : recOf G cf base cx (runTr (tr.take j) s) x.1 = some x.2)
    (hap : ∀ (i : Nat) y, tr[i]? = some y → S i ≠ decide (i < j) → Ap x y) : recOf G cf base cx (foldS S 0 tr s) x.1 = some x.2 := by
  have h0 := foldS_lt j tr 0 s
  rw [Nat.sub_zero] at h0
  rw [← h0] at hr
  refine recOf_loc hr ?_ ?_ ?_
  · intro t ht
    refine foldS_env tr 0 s s (fun i y hi hne hd => ?_) rfl
    rw [Nat.zero_add] at hne
    exact (hap i y hi hne).d2 t hd ht
  · intro z hz
    refine foldS_hp tr 0 s s (fun i y hi hne hu => ?_) rfl
    rw [Nat.zero_add] at hne
    exact (hap i y hi hne).m2 z hu hz
  · intro z hz
    refine foldS_hp tr 0 s s (fun i y hi hne hu => ?_) rfl
    rw [Nat.zero_add] at hne
    exact ((hap i y hi hne).m1 z hz).2 hu

theorem ap_any {tr : Tr} {s : EO} {S S' : Nat → Bool} {j : Nat} {x : Op' × Rec} (hj : tr[j]? = some x) (hS : ∀ i, S' i = (S i || decide (i = j))) (hSj : S j = false)
    (hap : ∀ (i : Nat) y, tr[i]? = some y → j < i → S i = true → Ap x y) : ap x (foldS S 0 tr s) = foldS S' 0 tr s := by
  have hdiff : ∀ i, S i ≠ S' i → i = j := by
    intro i hi
    rw [hS] at hi
    by_cases h : i = j
    · exact h
    · simp [h] at hi
  have hSj' : S' j = true := by rw [hS]; simp
  have hlt : ∀ i, j < i → S' i = true → S i = true := by
    intro i hi h
    rw [hS] at h
    have : i ≠ j := by omega
    simpa [this] using h
  apply Prod.ext
  · funext t
    by_cases hd : x.1.dst = some t
    · rw [foldS_env_last tr 0 s j x hj (by rw [Nat.zero_add]; exact hSj') hd fun i y hi hji hSi => ?_]
      · simp [ap, hd, eputO, eput]
      · rw [Nat.zero_add] at hSi
        exact (hap i y hi hji (hlt i hji hSi)).d3 t hd
    · simp only [ap, eputO_other hd]
      refine foldS_env tr 0 s s (fun i y hi hne => ?_) rfl
      rw [Nat.zero_add] at hne
      have := hdiff i hne
      subst this
      rw [hj] at hi; cases hi
      exact hd
  · funext z
    by_cases hz : z ∈ ids x.2.ups
    · rw [foldS_hp_last (o0 := (foldS S 0 tr s).2) tr 0 s j x hj (by rw [Nat.zero_add]; exact hSj') hz fun i y hi hji hSi => ?_]
      · rfl
      · rw [Nat.zero_add] at hSi
        exact ((hap i y hi hji (hlt i hji hSi)).m1 z hz).2
    · simp only [ap, hputs_other hz]
      refine foldS_hp tr 0 s s (fun i y hi hne => ?_) rfl
      rw [Nat.zero_add] at hne
      have := hdiff i hne
      subst this
      rw [hj] at hi; cases hi
      exact hz
end
end Go.Proofs.YtoccgkgdhobmfaaDoor.Am

/- The abstract machine, part 23: regions. -/
set_option linter.unusedVariables false
set_option linter.unusedSimpArgs false
namespace Go.Proofs.YtoccgkgdhobmfaaDoor.Am
open Go

/-! ### What is checked of a region once -/

def directs (ops : List Oper) : List (List Nat) := ops.map fun o => (o.after.toList.filter (Region.binds .any)).map (·.on)
def maskOf (ms : List Nat) (d : List Nat) : Nat := d.foldl (fun m e => m ||| (1 <<< e) ||| ms.getD e 0) 0
def masks (ds : List (List Nat)) : List Nat := ds.foldl (fun acc d => acc ++ [maskOf acc d]) []
def masksOK (ms : List Nat) : Nat → List (List Nat) → Bool
  | _, [] => true
  | j, d :: ds => d.all (fun e => decide (e < j)) && (ms.getD j 0 == maskOf ms d) && masksOK ms (j + 1) ds

def apartT (x y : Op') : Bool :=
  (match x.dst with | some d => !(looksT y).contains d && y.dst != some d | none => true) && (match y.dst with | some d => !(looksT x).contains d | none => true)
def pairOK (draw : List (Nat × Nat)) (i j : Nat) (x y : Op') : Bool :=
  apartT x y && (memfree x.i || memfree y.i || (rdonly x.i && rdonly y.i) || draw.contains (i, j))
/-- An operation that may panic: nothing is free to come behind it, and nothing that touches memory before it. -/
def panOK (draw : List (Nat × Nat)) (ms : List Nat) (n : Nat) (p : Nat) : Bool :=
  ((List.range n).all fun j => decide (j ≤ p) || (ms.getD j 0).testBit p) && draw.all fun x => x.2 != p
def rowOK (draw : List (Nat × Nat)) (ms : List Nat) (i : Nat) (x : Op') : Nat → List Op' → Bool
  | _, [] => true
  | j, y :: r => ((ms.getD j 0).testBit i || pairOK draw i j x y) && rowOK draw ms i x (j + 1) r
def pairsOK (draw : List (Nat × Nat)) (ms : List Nat) : Nat → List Op' → Bool
  | _, [] => true
  | i, x :: r => rowOK draw ms i x (i + 1) r && pairsOK draw ms (i + 1) r

def chkGuard (ops : List Oper) (g : Option (Nat × Bool)) (h : Option (Nat × Bool)) : Bool :=
  match g, h with
  | none, none => true
  | some (j, b), some (t, c) => b == c && ((ops[j]?).bind (·.dst)) == some t
  | _, _ => false
def chkQ (P : Program) (nt : Nat) (ops : List Oper) (p : Oper) (q : Op') : Bool :=
  (p.dst == q.dst) && (match q.dst with | some d => decide (d < nt) | none => true) && chkOp P p q.i && chkGuard ops p.guard q.guard
def chkQs (P : Program) (nt : Nat) (ops : List Oper) : List Oper → List Op' → Bool
  | [], [] => true
  | p :: ps, q :: qs => chkQ P nt ops p q && chkQs P nt ops ps qs
  | _, _ => false
def allocsOK (n : Nat) : List Nat → Bool
  | [] => true
  | k :: r => decide (k < n) && !r.contains k && allocsOK n r
def chkRegion (P : Program) (nt : Nat) (ops : List Oper) (draws : Bool) (draw : Option (List (Nat × Nat) × List Nat)) (nalloc : Nat) (qs : List Op') : Bool :=
  chkQs P nt ops ops qs && allocsOK nalloc (qs.flatMap fun q => allocK q.i) &&
  (match draws, draw with
   | false, none => true
   | true, some l => masksOK (masks (directs ops)) 0 (directs ops) && pairsOK l.1 (masks (directs ops)) 0 qs && l.2.all (panOK l.1 (masks (directs ops)) qs.length)
   | _, _ => false)

/-! ### What the checks say -/

theorem maskOf_bit {ms : List Nat} {i : Nat} : ∀ {d : List Nat} {m : Nat}, (d.foldl (fun m e => m ||| (1 <<< e) ||| ms.getD e 0) m).testBit i = true → m.testBit i = true ∨ ∃ e ∈ d, e = i ∨ (ms.getD e 0).testBit i = true := by
  intro d
  induction d with
  | nil => intro m h; exact .inl h
  | cons e d ih =>
    intro m h
    simp only [List.foldl_cons] at h
    rcases ih h with h | ⟨e', h1, h2⟩
    · rw [Nat.testBit_or, Nat.testBit_or, Bool.or_eq_true, Bool.or_eq_true] at h
      rcases h with (h | h) | h
      · exact .inl h
      · refine .inr ⟨e, by simp, .inl ?_⟩
        rw [Nat.shiftLeft_eq, Nat.one_mul, Nat.testBit_two_pow] at h
        simpa using h
      · exact .inr ⟨e, by simp, .inr h⟩
    · exact .inr ⟨e', by simp [h1], h2⟩

theorem masksOK_spec {ms : List Nat} : ∀ {ds : List (List Nat)} {k : Nat}, masksOK ms k ds = true → ∀ (j : Nat) d, ds[j]? = some d → (∀ e ∈ d, e < k + j) ∧ ms.getD (k + j) 0 = maskOf ms d := by
  intro ds
  induction ds with
  | nil => intro k _ j d hj; simp at hj
  | cons a ds ih =>
    intro k h j d hj
    simp only [masksOK, Bool.and_eq_true, beq_iff_eq] at h
    obtain ⟨⟨h1, h2⟩, h3⟩ := h
    cases j with
    | zero => simp at hj; subst hj; rw [List.all_eq_true] at h1; exact ⟨fun e he => by simpa using h1 e he, h2⟩
    | succ j =>
      have := ih h3 j d (by simpa using hj)
      rw [show k + (j + 1) = k + 1 + j by omega]; exact this

/-- What stands before, in a set that is closed. -/
theorem mask_closed {ms : List Nat} {ds : List (List Nat)} (h : masksOK ms 0 ds = true) {S : Nat → Bool} (hS : ∀ j d, ds[j]? = some d → S j = true → ∀ e ∈ d, S e = true) :
    ∀ (j : Nat) d, ds[j]? = some d → (∀ e ∈ d, S e = true) → ∀ i, (ms.getD j 0).testBit i = true → S i = true := by
  intro j
  induction j using Nat.strongRecOn with
  | _ j ih =>
    intro d hd hdS i hi
    obtain ⟨h1, h2⟩ := masksOK_spec h j d hd
    rw [Nat.zero_add] at h1 h2
    rw [h2] at hi
    rcases maskOf_bit hi with h3 | ⟨e, he, h3⟩
    · simp at h3
    · rcases h3 with rfl | h3
      · exact hdS _ he
      · have hlt := h1 e he
        have hjl : j < ds.length := (List.getElem?_eq_some_iff.1 hd).1
        have hde : ds[e]? = some ds[e] := List.getElem?_eq_getElem (by omega)
        exact ih e hlt _ hde (fun e' he' => hS e _ hde (hdS e he) e' he') i h3

theorem rowOK_spec {draw : List (Nat × Nat)} {ms : List Nat} {i : Nat} {x : Op'} : ∀ {qs : List Op'} {k : Nat}, rowOK draw ms i x k qs = true → ∀ (j : Nat) y, qs[j]? = some y → (ms.getD (k + j) 0).testBit i = true ∨ pairOK draw i (k + j) x y = true := by
  intro qs
  induction qs with
  | nil => intro k _ j y hj; simp at hj
  | cons a qs ih =>
    intro k h j y hj
    simp only [rowOK, Bool.and_eq_true, Bool.or_eq_true] at h
    cases j with
    | zero => simp at hj; subst hj; exact h.1
    | succ j => rw [show k + (j + 1) = k + 1 + j by omega]; exact ih h.2 j y (by simpa using hj)
theorem pairsOK_spec {draw : List (Nat × Nat)} {ms : List Nat} : ∀ {qs : List Op'} {k : Nat}, pairsOK draw ms k qs = true → ∀ (i j : Nat) x y, qs[i]? = some x → qs[j]? = some y → i < j →
    (ms.getD (k + j) 0).testBit (k + i) = true ∨ pairOK draw (k + i) (k + j) x y = true := by
  intro qs
  induction qs with
  | nil => intro k _ i j x y hi; simp at hi
  | cons a qs ih =>
    intro k h i j x y hi hj hlt
    simp only [pairsOK, Bool.and_eq_true] at h
    cases j with
    | zero => omega
    | succ j =>
      cases i with
      | zero =>
        simp at hi; subst hi
        have := rowOK_spec h.1 j y (by simpa using hj)
        rw [show k + (j + 1) = k + 1 + j by omega]; exact this
      | succ i =>
        have := ih h.2 i j x y (by simpa using hi) (by simpa using hj) (by omega)
        rw [show k + (j + 1) = k + 1 + j by omega, show k + (i + 1) = k + 1 + i by omega]; exact this

theorem apartT_spec {x y : Op'} (h : apartT x y = true) : (∀ t, x.dst = some t → t ∉ looksT y) ∧ (∀ t, y.dst = some t → t ∉ looksT x) ∧ ∀ t, x.dst = some t → y.dst ≠ some t := by
  simp only [apartT, Bool.and_eq_true] at h
  refine ⟨fun t ht => ?_, fun t ht => ?_, fun t ht => ?_⟩
  · have := h.1; rw [ht] at this; simp only [Bool.and_eq_true, Bool.not_eq_true'] at this
    intro hm; have := this.1; rw [List.contains_iff_mem.2 hm] at this; cases this
  · have := h.2; rw [ht] at this; simp only [Bool.not_eq_true'] at this
    intro hm; rw [List.contains_iff_mem.2 hm] at this; cases this
  · have := h.1; rw [ht] at this; simp only [Bool.and_eq_true] at this
    simpa using this.2

theorem chkQs_spec {P : Program} {nt : Nat} {ops : List Oper} : ∀ {ps : List Oper} {qs : List Op'}, chkQs P nt ops ps qs = true → ps.length = qs.length ∧ ∀ (j : Nat) p q, ps[j]? = some p → qs[j]? = some q → chkQ P nt ops p q = true := by
  intro ps
  induction ps with
  | nil => intro qs h; cases qs with | nil => exact ⟨rfl, by simp⟩ | cons _ _ => cases h
  | cons p ps ih =>
    intro qs h
    cases qs with
    | nil => cases h
    | cons q qs =>
      simp only [chkQs, Bool.and_eq_true] at h
      obtain ⟨h1, h2⟩ := ih h.2
      refine ⟨by simp [h1], fun j u v hj hv => ?_⟩
      cases j with
      | zero => simp at hj hv; subst hj; subst hv; exact h.1
      | succ j => exact h2 j u v (by simpa using hj) (by simpa using hv)

theorem allocsOK_spec {n : Nat} : ∀ {l : List Nat}, allocsOK n l = true → (∀ k ∈ l, k < n) ∧ l.Nodup := by
  intro l
  induction l with
  | nil => intro _; simp
  | cons k r ih =>
    intro h
    simp only [allocsOK, Bool.and_eq_true, decide_eq_true_eq, Bool.not_eq_true'] at h
    obtain ⟨h1, h2⟩ := ih h.2
    refine ⟨by intro x hx; rcases List.mem_cons.1 hx with rfl | hx; exact h.1.1; exact h1 x hx, List.nodup_cons.2 ⟨fun hm => ?_, h2⟩⟩
    have := h.1.2; rw [List.contains_iff_mem.2 hm] at this; cases this

theorem allocs_apart : ∀ {qs : List Op'}, (qs.flatMap fun q => allocK q.i).Nodup → ∀ (i j : Nat) x y, qs[i]? = some x → qs[j]? = some y → i ≠ j → ∀ k ∈ allocK x.i, k ∉ allocK y.i := by
  intro qs
  induction qs with
  | nil => intro _ i j x y hi; simp at hi
  | cons a qs ih =>
    intro h i j x y hi hj hne k hk hk'
    simp only [List.flatMap_cons] at h
    obtain ⟨h1, h2, h3⟩ := List.nodup_append.1 h
    cases i with
    | zero =>
      cases j with
      | zero => exact hne rfl
      | succ j =>
        simp at hi hj; subst hi
        exact h3 k hk k (List.mem_flatMap.2 ⟨y, List.mem_of_getElem? hj, hk'⟩) rfl
    | succ i =>
      cases j with
      | zero =>
        simp at hi hj; subst hj
        exact h3 k hk' k (List.mem_flatMap.2 ⟨x, List.mem_of_getElem? hi, hk⟩) rfl
      | succ j => exact ih h2 i j x y (by simpa using hi) (by simpa using hj) (by omega) k hk hk'

theorem checkPairs_spec {fps : List Fp} : ∀ {l : List (Nat × Nat)}, checkPairs fps l = true → ∀ i j, (i, j) ∈ l → fpsApart (fps.getD i ⟨[], []⟩) (fps.getD j ⟨[], []⟩) = true := by
  intro l
  induction l with
  | nil => intro _ i j h; cases h
  | cons x l ih =>
    intro h i j hm
    obtain ⟨a, b⟩ := x
    simp only [checkPairs, Bool.and_eq_true] at h
    rcases List.mem_cons.1 hm with h' | h'
    · cases h'; exact h.1
    · exact ih h.2 i j h'

theorem apart_spec {a b : List Nat} (h : apart a b = true) : ∀ z ∈ a, z ∉ b := by
  intro z hz hb
  unfold apart at h
  rw [List.all_eq_true] at h
  have := h z hz
  rw [List.contains_iff_mem.2 hb] at this
  cases this
end Go.Proofs.YtoccgkgdhobmfaaDoor.Am

/- The abstract machine, part 24: a region, as the model runs it. -/
set_option linter.unusedVariables false
set_option linter.unusedSimpArgs false
namespace Go.Proofs.YtoccgkgdhobmfaaDoor.Am
open Go

/-- What a run may do to memory and names. -/
structure Grow (M0 : Mem) (β0 : Names) (N0 : Nat) (Lb : Nat → Prop) (w0 : World) (M : Mem) (β : Names) : Prop where
  mem : ∀ b y, M0 b = some y → M b = some y
  old : ∀ b, b < w0.heap.size → ¬ Lb b → M b = M0 b
  nam : ∀ i k, β0 i = some k → β i = some k
  new : ∀ i k, β i = some k → β0 i = some k ∨ N0 ≤ i

theorem Grow.refl (M0 : Mem) (β0 : Names) (N0 : Nat) (Lb : Nat → Prop) (w0 : World) : Grow M0 β0 N0 Lb w0 M0 β0 := ⟨fun _ _ h => h, fun _ _ _ => rfl, fun _ _ h => h, fun _ _ h => .inl h⟩
theorem Grow.ext {M0 : Mem} {β0 : Names} {N0 : Nat} {Lb : Nat → Prop} {w0 : World} {M M' : Mem} {β β' : Names} {ks : List Nat} (h : Grow M0 β0 N0 Lb w0 M β) (k : Ext M β Lb w0 ks M' β') (hk : ∀ i ∈ ks, N0 ≤ i) :
    Grow M0 β0 N0 Lb w0 M' β' where
  mem b y hb := k.mem b y (h.mem b y hb)
  old b hb hn := (k.old b hb hn).trans (h.old b hb hn)
  nam i x hi := k.nam i x (h.nam i x hi)
  new i x hi := (k.new i x hi).elim (h.new i x) fun hm => .inr (hk i hm)
theorem GOK.mono {M M' : Mem} {G : Nat → Option (List V)} (h : GOK M G) (hm : ∀ b y, M b = some y → M' b = some y) : GOK M' G := fun g cs hg => (h g cs hg).mono hm

theorem EnvR.put {M : Mem} {β : Names} {e : Env} {a : Go.Act} {v : V} {x : Value} {d : Option Nat} (h : EnvR M β e a) (hv : Rel M β v x) (hd : ∀ t, d = some t → t < a.tmps.size) : EnvR M β (eputO e d v) (a.put d x) := by
  cases d with
  | none => exact h
  | some d =>
    intro s
    have hlt := hd d rfl
    simp only [eputO, eput, Act.put]
    by_cases e' : s = d
    · subst e'; simp only [if_true]; rw [Array.getD_eq_getD_getElem?]; simpa [hlt] using hv
    · rw [if_neg e', Array.getD_eq_getD_getElem?, Array.getElem?_setIfInBounds_ne (Ne.symm e')]
      have := h s; rwa [Array.getD_eq_getD_getElem?] at this
theorem EnvR.mono {M M' : Mem} {β β' : Names} {e : Env} {a : Go.Act} (h : EnvR M β e a) (hm : ∀ b y, M b = some y → M' b = some y) (hn : ∀ i k, β i = some k → β' i = some k) : EnvR M' β' e a :=
  fun s => (h s).mono hm hn
theorem put_size (a : Go.Act) (d : Option Nat) (x : Value) : (a.put d x).tmps.size = a.tmps.size := by cases d <;> simp [Act.put]
theorem put_defers (a : Go.Act) (d : Option Nat) (x : Value) : (a.put d x).defers = a.defers := by cases d <;> rfl

theorem wanted_sound {M : Mem} {β : Names} {e : Env} {a : Go.Act} {ops : Array Oper} {p : Oper} {g : Option (Nat × Bool)} {b : Bool} (hc : chkGuard ops.toList p.guard g = true) (he : EnvR M β e a) (hw : wantedV e g = some b) :
    Region.wanted p (yielded ops a.tmps) = b := by
  unfold chkGuard at hc
  cases hpg : p.guard with
  | none =>
    rw [hpg] at hc
    cases g with
    | none => cases hw; simp [Region.wanted, hpg]
    | some x => cases hc
  | some x =>
    obtain ⟨j, b1⟩ := x
    rw [hpg] at hc
    cases g with
    | none => cases hc
    | some y =>
      obtain ⟨t, c⟩ := y
      simp only [Bool.and_eq_true, beq_iff_eq, Array.getElem?_toList] at hc
      obtain ⟨rfl, hd⟩ := hc
      simp only [wantedV] at hw
      split at hw
      · rename_i d hd'
        cases hw
        have hr := he t
        rw [hd'] at hr
        have := hr.bool_inv
        rw [Array.getD_eq_getD_getElem?] at this
        have hsome : a.tmps[t]? = some (.bool d) := by
          cases hx : a.tmps[t]? with
          | none => rw [hx] at this; simp [undef] at this
          | some y => rw [hx] at this; simpa using this
        simp only [Region.wanted, hpg, yielded, hd, Option.bind_some, hsome]
        cases d <;> cases b1 <;> rfl
      · cases hw

section
variable {P : Program} {G : Nat → Option (List V)} {cf : CallFn} {M0 : Mem} {β0 : Names} {N0 : Nat} {Lb : Nat → Prop} {w0 : World} {nt base cx : Nat} {ops : Array Oper} {qs : List Op'} {tr : Tr} {s0 : EO}

def Inv (M0 : Mem) (β0 : Names) (N0 : Nat) (Lb : Nat → Prop) (w0 : World) (nt base cx : Nat) (qs : List Op') (tr : Tr) (s0 : EO) (S : Nat → Bool) (a : Go.Act) (w : World) : Prop :=
  ∃ M β, Grow M0 β0 N0 Lb w0 M β ∧ Ok M β cx Lb w0 (foldS S 0 tr s0).2 w ∧ EnvR M β (foldS S 0 tr s0).1 a ∧ a.tmps.size = nt ∧ a.defers = [] ∧
    ∀ (j : Nat) q, qs[j]? = some q → S j = false → ∀ k ∈ allocK q.i, β (base + k) = none

theorem chkQ_spec {p : Oper} {q : Op'} (h : chkQ P nt ops.toList p q = true) : p.dst = q.dst ∧ (∀ t, q.dst = some t → t < nt) ∧ chkOp P p q.i = true ∧ chkGuard ops.toList p.guard q.guard = true := by
  simp only [chkQ, Bool.and_eq_true, beq_iff_eq] at h
  refine ⟨h.1.1.1, fun t ht => ?_, h.1.2, h.2⟩
  have := h.1.1.2
  rw [ht] at this
  simpa using this

theorem op_step (hcf : CallOk P G cf) (hg : GOK M0 G) (hN : N0 ≤ base) (halloc : ∀ k ∈ qs.flatMap (fun q => allocK q.i), base + k < cx) (hnd : (qs.flatMap fun q => allocK q.i).Nodup)
    {j : Nat} {p : Oper} {q : Op'} {r : Rec} (hp : ops[j]? = some p) (hq : qs[j]? = some q) (hchk : chkQ P nt ops.toList p q = true) {S S' : Nat → Bool} {a : Go.Act} {w : World} (hS : S j = false)
    (hinv : Inv M0 β0 N0 Lb w0 nt base cx qs tr s0 S a w) (hrec : recOf G cf base cx (foldS S 0 tr s0) q = some r) (hap : ap (q, r) (foldS S 0 tr s0) = foldS S' 0 tr s0) (hS' : ∀ i, S' i = (S i || decide (i = j)))
    {K : Go.Act → World → Prop} {Q : Exit → Go.Act → World → Prop} (hK : ∀ a w, Inv M0 β0 N0 Lb w0 nt base cx qs tr s0 S' a w → K a w) : wpOp P ops Q j K a w := by
  obtain ⟨M, β, hgrow, hk, he, hsz, hdef, hfr⟩ := hinv
  obtain ⟨c1, c2, c3, c4⟩ := chkQ_spec hchk
  unfold wpOp
  rw [hp]
  simp only
  unfold recOf at hrec
  have hfr' : ∀ (k' : Nat) q', qs[k']? = some q' → S' k' = false → S k' = false ∧ k' ≠ j := by
    intro k' q' _ h
    rw [hS'] at h
    simpa using h
  split at hrec
  · rename_i hw
    split at hrec
    · rename_i v u fp hd
      cases hrec
      have hwant := wanted_sound c4 he hw
      rw [if_pos hwant]
      refine .inl (doOp_sound (ks := (allocK q.i).map (base + ·)) hcf hd c3 hk he (hg.mono hgrow.mem) ?_ ?_ ?_)
      · intro k hk'
        exact ⟨hfr j q hq hS k hk', halloc k (List.mem_flatMap.2 ⟨q, List.mem_of_getElem? hq, hk'⟩), List.mem_map.2 ⟨k, hk', rfl⟩⟩
      · intro v' u' fp' M' β' w' x hdid hext hok hrel
        cases hdid
        refine hK _ _ ⟨M', β', hgrow.ext hext ?_, ?_, ?_, by rw [put_size]; exact hsz, by rw [put_defers]; exact hdef, ?_⟩
        · intro i hi
          obtain ⟨k, _, rfl⟩ := List.mem_map.1 hi
          omega
        · rw [← hap]; exact hok
        · rw [← hap, c1]
          exact (he.mono hext.mem hext.nam).put hrel fun t ht => by rw [hsz]; exact c2 t ht
        · intro k' q' hq' hSk kk hkk
          obtain ⟨h1, h2⟩ := hfr' k' q' hq' hSk
          have h3 := hfr k' q' hq' h1 kk hkk
          cases hb : β' (base + kk) with
          | none => rfl
          | some y =>
            rcases hext.new _ _ hb with h | h
            · rw [h3] at h; cases h
            · obtain ⟨k2, hk2, he2⟩ := List.mem_map.1 h
              have : k2 = kk := by omega
              subst this
              exact absurd hk2 (allocs_apart hnd k' j q' q hq' hq h2 k2 hkk)
      · intro v' x w' hdid; cases hdid
    · cases hrec
  · rename_i hw
    cases hrec
    have hwant := wanted_sound c4 he hw
    rw [if_neg (by rw [hwant]; simp)]
    refine hK _ _ ⟨M, β, hgrow, ?_, ?_, by rw [put_size]; exact hsz, by rw [put_defers]; exact hdef, fun k' q' hq' hSk => hfr k' q' hq' (hfr' k' q' hq' hSk).1⟩
    · rw [← hap]; exact hk
    · rw [← hap, c1]
      exact he.put (.pure (.junk _)) fun t ht => by rw [hsz]; exact c2 t ht
  · cases hrec

theorem op_panic (hcf : CallOk P G cf) (hg : GOK M0 G) (halloc : ∀ k ∈ qs.flatMap (fun q => allocK q.i), base + k < cx)
    {j : Nat} {p : Oper} {q : Op'} {v : V} (hp : ops[j]? = some p) (hq : qs[j]? = some q) (hchk : chkQ P nt ops.toList p q = true) {S : Nat → Bool} {a : Go.Act} {w : World} (hS : S j = false)
    (hinv : Inv M0 β0 N0 Lb w0 nt base cx qs tr s0 S a w) (hw : wantedV (foldS S 0 tr s0).1 q.guard = some true) (hd : doOp G cf base cx (foldS S 0 tr s0).1 (foldS S 0 tr s0).2 q.i = some (.panic v))
    {K : Go.Act → World → Prop} {Q : Exit → Go.Act → World → Prop} (hQ : ∀ x a w', PRel (fun _ => none) v x → a.defers = [] → Kp Lb w0 w' → Q (.panic [{ v := x, recovered := false }]) a w') : wpOp P ops Q j K a w := by
  obtain ⟨M, β, hgrow, hk, he, hsz, hdef, hfr⟩ := hinv
  obtain ⟨c1, c2, c3, c4⟩ := chkQ_spec hchk
  unfold wpOp
  rw [hp]
  simp only
  have hwant := wanted_sound c4 he hw
  rw [if_pos hwant]
  refine .inl (doOp_sound (ks := (allocK q.i).map (base + ·)) hcf hd c3 hk he (hg.mono hgrow.mem) ?_ ?_ ?_)
  · intro k hk'
    exact ⟨hfr j q hq hS k hk', halloc k (List.mem_flatMap.2 ⟨q, List.mem_of_getElem? hq, hk'⟩), List.mem_map.2 ⟨k, hk', rfl⟩⟩
  · intro v' u' fp' M' β' w' x hdid; cases hdid
  · intro v' x w' hdid hp hkp
    cases hdid
    exact hQ x a w' hp hdef hkp

/-- The operations that follow one another in the order of the text. -/
theorem text_ok (hcf : CallOk P G cf) (hg : GOK M0 G) (hN : N0 ≤ base) (halloc : ∀ k ∈ qs.flatMap (fun q => allocK q.i), base + k < cx) (hnd : (qs.flatMap fun q => allocK q.i).Nodup)
    (hchk : ∀ (j : Nat) p q, ops[j]? = some p → qs[j]? = some q → chkQ P nt ops.toList p q = true) (hlen : ops.size = qs.length)
    (htr : ∀ (j : Nat) x, tr[j]? = some x → qs[j]? = some x.1 ∧ recOf G cf base cx (runTr (tr.take j) s0) x.1 = some x.2) {Q : Exit → Go.Act → World → Prop}
    (hend : (tr.length = qs.length ∧ ∀ a w, Inv M0 β0 N0 Lb w0 nt base cx qs tr s0 (fun i => decide (i < tr.length)) a w → Q .normal a w) ∨
      ∃ v q, qs[tr.length]? = some q ∧ wantedV (runTr tr s0).1 q.guard = some true ∧ doOp G cf base cx (runTr tr s0).1 (runTr tr s0).2 q.i = some (.panic v) ∧
        ∀ x a w', PRel (fun _ => none) v x → a.defers = [] → Kp Lb w0 w' → Q (.panic [{ v := x, recovered := false }]) a w') :
    ∀ (n j : Nat) (a : Go.Act) (w : World), n + j = ops.size → j ≤ tr.length → Inv M0 β0 N0 Lb w0 nt base cx qs tr s0 (fun i => decide (i < j)) a w → wpOps P ops Q (List.range' j n) a w := by
  intro n
  induction n with
  | zero =>
    intro j a w hj hjt hinv
    simp only [List.range'_zero, wpOps]
    rcases hend with ⟨h1, h2⟩ | ⟨v, q, h1, h2, h3, h4⟩
    · have : j = tr.length := by omega
      subst this
      exact h2 a w hinv
    · have := (List.getElem?_eq_some_iff.1 h1).1
      omega
  | succ n ih =>
    intro j a w hj hjt hinv
    rw [List.range'_succ, wpOps_cons]
    have hjo : j < ops.size := by omega
    have hp : ops[j]? = some ops[j] := Array.getElem?_eq_getElem hjo
    by_cases hlt : j < tr.length
    · have hx : tr[j]? = some tr[j] := List.getElem?_eq_getElem hlt
      obtain ⟨h1, h2⟩ := htr j _ hx
      have h0 := foldS_lt j tr 0 s0
      rw [Nat.sub_zero] at h0
      have hr1 : recOf G cf base cx (foldS (fun i => decide (i < j)) 0 tr s0) tr[j].1 = some tr[j].2 := by rw [h0]; exact h2
      have hap := ap_any (S := fun i => decide (i < j)) (S' := fun i => decide (i < j + 1)) (s := s0) hx (fun i => by
        by_cases h : i < j
        · simp [h]; omega
        · by_cases h' : i = j
          · simp [h']
          · simp [h, h']; omega) (by simp) (fun i y _ hji hi => by simp at hi; omega)
      refine op_step hcf hg hN halloc hnd hp h1 (hchk j _ _ hp h1) (by simp) hinv hr1 (S' := fun i => decide (i < j + 1)) hap (fun i => by
        by_cases h : i < j
        · simp [h]; omega
        · by_cases h' : i = j
          · simp [h']
          · simp [h, h']; omega) ?_
      intro a' w' hinv'
      exact ih (j + 1) a' w' (by omega) (by omega) hinv'
    · have hje : j = tr.length := by omega
      rcases hend with ⟨h1, h2⟩ | ⟨v, q, h1, h2, h3, h4⟩
      · omega
      · subst hje
        have h0 := foldS_lt tr.length tr 0 s0
        rw [Nat.sub_zero, List.take_length] at h0
        exact op_panic hcf hg halloc hp h1 (hchk _ _ _ hp h1) (by simp) hinv (by rw [h0]; exact h2) (by rw [h0]; exact h3) h4
end
end Go.Proofs.YtoccgkgdhobmfaaDoor.Am

/- The abstract machine, part 25: a region whose order is drawn. -/
set_option linter.unusedVariables false
set_option linter.unusedSimpArgs false
namespace Go.Proofs.YtoccgkgdhobmfaaDoor.Am
open Go

def cnt (S : Nat → Bool) : Nat → Nat
  | 0 => 0
  | n + 1 => cnt S n + (if S n then 0 else 1)
theorem cnt_zero {S : Nat → Bool} : ∀ {n : Nat}, cnt S n = 0 → ∀ i, i < n → S i = true := by
  intro n
  induction n with
  | zero => intro _ i h; omega
  | succ n ih =>
    intro h i hi
    simp only [cnt] at h
    by_cases hs : S n = true
    · by_cases e : i = n
      · rw [e]; exact hs
      · exact ih (by omega) i (by omega)
    · rw [if_neg hs] at h; omega
theorem cnt_set {S S' : Nat → Bool} {j : Nat} (h : ∀ i, S' i = (S i || decide (i = j))) (hj : S j = false) : ∀ {n : Nat}, cnt S n = cnt S' n + (if j < n then 1 else 0) := by
  intro n
  induction n with
  | zero => rfl
  | succ n ih =>
    simp only [cnt]
    rw [ih, h n]
    by_cases e : n = j
    · subst e; simp [hj]
    · have : (j < n + 1) ↔ (j < n) := by omega
      simp only [e, decide_false, Bool.or_false, this]; omega

section
variable {P : Program} {G : Nat → Option (List V)} {cf : CallFn} {M0 : Mem} {β0 : Names} {N0 : Nat} {Lb : Nat → Prop} {w0 : World} {nt base cx : Nat} {ops : Array Oper} {qs : List Op'} {tr : Tr} {s0 : EO}

def sOf (listed : Array Bool) (i : Nat) : Bool := listed.getD i false
theorem sOf_set {listed : Array Bool} {j : Nat} (hj : j < listed.size) (i : Nat) : sOf (listed.setIfInBounds j true) i = (sOf listed i || decide (i = j)) := by
  unfold sOf
  rw [Array.getD_eq_getD_getElem?, Array.getD_eq_getD_getElem?]
  by_cases h : i = j
  · subst h; simp [hj]
  · rw [Array.getElem?_setIfInBounds_ne (Ne.symm h)]; simp [h]

theorem directs_get {j : Nat} {p : Oper} (h : ops[j]? = some p) : (directs ops.toList)[j]? = some ((p.after.toList.filter (Region.binds .any)).map (·.on)) := by
  unfold directs
  rw [List.getElem?_map, Array.getElem?_toList, h]; rfl

theorem any_ok (hcf : CallOk P G cf) (hg : GOK M0 G) (hN : N0 ≤ base) (halloc : ∀ k ∈ qs.flatMap (fun q => allocK q.i), base + k < cx) (hnd : (qs.flatMap fun q => allocK q.i).Nodup)
    (hchk : ∀ (j : Nat) p q, ops[j]? = some p → qs[j]? = some q → chkQ P nt ops.toList p q = true) (hlen : ops.size = qs.length)
    (htr : ∀ (j : Nat) x, tr[j]? = some x → qs[j]? = some x.1 ∧ recOf G cf base cx (runTr (tr.take j) s0) x.1 = some x.2) {ms : List Nat} (hms : masksOK ms 0 (directs ops.toList) = true)
    (hB : ∀ (i j : Nat) x y, tr[i]? = some x → tr[j]? = some y → i < j → (ms.getD j 0).testBit i = true ∨ Ap x y) {Q : Exit → Go.Act → World → Prop}
    (hend : (tr.length = qs.length ∧ ∀ S a w, (∀ i, i < tr.length → S i = true) → Inv M0 β0 N0 Lb w0 nt base cx qs tr s0 S a w → Q .normal a w) ∨
      ∃ v q, qs[tr.length]? = some q ∧ wantedV (runTr tr s0).1 q.guard = some true ∧ doOp G cf base cx (runTr tr s0).1 (runTr tr s0).2 q.i = some (.panic v) ∧
        (∀ (i : Nat) x, tr[i]? = some x → (ms.getD tr.length 0).testBit i = false → (∀ t, x.1.dst = some t → t ∉ looksT q) ∧ (memfree q.i = true ∨ ids x.2.ups = [])) ∧
        (∀ j, tr.length < j → j < qs.length → (ms.getD j 0).testBit tr.length = true) ∧
        ∀ x a w', PRel (fun _ => none) v x → a.defers = [] → Kp Lb w0 w' → Q (.panic [{ v := x, recovered := false }]) a w') :
    ∀ (fuel : Nat) (listed : Array Bool) (a : Go.Act) (w : World), listed.size = ops.size → cnt (sOf listed) ops.size ≤ fuel →
      (∀ j d, (directs ops.toList)[j]? = some d → sOf listed j = true → ∀ e ∈ d, sOf listed e = true) → (∀ i, sOf listed i = true → i < tr.length) →
      Inv M0 β0 N0 Lb w0 nt base cx qs tr s0 (sOf listed) a w → wpAny P .any ops Q fuel listed a w := by
  -- nothing left: all is done
  have fin : ∀ (listed : Array Bool) (a : Go.Act) (w : World), listed.size = ops.size → Region.ready .any ops listed = [] → (∀ i, sOf listed i = true → i < tr.length) →
      Inv M0 β0 N0 Lb w0 nt base cx qs tr s0 (sOf listed) a w → Q .normal a w := by
    intro listed a w hsz hnil hin hinv
    have hall : ∀ i, i < ops.size → sOf listed i = true := by
      intro i
      induction i using Nat.strongRecOn with
      | _ i ih =>
        intro hi
        cases hs : sOf listed i with
        | true => rfl
        | false =>
          exfalso
          have hp : ops[i]? = some ops[i] := Array.getElem?_eq_getElem hi
          have hmem : i ∈ Region.ready .any ops listed := by
            rw [mem_ready]
            refine ⟨?_, ops[i], hp, ?_⟩
            · unfold sOf at hs
              rw [Array.getD_eq_getD_getElem?] at hs ⊢
              have : i < listed.size := by omega
              rw [Array.getElem?_eq_getElem this] at hs ⊢
              simpa using hs
            · intro e he hb
              have hd := directs_get hp
              obtain ⟨h1, _⟩ := masksOK_spec hms i _ hd
              have hm : e.on ∈ ((ops[i].after.toList.filter (Region.binds .any)).map (·.on)) := List.mem_map.2 ⟨e, List.mem_filter.2 ⟨by simpa using he, hb⟩, rfl⟩
              have hlt := h1 _ hm
              rw [Nat.zero_add] at hlt
              exact ih e.on hlt (by omega)
          rw [hnil] at hmem; cases hmem
    rcases hend with ⟨h1, h2⟩ | ⟨v, q, h1, _⟩
    · exact h2 _ a w (fun i hi => hall i (by omega)) hinv
    · have h3 := (List.getElem?_eq_some_iff.1 h1).1
      have := hin tr.length (hall _ (by omega))
      omega
  intro fuel
  induction fuel with
  | zero =>
    intro listed a w hsz hcnt hcl hin hinv
    have hall := cnt_zero (Nat.le_zero.1 hcnt)
    have hnil : Region.ready .any ops listed = [] := by
      cases hr : Region.ready .any ops listed with
      | nil => rfl
      | cons i r =>
        exfalso
        have hm : i ∈ Region.ready .any ops listed := by rw [hr]; simp
        rw [mem_ready] at hm
        obtain ⟨h1, o, h2, _⟩ := hm
        have hi := (Array.getElem?_eq_some_iff.1 h2).1
        have := hall i hi
        unfold sOf at this
        rw [Array.getD_eq_getD_getElem?] at this h1
        have hl : i < listed.size := by omega
        rw [Array.getElem?_eq_getElem hl] at this h1
        simp at this h1
        rw [this] at h1; cases h1
    exact ⟨hnil, fin listed a w hsz hnil hin hinv⟩
  | succ fuel ih =>
    intro listed a w hsz hcnt hcl hin hinv
    refine ⟨fun hnil => fin listed a w hsz hnil hin hinv, fun i hi => ?_⟩
    rw [mem_ready] at hi
    obtain ⟨h1, p, h2, h3⟩ := hi
    have hio := (Array.getElem?_eq_some_iff.1 h2).1
    have hil : i < listed.size := by omega
    have hS : sOf listed i = false := by
      unfold sOf
      rw [Array.getD_eq_getD_getElem?] at h1 ⊢
      rw [Array.getElem?_eq_getElem hil] at h1 ⊢
      simpa using h1
    have hd := directs_get h2
    have hdS : ∀ e ∈ ((p.after.toList.filter (Region.binds .any)).map (·.on)), sOf listed e = true := by
      intro e he
      obtain ⟨ed, hed, rfl⟩ := List.mem_map.1 he
      obtain ⟨g1, g2⟩ := List.mem_filter.1 hed
      exact h3 ed (by simpa using g1) g2
    have hpre := mask_closed hms hcl i _ hd hdS
    have hpost : ∀ k, sOf listed k = true → (ms.getD k 0).testBit i = true → False := by
      intro k hk hb
      have hkl := hin k hk
      have hkq : k < ops.size := by
        have hx : tr[k]? = some tr[k] := List.getElem?_eq_getElem hkl
        have := (List.getElem?_eq_some_iff.1 (htr k _ hx).1).1
        omega
      have hdk := directs_get (Array.getElem?_eq_getElem hkq)
      have := mask_closed hms hcl k _ hdk (hcl k _ hdk hk) i hb
      rw [hS] at this; cases this
    have hqi : qs[i]? = some qs[i] := List.getElem?_eq_getElem (by omega)
    by_cases hlt : i < tr.length
    · have hx : tr[i]? = some tr[i] := List.getElem?_eq_getElem hlt
      obtain ⟨g1, g2⟩ := htr i _ hx
      have hap : ∀ (k : Nat) y, tr[k]? = some y → sOf listed k ≠ decide (k < i) → Ap tr[i] y := by
        intro k y hk hne
        by_cases hki : k < i
        · have hSk : sOf listed k = false := by simpa [hki] using hne
          rcases hB k i y _ hk hx hki with h | h
          · have := hpre k h
            rw [hSk] at this; cases this
          · exact h.symm
        · have hSk : sOf listed k = true := by simpa [hki] using hne
          have hne' : i ≠ k := fun e => by rw [← e, hS] at hSk; cases hSk
          rcases hB i k _ y hx hk (by omega) with h | h
          · exact (hpost k hSk h).elim
          · exact h
      have hset := sOf_set hil
      refine op_step hcf hg hN halloc hnd h2 g1 (hchk i _ _ h2 g1) hS hinv (rec_any hx g2 hap) (S' := sOf (listed.setIfInBounds i true)) (ap_any hx hset hS fun k y hk hik hSk => hap k y hk (by
        have : ¬ k < i := by omega
        simp [this, hSk])) hset ?_
      intro a' w' hinv'
      refine ih _ a' w' (by simpa using hsz) ?_ ?_ ?_ hinv'
      · have := cnt_set hset hS (n := ops.size)
        rw [if_pos hio] at this
        omega
      · intro j d hj hSj e he
        rw [hset] at hSj ⊢
        by_cases hji : j = i
        · subst hji
          rw [hd] at hj; cases hj
          rw [hdS e he]; rfl
        · have : sOf listed j = true := by simpa [hji] using hSj
          rw [hcl j d hj this e he]; rfl
      · intro k hk
        rw [hset] at hk
        by_cases hki : k = i
        · omega
        · exact hin k (by simpa [hki] using hk)
    · rcases hend with ⟨e1, e2⟩ | ⟨v, q, e1, e2, e3, e4, e5, e6⟩
      · omega
      · have hSp : sOf listed tr.length = false := by
          cases h : sOf listed tr.length with
          | false => rfl
          | true => have := hin _ h; omega
        by_cases hip : i = tr.length
        · subst hip
          have hag : ∀ (k : Nat) x, tr[k]? = some x → sOf listed k ≠ true → (∀ t, x.1.dst = some t → t ∉ looksT q) ∧ (memfree q.i = true ∨ ids x.2.ups = []) := by
            intro k x hk hSk
            refine e4 k x hk ?_
            cases hb : (ms.getD tr.length 0).testBit k with
            | false => rfl
            | true => exact absurd (hpre k hb) hSk
          have hall := foldS_all tr (fun _ => true) 0 s0 (fun _ _ => rfl)
          have henv : ∀ t ∈ looksT q, (foldS (sOf listed) 0 tr s0).1 t = (runTr tr s0).1 t := by
            intro t ht
            rw [← hall]
            refine foldS_env tr 0 s0 s0 (fun k y hk hne hdd => ?_) rfl
            rw [Nat.zero_add] at hne
            exact (hag k y hk hne).1 t hdd ht
          refine op_panic hcf hg halloc h2 e1 (hchk _ _ _ h2 e1) hS hinv ?_ ?_ e6
          · rw [wanted_loc henv]; exact e2
          · rw [doOp_env (e' := (runTr tr s0).1) fun t ht => henv t (List.mem_append_left _ ht)]
            by_cases hmf : memfree q.i = true
            · have : doOp G cf base cx (runTr tr s0).1 (foldS (sOf listed) 0 tr s0).2 q.i = doOp G cf base cx (runTr tr s0).1 (runTr tr s0).2 q.i := by
                have hp := doOp_panics e3
                cases hqq : q.i with
                | panic x => rfl
                | call f x r o => rw [hqq] at hmf; cases hmf
                | _ => rw [hqq] at hp; cases hp
              rw [this]; exact e3
            · have : (foldS (sOf listed) 0 tr s0).2 = (runTr tr s0).2 := by
                funext z
                rw [← hall]
                refine foldS_hp tr 0 s0 s0 (fun k y hk hne => ?_) rfl
                rw [Nat.zero_add] at hne
                rw [(hag k y hk hne).2.resolve_left hmf]; simp
              rw [this]; exact e3
        · have := hpre tr.length (e5 i (by omega) (by omega))
          rw [hSp] at this; cases this
end
end Go.Proofs.YtoccgkgdhobmfaaDoor.Am

/- The abstract machine, part 26: code. -/
set_option linter.unusedVariables false
set_option linter.unusedSimpArgs false
namespace Go.Proofs.YtoccgkgdhobmfaaDoor.Am
open Go

def chkCode (P : Program) (nt : Nat) : Code → MC → Bool
  | .skip, .skip => true
  | .label _, .skip => true
  | .region _ ops draw, .region d k qs => chkRegion P nt ops.toList draw d k qs
  | .seq a b, .seq a' b' => chkCode P nt a a' && chkCode P nt b b'
  | .cond c a b, .cond c' a' b' => chkA c c' && (chkCode P nt a a' && chkCode P nt b b')
  | .block i a, .block j a' => i == j && chkCode P nt a a'
  | .loop a, .loop a' => chkCode P nt a a'
  | .exit i, .exit j => i == j
  | .scope a, .scope a' => chkCode P nt a a'
  | .ret, .ret => true
  | _, _ => false

section
variable {P : Program} {G : Nat → Option (List V)} {cf : CallFn} {M0 : Mem} {β0 : Names} {N0 : Nat} {Lb : Nat → Prop} {w0 : World} {nt : Nat}

def Sim (M0 : Mem) (β0 : Names) (N0 : Nat) (Lb : Nat → Prop) (w0 : World) (nt : Nat) (s : St) (a : Go.Act) (w : World) : Prop :=
  ∃ M β, Grow M0 β0 N0 Lb w0 M β ∧ Ok M β s.N Lb w0 s.o w ∧ EnvR M β s.e a ∧ a.tmps.size = nt ∧ a.defers = [] ∧ N0 ≤ s.N

def Post (M0 : Mem) (β0 : Names) (N0 : Nat) (Lb : Nat → Prop) (w0 : World) (nt : Nat) (s : St) (Q : Exit → Go.Act → World → Prop) : Ex → Prop
  | .normal => ∀ a w, Sim M0 β0 N0 Lb w0 nt s a w → Q .normal a w
  | .exit i => ∀ a w, Sim M0 β0 N0 Lb w0 nt s a w → Q (.exit i) a w
  | .ret => ∀ a w, Sim M0 β0 N0 Lb w0 nt s a w → Q .ret a w
  | .panic v => ∀ x a w, PRel (fun _ => none) v x → a.defers = [] → Kp Lb w0 w → Q (.panic [{ v := x, recovered := false }]) a w

theorem Ok.more {M : Mem} {β : Names} {N N' : Nat} {o : Hp} {w : World} (h : Ok M β N Lb w0 o w) (hn : N ≤ N') : Ok M β N' Lb w0 o w :=
  ⟨⟨h.sr.sub, fun i k hk => Nat.lt_of_lt_of_le (h.sr.bnd i k hk) hn, h.sr.live, h.sr.inj⟩, h.kp⟩

theorem sOf_empty (n i : Nat) : sOf (Array.replicate n false) i = false := by
  unfold sOf
  rw [Array.getD_eq_getD_getElem?, Array.getElem?_replicate]
  split <;> rfl

theorem fps_get {tr : Tr} {j : Nat} {x : Op' × Rec} (h : tr[j]? = some x) : (tr.map (·.2.fp)).getD j ⟨[], []⟩ = x.2.fp := by
  rw [List.getD_eq_getElem?_getD, List.getElem?_map, h]; rfl

theorem pair_ap {l : List (Nat × Nat)} {tr : Tr} {s0 : EO} {base cx : Nat} (hl : checkPairs (tr.map (·.2.fp)) l = true)
    (htr : ∀ (j : Nat) x, tr[j]? = some x → recOf G cf base cx (runTr (tr.take j) s0) x.1 = some x.2) {i j : Nat} {x y : Op' × Rec} (hx : tr[i]? = some x) (hy : tr[j]? = some y)
    (hp : pairOK l i j x.1 y.1 = true) : Ap x y := by
  simp only [pairOK, Bool.and_eq_true, Bool.or_eq_true] at hp
  obtain ⟨h1, h2⟩ := hp
  obtain ⟨a1, a2, a3⟩ := apartT_spec h1
  have ronly : ∀ (k : Nat) z, tr[k]? = some z → rdonly z.1.i = true → ids z.2.ups = [] := by
    intro k z hz hm
    have := htr k z hz
    unfold recOf at this
    split at this
    · split at this
      · rename_i v u fp hd
        obtain ⟨q, r⟩ := z
        cases this
        simp [Rec.ups, doOp_rdonly hm hd, ids]
      · cases this
    · obtain ⟨q, r⟩ := z
      cases this; rfl
    · cases this
  have free : ∀ (k : Nat) z, tr[k]? = some z → memfree z.1.i = true → ids z.2.ups = [] ∧ z.2.rd = [] := by
    intro k z hz hm
    have := htr k z hz
    unfold recOf at this
    split at this
    · split at this
      · rename_i v u fp hd
        obtain ⟨q, r⟩ := z
        cases this
        obtain ⟨e1, e2⟩ := doOp_free hm hd
        exact ⟨by simp [Rec.ups, e1, ids], by simp [Rec.rd, e2]⟩
      · cases this
    · obtain ⟨q, r⟩ := z
      cases this; exact ⟨rfl, rfl⟩
    · cases this
  rcases h2 with ((h2 | h2) | h2) | h2
  · obtain ⟨e1, e2⟩ := free i x hx h2
    exact ⟨a1, a2, a3, by rw [e1]; simp, by rw [e2]; simp⟩
  · obtain ⟨e1, e2⟩ := free j y hy h2
    exact ⟨a1, a2, a3, by rw [e1, e2]; simp, by rw [e1]; simp⟩
  · exact ⟨a1, a2, a3, by rw [ronly i x hx h2.1]; simp, by rw [ronly j y hy h2.2]; simp⟩
  · have hap := checkPairs_spec hl i j (by simpa using h2)
    rw [fps_get hx, fps_get hy] at hap
    simp only [fpsApart, Bool.and_eq_true, Rec.fp] at hap
    obtain ⟨⟨b1, b2⟩, b3⟩ := hap
    exact ⟨a1, a2, a3, fun z hz => ⟨apart_spec b2 z hz, apart_spec b1 z hz⟩, fun z hz => apart_spec b3 z hz⟩

theorem region_sound (hcf : CallOk P G cf) (hmix : P.follows .mixedOrders = true) (hg : GOK M0 G) {id : Nat} {ops : Array Oper} {draws : Bool} {d : Option (List (Nat × Nat) × List Nat)} {k : Nat} {qs : List Op'} {s s' : St} {x : Ex}
    (h : runRegion G cf d k qs s = some (x, s')) (hc : chkRegion P nt ops.toList draws d k qs = true) {a : Go.Act} {w : World} (hs : Sim M0 β0 N0 Lb w0 nt s a w) {Q : Exit → Go.Act → World → Prop}
    (hQ : Post M0 β0 N0 Lb w0 nt s' Q x) : (Code.region id ops draws).wp P Q a w := by
  obtain ⟨M, β, hgrow, hk, he, hsz, hdef, hN⟩ := hs
  simp only [chkRegion, Bool.and_eq_true] at hc
  obtain ⟨⟨hc1, hc2⟩, hc3⟩ := hc
  obtain ⟨hlen, hchk⟩ := chkQs_spec hc1
  obtain ⟨hal, hnd⟩ := allocsOK_spec hc2
  have halloc : ∀ kk ∈ qs.flatMap (fun q => allocK q.i), s.N + kk < s.N + k := fun kk hkk => by have := hal kk hkk; omega
  have hchk' : ∀ (j : Nat) p q, ops[j]? = some p → qs[j]? = some q → chkQ P nt ops.toList p q = true := fun j p q hp hq => hchk j p q (by rw [Array.getElem?_toList]; exact hp) hq
  have hlen' : ops.size = qs.length := by rw [← hlen]; simp
  have hinv : ∀ {tr : Tr} {S : Nat → Bool} {w' : World}, (∀ i, S i = false) → SR M β s.N (WrOf Lb w0) s.o w' → Kp Lb w0 w' → Inv M0 β0 N0 Lb w0 nt s.N (s.N + k) qs tr (s.e, s.o) S a w' := by
    intro tr S w' hS hsr hkp
    have hSe : S = fun _ => false := funext hS
    subst hSe
    refine ⟨M, β, hgrow, ?_, ?_, hsz, hdef, ?_⟩
    · rw [foldS_none]; exact Ok.more ⟨hsr, hkp⟩ (by omega)
    · rw [foldS_none]; exact he
    · intro j q hq _ kk hkk
      cases hb : β (s.N + kk) with
      | none => rfl
      | some y => have := hk.sr.bnd _ _ hb; omega
  unfold runRegion at h
  -- the run in the order of the text
  have main : ∀ (rr : RR), runOps G cf s.N (s.N + k) qs s.e s.o [] = some rr → ∃ tr : Tr, (∀ (j : Nat) x, tr[j]? = some x → qs[j]? = some x.1 ∧ recOf G cf s.N (s.N + k) (runTr (tr.take j) (s.e, s.o)) x.1 = some x.2) ∧ TrEnd G cf s.N (s.N + k) qs tr (s.e, s.o) [] rr :=
    fun rr hr => runOps_tr qs s.e s.o [] rr hr
  split at h
  · rename_i e' o' fps hrun
    obtain ⟨tr, htr, hend⟩ := main _ hrun
    obtain ⟨t1, t2, t3⟩ := hend
    rw [List.reverse_nil, List.nil_append] at t2
    have hdone : ∀ S a w, (∀ i, i < tr.length → S i = true) → Inv M0 β0 N0 Lb w0 nt s.N (s.N + k) qs tr (s.e, s.o) S a w → x = .normal → s' = ⟨e', o', s.N + k⟩ → Q .normal a w := by
      rintro S a w hS ⟨M', β', g1, g2, g3, g4, g5, _⟩ rfl rfl
      rw [foldS_all tr S 0 _ (fun i hi => by rw [Nat.zero_add]; exact hS i hi), t3] at g2 g3
      exact hQ a w ⟨M', β', g1, g2, g3, g4, g5, by show N0 ≤ s.N + k; omega⟩
    split at h
    · rename_i hpairs
      cases h
      cases d with
      | none =>
        cases draws with
        | true => cases hc3
        | false =>
          apply wp_region
          rw [List.range_eq_range']
          refine text_ok (β0 := β0) (base := s.N) (cx := s.N + k) (s0 := (s.e, s.o)) hcf hg hN halloc hnd hchk' hlen' htr (.inl ⟨t1, fun a w hi => hdone _ a w (fun i hi => by simpa using hi) hi rfl rfl⟩) ops.size 0 a w (by omega) (by omega) ?_
          exact hinv (fun i => by simp) hk.sr hk.kp
      | some l =>
        cases draws with
        | false => cases hc3
        | true =>
          simp only [Bool.and_eq_true] at hc3
          apply wp_region_any hmix
          refine any_ok (β0 := β0) (base := s.N) (cx := s.N + k) (s0 := (s.e, s.o)) (tr := tr) hcf hg hN halloc hnd hchk' hlen' htr hc3.1.1 ?_ (.inl ⟨t1, fun S a w hS hi => hdone S a w hS hi rfl rfl⟩) ops.size _ a _ (by simp) ?_ ?_ ?_ ?_
          · intro i j y z hi hj hlt
            have := pairsOK_spec hc3.1.2 i j y.1 z.1 (htr i y hi).1 (htr j z hj).1 hlt
            rw [Nat.zero_add, Nat.zero_add] at this
            exact this.imp (fun h => h) fun hp => pair_ap (by rw [← t2]; exact hpairs) (fun j x hj => (htr j x hj).2) hi hj hp
          · have : ∀ S n, cnt S n ≤ n := by
              intro S n
              induction n with
              | zero => exact Nat.le_refl _
              | succ n ih => simp only [cnt]; split <;> omega
            exact this _ _
          · intro j d' _ hj
            rw [sOf_empty] at hj; cases hj
          · intro i hi
            rw [sOf_empty] at hi; cases hi
          · exact hinv (fun i => sOf_empty _ i) hk.sr.drew hk.kp.drew
    · cases h
  · rename_i v fps hrun
    obtain ⟨tr, htr, hend⟩ := main _ hrun
    obtain ⟨t2, q, t3, t4, t5⟩ := hend
    rw [List.reverse_nil, List.nil_append] at t2
    split at h
    · rename_i hpairs
      cases h
      cases d with
      | none =>
        cases draws with
        | true => cases hc3
        | false =>
          apply wp_region
          rw [List.range_eq_range']
          refine text_ok (β0 := β0) (base := s.N) (cx := s.N + k) (s0 := (s.e, s.o)) hcf hg hN halloc hnd hchk' hlen' htr (.inr ⟨v, q, t3, t4, t5, hQ⟩) ops.size 0 a w (by omega) (by omega) ?_
          exact hinv (fun i => by simp) hk.sr hk.kp
      | some l =>
        cases draws with
        | false => cases hc3
        | true =>
          simp only [Bool.and_eq_true] at hc3
          simp only [drawPan, Bool.and_eq_true] at hpairs
          obtain ⟨hp1, hp2⟩ := hpairs
          have hfl : fps.length = tr.length := by rw [t2]; simp
          have hpan : panOK l.1 (masks (directs ops.toList)) qs.length tr.length = true := by
            have := hc3.2
            rw [List.all_eq_true] at this
            rw [hfl] at hp2
            exact this _ (List.contains_iff_mem.1 hp2)
          simp only [panOK, Bool.and_eq_true, List.all_eq_true] at hpan
          have hnol : ∀ i j, (i, j) ∈ l.1 → j ≠ tr.length := by
            intro i j hij
            simpa using hpan.2 _ hij
          have hmp := doOp_panics t5
          apply wp_region_any hmix
          refine any_ok (β0 := β0) (base := s.N) (cx := s.N + k) (s0 := (s.e, s.o)) (tr := tr) hcf hg hN halloc hnd hchk' hlen' htr hc3.1.1 ?_ (.inr ⟨v, q, t3, t4, t5, ?_, ?_, hQ⟩) ops.size _ a _ (by simp) ?_ ?_ ?_ ?_
          · intro i j y z hi hj hlt
            have := pairsOK_spec hc3.1.2 i j y.1 z.1 (htr i y hi).1 (htr j z hj).1 hlt
            rw [Nat.zero_add, Nat.zero_add] at this
            exact this.imp (fun h => h) fun hp => pair_ap (by rw [← t2]; exact hp1) (fun j x hj => (htr j x hj).2) hi hj hp
          · intro i y hi hb
            have hlt := (List.getElem?_eq_some_iff.1 hi).1
            have := pairsOK_spec hc3.1.2 i tr.length y.1 q (htr i y hi).1 t3 hlt
            rw [Nat.zero_add, Nat.zero_add] at this
            rcases this with h | h
            · rw [hb] at h; cases h
            · simp only [pairOK, Bool.and_eq_true, Bool.or_eq_true] at h
              obtain ⟨h1, h2⟩ := h
              refine ⟨(apartT_spec h1).1, ?_⟩
              rcases h2 with ((h2 | h2) | h2) | h2
              · right
                have := (htr i y hi).2
                unfold recOf at this
                split at this
                · split at this
                  · rename_i v' u fp hd
                    obtain ⟨q', r'⟩ := y
                    cases this
                    obtain ⟨e1, e2⟩ := doOp_free h2 hd
                    simp [Rec.ups, e1, ids]
                  · cases this
                · obtain ⟨q', r'⟩ := y
                  cases this; rfl
                · cases this
              · exact .inl h2
              · exfalso
                have := h2.2
                cases hqq : q.i <;> rw [hqq] at this hmp <;> first | (cases hmp; done) | (cases this; done)
              · exact absurd rfl (hnol _ _ (by simpa using h2))
          · intro j hj1 hj2
            have := hpan.1 j (List.mem_range.2 hj2)
            simp only [Bool.or_eq_true, decide_eq_true_eq] at this
            exact this.resolve_left (by omega)
          · have : ∀ S n, cnt S n ≤ n := by
              intro S n
              induction n with
              | zero => exact Nat.le_refl _
              | succ n ih => simp only [cnt]; split <;> omega
            exact this _ _
          · intro j d' _ hj
            rw [sOf_empty] at hj; cases hj
          · intro i hi
            rw [sOf_empty] at hi; cases hi
          · exact hinv (fun i => sOf_empty _ i) hk.sr.drew hk.kp.drew
    · cases h
  · cases h

/-! ### Code -/

theorem least {p : Nat → Prop} : ∀ n, p n → ∃ m, m ≤ n ∧ p m ∧ ∀ k, k < m → ¬ p k := by
  intro n
  induction n using Nat.strongRecOn with
  | _ n ih =>
    intro h
    by_cases hh : ∃ k, k < n ∧ p k
    · obtain ⟨k, h1, h2⟩ := hh
      obtain ⟨m, g1, g2, g3⟩ := ih k h1 h2
      exact ⟨m, by omega, g2, g3⟩
    · exact ⟨n, Nat.le_refl _, h, fun k hk hp => hh ⟨k, hk, hp⟩⟩

open Classical in
noncomputable def lst (p : Nat → Prop) : Nat := if h : ∃ n, p n then Classical.choose (least (Classical.choose h) (Classical.choose_spec h)) else 0
theorem lst_spec {p : Nat → Prop} (h : ∃ n, p n) : p (lst p) := by
  unfold lst
  rw [dif_pos h]
  exact (Classical.choose_spec (least (Classical.choose h) (Classical.choose_spec h))).2.1
theorem lst_le {p : Nat → Prop} {n : Nat} (h : p n) : lst p ≤ n := by
  unfold lst
  rw [dif_pos ⟨n, h⟩]
  have := (Classical.choose_spec (least (Classical.choose (⟨n, h⟩ : ∃ n, p n)) (Classical.choose_spec (⟨n, h⟩ : ∃ n, p n)))).2.2
  exact Nat.le_of_not_lt fun hlt => this _ hlt h

theorem Post.then {s : St} {x : Ex} {K : Go.Act → World → Prop} {Q : Exit → Go.Act → World → Prop} (hx : x ≠ .normal) (h : Post M0 β0 N0 Lb w0 nt s Q x) : Post M0 β0 N0 Lb w0 nt s (Exit.then K Q) x := by
  cases x with
  | normal => exact absurd rfl hx
  | exit i => exact h
  | ret => exact h
  | panic v => exact h

theorem iter_normal {body : St → Option (Ex × St)} : ∀ {n : Nat} {s s' : St}, iter body n s = some (.normal, s') → False := by
  intro n
  induction n with
  | zero => intro s s' h; cases h
  | succ n ih =>
    intro s s' h
    simp only [iter] at h
    split at h
    · exact ih h
    · rename_i hne
      exact hne _ h

theorem exec_sound (hcf : CallOk P G cf) (hmix : P.follows .mixedOrders = true) (hg : GOK M0 G) {n : Nat} : ∀ (m : MC) (c : Code) (s s' : St) (x : Ex), exec G cf n m s = some (x, s') → chkCode P nt c m = true →
    ∀ (a : Go.Act) (w : World), Sim M0 β0 N0 Lb w0 nt s a w → ∀ (Q : Exit → Go.Act → World → Prop), Post M0 β0 N0 Lb w0 nt s' Q x → c.wp P Q a w := by
  intro m
  induction m with
  | skip =>
    intro c s s' x h hc a w hs Q hQ
    cases h
    cases c <;> simp only [chkCode, Bool.false_eq_true] at hc
    · exact wp_skip (hQ a w hs)
    · exact wp_label (hQ a w hs)
  | region d k qs =>
    intro c s s' x h hc a w hs Q hQ
    cases c <;> simp only [chkCode, Bool.false_eq_true] at hc
    exact region_sound hcf hmix hg h hc hs hQ
  | seq m1 m2 ih1 ih2 =>
    intro c s s' x h hc a w hs Q hQ
    cases c <;> simp only [chkCode, Bool.false_eq_true] at hc
    simp only [Bool.and_eq_true] at hc
    simp only [exec] at h
    apply wp_seq
    split at h
    · rename_i s1 h1
      exact ih1 _ s s1 .normal h1 hc.1 a w hs _ fun a1 w1 hs1 => ih2 _ s1 s' x h hc.2 a1 w1 hs1 Q hQ
    · rename_i hne
      exact ih1 _ s s' x h hc.1 a w hs _ (hQ.then fun e => hne s' (by rw [h, e]))
  | cond q m1 m2 ih1 ih2 =>
    intro c s s' x h hc a w hs Q hQ
    cases c <;> simp only [chkCode, Bool.false_eq_true] at hc
    simp only [Bool.and_eq_true] at hc
    simp only [exec] at h
    have hs0 := hs
    obtain ⟨M, β, hgrow, hk, he, hsz, hdef, hN⟩ := hs
    have hr := evA_sound hc.1 he (hg.mono hgrow.mem)
    split at h
    · rename_i hb
      rw [hb] at hr
      exact wp_cond_true hr.bool_inv (ih1 _ s s' x h hc.2.1 a w hs0 Q hQ)
    · rename_i hb
      rw [hb] at hr
      exact wp_cond_false hr.bool_inv (ih2 _ s s' x h hc.2.2 a w hs0 Q hQ)
    · cases h
  | block i m ih =>
    intro c s s' x h hc a w hs Q hQ
    cases c <;> simp only [chkCode, Bool.false_eq_true] at hc
    simp only [Bool.and_eq_true, beq_iff_eq] at hc
    obtain ⟨rfl, hc⟩ := hc
    simp only [exec] at h
    apply wp_block
    split at h
    · rename_i j s1 h1
      refine ih _ s s1 (.exit j) h1 hc a w hs _ ?_
      split at h
      · rename_i hj
        cases h
        intro a1 w1 hs1
        simp only [Exit.inBlock, hj, if_true]
        exact hQ a1 w1 hs1
      · rename_i hj
        cases h
        intro a1 w1 hs1
        simp only [Exit.inBlock, hj, if_false]
        exact hQ a1 w1 hs1
    · rename_i hne
      refine ih _ s s' x h hc a w hs _ ?_
      cases x with
      | exit j => exact absurd h (hne j s')
      | normal => exact hQ
      | ret => exact hQ
      | panic v => exact hQ
  | loop m ih =>
    intro c s s' x h hc a w hs Q hQ
    cases c <;> simp only [chkCode, Bool.false_eq_true] at hc
    rename_i c
    simp only [exec] at h
    let p : Go.Act → World → Nat → Prop := fun a w k => ∃ s1, iter (exec G cf n m) k s1 = some (x, s') ∧ Sim M0 β0 N0 Lb w0 nt s1 a w
    refine wp_loop (fun a w => ∃ k, p a w k) (fun a w => lst (p a w)) ⟨n, s, h, hs⟩ ?_
    intro a1 w1 hI
    obtain ⟨s1, h1, hs1⟩ := lst_spec hI
    cases hk : lst (p a1 w1) with
    | zero => rw [hk] at h1; cases h1
    | succ k =>
      rw [hk] at h1
      simp only [iter] at h1
      split at h1
      · rename_i s2 h2
        exact ih c s1 s2 .normal h2 hc a1 w1 hs1 _ fun a2 w2 hs2 => ⟨⟨k, s2, h1, hs2⟩, by
          have := lst_le (p := p a2 w2) (n := k) ⟨s2, h1, hs2⟩
          omega⟩
      · rename_i hne
        exact ih c s1 s' x h1 hc a1 w1 hs1 _ (hQ.then fun e => hne s' (by rw [h1, e]))
  | exit i =>
    intro c s s' x h hc a w hs Q hQ
    cases h
    cases c <;> simp only [chkCode, Bool.false_eq_true] at hc
    simp only [beq_iff_eq] at hc
    subst hc
    exact wp_exit (hQ a w hs)
  | scope m ih =>
    intro c s s' x h hc a w hs Q hQ
    cases c <;> simp only [chkCode, Bool.false_eq_true] at hc
    simp only [exec] at h
    apply wp_scope_straight
    refine ih _ s s' x h hc a w hs _ ?_
    cases x <;> exact hQ
  | ret =>
    intro c s s' x h hc a w hs Q hQ
    cases h
    cases c <;> simp only [chkCode, Bool.false_eq_true] at hc
    exact wp_ret (hQ a w hs)
end
end Go.Proofs.YtoccgkgdhobmfaaDoor.Am

/- The abstract machine, part 27: functions. -/
set_option linter.unusedVariables false
set_option linter.unusedSimpArgs false
namespace Go.Proofs.YtoccgkgdhobmfaaDoor.Am
open Go

def chkR (P : Program) : ResultVar → Res → Bool
  | .tmp t, .tmp s => t == s
  | .cell a t, .cell b agg => a == b && (match agg with | some n => tagg P t && tsize P t n && decide (0 < n) | none => !tagg P t && tsome P t)
  | _, _ => false
def chkRs (P : Program) : List ResultVar → List Res → Bool
  | [], [] => true
  | x :: xs, y :: ys => chkR P x y && chkRs P xs ys
  | _, _ => false
def chkF (P : Program) (f : Nat) (m : MF) : Bool :=
  match P.funcs[f]? with
  | some fn => match fn.body with
    | some c => !(fn.name == "runtime.NumGoroutine") && decide (fn.ntmps = m.ntmps) && decide (m.np ≤ m.ntmps) && chkRs P fn.results.toList m.res && chkCode P m.ntmps c m.body
    | none => false
  | none => false

section
variable {P : Program} {G : Nat → Option (List V)} {cf : CallFn} {M M0 : Mem} {β β0 : Names} {N N0 : Nat} {Lb : Nat → Prop} {w w0 : World} {nt : Nat} {o : Hp} {e : Env} {a : Go.Act}

def resRun (tmps : Array Value) : ResultVar → Sem Value
  | .tmp t => pure (tmps.getD t undef)
  | .cell a t => do loadVar t (← asAddr (tmps.getD a undef))

theorem res_one (hk : Ok M β N Lb w0 o w) (he : EnvR M β e a) {x : ResultVar} {y : Res} (hc : chkR P x y = true) {v : V} (hv : resOf o e y = some v) :
    ∃ z, (resRun a.tmps x).run P w = .ok z w ∧ Rel M β v z := by
  cases x <;> cases y <;> simp only [chkR, Bool.false_eq_true] at hc
  · simp only [beq_iff_eq] at hc
    subst hc
    cases hv
    exact ⟨_, rfl, he _⟩
  · rename_i t ty b agg
    simp only [Bool.and_eq_true, beq_iff_eq] at hc
    obtain ⟨rfl, hc⟩ := hc
    simp only [resOf] at hv
    obtain ⟨r, h1, h2⟩ := bind_some' hv
    have hn : 0 < agg.getD 1 := by
      cases agg with
      | some n => simp only [Bool.and_eq_true, decide_eq_true_eq] at hc; exact hc.2
      | none => simp
    obtain ⟨b, off, c, ty', fr, g1, g2, g3, g4⟩ := peek_sound hk hn h1 (he t)
    obtain ⟨z, g5, g6, _⟩ := run_loadVar (P := P) hc g2 g3 g4 h2
    refine ⟨z, ?_, g6⟩
    simp only [resRun, g1, asAddr, Sem.run_bind, Sem.run_pure, Result.andThen_ok, g5]

theorem res_all (hk : Ok M β N Lb w0 o w) (he : EnvR M β e a) : ∀ {xs : List ResultVar} {ys : List Res} {vs : List V}, chkRs P xs ys = true → resAll o e ys = some vs →
    ∃ zs, (xs.mapM (resRun a.tmps)).run P w = .ok zs w ∧ zs.length = vs.length ∧ ∀ (j : Nat) v z, vs[j]? = some v → zs[j]? = some z → Rel M β v z := by
  intro xs
  induction xs with
  | nil =>
    intro ys vs hc hv
    cases ys with
    | cons _ _ => cases hc
    | nil => cases hv; exact ⟨[], by simp, rfl, by simp⟩
  | cons x xs ih =>
    intro ys vs hc hv
    cases ys with
    | nil => cases hc
    | cons y ys =>
      simp only [chkRs, Bool.and_eq_true] at hc
      simp only [resAll] at hv
      obtain ⟨v, h1, h2⟩ := bind_some' hv
      obtain ⟨us, h3, rfl⟩ := map_some' h2
      obtain ⟨z, g1, g2⟩ := res_one hk he hc.1 h1
      obtain ⟨zs, g3, g4, g5⟩ := ih hc.2 h3
      refine ⟨z :: zs, ?_, by simp [g4], ?_⟩
      · simp only [List.mapM_cons, Sem.run_bind, g1, Result.andThen_ok, g3, Sem.run_pure]
      · intro j u t hj ht
        cases j with
        | zero => simp at hj ht; subst hj; subst ht; exact g2
        | succ j => exact g5 j u t (by simpa using hj) (by simpa using ht)

theorem results_sound (hk : Ok M β N Lb w0 o w) (he : EnvR M β e a) {fn : Func} {rs : List Res} {vs : List V} (hc : chkRs P fn.results.toList rs = true) (hv : resAll o e rs = some vs) :
    ∃ z, (results fn a.tmps).run P w = .ok z w ∧ Rel M β (resV vs) z := by
  obtain ⟨zs, h1, h2, h3⟩ := res_all hk he hc hv
  have hm : (fn.results.mapM (resRun a.tmps)).run P w = .ok zs.toArray w := by
    rw [Array.mapM_eq_mapM_toList]
    simp only [map_eq_pure_bind, Sem.run_bind, h1, Result.andThen_ok, Sem.run_pure]
  have hres : (results fn a.tmps).run P w = .ok (if h : zs.toArray.size = 1 then zs.toArray[0] else .tuple zs.toArray) w := by
    have : results fn a.tmps = (fn.results.mapM (resRun a.tmps)) >>= fun vs => pure (if h : vs.size = 1 then vs[0] else .tuple vs) := by
      unfold results
      congr 1
    rw [this, Sem.run_bind, hm, Result.andThen_ok, Sem.run_pure]
  refine ⟨_, hres, ?_⟩
  cases vs with
  | nil =>
    cases zs with
    | cons _ _ => simp at h2
    | nil => exact .tup [] #[] rfl (by simp)
  | cons v r =>
    cases zs with
    | nil => simp at h2
    | cons z r' =>
      cases r with
      | nil =>
        cases r' with
        | cons _ _ => simp at h2
        | nil => exact h3 0 v z rfl rfl
      | cons v2 r2 =>
        cases r' with
        | nil => simp at h2
        | cons z2 r2' =>
          simp only [resV]
          rw [dif_neg (by simp)]
          refine .tup _ _ (by simpa using h2) ?_
          intro j u hj
          have hlt : j < (v :: v2 :: r2).length := (List.getElem?_eq_some_iff.1 hj).1
          have hlt' : j < (z :: z2 :: r2').length := by rw [h2]; exact hlt
          have hz : (z :: z2 :: r2').toArray[j]? = some (z :: z2 :: r2')[j] := by simp [hlt']
          rw [getD_of_getElem? hz]
          exact h3 j u _ hj (List.getElem?_eq_getElem hlt')

theorem RetOk.of_prel {v : V} {x : Value} {o : Hp} (h : PRel M v x) : RetOk M β o w N v x := by
  cases v with
  | own e xs => cases h
  | _ => exact h

theorem mark_old (hk : Ok M β N Lb w0 o w) {fs : List (Nat × AObj)} (hst : ∀ i a, (i, a) ∈ fs → wrt (o i) = true) : ∀ b, b < w0.heap.size → ¬ Lb b → mmem M β fs w b = M b := by
  intro b hb hn
  refine mmem_not ?_
  rintro ⟨i, a, k, h1, h2, rfl⟩
  have hw := hst i a h1
  obtain ⟨k', g1, g2⟩ := hk.sr.live i (fun e => by rw [e] at hw; cases hw)
  rw [h2] at g1; cases g1
  exact (g2.wr hw).elim (fun h => by omega) hn

theorem SR.again {Wr : Nat → Prop} (h : SR M β N Wr o w) {i : Nat} {k : Blk} {x : AObj} (hi : β i = some k) (hwi : wrt (o i) = true) (hx : wrt x = true) (hh : Holds M β Wr w k x) : SR M β N Wr (hput o i x) w := by
  obtain ⟨k', g1, g2⟩ := h.live i (fun e => by rw [e] at hwi; cases hwi)
  rw [hi] at g1; cases g1
  have hlt := g2.lt hwi
  have hob : w.heap[k.b]? = some w.heap[k.b] := Array.getElem?_eq_getElem hlt
  have := SR.write h (ob := w.heap[k.b]) hi hwi hx (by rw [wset_same hob]; exact hh)
  rwa [wset_same hob] at this

theorem result_sound (hk : Ok M β N Lb w0 o w) {Nc : Nat} {v : V} {x : Value} {r : V × List (Nat × AObj)} (hr : result o Nc v = some r) (hv : Rel M β v x) :
    ∃ M', (∀ b y, M b = some y → M' b = some y) ∧ (∀ b, b < w0.heap.size → ¬ Lb b → M' b = M b) ∧ Ok M' β N Lb w0 (hputs o r.2) w ∧ RetOk M' β (hputs o r.2) w Nc r.1 x := by
  have plain : frz o deep v = some r → ∃ M', (∀ b y, M b = some y → M' b = some y) ∧ (∀ b, b < w0.heap.size → ¬ Lb b → M' b = M b) ∧ Ok M' β N Lb w0 (hputs o r.2) w ∧ RetOk M' β (hputs o r.2) w Nc r.1 x := by
    intro hf
    obtain ⟨h1, h2⟩ := frz_sound hk.sr (mmem_le (fs := r.2) hk.sr) deep v r x hf hv fun i a hi k hkk => mmem_mark hi hkk
    exact ⟨mmem M β r.2 w, mmem_le hk.sr, mark_old hk (fun i a h => (h2 i a h).1), ⟨hk.sr.mark h2, hk.kp⟩, .of_prel h1⟩
  unfold result at hr
  split at hr
  · rename_i i len
    split at hr
    · rename_i e' xs ho
      split at hr
      · rename_i hN
        split at hr
        · rename_i hlen
          obtain ⟨q, h1, h2⟩ := bind_some' hr
          split at h2
          · cases h2
          · rename_i hni
            cases h2
            have hwi : wrt (o i) = true := by rw [ho]; rfl
            obtain ⟨k, hki, hh⟩ := hk.sr.live i (by rw [ho]; simp)
            rw [ho] at hh
            obtain ⟨w1, w2, w3, w4, w5⟩ := hh
            obtain ⟨g1, g2, g3⟩ := seqM_get h1
            have hmk : ∀ j a, (j, a) ∈ q.2 → ∀ kk, β j = some kk → mmem M β q.2 w kk.b = w.heap[kk.b]? := fun j a h kk hkk => mmem_mark h hkk
            have hcell : ∀ (jj : Nat) l, (xs.take len)[jj]? = some l → ∀ (j : Nat) v, l[j]? = some v → ∃ x, Rel M β v x := by
              intro jj l hl j v hj
              rw [List.getElem?_take] at hl
              split at hl
              · obtain ⟨c, ty, fr, _, _, _, _, hrr⟩ := w5
                obtain ⟨x, _, _, hx⟩ := hrr _ v (flat_get w4 hl hj)
                exact ⟨x, hx⟩
              · cases hl
            -- one row of cells
            have hrow : ∀ (jj : Nat) l, (xs.take len)[jj]? = some l → ∃ s, seqM (frz o deep) l = some s ∧ q.1[jj]? = some s.1 ∧ s.1.length = l.length ∧
                (∀ (j : Nat) v x, l[j]? = some v → Rel M β v x → ∃ v', s.1[j]? = some v' ∧ PRel (mmem M β q.2 w) v' x) ∧ ∀ y ∈ s.2, y ∈ q.2 := by
              intro jj l hl
              obtain ⟨s, e1, e2, e3⟩ := g2 jj l hl
              obtain ⟨f1, f2, f3⟩ := seqM_get e1
              refine ⟨s, e1, e2, f1, ?_, e3⟩
              intro j v x hj hvx
              obtain ⟨t, u1, u2, u3⟩ := f2 j v hj
              exact ⟨t.1, u2, (frz_sound hk.sr (mmem_le hk.sr) deep v t x u1 hvx fun i a hi kk hkk => hmk i a (e3 _ (u3 _ hi)) kk hkk).1⟩
            have hstill : ∀ j a, (j, a) ∈ q.2 → Still (mmem M β q.2 w) β w o j a := by
              intro j a hj
              obtain ⟨l, s, e1, e2, e3⟩ := g3 _ hj
              obtain ⟨jj, hjj⟩ := List.getElem?_of_mem e1
              obtain ⟨f1, f2, f3⟩ := seqM_get e2
              obtain ⟨v, t, u1, u2, u3⟩ := f3 _ e3
              obtain ⟨jv, hjv⟩ := List.getElem?_of_mem u1
              obtain ⟨x, hx⟩ := hcell jj l hjj jv v hjv
              obtain ⟨s', t1, t2, t3⟩ := g2 jj l hjj
              rw [e2] at t1; cases t1
              obtain ⟨t', y1, y2, y3⟩ := f2 jv v hjv
              rw [u2] at y1; cases y1
              exact (frz_sound hk.sr (mmem_le hk.sr) deep v t x u2 hx fun i a hi kk hkk => hmk i a (t3 _ (y3 _ hi)) kk hkk).2 j a u3
            have htl : ∀ l ∈ xs.take len, l.length = e' := fun l hl => w4 l (List.mem_of_mem_take hl)
            obtain ⟨l1, l2⟩ := flat_map_get htl g1 (fun jj l hl => by
              obtain ⟨s, e1, e2, e3, _⟩ := hrow jj l hl
              exact ⟨s.1, e2, e3⟩)
            have hlt : (xs.take len).length = len := by simp; omega
            have hbox : BoxAt w.heap[k.b]? k.size (PRel (mmem M β q.2 w)) q.1.flatten := by
              obtain ⟨c, ty, fr, b1, b2, b3, b4, b5⟩ := w5
              refine ⟨c, ty, fr, b1, b2, b3, ?_, ?_⟩
              · rw [l2, flat_len htl, hlt]
                rw [flat_len w4] at b4
                exact Nat.le_trans (Nat.mul_le_mul_right _ hlen) b4
              · intro j v' hj
                by_cases he0 : e' = 0
                · exfalso
                  have : q.1.flatten.length = 0 := by rw [flat_len l1, he0]; simp
                  rw [List.eq_nil_of_length_eq_zero this] at hj
                  simp at hj
                · obtain ⟨row, d1, d2, d3⟩ := flat_index (Nat.pos_of_ne_zero he0) l1 hj
                  have hjl : j / e' < (xs.take len).length := by rw [← g1]; exact (List.getElem?_eq_some_iff.1 d1).1
                  have hxl := List.getElem?_eq_getElem hjl
                  obtain ⟨s, e1, e2, e3, e4, _⟩ := hrow _ _ hxl
                  rw [d1] at e2; cases e2
                  have hjm : j % e' < ((xs.take len)[j / e']).length := by rw [← e3]; exact (List.getElem?_eq_some_iff.1 d2).1
                  have hvl := List.getElem?_eq_getElem hjm
                  have hxs : xs[j / e']? = some (xs.take len)[j / e'] := by
                    have := hxl
                    rw [List.getElem?_take] at this
                    split at this
                    · exact this
                    · cases this
                  have hfl := flat_get w4 hxs hvl
                  rw [d3] at hfl
                  obtain ⟨x, u1, u2, u3⟩ := b5 j _ hfl
                  obtain ⟨v'', y1, y2⟩ := e4 _ _ x hvl u3
                  rw [d2] at y1; cases y1
                  exact ⟨x, u1, u2, y2⟩
            have hsr := hk.sr.mark hstill
            have hni' : i ∉ ids q.2 := by
              intro hm
              apply hni
              exact List.contains_iff_mem.2 hm
            have hoi : hputs o q.2 i = .vec e' xs := by rw [hputs_other hni', ho]
            have hMn : mmem M β q.2 w k.b = none := by rw [mmem_not (not_marked hk.sr (fun i a h => (hstill i a h).1) hwi hki hni')]; exact w2
            have hsr2 := hsr.again (x := .vec e' q.1) hki (by rw [hoi]; rfl) rfl ⟨w1, hMn, w3, l1, hbox.mono (fun _ h => h) fun _ _ h => .pure h⟩
            refine ⟨mmem M β q.2 w, mmem_le hk.sr, mark_old hk (fun i a h => (hstill i a h).1), ?_, ?_⟩
            · rw [hputs_append]; exact ⟨hsr2, hk.kp⟩
            · have hx : ∃ cap, x = .slice (some ⟨k.b, 0, none⟩) len cap ∧ len ≤ cap ∧ cap * e' ≤ k.size := by
                cases hv with
                | pure h => cases h
                | vsl _ _ _ cap k' hk' hl hs =>
                  rw [hki] at hk'; cases hk'
                  exact ⟨cap, by simp, hl, by rw [w3] at hs; omega⟩
                | vslE _ _ cap a hst => exact absurd rfl hst
              obtain ⟨cap, rfl, c1, c2⟩ := hx
              have hql : q.1.length = len := by rw [g1, hlt]
              refine ⟨i, k, cap, hN, ?_, hki, by rw [hql], by rw [hql]; exact c1, c2, hbox⟩
              rw [hputs_append]; simp [hputs, hput]
        · cases hr
      · exact plain hr
    · exact plain hr
  · exact plain hr

theorem finish_sound {m : MF} {fn : Func} (hc : chkRs P fn.results.toList m.res = true) {s : St} {Nc : Nat} {out : Out} (hf : finish m Nc s = some out) (hs : Sim M0 β0 Nc Lb w0 nt s a w) :
    a.defers = [] ∧ ∃ v, (results fn a.tmps).run P w = .ok v w ∧ CallPost M0 β0 Nc Lb w0 out (.returned v) w := by
  obtain ⟨M, β, hgrow, hk, he, hsz, hdef, hN⟩ := hs
  simp only [finish] at hf
  obtain ⟨vs, h1, h2⟩ := bind_some' hf
  obtain ⟨r, h3, rfl⟩ := map_some' h2
  obtain ⟨z, h4, h5⟩ := results_sound hk he hc h1
  obtain ⟨M', h6, h7, h8, h9⟩ := result_sound hk h3 h5
  exact ⟨hdef, z, h4, z, M', β, s.N, rfl, fun b y h => h6 b y (hgrow.mem b y h), fun b hb hn => (h7 b hb hn).trans (hgrow.old b hb hn), hgrow.nam, hgrow.new, h8, h9⟩

def ExtOk (P : Program) (G : Nat → Option (List V)) (f : Nat) (x : CallFn → List V → Hp → Nat → Option Out) : Prop :=
  ∀ cf, CallOk P G cf → ∀ args o N out, x cf args o N = some out → Callable P f ∧
    ∀ (M : Mem) (β : Names) (w : World) (Lb : Nat → Prop) (vargs : Array Value), Ok M β N Lb w o w → GOK M G → vargs.size = args.length → (∀ (j : Nat) v, args[j]? = some v → Rel M β v (vargs.getD j undef)) →
      Calls P f vargs w (CallPost M β N Lb w out)

theorem callF_sound {T : Nat → Option MF} {E : Nat → Option (CallFn → List V → Hp → Nat → Option Out)} (hmix : P.follows .mixedOrders = true)
    (hT : ∀ f m, T f = some m → chkF P f m = true) (hE : ∀ f x, E f = some x → ExtOk P G f x) : ∀ n, CallOk P G (callF G T E n) := by
  intro n
  induction n with
  | zero => intro g args o N out h; cases h
  | succ n ih =>
    intro g args o N out h
    simp only [callF] at h
    split at h
    · rename_i x hx
      exact hE g x hx _ ih args o N out h
    · split at h
      · cases h
      · rename_i m hm
        have hchk := hT g m hm
        unfold chkF at hchk
        split at hchk
        · rename_i fn hfn
          split at hchk
          · rename_i c hbody
            simp only [Bool.and_eq_true, Bool.not_eq_true', decide_eq_true_eq] at hchk
            obtain ⟨⟨⟨⟨c1, c2⟩, c3⟩, c4⟩, c5⟩ := hchk
            split at h
            · rename_i hnp
              refine ⟨⟨fn, hfn, c1, by rw [hbody]; rfl⟩, ?_⟩
              intro M β w Lb vargs hk hg hl ha
              refine calls_of_wp hfn hbody ?_
              have hsim : Sim M β N Lb w m.ntmps ⟨initEnv args, o, N⟩ { tmps := vargs ++ Array.replicate (fn.ntmps - vargs.size) undef, defers := [] } w := by
                refine ⟨M, β, Grow.refl _ _ _ _ _, hk, ?_, ?_, rfl, Nat.le_refl _⟩
                · intro s
                  simp only [initEnv]
                  rw [Array.getD_eq_getD_getElem?]
                  by_cases hs : s < args.length
                  · have := ha s args[s] (List.getElem?_eq_getElem hs)
                    rw [Array.getElem?_append_left (by omega)]
                    rw [Array.getD_eq_getD_getElem?] at this
                    rw [List.getD_eq_getElem?_getD, List.getElem?_eq_getElem hs]
                    exact this
                  · rw [List.getD_eq_getElem?_getD, List.getElem?_eq_none (by omega)]
                    exact .pure (.junk _)
                · simp; omega
              split at h
              · rename_i s hex
                exact exec_sound ih hmix hg m.body c _ s .normal hex c5 _ w hsim _ fun a w' hs => finish_sound c4 h hs
              · rename_i s hex
                exact exec_sound ih hmix hg m.body c _ s .ret hex c5 _ w hsim _ fun a w' hs => finish_sound c4 h hs
              · rename_i v s hex
                cases h
                exact exec_sound ih hmix hg m.body c _ s (.panic v) hex c5 _ w hsim _ fun x a w' hx hd hkp => ⟨hd, x, rfl, hx, hkp⟩
              · cases h
            · cases h
          · cases hchk
        · cases hchk
end
end Go.Proofs.YtoccgkgdhobmfaaDoor.Am

/- The abstract machine, part 28: without fuel. -/
set_option linter.unusedVariables false
set_option linter.unusedSimpArgs false
namespace Go.Proofs.YtoccgkgdhobmfaaDoor.Am
open Go

def Le (cf cf' : CallFn) : Prop := ∀ f a o N r, cf f a o N = some r → cf' f a o N = some r
def MonoE (E : Nat → Option (CallFn → List V → Hp → Nat → Option Out)) : Prop := ∀ f x, E f = some x → ∀ cf cf', Le cf cf' → ∀ a o N r, x cf a o N = some r → x cf' a o N = some r

section
variable {G : Nat → Option (List V)} {T : Nat → Option MF} {E : Nat → Option (CallFn → List V → Hp → Nat → Option Out)} {cf cf' : CallFn} {base cx : Nat}

theorem Le.refl (cf : CallFn) : Le cf cf := fun _ _ _ _ _ h => h

theorem doCall_mono (hl : Le cf cf') {o : Hp} {f : V} {args : List V} {raw : List Bool} {own : Option Nat} {d : Did} (h : doCall cf o base cx f args raw own = some d) : doCall cf' o base cx f args raw own = some d := by
  unfold doCall at h ⊢
  split at h
  · rename_i g caps
    simp only at h ⊢
    obtain ⟨r0, h1, h⟩ := bind_some' h
    obtain ⟨L, h2, h⟩ := bind_some' h
    obtain ⟨fa, h3, h⟩ := bind_some' h
    rw [h1, Option.bind_some, h2, Option.bind_some, h3, Option.bind_some]
    split at h
    · rename_i hn
      rw [if_pos hn]
      have key : ∀ r, (if L.isEmpty then cf g fa.1 (fun _ => .dead) 0 else cf g fa.1 (restrict o L) cx) = some r → (if L.isEmpty then cf' g fa.1 (fun _ => .dead) 0 else cf' g fa.1 (restrict o L) cx) = some r := by
        intro r hr
        split at hr <;> rename_i hL
        · rw [if_pos hL]; exact hl _ _ _ _ _ hr
        · rw [if_neg hL]; exact hl _ _ _ _ _ hr
      split at h
      · rename_i v o' hc; rw [key _ hc]; exact h
      · rename_i v hc; rw [key _ hc]; exact h
      · cases h
    · cases h
  · cases h

theorem doOp_mono (hl : Le cf cf') {e : Env} {o : Hp} {i : I} {d : Did} (h : doOp G cf base cx e o i = some d) : doOp G cf' base cx e o i = some d := by
  cases i with
  | call f args raw own => exact doCall_mono hl h
  | _ => exact h

theorem runOps_mono (hl : Le cf cf') : ∀ {ops : List Op'} {e : Env} {o : Hp} {fps : List Fp} {r : RR}, runOps G cf base cx ops e o fps = some r → runOps G cf' base cx ops e o fps = some r := by
  intro ops
  induction ops with
  | nil => intro e o fps r h; exact h
  | cons p ops ih =>
    intro e o fps r h
    simp only [runOps] at h ⊢
    split at h
    · split at h
      · rename_i v u fp hd; rw [doOp_mono hl hd]; exact ih h
      · rename_i v hd; rw [doOp_mono hl hd]; exact h
      · cases h
    · exact ih h
    · cases h

theorem runRegion_mono (hl : Le cf cf') {d : Option (List (Nat × Nat) × List Nat)} {k : Nat} {ops : List Op'} {s : St} {r : Ex × St} (h : runRegion G cf d k ops s = some r) : runRegion G cf' d k ops s = some r := by
  unfold runRegion at h ⊢
  split at h
  · rename_i e o fps hr; rw [runOps_mono hl hr]; exact h
  · rename_i v fps hr; rw [runOps_mono hl hr]; exact h
  · cases h

theorem iter_mono {b b' : St → Option (Ex × St)} (hb : ∀ s r, b s = some r → b' s = some r) : ∀ {n n' : Nat} {s : St} {r : Ex × St}, n ≤ n' → iter b n s = some r → iter b' n' s = some r := by
  intro n
  induction n with
  | zero => intro n' s r _ h; cases h
  | succ n ih =>
    intro n' s r hn h
    cases n' with
    | zero => omega
    | succ n' =>
      simp only [iter] at h ⊢
      split at h
      · rename_i s' hs; rw [hb _ _ hs]; exact ih (by omega) h
      · rename_i hne
        rw [hb _ _ h]
        split
        · rename_i s' heq; cases heq; exact absurd h (hne s')
        · rfl

theorem exec_mono (hl : Le cf cf') {n n' : Nat} (hn : n ≤ n') : ∀ (m : MC) (s : St) (r : Ex × St), exec G cf n m s = some r → exec G cf' n' m s = some r := by
  intro m
  induction m with
  | skip => intro s r h; exact h
  | region d k ops => intro s r h; exact runRegion_mono hl h
  | seq a b iha ihb =>
    intro s r h
    simp only [exec] at h ⊢
    split at h
    · rename_i s' hs; rw [iha _ _ hs]; exact ihb _ _ h
    · rename_i hne
      rw [iha _ _ h]
      split
      · rename_i s' heq; cases heq; exact absurd h (hne s')
      · rfl
  | cond c a b iha ihb =>
    intro s r h
    simp only [exec] at h ⊢
    split at h
    · exact iha _ _ h
    · exact ihb _ _ h
    · cases h
  | block i a ih =>
    intro s r h
    simp only [exec] at h ⊢
    split at h
    · rename_i j s' hs; rw [ih _ _ hs]; exact h
    · rename_i hne
      rw [ih _ _ h]
      split
      · rename_i j s' heq; cases heq; exact absurd h (hne j s')
      · rfl
  | loop a ih =>
    intro s r h
    simp only [exec] at h ⊢
    exact iter_mono (fun s r hs => ih s r hs) hn h
  | exit i => intro s r h; exact h
  | scope a ih => intro s r h; exact ih s r h
  | ret => intro s r h; exact h

theorem callF_eq (n f : Nat) (args : List V) (o : Hp) (N : Nat) : callF G T E (n + 1) f args o N = match E f with
    | some x => x (callF G T E n) args o N
    | none => match T f with
      | none => none
      | some m => if args.length = m.np then
          match exec G (callF G T E n) n m.body ⟨initEnv args, o, N⟩ with
          | some (.normal, s) => finish m N s
          | some (.ret, s) => finish m N s
          | some (.panic v, _) => some (.panic v)
          | _ => none
        else none := rfl

theorem callF_succ (hE : MonoE E) : ∀ n, Le (callF G T E n) (callF G T E (n + 1)) := by
  intro n
  induction n with
  | zero => intro f a o N r h; cases h
  | succ n ih =>
    intro f a o N r h
    rw [callF_eq] at h ⊢
    split at h
    · rename_i x hx
      exact hE f x hx _ _ ih _ _ _ _ h
    · split at h
      · cases h
      · rename_i m hm
        split at h
        · rename_i hnp
          simp only [hnp, if_true]
          split at h
          · rename_i s hs; rw [exec_mono ih (Nat.le_succ n) _ _ _ hs]; exact h
          · rename_i s hs; rw [exec_mono ih (Nat.le_succ n) _ _ _ hs]; exact h
          · rename_i v s hs; rw [exec_mono ih (Nat.le_succ n) _ _ _ hs]; exact h
          · cases h
        · cases h
theorem callF_mono (hE : MonoE E) {n n' : Nat} (h : n ≤ n') : Le (callF G T E n) (callF G T E n') := by
  induction h with
  | refl => exact Le.refl _
  | step _ ih => intro f a o N r hr; exact callF_succ hE _ _ _ _ _ _ (ih _ _ _ _ _ hr)

/-! ### The limit -/

open Classical in
/-- What the calls come to, however much they need. -/
noncomputable def cfW (G : Nat → Option (List V)) (T : Nat → Option MF) (E : Nat → Option (CallFn → List V → Hp → Nat → Option Out)) : CallFn := fun f a o N =>
  if h : ∃ n r, callF G T E n f a o N = some r then some (Classical.choose (Classical.choose_spec h)) else none

theorem cfW_some (hE : MonoE E) {f : Nat} {a : List V} {o : Hp} {N : Nat} {r : Out} : cfW G T E f a o N = some r ↔ ∃ n, callF G T E n f a o N = some r := by
  unfold cfW
  constructor
  · intro h
    split at h
    · rename_i hx
      cases h
      exact ⟨_, Classical.choose_spec (Classical.choose_spec hx)⟩
    · cases h
  · rintro ⟨n, h⟩
    have hx : ∃ n r, callF G T E n f a o N = some r := ⟨n, r, h⟩
    rw [dif_pos hx]
    have h2 := Classical.choose_spec (Classical.choose_spec hx)
    have e1 := callF_mono hE (Nat.le_max_left n (Classical.choose hx)) _ _ _ _ _ h
    have e2 := callF_mono hE (Nat.le_max_right n (Classical.choose hx)) _ _ _ _ _ h2
    rw [e1] at e2
    exact e2.symm

open Classical in
noncomputable def iterW (b : St → Option (Ex × St)) : St → Option (Ex × St) := fun s => if h : ∃ n r, iter b n s = some r then some (Classical.choose (Classical.choose_spec h)) else none

theorem iterW_some {b : St → Option (Ex × St)} {s : St} {r : Ex × St} : iterW b s = some r ↔ ∃ n, iter b n s = some r := by
  unfold iterW
  constructor
  · intro h
    split at h
    · rename_i hx
      cases h
      exact ⟨_, Classical.choose_spec (Classical.choose_spec hx)⟩
    · cases h
  · rintro ⟨n, h⟩
    have hx : ∃ n r, iter b n s = some r := ⟨n, r, h⟩
    rw [dif_pos hx]
    have h2 := Classical.choose_spec (Classical.choose_spec hx)
    have e1 := iter_mono (fun s r h => h) (Nat.le_max_left n (Classical.choose hx)) h
    have e2 := iter_mono (fun s r h => h) (Nat.le_max_right n (Classical.choose hx)) h2
    rw [e1] at e2
    exact e2.symm

theorem iterW_step {b : St → Option (Ex × St)} {s s' : St} (h : b s = some (.normal, s')) : iterW b s = iterW b s' := by
  have key : ∀ r, iterW b s = some r ↔ iterW b s' = some r := by
    intro r
    rw [iterW_some, iterW_some]
    constructor
    · rintro ⟨n, hn⟩
      cases n with
      | zero => cases hn
      | succ n => simp only [iter, h] at hn; exact ⟨n, hn⟩
    · rintro ⟨n, hn⟩
      exact ⟨n + 1, by simp only [iter, h]; exact hn⟩
  cases hs : iterW b s with
  | some r => exact ((key r).1 hs).symm
  | none =>
    cases hs' : iterW b s' with
    | none => rfl
    | some r => rw [(key r).2 hs'] at hs; cases hs
theorem iterW_end {b : St → Option (Ex × St)} {s s' : St} {x : Ex} (h : b s = some (x, s')) (hx : x ≠ .normal) : iterW b s = some (x, s') := by
  rw [iterW_some]
  refine ⟨1, ?_⟩
  simp only [iter, h]
  cases x <;> first | rfl | exact absurd rfl hx

noncomputable def xec (G : Nat → Option (List V)) (cf : CallFn) : MC → St → Option (Ex × St)
  | .skip, s => some (.normal, s)
  | .region d k ops, s => runRegion G cf d k ops s
  | .seq a b, s => match xec G cf a s with
    | some (.normal, s') => xec G cf b s'
    | r => r
  | .cond c a b, s => match evA G s.e c with
    | .bool true => xec G cf a s
    | .bool false => xec G cf b s
    | _ => none
  | .block id a, s => match xec G cf a s with
    | some (.exit j, s') => if j = id then some (.normal, s') else some (.exit j, s')
    | r => r
  | .loop a, s => iterW (xec G cf a) s
  | .exit id, s => some (.exit id, s)
  | .scope a, s => xec G cf a s
  | .ret, s => some (.ret, s)

/-- From some fuel on. -/
def Evn (p : Nat → Prop) : Prop := ∃ k, ∀ n, k ≤ n → p n
theorem Evn.and {p q : Nat → Prop} (h : Evn p) (h' : Evn q) : Evn fun n => p n ∧ q n := by
  obtain ⟨k, hk⟩ := h
  obtain ⟨k', hk'⟩ := h'
  exact ⟨max k k', fun n hn => ⟨hk n (by omega), hk' n (by omega)⟩⟩
theorem Evn.mono {p q : Nat → Prop} (h : Evn p) (hpq : ∀ n, p n → q n) : Evn q := by
  obtain ⟨k, hk⟩ := h
  exact ⟨k, fun n hn => hpq n (hk n hn)⟩
theorem Evn.of {p : Nat → Prop} (h : ∀ n, p n) : Evn p := ⟨0, fun n _ => h n⟩

theorem cfW_evn (hE : MonoE E) {f : Nat} {a : List V} {o : Hp} {N : Nat} {r : Out} (h : cfW G T E f a o N = some r) : Evn fun n => callF G T E n f a o N = some r := by
  obtain ⟨n, hn⟩ := (cfW_some hE).1 h
  exact ⟨n, fun m hm => callF_mono hE hm _ _ _ _ _ hn⟩

theorem doCall_evn (hE : MonoE E) {o : Hp} {f : V} {args : List V} {raw : List Bool} {own : Option Nat} {d : Did} (h : doCall (cfW G T E) o base cx f args raw own = some d) :
    Evn fun n => doCall (callF G T E n) o base cx f args raw own = some d := by
  unfold doCall at h
  split at h
  · rename_i g caps
    simp only at h
    obtain ⟨r0, h1, h⟩ := bind_some' h
    obtain ⟨L, h2, h⟩ := bind_some' h
    obtain ⟨fa, h3, h⟩ := bind_some' h
    split at h
    · rename_i hn
      have key : ∀ r, (if L.isEmpty then cfW G T E g fa.1 (fun _ => .dead) 0 else cfW G T E g fa.1 (restrict o L) cx) = some r →
          Evn fun n => (if L.isEmpty then callF G T E n g fa.1 (fun _ => .dead) 0 else callF G T E n g fa.1 (restrict o L) cx) = some r := by
        intro r hr
        split at hr <;> rename_i hL
        · refine (cfW_evn hE hr).mono fun n h => ?_
          rw [if_pos hL]; exact h
        · refine (cfW_evn hE hr).mono fun n h => ?_
          rw [if_neg hL]; exact h
      split at h
      · rename_i v o' hc
        refine (key _ hc).mono fun n hk => ?_
        simp only [doCall, h1, Option.bind_some, h2, h3, hn, if_true, hk]; exact h
      · rename_i v hc
        refine (key _ hc).mono fun n hk => ?_
        simp only [doCall, h1, Option.bind_some, h2, h3, hn, if_true, hk]; exact h
      · cases h
    · cases h
  · cases h

theorem doOp_evn (hE : MonoE E) {e : Env} {o : Hp} {i : I} {d : Did} (h : doOp G (cfW G T E) base cx e o i = some d) : Evn fun n => doOp G (callF G T E n) base cx e o i = some d := by
  cases i with
  | call f args raw own => exact doCall_evn hE h
  | _ => exact .of fun n => h

theorem runOps_evn (hE : MonoE E) : ∀ {ops : List Op'} {e : Env} {o : Hp} {fps : List Fp} {r : RR}, runOps G (cfW G T E) base cx ops e o fps = some r → Evn fun n => runOps G (callF G T E n) base cx ops e o fps = some r := by
  intro ops
  induction ops with
  | nil => intro e o fps r h; exact .of fun n => h
  | cons p ops ih =>
    intro e o fps r h
    simp only [runOps] at h
    split at h
    · rename_i hw
      split at h
      · rename_i v u fp hd
        refine ((doOp_evn hE hd).and (ih h)).mono fun n hh => ?_
        simp only [runOps, hw, hh.1]; exact hh.2
      · rename_i v hd
        refine (doOp_evn hE hd).mono fun n hh => ?_
        simp only [runOps, hw, hh]; exact h
      · cases h
    · rename_i hw
      refine (ih h).mono fun n hh => ?_
      simp only [runOps, hw]; exact hh
    · cases h

theorem iter_evn {b : St → Option (Ex × St)} {c : Nat → St → Option (Ex × St)} (hb : ∀ s r, b s = some r → Evn fun n => c n s = some r) : ∀ {k : Nat} {s : St} {r : Ex × St}, iter b k s = some r →
    Evn fun n => iter (c n) k s = some r := by
  intro k
  induction k with
  | zero => intro s r h; cases h
  | succ k ih =>
    intro s r h
    simp only [iter] at h
    split at h
    · rename_i s' hs
      refine ((hb _ _ hs).and (ih h)).mono fun n hh => ?_
      simp only [iter, hh.1]; exact hh.2
    · rename_i hne
      refine (hb _ _ h).mono fun n hh => ?_
      simp only [iter, hh]
      split
      · rename_i s' heq; cases heq; exact absurd h (hne s')
      · rfl

theorem xec_evn (hE : MonoE E) : ∀ (m : MC) (s : St) (r : Ex × St), xec G (cfW G T E) m s = some r → Evn fun n => exec G (callF G T E n) n m s = some r := by
  intro m
  induction m with
  | skip => intro s r h; exact .of fun n => h
  | region d k ops =>
    intro s r h
    simp only [xec, runRegion] at h
    split at h
    · rename_i e o fps hr
      refine (runOps_evn hE hr).mono fun n hh => ?_
      simp only [exec, runRegion, hh]; exact h
    · rename_i v fps hr
      refine (runOps_evn hE hr).mono fun n hh => ?_
      simp only [exec, runRegion, hh]; exact h
    · cases h
  | seq a b iha ihb =>
    intro s r h
    simp only [xec] at h
    split at h
    · rename_i s' hs
      refine ((iha _ _ hs).and (ihb _ _ h)).mono fun n hh => ?_
      simp only [exec, hh.1]; exact hh.2
    · rename_i hne
      refine (iha _ _ h).mono fun n hh => ?_
      simp only [exec, hh]
      split
      · rename_i s' heq; cases heq; exact absurd h (hne s')
      · rfl
  | cond c a b iha ihb =>
    intro s r h
    simp only [xec] at h
    split at h
    · rename_i hc
      refine (iha _ _ h).mono fun n hh => ?_
      simp only [exec, hc]; exact hh
    · rename_i hc
      refine (ihb _ _ h).mono fun n hh => ?_
      simp only [exec, hc]; exact hh
    · cases h
  | block i a ih =>
    intro s r h
    simp only [xec] at h
    split at h
    · rename_i j s' hs
      refine (ih _ _ hs).mono fun n hh => ?_
      simp only [exec, hh]; exact h
    · rename_i hne
      refine (ih _ _ h).mono fun n hh => ?_
      simp only [exec, hh]
      split
      · rename_i j s' heq; cases heq; exact absurd h (hne j s')
      · rfl
  | loop a ih =>
    intro s r h
    simp only [xec] at h
    obtain ⟨k, hk⟩ := iterW_some.1 h
    obtain ⟨q, hq⟩ := iter_evn (c := fun n => exec G (callF G T E n) n a) (fun s r hs => ih s r hs) hk
    refine ⟨max q k, fun n hn => ?_⟩
    simp only [exec]
    exact iter_mono (fun s r h => h) (by omega) (hq n (by omega))
  | exit i => intro s r h; exact .of fun n => h
  | scope a ih => intro s r h; exact (ih s r h).mono fun n hh => hh
  | ret => intro s r h; exact .of fun n => h

/-- A function that is run. -/
theorem cfW_run (hE : MonoE E) {f : Nat} {m : MF} {a : List V} {o : Hp} {N : Nat} {s : St} {out : Out} (h0 : E f = none) (hT : T f = some m) (hnp : a.length = m.np)
    (hx : xec G (cfW G T E) m.body ⟨initEnv a, o, N⟩ = some (.ret, s) ∨ xec G (cfW G T E) m.body ⟨initEnv a, o, N⟩ = some (.normal, s)) (hf : finish m N s = some out) : cfW G T E f a o N = some out := by
  rcases hx with hx | hx
  all_goals
    obtain ⟨k, hk⟩ := xec_evn hE _ _ _ hx
    refine (cfW_some hE).2 ⟨k + 1, ?_⟩
    rw [callF_eq, h0]
    simp only [hT, hnp, if_true, hk k (Nat.le_refl _)]
    exact hf
theorem cfW_panic (hE : MonoE E) {f : Nat} {m : MF} {a : List V} {o : Hp} {N : Nat} {s : St} {v : V} (h0 : E f = none) (hT : T f = some m) (hnp : a.length = m.np)
    (hx : xec G (cfW G T E) m.body ⟨initEnv a, o, N⟩ = some (.panic v, s)) : cfW G T E f a o N = some (.panic v) := by
  obtain ⟨k, hk⟩ := xec_evn hE _ _ _ hx
  refine (cfW_some hE).2 ⟨k + 1, ?_⟩
  rw [callF_eq, h0]
  simp only [hT, hnp, if_true, hk k (Nat.le_refl _)]

theorem cfW_sound {P : Program} (hE : MonoE E) (hmix : P.follows .mixedOrders = true) (hT : ∀ f m, T f = some m → chkF P f m = true) (hX : ∀ f x, E f = some x → ExtOk P G f x) : CallOk P G (cfW G T E) := by
  intro g args o N out h
  obtain ⟨n, hn⟩ := (cfW_some hE).1 h
  exact callF_sound hmix hT hX n g args o N out hn
end
end Go.Proofs.YtoccgkgdhobmfaaDoor.Am
