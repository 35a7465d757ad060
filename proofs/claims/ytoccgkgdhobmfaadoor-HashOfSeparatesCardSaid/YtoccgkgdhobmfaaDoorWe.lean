/- The abstract machine, part 29: running code step by step. What runs is chosen, not unfolded: the kernel never looks into it. -/
import Derived.Test.YtoccgkgdhobmfaaDoorWd
set_option linter.unusedVariables false
set_option linter.unusedSimpArgs false
namespace Go.Proofs.YtoccgkgdhobmfaaDoor.Am.Ru
open Go

abbrev dd : Hp := fun _ => .dead
abbrev Pst := Ex → St → Prop

/-- What waits behind a piece of code. -/
inductive Fr where
  | seq (b : MC)
  | block (id : Nat)

abbrev Draw := Option (List (Nat × Nat) × List Nat)
/-- The order of a region: given; of no matter; drawn, with what has been done so far. -/
inductive Md where
  | plain
  | free (l : List Nat) (n : Nat)
  | draw (p : List (Nat × Nat)) (l : List Nat) (fps : List Fp)

section
variable (G : Nat → Option (List V)) (cf : CallFn) (Φ : Pst)

def backD : List Fr → Ex → St → Prop
  | [], x, s => match x with
    | .panic v => ∀ s', Φ (.panic v) s'
    | x => Φ x s
  | .seq b :: k, x, s => match x with
    | .normal => ∃ y s', xec G cf b s = some (y, s') ∧ backD k y s'
    | x => backD k x s
  | .block id :: k, x, s => match x with
    | .exit j => if j = id then backD k .normal s else backD k (.exit j) s
    | x => backD k x s
def goD (c : MC) (k : List Fr) (s : St) : Prop := ∃ y s', xec G cf c s = some (y, s') ∧ backD G cf Φ k y s'

inductive R1 where
  | ok (e : Env) (o : Hp)
  | panic (v : V)

/-- Operations without their footprints. -/
def run1 (base cx : Nat) : List Op' → Env → Hp → Option R1
  | [], e, o => some (.ok e o)
  | p :: r, e, o =>
    match wantedV e p.guard with
    | some true =>
      match doOp G cf base cx e o p.i with
      | some (.act v u fp) => run1 base cx r (eputO e p.dst v) (hputs o u)
      | some (.panic v) => some (.panic v)
      | none => none
    | some false => run1 base cx r (eputO e p.dst .junk) o
    | none => none

def opD (m : Md) (ops : List Op') (e : Env) (o : Hp) (b cx : Nat) (k : List Fr) : Prop :=
  match m with
  | .plain => match run1 G cf b cx ops e o with
    | some (.ok e' o') => backD G cf Φ k .normal ⟨e', o', cx⟩
    | some (.panic v) => ∀ s, Φ (.panic v) s
    | none => False
  | .free l n => match runOps G cf b cx ops e o (List.replicate n ⟨[], []⟩) with
    | some (.ok e' o' _) => backD G cf Φ k .normal ⟨e', o', cx⟩
    | some (.panic v fps') => l.contains fps'.length = true ∧ ∀ s, Φ (.panic v) s
    | none => False
  | .draw p l fps => match runOps G cf b cx ops e o fps with
    | some (.ok e' o' fps') => checkPairs fps' p = true ∧ backD G cf Φ k .normal ⟨e', o', cx⟩
    | some (.panic v fps') => (checkPairs fps' p && l.contains fps'.length) = true ∧ ∀ s, Φ (.panic v) s
    | none => False
end

theorem back_ex : ∃ f, f = backD := ⟨_, rfl⟩
theorem go_ex : ∃ f, f = goD := ⟨_, rfl⟩
theorem op_ex : ∃ f, f = opD := ⟨_, rfl⟩
/-- An outcome is handed to what waits. -/
noncomputable def back := Classical.choose back_ex
/-- Code runs, and then what waits. -/
noncomputable def go := Classical.choose go_ex
/-- Operations run, and then what waits. -/
noncomputable def op := Classical.choose op_ex
theorem back_eq : back = backD := Classical.choose_spec back_ex
theorem go_eq : go = goD := Classical.choose_spec go_ex
theorem op_eq : op = opD := Classical.choose_spec op_ex

def psh : Md → Fp → Md
  | .plain, _ => .plain
  | .free l n, _ => .free l (n + 1)
  | .draw p l fps, f => .draw p l (f :: fps)
theorem psh_plain (f : Fp) : psh .plain f = .plain := _root_.id rfl
theorem psh_free (l : List Nat) (n : Nat) (f : Fp) : psh (.free l n) f = .free l (n + 1) := _root_.id rfl
theorem psh_draw (p : List (Nat × Nat)) (l : List Nat) (fps : List Fp) (f : Fp) : psh (.draw p l fps) f = .draw p l (f :: fps) := _root_.id rfl

section
variable {G : Nat → Option (List V)} {cf : CallFn} {Φ : Pst} {k : List Fr} {s : St}

theorem back_nil_normal : back G cf Φ [] .normal s = Φ .normal s := by rw [back_eq]; rfl
theorem back_nil_exit (i : Nat) : back G cf Φ [] (.exit i) s = Φ (.exit i) s := by rw [back_eq]; rfl
theorem back_nil_ret : back G cf Φ [] .ret s = Φ .ret s := by rw [back_eq]; rfl
theorem backD_panic (v : V) : ∀ (k : List Fr) (s : St), backD G cf Φ k (.panic v) s = ∀ s', Φ (.panic v) s' := by
  intro k
  induction k with
  | nil => intro s; rfl
  | cons f k ih => intro s; cases f <;> exact ih s
theorem back_panic (v : V) : back G cf Φ k (.panic v) s = ∀ s', Φ (.panic v) s' := by rw [back_eq]; exact backD_panic v k s
theorem back_seq (b : MC) : back G cf Φ (.seq b :: k) .normal s = go G cf Φ b k s := by rw [back_eq, go_eq]; rfl
theorem back_seq_exit (b : MC) (i : Nat) : back G cf Φ (.seq b :: k) (.exit i) s = back G cf Φ k (.exit i) s := by rw [back_eq]; rfl
theorem back_seq_ret (b : MC) : back G cf Φ (.seq b :: k) .ret s = back G cf Φ k .ret s := by rw [back_eq]; rfl
theorem back_block (i : Nat) : back G cf Φ (.block i :: k) .normal s = back G cf Φ k .normal s := by rw [back_eq]; rfl
theorem back_block_exit (i j : Nat) : back G cf Φ (.block i :: k) (.exit j) s = if j = i then back G cf Φ k .normal s else back G cf Φ k (.exit j) s := by rw [back_eq]; rfl
theorem back_block_ret (i : Nat) : back G cf Φ (.block i :: k) .ret s = back G cf Φ k .ret s := by rw [back_eq]; rfl

theorem go_of {c : MC} {x : Ex} {s' : St} (h : xec G cf c s = some (x, s')) : go G cf Φ c k s = back G cf Φ k x s' := by
  rw [go_eq, back_eq]
  refine propext ⟨?_, ?_⟩
  · rintro ⟨y, t, h1, h2⟩; rw [h] at h1; cases h1; exact h2
  · intro h2; exact ⟨x, s', h, h2⟩
theorem go_skip : go G cf Φ .skip k s = back G cf Φ k .normal s := go_of rfl
theorem go_exit (i : Nat) : go G cf Φ (.exit i) k s = back G cf Φ k (.exit i) s := go_of rfl
theorem go_ret : go G cf Φ .ret k s = back G cf Φ k .ret s := go_of rfl
theorem go_scope (a : MC) : go G cf Φ (.scope a) k s = go G cf Φ a k s := by rw [go_eq]; rfl
theorem go_seq (a b : MC) : go G cf Φ (.seq a b) k s = go G cf Φ a (.seq b :: k) s := by
  rw [go_eq]
  refine propext ⟨?_, ?_⟩
  · rintro ⟨y, t, h1, h2⟩
    simp only [xec] at h1
    split at h1
    · rename_i s' hs; exact ⟨.normal, s', hs, y, t, h1, h2⟩
    · rename_i hne
      refine ⟨y, t, h1, ?_⟩
      cases y with
      | normal => exact absurd h1 (hne t)
      | _ => exact h2
  · rintro ⟨y, t, h1, h2⟩
    cases y with
    | normal => obtain ⟨z, u, h3, h4⟩ := h2; exact ⟨z, u, by simp only [xec, h1]; exact h3, h4⟩
    | exit i => exact ⟨_, t, by simp only [xec, h1], h2⟩
    | ret => exact ⟨_, t, by simp only [xec, h1], h2⟩
    | panic v => exact ⟨_, t, by simp only [xec, h1], h2⟩
theorem go_block (i : Nat) (a : MC) : go G cf Φ (.block i a) k s = go G cf Φ a (.block i :: k) s := by
  rw [go_eq]
  refine propext ⟨?_, ?_⟩
  · rintro ⟨y, t, h1, h2⟩
    simp only [xec] at h1
    split at h1
    · rename_i j s' hs
      refine ⟨.exit j, s', hs, ?_⟩
      show (if j = i then backD G cf Φ k .normal s' else backD G cf Φ k (.exit j) s')
      split at h1
      · rename_i hj; rw [if_pos hj]; cases h1; exact h2
      · rename_i hj; rw [if_neg hj]; cases h1; exact h2
    · rename_i hne
      refine ⟨y, t, h1, ?_⟩
      cases y with
      | exit j => exact absurd h1 (hne j t)
      | _ => exact h2
  · rintro ⟨y, t, h1, h2⟩
    cases y with
    | exit j =>
      have h2 : (if j = i then backD G cf Φ k .normal t else backD G cf Φ k (.exit j) t) := h2
      by_cases hj : j = i
      · rw [if_pos hj] at h2; exact ⟨_, t, by simp only [xec, h1, if_pos hj], h2⟩
      · rw [if_neg hj] at h2; exact ⟨_, t, by simp only [xec, h1, if_neg hj], h2⟩
    | normal => exact ⟨_, t, by simp only [xec, h1], h2⟩
    | ret => exact ⟨_, t, by simp only [xec, h1], h2⟩
    | panic v => exact ⟨_, t, by simp only [xec, h1], h2⟩

/-- A branch on a truth value. -/
def brn (v : V) (A B : Prop) : Prop := match v with | .bool true => A | .bool false => B | _ => False
def br (G : Nat → Option (List V)) (cf : CallFn) (Φ : Pst) (v : V) (a b : MC) (k : List Fr) (s : St) : Prop := brn v (go G cf Φ a k s) (go G cf Φ b k s)
theorem go_cond (c : Arg) (a b : MC) (e : Env) (o : Hp) (N : Nat) : go G cf Φ (.cond c a b) k ⟨e, o, N⟩ = br G cf Φ (evA G e c) a b k ⟨e, o, N⟩ := by
  unfold br
  rw [go_eq]
  unfold goD brn
  simp only [xec]
  generalize evA G e c = v
  cases v <;> (try (refine propext ⟨?_, False.elim⟩; rintro ⟨y, t, h1, h2⟩; cases h1))
  rename_i t
  cases t <;> rfl
theorem br_true (a b : MC) : br G cf Φ (.bool true) a b k s = go G cf Φ a k s := _root_.id rfl
theorem br_false (a b : MC) : br G cf Φ (.bool false) a b k s = go G cf Φ b k s := _root_.id rfl
theorem br_of {t : Bool} {a b : MC} (h1 : t = true → go G cf Φ a k s) (h2 : t = false → go G cf Φ b k s) : br G cf Φ (.bool t) a b k s := by
  cases t
  · exact h2 rfl
  · exact h1 rfl
theorem br_dec {p : Prop} [Decidable p] {a b : MC} (h1 : p → go G cf Φ a k s) (h2 : ¬ p → go G cf Φ b k s) : br G cf Φ (.bool (decide p)) a b k s :=
  br_of (fun h => h1 (of_decide_eq_true h)) (fun h => h2 (of_decide_eq_false h))

/-! ### Loops -/
def lpost (G : Nat → Option (List V)) (cf : CallFn) (Φ : Pst) (I : Nat → St → Prop) (n : Nat) (k : List Fr) : Pst
  | .normal, s => ∃ m, m < n ∧ I m s
  | x, s => back G cf Φ k x s
theorem lpost_normal (I : Nat → St → Prop) (n : Nat) : lpost G cf Φ I n k .normal s = ∃ m, m < n ∧ I m s := _root_.id rfl
theorem lpost_exit (I : Nat → St → Prop) (n i : Nat) : lpost G cf Φ I n k (.exit i) s = back G cf Φ k (.exit i) s := _root_.id rfl
theorem lpost_ret (I : Nat → St → Prop) (n : Nat) : lpost G cf Φ I n k .ret s = back G cf Φ k .ret s := _root_.id rfl
theorem lpost_panic (I : Nat → St → Prop) (n : Nat) (v : V) : lpost G cf Φ I n k (.panic v) s = back G cf Φ k (.panic v) s := _root_.id rfl

theorem go_loop {a : MC} (I : Nat → St → Prop) (n : Nat) (h0 : I n s) (hs : ∀ n s, I n s → go G cf (lpost G cf Φ I n k) a [] s) : go G cf Φ (.loop a) k s := by
  rw [go_eq]
  rw [go_eq] at hs
  have key : ∀ n s, I n s → ∃ y s', iterW (xec G cf a) s = some (y, s') ∧ backD G cf Φ k y s' := by
    intro n
    induction n using Nat.strongRecOn with
    | _ n ih =>
      intro s hI
      obtain ⟨y, t, h1, h2⟩ := hs n s hI
      cases y with
      | normal =>
        have h2 : lpost G cf Φ I n k .normal t := h2
        obtain ⟨m, hm, hI'⟩ := h2
        obtain ⟨z, u, h3, h4⟩ := ih m hm t hI'
        exact ⟨z, u, by rw [iterW_step h1]; exact h3, h4⟩
      | exit i =>
        have h2 : lpost G cf Φ I n k (.exit i) t := h2
        rw [lpost_exit, back_eq] at h2
        exact ⟨_, t, iterW_end h1 (by simp), h2⟩
      | ret =>
        have h2 : lpost G cf Φ I n k .ret t := h2
        rw [lpost_ret, back_eq] at h2
        exact ⟨_, t, iterW_end h1 (by simp), h2⟩
      | panic v =>
        have h2 : ∀ s', lpost G cf Φ I n k (.panic v) s' := h2
        have h3 := h2 t
        rw [lpost_panic, back_eq] at h3
        exact ⟨_, t, iterW_end h1 (by simp), h3⟩
  obtain ⟨y, t, h1, h2⟩ := key n s h0
  exact ⟨y, t, h1, h2⟩

/-! ### Regions -/
theorem run1_map {b cx : Nat} : ∀ (ops : List Op') (e : Env) (o : Hp) (fps : List Fp), (runOps G cf b cx ops e o fps).map (fun r => match r with | .ok e o _ => R1.ok e o | .panic v _ => R1.panic v) = run1 G cf b cx ops e o := by
  intro ops
  induction ops with
  | nil => intro e o fps; rfl
  | cons p r ih =>
    intro e o fps
    simp only [runOps, run1]
    cases wantedV e p.guard with
    | none => rfl
    | some t =>
      cases t with
      | false => exact ih _ _ _
      | true =>
        cases doOp G cf b cx e o p.i with
        | none => rfl
        | some d =>
          cases d with
          | act v u fp => exact ih _ _ _
          | panic v => rfl
/-- Only the number of what was done before counts. -/
theorem runOps_len {b cx : Nat} : ∀ (ops : List Op') (e : Env) (o : Hp) (f g : List Fp), f.length = g.length →
    (runOps G cf b cx ops e o f).map (fun r => match r with | .ok e o l => (Sum.inl (e, o, l.length) : (Env × Hp × Nat) ⊕ (V × Nat)) | .panic v l => .inr (v, l.length)) =
    (runOps G cf b cx ops e o g).map (fun r => match r with | .ok e o l => (Sum.inl (e, o, l.length) : (Env × Hp × Nat) ⊕ (V × Nat)) | .panic v l => .inr (v, l.length)) := by
  intro ops
  induction ops with
  | nil => intro e o f g h; simp [runOps, h]
  | cons p r ih =>
    intro e o f g h
    simp only [runOps]
    cases wantedV e p.guard with
    | none => rfl
    | some t =>
      cases t with
      | false => exact ih _ _ _ _ (by simp [h])
      | true =>
        cases doOp G cf b cx e o p.i with
        | none => rfl
        | some d =>
          cases d with
          | act v u fp => exact ih _ _ _ _ (by simp [h])
          | panic v => simp [h]
theorem opD_free {b cx : Nat} (l : List Nat) (ops : List Op') (e : Env) (o : Hp) (f g : List Fp) (h : f.length = g.length) :
    (match runOps G cf b cx ops e o f with
    | some (.ok e' o' _) => backD G cf Φ k .normal ⟨e', o', cx⟩
    | some (.panic v fps') => l.contains fps'.length = true ∧ ∀ s, Φ (.panic v) s
    | none => False) =
    (match runOps G cf b cx ops e o g with
    | some (.ok e' o' _) => backD G cf Φ k .normal ⟨e', o', cx⟩
    | some (.panic v fps') => l.contains fps'.length = true ∧ ∀ s, Φ (.panic v) s
    | none => False) := by
  have hl := runOps_len (G := G) (cf := cf) (b := b) (cx := cx) ops e o f g h
  cases h1 : runOps G cf b cx ops e o f with
  | none => cases h2 : runOps G cf b cx ops e o g with
    | none => rfl
    | some y => rw [h1, h2] at hl; cases hl
  | some x => cases h2 : runOps G cf b cx ops e o g with
    | none => rw [h1, h2] at hl; cases hl
    | some y =>
      rw [h1, h2] at hl
      cases x with
      | ok e1 o1 l1 => cases y with
        | ok e2 o2 l2 => simp at hl; obtain ⟨rfl, rfl, _⟩ := hl; rfl
        | panic v2 l2 => simp at hl
      | panic v1 l1 => cases y with
        | ok e2 o2 l2 => simp at hl
        | panic v2 l2 => simp at hl; obtain ⟨rfl, h3⟩ := hl; simp only [h3]
theorem go_region (n : Nat) (ops : List Op') (e : Env) (o : Hp) (N : Nat) : go G cf Φ (.region none n ops) k ⟨e, o, N⟩ = op G cf Φ .plain ops e o N (N + n) k := by
  rw [go_eq, op_eq]
  simp only [goD, xec, runRegion, opD]
  rw [← run1_map ops e o []]
  cases runOps G cf N (N + n) ops e o [] with
  | none => exact propext ⟨(fun ⟨_, _, h, _⟩ => by cases h), False.elim⟩
  | some r =>
    cases r with
    | ok e' o' fps => exact propext ⟨fun ⟨_, _, h, h2⟩ => (by cases h; exact h2), fun h => ⟨_, _, rfl, h⟩⟩
    | panic v fps => exact propext ⟨fun ⟨_, _, h, h2⟩ => (by cases h; rw [backD_panic] at h2; exact h2), fun h => ⟨_, _, rfl, by rw [backD_panic]; exact h⟩⟩
theorem go_drawn (p : List (Nat × Nat)) (l : List Nat) (n : Nat) (ops : List Op') (e : Env) (o : Hp) (N : Nat) : go G cf Φ (.region (some (p, l)) n ops) k ⟨e, o, N⟩ = op G cf Φ (.draw p l []) ops e o N (N + n) k := by
  rw [go_eq, op_eq]
  simp only [goD, xec, runRegion, opD]
  cases runOps G cf N (N + n) ops e o [] with
  | none => exact propext ⟨(fun ⟨_, _, h, _⟩ => by cases h), False.elim⟩
  | some r =>
    cases r with
    | ok e' o' fps =>
      show (∃ y s', (if drawOK (some (p, l)) fps = true then some (Ex.normal, (⟨e', o', N + n⟩ : St)) else none) = some (y, s') ∧ backD G cf Φ k y s') = (drawOK (some (p, l)) fps = true ∧ _)
      by_cases hc : drawOK (some (p, l)) fps = true
      · rw [if_pos hc]; exact propext ⟨fun ⟨_, _, h, h2⟩ => (by cases h; exact ⟨hc, h2⟩), fun h => ⟨_, _, rfl, h.2⟩⟩
      · rw [if_neg hc]; exact propext ⟨(fun ⟨_, _, h, _⟩ => by cases h), (fun h => absurd h.1 hc)⟩
    | panic v fps =>
      show (∃ y s', (if drawPan (some (p, l)) fps = true then some (Ex.panic v, (⟨e, o, N⟩ : St)) else none) = some (y, s') ∧ backD G cf Φ k y s') = (drawPan (some (p, l)) fps = true ∧ _)
      by_cases hc : drawPan (some (p, l)) fps = true
      · rw [if_pos hc]; exact propext ⟨fun ⟨_, _, h, h2⟩ => (by cases h; rw [backD_panic] at h2; exact ⟨hc, h2⟩), fun h => ⟨_, _, rfl, by rw [backD_panic]; exact h.2⟩⟩
      · rw [if_neg hc]; exact propext ⟨(fun ⟨_, _, h, _⟩ => by cases h), (fun h => absurd h.1 hc)⟩
theorem go_draw (p : Nat × Nat) (ps : List (Nat × Nat)) (l : List Nat) (n : Nat) (ops : List Op') (e : Env) (o : Hp) (N : Nat) : go G cf Φ (.region (some (p :: ps, l)) n ops) k ⟨e, o, N⟩ = op G cf Φ (.draw (p :: ps) l []) ops e o N (N + n) k := go_drawn _ l n ops e o N
theorem go_free (l : List Nat) (n : Nat) (ops : List Op') (e : Env) (o : Hp) (N : Nat) : go G cf Φ (.region (some ([], l)) n ops) k ⟨e, o, N⟩ = op G cf Φ (.free l 0) ops e o N (N + n) k := by
  rw [go_drawn, op_eq]
  simp only [opD]
  show _ = (match runOps G cf N (N + n) ops e o [] with
    | some (.ok e' o' _) => backD G cf Φ k .normal ⟨e', o', N + n⟩
    | some (.panic v fps') => l.contains fps'.length = true ∧ ∀ s, Φ (.panic v) s
    | none => False)
  cases runOps G cf N (N + n) ops e o [] with
  | none => rfl
  | some r =>
    cases r with
    | ok e' o' fps => exact propext ⟨fun h => h.2, fun h => ⟨rfl, h⟩⟩
    | panic v fps => simp only [checkPairs, Bool.true_and]

section
variable {e : Env} {o : Hp} {b cx : Nat}
theorem op_nil : op G cf Φ .plain [] e o b cx k = back G cf Φ k .normal ⟨e, o, cx⟩ := by rw [op_eq, back_eq]; rfl
theorem op_nil_free (l : List Nat) (n : Nat) : op G cf Φ (.free l n) [] e o b cx k = back G cf Φ k .normal ⟨e, o, cx⟩ := by rw [op_eq, back_eq]; rfl
theorem op_nil_draw (p : List (Nat × Nat)) (l : List Nat) (fps : List Fp) : op G cf Φ (.draw p l fps) [] e o b cx k = (checkPairs fps.reverse p = true ∧ back G cf Φ k .normal ⟨e, o, cx⟩) := by rw [op_eq, back_eq]; rfl

/-- A panic. -/
def panOut (Φ : Pst) (v : V) : Md → Prop
  | .plain => ∀ s, Φ (.panic v) s
  | .free l n => l.contains n = true ∧ ∀ s, Φ (.panic v) s
  | .draw p l fps => (checkPairs fps.reverse p && l.contains fps.reverse.length) = true ∧ ∀ s, Φ (.panic v) s
theorem panOut_plain (v : V) : panOut Φ v .plain = ∀ s, Φ (.panic v) s := _root_.id rfl
theorem panOut_free (v : V) (l : List Nat) (n : Nat) : panOut Φ v (.free l n) = (l.contains n = true ∧ ∀ s, Φ (.panic v) s) := _root_.id rfl
theorem panOut_draw (v : V) (p : List (Nat × Nat)) (l : List Nat) (fps : List Fp) : panOut Φ v (.draw p l fps) = ((checkPairs fps.reverse p && l.contains fps.reverse.length) = true ∧ ∀ s, Φ (.panic v) s) := _root_.id rfl

theorem op_act {m : Md} {d : Option Nat} {i : I} {r : List Op'} {v : V} {u : List (Nat × AObj)} {fp : Fp} (h : doOp G cf b cx e o i = some (.act v u fp)) :
    op G cf Φ m (⟨d, i, none⟩ :: r) e o b cx k = op G cf Φ (psh m fp) r (eputO e d v) (hputs o u) b cx k := by
  rw [op_eq]
  cases m with
  | plain => simp only [opD, psh, run1, wantedV, h]
  | free l n => simp only [opD, psh, runOps, wantedV, h]; exact opD_free l r _ _ _ _ (by simp)
  | draw p l fps => simp only [opD, psh, runOps, wantedV, h]
theorem op_pan {m : Md} {d : Option Nat} {i : I} {r : List Op'} {v : V} (h : doOp G cf b cx e o i = some (.panic v)) :
    op G cf Φ m (⟨d, i, none⟩ :: r) e o b cx k = panOut Φ v m := by
  unfold panOut
  rw [op_eq]
  cases m with
  | plain => simp only [opD, run1, wantedV, h]
  | free l n => simp only [opD, runOps, wantedV, h, List.length_reverse, List.length_replicate]
  | draw p l fps => simp only [opD, runOps, wantedV, h]
theorem op_none {m : Md} {d : Option Nat} {i : I} {r : List Op'} (h : doOp G cf b cx e o i = none) :
    op G cf Φ m (⟨d, i, none⟩ :: r) e o b cx k = False := by
  rw [op_eq]
  cases m with
  | plain => simp only [opD, run1, wantedV, h]
  | free l n => simp only [opD, runOps, wantedV, h]
  | draw p l fps => simp only [opD, runOps, wantedV, h]
/-- An operation that is done only where a truth value is as asked. -/
def opg (G : Nat → Option (List V)) (cf : CallFn) (Φ : Pst) (g : V) (c : Bool) (m : Md) (d : Option Nat) (i : I) (r : List Op') (e : Env) (o : Hp) (b cx : Nat) (k : List Fr) : Prop :=
  match g with
  | .bool x => if x == c then op G cf Φ m (⟨d, i, none⟩ :: r) e o b cx k else op G cf Φ (psh m ⟨[], []⟩) r (eputO e d .junk) o b cx k
  | _ => False
theorem op_guard {m : Md} {d : Option Nat} {i : I} {r : List Op'} {t : Nat} {c : Bool} :
    op G cf Φ m (⟨d, i, some (t, c)⟩ :: r) e o b cx k = opg G cf Φ (e t) c m d i r e o b cx k := by
  unfold opg
  rw [op_eq]
  cases h : e t
  case bool x =>
    simp only
    cases m with
    | plain => simp only [opD, psh, run1, wantedV, h]; cases x == c <;> rfl
    | free l n =>
      simp only [opD, psh, runOps, wantedV, h]
      cases x == c
      · exact opD_free l r _ _ _ _ (by simp)
      · rfl
    | draw p l fps => simp only [opD, psh, runOps, wantedV, h]; cases x == c <;> rfl
  all_goals (cases m <;> simp only [opD, run1, runOps, wantedV, h])
theorem opg_tt {m : Md} {d : Option Nat} {i : I} {r : List Op'} : opg G cf Φ (.bool true) true m d i r e o b cx k = op G cf Φ m (⟨d, i, none⟩ :: r) e o b cx k := _root_.id rfl
theorem opg_ff {m : Md} {d : Option Nat} {i : I} {r : List Op'} : opg G cf Φ (.bool false) false m d i r e o b cx k = op G cf Φ m (⟨d, i, none⟩ :: r) e o b cx k := _root_.id rfl
theorem opg_tf {m : Md} {d : Option Nat} {i : I} {r : List Op'} : opg G cf Φ (.bool true) false m d i r e o b cx k = op G cf Φ (psh m ⟨[], []⟩) r (eputO e d .junk) o b cx k := _root_.id rfl
theorem opg_ft {m : Md} {d : Option Nat} {i : I} {r : List Op'} : opg G cf Φ (.bool false) true m d i r e o b cx k = op G cf Φ (psh m ⟨[], []⟩) r (eputO e d .junk) o b cx k := _root_.id rfl

/-- What comes behind an operation. -/
def on (G : Nat → Option (List V)) (cf : CallFn) (Φ : Pst) (a : Option Act) (m : Md) (d : Option Nat) (r : List Op') (e : Env) (o : Hp) (b cx : Nat) (k : List Fr) : Prop :=
  match a with
  | some a => op G cf Φ (psh m ⟨a.rd, ids a.ups⟩) r (eputO e d a.val) (hputs o a.ups) b cx k
  | none => False
theorem on_some {m : Md} {d : Option Nat} {r : List Op'} (v : V) (u : List (Nat × AObj)) (rd : List Nat) :
    on G cf Φ (some ⟨v, u, rd⟩) m d r e o b cx k = op G cf Φ (psh m ⟨rd, ids u⟩) r (eputO e d v) (hputs o u) b cx k := _root_.id rfl
theorem on_ok {m : Md} {d : Option Nat} {r : List Op'} (v : V) :
    on G cf Φ (ok v) m d r e o b cx k = op G cf Φ (psh m ⟨[], []⟩) r (eputO e d v) o b cx k := _root_.id rfl
theorem on_ok1 {d : Nat} {r : List Op'} (v : V) :
    on G cf Φ (ok v) .plain (some d) r e o b cx k = op G cf Φ .plain r (eput e d v) o b cx k := _root_.id rfl
theorem on_okV {m : Md} {d : Option Nat} {r : List Op'} (v : V) :
    on G cf Φ (okV (some v)) m d r e o b cx k = op G cf Φ (psh m ⟨[], []⟩) r (eputO e d v) o b cx k := _root_.id rfl
theorem on_okV1 {d : Nat} {r : List Op'} (v : V) :
    on G cf Φ (okV (some v)) .plain (some d) r e o b cx k = op G cf Φ .plain r (eput e d v) o b cx k := _root_.id rfl
def isCall : I → Bool
  | .call _ _ _ _ => true
  | .panic _ => true
  | _ => false
theorem op_step {m : Md} {d : Option Nat} {i : I} {r : List Op'} (hi : isCall i = false) :
    op G cf Φ m (⟨d, i, none⟩ :: r) e o b cx k = on G cf Φ (stepI G e o b i) m d r e o b cx k := by
  have hd : doOp G cf b cx e o i = (stepI G e o b i).map fun a => .act a.val a.ups ⟨a.rd, ids a.ups⟩ := by
    cases i <;> first | rfl | cases hi
  cases h : stepI G e o b i with
  | none => rw [h] at hd; rw [op_none hd]; rfl
  | some a => rw [h] at hd; rw [op_act hd]; rfl
end
end

/-! ### Names in two layers: those of the function, and those that pass -/
def e2 (T : Nat) (l t : Env) : Env := fun s => if s < T then l s else t s
theorem e2_self (T : Nat) (e : Env) : e2 T e e = e := by funext s; unfold e2; split <;> rfl
theorem e2_ap (T : Nat) (l t : Env) (s : Nat) : e2 T l t s = if s < T then l s else t s := _root_.id rfl
theorem eput_e2 (T : Nat) (l t : Env) (d : Nat) (v : V) : eput (e2 T l t) d v = if d < T then e2 T (eput l d v) t else e2 T l (eput t d v) := by
  funext s
  by_cases h : d < T
  · rw [if_pos h]
    unfold e2 eput
    by_cases hs : s = d
    · subst hs; simp [h]
    · simp [hs]
  · rw [if_neg h]
    unfold e2 eput
    by_cases hs : s = d
    · subst hs; simp [h]
    · simp [hs]
section
variable {G : Nat → Option (List V)} {cf : CallFn} {Φ : Pst} {k : List Fr} {s : St}
theorem go_loop2 {a : MC} (T : Nat) (I : Nat → St → Prop) (n : Nat) (h0 : I n s) (hs : ∀ n e o N, I n ⟨e, o, N⟩ → go G cf (lpost G cf Φ I n k) a [] ⟨e2 T e e, o, N⟩) : go G cf Φ (.loop a) k s :=
  go_loop I n h0 fun n s hI => by have := hs n s.e s.o s.N hI; rw [e2_self] at this; exact this
end
end Go.Proofs.YtoccgkgdhobmfaaDoor.Am.Ru

/- The abstract machine, part 30: each instruction over values. -/
set_option linter.unusedVariables false
set_option linter.unusedSimpArgs false
namespace Go.Proofs.YtoccgkgdhobmfaaDoor.Am.Ru
open Go

/-! ### Instructions over values -/
def vPick (c x y : V) : Option Act := match c with | .bool t => ok (if t then x else y) | _ => none
def vBox (i : Nat) (x : V) : Option Act := if okCells x then some ⟨.ptr i 0, [(i, .box x.cells)], []⟩ else none
def vBuild (x : Option (List V)) : Option Act := okV (x.map .agg)
def fill1 (off n : Nat) (v : V) (cs : List V) : Option (List V) := if v.cells.length = n ∧ okCells v = true then splice off v.cells cs else none
def fpR (G : Nat → Option (List V)) (e : Env) (r : List (Nat × Nat × Arg)) (x : Option (List V)) : Option (List V) := x.bind (fillParts G e r)
def fillE (j esz : Nat) (v : V) (xs : List (List V)) : Option (List (List V)) := if v.cells.length = esz ∧ j < xs.length ∧ okCells v = true then some (xs.set j v.cells) else none
def feR (G : Nat → Option (List V)) (e : Env) (esz : Nat) (r : List (Nat × Arg)) (x : Option (List (List V))) : Option (List (List V)) := x.bind (fillElems G e esz r)
def vLit (i esz : Nat) (x : Option (List (List V))) : Option Act := x.map fun xs => ⟨.vsl i 0 xs.length, [(i, .vec esz xs)], []⟩
def vIlit (esz : Nat) (x : Option (List (List V))) : Option Act := okV ((x.bind nrmLL).map (.sl esz))
def vLoad (o : Hp) (agg : Option Nat) (a : V) : Option Act := (peek o (agg.getD 1) a).bind fun r => (aggOf agg r.1).map fun v => ⟨v, [], r.2⟩
def vStore (o : Hp) (n : Nat) (a x : V) : Option Act := if x.cells.length = n ∧ okCells x = true then (poke o x.cells a).map fun u => ⟨.junk, u, []⟩ else none
def vNil (x : V) : Option Act := match x with
    | .ptr i off => ok (.ptr i off)
    | .ept i j off => ok (.ept i j off)
    | .imp c off => ok (.imp c off)
    | .fn f c => ok (.fn f c)
    | _ => none
def negb (neg : Bool) (b : Option Bool) : Option V := b.map fun b => .bool (if neg then !b else b)
def vEqv (neg : Bool) (ks : List Nat) (x y : V) : Option Act := match x, y with
    | .agg a, .agg b => okV (negb neg (eqCells ks a b))
    | _, _ => none
def vEqb (neg : Bool) (x y : V) : Option Act := match x, y with
    | .bool a, .bool b => ok (.bool (if neg then !(a == b) else (a == b)))
    | _, _ => none
def vConvInt (k : IntKind) (x : V) : Option Act := match x with | .int _ n => ok (.int k (k.wrap n)) | _ => none
def vConvStr (o : Hp) (x : V) : Option Act := if isStrV x then none else (elemsOf o 1 x).bind fun r => (bytesOf r.1).map fun s => ⟨.str s, [], r.2⟩
def vConvBytes (x : V) : Option Act := match x with | .str s => ok (.sl 1 (bytesV s)) | _ => none
def vConvSl (o : Hp) (x : V) : Option Act := match x with
    | .vsl i st len => match o i with
      | .vec s xs => if 0 < len then some ⟨.vsl i st len, [(i, .vec s xs)], []⟩ else none
      | _ => none
    | _ => none
def vArrPtr (n : Nat) (x : V) : Option Act := match x with | .bsl i off len _ => if 0 < n ∧ n ≤ len then ok (.ptr i off) else none | _ => none
def optV (d : Nat) : Option V → Option Nat
  | none => some d
  | some x => asN x
def vSliceS (x : V) (lo hi : Option V) : Option Act := match x with
    | .str s => (optV 0 lo).bind fun l => (optV s.length hi).bind fun h => if l ≤ h ∧ h ≤ s.length then ok (.str ((s.drop l).take (h - l))) else none
    | _ => none
def vSliceL (o : Hp) (esz : Nat) (x : V) (lo hi : Option V) : Option Act := (lenOf x).bind fun n => (optV 0 lo).bind fun l => (optV n hi).bind fun h => sliceElems o esz l h x
def vSliceA (n esz : Nat) (x : V) (lo hi : Option V) : Option Act := match x with
    | .ptr i off => (optV 0 lo).bind fun l => (optV n hi).bind fun h => if l ≤ h ∧ h ≤ n then ok (.bsl i (off + l * esz) (h - l) esz) else none
    | _ => none
def vFieldAddr (off : Nat) (x : V) : Option Act := match x with
    | .ptr i a => ok (.ptr i (a + off))
    | .ept i j a => ok (.ept i j (a + off))
    | .imp c a => ok (.imp c (a + off))
    | _ => none
def vField (off : Nat) (agg : Option Nat) (x : V) : Option Act := match x with
    | .agg cs => okV ((cut off (agg.getD 1) cs).bind (aggOf agg))
    | _ => none
def vIndexAddrA (n esz : Nat) (x i : V) : Option Act := (asN i).bind fun j => if j < n then (match x with
    | .ptr i a => ok (.ptr i (a + j * esz))
    | .ept i k a => ok (.ept i k (a + j * esz))
    | .imp c a => ok (.imp c (a + j * esz))
    | _ => none) else none
def vIndexAddrL (o : Hp) (esz : Nat) (x i : V) : Option Act := (asN i).bind fun j => idxL o esz j x
def vIndexS (x i : V) : Option Act := (asN i).bind fun j => match x with
    | .str s => (s[j]?).bind fun b => ok (.int .u8 b.toNat)
    | _ => none
def vIndexA (n esz : Nat) (agg : Bool) (x i : V) : Option Act := (asN i).bind fun j => match x with
    | .agg cs => if j < n then okV ((cut (j * esz) esz cs).bind (aggOf (if agg then some esz else none))) else none
    | _ => none
def vAppend (o : Hp) (id esz eb : Nat) (s x : V) : Option Act := (elemsOf o esz x).bind fun r => appendTo o id esz eb r.1 r.2 s
def vCopy (o : Hp) (esz : Nat) (d s : V) : Option Act := (elemsOf o esz s).bind fun r => match d with
    | .bsl i off len t => if t = esz ∧ !r.2.contains i then (match o i with
      | .box cs => (splice off (r.1.take len).flatten cs).map fun c => ⟨lenB (min r.1.length len), [(i, .box c)], r.2⟩
      | _ => none) else none
    | _ => none
def vLen (x : V) : Option Act := okV ((lenOf x).map lenB)
def vLenS (x : V) : Option Act := match x with | .str s => ok (lenB s.length) | _ => none
def vCap0 (x : V) : Option Act := match x with | .nils _ => ok (lenB 0) | _ => none
def vMax (l : List V) : Option Act := match l with | a :: r => okV (foldV maxI a r) | [] => none
def vMin (l : List V) : Option Act := match l with | a :: r => okV (foldV minI a r) | [] => none
def vMake (i esz eb : Nat) (zero : List V) (len cap : V) : Option Act := (asN len).bind fun n => (asN cap).bind fun c =>
      if n ≤ c ∧ room c eb then some ⟨.vsl i 0 n, [(i, .vec esz (List.replicate n zero))], []⟩ else none
def vExtract (x : V) (i : Nat) : Option Act := match x with | .tup vs => okV (vs[i]?) | _ => none

section
variable {G : Nat → Option (List V)} {cf : CallFn} {Φ : Pst} {k : List Fr} {e : Env} {o : Hp} {b cx : Nat} {m : Md} {d : Option Nat} {r : List Op'}

theorem op_mov (x : Arg) : op G cf Φ m (⟨d, .mov x, none⟩ :: r) e o b cx k = on G cf Φ (ok (evA G e x)) m d r e o b cx k := op_step rfl
theorem op_pick (c x y : Arg) : op G cf Φ m (⟨d, .pick c x y, none⟩ :: r) e o b cx k = on G cf Φ (vPick (evA G e c) (evA G e x) (evA G e y)) m d r e o b cx k := op_step rfl
theorem op_alloc (n : Nat) (z : List V) : op G cf Φ m (⟨d, .alloc n z, none⟩ :: r) e o b cx k = on G cf Φ (some ⟨.ptr (b + n) 0, [(b + n, .box z)], []⟩) m d r e o b cx k := op_step rfl
theorem op_box (n : Nat) (x : Arg) : op G cf Φ m (⟨d, .box n x, none⟩ :: r) e o b cx k = on G cf Φ (vBox (b + n) (evA G e x)) m d r e o b cx k := op_step rfl
theorem op_build (z : List V) (ps : List (Nat × Nat × Arg)) : op G cf Φ m (⟨d, .build z ps, none⟩ :: r) e o b cx k = on G cf Φ (vBuild (fillParts G e ps z)) m d r e o b cx k := op_step rfl
theorem op_lit (n esz : Nat) (z : List (List V)) (ps : List (Nat × Arg)) : op G cf Φ m (⟨d, .lit n esz z ps, none⟩ :: r) e o b cx k = on G cf Φ (vLit (b + n) esz (fillElems G e esz ps z)) m d r e o b cx k := op_step rfl
theorem op_ilit (esz : Nat) (z : List (List V)) (ps : List (Nat × Arg)) : op G cf Φ m (⟨d, .ilit esz z ps, none⟩ :: r) e o b cx k = on G cf Φ (vIlit esz (fillElems G e esz ps z)) m d r e o b cx k := op_step rfl
theorem op_load (agg : Option Nat) (a : Arg) : op G cf Φ m (⟨d, .load agg a, none⟩ :: r) e o b cx k = on G cf Φ (vLoad o agg (evA G e a)) m d r e o b cx k := op_step rfl
theorem op_store (n : Nat) (a x : Arg) : op G cf Φ m (⟨d, .store n a x, none⟩ :: r) e o b cx k = on G cf Φ (vStore o n (evA G e a) (evA G e x)) m d r e o b cx k := op_step rfl
theorem op_nilCheck (x : Arg) : op G cf Φ m (⟨d, .nilCheck x, none⟩ :: r) e o b cx k = on G cf Φ (vNil (evA G e x)) m d r e o b cx k := op_step rfl
theorem op_bin (p : BinOp) (x y : Arg) : op G cf Φ m (⟨d, .bin p x y, none⟩ :: r) e o b cx k = on G cf Φ (okV (binV p (evA G e x) (evA G e y))) m d r e o b cx k := op_step rfl
theorem op_eqv (neg : Bool) (ks : List Nat) (x y : Arg) : op G cf Φ m (⟨d, .eqv neg ks x y, none⟩ :: r) e o b cx k = on G cf Φ (vEqv neg ks (evA G e x) (evA G e y)) m d r e o b cx k := op_step rfl
theorem op_eqb (neg : Bool) (x y : Arg) : op G cf Φ m (⟨d, .eqb neg x y, none⟩ :: r) e o b cx k = on G cf Φ (vEqb neg (evA G e x) (evA G e y)) m d r e o b cx k := op_step rfl
theorem op_eqp (neg : Bool) (x y : Arg) : op G cf Φ m (⟨d, .eqp neg x y, none⟩ :: r) e o b cx k = on G cf Φ (okV (negb neg (eqP (evA G e x) (evA G e y)))) m d r e o b cx k := op_step rfl
theorem op_un (u : UnOp) (x : Arg) : op G cf Φ m (⟨d, .un u x, none⟩ :: r) e o b cx k = on G cf Φ (okV (unV u (evA G e x))) m d r e o b cx k := op_step rfl
theorem op_convInt (q : IntKind) (x : Arg) : op G cf Φ m (⟨d, .convInt q x, none⟩ :: r) e o b cx k = on G cf Φ (vConvInt q (evA G e x)) m d r e o b cx k := op_step rfl
theorem op_convStr (x : Arg) : op G cf Φ m (⟨d, .convStr x, none⟩ :: r) e o b cx k = on G cf Φ (vConvStr o (evA G e x)) m d r e o b cx k := op_step rfl
theorem op_convBytes (x : Arg) : op G cf Φ m (⟨d, .convBytes x, none⟩ :: r) e o b cx k = on G cf Φ (vConvBytes (evA G e x)) m d r e o b cx k := op_step rfl
theorem op_convSl (x : Arg) : op G cf Φ m (⟨d, .convSl x, none⟩ :: r) e o b cx k = on G cf Φ (vConvSl o (evA G e x)) m d r e o b cx k := op_step rfl
theorem op_arrPtr (n : Nat) (x : Arg) : op G cf Φ m (⟨d, .arrPtr n x, none⟩ :: r) e o b cx k = on G cf Φ (vArrPtr n (evA G e x)) m d r e o b cx k := op_step rfl
theorem op_mkIface (t : Nat) (x : Arg) : op G cf Φ m (⟨d, .mkIface t x, none⟩ :: r) e o b cx k = on G cf Φ (ok (.iface t (evA G e x))) m d r e o b cx k := op_step rfl
theorem op_mkFn (f : Nat) (xs : List Arg) : op G cf Φ m (⟨d, .mkFn f xs, none⟩ :: r) e o b cx k = on G cf Φ (ok (.fn f (xs.map (evA G e)))) m d r e o b cx k := op_step rfl
theorem optN_map (n : Nat) (x : Option Arg) : optN G e n x = optV n (x.map (evA G e)) := by cases x <;> rfl
theorem op_sliceS (x : Arg) (lo hi : Option Arg) : op G cf Φ m (⟨d, .sliceS x lo hi, none⟩ :: r) e o b cx k = on G cf Φ (vSliceS (evA G e x) (lo.map (evA G e)) (hi.map (evA G e))) m d r e o b cx k := by
  rw [op_step rfl]; simp only [stepI, vSliceS, optN_map]; rfl
theorem op_sliceL (esz : Nat) (x : Arg) (lo hi : Option Arg) : op G cf Φ m (⟨d, .sliceL esz x lo hi, none⟩ :: r) e o b cx k = on G cf Φ (vSliceL o esz (evA G e x) (lo.map (evA G e)) (hi.map (evA G e))) m d r e o b cx k := by
  rw [op_step rfl]; simp only [stepI, vSliceL, optN_map]
theorem op_sliceA (n esz : Nat) (x : Arg) (lo hi : Option Arg) : op G cf Φ m (⟨d, .sliceA n esz x lo hi, none⟩ :: r) e o b cx k = on G cf Φ (vSliceA n esz (evA G e x) (lo.map (evA G e)) (hi.map (evA G e))) m d r e o b cx k := by
  rw [op_step rfl]; simp only [stepI, vSliceA, optN_map]; rfl
theorem op_fieldAddr (off : Nat) (x : Arg) : op G cf Φ m (⟨d, .fieldAddr off x, none⟩ :: r) e o b cx k = on G cf Φ (vFieldAddr off (evA G e x)) m d r e o b cx k := op_step rfl
theorem op_field (off : Nat) (agg : Option Nat) (x : Arg) : op G cf Φ m (⟨d, .field off agg x, none⟩ :: r) e o b cx k = on G cf Φ (vField off agg (evA G e x)) m d r e o b cx k := op_step rfl
theorem op_indexAddrA (n esz : Nat) (x i : Arg) : op G cf Φ m (⟨d, .indexAddrA n esz x i, none⟩ :: r) e o b cx k = on G cf Φ (vIndexAddrA n esz (evA G e x) (evA G e i)) m d r e o b cx k := op_step rfl
theorem op_indexAddrL (esz : Nat) (x i : Arg) : op G cf Φ m (⟨d, .indexAddrL esz x i, none⟩ :: r) e o b cx k = on G cf Φ (vIndexAddrL o esz (evA G e x) (evA G e i)) m d r e o b cx k := op_step rfl
theorem op_indexS (x i : Arg) : op G cf Φ m (⟨d, .indexS x i, none⟩ :: r) e o b cx k = on G cf Φ (vIndexS (evA G e x) (evA G e i)) m d r e o b cx k := op_step rfl
theorem op_indexA (n esz : Nat) (agg : Bool) (x i : Arg) : op G cf Φ m (⟨d, .indexA n esz agg x i, none⟩ :: r) e o b cx k = on G cf Φ (vIndexA n esz agg (evA G e x) (evA G e i)) m d r e o b cx k := op_step rfl
theorem op_append (n esz eb : Nat) (x y : Arg) : op G cf Φ m (⟨d, .append n esz eb x y, none⟩ :: r) e o b cx k = on G cf Φ (vAppend o (b + n) esz eb (evA G e x) (evA G e y)) m d r e o b cx k := op_step rfl
theorem op_copy (esz : Nat) (x y : Arg) : op G cf Φ m (⟨d, .copy esz x y, none⟩ :: r) e o b cx k = on G cf Φ (vCopy o esz (evA G e x) (evA G e y)) m d r e o b cx k := op_step rfl
theorem op_len (x : Arg) : op G cf Φ m (⟨d, .len x, none⟩ :: r) e o b cx k = on G cf Φ (vLen (evA G e x)) m d r e o b cx k := op_step rfl
theorem op_lenS (x : Arg) : op G cf Φ m (⟨d, .lenS x, none⟩ :: r) e o b cx k = on G cf Φ (vLenS (evA G e x)) m d r e o b cx k := op_step rfl
theorem op_lenA (n : Nat) : op G cf Φ m (⟨d, .lenA n, none⟩ :: r) e o b cx k = on G cf Φ (ok (.int .i64 (n : Int))) m d r e o b cx k := op_step rfl
theorem op_cap0 (x : Arg) : op G cf Φ m (⟨d, .cap0 x, none⟩ :: r) e o b cx k = on G cf Φ (vCap0 (evA G e x)) m d r e o b cx k := op_step rfl
theorem op_mmax (xs : List Arg) : op G cf Φ m (⟨d, .mmax xs, none⟩ :: r) e o b cx k = on G cf Φ (vMax (xs.map (evA G e))) m d r e o b cx k := by
  rw [op_step rfl]; simp only [stepI, vMax]; rfl
theorem op_mmin (xs : List Arg) : op G cf Φ m (⟨d, .mmin xs, none⟩ :: r) e o b cx k = on G cf Φ (vMin (xs.map (evA G e))) m d r e o b cx k := by
  rw [op_step rfl]; simp only [stepI, vMin]; rfl
theorem op_make (n esz eb : Nat) (z : List V) (x y : Arg) : op G cf Φ m (⟨d, .make n esz eb z x y, none⟩ :: r) e o b cx k = on G cf Φ (vMake (b + n) esz eb z (evA G e x) (evA G e y)) m d r e o b cx k := op_step rfl
theorem op_extract (x : Arg) (i : Nat) : op G cf Φ m (⟨d, .extract x i, none⟩ :: r) e o b cx k = on G cf Φ (vExtract (evA G e x) i) m d r e o b cx k := op_step rfl

/-! ### Calls that are handed no object, and panics -/
inductive CV where
  | ret (v : V)
  | panic (v : V)
end
/-- What a call comes to that is handed no object. -/
noncomputable def valP (cf : CallFn) (f : Nat) (a : List V) : Option CV := match cf f a dd 0 with
  | some (.ret v _) => some (.ret v)
  | some (.panic v) => some (.panic v)
  | none => none
def cl (G : Nat → Option (List V)) (cf : CallFn) (Φ : Pst) (f : V) (args : List V) (own : Option Nat) (m : Md) (d : Option Nat) (r : List Op') (e : Env) (o : Hp) (b cx : Nat) (k : List Fr) : Prop :=
  match doCall cf o b cx f args [] own with
  | some (.act v u fp) => op G cf Φ (psh m fp) r (eputO e d v) (hputs o u) b cx k
  | some (.panic v) => panOut Φ v m
  | none => False
def clf (G : Nat → Option (List V)) (cf : CallFn) (Φ : Pst) (g : Nat) (fa : Option (List V × List (Nat × AObj))) (lk : List Nat) (own : Option Nat) (m : Md) (d : Option Nat) (r : List Op') (e : Env) (o : Hp) (b cx : Nat) (k : List Fr) : Prop :=
  match fa with
  | some (as, ups) => match valP cf g as with
    | some (.ret v) => op G cf Φ (psh m ⟨lk, ids (if scalar v then [] else ups) ++ ids (thaw (own.map (b + ·)) v).2⟩) r (eputO e d (thaw (own.map (b + ·)) v).1) (hputs o ((if scalar v then [] else ups) ++ (thaw (own.map (b + ·)) v).2)) b cx k
    | some (.panic v) => panOut Φ v m
    | none => False
  | none => False
def clv (G : Nat → Option (List V)) (cf : CallFn) (Φ : Pst) (c : Option CV) (ups : List (Nat × AObj)) (lk : List Nat) (own : Option Nat) (m : Md) (d : Option Nat) (r : List Op') (e : Env) (o : Hp) (b cx : Nat) (k : List Fr) : Prop :=
  match c with
    | some (.ret v) => op G cf Φ (psh m ⟨lk, ids (if scalar v then [] else ups) ++ ids (thaw (own.map (b + ·)) v).2⟩) r (eputO e d (thaw (own.map (b + ·)) v).1) (hputs o ((if scalar v then [] else ups) ++ (thaw (own.map (b + ·)) v).2)) b cx k
    | some (.panic v) => panOut Φ v m
    | none => False
/-- What is handed back. -/
def clr (G : Nat → Option (List V)) (cf : CallFn) (Φ : Pst) (v : V) (sc : Bool) (th : V × List (Nat × AObj)) (ups : List (Nat × AObj)) (lk : List Nat) (m : Md) (d : Option Nat) (r : List Op') (e : Env) (o : Hp) (b cx : Nat) (k : List Fr) : Prop :=
  op G cf Φ (psh m ⟨lk, ids (if sc then [] else ups) ++ ids th.2⟩) r (eputO e d th.1) (hputs o ((if sc then [] else ups) ++ th.2)) b cx k
section
variable {G : Nat → Option (List V)} {cf : CallFn} {Φ : Pst} {k : List Fr} {e : Env} {o : Hp} {b cx : Nat} {m : Md} {d : Option Nat} {r : List Op'}

theorem op_call (f : Arg) (xs : List Arg) (own : Option Nat) : op G cf Φ m (⟨d, .call f xs [] own, none⟩ :: r) e o b cx k = cl G cf Φ (evA G e f) (xs.map (evA G e)) own m d r e o b cx k := by
  unfold cl
  cases h : doCall cf o b cx (evA G e f) (xs.map (evA G e)) [] own with
  | none => exact op_none h
  | some x => cases x with
    | act v u fp => exact op_act h
    | panic v => exact op_pan h
theorem rawRefs_nil : ∀ l : List V, rawRefs l [] = some [] := by
  intro l
  induction l with
  | nil => rfl
  | cons a l ih => exact ih
theorem cl_fn (g : Nat) (caps args : List V) (own : Option Nat) : cl G cf Φ (.fn g caps) args own m d r e o b cx k = clf G cf Φ g (frzArgs o (args ++ caps) []) (looksArgs o (args ++ caps) []) own m d r e o b cx k := by
  unfold cl clf
  have hreach : reach o 64 [] [] = some [] := _root_.id rfl
  unfold doCall
  simp only
  rw [rawRefs_nil, Option.bind_some, hreach, Option.bind_some]
  cases frzArgs o (args ++ caps) [] with
  | none => rfl
  | some fa =>
    obtain ⟨as, ups⟩ := fa
    have hn : notRef [] ups = true := by unfold notRef; rw [List.all_eq_true]; intro x _; rfl
    rw [Option.bind_some, if_pos hn]
    simp only [List.isEmpty_nil, if_true, valP]
    cases cf g as dd 0 with
    | none => rfl
    | some out =>
      cases out with
      | ret v o' => simp only [closedIn, if_true, Bool.true_and, List.map_nil, List.nil_append]
      | panic v => rfl
theorem clf_some (g : Nat) (as : List V) (ups : List (Nat × AObj)) (lk : List Nat) (own : Option Nat) : clf G cf Φ g (some (as, ups)) lk own m d r e o b cx k = clv G cf Φ (valP cf g as) ups lk own m d r e o b cx k := _root_.id rfl
theorem clv_ret (v : V) (ups : List (Nat × AObj)) (lk : List Nat) (own : Option Nat) : clv G cf Φ (some (.ret v)) ups lk own m d r e o b cx k = clr G cf Φ v (scalar v) (thaw (own.map (b + ·)) v) ups lk m d r e o b cx k := _root_.id rfl
theorem clv_panic (v : V) (ups : List (Nat × AObj)) (lk : List Nat) (own : Option Nat) : clv G cf Φ (some (.panic v)) ups lk own m d r e o b cx k = panOut Φ v m := _root_.id rfl
theorem clr_true (v x : V) (ux ups : List (Nat × AObj)) (lk : List Nat) : clr G cf Φ v true (x, ux) ups lk m d r e o b cx k = op G cf Φ (psh m ⟨lk, ids ux⟩) r (eputO e d x) (hputs o ux) b cx k := _root_.id rfl
theorem clr_false (v x : V) (ux ups : List (Nat × AObj)) (lk : List Nat) : clr G cf Φ v false (x, ux) ups lk m d r e o b cx k = op G cf Φ (psh m ⟨lk, ids ups ++ ids ux⟩) r (eputO e d x) (hputs o (ups ++ ux)) b cx k := _root_.id rfl
/-- A panic with a number of a named type. -/
theorem op_panic (x : Arg) (t : Nat) (q : IntKind) (n : Int) (h : evA G e x = .iface t (.int q n)) : op G cf Φ m (⟨d, .panic x, none⟩ :: r) e o b cx k = panOut Φ (.iface t (.int q n)) m := by
  refine op_pan ?_
  simp only [doOp, h]
end

/-! ### What a function comes to -/
def finV (o : Hp) (N : Nat) (vs : Option (List V)) : Option V := vs.bind fun vs => (result o N (resV vs)).map (·.1)
def fin (res : List Res) (N : Nat) (v : V) : Pst
  | .ret, s => finV s.o N (resAll s.o s.e res) = some v
  | .normal, s => finV s.o N (resAll s.o s.e res) = some v
  | _, _ => False
theorem fin_ret (res : List Res) (N : Nat) (v : V) (s : St) : fin res N v .ret s = (finV s.o N (resAll s.o s.e res) = some v) := _root_.id rfl
theorem fin_normal (res : List Res) (N : Nat) (v : V) (s : St) : fin res N v .normal s = (finV s.o N (resAll s.o s.e res) = some v) := _root_.id rfl
theorem fin_panic (res : List Res) (N : Nat) (v w : V) (s : St) : fin res N v (.panic w) s = False := _root_.id rfl
def finR (r : Option (V × List (Nat × AObj))) : Option V := r.map (·.1)
theorem finR_some (v : V) (u : List (Nat × AObj)) : finR (some (v, u)) = some v := _root_.id rfl
theorem finV_some (o : Hp) (N : Nat) (vs : List V) : finV o N (some vs) = finR (result o N (resV vs)) := _root_.id rfl
/-- A function that ends in a panic. -/
def pan (v : V) : Pst
  | .panic w, _ => w = v
  | _, _ => False
theorem pan_panic (v w : V) (s : St) : pan v (.panic w) s = (w = v) := _root_.id rfl

def jk : Env := fun _ => .junk
theorem jk_ap (s : Nat) : jk s = .junk := _root_.id rfl
theorem init_e2 (t : Nat) (a : List V) (h : a.length ≤ t) : initEnv a = e2 t (initEnv a) jk := by
  funext s
  unfold e2 initEnv jk
  split
  · rfl
  · simp only [List.getD]; rw [List.getElem?_eq_none (by omega)]; rfl
section
variable {G : Nat → Option (List V)} {T : Nat → Option MF} {E : Nat → Option (CallFn → List V → Hp → Nat → Option Out)}
theorem val_run (t : Nat) (hm : MonoE E) {f : Nat} {m : MF} {a : List V} {v : V} (h0 : E f = none) (hT : T f = some m) (hnp : a.length = m.np) (ht : a.length ≤ t)
    (h : go G (cfW G T E) (fin m.res 0 v) m.body [] ⟨e2 t (initEnv a) jk, dd, 0⟩) : valP (cfW G T E) f a = some (.ret v) := by
  rw [← init_e2 t a ht, go_eq] at h
  obtain ⟨y, s, h1, h2⟩ := h
  have key : finV s.o 0 (resAll s.o s.e m.res) = some v → ∃ o', finish m 0 s = some (.ret v o') := by
    intro h
    obtain ⟨vs, h1, h2⟩ := bind_some' h
    obtain ⟨r, h3, rfl⟩ := map_some' h2
    exact ⟨hputs s.o r.2, by simp only [finish, h1, Option.bind_some, h3, Option.map_some]⟩
  cases y with
  | ret => obtain ⟨o', ho⟩ := key h2; simp only [valP, cfW_run hm h0 hT hnp (.inl h1) ho]
  | normal => obtain ⟨o', ho⟩ := key h2; simp only [valP, cfW_run hm h0 hT hnp (.inr h1) ho]
  | exit i => cases h2
  | panic w => cases h2 s
theorem pan_run (t : Nat) (hm : MonoE E) {f : Nat} {m : MF} {a : List V} {v : V} (h0 : E f = none) (hT : T f = some m) (hnp : a.length = m.np) (ht : a.length ≤ t)
    (h : go G (cfW G T E) (pan v) m.body [] ⟨e2 t (initEnv a) jk, dd, 0⟩) : valP (cfW G T E) f a = some (.panic v) := by
  rw [← init_e2 t a ht, go_eq] at h
  obtain ⟨y, s, h1, h2⟩ := h
  cases y with
  | panic w => cases h2 s; simp only [valP, cfW_panic hm h0 hT hnp h1]
  | _ => cases h2
end
end Go.Proofs.YtoccgkgdhobmfaaDoor.Am.Ru

/- The abstract machine, part 31: rules over values, for running by rewriting. -/
set_option linter.unusedVariables false
set_option linter.unusedSimpArgs false
namespace Go.Proofs.YtoccgkgdhobmfaaDoor.Am.Ru
open Go

section
variable {G : Nat → Option (List V)} {e : Env} {o : Hp}
theorem eput_ap (e : Env) (d s : Nat) (v : V) : eput e d v s = if s = d then v else e s := _root_.id rfl
theorem eputO_some (e : Env) (d : Nat) (v : V) : eputO e (some d) v = eput e d v := _root_.id rfl
theorem eputO_none (e : Env) (v : V) : eputO e none v = e := _root_.id rfl
theorem hput_ap (o : Hp) (i j : Nat) (x : AObj) : hput o i x j = if j = i then x else o j := _root_.id rfl
theorem hput_ne (o : Hp) (i j : Nat) (x : AObj) (h : j ≠ i) : hput o i x j = o j := by simp [hput, h]
theorem hput_eq (o : Hp) (i : Nat) (x : AObj) : hput o i x i = x := by simp [hput]
theorem hputs_nil (o : Hp) : hputs o [] = o := _root_.id rfl
theorem hputs_cons (o : Hp) (i : Nat) (x : AObj) (r : List (Nat × AObj)) : hputs o ((i, x) :: r) = hputs (hput o i x) r := _root_.id rfl
theorem evA_tmp (t : Nat) : evA G e (.tmp t) = e t := _root_.id rfl
theorem evA_const (v : V) : evA G e (.const v) = v := _root_.id rfl
theorem evA_fn (f : Nat) : evA G e (.fn f) = .fn f [] := _root_.id rfl
def gv : Option (List V) → V
  | some cs => .imp cs 0
  | none => .junk
theorem gv_some (cs : List V) : gv (some cs) = .imp cs 0 := _root_.id rfl
theorem evA_glob (g : Nat) : evA G e (.glob g) = gv (G g) := _root_.id rfl
theorem initEnv_ap (a : List V) (s : Nat) : initEnv a s = a.getD s .junk := _root_.id rfl

/-! ### Shapes -/
theorem vPick_true (x y : V) : vPick (.bool true) x y = ok x := _root_.id rfl
theorem vPick_false (x y : V) : vPick (.bool false) x y = ok y := _root_.id rfl
theorem vPick_bool (t : Bool) (x y : V) : vPick (.bool t) x y = ok (if t then x else y) := _root_.id rfl
theorem cells_of {v : V} (h : cellV v = true) : v.cells = [v] := by cases v <;> simp_all [cellV, V.cells]
theorem ok_of {v : V} (h : cellV v = true) : okCells v = true := by cases v <;> simp_all [cellV, okCells]
theorem vBox_cell (i : Nat) {x : V} (h : cellV x = true) : vBox i x = some ⟨.ptr i 0, [(i, .box [x])], []⟩ := by
  unfold vBox; rw [ok_of h, cells_of h]; rfl
theorem vBox_agg (i : Nat) (cs : List V) : vBox i (.agg cs) = some ⟨.ptr i 0, [(i, .box cs)], []⟩ := _root_.id rfl
theorem vBuild_some (cs : List V) : vBuild (some cs) = ok (.agg cs) := _root_.id rfl
theorem fp_nil (cs : List V) : fillParts G e [] cs = some cs := _root_.id rfl
theorem fp_cons (off n : Nat) (x : Arg) (r : List (Nat × Nat × Arg)) (cs : List V) : fillParts G e ((off, n, x) :: r) cs = fpR G e r (fill1 off n (evA G e x) cs) := by
  simp only [fillParts, fpR, fill1]
  split
  · rfl
  · rfl
theorem fpR_some (r : List (Nat × Nat × Arg)) (cs : List V) : fpR G e r (some cs) = fillParts G e r cs := _root_.id rfl
theorem fill1_cell (off : Nat) {v : V} (cs : List V) (h : cellV v = true) : fill1 off 1 v cs = splice off [v] cs := by
  unfold fill1; rw [cells_of h, ok_of h]; rfl
theorem fill1_agg (off n : Nat) (as cs : List V) (h : as.length = n) : fill1 off n (.agg as) cs = splice off as cs := by
  unfold fill1; rw [if_pos ⟨h, rfl⟩]; rfl
theorem fe_nil (esz : Nat) (xs : List (List V)) : fillElems G e esz [] xs = some xs := _root_.id rfl
theorem fe_cons (esz j : Nat) (x : Arg) (r : List (Nat × Arg)) (xs : List (List V)) : fillElems G e esz ((j, x) :: r) xs = feR G e esz r (fillE j esz (evA G e x) xs) := by
  simp only [fillElems, feR, fillE]
  split
  · rfl
  · rfl
theorem feR_some (esz : Nat) (r : List (Nat × Arg)) (xs : List (List V)) : feR G e esz r (some xs) = fillElems G e esz r xs := _root_.id rfl
theorem fillE_cell (j : Nat) {v : V} (xs : List (List V)) (h : cellV v = true) (hj : j < xs.length) : fillE j 1 v xs = some (xs.set j [v]) := by
  unfold fillE; rw [cells_of h, ok_of h, if_pos ⟨rfl, hj, rfl⟩]
theorem fillE_agg (j n : Nat) (as : List V) (xs : List (List V)) (h : as.length = n) (hj : j < xs.length) : fillE j n (.agg as) xs = some (xs.set j as) := by
  unfold fillE; rw [if_pos ⟨h, hj, rfl⟩]; rfl
theorem vLit_some (i esz : Nat) (xs : List (List V)) : vLit i esz (some xs) = some ⟨.vsl i 0 xs.length, [(i, .vec esz xs)], []⟩ := _root_.id rfl
theorem vIlit_some (esz : Nat) {xs ys : List (List V)} (h : nrmLL xs = some ys) : vIlit esz (some xs) = ok (.sl esz ys) := by
  simp only [vIlit, Option.bind_some, h, Option.map_some, okV, ok]

/-! ### Cells -/
theorem cut_zero (l : List V) : cut 0 0 l = some [] := by simp [cut]
theorem cut_cons (n : Nat) (v : V) (r : List V) : cut 0 (n + 1) (v :: r) = (cut 0 n r).map (v :: ·) := by
  unfold cut
  simp only [Nat.zero_add, List.length_cons, List.drop_zero, List.take_succ_cons]
  by_cases h : n ≤ r.length
  · rw [if_pos (by omega), if_pos h]; rfl
  · rw [if_neg (by omega), if_neg h]; rfl
theorem cut_succ (off n : Nat) (v : V) (r : List V) : cut (off + 1) n (v :: r) = cut off n r := by
  unfold cut
  simp only [List.length_cons, List.drop_succ_cons]
  by_cases h : off + n ≤ r.length
  · rw [if_pos (by omega), if_pos h]
  · rw [if_neg (by omega), if_neg h]
theorem cut_all (n : Nat) (cs : List V) (h : cs.length = n) : cut 0 n cs = some cs := by
  unfold cut; rw [if_pos (by omega), List.drop_zero, ← h, List.take_length]
theorem cut_num {α : Type} (f : α → V) (ws : List α) (d : α) (off : Nat) (h : off < ws.length) : cut off 1 (ws.map f) = some [f (ws.getD off d)] := by
  unfold cut
  rw [if_pos (by simp; omega)]
  have hd : (ws.map f).drop off = f ws[off] :: (ws.map f).drop (off + 1) := by
    rw [List.drop_eq_getElem_cons (by simpa using h)]; simp
  rw [hd]
  simp [List.getD, h]
theorem cut_map {α : Type} (f : α → V) (ws : List α) (off n : Nat) (h : off + n ≤ ws.length) : cut off n (ws.map f) = some (((ws.drop off).take n).map f) := by
  unfold cut
  rw [if_pos (by simpa using h)]
  simp
theorem splice_nil (cs : List V) : splice 0 [] cs = some cs := by simp [splice]
theorem splice_cons (v c : V) (new cs : List V) : splice 0 (v :: new) (c :: cs) = (splice 0 new cs).map (v :: ·) := by
  unfold splice
  simp only [Nat.zero_add, List.length_cons, List.take_zero, List.nil_append, List.drop_succ_cons, List.cons_append]
  by_cases h : new.length ≤ cs.length
  · rw [if_pos (by omega), if_pos h]; rfl
  · rw [if_neg (by omega), if_neg h]; rfl
theorem splice_succ (off : Nat) (c : V) (new cs : List V) : splice (off + 1) new (c :: cs) = (splice off new cs).map (c :: ·) := by
  unfold splice
  have : off + 1 + new.length = off + new.length + 1 := by omega
  rw [this]
  simp only [List.length_cons, List.take_succ_cons, List.drop_succ_cons, List.cons_append]
  by_cases h : off + new.length ≤ cs.length
  · rw [if_pos (by omega), if_pos h]; rfl
  · rw [if_neg (by omega), if_neg h]; rfl
theorem splice_all (new cs : List V) (h : new.length = cs.length) : splice 0 new cs = some new := by
  unfold splice; rw [if_pos (by omega)]; simp [h]
theorem splice_num {α : Type} (f : α → V) (ws : List α) (off : Nat) (x : α) (h : off < ws.length) : splice off [f x] (ws.map f) = some ((ws.set off x).map f) := by
  unfold splice
  simp only [List.length_cons, List.length_nil, Nat.zero_add, List.length_map]
  rw [if_pos (by omega), List.map_set, List.set_eq_take_append_cons_drop]
  rw [if_pos (by simpa using h)]; rfl

/-! ### Loads and stores -/
def ldc (agg : Option Nat) (rd : List Nat) (cs : Option (List V)) : Option Act := cs.bind fun cs => (aggOf agg cs).map fun v => ⟨v, [], rd⟩
def ld (agg : Option Nat) (i off : Nat) (x : AObj) : Option Act := match x with
  | .box cs => ldc agg [i] (cut off (agg.getD 1) cs)
  | .fbox cs => ldc agg [i] (cut off (agg.getD 1) cs)
  | _ => none
def lde (agg : Option Nat) (i off : Nat) (c : Option (List V)) : Option Act := c.bind fun c => ldc agg [i] (cut off (agg.getD 1) c)
def ldv (agg : Option Nat) (i j off : Nat) (x : AObj) : Option Act := match x with
  | .vec _ xs => lde agg i off (xs[j]?)
  | .fvec _ xs => lde agg i off (xs[j]?)
  | _ => none
theorem vLoad_ptr (agg : Option Nat) (i off : Nat) : vLoad o agg (.ptr i off) = ld agg i off (o i) := by
  unfold vLoad ld
  simp only [peek, rdBox]
  cases o i <;> (try rfl)
  all_goals (simp only [Option.bind_some, ldc]; rename_i cs; cases cut off (agg.getD 1) cs <;> rfl)
theorem ld_box (agg : Option Nat) (i off : Nat) (cs : List V) : ld agg i off (.box cs) = ldc agg [i] (cut off (agg.getD 1) cs) := _root_.id rfl
theorem ld_fbox (agg : Option Nat) (i off : Nat) (cs : List V) : ld agg i off (.fbox cs) = ldc agg [i] (cut off (agg.getD 1) cs) := _root_.id rfl
theorem vLoad_imp (agg : Option Nat) (cs : List V) (off : Nat) : vLoad o agg (.imp cs off) = ldc agg [] (cut off (agg.getD 1) cs) := by
  unfold vLoad; simp only [peek, ldc]; cases cut off (agg.getD 1) cs <;> rfl
theorem vLoad_ept (agg : Option Nat) (i j off : Nat) : vLoad o agg (.ept i j off) = ldv agg i j off (o i) := by
  unfold vLoad ldv
  simp only [peek, rdVec]
  cases o i <;> (try rfl)
  all_goals
    simp only [Option.bind_some, lde]
    rename_i n xs
    cases xs[j]? with
    | none => rfl
    | some c => simp only [Option.bind_some, ldc]; cases cut off (agg.getD 1) c <;> rfl
theorem ldv_vec (agg : Option Nat) (i j off n : Nat) (xs : List (List V)) : ldv agg i j off (.vec n xs) = lde agg i off (xs[j]?) := _root_.id rfl
theorem ldv_fvec (agg : Option Nat) (i j off n : Nat) (xs : List (List V)) : ldv agg i j off (.fvec n xs) = lde agg i off (xs[j]?) := _root_.id rfl
theorem lde_some (agg : Option Nat) (i off : Nat) (c : List V) : lde agg i off (some c) = ldc agg [i] (cut off (agg.getD 1) c) := _root_.id rfl
theorem ldc_one (rd : List Nat) (v : V) (r : List V) : ldc none rd (some (v :: r)) = some ⟨v, [], rd⟩ := _root_.id rfl
theorem ldc_agg (n : Nat) (rd : List Nat) (cs : List V) : ldc (some n) rd (some cs) = some ⟨.agg cs, [], rd⟩ := _root_.id rfl

def stc (i : Nat) (cs : Option (List V)) : Option Act := cs.map fun cs => ⟨.junk, [(i, .box cs)], []⟩
def stb (new : List V) (i off : Nat) (x : AObj) : Option Act := match x with
  | .box cs => stc i (splice off new cs)
  | _ => none
def stx (i n : Nat) (xs : List (List V)) (j : Nat) (c : Option (List V)) : Option Act := c.map fun c => ⟨.junk, [(i, .vec n (xs.set j c))], []⟩
def stw (i n : Nat) (xs : List (List V)) (j off : Nat) (new : List V) (c : Option (List V)) : Option Act := c.bind fun c => stx i n xs j (splice off new c)
def stv (new : List V) (i j off : Nat) (x : AObj) : Option Act := match x with
  | .vec n xs => stw i n xs j off new (xs[j]?)
  | _ => none
def sto (o : Hp) (new : List V) (a : V) : Option Act := (poke o new a).map fun u => ⟨.junk, u, []⟩
theorem vStore_cell (a : V) {x : V} (h : cellV x = true) : vStore o 1 a x = sto o [x] a := by
  unfold vStore; rw [cells_of h, ok_of h]; rfl
theorem vStore_agg (n : Nat) (a : V) (cs : List V) (h : cs.length = n) : vStore o n a (.agg cs) = sto o cs a := by
  unfold vStore; rw [if_pos ⟨h, rfl⟩]; rfl
theorem sto_ptr (new : List V) (i off : Nat) : sto o new (.ptr i off) = stb new i off (o i) := by
  unfold sto stb
  simp only [poke]
  cases o i <;> (try rfl)
  rename_i cs
  simp only [stc]
  cases splice off new cs <;> rfl
theorem stb_box (new : List V) (i off : Nat) (cs : List V) : stb new i off (.box cs) = stc i (splice off new cs) := _root_.id rfl
theorem stc_some (i : Nat) (cs : List V) : stc i (some cs) = some ⟨.junk, [(i, .box cs)], []⟩ := _root_.id rfl
theorem sto_ept (new : List V) (i j off : Nat) : sto o new (.ept i j off) = stv new i j off (o i) := by
  unfold sto stv
  simp only [poke]
  cases o i <;> (try rfl)
  rename_i n xs
  simp only [stw, stx]
  cases xs[j]? with
  | none => rfl
  | some c => simp only [Option.bind_some]; cases splice off new c <;> rfl
theorem stv_vec (new : List V) (i j off n : Nat) (xs : List (List V)) : stv new i j off (.vec n xs) = stw i n xs j off new (xs[j]?) := _root_.id rfl
theorem stw_some (i n : Nat) (xs : List (List V)) (j off : Nat) (new c : List V) : stw i n xs j off new (some c) = stx i n xs j (splice off new c) := _root_.id rfl
theorem stx_some (i n : Nat) (xs : List (List V)) (j : Nat) (c : List V) : stx i n xs j (some c) = some ⟨.junk, [(i, .vec n (xs.set j c))], []⟩ := _root_.id rfl
theorem vNil_ptr (i off : Nat) : vNil (.ptr i off) = ok (.ptr i off) := _root_.id rfl
theorem vNil_ept (i j off : Nat) : vNil (.ept i j off) = ok (.ept i j off) := _root_.id rfl
theorem vNil_imp (c : List V) (off : Nat) : vNil (.imp c off) = ok (.imp c off) := _root_.id rfl
theorem vNil_fn (f : Nat) (c : List V) : vNil (.fn f c) = ok (.fn f c) := _root_.id rfl

/-! ### Equality -/
theorem negb_f (b : Bool) : negb false (some b) = some (.bool b) := _root_.id rfl
theorem negb_t (b : Bool) : negb true (some b) = some (.bool !b) := _root_.id rfl
theorem vEqv_agg (neg : Bool) (ks : List Nat) (a b : List V) : vEqv neg ks (.agg a) (.agg b) = okV (negb neg (eqCells ks a b)) := _root_.id rfl
def eqR (x : Option Bool) (y : Option Bool) : Option Bool := x.bind fun x => y.map (x && ·)
theorem eqR_some (x y : Bool) : eqR (some x) (some y) = some (x && y) := _root_.id rfl
theorem eqCells_nil : eqCells [] [] [] = some true := _root_.id rfl
theorem eqCells_cons (q : Nat) (ks : List Nat) (a b : V) (as bs : List V) : eqCells (q :: ks) (a :: as) (b :: bs) = eqR (eqK q a b) (eqCells ks as bs) := _root_.id rfl
theorem eqK_bool (a b : Bool) : eqK 0 (.bool a) (.bool b) = some (a == b) := _root_.id rfl
theorem eqK_int (q : IntKind) (a b : Int) : eqK 1 (.int q a) (.int q b) = some (a == b) := by simp [eqK]
theorem eqK_str (a b : List UInt8) : eqK 2 (.str a) (.str b) = some (a == b) := _root_.id rfl
theorem vEqb_f (a b : Bool) : vEqb false (.bool a) (.bool b) = ok (.bool (a == b)) := _root_.id rfl
theorem vEqb_t (a b : Bool) : vEqb true (.bool a) (.bool b) = ok (.bool (!(a == b))) := _root_.id rfl
theorem eqP_nn : eqP .nilp .nilp = some true := _root_.id rfl
theorem eqP_np (i off : Nat) : eqP .nilp (.ptr i off) = some false := _root_.id rfl
theorem eqP_pn (i off : Nat) : eqP (.ptr i off) .nilp = some false := _root_.id rfl
theorem eqP_ni (c : List V) (off : Nat) : eqP .nilp (.imp c off) = some false := _root_.id rfl
theorem eqP_in (c : List V) (off : Nat) : eqP (.imp c off) .nilp = some false := _root_.id rfl

/-! ### Conversions, strings -/
theorem vConvInt_int (q p : IntKind) (n : Int) : vConvInt q (.int p n) = ok (.int q (q.wrap n)) := _root_.id rfl
theorem bytesOf_bytesV (s : List UInt8) : bytesOf (bytesV s) = some s := by
  induction s with
  | nil => rfl
  | cons a b ih =>
    show (bytesOf (bytesV b)).map (UInt8.ofNat ((a.toNat : Int)).toNat :: ·) = _
    rw [ih]; simp
def cvs (r : Option (List (List V) × List Nat)) : Option Act := r.bind fun r => (bytesOf r.1).map fun s => ⟨.str s, [], r.2⟩
theorem cvs_some (s : List UInt8) (rd : List Nat) : cvs (some (bytesV s, rd)) = some ⟨.str s, [], rd⟩ := by
  simp only [cvs, Option.bind_some, bytesOf_bytesV, Option.map_some]
theorem vConvStr_sl (n : Nat) (xs : List (List V)) : vConvStr o (.sl n xs) = cvs (elemsOf o 1 (.sl n xs)) := _root_.id rfl
theorem vConvStr_nils (n : Nat) : vConvStr o (.nils n) = cvs (elemsOf o 1 (.nils n)) := _root_.id rfl
theorem vConvStr_vsl (i st n : Nat) : vConvStr o (.vsl i st n) = cvs (elemsOf o 1 (.vsl i st n)) := _root_.id rfl
theorem vConvStr_bsl (i off n q : Nat) : vConvStr o (.bsl i off n q) = cvs (elemsOf o 1 (.bsl i off n q)) := _root_.id rfl
theorem vConvBytes_str (s : List UInt8) : vConvBytes (.str s) = ok (.sl 1 (bytesV s)) := _root_.id rfl
theorem vConvSl_vsl (i st len : Nat) (q : Nat) (xs : List (List V)) (h : o i = .vec q xs) (hl : 0 < len) : vConvSl o (.vsl i st len) = some ⟨.vsl i st len, [(i, .vec q xs)], []⟩ := by
  simp only [vConvSl, h, hl, if_true]
theorem vArrPtr_bsl (n i off len q : Nat) (h : 0 < n) (h' : n ≤ len) : vArrPtr n (.bsl i off len q) = ok (.ptr i off) := by
  simp only [vArrPtr]; rw [if_pos ⟨h, h'⟩]
theorem optV_none (n : Nat) : optV n none = some n := _root_.id rfl
theorem optV_some (n : Nat) (v : V) : optV n (some v) = asN v := _root_.id rfl
theorem asN_int (q : IntKind) (n : Int) (h : 0 ≤ n) : asN (.int q n) = some n.toNat := by simp [asN, h]
theorem vSliceS_none (s : List UInt8) : vSliceS (.str s) none none = ok (.str s) := by
  simp [vSliceS, optV]
theorem vSliceS_lo (s : List UInt8) (q : IntKind) (n : Int) (h : 0 ≤ n) (h' : n.toNat ≤ s.length) : vSliceS (.str s) (some (.int q n)) none = ok (.str (s.drop n.toNat)) := by
  simp only [vSliceS, optV, asN_int q n h, Option.bind_some]
  rw [if_pos ⟨h', Nat.le_refl _⟩, List.take_of_length_le (by simp)]
theorem vSliceS_hi (s : List UInt8) (q : IntKind) (n : Int) (h : 0 ≤ n) (h' : n.toNat ≤ s.length) : vSliceS (.str s) none (some (.int q n)) = ok (.str (s.take n.toNat)) := by
  simp only [vSliceS, optV, asN_int q n h, Option.bind_some]
  rw [if_pos ⟨Nat.zero_le _, h'⟩]; rfl
theorem vSliceS_both (s : List UInt8) (q q' : IntKind) (n n' : Int) (h : 0 ≤ n) (h' : n ≤ n') (h'' : n'.toNat ≤ s.length) : vSliceS (.str s) (some (.int q n)) (some (.int q' n')) = ok (.str ((s.drop n.toNat).take (n'.toNat - n.toNat))) := by
  simp only [vSliceS, optV, asN_int q n h, asN_int q' n' (by omega), Option.bind_some]
  rw [if_pos ⟨by omega, h''⟩]
def slR (o : Hp) (esz : Nat) (x : V) (n : Option Nat) (lo hi : Option V) : Option Act := n.bind fun n => (optV 0 lo).bind fun l => (optV n hi).bind fun h => sliceElems o esz l h x
theorem vSliceL_def (esz : Nat) (x : V) (lo hi : Option V) : vSliceL o esz x lo hi = slR o esz x (lenOf x) lo hi := _root_.id rfl
theorem slR_lo (esz n : Nat) (x : V) (q : IntKind) (l : Int) (h : 0 ≤ l) : slR o esz x (some n) (some (.int q l)) none = sliceElems o esz l.toNat n x := by
  simp only [slR, optV, asN_int q l h, Option.bind_some]
theorem slR_hi (esz n : Nat) (x : V) (q : IntKind) (l : Int) (h : 0 ≤ l) : slR o esz x (some n) none (some (.int q l)) = sliceElems o esz 0 l.toNat x := by
  simp only [slR, optV, asN_int q l h, Option.bind_some]
theorem slR_none (esz n : Nat) (x : V) : slR o esz x (some n) none none = sliceElems o esz 0 n x := _root_.id rfl
theorem slR_both (esz n : Nat) (x : V) (q q' : IntKind) (l l' : Int) (h : 0 ≤ l) (h' : 0 ≤ l') : slR o esz x (some n) (some (.int q l)) (some (.int q' l')) = sliceElems o esz l.toNat l'.toNat x := by
  simp only [slR, optV, asN_int q l h, asN_int q' l' h', Option.bind_some]
theorem sliceElems_sl (n lo hi : Nat) (xs : List (List V)) (h : lo ≤ hi) (h' : hi ≤ xs.length) : sliceElems o n lo hi (.sl n xs) = ok (.sl n ((xs.drop lo).take (hi - lo))) := by
  simp only [sliceElems]; rw [if_pos ⟨trivial, h, h'⟩]
theorem sliceElems_vsl (n lo hi i st len : Nat) (xs : List (List V)) (ho : o i = .vec n xs) (h : lo ≤ hi) (h' : hi ≤ len) : sliceElems o n lo hi (.vsl i st len) = some ⟨.vsl i (st + lo) (hi - lo), [], [i]⟩ := by
  simp only [sliceElems, rdVec, ho, Option.bind_some]; rw [if_pos ⟨trivial, h, h'⟩]
theorem sliceElems_bsl (n lo hi i off len : Nat) (h : lo ≤ hi) (h' : hi ≤ len) : sliceElems o n lo hi (.bsl i off len n) = ok (.bsl i (off + lo * n) (hi - lo) n) := by
  simp only [sliceElems]; rw [if_pos ⟨trivial, h, h'⟩]
theorem bytes_map (s : List UInt8) : bytesV s = s.map byteV := _root_.id rfl
theorem bytes_cut (s : List UInt8) (lo n : Nat) : ((bytesV s).drop lo).take n = bytesV ((s.drop lo).take n) := by simp only [bytesV, List.map_drop, List.map_take]
theorem bytes_drop (s : List UInt8) (lo : Nat) : (bytesV s).drop lo = bytesV (s.drop lo) := by simp only [bytesV, List.map_drop]
theorem bytes_take (s : List UInt8) (n : Nat) : (bytesV s).take n = bytesV (s.take n) := by simp only [bytesV, List.map_take]
theorem bytes_app (s t : List UInt8) : bytesV s ++ bytesV t = bytesV (s ++ t) := by simp only [bytesV, List.map_append]
theorem bytes_len (s : List UInt8) : (bytesV s).length = s.length := by simp [bytesV]
theorem bytes_get (b : List UInt8) (j : Nat) (h : j < b.length) : (bytesV b)[j]? = some [.int .u8 (b.getD j 0).toNat] := by
  simp [bytesV, byteV, h, List.getD]
def slA (n esz i off : Nat) (lo hi : Option Nat) : Option Act := lo.bind fun l => hi.bind fun h => if l ≤ h ∧ h ≤ n then ok (.bsl i (off + l * esz) (h - l) esz) else none
theorem vSliceA_ptr (n esz i off : Nat) (lo hi : Option V) : vSliceA n esz (.ptr i off) lo hi = slA n esz i off (optV 0 lo) (optV n hi) := _root_.id rfl
theorem slA_some (n esz i off l h : Nat) (h1 : l ≤ h) (h2 : h ≤ n) : slA n esz i off (some l) (some h) = ok (.bsl i (off + l * esz) (h - l) esz) := by
  simp only [slA, Option.bind_some]; rw [if_pos ⟨h1, h2⟩]
theorem vFieldAddr_ptr (off i a : Nat) : vFieldAddr off (.ptr i a) = ok (.ptr i (a + off)) := _root_.id rfl
theorem vFieldAddr_ept (off i j a : Nat) : vFieldAddr off (.ept i j a) = ok (.ept i j (a + off)) := _root_.id rfl
theorem vFieldAddr_imp (off : Nat) (c : List V) (a : Nat) : vFieldAddr off (.imp c a) = ok (.imp c (a + off)) := _root_.id rfl
def aggR (agg : Option Nat) (cs : Option (List V)) : Option V := cs.bind (aggOf agg)
theorem vField_agg (off : Nat) (agg : Option Nat) (cs : List V) : vField off agg (.agg cs) = okV (aggR agg (cut off (agg.getD 1) cs)) := _root_.id rfl
theorem aggR_one (v : V) (r : List V) : aggR none (some (v :: r)) = some v := _root_.id rfl
theorem aggR_agg (n : Nat) (cs : List V) : aggR (some n) (some cs) = some (.agg cs) := _root_.id rfl
theorem vIndexAddrA_ptr (n esz i a : Nat) (q : IntKind) (x : Int) (h : 0 ≤ x) (h' : x.toNat < n) : vIndexAddrA n esz (.ptr i a) (.int q x) = ok (.ptr i (a + x.toNat * esz)) := by
  simp only [vIndexAddrA, asN_int q x h, Option.bind_some, h', if_true]
theorem vIndexAddrA_imp (n esz a : Nat) (c : List V) (q : IntKind) (x : Int) (h : 0 ≤ x) (h' : x.toNat < n) : vIndexAddrA n esz (.imp c a) (.int q x) = ok (.imp c (a + x.toNat * esz)) := by
  simp only [vIndexAddrA, asN_int q x h, Option.bind_some, h', if_true]
def ixs (c : Option (List V)) : Option Act := c.bind fun c => ok (.imp c 0)
theorem ixs_some (c : List V) : ixs (some c) = ok (.imp c 0) := _root_.id rfl
theorem vIndexAddrL_sl (n : Nat) (xs : List (List V)) (q : IntKind) (x : Int) (h : 0 ≤ x) : vIndexAddrL o n (.sl n xs) (.int q x) = ixs (xs[x.toNat]?) := by
  simp only [vIndexAddrL, asN_int q x h, Option.bind_some, idxL, if_true, ixs]
theorem vIndexAddrL_vsl (n i st len : Nat) (xs : List (List V)) (ho : o i = .vec n xs) (q : IntKind) (x : Int) (h : 0 ≤ x) (h' : x.toNat < len) : vIndexAddrL o n (.vsl i st len) (.int q x) = some ⟨.ept i (st + x.toNat) 0, [], [i]⟩ := by
  simp only [vIndexAddrL, asN_int q x h, Option.bind_some, idxL, rdVec, ho]; rw [if_pos ⟨trivial, h'⟩]
theorem vIndexAddrL_vslf (n i st len : Nat) (xs : List (List V)) (ho : o i = .fvec n xs) (q : IntKind) (x : Int) (h : 0 ≤ x) (h' : x.toNat < len) : vIndexAddrL o n (.vsl i st len) (.int q x) = some ⟨.ept i (st + x.toNat) 0, [], [i]⟩ := by
  simp only [vIndexAddrL, asN_int q x h, Option.bind_some, idxL, rdVec, ho]; rw [if_pos ⟨trivial, h'⟩]
theorem vIndexAddrL_bsl (n i off len : Nat) (q : IntKind) (x : Int) (h : 0 ≤ x) (h' : x.toNat < len) : vIndexAddrL o n (.bsl i off len n) (.int q x) = ok (.ptr i (off + x.toNat * n)) := by
  simp only [vIndexAddrL, asN_int q x h, Option.bind_some, idxL]; rw [if_pos ⟨trivial, h'⟩]
theorem vIndexS_str (s : List UInt8) (q : IntKind) (x : Int) (h : 0 ≤ x) (h' : x.toNat < s.length) : vIndexS (.str s) (.int q x) = ok (.int .u8 (s.getD x.toNat 0).toNat) := by
  simp only [vIndexS, asN_int q x h, Option.bind_some, List.getElem?_eq_getElem h', List.getD, Option.getD_some]
theorem vIndexA_num {α : Type} (f : α → V) (ws : List α) (dflt : α) (n : Nat) (q : IntKind) (x : Int) (h : 0 ≤ x) (h' : x.toNat < n) (hl : ws.length = n) : vIndexA n 1 false (.agg (ws.map f)) (.int q x) = ok (f (ws.getD x.toNat dflt)) := by
  simp only [vIndexA, asN_int q x h, Option.bind_some, h', if_true, Nat.mul_one, cut_num f ws dflt _ (by omega : x.toNat < ws.length)]; rfl

/-! ### Lengths -/
theorem vLen_sl (n : Nat) (xs : List (List V)) : vLen (.sl n xs) = ok (.int .i64 xs.length) := _root_.id rfl
theorem vLen_vsl (i st n : Nat) : vLen (.vsl i st n) = ok (.int .i64 n) := _root_.id rfl
theorem vLen_nils (n : Nat) : vLen (.nils n) = ok (.int .i64 0) := _root_.id rfl
theorem vLen_bsl (i off n q : Nat) : vLen (.bsl i off n q) = ok (.int .i64 n) := _root_.id rfl
theorem vLenS_str (s : List UInt8) : vLenS (.str s) = ok (.int .i64 s.length) := _root_.id rfl
theorem lenOf_sl (n : Nat) (xs : List (List V)) : lenOf (.sl n xs) = some xs.length := _root_.id rfl
theorem lenOf_vsl (i st n : Nat) : lenOf (.vsl i st n) = some n := _root_.id rfl
theorem lenOf_nils (n : Nat) : lenOf (.nils n) = some 0 := _root_.id rfl
theorem lenOf_bsl (i off n q : Nat) : lenOf (.bsl i off n q) = some n := _root_.id rfl
theorem vExtract_tup (vs : List V) (i : Nat) : vExtract (.tup vs) i = okV (vs[i]?) := _root_.id rfl
theorem vCap0_nils (n : Nat) : vCap0 (.nils n) = ok (.int .i64 0) := _root_.id rfl
theorem vMax2 (q : IntKind) (a b : Int) : vMax [.int q a, .int q b] = ok (.int q (if b > a then b else a)) := by simp [vMax, foldV, maxI, okV, ok]
theorem vMin2 (q : IntKind) (a b : Int) : vMin [.int q a, .int q b] = ok (.int q (if b < a then b else a)) := by simp [vMin, foldV, minI, okV, ok]

/-! ### Rows that grow -/
/-- What holds a row that was made by append: nothing, while it is empty. -/
def rowV (esz i : Nat) (xs : List (List V)) : V := if xs = [] then .nils esz else .vsl i 0 xs.length
def apE (o : Hp) (id esz eb : Nat) (s : V) (x : Option (List (List V) × List Nat)) : Option Act := x.bind fun r => appendTo o id esz eb r.1 r.2 s
theorem vAppend_def (id esz eb : Nat) (s x : V) : vAppend o id esz eb s x = apE o id esz eb s (elemsOf o esz x) := _root_.id rfl
theorem elems_nils (n : Nat) : elemsOf o n (.nils n) = some ([], []) := by simp [elemsOf]
theorem elems_sl (n : Nat) (xs : List (List V)) : elemsOf o n (.sl n xs) = some (xs, []) := by simp [elemsOf]
theorem elems_str (s : List UInt8) : elemsOf o 1 (.str s) = some (bytesV s, []) := _root_.id rfl
theorem elems_vsl (n i st len : Nat) (xs : List (List V)) (ho : o i = .vec n xs) (h : st + len ≤ xs.length) : elemsOf o n (.vsl i st len) = some ((xs.drop st).take len, [i]) := by
  simp only [elemsOf, rdVec, ho, Option.bind_some]; rw [if_pos ⟨trivial, h⟩]
theorem elems_vslf (n i st len : Nat) (xs : List (List V)) (ho : o i = .fvec n xs) (h : st + len ≤ xs.length) : elemsOf o n (.vsl i st len) = some ((xs.drop st).take len, [i]) := by
  simp only [elemsOf, rdVec, ho, Option.bind_some]; rw [if_pos ⟨trivial, h⟩]
theorem elems_bsl (n i off len : Nat) (cs c : List V) (ho : o i = .box cs) (h : cut off (len * n) cs = some c) : elemsOf o n (.bsl i off len n) = some (chunks n len c, [i]) := by
  simp only [elemsOf, rdBox, ho, if_true, Option.bind_some, h, Option.map_some]
theorem elems_bslf (n i off len : Nat) (cs c : List V) (ho : o i = .fbox cs) (h : cut off (len * n) cs = some c) : elemsOf o n (.bsl i off len n) = some (chunks n len c, [i]) := by
  simp only [elemsOf, rdBox, ho, if_true, Option.bind_some, h, Option.map_some]
theorem chunks1 {α : Type} (f : α → V) : ∀ (ws : List α), chunks 1 ws.length (ws.map f) = ws.map fun x => [f x] := by
  intro ws
  induction ws with
  | nil => rfl
  | cons a ws ih => simp only [List.length_cons, chunks, List.map_cons, List.take_succ_cons, List.take_zero, List.drop_succ_cons, List.drop_zero, ih]
theorem room_ok (n eb : Nat) (h : n * eb ≤ 17592186044416) : room n eb = true := by simp [room, h]
/-- Onto nothing. -/
theorem ap_nils (id esz eb : Nat) (x : List V) (xs : List (List V)) (rd : List Nat) (h : (xs.length + 1) * eb ≤ 17592186044416) :
    apE o id esz eb (.nils esz) (some (x :: xs, rd)) = some ⟨.vsl id 0 (xs.length + 1), [(id, .vec esz (x :: xs))], rd⟩ := by
  simp only [apE, Option.bind_some, appendTo, List.length_cons, room_ok _ _ h]; rfl
/-- Onto a row of the call's own, whole. -/
theorem ap_vsl (id esz eb i len : Nat) (ys xs : List (List V)) (rd : List Nat) (ho : o i = .vec esz ys) (hl : len = ys.length) (hr : rd.contains i = false) (h : (ys.length + xs.length) * eb ≤ 17592186044416) :
    apE o id esz eb (.vsl i 0 len) (some (xs, rd)) = some ⟨.vsl id 0 (len + xs.length), [(i, .dead), (id, .vec esz (ys ++ xs))], rd⟩ := by
  subst hl
  simp only [apE, Option.bind_some, appendTo, ho]
  rw [if_pos ⟨trivial, trivial, Nat.le_refl _, room_ok _ _ h, by rw [hr]; rfl⟩, List.take_length]
theorem hrd_nil (i : Nat) : ([] : List Nat).contains i = false := _root_.id rfl

/-! ### What stands still -/
theorem deep_eq : deep = 8 := _root_.id rfl
theorem fz_nil : frzArgs o [] [] = some ([], []) := _root_.id rfl
def fzR (r : Option (V × List (Nat × AObj))) (s : Option (List V × List (Nat × AObj))) : Option (List V × List (Nat × AObj)) := r.bind fun r => s.map fun s => (r.1 :: s.1, r.2 ++ s.2)
theorem fz_cons (a : V) (l : List V) : frzArgs o (a :: l) [] = fzR (frz o deep a) (frzArgs o l []) := _root_.id rfl
theorem fzR_some (a : V) (u : List (Nat × AObj)) (l : List V) (w : List (Nat × AObj)) : fzR (some (a, u)) (some (l, w)) = some (a :: l, u ++ w) := _root_.id rfl
theorem frz_int (q : IntKind) (n : Int) : frz o deep (.int q n) = some (.int q n, []) := _root_.id rfl
theorem frz_bool (b : Bool) : frz o deep (.bool b) = some (.bool b, []) := _root_.id rfl
theorem frz_str (s : List UInt8) : frz o deep (.str s) = some (.str s, []) := _root_.id rfl
theorem frz_sl (n : Nat) (xs : List (List V)) : frz o deep (.sl n xs) = some (.sl n xs, []) := _root_.id rfl
theorem frz_nils (n : Nat) : frz o deep (.nils n) = some (.sl n [], []) := _root_.id rfl
theorem frz_nilp : frz o deep .nilp = some (.nilp, []) := _root_.id rfl
theorem frz_nilf : frz o deep .nilf = some (.nilf, []) := _root_.id rfl
theorem frz_nili : frz o deep .nili = some (.nili, []) := _root_.id rfl
theorem frz_imp (c : List V) (off : Nat) : frz o deep (.imp c off) = some (.imp c off, []) := _root_.id rfl
def stand : V → Bool
  | .int _ _ | .bool _ | .str _ | .nilp | .nilf | .nili | .imp _ _ | .sl _ _ => true
  | _ => false
theorem frz_stand {n : Nat} {v : V} (h : stand v = true) : frz o (n + 1) v = some (v, []) := by cases v <;> first | rfl | cases h
theorem seqM_same {α γ : Type} {f : α → Option (α × List γ)} : ∀ {l : List α}, (∀ a ∈ l, f a = some (a, [])) → seqM f l = some (l, []) := by
  intro l
  induction l with
  | nil => intro _; rfl
  | cons a l ih => intro h; simp only [seqM, h a (by simp), Option.bind_some, ih fun b hb => h b (by simp [hb]), Option.map_some, List.append_nil]
theorem frz_aggs {cs : List V} (h : ∀ v ∈ cs, stand v = true) : frz o deep (.agg cs) = some (.agg cs, []) := by
  show ((seqM (frz o 7) cs).map fun r => (V.agg r.1, r.2)) = _
  rw [seqM_same fun v hv => frz_stand (h v hv)]; rfl
theorem frz_nums {α : Type} (f : α → V) (hf : ∀ x, stand (f x) = true) (ws : List α) : frz o deep (.agg (ws.map f)) = some (.agg (ws.map f), []) :=
  frz_aggs fun v hv => by obtain ⟨n, _, rfl⟩ := List.mem_map.1 hv; exact hf n
theorem frz_rows {n : Nat} {xs : List (List V)} (h : ∀ l ∈ xs, ∀ v ∈ l, stand v = true) : seqM (seqM (frz o (n + 1))) xs = some (xs, []) :=
  seqM_same fun l hl => seqM_same fun v hv => frz_stand (h l hl v hv)
theorem frz_vsl {i st len q : Nat} {xs : List (List V)} (ho : o i = .vec q xs) (hl : st + len ≤ xs.length) (h : ∀ l ∈ xs, ∀ v ∈ l, stand v = true) : frz o deep (.vsl i st len) = some (.sl q ((xs.drop st).take len), [(i, .fvec q xs)]) := by
  show (match o i with
      | .vec e xs => if st + len ≤ xs.length then (seqM (seqM (frz o 7)) xs).map fun (r : List (List V) × List (Nat × AObj)) => ((.sl e ((r.1.drop st).take len), (i, .fvec e r.1) :: r.2) : V × List (Nat × AObj)) else none
      | .fvec e xs => if st + len ≤ xs.length then some (.sl e ((xs.drop st).take len), []) else none
      | _ => none) = _
  simp only [ho, hl, if_true, frz_rows h, Option.map_some]
theorem frz_vslf {i st len q : Nat} {xs : List (List V)} (ho : o i = .fvec q xs) (hl : st + len ≤ xs.length) : frz o deep (.vsl i st len) = some (.sl q ((xs.drop st).take len), []) := by
  show (match o i with
      | .vec e xs => if st + len ≤ xs.length then (seqM (seqM (frz o 7)) xs).map fun (r : List (List V) × List (Nat × AObj)) => ((.sl e ((r.1.drop st).take len), (i, .fvec e r.1) :: r.2) : V × List (Nat × AObj)) else none
      | .fvec e xs => if st + len ≤ xs.length then some (.sl e ((xs.drop st).take len), []) else none
      | _ => none) = _
  simp only [ho, hl, if_true]
theorem bytes_stand (s : List UInt8) : ∀ l ∈ bytesV s, ∀ v ∈ l, stand v = true := by
  intro l hl v hv
  obtain ⟨b, _, rfl⟩ := List.mem_map.1 hl
  simp only [byteV, List.mem_singleton] at hv; subst hv; rfl
theorem frz_bytes {i st len : Nat} {s : List UInt8} (ho : o i = .vec 1 (bytesV s)) (hl : st + len ≤ s.length) : frz o deep (.vsl i st len) = some (.sl 1 (bytesV ((s.drop st).take len)), [(i, .fvec 1 (bytesV s))]) := by
  rw [frz_vsl ho (by rw [bytes_len]; exact hl) (bytes_stand s), bytes_cut]
theorem frz_bytesf {i st len : Nat} {s : List UInt8} (ho : o i = .fvec 1 (bytesV s)) (hl : st + len ≤ s.length) : frz o deep (.vsl i st len) = some (.sl 1 (bytesV ((s.drop st).take len)), []) := by
  rw [frz_vslf ho (by rw [bytes_len]; exact hl), bytes_cut]
theorem frz_bsl {α : Type} (f : α → V) (hf : ∀ x, stand (f x) = true) {i off len : Nat} {ws : List α} (ho : o i = .box (ws.map f)) (hl : off + len ≤ ws.length) :
    frz o deep (.bsl i off len 1) = some (.sl 1 (((ws.drop off).take len).map fun x => [f x]), [(i, .fbox (ws.map f))]) := by
  show (match o i with
      | .box cs => (seqM (frz o 7) cs).bind fun r => (cut off (len * 1) r.1).map fun c => ((.sl 1 (chunks 1 len c), (i, .fbox r.1) :: r.2) : V × List (Nat × AObj))
      | .fbox cs => (cut off (len * 1) cs).map fun c => (.sl 1 (chunks 1 len c), [])
      | _ => none) = _
  have hs : ∀ v ∈ ws.map f, stand v = true := fun v hv => by obtain ⟨n, _, rfl⟩ := List.mem_map.1 hv; exact hf n
  simp only [ho, seqM_same fun v hv => frz_stand (hs v hv), Option.bind_some, Nat.mul_one, cut_map f ws off len hl, Option.map_some]
  have h1 : len = ((ws.drop off).take len).length := by simp; omega
  have h2 := chunks1 f ((ws.drop off).take len)
  rw [← h1] at h2
  rw [h2]

theorem thaw_none (v : V) (h : stand v = true) : thaw none v = (v, []) := by cases v <;> first | rfl | cases h
theorem thaw_int (w : Option Nat) (q : IntKind) (n : Int) : thaw w (.int q n) = (.int q n, []) := _root_.id rfl
theorem thaw_bool (w : Option Nat) (b : Bool) : thaw w (.bool b) = (.bool b, []) := _root_.id rfl
theorem thaw_str (w : Option Nat) (b : List UInt8) : thaw w (.str b) = (.str b, []) := _root_.id rfl
theorem thaw_agg (w : Option Nat) (b : List V) : thaw w (.agg b) = (.agg b, []) := _root_.id rfl
theorem thaw_tup (w : Option Nat) (b : List V) : thaw w (.tup b) = (.tup b, []) := _root_.id rfl
theorem thaw_sl (w : Option Nat) (n : Nat) (b : List (List V)) : thaw w (.sl n b) = (.sl n b, []) := _root_.id rfl
theorem thaw_fn (w : Option Nat) (n : Nat) (b : List V) : thaw w (.fn n b) = (.fn n b, []) := _root_.id rfl
theorem thaw_imp (w : Option Nat) (n : Nat) (b : List V) : thaw w (.imp b n) = (.imp b n, []) := _root_.id rfl
theorem thaw_own_none (n : Nat) (b : List (List V)) : thaw none (.own n b) = (.sl n b, []) := _root_.id rfl
theorem thaw_own_some (i n : Nat) (b : List (List V)) : thaw (some i) (.own n b) = (.vsl i 0 b.length, [(i, .vec n b)]) := _root_.id rfl
theorem scalar_int (q : IntKind) (n : Int) : scalar (.int q n) = true := _root_.id rfl
theorem scalar_bool (b : Bool) : scalar (.bool b) = true := _root_.id rfl
theorem scalar_str (b : List UInt8) : scalar (.str b) = true := _root_.id rfl
theorem scalar_own (n : Nat) (b : List (List V)) : scalar (.own n b) = false := _root_.id rfl
theorem scalar_nums {α : Type} (f : α → V) (hf : ∀ x, scalarV (f x) = true) (ws : List α) : scalar (.agg (ws.map f)) = true := by
  simp only [scalar, List.all_map, List.all_eq_true]; intro x _; exact hf x
/-- A row that a function hands over. -/
def ownV (n : Nat) (xs : List (List V)) : V := if xs = [] then .sl n [] else .own n xs
theorem thaw_ownV (n : Nat) (xs : List (List V)) : thaw none (ownV n xs) = (.sl n xs, []) := by
  unfold ownV; split
  · rename_i h; subst h; rfl
  · rfl

/-! ### Results -/
theorem resAll_nil : resAll o e [] = some [] := _root_.id rfl
def resC (r : Option V) (l : Option (List V)) : Option (List V) := r.bind fun v => l.map (v :: ·)
theorem resC_some (v : V) (l : List V) : resC (some v) (some l) = some (v :: l) := _root_.id rfl
theorem resAll_cons (r : Res) (l : List Res) : resAll o e (r :: l) = resC (resOf o e r) (resAll o e l) := _root_.id rfl
theorem resOf_tmp (t : Nat) : resOf o e (.tmp t) = some (e t) := _root_.id rfl
def rcl (agg : Option Nat) (a : Option Act) : Option V := a.map (·.val)
theorem resOf_cell (t : Nat) (agg : Option Nat) : resOf o e (.cell t agg) = rcl agg (vLoad o agg (e t)) := by
  simp only [resOf, rcl, vLoad]
  cases peek o (agg.getD 1) (e t) with
  | none => rfl
  | some r => simp only [Option.bind_some]; cases aggOf agg r.1 <;> rfl
theorem rcl_some (agg : Option Nat) (v : V) (u : List (Nat × AObj)) (rd : List Nat) : rcl agg (some ⟨v, u, rd⟩) = some v := _root_.id rfl
theorem resV_one (v : V) : resV [v] = v := _root_.id rfl
theorem resV_nil : resV [] = .tup [] := _root_.id rfl
theorem resV_two (v w : V) (l : List V) : resV (v :: w :: l) = .tup (v :: w :: l) := _root_.id rfl
variable {N : Nat}
theorem result_int (q : IntKind) (n : Int) : result o N (.int q n) = some (.int q n, []) := _root_.id rfl
theorem result_bool (b : Bool) : result o N (.bool b) = some (.bool b, []) := _root_.id rfl
theorem result_str (s : List UInt8) : result o N (.str s) = some (.str s, []) := _root_.id rfl
theorem result_sl (n : Nat) (xs : List (List V)) : result o N (.sl n xs) = some (.sl n xs, []) := _root_.id rfl
theorem result_nils (n : Nat) : result o N (.nils n) = some (.sl n [], []) := _root_.id rfl
theorem result_agg (cs : List V) : result o N (.agg cs) = frz o deep (.agg cs) := _root_.id rfl
theorem result_tup (cs : List V) : result o N (.tup cs) = frz o deep (.tup cs) := _root_.id rfl
theorem result_fn (f : Nat) (cs : List V) : result o N (.fn f cs) = frz o deep (.fn f cs) := _root_.id rfl
theorem result_imp (off : Nat) (cs : List V) : result o N (.imp cs off) = some (.imp cs off, []) := _root_.id rfl
theorem result_bsl (i off n q : Nat) : result o N (.bsl i off n q) = frz o deep (.bsl i off n q) := _root_.id rfl
theorem result_row {i len q : Nat} {xs : List (List V)} (ho : o i = .vec q xs) (hN : N ≤ i) (hl : len = xs.length) (h : ∀ l ∈ xs, ∀ v ∈ l, stand v = true) :
    result o N (.vsl i 0 len) = some (.own q xs, [(i, .vec q xs)]) := by
  subst hl
  simp only [result, ho, hN, if_true, Nat.le_refl, List.take_length]
  rw [show seqM (seqM (frz o deep)) xs = some (xs, []) from frz_rows h]
  rfl
theorem result_bytes {i len : Nat} {s : List UInt8} (ho : o i = .vec 1 (bytesV s)) (hN : N ≤ i) (hl : len = s.length) :
    result o N (.vsl i 0 len) = some (.own 1 (bytesV s), [(i, .vec 1 (bytesV s))]) :=
  result_row ho hN (by rw [bytes_len]; exact hl) (bytes_stand s)
end
end Go.Proofs.YtoccgkgdhobmfaaDoor.Am.Ru

/- The abstract machine, part 32: numbers. -/
set_option linter.unusedVariables false
set_option linter.unusedSimpArgs false
namespace Go.Proofs.YtoccgkgdhobmfaaDoor.Am.Ru
open Go

theorem ids_nil : ids [] = [] := _root_.id rfl
theorem ids_cons (i : Nat) (x : AObj) (r : List (Nat × AObj)) : ids ((i, x) :: r) = i :: ids r := _root_.id rfl

/-! ### Numbers of 64 bits with a sign -/
theorem add64 (a b : Int) (h : -9223372036854775808 ≤ a + b) (h' : a + b < 9223372036854775808) : binV .add (.int .i64 a) (.int .i64 b) = some (.int .i64 (a + b)) := by
  simp only [binV, binI, if_true, IntKind.wrap_i64]; congr 2; omega
theorem sub64 (a b : Int) (h : -9223372036854775808 ≤ a - b) (h' : a - b < 9223372036854775808) : binV .sub (.int .i64 a) (.int .i64 b) = some (.int .i64 (a - b)) := by
  simp only [binV, binI, if_true, IntKind.wrap_i64]; congr 2; omega
theorem mul64 (a b : Int) (h : -9223372036854775808 ≤ a * b) (h' : a * b < 9223372036854775808) : binV .mul (.int .i64 a) (.int .i64 b) = some (.int .i64 (a * b)) := by
  simp only [binV, binI, if_true, IntKind.wrap_i64]; congr 2; omega
theorem neg64 (a : Int) (h : -9223372036854775808 ≤ -a) (h' : -a < 9223372036854775808) : unV .neg (.int .i64 a) = some (.int .i64 (-a)) := by
  simp only [unV, IntKind.wrap_i64]; congr 2; omega
theorem quo64 (a b : Int) (h : 0 ≤ a) (h' : a < 9223372036854775808) (hb : 0 < b) : binV .quo (.int .i64 a) (.int .i64 b) = some (.int .i64 (a / b)) := by
  simp only [binV, binI, if_true]
  rw [if_neg (by omega), IntKind.wrap_i64, Int.tdiv_eq_ediv_of_nonneg h]
  have h1 : 0 ≤ a / b := Int.ediv_nonneg h (by omega)
  have h2 : a / b ≤ a := Int.ediv_le_self b h
  congr 2; omega
theorem rem64 (a b : Int) (h : 0 ≤ a) (hb : 0 < b) : binV .rem (.int .i64 a) (.int .i64 b) = some (.int .i64 (a % b)) := by
  simp only [binV, binI, if_true]
  rw [if_neg (by omega), Int.tmod_eq_emod_of_nonneg h]
theorem wrap_i64_ok (n : Int) (h : -9223372036854775808 ≤ n) (h' : n < 9223372036854775808) : IntKind.i64.wrap n = n := by rw [IntKind.wrap_i64]; omega

/-! ### Comparing -/
theorem lss_t (q : IntKind) (a b : Int) (h : a < b) : binV .lss (.int q a) (.int q b) = some (.bool true) := by simp [binV, binI, cmpI, h]
theorem lss_f (q : IntKind) (a b : Int) (h : b ≤ a) : binV .lss (.int q a) (.int q b) = some (.bool false) := by simp [binV, binI, cmpI]; omega
theorem gtr_t (q : IntKind) (a b : Int) (h : b < a) : binV .gtr (.int q a) (.int q b) = some (.bool true) := by simp [binV, binI, cmpI, h]
theorem gtr_f (q : IntKind) (a b : Int) (h : a ≤ b) : binV .gtr (.int q a) (.int q b) = some (.bool false) := by simp [binV, binI, cmpI]; omega
theorem leq_t (q : IntKind) (a b : Int) (h : a ≤ b) : binV .leq (.int q a) (.int q b) = some (.bool true) := by simp [binV, binI, cmpI, h]
theorem leq_f (q : IntKind) (a b : Int) (h : b < a) : binV .leq (.int q a) (.int q b) = some (.bool false) := by simp [binV, binI, cmpI]; omega
theorem geq_t (q : IntKind) (a b : Int) (h : b ≤ a) : binV .geq (.int q a) (.int q b) = some (.bool true) := by simp [binV, binI, cmpI, h]
theorem geq_f (q : IntKind) (a b : Int) (h : a < b) : binV .geq (.int q a) (.int q b) = some (.bool false) := by simp [binV, binI, cmpI]; omega
theorem eql_t (q : IntKind) (a b : Int) (h : a = b) : binV .eql (.int q a) (.int q b) = some (.bool true) := by simp [binV, binI, cmpI, h]
theorem eql_f (q : IntKind) (a b : Int) (h : a ≠ b) : binV .eql (.int q a) (.int q b) = some (.bool false) := by simp [binV, binI, cmpI, h]
theorem neq_f (q : IntKind) (a b : Int) (h : a = b) : binV .neq (.int q a) (.int q b) = some (.bool false) := by simp [binV, binI, cmpI, h]
theorem neq_t (q : IntKind) (a b : Int) (h : a ≠ b) : binV .neq (.int q a) (.int q b) = some (.bool true) := by simp [binV, binI, cmpI, h]
/-- Undecided. -/
theorem lss_d (q : IntKind) (a b : Int) : binV .lss (.int q a) (.int q b) = some (.bool (decide (a < b))) := by simp [binV, binI, cmpI]
theorem leq_d (q : IntKind) (a b : Int) : binV .leq (.int q a) (.int q b) = some (.bool (decide (a ≤ b))) := by simp [binV, binI, cmpI]
theorem gtr_d (q : IntKind) (a b : Int) : binV .gtr (.int q a) (.int q b) = some (.bool (decide (b < a))) := by simp [binV, binI, cmpI]
theorem geq_d (q : IntKind) (a b : Int) : binV .geq (.int q a) (.int q b) = some (.bool (decide (b ≤ a))) := by simp [binV, binI, cmpI]
theorem eql_d (q : IntKind) (a b : Int) : binV .eql (.int q a) (.int q b) = some (.bool (decide (a = b))) := by
  simp only [binV, binI, cmpI, if_true]; congr 2
theorem neq_d (q : IntKind) (a b : Int) : binV .neq (.int q a) (.int q b) = some (.bool (decide (a ≠ b))) := by
  simp only [binV, binI, cmpI, if_true]; congr 2; by_cases h : a = b <;> simp [h]
theorem not_b (t : Bool) : unV .not (.bool t) = some (.bool !t) := _root_.id rfl

/-! ### Strings -/
theorem str_add (a b : List UInt8) (h : a.length + b.length ≤ 140737488355328) : binV .add (.str a) (.str b) = some (.str (a ++ b)) := by
  simp only [binV, binS]; rw [if_pos h]
theorem str_eql (a b : List UInt8) : binV .eql (.str a) (.str b) = some (.bool (a == b)) := _root_.id rfl
theorem str_neq (a b : List UInt8) : binV .neq (.str a) (.str b) = some (.bool (!(a == b))) := _root_.id rfl

/-! ### Numbers without a sign -/
def add32 (a b : Nat) : Nat := (a + b) % 4294967296
def or32 (a b : Nat) : Nat := (a ||| b) % 4294967296
def xor32 (a b : Nat) : Nat := (a ^^^ b) % 4294967296
def and32 (a b : Nat) : Nat := (a &&& b) % 4294967296
def not32 (a : Nat) : Nat := (4294967295 ^^^ a) % 4294967296
def shl32 (a n : Nat) : Nat := (a <<< n) % 4294967296
def shr32 (a n : Nat) : Nat := a >>> n
def add8 (a b : Nat) : Nat := (a + b) % 256
def or8 (a b : Nat) : Nat := (a ||| b) % 256
def xor8 (a b : Nat) : Nat := (a ^^^ b) % 256
def and8 (a b : Nat) : Nat := (a &&& b) % 256
def not8 (a : Nat) : Nat := (255 ^^^ a) % 256
def shr8 (a n : Nat) : Nat := a >>> n
def add64u (a b : Nat) : Nat := (a + b) % 18446744073709551616
def mul64u (a b : Nat) : Nat := (a * b) % 18446744073709551616
def or64u (a b : Nat) : Nat := (a ||| b) % 18446744073709551616
def xor64u (a b : Nat) : Nat := (a ^^^ b) % 18446744073709551616
def and64u (a b : Nat) : Nat := (a &&& b) % 18446744073709551616
def not64u (a : Nat) : Nat := (18446744073709551615 ^^^ a) % 18446744073709551616
def shl64u (a n : Nat) : Nat := (a <<< n) % 18446744073709551616
def shr64u (a n : Nat) : Nat := a >>> n

theorem w64 (n : Int) : IntKind.u64.wrap n = n % 18446744073709551616 := by simp [IntKind.wrap, IntKind.bits, IntKind.signed]
theorem ofInt_nat (w n : Nat) : (BitVec.ofInt w (n : Int)).toNat = n % 2 ^ w := by
  rw [BitVec.toNat_ofInt]
  have : ((n : Int) % ((2 ^ w : Nat) : Int)) = ((n % 2 ^ w : Nat) : Int) := by omega
  rw [this]; rfl
theorem bit_or (q : IntKind) (h : q.signed = false) (a b : Nat) : bitI (· ||| ·) q a b = .int q (((a ||| b) % 2 ^ q.bits : Nat) : Int) := by
  unfold bitI IntKind.wrap
  simp only [BitVec.toNat_or, ofInt_nat, h]
  rw [← Nat.or_mod_two_pow]
  have hp : 0 < 2 ^ q.bits := Nat.pos_of_neZero _
  simp
theorem bit_xor (q : IntKind) (h : q.signed = false) (a b : Nat) : bitI (· ^^^ ·) q a b = .int q (((a ^^^ b) % 2 ^ q.bits : Nat) : Int) := by
  unfold bitI IntKind.wrap
  simp only [BitVec.toNat_xor, ofInt_nat, h]
  rw [← Nat.xor_mod_two_pow]
  simp
theorem bit_and (q : IntKind) (h : q.signed = false) (a b : Nat) : bitI (· &&& ·) q a b = .int q (((a &&& b) % 2 ^ q.bits : Nat) : Int) := by
  unfold bitI IntKind.wrap
  simp only [BitVec.toNat_and, ofInt_nat, h]
  rw [← Nat.and_mod_two_pow]
  simp
theorem fdiv_pow (a n : Nat) : ((a : Int)).fdiv (2 ^ n) = ((a >>> n : Nat) : Int) := by
  rw [Int.fdiv_eq_ediv_of_nonneg _ (by exact_mod_cast Nat.zero_le (2 ^ n)), Nat.shiftRight_eq_div_pow]
  norm_cast
theorem toNat_of {z : Int} {n : Nat} (h : z = (n : Int)) : z.toNat = n := by omega

section
variable (a b : Nat)
theorem b_add32 : binV .add (.int .u32 a) (.int .u32 b) = some (.int .u32 (add32 a b : Nat)) := by
  simp only [binV, binI, if_true, IntKind.wrap_u32, add32]; congr 2
theorem b_or32 : binV .or (.int .u32 a) (.int .u32 b) = some (.int .u32 (or32 a b : Nat)) := congrArg some (bit_or .u32 rfl a b)
theorem b_xor32 : binV .xor (.int .u32 a) (.int .u32 b) = some (.int .u32 (xor32 a b : Nat)) := congrArg some (bit_xor .u32 rfl a b)
theorem b_and32 : binV .and (.int .u32 a) (.int .u32 b) = some (.int .u32 (and32 a b : Nat)) := congrArg some (bit_and .u32 rfl a b)
theorem u_not32 : unV .xor (.int .u32 a) = some (.int .u32 (not32 a : Nat)) := congrArg some (bit_xor .u32 rfl 4294967295 a)
theorem b_shl32 (q : IntKind) (n : Int) (h : 0 ≤ n) (h' : n ≤ 32) : binV .shl (.int .u32 a) (.int q n) = some (.int .u32 (shl32 a n.toNat : Nat)) := by
  simp only [binV, binI]
  have hm : min n.toNat IntKind.u32.bits = n.toNat := Nat.min_eq_left (by show n.toNat ≤ 32; omega)
  rw [if_neg (by omega), hm, IntKind.wrap_u32, shl32, Nat.shiftLeft_eq, Int.natCast_emod, Int.natCast_mul, Int.natCast_pow]; rfl
theorem b_shr32 (q : IntKind) (n : Int) (h : 0 ≤ n) (h' : n ≤ 32) : binV .shr (.int .u32 a) (.int q n) = some (.int .u32 (shr32 a n.toNat : Nat)) := by
  simp only [binV, binI]
  have hm : min n.toNat IntKind.u32.bits = n.toNat := Nat.min_eq_left (by show n.toNat ≤ 32; omega)
  rw [if_neg (by omega), hm, fdiv_pow, shr32]
theorem b_add8 : binV .add (.int .u8 a) (.int .u8 b) = some (.int .u8 (add8 a b : Nat)) := by
  simp only [binV, binI, if_true, IntKind.wrap_u8, add8]; congr 2
theorem b_or8 : binV .or (.int .u8 a) (.int .u8 b) = some (.int .u8 (or8 a b : Nat)) := congrArg some (bit_or .u8 rfl a b)
theorem b_xor8 : binV .xor (.int .u8 a) (.int .u8 b) = some (.int .u8 (xor8 a b : Nat)) := congrArg some (bit_xor .u8 rfl a b)
theorem b_and8 : binV .and (.int .u8 a) (.int .u8 b) = some (.int .u8 (and8 a b : Nat)) := congrArg some (bit_and .u8 rfl a b)
theorem u_not8 : unV .xor (.int .u8 a) = some (.int .u8 (not8 a : Nat)) := congrArg some (bit_xor .u8 rfl 255 a)
theorem b_shr8 (q : IntKind) (n : Int) (h : 0 ≤ n) (h' : n ≤ 8) : binV .shr (.int .u8 a) (.int q n) = some (.int .u8 (shr8 a n.toNat : Nat)) := by
  simp only [binV, binI]
  have hm : min n.toNat IntKind.u8.bits = n.toNat := Nat.min_eq_left (by show n.toNat ≤ 8; omega)
  rw [if_neg (by omega), hm, fdiv_pow, shr8]
theorem b_add64u : binV .add (.int .u64 a) (.int .u64 b) = some (.int .u64 (add64u a b : Nat)) := by
  simp only [binV, binI, if_true, w64, add64u]; congr 2
theorem b_mul64u : binV .mul (.int .u64 a) (.int .u64 b) = some (.int .u64 (mul64u a b : Nat)) := by
  simp only [binV, binI, if_true, w64, mul64u]; rw [Int.natCast_emod, Int.natCast_mul]; rfl
theorem b_or64u : binV .or (.int .u64 a) (.int .u64 b) = some (.int .u64 (or64u a b : Nat)) := congrArg some (bit_or .u64 rfl a b)
theorem b_xor64u : binV .xor (.int .u64 a) (.int .u64 b) = some (.int .u64 (xor64u a b : Nat)) := congrArg some (bit_xor .u64 rfl a b)
theorem b_and64u : binV .and (.int .u64 a) (.int .u64 b) = some (.int .u64 (and64u a b : Nat)) := congrArg some (bit_and .u64 rfl a b)
theorem u_not64u : unV .xor (.int .u64 a) = some (.int .u64 (not64u a : Nat)) := congrArg some (bit_xor .u64 rfl 18446744073709551615 a)
theorem b_shl64u (q : IntKind) (n : Int) (h : 0 ≤ n) (h' : n ≤ 64) : binV .shl (.int .u64 a) (.int q n) = some (.int .u64 (shl64u a n.toNat : Nat)) := by
  simp only [binV, binI]
  have hm : min n.toNat IntKind.u64.bits = n.toNat := Nat.min_eq_left (by show n.toNat ≤ 64; omega)
  rw [if_neg (by omega), hm, w64, shl64u, Nat.shiftLeft_eq, Int.natCast_emod, Int.natCast_mul, Int.natCast_pow]; rfl
theorem b_shr64u (q : IntKind) (n : Int) (h : 0 ≤ n) (h' : n ≤ 64) : binV .shr (.int .u64 a) (.int q n) = some (.int .u64 (shr64u a n.toNat : Nat)) := by
  simp only [binV, binI]
  have hm : min n.toNat IntKind.u64.bits = n.toNat := Nat.min_eq_left (by show n.toNat ≤ 64; omega)
  rw [if_neg (by omega), hm, fdiv_pow, shr64u]
theorem wrap_u8n : IntKind.u8.wrap (a : Int) = ((a % 256 : Nat) : Int) := by rw [IntKind.wrap_u8]; omega
theorem wrap_u32n : IntKind.u32.wrap (a : Int) = ((a % 4294967296 : Nat) : Int) := by rw [IntKind.wrap_u32]; omega
theorem wrap_u64n : IntKind.u64.wrap (a : Int) = ((a % 18446744073709551616 : Nat) : Int) := by rw [w64]; omega
theorem wrap_i64n (h : a < 9223372036854775808) : IntKind.i64.wrap (a : Int) = (a : Int) := by rw [IntKind.wrap_i64]; omega
end

/-! ### From numbers with a sign to numbers without one -/
theorem tn_add (x y : Int) (h : 0 ≤ x) (h' : 0 ≤ y) : (x + y).toNat = x.toNat + y.toNat := by omega
theorem tn_sub (x y : Int) (h : 0 ≤ y) (h' : y ≤ x) : (x - y).toNat = x.toNat - y.toNat := by omega
theorem tn_mul (x y : Int) (h : 0 ≤ x) (h' : 0 ≤ y) : (x * y).toNat = x.toNat * y.toNat := Int.toNat_mul h h'
theorem tn_div (x y : Int) (h : 0 ≤ x) (h' : 0 ≤ y) : (x / y).toNat = x.toNat / y.toNat := by
  obtain ⟨a, rfl⟩ := Int.eq_ofNat_of_zero_le h
  obtain ⟨b, rfl⟩ := Int.eq_ofNat_of_zero_le h'
  rfl
theorem tn_mod (x y : Int) (h : 0 ≤ x) (h' : 0 ≤ y) : (x % y).toNat = x.toNat % y.toNat := Int.toNat_emod h h'
end Go.Proofs.YtoccgkgdhobmfaaDoor.Am.Ru

/- The abstract machine, part 33: arrays of numbers. -/
set_option linter.unusedVariables false
set_option linter.unusedSimpArgs false
namespace Go.Proofs.YtoccgkgdhobmfaaDoor.Am.Ru
open Go

def n32 (x : Nat) : V := .int .u32 (x : Int)
def b8 (x : UInt8) : V := .int .u8 ((x.toNat : Nat) : Int)
def i64 (x : Int) : V := .int .i64 x
theorem zl32 (n : Nat) : (List.replicate n (0 : Int)).map (V.int .u32) = (List.replicate n 0).map n32 := by simp [n32]
theorem zl8 (n : Nat) : (List.replicate n (0 : Int)).map (V.int .u8) = (List.replicate n (0 : UInt8)).map b8 := by simp [b8]
theorem zl64 (n : Nat) : (List.replicate n (0 : Int)).map (V.int .i64) = (List.replicate n (0 : Int)).map i64 := by simp [i64]
theorem cut_n32 (ws : List Nat) (off : Nat) (h : off < ws.length) : cut off 1 (ws.map n32) = some [.int .u32 ((ws.getD off 0 : Nat) : Int)] := cut_num n32 ws 0 off h
theorem cut_b8 (ws : List UInt8) (off : Nat) (h : off < ws.length) : cut off 1 (ws.map b8) = some [.int .u8 (((ws.getD off 0).toNat : Nat) : Int)] := cut_num b8 ws 0 off h
theorem cut_i64 (ws : List Int) (off : Nat) (h : off < ws.length) : cut off 1 (ws.map i64) = some [.int .i64 (ws.getD off 0)] := cut_num i64 ws 0 off h
theorem splice_n32 (ws : List Nat) (off x : Nat) (h : off < ws.length) : splice off [.int .u32 (x : Int)] (ws.map n32) = some ((ws.set off x).map n32) := splice_num n32 ws off x h
theorem splice_b8 (ws : List UInt8) (off x : Nat) (h : off < ws.length) (hx : x < 256) : splice off [.int .u8 (x : Int)] (ws.map b8) = some ((ws.set off (UInt8.ofNat x)).map b8) := by
  have : V.int .u8 (x : Int) = b8 (UInt8.ofNat x) := by unfold b8; rw [UInt8.toNat_ofNat_of_lt' (by simpa using hx)]
  rw [this, splice_num b8 ws off _ h]
theorem splice_i64 (ws : List Int) (off : Nat) (x : Int) (h : off < ws.length) : splice off [.int .i64 x] (ws.map i64) = some ((ws.set off x).map i64) := splice_num i64 ws off x h
theorem cut_alln (α : Type) (f : α → V) (ws : List α) (n : Nat) (h : ws.length = n) : cut 0 n (ws.map f) = some (ws.map f) := cut_all n _ (by simpa using h)
theorem splice_alln (α : Type) (f : α → V) (ws us : List α) (h : us.length = ws.length) : splice 0 (us.map f) (ws.map f) = some (us.map f) := splice_all _ _ (by simpa using h)
theorem stand_n32 (x : Nat) : stand (n32 x) = true := _root_.id rfl
theorem stand_b8 (x : UInt8) : stand (b8 x) = true := _root_.id rfl
theorem stand_i64 (x : Int) : stand (i64 x) = true := _root_.id rfl
section
variable {o : Hp}
theorem frz_n32 (ws : List Nat) : frz o deep (.agg (ws.map n32)) = some (.agg (ws.map n32), []) := frz_nums n32 stand_n32 ws
theorem frz_b8 (ws : List UInt8) : frz o deep (.agg (ws.map b8)) = some (.agg (ws.map b8), []) := frz_nums b8 stand_b8 ws
theorem frz_i64 (ws : List Int) : frz o deep (.agg (ws.map i64)) = some (.agg (ws.map i64), []) := frz_nums i64 stand_i64 ws
theorem scalar_n32 (ws : List Nat) : scalar (.agg (ws.map n32)) = true := scalar_nums n32 (fun _ => rfl) ws
theorem scalar_b8 (ws : List UInt8) : scalar (.agg (ws.map b8)) = true := scalar_nums b8 (fun _ => rfl) ws
theorem scalar_i64 (ws : List Int) : scalar (.agg (ws.map i64)) = true := scalar_nums i64 (fun _ => rfl) ws
theorem idx_bytes (b : List UInt8) (q : IntKind) (x : Int) (h : 0 ≤ x) (h' : x.toNat < b.length) : vIndexAddrL o 1 (.sl 1 (bytesV b)) (.int q x) = ok (.imp [.int .u8 (((b.getD x.toNat 0).toNat : Nat) : Int)] 0) := by
  rw [vIndexAddrL_sl 1 _ q x h, bytes_get b _ h']; rfl
/-- A piece of an array of bytes, as a row. -/
theorem elems_b8 (i off len : Nat) (ws : List UInt8) (ho : o i = .box (ws.map b8)) (h : off + len ≤ ws.length) : elemsOf o 1 (.bsl i off len 1) = some (bytesV ((ws.drop off).take len), [i]) := by
  rw [elems_bsl 1 i off len (ws.map b8) (((ws.drop off).take len).map b8) ho (by rw [Nat.mul_one]; exact cut_map b8 ws off len h)]
  have h1 : len = ((ws.drop off).take len).length := by simp; omega
  have h2 := chunks1 b8 ((ws.drop off).take len)
  rw [← h1] at h2
  rw [h2]; rfl
theorem elems_b8f (i off len : Nat) (ws : List UInt8) (ho : o i = .fbox (ws.map b8)) (h : off + len ≤ ws.length) : elemsOf o 1 (.bsl i off len 1) = some (bytesV ((ws.drop off).take len), [i]) := by
  rw [elems_bslf 1 i off len (ws.map b8) (((ws.drop off).take len).map b8) ho (by rw [Nat.mul_one]; exact cut_map b8 ws off len h)]
  have h1 : len = ((ws.drop off).take len).length := by simp; omega
  have h2 := chunks1 b8 ((ws.drop off).take len)
  rw [← h1] at h2
  rw [h2]; rfl
end
theorem toNat_lt8 (x : UInt8) : x.toNat < 256 := UInt8.toNat_lt x
theorem add8_lt (a b : Nat) : add8 a b < 256 := Nat.mod_lt _ (by decide)
theorem or8_lt (a b : Nat) : or8 a b < 256 := Nat.mod_lt _ (by decide)
theorem xor8_lt (a b : Nat) : xor8 a b < 256 := Nat.mod_lt _ (by decide)
theorem and8_lt (a b : Nat) : and8 a b < 256 := Nat.mod_lt _ (by decide)
theorem not8_lt (a : Nat) : not8 a < 256 := Nat.mod_lt _ (by decide)
theorem mod8_lt (a : Nat) : a % 256 < 256 := Nat.mod_lt _ (by decide)
end Go.Proofs.YtoccgkgdhobmfaaDoor.Am.Ru

/- The abstract machine, part 34: the rules of cells, shape by shape (printed by a program of ours). -/
set_option linter.unusedVariables false
set_option linter.unusedSimpArgs false
namespace Go.Proofs.YtoccgkgdhobmfaaDoor.Am.Ru
open Go
section
variable {o : Hp}
theorem vBox_int (i : Nat) (q : IntKind) (n : Int) : vBox i (.int q n) = some ⟨.ptr i 0, [(i, .box [.int q n])], []⟩ := _root_.id rfl
theorem fill1_int (off : Nat) (cs : List V) (q : IntKind) (n : Int) : fill1 off 1 (.int q n) cs = splice off [.int q n] cs := fill1_cell off cs rfl
theorem fillE_int (j : Nat) (us : List (List V)) (q : IntKind) (n : Int) (hj : j < us.length) : fillE j 1 (.int q n) us = some (us.set j [.int q n]) := fillE_cell j us rfl hj
theorem vStore_int (a : V) (q : IntKind) (n : Int) : vStore o 1 a (.int q n) = sto o [.int q n] a := vStore_cell a rfl
theorem vBox_bool (i : Nat) (t : Bool) : vBox i (.bool t) = some ⟨.ptr i 0, [(i, .box [.bool t])], []⟩ := _root_.id rfl
theorem fill1_bool (off : Nat) (cs : List V) (t : Bool) : fill1 off 1 (.bool t) cs = splice off [.bool t] cs := fill1_cell off cs rfl
theorem fillE_bool (j : Nat) (us : List (List V)) (t : Bool) (hj : j < us.length) : fillE j 1 (.bool t) us = some (us.set j [.bool t]) := fillE_cell j us rfl hj
theorem vStore_bool (a : V) (t : Bool) : vStore o 1 a (.bool t) = sto o [.bool t] a := vStore_cell a rfl
theorem vBox_str (i : Nat) (w : List UInt8) : vBox i (.str w) = some ⟨.ptr i 0, [(i, .box [.str w])], []⟩ := _root_.id rfl
theorem fill1_str (off : Nat) (cs : List V) (w : List UInt8) : fill1 off 1 (.str w) cs = splice off [.str w] cs := fill1_cell off cs rfl
theorem fillE_str (j : Nat) (us : List (List V)) (w : List UInt8) (hj : j < us.length) : fillE j 1 (.str w) us = some (us.set j [.str w]) := fillE_cell j us rfl hj
theorem vStore_str (a : V) (w : List UInt8) : vStore o 1 a (.str w) = sto o [.str w] a := vStore_cell a rfl
theorem vBox_nilp (i : Nat)  : vBox i (.nilp) = some ⟨.ptr i 0, [(i, .box [.nilp])], []⟩ := _root_.id rfl
theorem fill1_nilp (off : Nat) (cs : List V)  : fill1 off 1 (.nilp) cs = splice off [.nilp] cs := fill1_cell off cs rfl
theorem fillE_nilp (j : Nat) (us : List (List V))  (hj : j < us.length) : fillE j 1 (.nilp) us = some (us.set j [.nilp]) := fillE_cell j us rfl hj
theorem vStore_nilp (a : V)  : vStore o 1 a (.nilp) = sto o [.nilp] a := vStore_cell a rfl
theorem vBox_nils (i : Nat) (q : Nat) : vBox i (.nils q) = some ⟨.ptr i 0, [(i, .box [.nils q])], []⟩ := _root_.id rfl
theorem fill1_nils (off : Nat) (cs : List V) (q : Nat) : fill1 off 1 (.nils q) cs = splice off [.nils q] cs := fill1_cell off cs rfl
theorem fillE_nils (j : Nat) (us : List (List V)) (q : Nat) (hj : j < us.length) : fillE j 1 (.nils q) us = some (us.set j [.nils q]) := fillE_cell j us rfl hj
theorem vStore_nils (a : V) (q : Nat) : vStore o 1 a (.nils q) = sto o [.nils q] a := vStore_cell a rfl
theorem vBox_nilf (i : Nat)  : vBox i (.nilf) = some ⟨.ptr i 0, [(i, .box [.nilf])], []⟩ := _root_.id rfl
theorem fill1_nilf (off : Nat) (cs : List V)  : fill1 off 1 (.nilf) cs = splice off [.nilf] cs := fill1_cell off cs rfl
theorem fillE_nilf (j : Nat) (us : List (List V))  (hj : j < us.length) : fillE j 1 (.nilf) us = some (us.set j [.nilf]) := fillE_cell j us rfl hj
theorem vStore_nilf (a : V)  : vStore o 1 a (.nilf) = sto o [.nilf] a := vStore_cell a rfl
theorem vBox_nili (i : Nat)  : vBox i (.nili) = some ⟨.ptr i 0, [(i, .box [.nili])], []⟩ := _root_.id rfl
theorem fill1_nili (off : Nat) (cs : List V)  : fill1 off 1 (.nili) cs = splice off [.nili] cs := fill1_cell off cs rfl
theorem fillE_nili (j : Nat) (us : List (List V))  (hj : j < us.length) : fillE j 1 (.nili) us = some (us.set j [.nili]) := fillE_cell j us rfl hj
theorem vStore_nili (a : V)  : vStore o 1 a (.nili) = sto o [.nili] a := vStore_cell a rfl
theorem vBox_ptr (i : Nat) (p q : Nat) : vBox i (.ptr p q) = some ⟨.ptr i 0, [(i, .box [.ptr p q])], []⟩ := _root_.id rfl
theorem fill1_ptr (off : Nat) (cs : List V) (p q : Nat) : fill1 off 1 (.ptr p q) cs = splice off [.ptr p q] cs := fill1_cell off cs rfl
theorem fillE_ptr (j : Nat) (us : List (List V)) (p q : Nat) (hj : j < us.length) : fillE j 1 (.ptr p q) us = some (us.set j [.ptr p q]) := fillE_cell j us rfl hj
theorem vStore_ptr (a : V) (p q : Nat) : vStore o 1 a (.ptr p q) = sto o [.ptr p q] a := vStore_cell a rfl
theorem vBox_ept (i : Nat) (p q w : Nat) : vBox i (.ept p q w) = some ⟨.ptr i 0, [(i, .box [.ept p q w])], []⟩ := _root_.id rfl
theorem fill1_ept (off : Nat) (cs : List V) (p q w : Nat) : fill1 off 1 (.ept p q w) cs = splice off [.ept p q w] cs := fill1_cell off cs rfl
theorem fillE_ept (j : Nat) (us : List (List V)) (p q w : Nat) (hj : j < us.length) : fillE j 1 (.ept p q w) us = some (us.set j [.ept p q w]) := fillE_cell j us rfl hj
theorem vStore_ept (a : V) (p q w : Nat) : vStore o 1 a (.ept p q w) = sto o [.ept p q w] a := vStore_cell a rfl
theorem vBox_imp (i : Nat) (c : List V) (p : Nat) : vBox i (.imp c p) = some ⟨.ptr i 0, [(i, .box [.imp c p])], []⟩ := _root_.id rfl
theorem fill1_imp (off : Nat) (cs : List V) (c : List V) (p : Nat) : fill1 off 1 (.imp c p) cs = splice off [.imp c p] cs := fill1_cell off cs rfl
theorem fillE_imp (j : Nat) (us : List (List V)) (c : List V) (p : Nat) (hj : j < us.length) : fillE j 1 (.imp c p) us = some (us.set j [.imp c p]) := fillE_cell j us rfl hj
theorem vStore_imp (a : V) (c : List V) (p : Nat) : vStore o 1 a (.imp c p) = sto o [.imp c p] a := vStore_cell a rfl
theorem vBox_sl (i : Nat) (q : Nat) (xs : List (List V)) : vBox i (.sl q xs) = some ⟨.ptr i 0, [(i, .box [.sl q xs])], []⟩ := _root_.id rfl
theorem fill1_sl (off : Nat) (cs : List V) (q : Nat) (xs : List (List V)) : fill1 off 1 (.sl q xs) cs = splice off [.sl q xs] cs := fill1_cell off cs rfl
theorem fillE_sl (j : Nat) (us : List (List V)) (q : Nat) (xs : List (List V)) (hj : j < us.length) : fillE j 1 (.sl q xs) us = some (us.set j [.sl q xs]) := fillE_cell j us rfl hj
theorem vStore_sl (a : V) (q : Nat) (xs : List (List V)) : vStore o 1 a (.sl q xs) = sto o [.sl q xs] a := vStore_cell a rfl
theorem vBox_vsl (i : Nat) (p q w : Nat) : vBox i (.vsl p q w) = some ⟨.ptr i 0, [(i, .box [.vsl p q w])], []⟩ := _root_.id rfl
theorem fill1_vsl (off : Nat) (cs : List V) (p q w : Nat) : fill1 off 1 (.vsl p q w) cs = splice off [.vsl p q w] cs := fill1_cell off cs rfl
theorem fillE_vsl (j : Nat) (us : List (List V)) (p q w : Nat) (hj : j < us.length) : fillE j 1 (.vsl p q w) us = some (us.set j [.vsl p q w]) := fillE_cell j us rfl hj
theorem vStore_vsl (a : V) (p q w : Nat) : vStore o 1 a (.vsl p q w) = sto o [.vsl p q w] a := vStore_cell a rfl
theorem vBox_bsl (i : Nat) (p q w y : Nat) : vBox i (.bsl p q w y) = some ⟨.ptr i 0, [(i, .box [.bsl p q w y])], []⟩ := _root_.id rfl
theorem fill1_bsl (off : Nat) (cs : List V) (p q w y : Nat) : fill1 off 1 (.bsl p q w y) cs = splice off [.bsl p q w y] cs := fill1_cell off cs rfl
theorem fillE_bsl (j : Nat) (us : List (List V)) (p q w y : Nat) (hj : j < us.length) : fillE j 1 (.bsl p q w y) us = some (us.set j [.bsl p q w y]) := fillE_cell j us rfl hj
theorem vStore_bsl (a : V) (p q w y : Nat) : vStore o 1 a (.bsl p q w y) = sto o [.bsl p q w y] a := vStore_cell a rfl
theorem vBox_fn (i : Nat) (f : Nat) (c : List V) : vBox i (.fn f c) = some ⟨.ptr i 0, [(i, .box [.fn f c])], []⟩ := _root_.id rfl
theorem fill1_fn (off : Nat) (cs : List V) (f : Nat) (c : List V) : fill1 off 1 (.fn f c) cs = splice off [.fn f c] cs := fill1_cell off cs rfl
theorem fillE_fn (j : Nat) (us : List (List V)) (f : Nat) (c : List V) (hj : j < us.length) : fillE j 1 (.fn f c) us = some (us.set j [.fn f c]) := fillE_cell j us rfl hj
theorem vStore_fn (a : V) (f : Nat) (c : List V) : vStore o 1 a (.fn f c) = sto o [.fn f c] a := vStore_cell a rfl
theorem vBox_iface (i : Nat) (t : Nat) (v : V) : vBox i (.iface t v) = some ⟨.ptr i 0, [(i, .box [.iface t v])], []⟩ := _root_.id rfl
theorem fill1_iface (off : Nat) (cs : List V) (t : Nat) (v : V) : fill1 off 1 (.iface t v) cs = splice off [.iface t v] cs := fill1_cell off cs rfl
theorem fillE_iface (j : Nat) (us : List (List V)) (t : Nat) (v : V) (hj : j < us.length) : fillE j 1 (.iface t v) us = some (us.set j [.iface t v]) := fillE_cell j us rfl hj
theorem vStore_iface (a : V) (t : Nat) (v : V) : vStore o 1 a (.iface t v) = sto o [.iface t v] a := vStore_cell a rfl
theorem looks_int (q : IntKind) (n : Int) : looks o deep (.int q n) = [] := _root_.id rfl
theorem looks_bool (t : Bool) : looks o deep (.bool t) = [] := _root_.id rfl
theorem looks_str (w : List UInt8) : looks o deep (.str w) = [] := _root_.id rfl
theorem looks_nilp  : looks o deep (.nilp) = [] := _root_.id rfl
theorem looks_nils (q : Nat) : looks o deep (.nils q) = [] := _root_.id rfl
theorem looks_nilf  : looks o deep (.nilf) = [] := _root_.id rfl
theorem looks_nili  : looks o deep (.nili) = [] := _root_.id rfl
theorem looks_imp (c : List V) (p : Nat) : looks o deep (.imp c p) = [] := _root_.id rfl
theorem looks_sl (q : Nat) (xs : List (List V)) : looks o deep (.sl q xs) = [] := _root_.id rfl
theorem looks_stand (n : Nat) (v : V) (h : stand v = true) : looks o n v = [] := by
  cases n with
  | zero => rfl
  | succ n => cases v <;> first | rfl | cases h
theorem flat_looks (n : Nat) : ∀ (cs : List V), (∀ v ∈ cs, stand v = true) → cs.flatMap (looks o n) = [] := by
  intro cs
  induction cs with
  | nil => intro _; rfl
  | cons a cs ih => intro h; rw [List.flatMap_cons, looks_stand n a (h a (by simp)), ih fun v hv => h v (by simp [hv])]; rfl
theorem looks_nums {α : Type} (f : α → V) (hf : ∀ x, stand (f x) = true) (ws : List α) : looks o deep (.agg (ws.map f)) = [] :=
  flat_looks 7 _ fun v hv => by obtain ⟨n, _, rfl⟩ := List.mem_map.1 hv; exact hf n
theorem looks_n32 (ws : List Nat) : looks o deep (.agg (ws.map n32)) = [] := looks_nums n32 stand_n32 ws
theorem looks_b8 (ws : List UInt8) : looks o deep (.agg (ws.map b8)) = [] := looks_nums b8 stand_b8 ws
theorem looks_i64 (ws : List Int) : looks o deep (.agg (ws.map i64)) = [] := looks_nums i64 stand_i64 ws
theorem looks_vslb (i st len : Nat) (s : List UInt8) (ho : o i = .vec 1 (bytesV s)) : looks o deep (.vsl i st len) = [i] := by
  show i :: (match o i with | .vec _ xs => xs.flatMap fun l => l.flatMap (looks o 7) | _ => []) = [i]
  rw [ho]
  have : (bytesV s).flatMap (fun l => l.flatMap (looks o 7)) = [] := by
    rw [List.flatMap_eq_nil_iff]
    intro l hl
    exact flat_looks 7 l (bytes_stand s l hl)
  simp only [this]
theorem looks_vslf (i st len q : Nat) (xs : List (List V)) (ho : o i = .fvec q xs) : looks o deep (.vsl i st len) = [i] := by
  show i :: (match o i with | .vec _ xs => xs.flatMap fun l => l.flatMap (looks o 7) | _ => []) = [i]
  rw [ho]
theorem looks_bsl {α : Type} (f : α → V) (hf : ∀ x, stand (f x) = true) (i off len q : Nat) (ws : List α) (ho : o i = .box (ws.map f)) : looks o deep (.bsl i off len q) = [i] := by
  show i :: (match o i with | .box cs => cs.flatMap (looks o 7) | _ => []) = [i]
  rw [ho]
  have : (ws.map f).flatMap (looks o 7) = [] := flat_looks 7 _ fun v hv => by obtain ⟨n, _, rfl⟩ := List.mem_map.1 hv; exact hf n
  simp only [this]
theorem looks_bslf (i off len q : Nat) (cs : List V) (ho : o i = .fbox cs) : looks o deep (.bsl i off len q) = [i] := by
  show i :: (match o i with | .box cs => cs.flatMap (looks o 7) | _ => []) = [i]
  rw [ho]
theorem looksA_nil : looksArgs o [] [] = [] := _root_.id rfl
theorem looksA_cons (a : V) (l : List V) : looksArgs o (a :: l) [] = looks o deep a ++ looksArgs o l [] := _root_.id rfl
theorem cp_nil (fps : List Fp) : checkPairs fps [] = true := _root_.id rfl
theorem cp_cons (fps : List Fp) (i j : Nat) (r : List (Nat × Nat)) : checkPairs fps ((i, j) :: r) = (fpsApart (fps.getD i ⟨[], []⟩) (fps.getD j ⟨[], []⟩) && checkPairs fps r) := _root_.id rfl
theorem fa_def (a b : Fp) : fpsApart a b = (apart a.wr b.wr && apart a.wr b.rd && apart b.wr a.rd) := _root_.id rfl
theorem apart_nil (b : List Nat) : apart [] b = true := _root_.id rfl
theorem apart_cons (i : Nat) (a b : List Nat) : apart (i :: a) b = (!b.contains i && apart a b) := _root_.id rfl
theorem cont_nil (i : Nat) : ([] : List Nat).contains i = false := _root_.id rfl
theorem cont_cons (i j : Nat) (l : List Nat) : (j :: l).contains i = (decide (i = j) || l.contains i) := by rw [List.contains_cons]; congr 1
theorem rev_nil : ([] : List Fp).reverse = [] := _root_.id rfl
theorem rev_cons (a : Fp) (l : List Fp) : (a :: l).reverse = l.reverse ++ [a] := List.reverse_cons
end
section
variable {G : Nat → Option (List V)} {cf : CallFn} {Φ : Pst} {k : List Fr} {s : St} {e : Env} {o : Hp} {b cx : Nat}
/-- A loop, once round. -/
def upost (G : Nat → Option (List V)) (cf : CallFn) (Φ : Pst) (a : MC) (k : List Fr) : Pst
  | .normal, s => go G cf Φ (.loop a) k s
  | x, s => back G cf Φ k x s
theorem upost_normal (a : MC) : upost G cf Φ a k .normal s = go G cf Φ (.loop a) k s := _root_.id rfl
theorem upost_exit (a : MC) (i : Nat) : upost G cf Φ a k (.exit i) s = back G cf Φ k (.exit i) s := _root_.id rfl
theorem upost_ret (a : MC) : upost G cf Φ a k .ret s = back G cf Φ k .ret s := _root_.id rfl
theorem upost_panic (a : MC) (v : V) : upost G cf Φ a k (.panic v) s = back G cf Φ k (.panic v) s := _root_.id rfl
theorem go_once {a : MC} (h : go G cf (upost G cf Φ a k) a [] s) : go G cf Φ (.loop a) k s := by
  rw [go_eq] at h ⊢
  obtain ⟨y, t, h1, h2⟩ := h
  cases y with
  | normal =>
    have h2 : upost G cf Φ a k .normal t := h2
    rw [upost_normal, go_eq] at h2
    obtain ⟨z, u, h3, h4⟩ := h2
    exact ⟨z, u, by show iterW _ _ = _; rw [iterW_step h1]; exact h3, h4⟩
  | exit i =>
    have h2 : upost G cf Φ a k (.exit i) t := h2
    rw [upost_exit, back_eq] at h2; exact ⟨_, t, iterW_end h1 (by simp), h2⟩
  | ret =>
    have h2 : upost G cf Φ a k .ret t := h2
    rw [upost_ret, back_eq] at h2; exact ⟨_, t, iterW_end h1 (by simp), h2⟩
  | panic v =>
    have h2 : ∀ s', upost G cf Φ a k (.panic v) s' := h2
    have h3 := h2 t
    rw [upost_panic, back_eq] at h3; exact ⟨_, t, iterW_end h1 (by simp), h3⟩
end
theorem n32_ap (x : Nat) : n32 x = .int .u32 (x : Int) := _root_.id rfl
theorem b8_ap (x : UInt8) : b8 x = .int .u8 ((x.toNat : Nat) : Int) := _root_.id rfl
theorem i64_ap (x : Int) : i64 x = .int .i64 x := _root_.id rfl
theorem vIndexA_n32 (ws : List Nat) (n : Nat) (q : IntKind) (x : Int) (h : 0 ≤ x) (h' : x.toNat < n) (hl : ws.length = n) : vIndexA n 1 false (.agg (ws.map n32)) (.int q x) = ok (.int .u32 ((ws.getD x.toNat 0 : Nat) : Int)) := vIndexA_num n32 ws 0 n q x h h' hl
theorem vIndexA_b8 (ws : List UInt8) (n : Nat) (q : IntKind) (x : Int) (h : 0 ≤ x) (h' : x.toNat < n) (hl : ws.length = n) : vIndexA n 1 false (.agg (ws.map b8)) (.int q x) = ok (.int .u8 (((ws.getD x.toNat 0).toNat : Nat) : Int)) := vIndexA_num b8 ws 0 n q x h h' hl
theorem vIndexA_i64 (ws : List Int) (n : Nat) (q : IntKind) (x : Int) (h : 0 ≤ x) (h' : x.toNat < n) (hl : ws.length = n) : vIndexA n 1 false (.agg (ws.map i64)) (.int q x) = ok (.int .i64 (ws.getD x.toNat 0)) := vIndexA_num i64 ws 0 n q x h h' hl
end Go.Proofs.YtoccgkgdhobmfaaDoor.Am.Ru

/- The abstract machine, part 35: what stands still, shape by shape. -/
set_option linter.unusedVariables false
set_option linter.unusedSimpArgs false
namespace Go.Proofs.YtoccgkgdhobmfaaDoor.Am.Ru
open Go
section
variable {o : Hp} {n : Nat}
def scalarT (v : V) : Bool := match v with | .agg cs => cs.all scalarV | v => scalarV v
theorem fr_int (q : IntKind) (x : Int) : frz o (n + 1) (.int q x) = some (.int q x, []) := _root_.id rfl
theorem fr_bool (t : Bool) : frz o (n + 1) (.bool t) = some (.bool t, []) := _root_.id rfl
theorem fr_str (w : List UInt8) : frz o (n + 1) (.str w) = some (.str w, []) := _root_.id rfl
theorem fr_nilp  : frz o (n + 1) (.nilp) = some (.nilp, []) := _root_.id rfl
theorem fr_nils (q : Nat) : frz o (n + 1) (.nils q) = some (.sl q [], []) := _root_.id rfl
theorem fr_nilf  : frz o (n + 1) (.nilf) = some (.nilf, []) := _root_.id rfl
theorem fr_nili  : frz o (n + 1) (.nili) = some (.nili, []) := _root_.id rfl
theorem fr_imp (c : List V) (p : Nat) : frz o (n + 1) (.imp c p) = some (.imp c p, []) := _root_.id rfl
theorem fr_sl (q : Nat) (xs : List (List V)) : frz o (n + 1) (.sl q xs) = some (.sl q xs, []) := _root_.id rfl
theorem lk_int (q : IntKind) (x : Int) : looks o n (.int q x) = [] := by cases n <;> rfl
theorem lk_bool (t : Bool) : looks o n (.bool t) = [] := by cases n <;> rfl
theorem lk_str (w : List UInt8) : looks o n (.str w) = [] := by cases n <;> rfl
theorem lk_nilp  : looks o n (.nilp) = [] := by cases n <;> rfl
theorem lk_nils (q : Nat) : looks o n (.nils q) = [] := by cases n <;> rfl
theorem lk_nilf  : looks o n (.nilf) = [] := by cases n <;> rfl
theorem lk_nili  : looks o n (.nili) = [] := by cases n <;> rfl
theorem lk_imp (c : List V) (p : Nat) : looks o n (.imp c p) = [] := by cases n <;> rfl
theorem lk_sl (q : Nat) (xs : List (List V)) : looks o n (.sl q xs) = [] := by cases n <;> rfl
theorem sv_int (q : IntKind) (x : Int) : scalarV (.int q x) = true := _root_.id rfl
theorem st_int (q : IntKind) (x : Int) : scalarT (.int q x) = true := _root_.id rfl
theorem sv_bool (t : Bool) : scalarV (.bool t) = true := _root_.id rfl
theorem st_bool (t : Bool) : scalarT (.bool t) = true := _root_.id rfl
theorem sv_str (w : List UInt8) : scalarV (.str w) = true := _root_.id rfl
theorem st_str (w : List UInt8) : scalarT (.str w) = true := _root_.id rfl
theorem sv_nilp  : scalarV (.nilp) = true := _root_.id rfl
theorem st_nilp  : scalarT (.nilp) = true := _root_.id rfl
theorem sv_nils (q : Nat) : scalarV (.nils q) = true := _root_.id rfl
theorem st_nils (q : Nat) : scalarT (.nils q) = true := _root_.id rfl
theorem sv_nilf  : scalarV (.nilf) = true := _root_.id rfl
theorem st_nilf  : scalarT (.nilf) = true := _root_.id rfl
theorem sv_nili  : scalarV (.nili) = true := _root_.id rfl
theorem st_nili  : scalarT (.nili) = true := _root_.id rfl
theorem sv_sl (q : Nat) (xs : List (List V)) : scalarV (.sl q xs) = xs.isEmpty := _root_.id rfl
theorem st_sl (q : Nat) (xs : List (List V)) : scalarT (.sl q xs) = xs.isEmpty := _root_.id rfl
theorem sc_sl (q : Nat) (xs : List (List V)) : scalar (.sl q xs) = xs.isEmpty := _root_.id rfl
theorem sv_imp (c : List V) (p : Nat) : scalarV (.imp c p) = false := _root_.id rfl
theorem st_imp (c : List V) (p : Nat) : scalarT (.imp c p) = false := _root_.id rfl
theorem sc_imp (c : List V) (p : Nat) : scalar (.imp c p) = false := _root_.id rfl
theorem sc_agg (v : V) (cs : List V) : scalar (.agg (v :: cs)) = (scalarV v && cs.all scalarV) := _root_.id rfl
theorem st_agg (v : V) (cs : List V) : scalarT (.agg (v :: cs)) = (scalarV v && cs.all scalarV) := _root_.id rfl
theorem sc_tup (cs : List V) : scalar (.tup cs) = cs.all scalarT := _root_.id rfl
theorem sc_fn (f : Nat) (cs : List V) : scalar (.fn f cs) = false := _root_.id rfl
theorem st_nums {α : Type} (f : α → V) (hf : ∀ x, scalarV (f x) = true) (ws : List α) : scalarT (.agg (ws.map f)) = true := by
  simp only [scalarT, List.all_map, List.all_eq_true]; intro x _; exact hf x
theorem st_n32 (ws : List Nat) : scalarT (.agg (ws.map n32)) = true := st_nums n32 (fun _ => rfl) ws
theorem st_b8 (ws : List UInt8) : scalarT (.agg (ws.map b8)) = true := st_nums b8 (fun _ => rfl) ws
theorem st_i64 (ws : List Int) : scalarT (.agg (ws.map i64)) = true := st_nums i64 (fun _ => rfl) ws
def sqR (r : Option (V × List (Nat × AObj))) (s : Option (List V × List (Nat × AObj))) : Option (List V × List (Nat × AObj)) := r.bind fun r => s.map fun s => (r.1 :: s.1, r.2 ++ s.2)
theorem sqR_some (a : V) (u : List (Nat × AObj)) (l : List V) (w : List (Nat × AObj)) : sqR (some (a, u)) (some (l, w)) = some (a :: l, u ++ w) := _root_.id rfl
theorem sq_nil : seqM (frz o n) [] = some ([], []) := _root_.id rfl
theorem sq_cons (a : V) (l : List V) : seqM (frz o n) (a :: l) = sqR (frz o n a) (seqM (frz o n) l) := _root_.id rfl
def agR (r : Option (List V × List (Nat × AObj))) : Option (V × List (Nat × AObj)) := r.map fun r => (.agg r.1, r.2)
def tupR (r : Option (List V × List (Nat × AObj))) : Option (V × List (Nat × AObj)) := r.map fun r => (.tup r.1, r.2)
def fnR (f : Nat) (r : Option (List V × List (Nat × AObj))) : Option (V × List (Nat × AObj)) := r.map fun r => (.fn f r.1, r.2)
theorem agR_some (l : List V) (w : List (Nat × AObj)) : agR (some (l, w)) = some (.agg l, w) := _root_.id rfl
theorem tupR_some (l : List V) (w : List (Nat × AObj)) : tupR (some (l, w)) = some (.tup l, w) := _root_.id rfl
theorem fnR_some (f : Nat) (l : List V) (w : List (Nat × AObj)) : fnR f (some (l, w)) = some (.fn f l, w) := _root_.id rfl
theorem fr_aggc (v : V) (cs : List V) : frz o (n + 1) (.agg (v :: cs)) = agR (seqM (frz o n) (v :: cs)) := _root_.id rfl
theorem fr_aggn : frz o (n + 1) (.agg []) = some (.agg [], []) := _root_.id rfl
theorem fr_tup (cs : List V) : frz o (n + 1) (.tup cs) = tupR (seqM (frz o n) cs) := _root_.id rfl
theorem fr_fn (f : Nat) (cs : List V) : frz o (n + 1) (.fn f cs) = fnR f (seqM (frz o n) cs) := _root_.id rfl
theorem fr_nums {α : Type} (f : α → V) (hf : ∀ x, stand (f x) = true) (ws : List α) : frz o (n + 2) (.agg (ws.map f)) = some (.agg (ws.map f), []) := by
  show ((seqM (frz o (n + 1)) (ws.map f)).map fun r => (V.agg r.1, r.2)) = _
  rw [seqM_same fun v hv => frz_stand (by obtain ⟨n, _, rfl⟩ := List.mem_map.1 hv; exact hf n)]; rfl
theorem fr_n32 (ws : List Nat) : frz o (n + 2) (.agg (ws.map n32)) = some (.agg (ws.map n32), []) := fr_nums n32 stand_n32 ws
theorem fr_b8 (ws : List UInt8) : frz o (n + 2) (.agg (ws.map b8)) = some (.agg (ws.map b8), []) := fr_nums b8 stand_b8 ws
theorem fr_i64 (ws : List Int) : frz o (n + 2) (.agg (ws.map i64)) = some (.agg (ws.map i64), []) := fr_nums i64 stand_i64 ws
theorem fr_vsl {i st len q : Nat} {xs : List (List V)} (ho : o i = .vec q xs) (hl : st + len ≤ xs.length) (h : ∀ l ∈ xs, ∀ v ∈ l, stand v = true) : frz o (n + 2) (.vsl i st len) = some (.sl q ((xs.drop st).take len), [(i, .fvec q xs)]) := by
  show (match o i with
      | .vec e xs => if st + len ≤ xs.length then (seqM (seqM (frz o (n + 1))) xs).map fun (r : List (List V) × List (Nat × AObj)) => ((.sl e ((r.1.drop st).take len), (i, .fvec e r.1) :: r.2) : V × List (Nat × AObj)) else none
      | .fvec e xs => if st + len ≤ xs.length then some (.sl e ((xs.drop st).take len), []) else none
      | _ => none) = _
  simp only [ho, hl, if_true, frz_rows h, Option.map_some]
theorem fr_vslf {i st len q : Nat} {xs : List (List V)} (ho : o i = .fvec q xs) (hl : st + len ≤ xs.length) : frz o (n + 2) (.vsl i st len) = some (.sl q ((xs.drop st).take len), []) := by
  show (match o i with
      | .vec e xs => if st + len ≤ xs.length then (seqM (seqM (frz o (n + 1))) xs).map fun (r : List (List V) × List (Nat × AObj)) => ((.sl e ((r.1.drop st).take len), (i, .fvec e r.1) :: r.2) : V × List (Nat × AObj)) else none
      | .fvec e xs => if st + len ≤ xs.length then some (.sl e ((xs.drop st).take len), []) else none
      | _ => none) = _
  simp only [ho, hl, if_true]
theorem fr_bytes {i st len : Nat} {s : List UInt8} (ho : o i = .vec 1 (bytesV s)) (hl : st + len ≤ s.length) : frz o (n + 2) (.vsl i st len) = some (.sl 1 (bytesV ((s.drop st).take len)), [(i, .fvec 1 (bytesV s))]) := by
  rw [fr_vsl ho (by rw [bytes_len]; exact hl) (bytes_stand s), bytes_cut]
theorem fr_bytesf {i st len : Nat} {s : List UInt8} (ho : o i = .fvec 1 (bytesV s)) (hl : st + len ≤ s.length) : frz o (n + 2) (.vsl i st len) = some (.sl 1 (bytesV ((s.drop st).take len)), []) := by
  rw [fr_vslf ho (by rw [bytes_len]; exact hl), bytes_cut]
theorem fr_bsl8 {i off len : Nat} {ws : List UInt8} (ho : o i = .box (ws.map b8)) (hl : off + len ≤ ws.length) :
    frz o (n + 2) (.bsl i off len 1) = some (.sl 1 (bytesV ((ws.drop off).take len)), [(i, .fbox (ws.map b8))]) := by
  show (match o i with
      | .box cs => (seqM (frz o (n + 1)) cs).bind fun r => (cut off (len * 1) r.1).map fun c => ((.sl 1 (chunks 1 len c), (i, .fbox r.1) :: r.2) : V × List (Nat × AObj))
      | .fbox cs => (cut off (len * 1) cs).map fun c => (.sl 1 (chunks 1 len c), [])
      | _ => none) = _
  have hs : ∀ v ∈ ws.map b8, stand v = true := fun v hv => by obtain ⟨n, _, rfl⟩ := List.mem_map.1 hv; rfl
  simp only [ho, seqM_same fun v hv => frz_stand (hs v hv), Option.bind_some, Nat.mul_one, cut_map b8 ws off len hl, Option.map_some]
  have h1 : len = ((ws.drop off).take len).length := by simp; omega
  have h2 := chunks1 b8 ((ws.drop off).take len)
  rw [← h1] at h2
  rw [h2]; rfl
theorem fr_bslf {i off len : Nat} {ws : List UInt8} (ho : o i = .fbox (ws.map b8)) (hl : off + len ≤ ws.length) :
    frz o (n + 2) (.bsl i off len 1) = some (.sl 1 (bytesV ((ws.drop off).take len)), []) := by
  show (match o i with
      | .box cs => (seqM (frz o (n + 1)) cs).bind fun r => (cut off (len * 1) r.1).map fun c => ((.sl 1 (chunks 1 len c), (i, .fbox r.1) :: r.2) : V × List (Nat × AObj))
      | .fbox cs => (cut off (len * 1) cs).map fun c => (.sl 1 (chunks 1 len c), [])
      | _ => none) = _
  simp only [ho, Nat.mul_one, cut_map b8 ws off len hl, Option.map_some]
  have h1 : len = ((ws.drop off).take len).length := by simp; omega
  have h2 := chunks1 b8 ((ws.drop off).take len)
  rw [← h1] at h2
  rw [h2]; rfl
theorem lk_n32 (ws : List Nat) : looks o (n + 1) (.agg (ws.map n32)) = [] := flat_looks n _ fun v hv => by obtain ⟨n, _, rfl⟩ := List.mem_map.1 hv; rfl
theorem lk_b8 (ws : List UInt8) : looks o (n + 1) (.agg (ws.map b8)) = [] := flat_looks n _ fun v hv => by obtain ⟨n, _, rfl⟩ := List.mem_map.1 hv; rfl
theorem lk_i64 (ws : List Int) : looks o (n + 1) (.agg (ws.map i64)) = [] := flat_looks n _ fun v hv => by obtain ⟨n, _, rfl⟩ := List.mem_map.1 hv; rfl
theorem lk_agg (cs : List V) : looks o (n + 1) (.agg cs) = cs.flatMap (looks o n) := _root_.id rfl
theorem lk_tup (cs : List V) : looks o (n + 1) (.tup cs) = cs.flatMap (looks o n) := _root_.id rfl
theorem lk_fn (f : Nat) (cs : List V) : looks o (n + 1) (.fn f cs) = cs.flatMap (looks o n) := _root_.id rfl
theorem lk_vslb (i st len : Nat) (s : List UInt8) (ho : o i = .vec 1 (bytesV s)) : looks o (n + 1) (.vsl i st len) = [i] := by
  show i :: (match o i with | .vec _ xs => xs.flatMap fun l => l.flatMap (looks o n) | _ => []) = [i]
  rw [ho]
  have : (bytesV s).flatMap (fun l => l.flatMap (looks o n)) = [] := by
    rw [List.flatMap_eq_nil_iff]
    intro l hl
    exact flat_looks n l (bytes_stand s l hl)
  simp only [this]
theorem lk_vslf (i st len q : Nat) (xs : List (List V)) (ho : o i = .fvec q xs) : looks o (n + 1) (.vsl i st len) = [i] := by
  show i :: (match o i with | .vec _ xs => xs.flatMap fun l => l.flatMap (looks o n) | _ => []) = [i]
  rw [ho]
theorem lk_bsl8 (i off len q : Nat) (ws : List UInt8) (ho : o i = .box (ws.map b8)) : looks o (n + 1) (.bsl i off len q) = [i] := by
  show i :: (match o i with | .box cs => cs.flatMap (looks o n) | _ => []) = [i]
  rw [ho]
  have : (ws.map b8).flatMap (looks o n) = [] := flat_looks n _ fun v hv => by obtain ⟨n, _, rfl⟩ := List.mem_map.1 hv; rfl
  simp only [this]
theorem lk_bslf (i off len q : Nat) (cs : List V) (ho : o i = .fbox cs) : looks o (n + 1) (.bsl i off len q) = [i] := by
  show i :: (match o i with | .box cs => cs.flatMap (looks o n) | _ => []) = [i]
  rw [ho]
end
end Go.Proofs.YtoccgkgdhobmfaaDoor.Am.Ru

/- The abstract machine, part 36: objects that are looked up. -/
set_option linter.unusedVariables false
set_option linter.unusedSimpArgs false
namespace Go.Proofs.YtoccgkgdhobmfaaDoor.Am.Ru
open Go
section
variable {o : Hp} {n : Nat}

/-! ### Literals without a sign -/
theorem lit8 (k : Nat) : V.int .u8 (no_index (OfNat.ofNat k : Int)) = .int .u8 ((OfNat.ofNat k : Nat) : Int) := _root_.id rfl
theorem lit32 (k : Nat) : V.int .u32 (no_index (OfNat.ofNat k : Int)) = .int .u32 ((OfNat.ofNat k : Nat) : Int) := _root_.id rfl
theorem lit64 (k : Nat) : V.int .u64 (no_index (OfNat.ofNat k : Int)) = .int .u64 ((OfNat.ofNat k : Nat) : Int) := _root_.id rfl

theorem b_rem64u (a b : Nat) (h : 0 < b) : binV .rem (.int .u64 (a : Int)) (.int .u64 (b : Int)) = some (.int .u64 ((a % b : Nat) : Int)) := by
  simp only [binV, binI, if_true]
  rw [if_neg (by omega), Int.tmod_eq_emod_of_nonneg (by omega)]; rfl
theorem b_quo64u (a b : Nat) (h : 0 < b) (h' : a < 18446744073709551616) : binV .quo (.int .u64 (a : Int)) (.int .u64 (b : Int)) = some (.int .u64 ((a / b : Nat) : Int)) := by
  simp only [binV, binI, if_true]
  rw [if_neg (by omega), Int.tdiv_eq_ediv_of_nonneg (by omega), w64]
  have : a / b ≤ a := Nat.div_le_self a b
  have h2 : ((a : Int) / (b : Int)) = ((a / b : Nat) : Int) := rfl
  rw [h2]
  generalize a / b = c at *
  congr 2; omega

/-! ### Rows -/
def elv (n st len i : Nat) (x : AObj) : Option (List (List V) × List Nat) := match x with
  | .vec e xs => if e = n ∧ st + len ≤ xs.length then some ((xs.drop st).take len, [i]) else none
  | .fvec e xs => if e = n ∧ st + len ≤ xs.length then some ((xs.drop st).take len, [i]) else none
  | _ => none
theorem el_vsl (q i st len : Nat) : elemsOf o q (.vsl i st len) = elv q st len i (o i) := by
  simp only [elemsOf, rdVec, elv]
  cases o i <;> rfl
theorem elv_vec (q st len i : Nat) (xs : List (List V)) (h : st + len ≤ xs.length) : elv q st len i (.vec q xs) = some ((xs.drop st).take len, [i]) := by
  simp only [elv]; rw [if_pos ⟨trivial, h⟩]
theorem elv_fvec (q st len i : Nat) (xs : List (List V)) (h : st + len ≤ xs.length) : elv q st len i (.fvec q xs) = some ((xs.drop st).take len, [i]) := by
  simp only [elv]; rw [if_pos ⟨trivial, h⟩]
theorem drop_all0 {α : Type} (l : List α) : l.drop 0 = l := List.drop_zero
theorem take_all {α : Type} (l : List α) (k : Nat) (h : k = l.length) : l.take k = l := by subst h; exact List.take_length
def elb (q off len i : Nat) (x : AObj) : Option (List (List V) × List Nat) := match x with
  | .box cs => (cut off (len * q) cs).map fun c => (chunks q len c, [i])
  | .fbox cs => (cut off (len * q) cs).map fun c => (chunks q len c, [i])
  | _ => none
theorem el_bsl (q i off len : Nat) : elemsOf o q (.bsl i off len q) = elb q off len i (o i) := by
  simp only [elemsOf, if_true, rdBox, elb]
  cases o i <;> rfl
theorem chunks_b8 (ws : List UInt8) (len : Nat) (h : len = ws.length) : chunks 1 len (ws.map b8) = bytesV ws := by
  subst h; exact chunks1 b8 ws
theorem elb_b8 (off len i : Nat) (ws : List UInt8) (h : off + len ≤ ws.length) : elb 1 off len i (.box (ws.map b8)) = some (bytesV ((ws.drop off).take len), [i]) := by
  simp only [elb, Nat.mul_one, cut_map b8 ws off len h, Option.map_some]
  rw [chunks_b8 _ _ (by simp; omega)]
theorem elb_b8f (off len i : Nat) (ws : List UInt8) (h : off + len ≤ ws.length) : elb 1 off len i (.fbox (ws.map b8)) = some (bytesV ((ws.drop off).take len), [i]) := by
  simp only [elb, Nat.mul_one, cut_map b8 ws off len h, Option.map_some]
  rw [chunks_b8 _ _ (by simp; omega)]

def slv (q lo hi i st len : Nat) (x : AObj) : Option Act := match x with
  | .vec e xs => if e = q ∧ lo ≤ hi ∧ hi ≤ len then some ⟨.vsl i (st + lo) (hi - lo), [], [i]⟩ else none
  | .fvec e xs => if e = q ∧ lo ≤ hi ∧ hi ≤ len then some ⟨.vsl i (st + lo) (hi - lo), [], [i]⟩ else none
  | _ => none
theorem sl_vsl (q lo hi i st len : Nat) : sliceElems o q lo hi (.vsl i st len) = slv q lo hi i st len (o i) := by
  simp only [sliceElems, rdVec, slv]
  cases o i <;> rfl
theorem slv_vec (q lo hi i st len : Nat) (xs : List (List V)) (h : lo ≤ hi) (h' : hi ≤ len) : slv q lo hi i st len (.vec q xs) = some ⟨.vsl i (st + lo) (hi - lo), [], [i]⟩ := by
  simp only [slv]; rw [if_pos ⟨trivial, h, h'⟩]
theorem slv_fvec (q lo hi i st len : Nat) (xs : List (List V)) (h : lo ≤ hi) (h' : hi ≤ len) : slv q lo hi i st len (.fvec q xs) = some ⟨.vsl i (st + lo) (hi - lo), [], [i]⟩ := by
  simp only [slv]; rw [if_pos ⟨trivial, h, h'⟩]
theorem sl_nils (q : Nat) : sliceElems o q 0 0 (.nils q) = ok (.nils q) := by simp [sliceElems]

def ixv (q i st len j : Nat) (x : AObj) : Option Act := match x with
  | .vec e xs => if e = q ∧ j < len then some ⟨.ept i (st + j) 0, [], [i]⟩ else none
  | .fvec e xs => if e = q ∧ j < len then some ⟨.ept i (st + j) 0, [], [i]⟩ else none
  | _ => none
theorem ix_vsl (q i st len : Nat) (p : IntKind) (x : Int) (h : 0 ≤ x) : vIndexAddrL o q (.vsl i st len) (.int p x) = ixv q i st len x.toNat (o i) := by
  simp only [vIndexAddrL, asN_int p x h, Option.bind_some, idxL, rdVec, ixv]
  cases o i <;> rfl
theorem ixv_vec (q i st len j : Nat) (xs : List (List V)) (h : j < len) : ixv q i st len j (.vec q xs) = some ⟨.ept i (st + j) 0, [], [i]⟩ := by
  simp only [ixv]; rw [if_pos ⟨trivial, h⟩]
theorem ixv_fvec (q i st len j : Nat) (xs : List (List V)) (h : j < len) : ixv q i st len j (.fvec q xs) = some ⟨.ept i (st + j) 0, [], [i]⟩ := by
  simp only [ixv]; rw [if_pos ⟨trivial, h⟩]

/-! ### append -/
def apv (id esz eb i st len : Nat) (x : AObj) (r : Option (List (List V) × List Nat)) : Option Act := r.bind fun r => match x with
  | .vec e xs => if e = esz ∧ st = 0 ∧ len ≤ xs.length ∧ room (len + r.1.length) eb ∧ !r.2.contains i then
        some ⟨.vsl id 0 (len + r.1.length), [(i, .dead), (id, .vec esz (xs.take len ++ r.1))], r.2⟩ else none
  | _ => none
theorem ap_v (id esz eb i st len : Nat) (r : Option (List (List V) × List Nat)) : apE o id esz eb (.vsl i st len) r = apv id esz eb i st len (o i) r := by
  cases r with
  | none => rfl
  | some r =>
    simp only [apE, apv, Option.bind_some, appendTo]
    cases o i <;> rfl
theorem apv_vec (id esz eb i len : Nat) (ys xs : List (List V)) (rd : List Nat) (hl : len = ys.length) (hr : rd.contains i = false) (h : (len + xs.length) * eb ≤ 17592186044416) :
    apv id esz eb i 0 len (.vec esz ys) (some (xs, rd)) = some ⟨.vsl id 0 (len + xs.length), [(i, .dead), (id, .vec esz (ys ++ xs))], rd⟩ := by
  subst hl
  simp only [apv, Option.bind_some]
  rw [if_pos ⟨trivial, trivial, Nat.le_refl _, room_ok _ _ h, by rw [hr]; rfl⟩, List.take_length]
theorem ap_nils0 (id esz eb : Nat) (rd : List Nat) : apE o id esz eb (.nils esz) (some ([], rd)) = some ⟨.nils esz, [], rd⟩ := by
  simp [apE, appendTo, room]
theorem hrd_one (i j : Nat) (h : i ≠ j) : ([j] : List Nat).contains i = false := by simp [h]
theorem apv_vec0 (id esz eb i len : Nat) (ys xs : List (List V)) (hl : len = ys.length) (h : (len + xs.length) * eb ≤ 17592186044416) :
    apv id esz eb i 0 len (.vec esz ys) (some (xs, [])) = some ⟨.vsl id 0 (len + xs.length), [(i, .dead), (id, .vec esz (ys ++ xs))], []⟩ := apv_vec id esz eb i len ys xs [] hl rfl h
theorem apv_vec1 (id esz eb i len j : Nat) (ys xs : List (List V)) (hl : len = ys.length) (hj : i ≠ j) (h : (len + xs.length) * eb ≤ 17592186044416) :
    apv id esz eb i 0 len (.vec esz ys) (some (xs, [j])) = some ⟨.vsl id 0 (len + xs.length), [(i, .dead), (id, .vec esz (ys ++ xs))], [j]⟩ := apv_vec id esz eb i len ys xs [j] hl (hrd_one i j hj) h
theorem bytes_snoc (s : List UInt8) (z : Int) (h : 0 ≤ z) (h' : z < 256) : bytesV s ++ [[.int .u8 z]] = bytesV (s ++ [UInt8.ofNat z.toNat]) := by
  have : (z.toNat : Int) = z := by omega
  have h1 : V.int .u8 z = .int .u8 (((UInt8.ofNat z.toNat).toNat : Nat) : Int) := by rw [UInt8.toNat_ofNat_of_lt' (by show z.toNat < 256; omega), this]
  rw [h1]; simp [bytesV, byteV]
theorem bytes_one (z : Int) (h : 0 ≤ z) (h' : z < 256) : ([[.int .u8 z]] : List (List V)) = bytesV [UInt8.ofNat z.toNat] := bytes_snoc [] z h h'
theorem bytes_nil : bytesV [] = [] := _root_.id rfl

/-! ### Literals -/
def ilR (q : Nat) (x : Option (List (List V))) : Option Act := okV (x.map (.sl q))
theorem vIlit_def (q : Nat) (xs : List (List V)) : vIlit q (some xs) = ilR q (nrmLL xs) := _root_.id rfl
theorem ilR_some (q : Nat) (xs : List (List V)) : ilR q (some xs) = ok (.sl q xs) := _root_.id rfl
def nlR (x : Option (List V)) (y : Option (List (List V))) : Option (List (List V)) := x.bind fun a => y.map (a :: ·)
def nrR (x : Option V) (y : Option (List V)) : Option (List V) := x.bind fun a => y.map (a :: ·)
theorem nlR_some (a : List V) (y : List (List V)) : nlR (some a) (some y) = some (a :: y) := _root_.id rfl
theorem nrR_some (a : V) (y : List V) : nrR (some a) (some y) = some (a :: y) := _root_.id rfl
theorem nll_nil : nrmLL [] = some [] := _root_.id rfl
theorem nll_cons (a : List V) (r : List (List V)) : nrmLL (a :: r) = nlR (nrmL a) (nrmLL r) := _root_.id rfl
theorem nl_nil : nrmL [] = some [] := _root_.id rfl
theorem nl_cons (a : V) (r : List V) : nrmL (a :: r) = nrR (nrm a) (nrmL r) := _root_.id rfl
theorem nr_nils (q : Nat) : nrm (.nils q) = some (.sl q []) := _root_.id rfl
theorem nr_int (q : IntKind) (x : Int) : nrm (.int q x) = some (.int q x) := _root_.id rfl
theorem nr_bool (b : Bool) : nrm (.bool b) = some (.bool b) := _root_.id rfl
theorem nr_str (s : List UInt8) : nrm (.str s) = some (.str s) := _root_.id rfl
theorem nr_nilp : nrm .nilp = some .nilp := _root_.id rfl
theorem nr_nilf : nrm .nilf = some .nilf := _root_.id rfl
theorem nr_nili : nrm .nili = some .nili := _root_.id rfl
theorem nr_imp (c : List V) (p : Nat) : nrm (.imp c p) = some (.imp c p) := _root_.id rfl
theorem nr_sl (q : Nat) (xs : List (List V)) : nrm (.sl q xs) = some (.sl q xs) := _root_.id rfl

/-! ### What stands still -/
def frv (st len i : Nat) (r : Option (List (List V) × List (Nat × AObj))) (x : AObj) : Option (V × List (Nat × AObj)) := match x with
  | .vec e xs => if st + len ≤ xs.length then r.map fun r => (.sl e ((r.1.drop st).take len), (i, .fvec e r.1) :: r.2) else none
  | .fvec e xs => if st + len ≤ xs.length then some (.sl e ((xs.drop st).take len), []) else none
  | _ => none
def vecOf : AObj → List (List V)
  | .vec _ xs => xs
  | _ => []
theorem fr_v (i st len : Nat) : frz o (n + 1) (.vsl i st len) = frv st len i (seqM (seqM (frz o n)) (vecOf (o i))) (o i) := by
  show (match o i with
      | .vec e xs => if st + len ≤ xs.length then (seqM (seqM (frz o n)) xs).map fun (r : List (List V) × List (Nat × AObj)) => ((.sl e ((r.1.drop st).take len), (i, .fvec e r.1) :: r.2) : V × List (Nat × AObj)) else none
      | .fvec e xs => if st + len ≤ xs.length then some (.sl e ((xs.drop st).take len), []) else none
      | _ => none) = _
  cases o i <;> rfl
theorem vecOf_vec (q : Nat) (xs : List (List V)) : vecOf (.vec q xs) = xs := _root_.id rfl
theorem frv_vec (st len i q : Nat) (xs : List (List V)) (h : st + len ≤ xs.length) : frv st len i (some (xs, [])) (.vec q xs) = some (.sl q ((xs.drop st).take len), [(i, .fvec q xs)]) := by
  simp only [frv]; rw [if_pos h]; rfl
theorem frv_fvec (st len i q : Nat) (xs : List (List V)) (r : Option (List (List V) × List (Nat × AObj))) (h : st + len ≤ xs.length) : frv st len i r (.fvec q xs) = some (.sl q ((xs.drop st).take len), []) := by
  simp only [frv]; rw [if_pos h]
theorem sq_bytes (s : List UInt8) : seqM (seqM (frz o (n + 1))) (bytesV s) = some (bytesV s, []) := frz_rows (bytes_stand s)
theorem sq_nilL : seqM (seqM (frz o n)) [] = some ([], []) := _root_.id rfl
theorem sq_stand {xs : List (List V)} (h : ∀ l ∈ xs, ∀ v ∈ l, stand v = true) : seqM (seqM (frz o (n + 1))) xs = some (xs, []) := frz_rows h
def frb (off len i q : Nat) (x : AObj) (r : Option (List V × List (Nat × AObj))) : Option (V × List (Nat × AObj)) := match x with
  | .box cs => r.bind fun (r : List V × List (Nat × AObj)) => (cut off (len * q) r.1).map fun c => (.sl q (chunks q len c), (i, .fbox r.1) :: r.2)
  | .fbox cs => (cut off (len * q) cs).map fun c => (.sl q (chunks q len c), [])
  | _ => none
def boxOf : AObj → List V
  | .box xs => xs
  | _ => []
theorem boxOf_box (xs : List V) : boxOf (.box xs) = xs := _root_.id rfl
theorem fr_b (i off len q : Nat) : frz o (n + 1) (.bsl i off len q) = frb off len i q (o i) (seqM (frz o n) (boxOf (o i))) := by
  show (match o i with
      | .box cs => (seqM (frz o n) cs).bind fun (r : List V × List (Nat × AObj)) => (cut off (len * q) r.1).map fun c => ((.sl q (chunks q len c), (i, .fbox r.1) :: r.2) : V × List (Nat × AObj))
      | .fbox cs => (cut off (len * q) cs).map fun c => (.sl q (chunks q len c), [])
      | _ => none) = _
  cases o i <;> rfl
theorem frb_b8 (off len i : Nat) (ws : List UInt8) (h : off + len ≤ ws.length) : frb off len i 1 (.box (ws.map b8)) (some (ws.map b8, [])) = some (.sl 1 (bytesV ((ws.drop off).take len)), [(i, .fbox (ws.map b8))]) := by
  simp only [frb, Option.bind_some, Nat.mul_one, cut_map b8 ws off len h, Option.map_some]
  rw [chunks_b8 _ _ (by simp; omega)]
theorem frb_b8f (off len i : Nat) (ws : List UInt8) (r : Option (List V × List (Nat × AObj))) (h : off + len ≤ ws.length) : frb off len i 1 (.fbox (ws.map b8)) r = some (.sl 1 (bytesV ((ws.drop off).take len)), []) := by
  simp only [frb, Nat.mul_one, cut_map b8 ws off len h, Option.map_some]
  rw [chunks_b8 _ _ (by simp; omega)]
theorem sq_b8 (ws : List UInt8) : seqM (frz o (n + 1)) (ws.map b8) = some (ws.map b8, []) :=
  seqM_same fun v hv => frz_stand (by obtain ⟨n, _, rfl⟩ := List.mem_map.1 hv; rfl)
theorem sq_n32 (ws : List Nat) : seqM (frz o (n + 1)) (ws.map n32) = some (ws.map n32, []) :=
  seqM_same fun v hv => frz_stand (by obtain ⟨n, _, rfl⟩ := List.mem_map.1 hv; rfl)
def frp (i off : Nat) (x : AObj) (r : Option (List V × List (Nat × AObj))) : Option (V × List (Nat × AObj)) := match x with
  | .box cs => r.map fun r => (.imp r.1 off, (i, .fbox r.1) :: r.2)
  | .fbox cs => some (.imp cs off, [])
  | _ => none
theorem fr_p (i off : Nat) : frz o (n + 1) (.ptr i off) = frp i off (o i) (seqM (frz o n) (boxOf (o i))) := by
  show (match o i with
      | .box cs => (seqM (frz o n) cs).map fun (r : List V × List (Nat × AObj)) => ((.imp r.1 off, (i, .fbox r.1) :: r.2) : V × List (Nat × AObj))
      | .fbox cs => some (.imp cs off, [])
      | _ => none) = _
  cases o i <;> rfl
theorem frp_box (i off : Nat) (cs ds : List V) (u : List (Nat × AObj)) : frp i off (.box cs) (some (ds, u)) = some (.imp ds off, (i, .fbox ds) :: u) := _root_.id rfl
theorem frp_fbox (i off : Nat) (cs : List V) (r : Option (List V × List (Nat × AObj))) : frp i off (.fbox cs) r = some (.imp cs off, []) := _root_.id rfl

def lkv (n i : Nat) (o : Hp) (x : AObj) : List Nat := i :: (match x with | .vec _ xs => xs.flatMap fun l => l.flatMap (looks o n) | _ => [])
theorem lk_v (i st len : Nat) : looks o (n + 1) (.vsl i st len) = lkv n i o (o i) := _root_.id rfl
theorem lkv_bytes (i : Nat) (s : List UInt8) : lkv n i o (.vec 1 (bytesV s)) = [i] := by
  have : (bytesV s).flatMap (fun l => l.flatMap (looks o n)) = [] := by
    rw [List.flatMap_eq_nil_iff]
    intro l hl
    exact flat_looks n l (bytes_stand s l hl)
  simp only [lkv, this]
theorem lkv_stand (i q : Nat) (xs : List (List V)) (h : ∀ l ∈ xs, ∀ v ∈ l, stand v = true) : lkv n i o (.vec q xs) = [i] := by
  have : xs.flatMap (fun l => l.flatMap (looks o n)) = [] := by
    rw [List.flatMap_eq_nil_iff]
    intro l hl
    exact flat_looks n l (h l hl)
  simp only [lkv, this]
theorem lkv_fvec (i q : Nat) (xs : List (List V)) : lkv n i o (.fvec q xs) = [i] := _root_.id rfl
def lkb (n i : Nat) (o : Hp) (x : AObj) : List Nat := i :: (match x with | .box cs => cs.flatMap (looks o n) | _ => [])
theorem lk_b (i off len q : Nat) : looks o (n + 1) (.bsl i off len q) = lkb n i o (o i) := _root_.id rfl
theorem lk_p (i off : Nat) : looks o (n + 1) (.ptr i off) = lkb n i o (o i) := _root_.id rfl
theorem lkb_box (i : Nat) (cs : List V) : lkb n i o (.box cs) = i :: cs.flatMap (looks o n) := _root_.id rfl
theorem lkb_fbox (i : Nat) (cs : List V) : lkb n i o (.fbox cs) = [i] := _root_.id rfl
theorem fm_b8 (ws : List UInt8) : (ws.map b8).flatMap (looks o n) = [] := flat_looks n _ fun v hv => by obtain ⟨n, _, rfl⟩ := List.mem_map.1 hv; rfl
theorem fm_n32 (ws : List Nat) : (ws.map n32).flatMap (looks o n) = [] := flat_looks n _ fun v hv => by obtain ⟨n, _, rfl⟩ := List.mem_map.1 hv; rfl

/-! ### Results -/
def rsv (o : Hp) (N i len : Nat) (x : AObj) : Option (V × List (Nat × AObj)) := match x with
  | .vec e xs => if N ≤ i then
        if len ≤ xs.length then (seqM (seqM (frz o deep)) (xs.take len)).bind fun r => if (r.2.map (·.1)).contains i then none else some (.own e r.1, r.2 ++ [(i, .vec e r.1)])
        else none
      else frz o deep (.vsl i 0 len)
  | _ => frz o deep (.vsl i 0 len)
theorem result_v (N i len : Nat) : result o N (.vsl i 0 len) = rsv o N i len (o i) := _root_.id rfl
theorem rsv_bytes (N i len : Nat) (s : List UInt8) (hN : N ≤ i) (hl : len = s.length) : rsv o N i len (.vec 1 (bytesV s)) = some (.own 1 (bytesV s), [(i, .vec 1 (bytesV s))]) := by
  have hl' : len = (bytesV s).length := by rw [bytes_len]; exact hl
  subst hl'
  simp only [rsv, hN, if_true, Nat.le_refl, List.take_length]
  rw [show seqM (seqM (frz o deep)) (bytesV s) = some (bytesV s, []) from sq_bytes s]
  rfl
theorem rsv_stand (N i len q : Nat) (xs : List (List V)) (hN : N ≤ i) (hl : len = xs.length) (h : ∀ l ∈ xs, ∀ v ∈ l, stand v = true) : rsv o N i len (.vec q xs) = some (.own q xs, [(i, .vec q xs)]) := by
  subst hl
  simp only [rsv, hN, if_true, Nat.le_refl, List.take_length]
  rw [show seqM (seqM (frz o deep)) xs = some (xs, []) from sq_stand h]
  rfl

/-! ### make, copy -/
theorem vMake_ok (i esz eb : Nat) (z : List V) (p q : IntKind) (x y : Int) (h : 0 ≤ x) (h' : x ≤ y) (hr : y.toNat * eb ≤ 17592186044416) :
    vMake i esz eb z (.int p x) (.int q y) = some ⟨.vsl i 0 x.toNat, [(i, .vec esz (List.replicate x.toNat z))], []⟩ := by
  simp only [vMake, asN_int p x h, asN_int q y (by omega), Option.bind_some]
  rw [if_pos ⟨by omega, room_ok _ _ hr⟩]
def cpR (i off len : Nat) (x : AObj) (r : Option (List (List V) × List Nat)) : Option Act := r.bind fun r => if !r.2.contains i then (match x with
      | .box cs => (splice off (r.1.take len).flatten cs).map fun c => ⟨.int .i64 (min r.1.length len : Nat), [(i, .box c)], r.2⟩
      | _ => none) else none
theorem vCopy_bsl (q i off len : Nat) (s : V) : vCopy o q (.bsl i off len q) s = cpR i off len (o i) (elemsOf o q s) := by
  unfold vCopy cpR
  cases elemsOf o q s with
  | none => rfl
  | some r =>
    simp only [Option.bind_some, true_and]
    cases o i <;> rfl
def cpc (i len : Nat) (rd : List Nat) (c : Option (List V)) : Option Act := c.map fun c => ⟨.int .i64 (len : Int), [(i, .box c)], rd⟩
theorem flat_bytes (s : List UInt8) : (bytesV s).flatten = s.map b8 := by
  induction s with
  | nil => rfl
  | cons a s ih => simp only [bytesV, List.map_cons, List.flatten_cons] at *; rw [ih]; rfl
theorem cpR_bytes (i off len : Nat) (cs : List V) (s : List UInt8) (rd : List Nat) (h : rd.contains i = false) :
    cpR i off len (.box cs) (some (bytesV s, rd)) = cpc i (min s.length len) rd (splice off ((s.take len).map b8) cs) := by
  simp only [cpR, Option.bind_some, h, Bool.not_false, if_true, bytes_take, flat_bytes, bytes_len, cpc]
theorem cpR_bytes0 (i off len : Nat) (cs : List V) (s : List UInt8) : cpR i off len (.box cs) (some (bytesV s, [])) = cpc i (min s.length len) [] (splice off ((s.take len).map b8) cs) := cpR_bytes i off len cs s [] rfl
theorem cpc_some (i len : Nat) (rd : List Nat) (c : List V) : cpc i len rd (some c) = some ⟨.int .i64 (len : Int), [(i, .box c)], rd⟩ := _root_.id rfl
/-- A piece of a list is written over. -/
def putL {α : Type} (off : Nat) (new ws : List α) : List α := ws.take off ++ (new ++ ws.drop (off + new.length))
theorem splice_map {α : Type} (f : α → V) (off : Nat) (new ws : List α) (h : off + new.length ≤ ws.length) : splice off (new.map f) (ws.map f) = some ((putL off new ws).map f) := by
  unfold splice putL
  rw [if_pos (by simpa using h)]
  simp
theorem putL_len {α : Type} (off : Nat) (new ws : List α) (h : off + new.length ≤ ws.length) : (putL off new ws).length = ws.length := by
  unfold putL; simp; omega
end
end Go.Proofs.YtoccgkgdhobmfaaDoor.Am.Ru

/- The abstract machine, part 37: rows that begin as nothing and grow. -/
set_option linter.unusedVariables false
set_option linter.unusedSimpArgs false
namespace Go.Proofs.YtoccgkgdhobmfaaDoor.Am.Ru
open Go
theorem bytes_snocN (s : List UInt8) (x : Nat) (h : x < 256) : bytesV s ++ [[.int .u8 (x : Int)]] = bytesV (s ++ [UInt8.ofNat x]) := by
  have := bytes_snoc s (x : Int) (by omega) (by omega)
  rwa [Int.toNat_natCast] at this
theorem b_sub8 (a b : Nat) (h : b ≤ a) (ha : a < 256) : binV .sub (.int .u8 (a : Int)) (.int .u8 (b : Int)) = some (.int .u8 ((a - b : Nat) : Int)) := by
  simp only [binV, binI, if_true, IntKind.wrap_u8]; congr 2; omega
theorem toNat_ofNat8 (x : Nat) (h : x < 256) : (UInt8.ofNat x).toNat = x := UInt8.toNat_ofNat_of_lt' h
theorem cvs_one (x : Nat) (rd : List Nat) (h : x < 256) : cvs (some ([[.int .u8 (x : Int)]], rd)) = some ⟨.str [UInt8.ofNat x], [], rd⟩ := by
  rw [show ([[V.int .u8 (x : Int)]] : List (List V)) = bytesV [UInt8.ofNat x] from bytes_snocN [] x h, cvs_some]
/-- A list of strings. -/
def strsV (l : List (List UInt8)) : List (List V) := l.map fun s => [.str s]
theorem strs_len (l : List (List UInt8)) : (strsV l).length = l.length := by simp [strsV]
theorem strs_get (l : List (List UInt8)) (j : Nat) (h : j < l.length) : (strsV l)[j]? = some [.str (l.getD j [])] := by
  simp [strsV, h, List.getD]
theorem strs_cut (l : List (List UInt8)) (lo n : Nat) : ((strsV l).drop lo).take n = strsV ((l.drop lo).take n) := by simp only [strsV, List.map_drop, List.map_take]
theorem ofNat_toNat8 (x : UInt8) : UInt8.ofNat x.toNat = x := by simp
/-- A row stands where it is said to stand. -/
def RowOK (o : Hp) (esz j : Nat) (xs : List (List V)) : Prop := xs = [] ∨ o j = .vec esz xs
def rowU (esz j id : Nat) (xs ys : List (List V)) : List (Nat × AObj) := if xs = [] then (if ys = [] then [] else [(id, .vec esz ys)]) else [(j, .dead), (id, .vec esz (xs ++ ys))]
def rowP (o : Hp) (esz j id : Nat) (xs ys : List (List V)) : Hp := hputs o (rowU esz j id xs ys)
def rowR (j : Nat) (xs : List (List V)) : List Nat := if xs = [] then [] else [j]
section
variable {o : Hp}
theorem rowV_nil (esz j : Nat) : rowV esz j [] = .nils esz := _root_.id rfl
theorem rowV_ne (esz j : Nat) {xs : List (List V)} (h : xs ≠ []) : rowV esz j xs = .vsl j 0 xs.length := by unfold rowV; rw [if_neg h]
theorem rowOK_nil (esz j : Nat) : RowOK o esz j [] := .inl rfl
theorem rowOK_get {esz j : Nat} {xs : List (List V)} (h : RowOK o esz j xs) (hx : xs ≠ []) : o j = .vec esz xs := h.resolve_left hx
theorem rowP_fold (esz j id : Nat) (xs ys : List (List V)) : hputs o (rowU esz j id xs ys) = rowP o esz j id xs ys := _root_.id rfl
theorem rowP_ok (esz j id : Nat) (xs ys : List (List V)) : RowOK (rowP o esz j id xs ys) esz id (xs ++ ys) := by
  unfold RowOK rowP rowU
  by_cases hx : xs = []
  · subst hx
    by_cases hy : ys = []
    · subst hy; exact .inl rfl
    · right; rw [if_pos rfl, if_neg hy]; simp [hputs, hput]
  · right; rw [if_neg hx]; simp [hputs, hput]
theorem rowP_ne (esz j id k : Nat) (xs ys : List (List V)) (h : k ≠ j) (h' : k ≠ id) : rowP o esz j id xs ys k = o k := by
  unfold rowP rowU
  split
  · split
    · rfl
    · simp [hputs, hput, h']
  · simp [hputs, hput, h, h']
theorem rowOK_put {esz j i : Nat} {x : AObj} {xs : List (List V)} (h : RowOK o esz j xs) (hi : j ≠ i) : RowOK (hput o i x) esz j xs := by
  rcases h with h | h
  · exact .inl h
  · right; rw [hput_ne _ _ _ _ hi]; exact h
theorem rap (id esz eb j : Nat) (xs ys : List (List V)) (h : RowOK o esz j xs) (hr : (xs.length + ys.length) * eb ≤ 17592186044416) :
    apE o id esz eb (rowV esz j xs) (some (ys, [])) = some ⟨rowV esz id (xs ++ ys), rowU esz j id xs ys, []⟩ := by
  by_cases hx : xs = []
  · subst hx
    by_cases hy : ys = []
    · subst hy; rw [rowV_nil, ap_nils0]; rfl
    · obtain ⟨y, ys', rfl⟩ : ∃ y ys', ys = y :: ys' := by cases ys with | nil => exact absurd rfl hy | cons a b => exact ⟨a, b, rfl⟩
      rw [rowV_nil, ap_nils _ _ _ _ _ _ (by simpa using hr)]
      simp [rowU, rowV]
  · have ho := rowOK_get h hx
    rw [rowV_ne _ _ hx, ap_v, ho, apv_vec0 _ _ _ _ _ _ _ rfl hr]
    have hxy : xs ++ ys ≠ [] := by simp [hx]
    rw [rowV_ne _ _ hxy, List.length_append]
    unfold rowU
    rw [if_neg hx]
theorem rap1 (id esz eb j i : Nat) (xs ys : List (List V)) (h : RowOK o esz j xs) (hi : j ≠ i) (hr : (xs.length + ys.length) * eb ≤ 17592186044416) :
    apE o id esz eb (rowV esz j xs) (some (ys, [i])) = some ⟨rowV esz id (xs ++ ys), rowU esz j id xs ys, [i]⟩ := by
  by_cases hx : xs = []
  · subst hx
    by_cases hy : ys = []
    · subst hy; rw [rowV_nil, ap_nils0]; rfl
    · obtain ⟨y, ys', rfl⟩ : ∃ y ys', ys = y :: ys' := by cases ys with | nil => exact absurd rfl hy | cons a b => exact ⟨a, b, rfl⟩
      rw [rowV_nil, ap_nils _ _ _ _ _ _ (by simpa using hr)]
      simp [rowU, rowV]
  · have ho := rowOK_get h hx
    rw [rowV_ne _ _ hx, ap_v, ho, apv_vec1 _ _ _ _ _ _ _ _ rfl hi hr]
    have hxy : xs ++ ys ≠ [] := by simp [hx]
    rw [rowV_ne _ _ hxy, List.length_append]
    unfold rowU
    rw [if_neg hx]
def cvS (i st len : Nat) (x : AObj) : Option Act := match x with
      | .vec s xs => if 0 < len then some ⟨.vsl i st len, [(i, .vec s xs)], []⟩ else none
      | _ => none
theorem vConvSl_def (i st len : Nat) : vConvSl o (.vsl i st len) = cvS i st len (o i) := _root_.id rfl
theorem cvS_vec (i st len q : Nat) (xs : List (List V)) (h : 0 < len) : cvS i st len (.vec q xs) = some ⟨.vsl i st len, [(i, .vec q xs)], []⟩ := by
  simp only [cvS]; rw [if_pos h]
theorem vLen_row (esz j : Nat) (xs : List (List V)) : vLen (rowV esz j xs) = ok (.int .i64 xs.length) := by
  unfold rowV; split
  · rename_i h; subst h; rfl
  · rfl
theorem lenOf_row (esz j : Nat) (xs : List (List V)) : lenOf (rowV esz j xs) = some xs.length := by
  unfold rowV; split
  · rename_i h; subst h; rfl
  · rfl
theorem elems_row (esz j : Nat) (xs : List (List V)) (h : RowOK o esz j xs) : elemsOf o esz (rowV esz j xs) = some (xs, rowR j xs) := by
  by_cases hx : xs = []
  · subst hx; rw [rowV_nil, elems_nils]; rfl
  · rw [rowV_ne _ _ hx, el_vsl, rowOK_get h hx, elv_vec _ _ _ _ _ (by omega), List.drop_zero, List.take_length]
    unfold rowR; rw [if_neg hx]
theorem vConvStr_row (j : Nat) (xs : List (List V)) : vConvStr o (rowV 1 j xs) = cvs (elemsOf o 1 (rowV 1 j xs)) := by
  unfold rowV; split <;> rfl
theorem ix_row (esz j : Nat) (xs : List (List V)) (p : IntKind) (x : Int) (h : 0 ≤ x) (h' : x.toNat < xs.length) (ho : RowOK o esz j xs) : vIndexAddrL o esz (rowV esz j xs) (.int p x) = some ⟨.ept j x.toNat 0, [], [j]⟩ := by
  have hx : xs ≠ [] := by intro h; subst h; simp at h'
  rw [rowV_ne _ _ hx, ix_vsl _ _ _ _ _ _ h, rowOK_get ho hx, ixv_vec _ _ _ _ _ _ h', Nat.zero_add]
theorem ownV_ne (n : Nat) {xs : List (List V)} (h : xs ≠ []) : ownV n xs = .own n xs := by unfold ownV; rw [if_neg h]
theorem ownV_nil (n : Nat) : ownV n [] = .sl n [] := _root_.id rfl
theorem finR_row {N esz j : Nat} {xs : List (List V)} (h : RowOK o esz j xs) (hN : N ≤ j) (hs : ∀ l ∈ xs, ∀ v ∈ l, stand v = true) : finR (result o N (rowV esz j xs)) = some (ownV esz xs) := by
  by_cases hx : xs = []
  · subst hx; rfl
  · rw [rowV_ne _ _ hx, result_v, rowOK_get h hx, rsv_stand _ _ _ _ _ hN rfl hs, ownV_ne _ hx]; rfl
theorem finR_rowb {N j : Nat} {s : List UInt8} (h : RowOK o 1 j (bytesV s)) (hN : N ≤ j) : finR (result o N (rowV 1 j (bytesV s))) = some (ownV 1 (bytesV s)) := finR_row h hN (bytes_stand s)
theorem fr_row {n esz j : Nat} {xs : List (List V)} (h : RowOK o esz j xs) (hs : ∀ l ∈ xs, ∀ v ∈ l, stand v = true) : frz o (n + 2) (rowV esz j xs) = some (.sl esz xs, if xs = [] then [] else [(j, .fvec esz xs)]) := by
  by_cases hx : xs = []
  · subst hx; rfl
  · rw [rowV_ne _ _ hx, fr_v, rowOK_get h hx, vecOf_vec, sq_stand hs, frv_vec _ _ _ _ _ (by omega), List.drop_zero, List.take_length, if_neg hx]
theorem fr_rowb {n j : Nat} {s : List UInt8} (h : RowOK o 1 j (bytesV s)) : frz o (n + 2) (rowV 1 j (bytesV s)) = some (.sl 1 (bytesV s), if bytesV s = [] then [] else [(j, .fvec 1 (bytesV s))]) := fr_row h (bytes_stand s)
theorem scalar_ownV (n : Nat) (xs : List (List V)) : scalar (ownV n xs) = xs.isEmpty := by
  unfold ownV; split
  · rename_i h; subst h; rfl
  · rename_i h; cases xs with
    | nil => exact absurd rfl h
    | cons a b => rfl
end
end Go.Proofs.YtoccgkgdhobmfaaDoor.Am.Ru

/- The rules of the runner, bundled. -/
set_option maxRecDepth 100000
namespace Go.Proofs.YtoccgkgdhobmfaaDoor.Am.Ru
open Go
theorem rsd : (type_of% @go_skip) ∧ (type_of% @go_exit) ∧ (type_of% @go_ret) ∧ (type_of% @go_scope) ∧ (type_of% @go_seq) ∧ (type_of% @go_block) ∧ (type_of% @go_region) ∧ (type_of% @back_seq) ∧ (type_of% @back_seq_exit) ∧ (type_of% @back_seq_ret) ∧ (type_of% @back_block) ∧ (type_of% @back_block_exit) ∧ (type_of% @back_block_ret) ∧ (type_of% @op_nil) ∧ (type_of% @op_mov) ∧ (type_of% @op_pick) ∧ (type_of% @op_alloc) ∧ (type_of% @op_box) ∧ (type_of% @op_build) ∧ (type_of% @op_lit) ∧ (type_of% @op_ilit) ∧ (type_of% @op_load) ∧ (type_of% @op_store) ∧ (type_of% @op_nilCheck) ∧ (type_of% @op_bin) ∧ (type_of% @op_eqv) ∧ (type_of% @op_eqb) ∧ (type_of% @op_eqp) ∧ (type_of% @op_un) ∧ (type_of% @op_convInt) ∧ (type_of% @op_convStr) ∧ (type_of% @op_convBytes) ∧ (type_of% @op_convSl) ∧ (type_of% @op_arrPtr) ∧ (type_of% @op_mkIface) ∧ (type_of% @op_mkFn) ∧ (type_of% @op_sliceS) ∧ (type_of% @op_sliceL) ∧ (type_of% @op_sliceA) ∧ (type_of% @op_fieldAddr) ∧ (type_of% @op_field) ∧ (type_of% @op_indexAddrA) ∧ (type_of% @op_indexAddrL) ∧ (type_of% @op_indexS) ∧ (type_of% @op_indexA) ∧ (type_of% @op_append) ∧ (type_of% @op_copy) ∧ (type_of% @op_len) ∧ (type_of% @op_lenS) ∧ (type_of% @op_lenA) ∧ (type_of% @op_cap0) ∧ (type_of% @op_mmax) ∧ (type_of% @op_mmin) ∧ (type_of% @op_make) ∧ (type_of% @op_extract) ∧ (type_of% @op_call) ∧ (type_of% @go_free) ∧ (type_of% @go_draw) ∧ (type_of% @go_cond) ∧ (type_of% @op_guard) ∧ (type_of% @op_nil_free) ∧ (type_of% @op_nil_draw) ∧ (type_of% @back_nil_normal) ∧ (type_of% @back_nil_exit) ∧ (type_of% @back_nil_ret) ∧ (type_of% @back_panic) ∧ (type_of% @psh_plain) := ⟨@go_skip, @go_exit, @go_ret, @go_scope, @go_seq, @go_block, @go_region, @back_seq, @back_seq_exit, @back_seq_ret, @back_block, @back_block_exit, @back_block_ret, @op_nil, @op_mov, @op_pick, @op_alloc, @op_box, @op_build, @op_lit, @op_ilit, @op_load, @op_store, @op_nilCheck, @op_bin, @op_eqv, @op_eqb, @op_eqp, @op_un, @op_convInt, @op_convStr, @op_convBytes, @op_convSl, @op_arrPtr, @op_mkIface, @op_mkFn, @op_sliceS, @op_sliceL, @op_sliceA, @op_fieldAddr, @op_field, @op_indexAddrA, @op_indexAddrL, @op_indexS, @op_indexA, @op_append, @op_copy, @op_len, @op_lenS, @op_lenA, @op_cap0, @op_mmax, @op_mmin, @op_make, @op_extract, @op_call, @go_free, @go_draw, @go_cond, @op_guard, @op_nil_free, @op_nil_draw, @back_nil_normal, @back_nil_exit, @back_nil_ret, @back_panic, @psh_plain⟩
theorem rsu : (type_of% @br_true) ∧ (type_of% @br_false) ∧ (type_of% @lpost_normal) ∧ (type_of% @lpost_exit) ∧ (type_of% @lpost_ret) ∧ (type_of% @lpost_panic) ∧ (type_of% @on_some) ∧ (type_of% @on_ok) ∧ (type_of% @on_okV) ∧ (type_of% @cl_fn) ∧ (type_of% @clf_some) ∧ (type_of% @clv_ret) ∧ (type_of% @clv_panic) ∧ (type_of% @clr_true) ∧ (type_of% @clr_false) ∧ (type_of% @fin_ret) ∧ (type_of% @fin_normal) ∧ (type_of% @fin_panic) ∧ (type_of% @finR_some) ∧ (type_of% @finV_some) ∧ (type_of% @pan_panic) ∧ (type_of% @eput_ap) ∧ (type_of% @eputO_some) ∧ (type_of% @eputO_none) ∧ (type_of% @hput_ap) ∧ (type_of% @hputs_nil) ∧ (type_of% @hputs_cons) ∧ (type_of% @evA_tmp) ∧ (type_of% @evA_const) ∧ (type_of% @evA_fn) ∧ (type_of% @evA_glob) ∧ (type_of% @gv_some) ∧ (type_of% @initEnv_ap) ∧ (type_of% @vPick_true) ∧ (type_of% @vPick_false) ∧ (type_of% @vPick_bool) ∧ (type_of% @vBox_int) ∧ (type_of% @fill1_int) ∧ (type_of% @fillE_int) ∧ (type_of% @vStore_int) ∧ (type_of% @vBox_bool) ∧ (type_of% @fill1_bool) ∧ (type_of% @fillE_bool) ∧ (type_of% @vStore_bool) ∧ (type_of% @vBox_str) ∧ (type_of% @fill1_str) ∧ (type_of% @fillE_str) ∧ (type_of% @vStore_str) ∧ (type_of% @vBox_nilp) ∧ (type_of% @fill1_nilp) ∧ (type_of% @fillE_nilp) ∧ (type_of% @vStore_nilp) ∧ (type_of% @vBox_nils) ∧ (type_of% @fill1_nils) ∧ (type_of% @fillE_nils) ∧ (type_of% @vStore_nils) ∧ (type_of% @vBox_nilf) ∧ (type_of% @fill1_nilf) ∧ (type_of% @fillE_nilf) ∧ (type_of% @vStore_nilf) ∧ (type_of% @vBox_nili) ∧ (type_of% @fill1_nili) ∧ (type_of% @fillE_nili) ∧ (type_of% @vStore_nili) ∧ (type_of% @vBox_ptr) ∧ (type_of% @fill1_ptr) ∧ (type_of% @fillE_ptr) ∧ (type_of% @vBox_ept) ∧ (type_of% @fill1_ept) ∧ (type_of% @fillE_ept) ∧ (type_of% @vStore_ept) ∧ (type_of% @vBox_imp) ∧ (type_of% @fill1_imp) ∧ (type_of% @fillE_imp) ∧ (type_of% @vStore_imp) ∧ (type_of% @vBox_sl) ∧ (type_of% @fill1_sl) ∧ (type_of% @fillE_sl) ∧ (type_of% @vStore_sl) ∧ (type_of% @vBox_vsl) ∧ (type_of% @fill1_vsl) ∧ (type_of% @fillE_vsl) ∧ (type_of% @vStore_vsl) ∧ (type_of% @vBox_bsl) ∧ (type_of% @fill1_bsl) ∧ (type_of% @fillE_bsl) ∧ (type_of% @vStore_bsl) ∧ (type_of% @vBox_fn) ∧ (type_of% @fill1_fn) ∧ (type_of% @fillE_fn) ∧ (type_of% @vStore_fn) ∧ (type_of% @vBox_iface) ∧ (type_of% @fill1_iface) ∧ (type_of% @fillE_iface) ∧ (type_of% @vStore_iface) ∧ (type_of% @vStore_ptr) ∧ (type_of% @looksA_nil) ∧ (type_of% @looksA_cons) ∧ (type_of% @cp_nil) ∧ (type_of% @cp_cons) ∧ (type_of% @fa_def) ∧ (type_of% @apart_nil) ∧ (type_of% @apart_cons) ∧ (type_of% @cont_nil) ∧ (type_of% @cont_cons) ∧ (type_of% @rev_nil) ∧ (type_of% @rev_cons) ∧ (type_of% @vBox_agg) ∧ (type_of% @vBuild_some) ∧ (type_of% @fp_nil) ∧ (type_of% @fp_cons) ∧ (type_of% @fpR_some) ∧ (type_of% @fill1_agg) ∧ (type_of% @fe_nil) ∧ (type_of% @fe_cons) ∧ (type_of% @feR_some) ∧ (type_of% @fillE_agg) ∧ (type_of% @vLit_some) ∧ (type_of% @cut_zero) ∧ (type_of% @cut_cons) ∧ (type_of% @cut_succ) ∧ (type_of% @splice_nil) ∧ (type_of% @splice_cons) ∧ (type_of% @splice_succ) ∧ (type_of% @vLoad_ptr) ∧ (type_of% @ld_box) ∧ (type_of% @ld_fbox) ∧ (type_of% @vLoad_imp) ∧ (type_of% @vLoad_ept) ∧ (type_of% @ldv_vec) ∧ (type_of% @ldv_fvec) ∧ (type_of% @lde_some) ∧ (type_of% @ldc_one) ∧ (type_of% @ldc_agg) ∧ (type_of% @vStore_agg) ∧ (type_of% @sto_ptr) ∧ (type_of% @stb_box) ∧ (type_of% @stc_some) ∧ (type_of% @sto_ept) ∧ (type_of% @stv_vec) ∧ (type_of% @stw_some) ∧ (type_of% @stx_some) ∧ (type_of% @vNil_ptr) ∧ (type_of% @vNil_ept) ∧ (type_of% @vNil_imp) ∧ (type_of% @vNil_fn) ∧ (type_of% @negb_f) ∧ (type_of% @negb_t) ∧ (type_of% @vEqv_agg) ∧ (type_of% @eqR_some) ∧ (type_of% @eqCells_nil) ∧ (type_of% @eqCells_cons) ∧ (type_of% @eqK_bool) ∧ (type_of% @eqK_int) ∧ (type_of% @eqK_str) ∧ (type_of% @vEqb_f) ∧ (type_of% @vEqb_t) ∧ (type_of% @eqP_nn) ∧ (type_of% @eqP_np) ∧ (type_of% @eqP_pn) ∧ (type_of% @eqP_ni) ∧ (type_of% @eqP_in) ∧ (type_of% @vConvInt_int) ∧ (type_of% @cvs_some) ∧ (type_of% @vConvStr_sl) ∧ (type_of% @vConvStr_nils) ∧ (type_of% @vConvStr_vsl) ∧ (type_of% @vConvStr_bsl) ∧ (type_of% @vConvBytes_str) ∧ (type_of% @optV_none) ∧ (type_of% @optV_some) ∧ (type_of% @asN_int) ∧ (type_of% @vSliceS_none) ∧ (type_of% @vSliceS_lo) ∧ (type_of% @vSliceS_hi) ∧ (type_of% @vSliceS_both) ∧ (type_of% @vSliceL_def) ∧ (type_of% @slR_lo) ∧ (type_of% @slR_hi) ∧ (type_of% @slR_none) ∧ (type_of% @slR_both) ∧ (type_of% @sliceElems_sl) ∧ (type_of% @sliceElems_bsl) ∧ (type_of% @vSliceA_ptr) ∧ (type_of% @slA_some) ∧ (type_of% @bytes_cut) ∧ (type_of% @bytes_drop) ∧ (type_of% @bytes_take) ∧ (type_of% @bytes_app) ∧ (type_of% @bytes_len) ∧ (type_of% @vFieldAddr_ptr) ∧ (type_of% @vFieldAddr_ept) ∧ (type_of% @vFieldAddr_imp) ∧ (type_of% @vField_agg) ∧ (type_of% @aggR_one) ∧ (type_of% @aggR_agg) ∧ (type_of% @vIndexAddrA_ptr) ∧ (type_of% @vIndexAddrA_imp) ∧ (type_of% @ixs_some) ∧ (type_of% @vIndexAddrL_sl) ∧ (type_of% @vIndexAddrL_bsl) ∧ (type_of% @vIndexS_str) ∧ (type_of% @vLen_sl) ∧ (type_of% @vLen_vsl) ∧ (type_of% @vLen_nils) ∧ (type_of% @vLen_bsl) ∧ (type_of% @vLenS_str) ∧ (type_of% @lenOf_sl) ∧ (type_of% @lenOf_vsl) ∧ (type_of% @lenOf_nils) ∧ (type_of% @lenOf_bsl) ∧ (type_of% @vExtract_tup) ∧ (type_of% @vCap0_nils) ∧ (type_of% @vMax2) ∧ (type_of% @vMin2) ∧ (type_of% @vAppend_def) ∧ (type_of% @elems_nils) ∧ (type_of% @elems_sl) ∧ (type_of% @elems_str) ∧ (type_of% @ap_nils) ∧ (type_of% @hrd_nil) ∧ (type_of% @fz_nil) ∧ (type_of% @fz_cons) ∧ (type_of% @fzR_some) ∧ (type_of% @thaw_int) ∧ (type_of% @thaw_bool) ∧ (type_of% @thaw_str) ∧ (type_of% @thaw_agg) ∧ (type_of% @thaw_tup) ∧ (type_of% @thaw_sl) ∧ (type_of% @thaw_fn) ∧ (type_of% @thaw_imp) ∧ (type_of% @thaw_own_none) ∧ (type_of% @thaw_own_some) ∧ (type_of% @thaw_ownV) ∧ (type_of% @scalar_int) ∧ (type_of% @scalar_bool) ∧ (type_of% @scalar_str) ∧ (type_of% @scalar_own) ∧ (type_of% @resAll_nil) ∧ (type_of% @resC_some) ∧ (type_of% @resAll_cons) ∧ (type_of% @resOf_tmp) ∧ (type_of% @resOf_cell) ∧ (type_of% @rcl_some) ∧ (type_of% @resV_one) ∧ (type_of% @resV_nil) ∧ (type_of% @resV_two) ∧ (type_of% @result_int) ∧ (type_of% @result_bool) ∧ (type_of% @result_str) ∧ (type_of% @result_sl) ∧ (type_of% @result_nils) ∧ (type_of% @result_agg) ∧ (type_of% @result_tup) ∧ (type_of% @result_fn) ∧ (type_of% @result_imp) ∧ (type_of% @result_bsl) ∧ (type_of% @decide_true) ∧ (type_of% @decide_false) ∧ (type_of% @Bool.and_true) ∧ (type_of% @Bool.true_and) ∧ (type_of% @Bool.not_false) ∧ (type_of% @Bool.or_false) ∧ (type_of% @Bool.false_or) ∧ (type_of% @Bool.false_and) ∧ (type_of% @Bool.and_false) ∧ (type_of% @Bool.not_true) ∧ (type_of% @Bool.false_eq_true) ∧ (type_of% @Nat.zero_add) ∧ (type_of% @Nat.add_zero) ∧ (type_of% @Nat.mul_one) ∧ (type_of% @Nat.one_mul) ∧ (type_of% @Nat.zero_mul) ∧ (type_of% @Int.toNat_natCast) ∧ (type_of% @Int.toNat_zero) ∧ (type_of% @Int.toNat_one) ∧ (type_of% @ids_nil) ∧ (type_of% @ids_cons) ∧ (type_of% @add64) ∧ (type_of% @sub64) ∧ (type_of% @neg64) ∧ (type_of% @quo64) ∧ (type_of% @rem64) ∧ (type_of% @wrap_i64_ok) ∧ (type_of% @lss_t) ∧ (type_of% @lss_f) ∧ (type_of% @gtr_t) ∧ (type_of% @gtr_f) ∧ (type_of% @leq_t) ∧ (type_of% @leq_f) ∧ (type_of% @geq_t) ∧ (type_of% @geq_f) ∧ (type_of% @eql_t) ∧ (type_of% @eql_f) ∧ (type_of% @neq_t) ∧ (type_of% @neq_f) ∧ (type_of% @not_b) ∧ (type_of% @str_add) ∧ (type_of% @str_eql) ∧ (type_of% @str_neq) ∧ (type_of% @b_add32) ∧ (type_of% @b_or32) ∧ (type_of% @b_xor32) ∧ (type_of% @b_and32) ∧ (type_of% @u_not32) ∧ (type_of% @b_shl32) ∧ (type_of% @b_shr32) ∧ (type_of% @b_add8) ∧ (type_of% @b_or8) ∧ (type_of% @b_xor8) ∧ (type_of% @b_and8) ∧ (type_of% @u_not8) ∧ (type_of% @b_shr8) ∧ (type_of% @b_add64u) ∧ (type_of% @b_mul64u) ∧ (type_of% @b_or64u) ∧ (type_of% @b_xor64u) ∧ (type_of% @b_and64u) ∧ (type_of% @u_not64u) ∧ (type_of% @b_shl64u) ∧ (type_of% @b_shr64u) ∧ (type_of% @wrap_u8n) ∧ (type_of% @wrap_u32n) ∧ (type_of% @wrap_u64n) ∧ (type_of% @wrap_i64n) ∧ (type_of% @tn_add) ∧ (type_of% @tn_sub) ∧ (type_of% @tn_mul) ∧ (type_of% @tn_div) ∧ (type_of% @tn_mod) ∧ (type_of% @zl32) ∧ (type_of% @zl8) ∧ (type_of% @zl64) ∧ (type_of% @cut_n32) ∧ (type_of% @cut_b8) ∧ (type_of% @cut_i64) ∧ (type_of% @splice_n32) ∧ (type_of% @splice_b8) ∧ (type_of% @splice_i64) ∧ (type_of% @cut_alln) ∧ (type_of% @splice_alln) ∧ (type_of% @scalar_n32) ∧ (type_of% @scalar_b8) ∧ (type_of% @scalar_i64) ∧ (type_of% @bytes_get) ∧ (type_of% @true_and) ∧ (type_of% @and_true) ∧ (type_of% @and_self) ∧ (type_of% @mul64) ∧ (type_of% @upost_normal) ∧ (type_of% @upost_exit) ∧ (type_of% @upost_ret) ∧ (type_of% @upost_panic) ∧ (type_of% @n32_ap) ∧ (type_of% @b8_ap) ∧ (type_of% @i64_ap) ∧ (type_of% @vIndexA_n32) ∧ (type_of% @vIndexA_b8) ∧ (type_of% @vIndexA_i64) ∧ (type_of% @vArrPtr_bsl) ∧ (type_of% @deep_eq) ∧ (type_of% @fr_int) ∧ (type_of% @fr_bool) ∧ (type_of% @fr_str) ∧ (type_of% @fr_nilp) ∧ (type_of% @fr_nils) ∧ (type_of% @fr_nilf) ∧ (type_of% @fr_nili) ∧ (type_of% @fr_imp) ∧ (type_of% @fr_sl) ∧ (type_of% @lk_int) ∧ (type_of% @lk_bool) ∧ (type_of% @lk_str) ∧ (type_of% @lk_nilp) ∧ (type_of% @lk_nils) ∧ (type_of% @lk_nilf) ∧ (type_of% @lk_nili) ∧ (type_of% @lk_imp) ∧ (type_of% @lk_sl) ∧ (type_of% @sv_int) ∧ (type_of% @st_int) ∧ (type_of% @sv_bool) ∧ (type_of% @st_bool) ∧ (type_of% @sv_str) ∧ (type_of% @st_str) ∧ (type_of% @sv_nilp) ∧ (type_of% @st_nilp) ∧ (type_of% @sv_nils) ∧ (type_of% @st_nils) ∧ (type_of% @sv_nilf) ∧ (type_of% @st_nilf) ∧ (type_of% @sv_nili) ∧ (type_of% @st_nili) ∧ (type_of% @sv_sl) ∧ (type_of% @st_sl) ∧ (type_of% @sc_sl) ∧ (type_of% @sv_imp) ∧ (type_of% @st_imp) ∧ (type_of% @sc_imp) ∧ (type_of% @sc_agg) ∧ (type_of% @st_agg) ∧ (type_of% @sc_tup) ∧ (type_of% @sc_fn) ∧ (type_of% @st_n32) ∧ (type_of% @st_b8) ∧ (type_of% @st_i64) ∧ (type_of% @sqR_some) ∧ (type_of% @sq_nil) ∧ (type_of% @sq_cons) ∧ (type_of% @agR_some) ∧ (type_of% @tupR_some) ∧ (type_of% @fnR_some) ∧ (type_of% @fr_aggc) ∧ (type_of% @fr_aggn) ∧ (type_of% @fr_tup) ∧ (type_of% @fr_fn) ∧ (type_of% @fr_n32) ∧ (type_of% @fr_b8) ∧ (type_of% @fr_i64) ∧ (type_of% @lk_n32) ∧ (type_of% @lk_b8) ∧ (type_of% @lk_i64) ∧ (type_of% @lk_agg) ∧ (type_of% @lk_tup) ∧ (type_of% @lk_fn) ∧ (type_of% @Bool.and_self) ∧ (type_of% @splice_all) ∧ (type_of% @psh_free) ∧ (type_of% @psh_draw) ∧ (type_of% @panOut_plain) ∧ (type_of% @panOut_free) ∧ (type_of% @panOut_draw) ∧ (type_of% @on_ok1) ∧ (type_of% @on_okV1) ∧ (type_of% @e2_ap) ∧ (type_of% @eput_e2) ∧ (type_of% @jk_ap) ∧ (type_of% @opg_tt) ∧ (type_of% @opg_ff) ∧ (type_of% @opg_tf) ∧ (type_of% @opg_ft) ∧ (type_of% @el_vsl) ∧ (type_of% @elv_vec) ∧ (type_of% @elv_fvec) ∧ (type_of% @drop_all0) ∧ (type_of% @take_all) ∧ (type_of% @el_bsl) ∧ (type_of% @elb_b8) ∧ (type_of% @elb_b8f) ∧ (type_of% @sl_vsl) ∧ (type_of% @slv_vec) ∧ (type_of% @slv_fvec) ∧ (type_of% @sl_nils) ∧ (type_of% @ix_vsl) ∧ (type_of% @ixv_vec) ∧ (type_of% @ixv_fvec) ∧ (type_of% @ap_v) ∧ (type_of% @apv_vec0) ∧ (type_of% @apv_vec1) ∧ (type_of% @ap_nils0) ∧ (type_of% @bytes_snoc) ∧ (type_of% @vIlit_def) ∧ (type_of% @ilR_some) ∧ (type_of% @nlR_some) ∧ (type_of% @nrR_some) ∧ (type_of% @nll_nil) ∧ (type_of% @nll_cons) ∧ (type_of% @nl_nil) ∧ (type_of% @nl_cons) ∧ (type_of% @nr_nils) ∧ (type_of% @nr_int) ∧ (type_of% @nr_bool) ∧ (type_of% @nr_str) ∧ (type_of% @nr_nilp) ∧ (type_of% @nr_nilf) ∧ (type_of% @nr_nili) ∧ (type_of% @nr_imp) ∧ (type_of% @nr_sl) ∧ (type_of% @fr_v) ∧ (type_of% @vecOf_vec) ∧ (type_of% @frv_vec) ∧ (type_of% @frv_fvec) ∧ (type_of% @sq_bytes) ∧ (type_of% @sq_nilL) ∧ (type_of% @boxOf_box) ∧ (type_of% @fr_b) ∧ (type_of% @frb_b8) ∧ (type_of% @frb_b8f) ∧ (type_of% @sq_b8) ∧ (type_of% @sq_n32) ∧ (type_of% @fr_p) ∧ (type_of% @frp_box) ∧ (type_of% @frp_fbox) ∧ (type_of% @lk_v) ∧ (type_of% @lkv_bytes) ∧ (type_of% @lkv_fvec) ∧ (type_of% @lk_b) ∧ (type_of% @lk_p) ∧ (type_of% @lkb_box) ∧ (type_of% @lkb_fbox) ∧ (type_of% @fm_b8) ∧ (type_of% @fm_n32) ∧ (type_of% @result_v) ∧ (type_of% @rsv_bytes) ∧ (type_of% @vMake_ok) ∧ (type_of% @vCopy_bsl) ∧ (type_of% @cpR_bytes0) ∧ (type_of% @cpc_some) ∧ (type_of% @lit8) ∧ (type_of% @lit32) ∧ (type_of% @lit64) ∧ (type_of% @b_rem64u) ∧ (type_of% @b_quo64u) ∧ (type_of% @rowP_fold) ∧ (type_of% @rowP_ne) ∧ (type_of% @rap) ∧ (type_of% @rap1) ∧ (type_of% @vLen_row) ∧ (type_of% @lenOf_row) ∧ (type_of% @elems_row) ∧ (type_of% @vConvStr_row) ∧ (type_of% @ix_row) ∧ (type_of% @finR_rowb) ∧ (type_of% @fr_rowb) ∧ (type_of% @cvs_one) ∧ (type_of% @strs_len) ∧ (type_of% @strs_get) ∧ (type_of% @strs_cut) ∧ (type_of% @ofNat_toNat8) ∧ (type_of% @bytes_snocN) ∧ (type_of% @vConvSl_def) ∧ (type_of% @cvS_vec) := ⟨@br_true, @br_false, @lpost_normal, @lpost_exit, @lpost_ret, @lpost_panic, @on_some, @on_ok, @on_okV, @cl_fn, @clf_some, @clv_ret, @clv_panic, @clr_true, @clr_false, @fin_ret, @fin_normal, @fin_panic, @finR_some, @finV_some, @pan_panic, @eput_ap, @eputO_some, @eputO_none, @hput_ap, @hputs_nil, @hputs_cons, @evA_tmp, @evA_const, @evA_fn, @evA_glob, @gv_some, @initEnv_ap, @vPick_true, @vPick_false, @vPick_bool, @vBox_int, @fill1_int, @fillE_int, @vStore_int, @vBox_bool, @fill1_bool, @fillE_bool, @vStore_bool, @vBox_str, @fill1_str, @fillE_str, @vStore_str, @vBox_nilp, @fill1_nilp, @fillE_nilp, @vStore_nilp, @vBox_nils, @fill1_nils, @fillE_nils, @vStore_nils, @vBox_nilf, @fill1_nilf, @fillE_nilf, @vStore_nilf, @vBox_nili, @fill1_nili, @fillE_nili, @vStore_nili, @vBox_ptr, @fill1_ptr, @fillE_ptr, @vBox_ept, @fill1_ept, @fillE_ept, @vStore_ept, @vBox_imp, @fill1_imp, @fillE_imp, @vStore_imp, @vBox_sl, @fill1_sl, @fillE_sl, @vStore_sl, @vBox_vsl, @fill1_vsl, @fillE_vsl, @vStore_vsl, @vBox_bsl, @fill1_bsl, @fillE_bsl, @vStore_bsl, @vBox_fn, @fill1_fn, @fillE_fn, @vStore_fn, @vBox_iface, @fill1_iface, @fillE_iface, @vStore_iface, @vStore_ptr, @looksA_nil, @looksA_cons, @cp_nil, @cp_cons, @fa_def, @apart_nil, @apart_cons, @cont_nil, @cont_cons, @rev_nil, @rev_cons, @vBox_agg, @vBuild_some, @fp_nil, @fp_cons, @fpR_some, @fill1_agg, @fe_nil, @fe_cons, @feR_some, @fillE_agg, @vLit_some, @cut_zero, @cut_cons, @cut_succ, @splice_nil, @splice_cons, @splice_succ, @vLoad_ptr, @ld_box, @ld_fbox, @vLoad_imp, @vLoad_ept, @ldv_vec, @ldv_fvec, @lde_some, @ldc_one, @ldc_agg, @vStore_agg, @sto_ptr, @stb_box, @stc_some, @sto_ept, @stv_vec, @stw_some, @stx_some, @vNil_ptr, @vNil_ept, @vNil_imp, @vNil_fn, @negb_f, @negb_t, @vEqv_agg, @eqR_some, @eqCells_nil, @eqCells_cons, @eqK_bool, @eqK_int, @eqK_str, @vEqb_f, @vEqb_t, @eqP_nn, @eqP_np, @eqP_pn, @eqP_ni, @eqP_in, @vConvInt_int, @cvs_some, @vConvStr_sl, @vConvStr_nils, @vConvStr_vsl, @vConvStr_bsl, @vConvBytes_str, @optV_none, @optV_some, @asN_int, @vSliceS_none, @vSliceS_lo, @vSliceS_hi, @vSliceS_both, @vSliceL_def, @slR_lo, @slR_hi, @slR_none, @slR_both, @sliceElems_sl, @sliceElems_bsl, @vSliceA_ptr, @slA_some, @bytes_cut, @bytes_drop, @bytes_take, @bytes_app, @bytes_len, @vFieldAddr_ptr, @vFieldAddr_ept, @vFieldAddr_imp, @vField_agg, @aggR_one, @aggR_agg, @vIndexAddrA_ptr, @vIndexAddrA_imp, @ixs_some, @vIndexAddrL_sl, @vIndexAddrL_bsl, @vIndexS_str, @vLen_sl, @vLen_vsl, @vLen_nils, @vLen_bsl, @vLenS_str, @lenOf_sl, @lenOf_vsl, @lenOf_nils, @lenOf_bsl, @vExtract_tup, @vCap0_nils, @vMax2, @vMin2, @vAppend_def, @elems_nils, @elems_sl, @elems_str, @ap_nils, @hrd_nil, @fz_nil, @fz_cons, @fzR_some, @thaw_int, @thaw_bool, @thaw_str, @thaw_agg, @thaw_tup, @thaw_sl, @thaw_fn, @thaw_imp, @thaw_own_none, @thaw_own_some, @thaw_ownV, @scalar_int, @scalar_bool, @scalar_str, @scalar_own, @resAll_nil, @resC_some, @resAll_cons, @resOf_tmp, @resOf_cell, @rcl_some, @resV_one, @resV_nil, @resV_two, @result_int, @result_bool, @result_str, @result_sl, @result_nils, @result_agg, @result_tup, @result_fn, @result_imp, @result_bsl, @decide_true, @decide_false, @Bool.and_true, @Bool.true_and, @Bool.not_false, @Bool.or_false, @Bool.false_or, @Bool.false_and, @Bool.and_false, @Bool.not_true, @Bool.false_eq_true, @Nat.zero_add, @Nat.add_zero, @Nat.mul_one, @Nat.one_mul, @Nat.zero_mul, @Int.toNat_natCast, @Int.toNat_zero, @Int.toNat_one, @ids_nil, @ids_cons, @add64, @sub64, @neg64, @quo64, @rem64, @wrap_i64_ok, @lss_t, @lss_f, @gtr_t, @gtr_f, @leq_t, @leq_f, @geq_t, @geq_f, @eql_t, @eql_f, @neq_t, @neq_f, @not_b, @str_add, @str_eql, @str_neq, @b_add32, @b_or32, @b_xor32, @b_and32, @u_not32, @b_shl32, @b_shr32, @b_add8, @b_or8, @b_xor8, @b_and8, @u_not8, @b_shr8, @b_add64u, @b_mul64u, @b_or64u, @b_xor64u, @b_and64u, @u_not64u, @b_shl64u, @b_shr64u, @wrap_u8n, @wrap_u32n, @wrap_u64n, @wrap_i64n, @tn_add, @tn_sub, @tn_mul, @tn_div, @tn_mod, @zl32, @zl8, @zl64, @cut_n32, @cut_b8, @cut_i64, @splice_n32, @splice_b8, @splice_i64, @cut_alln, @splice_alln, @scalar_n32, @scalar_b8, @scalar_i64, @bytes_get, @true_and, @and_true, @and_self, @mul64, @upost_normal, @upost_exit, @upost_ret, @upost_panic, @n32_ap, @b8_ap, @i64_ap, @vIndexA_n32, @vIndexA_b8, @vIndexA_i64, @vArrPtr_bsl, @deep_eq, @fr_int, @fr_bool, @fr_str, @fr_nilp, @fr_nils, @fr_nilf, @fr_nili, @fr_imp, @fr_sl, @lk_int, @lk_bool, @lk_str, @lk_nilp, @lk_nils, @lk_nilf, @lk_nili, @lk_imp, @lk_sl, @sv_int, @st_int, @sv_bool, @st_bool, @sv_str, @st_str, @sv_nilp, @st_nilp, @sv_nils, @st_nils, @sv_nilf, @st_nilf, @sv_nili, @st_nili, @sv_sl, @st_sl, @sc_sl, @sv_imp, @st_imp, @sc_imp, @sc_agg, @st_agg, @sc_tup, @sc_fn, @st_n32, @st_b8, @st_i64, @sqR_some, @sq_nil, @sq_cons, @agR_some, @tupR_some, @fnR_some, @fr_aggc, @fr_aggn, @fr_tup, @fr_fn, @fr_n32, @fr_b8, @fr_i64, @lk_n32, @lk_b8, @lk_i64, @lk_agg, @lk_tup, @lk_fn, @Bool.and_self, @splice_all, @psh_free, @psh_draw, @panOut_plain, @panOut_free, @panOut_draw, @on_ok1, @on_okV1, @e2_ap, @eput_e2, @jk_ap, @opg_tt, @opg_ff, @opg_tf, @opg_ft, @el_vsl, @elv_vec, @elv_fvec, @drop_all0, @take_all, @el_bsl, @elb_b8, @elb_b8f, @sl_vsl, @slv_vec, @slv_fvec, @sl_nils, @ix_vsl, @ixv_vec, @ixv_fvec, @ap_v, @apv_vec0, @apv_vec1, @ap_nils0, @bytes_snoc, @vIlit_def, @ilR_some, @nlR_some, @nrR_some, @nll_nil, @nll_cons, @nl_nil, @nl_cons, @nr_nils, @nr_int, @nr_bool, @nr_str, @nr_nilp, @nr_nilf, @nr_nili, @nr_imp, @nr_sl, @fr_v, @vecOf_vec, @frv_vec, @frv_fvec, @sq_bytes, @sq_nilL, @boxOf_box, @fr_b, @frb_b8, @frb_b8f, @sq_b8, @sq_n32, @fr_p, @frp_box, @frp_fbox, @lk_v, @lkv_bytes, @lkv_fvec, @lk_b, @lk_p, @lkb_box, @lkb_fbox, @fm_b8, @fm_n32, @result_v, @rsv_bytes, @vMake_ok, @vCopy_bsl, @cpR_bytes0, @cpc_some, @lit8, @lit32, @lit64, @b_rem64u, @b_quo64u, @rowP_fold, @rowP_ne, @rap, @rap1, @vLen_row, @lenOf_row, @elems_row, @vConvStr_row, @ix_row, @finR_rowb, @fr_rowb, @cvs_one, @strs_len, @strs_get, @strs_cut, @ofNat_toNat8, @bytes_snocN, @vConvSl_def, @cvS_vec⟩
end Go.Proofs.YtoccgkgdhobmfaaDoor.Am.Ru
